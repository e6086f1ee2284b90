/- What these functions compute, at every world: equal.base, equal.fun, equal.con, equal.bound, equal.abs, equal.app, equal.quantified, equal.meanings; and plain laws. -/
import Derived.Test.YtiofaflajkgiaaaGreatDoorU
import Derived.Test.YtiofaflajkgiaaaGreatDoorZst
import Derived.Test.YtiofaflajkgiaaaGreatDoorLxd
import Derived.Test.YtiofaflajkgiaaaGreatDoorDHo
namespace Go.Proofs.YtiofaflajkgiaaaGreatDoor
open Go.RowKit Go.Proofs.Tryz
set_option maxHeartbeats 8000000
set_option maxRecDepth 100000
theorem xq:(prog.info? 31).map (·.size)=some 2:=by kernel_rfl
theorem jw:(prog.info? 34).map (·.size)=some 6:=by kernel_rfl
theorem j5:(prog.info? 31).map (·.zero)=some (some (.agg #[.string ⟨#[]⟩,.slice none 0 0])):=by kernel_rfl
theorem gw:(prog.info? 34).map (·.zero)=some (some (.agg #[.int .i64 0,.string ⟨#[]⟩,.int .i64 0,.string ⟨#[]⟩,.slice none 0 0,.slice none 0 0])):=by kernel_rfl
theorem Zz(s:ByteArray)(w:World):Calls prog 18 #[.string s] w fun e w'=>e= .returned (.agg #[.string s,.slice none 0 0])/\Bel w w':=by
 refine enT func18 ntmps18 rfl rfl fun hB=>?_;refine zn2 ?_;refine qk (cs:=#[.string ⟨#[]⟩,.slice none 0 0]) j5 rfl (fun b2 w1 a1 s1 hr=>?_);have lo2:=nLT (Bel.size hB) hr;refine zn5 ?_;refine wl (ZY (v0:= .string _) (fun v0=>#[v0,.slice none 0 0]) rfl kR) ?_;refine zk a1 rfl rfl xq rfl zJ (fun w2 hq s2=>?_);replace a1:=hq;refine zn3 ?_;refine yx (.inl rfl) rfl (zZ U31 rfl rfl a1.range0 xq) ?_;exact⟨rfl,hB.u⟩
theorem Q0(X:List Nat)(a b:Ts)(A1 A2:Option Addr)(c1 c2 n1 n2:Nat)(w:World)(hX:∀ x∈X,x<w.heap.size)(h1:Fz X n1 TS w (fun w=>SimsIn w A1 (a).sm.args))(h2:Fz X n2 TS w (fun w=>SimsIn w A2 (b).sm.args)):Calls prog 19 #[.agg #[.string (a).sm.base,.slice A1 (a).sm.args.length c1],.agg #[.string (b).sm.base,.slice A2 (b).sm.args.length c2]] w fun e w'=>(∃ z,e= .returned z/\SmD X (.f a b) w' z)/\Bel w w':=by
 refine enT func19 ntmps19 rfl rfl fun hB=>?_;refine zn2 ?_;refine qY (v:= .agg #[_,_]) (cs:=#[_,_]) rfl rfl (fun b2 w1 hb2 s1 hr=>?_);refine qY (v:= .agg #[_,_]) (cs:=#[_,_]) rfl rfl (fun b3 w2 hb3 s2 hr=>?_);refine qk (cs:=#[.string ⟨#[]⟩,.slice none 0 0]) j5 rfl (fun b4 w3 a1 s3 hr=>?_);have lo4:=nLT (Bel.size hB.u) hr;refine zn6 ?_;refine qv (cs:=#[_,_,_,_]) [(0,.agg _),(1,.agg _)] rfl U29 xq j5 dE dE kR rfl (fun b7 w4 a2 s4 hr=>?_);have:=nLL a1.lt hr;refine wl (ZY (v0:= .slice _ _ _) (fun v0=>#[.string ⟨#[]⟩,v0]) rfl kR) ?_;refine zk a1.u rfl rfl xq rfl zJ (fun w5 hq s5=>?_);replace a1:=hq;refine zn3 ?_;refine yx (.inl rfl) rfl (zZ U31 rfl rfl a1.range0 xq) ?_;replace hB:=(hB.tr0 (s1.t (s2.t (s3.t s4)))).tr1 s5 lo4;replace a2:=a2.tr1 s5 oG;exact⟨⟨_,rfl,SmD.two a2 (fun hm=>by have:=hX _ hm;omega) (h1.bel hB) (h2.bel hB)⟩,hB⟩
theorem gJ(X:List Nat)(nm:ByteArray)(a:Ts)(A1:Option Addr)(c1 n1:Nat)(w:World)(h1:Fz X n1 TS w (fun w=>SimsIn w A1 (a).sm.args)):Calls prog 25 #[.string nm,.agg #[.string (a).sm.base,.slice A1 (a).sm.args.length c1]] w fun e w'=>(∃ z,e= .returned z/\TmD X (.con nm a) w' z)/\Bel w w':=by
 refine enT func25 ntmps25 rfl rfl fun hB=>?_;refine zn2 ?_;refine qY (v:= .agg #[_,_]) (cs:=#[_,_]) rfl rfl (fun b3 w1 hb3 s1 hr=>?_);refine qk (cs:=#[.int .i64 0,.string ⟨#[]⟩,.int .i64 0,.string ⟨#[]⟩,.slice none 0 0,.slice none 0 0]) gw rfl (fun b4 w2 a1 s2 hr=>?_);have lo4:=nLT (Bel.size hB.u) hr;refine zn6 ?_;refine wl (IV (v0:= .int _ _) (v1:= .string _) (v2:= .agg _) (fun v0 v1 v2=>#[v0,v1,.int .i64 0,(qz v2 0),(qz v2 1),.slice none 0 0]) rfl rfl rfl kR) ?_;refine zk a1 rfl rfl jw rfl zJ (fun w3 hq s3=>?_);replace a1:=hq;refine zn3 ?_;refine yx (.inl rfl) rfl (zZ U34 rfl rfl a1.range0 jw) ?_;exact⟨⟨_,rfl,TmD.con nm (h1.bel hB.u)⟩,hB.u⟩
theorem j7(X:List Nat)(i:Nat)(w:World):Calls prog 28 #[.int .i64 ((i:Nat):Int)] w fun e w'=>(∃ z,e= .returned z/\TmD X (.var i) w' z)/\Bel w w':=by
 refine enT func28 ntmps28 rfl rfl fun hB=>?_;refine zn2 ?_;refine qk (cs:=#[.int .i64 0,.string ⟨#[]⟩,.int .i64 0,.string ⟨#[]⟩,.slice none 0 0,.slice none 0 0]) gw rfl (fun b2 w1 a1 s1 hr=>?_);have lo2:=nLT (Bel.size hB) hr;refine zn5 ?_;refine wl (jk (v0:= .int _ _) (v1:= .int _ _) (fun v0 v1=>#[v0,.string ⟨#[]⟩,v1,.string ⟨#[]⟩,.slice none 0 0,.slice none 0 0]) rfl rfl kR) ?_;refine zk a1 rfl rfl jw rfl zJ (fun w2 hq s2=>?_);replace a1:=hq;refine zn3 ?_;refine yx (.inl rfl) rfl (zZ U34 rfl rfl a1.range0 jw) ?_;exact⟨⟨_,rfl,TmD.var i⟩,hB.u⟩
theorem oX(X:List Nat)(a:Ts)(x:Tv)(A1 S2 B2:Option Addr)(c1 n1 c2 m2 n2:Nat)(w:World)(hX:∀ x∈X,x<w.heap.size)(h1:Fz X n1 TS w (fun w=>SimsIn w A1 (a).sm.args))(h2:Fz X n2 TS w (fun w=>SimsIn w S2 (x).tm.type.args/\TmsIn w B2 (x).tm.args)):Calls prog 26 #[.agg #[.string (a).sm.base,.slice A1 (a).sm.args.length c1],.agg #[.int .i64 (x).tm.kind,.string (x).tm.name,.int .i64 (x).tm.index,.string (x).tm.type.base,.slice S2 (x).tm.type.args.length c2,.slice B2 (x).tm.args.length m2]] w fun e w'=>(∃ z,e= .returned z/\TmD X (.abs a x) w' z)/\Bel w w':=by
 refine enT func26 ntmps26 rfl rfl fun hB=>?_;refine zn2 ?_;refine qY (v:= .agg #[_,_]) (cs:=#[_,_]) rfl rfl (fun b2 w1 hb2 s1 hr=>?_);refine qY (v:= .agg #[_,_,_,_,_,_]) (cs:=#[_,_,_,_,_,_]) rfl rfl (fun b3 w2 hb3 s2 hr=>?_);refine qk (cs:=#[.int .i64 0,.string ⟨#[]⟩,.int .i64 0,.string ⟨#[]⟩,.slice none 0 0,.slice none 0 0]) gw rfl (fun b4 w3 a1 s3 hr=>?_);have lo4:=nLT (Bel.size hB.u) hr;refine zn6 ?_;refine qv (cs:=#[_,_,_,_,_,_]) [(0,.agg _)] rfl U32 jw gw dE dE kR rfl (fun b7 w4 a2 s4 hr=>?_);have:=nLL a1.lt hr;refine wl (IV (v0:= .int _ _) (v1:= .agg _) (v2:= .slice _ _ _) (fun v0 v1 v2=>#[v0,.string ⟨#[]⟩,.int .i64 0,(qz v1 0),(qz v1 1),v2]) rfl rfl rfl kR) ?_;refine zk a1.u rfl rfl jw rfl zJ (fun w5 hq s5=>?_);replace a1:=hq;refine zn3 ?_;refine yx (.inl rfl) rfl (zZ U34 rfl rfl a1.range0 jw) ?_;replace hB:=(hB.tr0 (s1.t (s2.t (s3.t s4)))).tr1 s5 lo4;replace a2:=a2.tr1 s5 oG;exact⟨⟨_,rfl,TmD.abs (h1.bel hB) a2 (fun hm=>by have:=hX _ hm;omega) (h2.bel hB)⟩,hB⟩
theorem ZW(X:List Nat)(x y:Tv)(S1 B1 S2 B2:Option Addr)(c1 m1 n1 c2 m2 n2:Nat)(w:World)(hX:∀ x∈X,x<w.heap.size)(h1:Fz X n1 TS w (fun w=>SimsIn w S1 (x).tm.type.args/\TmsIn w B1 (x).tm.args))(h2:Fz X n2 TS w (fun w=>SimsIn w S2 (y).tm.type.args/\TmsIn w B2 (y).tm.args)):Calls prog 27 #[.agg #[.int .i64 (x).tm.kind,.string (x).tm.name,.int .i64 (x).tm.index,.string (x).tm.type.base,.slice S1 (x).tm.type.args.length c1,.slice B1 (x).tm.args.length m1],.agg #[.int .i64 (y).tm.kind,.string (y).tm.name,.int .i64 (y).tm.index,.string (y).tm.type.base,.slice S2 (y).tm.type.args.length c2,.slice B2 (y).tm.args.length m2]] w fun e w'=>(∃ z,e= .returned z/\TmD X (.app x y) w' z)/\Bel w w':=by
 refine enT func27 ntmps27 rfl rfl fun hB=>?_;refine zn2 ?_;refine qY (v:= .agg #[_,_,_,_,_,_]) (cs:=#[_,_,_,_,_,_]) rfl rfl (fun b2 w1 hb2 s1 hr=>?_);refine qY (v:= .agg #[_,_,_,_,_,_]) (cs:=#[_,_,_,_,_,_]) rfl rfl (fun b3 w2 hb3 s2 hr=>?_);refine qk (cs:=#[.int .i64 0,.string ⟨#[]⟩,.int .i64 0,.string ⟨#[]⟩,.slice none 0 0,.slice none 0 0]) gw rfl (fun b4 w3 a1 s3 hr=>?_);have lo4:=nLT (Bel.size hB.u) hr;refine zn6 ?_;refine qv (cs:=#[_,_,_,_,_,_,_,_,_,_,_,_]) [(0,.agg _),(1,.agg _)] rfl U32 jw gw dE dE kR rfl (fun b7 w4 a2 s4 hr=>?_);have:=nLL a1.lt hr;refine wl (jk (v0:= .int _ _) (v1:= .slice _ _ _) (fun v0 v1=>#[v0,.string ⟨#[]⟩,.int .i64 0,.string ⟨#[]⟩,.slice none 0 0,v1]) rfl rfl kR) ?_;refine zk a1.u rfl rfl jw rfl zJ (fun w5 hq s5=>?_);replace a1:=hq;refine zn3 ?_;refine yx (.inl rfl) rfl (zZ U34 rfl rfl a1.range0 jw) ?_;replace hB:=(hB.tr0 (s1.t (s2.t (s3.t s4)))).tr1 s5 lo4;replace a2:=a2.tr1 s5 oG;exact⟨⟨_,rfl,TmD.app a2 (fun hm=>by have:=hX _ hm;omega) (h1.bel hB) (h2.bel hB)⟩,hB⟩
def qN19(s1 s2:ByteArray):Ts:=(fun _=>(Ts.f (Ts.f (Ts.b false) (Ts.b true)) (Ts.b true))) (s1,s2)
def qN20(s1 s2:ByteArray):Tv:=(Tv.con s1 (qN19 s1 s2))
def qN26(s1 s2:ByteArray):Ts:=(fun _=>(Ts.f (Ts.b true) (Ts.b true))) (s1,s2)
def qN27(s1 s2:ByteArray):Ts:=(Ts.f (Ts.b true) (qN26 s1 s2))
def qN28(s1 s2:ByteArray):Tv:=(Tv.con s2 (qN27 s1 s2))
def qN29(s1 s2:ByteArray):Tv:=(fun _=>(Tv.var 2)) (s1,s2)
def qN30(s1 s2:ByteArray):Tv:=(fun _=>(Tv.var 0)) (s1,s2)
def qN31(s1 s2:ByteArray):Tv:=(Tv.app (qN29 s1 s2) (qN30 s1 s2))
def qN32(s1 s2:ByteArray):Tv:=(Tv.app (qN28 s1 s2) (qN31 s1 s2))
def qN33(s1 s2:ByteArray):Tv:=(fun _=>(Tv.var 1)) (s1,s2)
def qN34(s1 s2:ByteArray):Tv:=(fun _=>(Tv.var 0)) (s1,s2)
def qN35(s1 s2:ByteArray):Tv:=(Tv.app (qN33 s1 s2) (qN34 s1 s2))
def qN36(s1 s2:ByteArray):Tv:=(Tv.app (qN32 s1 s2) (qN35 s1 s2))
def qN37(s1 s2:ByteArray):Tv:=(Tv.abs (Ts.b false) (qN36 s1 s2))
def EV(s1 s2:ByteArray):Tv:=(Tv.app (qN20 s1 s2) (qN37 s1 s2))
def qM49(s1 s2:ByteArray):Tv:=(Tv.abs (Ts.f (Ts.b false) (Ts.b true)) (EV s1 s2))
def qM50(s1 s2:ByteArray):Tv:=(Tv.abs (Ts.f (Ts.b false) (Ts.b true)) (qM49 s1 s2))
def qY42(s1 s2:ByteArray):Ts:=(fun _=>(Ts.f (Ts.b true) (Ts.b true))) (s1,s2)
def qY43(s1 s2:ByteArray):Tv:=(Tv.con ⟨#[110,111,116]⟩ (qY42 s1 s2))
def qY45(s1 s2:ByteArray):Tv:=(Tv.app (qY43 s1 s2) (EV s1 s2))
def qY49(s1 s2:ByteArray):Tv:=(Tv.abs (Ts.f (Ts.b false) (Ts.b true)) (qY45 s1 s2))
def qY50(s1 s2:ByteArray):Tv:=(Tv.abs (Ts.f (Ts.b false) (Ts.b true)) (qY49 s1 s2))
def quN(s1 s2:ByteArray):Tv:=(qM50 s1 s2)
def quY(s1 s2:ByteArray):Tv:=(qY50 s1 s2)
def QuR(s1 s2:ByteArray)(wc:World)(v:Value)(w':World):Prop:=∃ b10 S38 c38 B38 m38 n38,v= .pointer (some ⟨b10,0,none⟩)/\wc.heap.size<=b10/\Blk w' b10 34 #[.int .i64 ((EV s1 s2)).tm.kind,.string ((EV s1 s2)).tm.name,.int .i64 ((EV s1 s2)).tm.index,.string ((EV s1 s2)).tm.type.base,.slice S38 ((EV s1 s2)).tm.type.args.length c38,.slice B38 ((EV s1 s2)).tm.args.length m38]/\Fz [b10] n38 TS w' (fun w=>SimsIn w S38 ((EV s1 s2)).tm.type.args/\TmsIn w B38 ((EV s1 s2)).tm.args)
theorem Same.new10{b:Nat}{w w1 w2:World}(h:Same [] w w1)(hs:Same [b] w1 w2)(hb:w.heap.size<=b):Same [] w w2:=
 ⟨hs.os.trans h.os,hs.tape.trans h.tape,hs.output.trans h.output,nLT h.size hs.size,fun k hk _=>by
  rw[hs.blk k (nLL hk h.size) (by simp;omega)];exact h.blk k hk (by simp)⟩
theorem Hx:zX prog 18=true:=by kernel_rfl
theorem Jy:zX prog 19=true:=by kernel_rfl
theorem Yy:zX prog 25=true:=by kernel_rfl
theorem XK:zX prog 26=true:=by kernel_rfl
theorem J4:zX prog 27=true:=by kernel_rfl
theorem XJ:zX prog 28=true:=by kernel_rfl
theorem qu_r3{wc:World}{b7 b8 b9 c15 n15:Nat}{c2:Option Addr}(s1 s2:ByteArray)(hb7:Blk wc b7 31 #[.string ⟨#[101]⟩,.slice none 0 0])(bb:Blk wc b8 31 #[.string ⟨#[116]⟩,.slice none 0 0])(hb9:Blk wc b9 31 #[.string ((Ts.f (Ts.b false) (Ts.b true))).sm.base,.slice c2 ((Ts.f (Ts.b false) (Ts.b true))).sm.args.length c15])(ba:Fz [] n15 TS wc (fun w=>SimsIn w c2 ((Ts.f (Ts.b false) (Ts.b true))).sm.args))(f:Fr)(Q:Exit->Act->World->Prop)(k0:f 0= .string s1)(k1:f 1= .string s2)(k7:f 7= .pointer (some ⟨b7,0,none⟩))(k8:f 8= .pointer (some ⟨b8,0,none⟩))(k9:f 9= .pointer (some ⟨b9,0,none⟩))(hPQ:PQ Q):WC prog (sl (sr (sr (sr (ob Tryz.f24.body))))) (QRS 51 [10,16,17,18,19,20,21,22,23,24,25,26,27,28,29,30,31,32,33,34,35,36,37,38] f (fun g w'=>Same [] wc w'/\QuR s1 s2 wc (g 10) w') Q) 51 f wc:=by
 have hZ:Same [] wc wc:=Same.refl _ _;refine zK 0 _ k0 nu (zK 1 _ k1 nu (zK 7 _ k7 nu (zK 8 _ k8 nu (zK 9 _ k9 nu ?_))));have z7:=hb7.lt;have z8:=bb.lt;have z9:=hb9.lt;refine uw 24 [16,17,18,19,20,21,22,23,24,25,26,27,28,29,30,31,32,33,34,35,36,37,38,10] (fun ix=>Nat.beq ix 23) (fun ix v wv=>match ix with|0=>v= .string s1|1=>v= .agg #[.string ((Ts.f (Ts.b false) (Ts.b true))).sm.base,.slice c2 ((Ts.f (Ts.b false) (Ts.b true))).sm.args.length c15]|2=>v= .agg #[.string ((Ts.b true)).sm.base,.slice none ((Ts.b true)).sm.args.length 0]|3=>SmD [] (qN19 s1 s2) wv (v)|4=>TmD [] (qN20 s1 s2) wv (v)|5=>v= .agg #[.string ((Ts.b false)).sm.base,.slice none ((Ts.b false)).sm.args.length 0]|6=>v= .string s2|7=>v= .agg #[.string ((Ts.b true)).sm.base,.slice none ((Ts.b true)).sm.args.length 0]|8=>v= .agg #[.string ((Ts.b true)).sm.base,.slice none ((Ts.b true)).sm.args.length 0]|9=>v= .agg #[.string ((Ts.b true)).sm.base,.slice none ((Ts.b true)).sm.args.length 0]|10=>SmD [] (qN26 s1 s2) wv (v)|11=>SmD [] (qN27 s1 s2) wv (v)|12=>TmD [] (qN28 s1 s2) wv (v)|13=>TmD [] (qN29 s1 s2) wv (v)|14=>TmD [] (qN30 s1 s2) wv (v)|15=>TmD [] (qN31 s1 s2) wv (v)|16=>TmD [] (qN32 s1 s2) wv (v)|17=>TmD [] (qN33 s1 s2) wv (v)|18=>TmD [] (qN34 s1 s2) wv (v)|19=>TmD [] (qN35 s1 s2) wv (v)|20=>TmD [] (qN36 s1 s2) wv (v)|21=>TmD [] (qN37 s1 s2) wv (v)|22=>TmD [] (EV s1 s2) wv (v)|23=>∃ b,v= .pointer (some ⟨b,0,none⟩)/\wc.heap.size<=b/\Blk wv b 34 #[.int .i64 0,.string ⟨#[]⟩,.int .i64 0,.string ⟨#[]⟩,.slice none 0 0,.slice none 0 0]|_=>True) kR kR ?_ ?_ ?_
 ·intro ix v wv wv2 h t1
  match ix,h with
  | 0,h=>exact h
  | 1,h=>exact h
  | 2,h=>exact h
  | 3,h=>
   obtain⟨A19,c19,n19,bw,b6⟩:=h;exact⟨A19,c19,n19,bw,b6.tr0 t1⟩
  | 4,h=>
   obtain⟨S20,c20,B20,m20,n20,bv,b5⟩:=h;exact⟨S20,c20,B20,m20,n20,bv,b5.tr0 t1⟩
  | 5,h=>exact h
  | 6,h=>exact h
  | 7,h=>exact h
  | 8,h=>exact h
  | 9,h=>exact h
  | 10,h=>
   obtain⟨A26,c26,n26,bu,b4⟩:=h;exact⟨A26,c26,n26,bu,b4.tr0 t1⟩
  | 11,h=>
   obtain⟨A27,c27,n27,bt,b3⟩:=h;exact⟨A27,c27,n27,bt,b3.tr0 t1⟩
  | 12,h=>
   obtain⟨S28,c28,B28,m28,n28,br,b2⟩:=h;exact⟨S28,c28,B28,m28,n28,br,b2.tr0 t1⟩
  | 13,h=>
   obtain⟨S29,c29,B29,m29,n29,bq,b1⟩:=h;exact⟨S29,c29,B29,m29,n29,bq,b1.tr0 t1⟩
  | 14,h=>
   obtain⟨S30,c30,B30,m30,n30,bo,an⟩:=h;exact⟨S30,c30,B30,m30,n30,bo,an.tr0 t1⟩
  | 15,h=>
   obtain⟨S31,c31,B31,m31,n31,bn,ad⟩:=h;exact⟨S31,c31,B31,m31,n31,bn,ad.tr0 t1⟩
  | 16,h=>
   obtain⟨S32,c32,B32,m32,n32,bm,a9⟩:=h;exact⟨S32,c32,B32,m32,n32,bm,a9.tr0 t1⟩
  | 17,h=>
   obtain⟨S33,c33,B33,m33,n33,bk,a8⟩:=h;exact⟨S33,c33,B33,m33,n33,bk,a8.tr0 t1⟩
  | 18,h=>
   obtain⟨S34,c34,B34,m34,n34,bj,a7⟩:=h;exact⟨S34,c34,B34,m34,n34,bj,a7.tr0 t1⟩
  | 19,h=>
   obtain⟨S35,c35,B35,m35,n35,bi,a6⟩:=h;exact⟨S35,c35,B35,m35,n35,bi,a6.tr0 t1⟩
  | 20,h=>
   obtain⟨S36,c36,B36,m36,n36,bh,a5⟩:=h;exact⟨S36,c36,B36,m36,n36,bh,a5.tr0 t1⟩
  | 21,h=>
   obtain⟨S37,c37,B37,m37,n37,bg,a4⟩:=h;exact⟨S37,c37,B37,m37,n37,bg,a4.tr0 t1⟩
  | 22,h=>
   obtain⟨c0,bz,c1,bd,n38,bf,a2⟩:=h;exact⟨c0,bz,c1,bd,n38,bf,a2.tr0 t1⟩
  | 23,h=>
   obtain⟨bc,bx,a3,a1⟩:=h;exact⟨bc,bx,a3,a1.tr0 t1⟩
  | _+24,h=>exact trivial
 ·intro ix o hix hoq gg wx t2 hd be
  match ix,hix,hoq with
  | 0,_,hoq=>
   cases sI hoq;exact oVq (xz (v:= .string _) rfl) rfl
  | 1,_,hoq=>
   cases sI hoq;exact oVq (qZ U31 rfl rfl hb9.u.range0 xq) rfl
  | 2,_,hoq=>
   cases sI hoq;exact oVq (qZ U31 rfl rfl bb.u.range0 xq) rfl
  | 3,_,hoq=>
   cases sI hoq;refine aW 17 (hd 1 aX) (aW 18 (hd 2 aX) ?_);replace ba:=ba.tr0 t2;refine vw Jy (Q0 [] (Ts.f (Ts.b false) (Ts.b true)) (Ts.b true) _ _ _ _ _ _ wx (by simp) ba (Fz.triv _ _ TS (fun _=>SimsIn.nil))) rfl (fun e' w2 hr=>?_);obtain⟨⟨_,rfl,hd⟩,t3⟩:=hr;exact⟨_,rfl,sB t3,hd,xQ⟩
  | 4,_,hoq=>
   cases sI hoq;obtain⟨A19,c19,n19,bw,b6⟩:=hd 3 (zj kR);refine aW 16 (hd 0 aX) (zz 19 _ bw nu ?_);refine vw Yy (gJ [] s1 (qN19 s1 s2) _ _ _ wx b6) rfl (fun e' w2 hr=>?_);obtain⟨⟨_,rfl,hd⟩,t4⟩:=hr;exact⟨_,rfl,sB t4,hd,xQ⟩
  | 5,_,hoq=>
   cases sI hoq;exact oVq (qZ U31 rfl rfl hb7.u.range0 xq) rfl
  | 6,_,hoq=>
   cases sI hoq;exact oVq (xz (v:= .string _) rfl) rfl
  | 7,_,hoq=>
   cases sI hoq;exact oVq (qZ U31 rfl rfl bb.u.range0 xq) rfl
  | 8,_,hoq=>
   cases sI hoq;exact oVq (qZ U31 rfl rfl bb.u.range0 xq) rfl
  | 9,_,hoq=>
   cases sI hoq;exact oVq (qZ U31 rfl rfl bb.u.range0 xq) rfl
  | 10,_,hoq=>
   cases sI hoq;refine aW 24 (hd 8 aX) (aW 25 (hd 9 aX) ?_);refine vw Jy (Q0 [] (Ts.b true) (Ts.b true) _ _ _ _ _ _ wx (by simp) (Fz.triv _ _ TS (fun _=>SimsIn.nil)) (Fz.triv _ _ TS (fun _=>SimsIn.nil))) rfl (fun e' w2 hr=>?_);obtain⟨⟨_,rfl,hd⟩,t5⟩:=hr;exact⟨_,rfl,sB t5,hd,xQ⟩
  | 11,_,hoq=>
   cases sI hoq;obtain⟨A26,c26,n26,bu,b4⟩:=hd 10 (zj kR);refine aW 23 (hd 7 aX) (zz 26 _ bu nu ?_);refine vw Jy (Q0 [] (Ts.b true) (qN26 s1 s2) _ _ _ _ _ _ wx (by simp) (Fz.triv _ _ TS (fun _=>SimsIn.nil)) b4) rfl (fun e' w2 hr=>?_);obtain⟨⟨_,rfl,hd⟩,t6⟩:=hr;exact⟨_,rfl,sB t6,hd,xQ⟩
  | 12,_,hoq=>
   cases sI hoq;obtain⟨A27,c27,n27,bt,b3⟩:=hd 11 (zj kR);refine aW 22 (hd 6 aX) (zz 27 _ bt nu ?_);refine vw Yy (gJ [] s2 (qN27 s1 s2) _ _ _ wx b3) rfl (fun e' w2 hr=>?_);obtain⟨⟨_,rfl,hd⟩,t7⟩:=hr;exact⟨_,rfl,sB t7,hd,xQ⟩
  | 13,_,hoq=>
   cases sI hoq;refine vw XJ (j7 [] 2 wx) rfl (fun e' w2 hr=>?_);obtain⟨⟨_,rfl,hd⟩,t8⟩:=hr;exact⟨_,rfl,sB t8,hd,xQ⟩
  | 14,_,hoq=>
   cases sI hoq;refine vw XJ (j7 [] 0 wx) rfl (fun e' w2 hr=>?_);obtain⟨⟨_,rfl,hd⟩,t9⟩:=hr;exact⟨_,rfl,sB t9,hd,xQ⟩
  | 15,_,hoq=>
   cases sI hoq;obtain⟨S29,c29,B29,m29,n29,bq,b1⟩:=hd 13 (zj kR);obtain⟨S30,c30,B30,m30,n30,bo,an⟩:=hd 14 (zj kR);refine zz 29 _ bq nu (zz 30 _ bo nu ?_);refine vw J4 (ZW [] (qN29 s1 s2) (qN30 s1 s2) _ _ _ _ _ _ _ _ _ _ wx (by simp) b1 an) rfl (fun e' w2 hr=>?_);obtain⟨⟨_,rfl,hd⟩,t10⟩:=hr;exact⟨_,rfl,sB t10,hd,xQ⟩
  | 16,_,hoq=>
   cases sI hoq;obtain⟨S28,c28,B28,m28,n28,br,b2⟩:=hd 12 (zj kR);obtain⟨S31,c31,B31,m31,n31,bn,ad⟩:=hd 15 (zj kR);refine zz 28 _ br nu (zz 31 _ bn nu ?_);refine vw J4 (ZW [] (qN28 s1 s2) (qN31 s1 s2) _ _ _ _ _ _ _ _ _ _ wx (by simp) b2 ad) rfl (fun e' w2 hr=>?_);obtain⟨⟨_,rfl,hd⟩,t11⟩:=hr;exact⟨_,rfl,sB t11,hd,xQ⟩
  | 17,_,hoq=>
   cases sI hoq;refine vw XJ (j7 [] 1 wx) rfl (fun e' w2 hr=>?_);obtain⟨⟨_,rfl,hd⟩,t12⟩:=hr;exact⟨_,rfl,sB t12,hd,xQ⟩
  | 18,_,hoq=>
   cases sI hoq;refine vw XJ (j7 [] 0 wx) rfl (fun e' w2 hr=>?_);obtain⟨⟨_,rfl,hd⟩,t13⟩:=hr;exact⟨_,rfl,sB t13,hd,xQ⟩
  | 19,_,hoq=>
   cases sI hoq;obtain⟨S33,c33,B33,m33,n33,bk,a8⟩:=hd 17 (zj kR);obtain⟨S34,c34,B34,m34,n34,bj,a7⟩:=hd 18 (zj kR);refine zz 33 _ bk nu (zz 34 _ bj nu ?_);refine vw J4 (ZW [] (qN33 s1 s2) (qN34 s1 s2) _ _ _ _ _ _ _ _ _ _ wx (by simp) a8 a7) rfl (fun e' w2 hr=>?_);obtain⟨⟨_,rfl,hd⟩,t14⟩:=hr;exact⟨_,rfl,sB t14,hd,xQ⟩
  | 20,_,hoq=>
   cases sI hoq;obtain⟨S32,c32,B32,m32,n32,bm,a9⟩:=hd 16 (zj kR);obtain⟨S35,c35,B35,m35,n35,bi,a6⟩:=hd 19 (zj kR);refine zz 32 _ bm nu (zz 35 _ bi nu ?_);refine vw J4 (ZW [] (qN32 s1 s2) (qN35 s1 s2) _ _ _ _ _ _ _ _ _ _ wx (by simp) a9 a6) rfl (fun e' w2 hr=>?_);obtain⟨⟨_,rfl,hd⟩,t15⟩:=hr;exact⟨_,rfl,sB t15,hd,xQ⟩
  | 21,_,hoq=>
   cases sI hoq;obtain⟨S36,c36,B36,m36,n36,bh,a5⟩:=hd 20 (zj kR);refine aW 21 (hd 5 aX) (zz 36 _ bh nu ?_);refine vw XK (oX [] (Ts.b false) (qN36 s1 s2) _ _ _ _ _ _ _ _ wx (by simp) (Fz.triv _ _ TS (fun _=>SimsIn.nil)) a5) rfl (fun e' w2 hr=>?_);obtain⟨⟨_,rfl,hd⟩,t16⟩:=hr;exact⟨_,rfl,sB t16,hd,xQ⟩
  | 22,_,hoq=>
   cases sI hoq;obtain⟨S20,c20,B20,m20,n20,bv,b5⟩:=hd 4 (zj kR);obtain⟨S37,c37,B37,m37,n37,bg,a4⟩:=hd 21 (zj kR);refine zz 20 _ bv nu (zz 37 _ bg nu ?_);refine vw J4 (ZW [] (qN20 s1 s2) (qN37 s1 s2) _ _ _ _ _ _ _ _ _ _ wx (by simp) b5 a4) rfl (fun e' w2 hr=>?_);obtain⟨⟨_,rfl,hd⟩,t17⟩:=hr;exact⟨_,rfl,sB t17,hd,xQ⟩
  | 23,_,hoq=>
   cases sI hoq;have hs0:=t2;refine jZ (fun ops Q K=>?_);refine qk (cs:=#[.int .i64 0,.string ⟨#[]⟩,.int .i64 0,.string ⟨#[]⟩,.slice none 0 0,.slice none 0 0]) gw rfl (fun bc w1 a1 t18 hr=>?_);exact K _ _ ⟨t18,⟨_,rfl,nLT hs0.size hr,a1⟩,fRq hr a1.lt⟩
  | _+24,hix,_=>exact absurd hix oG
 intro gg w2 t19 hR be;obtain⟨c0,bz,c1,bd,n38,bf,a2⟩:=hR 22 dE;obtain⟨bc,bx,a3,a1⟩:=hR 23 dE;refine x9 38 _ bf nu (x9 10 _ bx nu ?_);refine zk a1 rfl rfl jw rfl zJ (fun w3 hq t20=>?_);replace hZ:=hZ.trans t19;replace hZ:=hZ.new10 t20 a3;replace a2:=a2.free t20 a1 sp_tm;replace a1:=hq;refine zQ ?_;refine e_R ⟨agA,?_⟩;exact⟨hZ,bc,c0,bz,c1,bd,_,rfl,a3,a1,a2⟩
theorem quN_d(s1 s2:ByteArray)(w:World):Calls prog 24 #[.string s1,.string s2,.bool false] w fun e w'=>(∃ z,e= .returned z/\TmD [] (quN s1 s2) w' z)/\Bel w w':=by
 refine enT func24 ntmps24 rfl rfl fun hB=>?_;refine zn2 ?_;refine qk (cs:=#[.int .i64 0,.string ⟨#[]⟩,.int .i64 0,.string ⟨#[]⟩,.slice none 0 0,.slice none 0 0]) gw rfl (fun b6 w1 a3 t1 hr=>?_);have lo6:=nLT (Bel.size hB) hr;refine zn4 ?_;refine zW Hx (Zz _ _) rfl (fun e' w2 hr=>?_);obtain⟨rfl,t2⟩:=hr;replace t2:=sB t2;refine⟨_,rfl,?_⟩;refine zW Hx (Zz _ _) rfl (fun e' w3 hr=>?_);obtain⟨rfl,t3⟩:=hr;replace t3:=sB t3;refine⟨_,rfl,?_⟩;refine qk (cs:=#[.string ⟨#[]⟩,.slice none 0 0]) j5 rfl (fun b7 w4 a7 t4 hr=>?_);have:=nLL a3.u.lt hr;have lo7:=nLT (Bel.size hB.u) hr;refine qk (cs:=#[.string ⟨#[]⟩,.slice none 0 0]) j5 rfl (fun b8 w5 a9 t5 hr=>?_);have:=nLL a3.u.lt hr;have:=nLL a7.lt hr;have lo8:=nLT (Bel.size hB.u) hr;refine zk a7.u rfl rfl xq rfl zJ (fun w6 hq t6=>?_);replace a7:=hq;refine zk a9.u rfl rfl xq rfl zJ (fun w7 hq t7=>?_);replace a9:=hq;refine zn6 ?_;refine zW Jy (Q0 [] (Ts.b false) (Ts.b true) none none 0 0 _ _ _ (by simp) (Fz.triv _ _ TS (fun _=>SimsIn.nil)) (Fz.triv _ _ TS (fun _=>SimsIn.nil))) rfl (fun e' w8 hr=>?_);obtain⟨⟨_,rfl,A15,c15,n15,rfl,a1⟩,t8⟩:=hr;replace t8:=sB t8;refine⟨_,rfl,?_⟩;refine yj (cs:=#[.string ⟨#[]⟩,.slice none 0 0]) j5 rfl (fun _=>rfl) (fun _=>rfl) xq rfl zJ (fun b9 w10 hb9 t9 hr=>?_);refine zn3 ?_;replace a1:=a1.tr0 t9;refine y7 (rg [10] 16 23) (fun g w'=>Same [] w10 w'/\QuR s1 s2 w10 (g 10) w') ?_ (fun g3 w11 hI=>?_)
 ·replace a7:=(a7.tr1 t7 oG).tr0 (t8.t t9);replace a9:=a9.tr0 (t8.t t9);have hh:=fun f Q k0 k1 k2 k3 k4 kq=>qu_r3 s1 s2 a7 a9 hb9 a1 f Q k0 k1 k2 k3 k4 kq
  exact hh _ _ (by rfl) (by rfl) (by rfl) (by rfl) (by rfl) (by intro d;cases d<;>exact fun _ _ _ _ h=>h)
 obtain⟨t10,ad,S38,c38,B38,m38,n38,e10,a4,a2,a6⟩:=hI;have q15:=a1.le;replace hB:=(((hB.tr0 (t1.t (t2.t (t3.t (t4.t t5))))).tr1 t6 lo7).tr1 t7 lo8).tr0 (t8.t t9);have a8:=nLT (Bel.size hB) a4;replace a1:=a1.tr0 t10;replace a1:=a1.addX (Y:=[ad]) (fun y hy=> .inr (by rw[List.mem_singleton.1 hy];exact nLT q15 a4));replace a4:=a8;refine jK 10 _ e10 nu (zn7 ?_);refine ky rfl (fun c39=>?_) (fun c39=>?_)
 ·exact absurd c39 dE
 refine zn3 ?_;refine X6 [] [5] [0,1,2,3,4,5] rfl (fun w12 an=>?_);refine zn3 ?_;replace a1:=a1.tr0 an;replace a2:=a2.tr0 an;replace a6:=a6.tr0 an;refine hcl (fun v wv=>TmD [ad] (qM49 s1 s2) wv (v)) rfl XK (oX [ad] (Ts.f (Ts.b false) (Ts.b true)) (EV s1 s2) _ _ _ _ _ _ _ _ w12 (fun x hx=>by rw[List.mem_singleton.1 hx];exact a2.lt) a1 a6) rfl (fun e' w2 hr=>?_) (fun v49 w13 b1 d49=>?_)
 ·obtain⟨⟨_,rfl,hd⟩,t13⟩:=hr;exact⟨_,rfl,sB t13,hd⟩
 obtain⟨S49,c49,B49,m49,n49,e49,b2⟩:=d49;subst e49;replace a1:=a1.tr0 b1;replace a2:=a2.tr0 b1;refine hcl (fun v wv=>TmD [ad] (qM50 s1 s2) wv (v)) rfl XK (oX [ad] (Ts.f (Ts.b false) (Ts.b true)) (qM49 s1 s2) _ _ _ _ _ _ _ _ w13 (fun x hx=>by rw[List.mem_singleton.1 hx];exact a2.lt) a1 b2) rfl (fun e' w2 hr=>?_) (fun v50 w14 t14 d50=>?_)
 ·obtain⟨⟨_,rfl,hd⟩,t15⟩:=hr;exact⟨_,rfl,sB t15,hd⟩
 obtain⟨S50,c50,B50,m50,n50,e50,a5⟩:=d50;subst e50;refine h1 rfl ?_;refine zk a3.u rfl rfl jw rfl zJ (fun w15 hq t16=>?_);have hsH5:=t16;replace a3:=(((a3.tr0 (t2.t (t3.t (t4.t t5)))).tr1 t6 oG).tr1 t7 oG).tr0 (t8.t (t9.t (t10.t (an.t (b1.t t14)))));replace a5:=a5.sp1 t16 a3 sp_tm;replace a3:=hq;refine zQ (Hj [] (zn3 ?_));refine yx (.inl rfl) rfl (zZ U34 rfl rfl a3.range0 jw) ?_;exact⟨⟨_,rfl,_,_,_,_,_,rfl,a5.nil⟩,hB.u⟩
theorem quY_d(s1 s2:ByteArray)(w:World):Calls prog 24 #[.string s1,.string s2,.bool true] w fun e w'=>(∃ z,e= .returned z/\TmD [] (quY s1 s2) w' z)/\Bel w w':=by
 refine enT func24 ntmps24 rfl rfl fun hB=>?_;refine zn2 ?_;refine qk (cs:=#[.int .i64 0,.string ⟨#[]⟩,.int .i64 0,.string ⟨#[]⟩,.slice none 0 0,.slice none 0 0]) gw rfl (fun b6 w1 a6 t1 hr=>?_);have lo6:=nLT (Bel.size hB) hr;refine zn4 ?_;refine zW Hx (Zz _ _) rfl (fun e' w2 hr=>?_);obtain⟨rfl,t2⟩:=hr;replace t2:=sB t2;refine⟨_,rfl,?_⟩;refine zW Hx (Zz _ _) rfl (fun e' w3 hr=>?_);obtain⟨rfl,t3⟩:=hr;replace t3:=sB t3;refine⟨_,rfl,?_⟩;refine qk (cs:=#[.string ⟨#[]⟩,.slice none 0 0]) j5 rfl (fun b7 w4 a9 t4 hr=>?_);have:=nLL a6.u.lt hr;have lo7:=nLT (Bel.size hB.u) hr;refine qk (cs:=#[.string ⟨#[]⟩,.slice none 0 0]) j5 rfl (fun b8 w5 an t5 hr=>?_);have:=nLL a6.u.lt hr;have:=nLL a9.lt hr;have lo8:=nLT (Bel.size hB.u) hr;refine zk a9.u rfl rfl xq rfl zJ (fun w6 hq t6=>?_);replace a9:=hq;refine zk an.u rfl rfl xq rfl zJ (fun w7 hq t7=>?_);replace an:=hq;refine zn6 ?_;refine zW Jy (Q0 [] (Ts.b false) (Ts.b true) none none 0 0 _ _ _ (by simp) (Fz.triv _ _ TS (fun _=>SimsIn.nil)) (Fz.triv _ _ TS (fun _=>SimsIn.nil))) rfl (fun e' w8 hr=>?_);obtain⟨⟨_,rfl,A15,c15,n15,rfl,a1⟩,t8⟩:=hr;replace t8:=sB t8;refine⟨_,rfl,?_⟩;refine yj (cs:=#[.string ⟨#[]⟩,.slice none 0 0]) j5 rfl (fun _=>rfl) (fun _=>rfl) xq rfl zJ (fun b9 w10 hb9 t9 hr=>?_);refine zn3 ?_;replace a1:=a1.tr0 t9;refine y7 (rg [10] 16 23) (fun g w'=>Same [] w10 w'/\QuR s1 s2 w10 (g 10) w') ?_ (fun g3 w11 hI=>?_)
 ·replace a9:=(a9.tr1 t7 oG).tr0 (t8.t t9);replace an:=an.tr0 (t8.t t9);have hh:=fun f Q k0 k1 k2 k3 k4 kq=>qu_r3 s1 s2 a9 an hb9 a1 f Q k0 k1 k2 k3 k4 kq
  exact hh _ _ (by rfl) (by rfl) (by rfl) (by rfl) (by rfl) (by intro d;cases d<;>exact fun _ _ _ _ h=>h)
 obtain⟨t10,a5,S38,c38,B38,m38,n38,e10,a3,a2,a8⟩:=hI;have:=nLL a6.u.lt a3;have:=nLL hb9.lt a3;have q15:=a1.le;replace hB:=(((hB.tr0 (t1.t (t2.t (t3.t (t4.t t5))))).tr1 t6 lo7).tr1 t7 lo8).tr0 (t8.t t9);have ad:=nLT (Bel.size hB) a3;replace a1:=a1.tr0 t10;replace a1:=a1.addX (Y:=[a5]) (fun y hy=> .inr (by rw[List.mem_singleton.1 hy];exact nLT q15 a3));replace a3:=ad;refine jK 10 _ e10 nu (zn7 ?_);refine ky rfl (fun c39=>?_) (fun c39=>?_)
 ·refine X6 [] [6] [0,1,4,2,3,5,6] rfl (fun w12 b5=>?_);refine zn3 ?_;replace a2:=a2.tr0 b5;refine hcl (fun v wv=>SmD [a5] (qY42 s1 s2) wv (v)) rfl Jy (Q0 [a5] (Ts.b true) (Ts.b true) _ _ _ _ _ _ w12 (fun x hx=>by rw[List.mem_singleton.1 hx];exact a2.lt) (Fz.triv _ _ TS (fun _=>SimsIn.nil)) (Fz.triv _ _ TS (fun _=>SimsIn.nil))) rfl (fun e' w2 hr=>?_) (fun v42 w13 b4 d42=>?_)
  ·obtain⟨⟨_,rfl,hd⟩,t13⟩:=hr;exact⟨_,rfl,sB t13,hd⟩
  obtain⟨A42,c42,n42,e42,bd⟩:=d42;subst e42;refine hcl (fun v wv=>TmD [a5] (qY43 s1 s2) wv (v)) rfl Yy (gJ [a5] ⟨#[110,111,116]⟩ (qY42 s1 s2) _ _ _ w13 bd) rfl (fun e' w2 hr=>?_) (fun v43 w14 b3 d43=>?_)
  ·obtain⟨⟨_,rfl,hd⟩,t15⟩:=hr;exact⟨_,rfl,sB t15,hd⟩
  obtain⟨S43,c43,B43,m43,n43,e43,bc⟩:=d43;subst e43;replace a8:=a8.tr0 (b5.t (b4.t b3));replace a2:=a2.tr0 (b4.t b3);refine hcl (fun v wv=>TmD [a5] (qY45 s1 s2) wv (v)) rfl J4 (ZW [a5] (qY43 s1 s2) (EV s1 s2) _ _ _ _ _ _ _ _ _ _ w14 (fun x hx=>by rw[List.mem_singleton.1 hx];exact a2.lt) bc a8) rfl (fun e' w2 hr=>?_) (fun v45 w15 t16 d45=>?_)
  ·obtain⟨⟨_,rfl,hd⟩,t17⟩:=hr;exact⟨_,rfl,sB t17,hd⟩
  obtain⟨S45,c45,B45,m45,n45,e45,a4⟩:=d45;subst e45;refine h1 rfl ?_;refine zk a2.u rfl rfl jw rfl zJ (fun w16 hq b2=>?_);have hsH6:=b2;replace a1:=a1.tr0 (b5.t (b4.t (b3.t t16)));replace a1:=a1.in1 b2 (by simp);replace a4:=a4.in1 b2 (by simp);replace a2:=hq;refine zQ (Hj [] (zn3 ?_));refine X6 [] [5] [0,1,2,3,4,5] rfl (fun w17 b1=>?_);refine zn3 ?_;replace a1:=a1.tr0 b1;replace a2:=a2.tr0 b1;replace a4:=a4.tr0 b1;refine hcl (fun v wv=>TmD [a5] (qY49 s1 s2) wv (v)) rfl XK (oX [a5] (Ts.f (Ts.b false) (Ts.b true)) (qY45 s1 s2) _ _ _ _ _ _ _ _ w17 (fun x hx=>by rw[List.mem_singleton.1 hx];exact a2.lt) a1 a4) rfl (fun e' w2 hr=>?_) (fun v49 w18 ba d49=>?_)
  ·obtain⟨⟨_,rfl,hd⟩,t21⟩:=hr;exact⟨_,rfl,sB t21,hd⟩
  obtain⟨S49,c49,B49,m49,n49,e49,bb⟩:=d49;subst e49;replace a1:=a1.tr0 ba;replace a2:=a2.tr0 ba;refine hcl (fun v wv=>TmD [a5] (qY50 s1 s2) wv (v)) rfl XK (oX [a5] (Ts.f (Ts.b false) (Ts.b true)) (qY49 s1 s2) _ _ _ _ _ _ _ _ w18 (fun x hx=>by rw[List.mem_singleton.1 hx];exact a2.lt) a1 bb) rfl (fun e' w2 hr=>?_) (fun v50 w19 t22 d50=>?_)
  ·obtain⟨⟨_,rfl,hd⟩,t23⟩:=hr;exact⟨_,rfl,sB t23,hd⟩
  obtain⟨S50,c50,B50,m50,n50,e50,a7⟩:=d50;subst e50;refine h1 rfl ?_;refine zk a6.u rfl rfl jw rfl zJ (fun w20 hq t24=>?_);have hsH5:=t24;replace a6:=(((((a6.tr0 (t2.t (t3.t (t4.t t5)))).tr1 t6 oG).tr1 t7 oG).tr0 (t8.t (t9.t (t10.t (b5.t (b4.t (b3.t t16))))))).tr1 b2 oG).tr0 (b1.t (ba.t t22));replace a7:=a7.sp1 t24 a6 sp_tm;replace a6:=hq;refine zQ (Hj [] (zn3 ?_));refine yx (.inl rfl) rfl (zZ U34 rfl rfl a6.range0 jw) ?_;exact⟨⟨_,rfl,_,_,_,_,_,rfl,a7.nil⟩,hB.u⟩
 exact absurd c39 dE
def mS5:Ts:=(Ts.f (Ts.b false) (Ts.b true))
def mS6:Ts:=(Ts.f mS5 (Ts.b true))
def mS7:Ts:=(Ts.f (Ts.b false) mS5)
def mS8:Ts:=(Ts.f mS5 mS6)
def mT26:Tv:=(Tv.var 1)
def mT27:Tv:=(Tv.var 0)
def mT28:Tv:=(Tv.app mT26 mT27)
def mT29:Tv:=(Tv.abs mS5 mT28)
def CX:Tv:=(Tv.abs mS6 mT29)
def mT33:Tv:=(Tv.var 1)
def mT34:Tv:=(Tv.var 0)
def mT35:Tv:=(Tv.app mT33 mT34)
def mT36:Tv:=(Tv.abs mS5 mT35)
def CQ:Tv:=(Tv.abs mS8 mT36)
def mT39:Tv:=(Tv.var 0)
def CZ:Tv:=(Tv.abs mS5 mT39)
def mT44:Tv:=(Tv.var 1)
def mT46:Tv:=(Tv.var 3)
def mT47:Tv:=(Tv.var 1)
def mT48:Tv:=(Tv.app mT46 mT47)
def mT49:Tv:=(Tv.var 0)
def mT50:Tv:=(Tv.app mT48 mT49)
def mT51:Tv:=(Tv.abs (Ts.b false) mT50)
def mT52:Tv:=(Tv.app mT44 mT51)
def mT53:Tv:=(Tv.abs (Ts.b false) mT52)
def mT54:Tv:=(Tv.abs mS6 mT53)
def Cy:Tv:=(Tv.abs mS7 mT54)
def mT58:Ts:=(Ts.f (Ts.b true) (Ts.b true))
def mT61:Tv:=(Tv.var 2)
def mT62:Tv:=(Tv.var 1)
def mT63:Tv:=(Tv.var 0)
def mT64:Tv:=(Tv.app mT62 mT63)
def mT65:Tv:=(Tv.app mT61 mT64)
def mT66:Tv:=(Tv.abs (Ts.b false) mT65)
def mT67:Tv:=(Tv.abs mS5 mT66)
def Cw:Tv:=(Tv.abs mT58 mT67)
def mT73:Ts:=(Ts.f (Ts.b true) (Ts.b true))
def mT74:Ts:=(Ts.f (Ts.b true) mT73)
def mT77:Tv:=(Tv.var 2)
def mT78:Tv:=(Tv.var 3)
def mT79:Tv:=(Tv.var 0)
def mT80:Tv:=(Tv.app mT78 mT79)
def mT81:Tv:=(Tv.app mT77 mT80)
def mT82:Tv:=(Tv.var 1)
def mT83:Tv:=(Tv.var 0)
def mT84:Tv:=(Tv.app mT82 mT83)
def mT85:Tv:=(Tv.app mT81 mT84)
def mT86:Tv:=(Tv.abs mS5 mT85)
def mT87:Tv:=(Tv.abs mS6 mT86)
def mT88:Tv:=(Tv.abs mT74 mT87)
def Cv:Tv:=(Tv.abs mS6 mT88)
def Y8:List Tv:=[CX,CQ,CZ,Cy,Cw,Cv]
def MnR(wc:World)(v:Value)(w':World):Prop:=∃ b90 S30 c30 B30 m30 S37 c37 B37 m37 S40 c40 B40 m40 S55 c55 B55 m55 S68 c68 B68 m68 S89 c89 B89 m89,v= .slice (some ⟨b90,0,none⟩) 6 6/\wc.heap.size<=b90/\Blk w' b90 34 #[.int .i64 (CX).tm.kind,.string (CX).tm.name,.int .i64 (CX).tm.index,.string (CX).tm.type.base,.slice S30 (CX).tm.type.args.length c30,.slice B30 (CX).tm.args.length m30,.int .i64 (CQ).tm.kind,.string (CQ).tm.name,.int .i64 (CQ).tm.index,.string (CQ).tm.type.base,.slice S37 (CQ).tm.type.args.length c37,.slice B37 (CQ).tm.args.length m37,.int .i64 (CZ).tm.kind,.string (CZ).tm.name,.int .i64 (CZ).tm.index,.string (CZ).tm.type.base,.slice S40 (CZ).tm.type.args.length c40,.slice B40 (CZ).tm.args.length m40,.int .i64 (Cy).tm.kind,.string (Cy).tm.name,.int .i64 (Cy).tm.index,.string (Cy).tm.type.base,.slice S55 (Cy).tm.type.args.length c55,.slice B55 (Cy).tm.args.length m55,.int .i64 (Cw).tm.kind,.string (Cw).tm.name,.int .i64 (Cw).tm.index,.string (Cw).tm.type.base,.slice S68 (Cw).tm.type.args.length c68,.slice B68 (Cw).tm.args.length m68,.int .i64 (Cv).tm.kind,.string (Cv).tm.name,.int .i64 (Cv).tm.index,.string (Cv).tm.type.base,.slice S89 (Cv).tm.type.args.length c89,.slice B89 (Cv).tm.args.length m89]/\Fz [] b90 TS w' (fun w=>SimsIn w S30 (CX).tm.type.args/\TmsIn w B30 (CX).tm.args)/\Fz [] b90 TS w' (fun w=>SimsIn w S37 (CQ).tm.type.args/\TmsIn w B37 (CQ).tm.args)/\Fz [] b90 TS w' (fun w=>SimsIn w S40 (CZ).tm.type.args/\TmsIn w B40 (CZ).tm.args)/\Fz [] b90 TS w' (fun w=>SimsIn w S55 (Cy).tm.type.args/\TmsIn w B55 (Cy).tm.args)/\Fz [] b90 TS w' (fun w=>SimsIn w S68 (Cw).tm.type.args/\TmsIn w B68 (Cw).tm.args)/\Fz [] b90 TS w' (fun w=>SimsIn w S89 (Cv).tm.type.args/\TmsIn w B89 (Cv).tm.args)
theorem MnR.tr0{wc w1 w2:World}{v:Value}(h:MnR wc v w1)(hs:Same [] w1 w2):MnR wc v w2:=by
 obtain⟨b90,S30,c30,B30,m30,S37,c37,B37,m37,S40,c40,B40,m40,S55,c55,B55,m55,S68,c68,B68,m68,S89,c89,B89,m89,e,lo,hb,a6,a5,a4,a3,a2,a1⟩:=h;exact⟨b90,S30,c30,B30,m30,S37,c37,B37,m37,S40,c40,B40,m40,S55,c55,B55,m55,S68,c68,B68,m68,S89,c89,B89,m89,e,lo,hb.tr0 hs,a6.tr0 hs,a5.tr0 hs,a4.tr0 hs,a3.tr0 hs,a2.tr0 hs,a1.tr0 hs⟩
theorem mean_r6{wc:World}{b3 b4 b5 b6 b7 b8 c14 c17 c20 c23 n14 n17 n20 n23:Nat}{A14 A17 A20 A23:Option Addr}(hb3:Blk wc b3 31 #[.string ⟨#[101]⟩,.slice none 0 0])(hb4:Blk wc b4 31 #[.string ⟨#[116]⟩,.slice none 0 0])(hb5:Blk wc b5 31 #[.string (mS5).sm.base,.slice A14 (mS5).sm.args.length c14])(hb6:Blk wc b6 31 #[.string (mS6).sm.base,.slice A17 (mS6).sm.args.length c17])(hb7:Blk wc b7 31 #[.string (mS7).sm.base,.slice A20 (mS7).sm.args.length c20])(hb8:Blk wc b8 31 #[.string (mS8).sm.base,.slice A23 (mS8).sm.args.length c23])(a1:Fz [] n14 TS wc (fun w=>SimsIn w A14 (mS5).sm.args))(a2:Fz [] n17 TS wc (fun w=>SimsIn w A17 (mS6).sm.args))(cy:Fz [] n20 TS wc (fun w=>SimsIn w A20 (mS7).sm.args))(cx:Fz [] n23 TS wc (fun w=>SimsIn w A23 (mS8).sm.args))(f:Fr)(Q:Exit->Act->World->Prop)(k3:f 3= .pointer (some ⟨b3,0,none⟩))(k4:f 4= .pointer (some ⟨b4,0,none⟩))(k5:f 5= .pointer (some ⟨b5,0,none⟩))(k6:f 6= .pointer (some ⟨b6,0,none⟩))(k7:f 7= .pointer (some ⟨b7,0,none⟩))(k8:f 8= .pointer (some ⟨b8,0,none⟩))(hPQ:PQ Q):WC Tryz.prog (sl (sr (sr (sr (sr (sr (sr (ob Tryz.f21.body)))))))) (QRS 128 [9,24,25,26,27,28,29,30,31,32,33,34,35,36,37,38,39,40,41,42,43,44,45,46,47,48,49,50,51,52,53,54,55,56,57,58,59,60,61,62,63,64,65,66,67,68,69,70,71,72,73,74,75,76,77,78,79,80,81,82,83,84,85,86,87,88,89,90] f (fun g w'=>Same [] wc w'/\MnR wc (g 9) w') Q) 128 f wc:=by
 have hZ:Same [] wc wc:=Same.refl _ _;refine zK 3 _ k3 nu (zK 4 _ k4 nu (zK 5 _ k5 nu (zK 6 _ k6 nu (zK 7 _ k7 nu (zK 8 _ k8 nu ?_)))));refine u5 [] [0,1,7,8,14,17,18,19,21,32,33,35,36,45,46,47,48,51,52,2,3,4,5,6,9,10,11,12,13,15,16,20,22,23,24,25,26,27,28,29,30,31,34,37,38,39,40,41,42,43,44,49,50,53,54,55,56,57,58,59,60,61,62,63,64,65,66,67] rfl (fun w1 s1=>?_);have e7:=s1;refine zn19 ?_;refine hcl (fun v wv=>TmD [] mT26 wv (v)) rfl XJ (j7 [] 1 w1) rfl (fun e' w2 hr=>?_) (fun v26 w2 s2 d26=>?_)
 ·obtain⟨⟨_,rfl,hd⟩,s3⟩:=hr;exact⟨_,rfl,sB s3,hd⟩
 obtain⟨S26,c26,B26,m26,n26,e26,cw⟩:=d26;subst e26;refine hcl (fun v wv=>TmD [] mT27 wv (v)) rfl XJ (j7 [] 0 w2) rfl (fun e' w2 hr=>?_) (fun v27 w3 s4 d27=>?_)
 ·obtain⟨⟨_,rfl,hd⟩,s5⟩:=hr;exact⟨_,rfl,sB s5,hd⟩
 obtain⟨S27,c27,B27,m27,n27,e27,e6⟩:=d27;subst e27;replace cw:=cw.tr0 s4;refine hcl (fun v wv=>TmD [] mT28 wv (v)) rfl J4 (ZW [] mT26 mT27 _ _ _ _ _ _ _ _ _ _ w3 (by simp) cw e6) rfl (fun e' w2 hr=>?_) (fun v28 w4 s6 d28=>?_)
 ·obtain⟨⟨_,rfl,hd⟩,s7⟩:=hr;exact⟨_,rfl,sB s7,hd⟩
 obtain⟨S28,c28,B28,m28,n28,e28,e5⟩:=d28;subst e28;replace a1:=a1.tr0 (s1.t (s2.t (s4.t s6)));refine hcl (fun v wv=>TmD [] mT29 wv (v)) rfl XK (oX [] mS5 mT28 _ _ _ _ _ _ _ _ w4 (by simp) a1 e5) rfl (fun e' w2 hr=>?_) (fun v29 w5 s8 d29=>?_)
 ·obtain⟨⟨_,rfl,hd⟩,s9⟩:=hr;exact⟨_,rfl,sB s9,hd⟩
 obtain⟨S29,c29,B29,m29,n29,e29,dz⟩:=d29;subst e29;replace a2:=a2.tr0 (s1.t (s2.t (s4.t (s6.t s8))));refine hcl (fun v wv=>TmD [] CX wv (v)) rfl XK (oX [] mS6 mT29 _ _ _ _ _ _ _ _ w5 (by simp) a2 dz) rfl (fun e' w2 hr=>?_) (fun v30 w6 d2 d30=>?_)
 ·obtain⟨⟨_,rfl,hd⟩,s11⟩:=hr;exact⟨_,rfl,sB s11,hd⟩
 obtain⟨S30,c30,B30,m30,n30,e30,a8⟩:=d30;subst e30;refine hcl (fun v wv=>TmD [] mT33 wv (v)) rfl XJ (j7 [] 1 w6) rfl (fun e' w2 hr=>?_) (fun v33 w7 ce d33=>?_)
 ·obtain⟨⟨_,rfl,hd⟩,s13⟩:=hr;exact⟨_,rfl,sB s13,hd⟩
 obtain⟨S33,c33,B33,m33,n33,e33,cv⟩:=d33;subst e33;refine hcl (fun v wv=>TmD [] mT34 wv (v)) rfl XJ (j7 [] 0 w7) rfl (fun e' w2 hr=>?_) (fun v34 w8 c7 d34=>?_)
 ·obtain⟨⟨_,rfl,hd⟩,s15⟩:=hr;exact⟨_,rfl,sB s15,hd⟩
 obtain⟨S34,c34,B34,m34,n34,e34,dy⟩:=d34;subst e34;replace cv:=cv.tr0 c7;refine hcl (fun v wv=>TmD [] mT35 wv (v)) rfl J4 (ZW [] mT33 mT34 _ _ _ _ _ _ _ _ _ _ w8 (by simp) cv dy) rfl (fun e' w2 hr=>?_) (fun v35 w9 cd d35=>?_)
 ·obtain⟨⟨_,rfl,hd⟩,s17⟩:=hr;exact⟨_,rfl,sB s17,hd⟩
 obtain⟨S35,c35,B35,m35,n35,e35,dx⟩:=d35;subst e35;replace a1:=a1.tr0 (s8.t (d2.t (ce.t (c7.t cd))));refine hcl (fun v wv=>TmD [] mT36 wv (v)) rfl XK (oX [] mS5 mT35 _ _ _ _ _ _ _ _ w9 (by simp) a1 dx) rfl (fun e' w2 hr=>?_) (fun v36 w10 cc d36=>?_)
 ·obtain⟨⟨_,rfl,hd⟩,s19⟩:=hr;exact⟨_,rfl,sB s19,hd⟩
 obtain⟨S36,c36,B36,m36,n36,e36,dw⟩:=d36;subst e36;replace cx:=cx.tr0 (s1.t (s2.t (s4.t (s6.t (s8.t (d2.t (ce.t (c7.t (cd.t cc)))))))));refine hcl (fun v wv=>TmD [] CQ wv (v)) rfl XK (oX [] mS8 mT36 _ _ _ _ _ _ _ _ w10 (by simp) cx dw) rfl (fun e' w2 hr=>?_) (fun v37 w11 cz d37=>?_)
 ·obtain⟨⟨_,rfl,hd⟩,s21⟩:=hr;exact⟨_,rfl,sB s21,hd⟩
 obtain⟨S37,c37,B37,m37,n37,e37,a7⟩:=d37;subst e37;refine hcl (fun v wv=>TmD [] mT39 wv (v)) rfl XJ (j7 [] 0 w11) rfl (fun e' w2 hr=>?_) (fun v39 w12 cb d39=>?_)
 ·obtain⟨⟨_,rfl,hd⟩,s23⟩:=hr;exact⟨_,rfl,sB s23,hd⟩
 obtain⟨S39,c39,B39,m39,n39,e39,dv⟩:=d39;subst e39;replace a1:=a1.tr0 (cc.t (cz.t cb));refine hcl (fun v wv=>TmD [] CZ wv (v)) rfl XK (oX [] mS5 mT39 _ _ _ _ _ _ _ _ w12 (by simp) a1 dv) rfl (fun e' w2 hr=>?_) (fun v40 w13 ca d40=>?_)
 ·obtain⟨⟨_,rfl,hd⟩,s25⟩:=hr;exact⟨_,rfl,sB s25,hd⟩
 obtain⟨S40,c40,B40,m40,n40,e40,a6⟩:=d40;subst e40;refine hcl (fun v wv=>TmD [] mT44 wv (v)) rfl XJ (j7 [] 1 w13) rfl (fun e' w2 hr=>?_) (fun v44 w14 c6 d44=>?_)
 ·obtain⟨⟨_,rfl,hd⟩,s27⟩:=hr;exact⟨_,rfl,sB s27,hd⟩
 obtain⟨S44,c44,B44,m44,n44,e44,cu⟩:=d44;subst e44;refine hcl (fun v wv=>TmD [] mT46 wv (v)) rfl XJ (j7 [] 3 w14) rfl (fun e' w2 hr=>?_) (fun v46 w15 bx d46=>?_)
 ·obtain⟨⟨_,rfl,hd⟩,s29⟩:=hr;exact⟨_,rfl,sB s29,hd⟩
 obtain⟨S46,c46,B46,m46,n46,e46,cr⟩:=d46;subst e46;refine hcl (fun v wv=>TmD [] mT47 wv (v)) rfl XJ (j7 [] 1 w15) rfl (fun e' w2 hr=>?_) (fun v47 w16 bi d47=>?_)
 ·obtain⟨⟨_,rfl,hd⟩,s31⟩:=hr;exact⟨_,rfl,sB s31,hd⟩
 obtain⟨S47,c47,B47,m47,n47,e47,du⟩:=d47;subst e47;replace cr:=cr.tr0 bi;refine hcl (fun v wv=>TmD [] mT48 wv (v)) rfl J4 (ZW [] mT46 mT47 _ _ _ _ _ _ _ _ _ _ w16 (by simp) cr du) rfl (fun e' w2 hr=>?_) (fun v48 w17 bw d48=>?_)
 ·obtain⟨⟨_,rfl,hd⟩,s33⟩:=hr;exact⟨_,rfl,sB s33,hd⟩
 obtain⟨S48,c48,B48,m48,n48,e48,cq⟩:=d48;subst e48;refine hcl (fun v wv=>TmD [] mT49 wv (v)) rfl XJ (j7 [] 0 w17) rfl (fun e' w2 hr=>?_) (fun v49 w18 bh d49=>?_)
 ·obtain⟨⟨_,rfl,hd⟩,s35⟩:=hr;exact⟨_,rfl,sB s35,hd⟩
 obtain⟨S49,c49,B49,m49,n49,e49,dr⟩:=d49;subst e49;replace cq:=cq.tr0 bh;refine hcl (fun v wv=>TmD [] mT50 wv (v)) rfl J4 (ZW [] mT48 mT49 _ _ _ _ _ _ _ _ _ _ w18 (by simp) cq dr) rfl (fun e' w2 hr=>?_) (fun v50 w19 bv d50=>?_)
 ·obtain⟨⟨_,rfl,hd⟩,s37⟩:=hr;exact⟨_,rfl,sB s37,hd⟩
 obtain⟨S50,c50,B50,m50,n50,e50,dq⟩:=d50;subst e50;refine hcl (fun v wv=>TmD [] mT51 wv (v)) rfl XK (oX [] (Ts.b false) mT50 _ _ _ _ _ _ _ _ w19 (by simp) (Fz.triv _ _ TS (fun _=>SimsIn.nil)) dq) rfl (fun e' w2 hr=>?_) (fun v51 w20 bu d51=>?_)
 ·obtain⟨⟨_,rfl,hd⟩,s39⟩:=hr;exact⟨_,rfl,sB s39,hd⟩
 obtain⟨S51,c51,B51,m51,n51,e51,dp⟩:=d51;subst e51;replace cu:=cu.tr0 (bx.t (bi.t (bw.t (bh.t (bv.t bu)))));refine hcl (fun v wv=>TmD [] mT52 wv (v)) rfl J4 (ZW [] mT44 mT51 _ _ _ _ _ _ _ _ _ _ w20 (by simp) cu dp) rfl (fun e' w2 hr=>?_) (fun v52 w21 c5 d52=>?_)
 ·obtain⟨⟨_,rfl,hd⟩,s41⟩:=hr;exact⟨_,rfl,sB s41,hd⟩
 obtain⟨S52,c52,B52,m52,n52,e52,dn⟩:=d52;subst e52;refine hcl (fun v wv=>TmD [] mT53 wv (v)) rfl XK (oX [] (Ts.b false) mT52 _ _ _ _ _ _ _ _ w21 (by simp) (Fz.triv _ _ TS (fun _=>SimsIn.nil)) dn) rfl (fun e' w2 hr=>?_) (fun v53 w22 c4 d53=>?_)
 ·obtain⟨⟨_,rfl,hd⟩,s43⟩:=hr;exact⟨_,rfl,sB s43,hd⟩
 obtain⟨S53,c53,B53,m53,n53,e53,dm⟩:=d53;subst e53;replace a2:=a2.tr0 (d2.t (ce.t (c7.t (cd.t (cc.t (cz.t (cb.t (ca.t (c6.t (bx.t (bi.t (bw.t (bh.t (bv.t (bu.t (c5.t c4))))))))))))))));refine hcl (fun v wv=>TmD [] mT54 wv (v)) rfl XK (oX [] mS6 mT53 _ _ _ _ _ _ _ _ w22 (by simp) a2 dm) rfl (fun e' w2 hr=>?_) (fun v54 w23 c3 d54=>?_)
 ·obtain⟨⟨_,rfl,hd⟩,s45⟩:=hr;exact⟨_,rfl,sB s45,hd⟩
 obtain⟨S54,c54,B54,m54,n54,e54,dk⟩:=d54;subst e54;replace cy:=cy.tr0 (s1.t (s2.t (s4.t (s6.t (s8.t (d2.t (ce.t (c7.t (cd.t (cc.t (cz.t (cb.t (ca.t (c6.t (bx.t (bi.t (bw.t (bh.t (bv.t (bu.t (c5.t (c4.t c3))))))))))))))))))))));refine hcl (fun v wv=>TmD [] Cy wv (v)) rfl XK (oX [] mS7 mT54 _ _ _ _ _ _ _ _ w23 (by simp) cy dk) rfl (fun e' w2 hr=>?_) (fun v55 w24 c9 d55=>?_)
 ·obtain⟨⟨_,rfl,hd⟩,s47⟩:=hr;exact⟨_,rfl,sB s47,hd⟩
 obtain⟨S55,c55,B55,m55,n55,e55,a5⟩:=d55;subst e55;refine hcl (fun v wv=>SmD [] mT58 wv (v)) rfl Jy (Q0 [] (Ts.b true) (Ts.b true) _ _ _ _ _ _ w24 (by simp) (Fz.triv _ _ TS (fun _=>SimsIn.nil)) (Fz.triv _ _ TS (fun _=>SimsIn.nil))) rfl (fun e' w2 hr=>?_) (fun v58 w25 c2 d58=>?_)
 ·obtain⟨⟨_,rfl,hd⟩,s49⟩:=hr;exact⟨_,rfl,sB s49,hd⟩
 obtain⟨A58,c58,n58,e58,cp⟩:=d58;subst e58;refine hcl (fun v wv=>TmD [] mT61 wv (v)) rfl XJ (j7 [] 2 w25) rfl (fun e' w2 hr=>?_) (fun v61 w26 bt d61=>?_)
 ·obtain⟨⟨_,rfl,hd⟩,s51⟩:=hr;exact⟨_,rfl,sB s51,hd⟩
 obtain⟨S61,c61,B61,m61,n61,e61,co⟩:=d61;subst e61;refine hcl (fun v wv=>TmD [] mT62 wv (v)) rfl XJ (j7 [] 1 w26) rfl (fun e' w2 hr=>?_) (fun v62 w27 bg d62=>?_)
 ·obtain⟨⟨_,rfl,hd⟩,s53⟩:=hr;exact⟨_,rfl,sB s53,hd⟩
 obtain⟨S62,c62,B62,m62,n62,e62,cn⟩:=d62;subst e62;refine hcl (fun v wv=>TmD [] mT63 wv (v)) rfl XJ (j7 [] 0 w27) rfl (fun e' w2 hr=>?_) (fun v63 w28 bb d63=>?_)
 ·obtain⟨⟨_,rfl,hd⟩,s55⟩:=hr;exact⟨_,rfl,sB s55,hd⟩
 obtain⟨S63,c63,B63,m63,n63,e63,dj⟩:=d63;subst e63;replace cn:=cn.tr0 bb;refine hcl (fun v wv=>TmD [] mT64 wv (v)) rfl J4 (ZW [] mT62 mT63 _ _ _ _ _ _ _ _ _ _ w28 (by simp) cn dj) rfl (fun e' w2 hr=>?_) (fun v64 w29 bf d64=>?_)
 ·obtain⟨⟨_,rfl,hd⟩,s57⟩:=hr;exact⟨_,rfl,sB s57,hd⟩
 obtain⟨S64,c64,B64,m64,n64,e64,di⟩:=d64;subst e64;replace co:=co.tr0 (bg.t (bb.t bf));refine hcl (fun v wv=>TmD [] mT65 wv (v)) rfl J4 (ZW [] mT61 mT64 _ _ _ _ _ _ _ _ _ _ w29 (by simp) co di) rfl (fun e' w2 hr=>?_) (fun v65 w30 br d65=>?_)
 ·obtain⟨⟨_,rfl,hd⟩,s59⟩:=hr;exact⟨_,rfl,sB s59,hd⟩
 obtain⟨S65,c65,B65,m65,n65,e65,dh⟩:=d65;subst e65;refine hcl (fun v wv=>TmD [] mT66 wv (v)) rfl XK (oX [] (Ts.b false) mT65 _ _ _ _ _ _ _ _ w30 (by simp) (Fz.triv _ _ TS (fun _=>SimsIn.nil)) dh) rfl (fun e' w2 hr=>?_) (fun v66 w31 bq d66=>?_)
 ·obtain⟨⟨_,rfl,hd⟩,s61⟩:=hr;exact⟨_,rfl,sB s61,hd⟩
 obtain⟨S66,c66,B66,m66,n66,e66,dg⟩:=d66;subst e66;replace a1:=a1.tr0 (ca.t (c6.t (bx.t (bi.t (bw.t (bh.t (bv.t (bu.t (c5.t (c4.t (c3.t (c9.t (c2.t (bt.t (bg.t (bb.t (bf.t (br.t bq))))))))))))))))));refine hcl (fun v wv=>TmD [] mT67 wv (v)) rfl XK (oX [] mS5 mT66 _ _ _ _ _ _ _ _ w31 (by simp) a1 dg) rfl (fun e' w2 hr=>?_) (fun v67 w32 bo d67=>?_)
 ·obtain⟨⟨_,rfl,hd⟩,s63⟩:=hr;exact⟨_,rfl,sB s63,hd⟩
 obtain⟨S67,c67,B67,m67,n67,e67,df⟩:=d67;subst e67;replace cp:=cp.tr0 (bt.t (bg.t (bb.t (bf.t (br.t (bq.t bo))))));refine hcl (fun v wv=>TmD [] Cw wv (v)) rfl XK (oX [] mT58 mT67 _ _ _ _ _ _ _ _ w32 (by simp) cp df) rfl (fun e' w2 hr=>?_) (fun v68 w33 c1 d68=>?_)
 ·obtain⟨⟨_,rfl,hd⟩,s65⟩:=hr;exact⟨_,rfl,sB s65,hd⟩
 obtain⟨S68,c68,B68,m68,n68,e68,a4⟩:=d68;subst e68;refine hcl (fun v wv=>SmD [] mT73 wv (v)) rfl Jy (Q0 [] (Ts.b true) (Ts.b true) _ _ _ _ _ _ w33 (by simp) (Fz.triv _ _ TS (fun _=>SimsIn.nil)) (Fz.triv _ _ TS (fun _=>SimsIn.nil))) rfl (fun e' w2 hr=>?_) (fun v73 w34 bn d73=>?_)
 ·obtain⟨⟨_,rfl,hd⟩,s67⟩:=hr;exact⟨_,rfl,sB s67,hd⟩
 obtain⟨A73,c73,n73,e73,de⟩:=d73;subst e73;refine hcl (fun v wv=>SmD [] mT74 wv (v)) rfl Jy (Q0 [] (Ts.b true) mT73 _ _ _ _ _ _ w34 (by simp) (Fz.triv _ _ TS (fun _=>SimsIn.nil)) de) rfl (fun e' w2 hr=>?_) (fun v74 w35 bm d74=>?_)
 ·obtain⟨⟨_,rfl,hd⟩,s69⟩:=hr;exact⟨_,rfl,sB s69,hd⟩
 obtain⟨A74,c74,n74,e74,cm⟩:=d74;subst e74;refine hcl (fun v wv=>TmD [] mT77 wv (v)) rfl XJ (j7 [] 2 w35) rfl (fun e' w2 hr=>?_) (fun v77 w36 be d77=>?_)
 ·obtain⟨⟨_,rfl,hd⟩,s71⟩:=hr;exact⟨_,rfl,sB s71,hd⟩
 obtain⟨S77,c77,B77,m77,n77,e77,ck⟩:=d77;subst e77;refine hcl (fun v wv=>TmD [] mT78 wv (v)) rfl XJ (j7 [] 3 w36) rfl (fun e' w2 hr=>?_) (fun v78 w37 ba d78=>?_)
 ·obtain⟨⟨_,rfl,hd⟩,s73⟩:=hr;exact⟨_,rfl,sB s73,hd⟩
 obtain⟨S78,c78,B78,m78,n78,e78,cj⟩:=d78;subst e78;refine hcl (fun v wv=>TmD [] mT79 wv (v)) rfl XJ (j7 [] 0 w37) rfl (fun e' w2 hr=>?_) (fun v79 w38 an d79=>?_)
 ·obtain⟨⟨_,rfl,hd⟩,s75⟩:=hr;exact⟨_,rfl,sB s75,hd⟩
 obtain⟨S79,c79,B79,m79,n79,e79,dc⟩:=d79;subst e79;replace cj:=cj.tr0 an;refine hcl (fun v wv=>TmD [] mT80 wv (v)) rfl J4 (ZW [] mT78 mT79 _ _ _ _ _ _ _ _ _ _ w38 (by simp) cj dc) rfl (fun e' w2 hr=>?_) (fun v80 w39 b9 d80=>?_)
 ·obtain⟨⟨_,rfl,hd⟩,s77⟩:=hr;exact⟨_,rfl,sB s77,hd⟩
 obtain⟨S80,c80,B80,m80,n80,e80,db⟩:=d80;subst e80;replace ck:=ck.tr0 (ba.t (an.t b9));refine hcl (fun v wv=>TmD [] mT81 wv (v)) rfl J4 (ZW [] mT77 mT80 _ _ _ _ _ _ _ _ _ _ w39 (by simp) ck db) rfl (fun e' w2 hr=>?_) (fun v81 w40 bd d81=>?_)
 ·obtain⟨⟨_,rfl,hd⟩,s79⟩:=hr;exact⟨_,rfl,sB s79,hd⟩
 obtain⟨S81,c81,B81,m81,n81,e81,cg⟩:=d81;subst e81;refine hcl (fun v wv=>TmD [] mT82 wv (v)) rfl XJ (j7 [] 1 w40) rfl (fun e' w2 hr=>?_) (fun v82 w41 b2 d82=>?_)
 ·obtain⟨⟨_,rfl,hd⟩,s81⟩:=hr;exact⟨_,rfl,sB s81,hd⟩
 obtain⟨S82,c82,B82,m82,n82,e82,cf⟩:=d82;subst e82;refine hcl (fun v wv=>TmD [] mT83 wv (v)) rfl XJ (j7 [] 0 w41) rfl (fun e' w2 hr=>?_) (fun v83 w42 ad d83=>?_)
 ·obtain⟨⟨_,rfl,hd⟩,s83⟩:=hr;exact⟨_,rfl,sB s83,hd⟩
 obtain⟨S83,c83,B83,m83,n83,e83,da⟩:=d83;subst e83;replace cf:=cf.tr0 ad;refine hcl (fun v wv=>TmD [] mT84 wv (v)) rfl J4 (ZW [] mT82 mT83 _ _ _ _ _ _ _ _ _ _ w42 (by simp) cf da) rfl (fun e' w2 hr=>?_) (fun v84 w43 b1 d84=>?_)
 ·obtain⟨⟨_,rfl,hd⟩,s85⟩:=hr;exact⟨_,rfl,sB s85,hd⟩
 obtain⟨S84,c84,B84,m84,n84,e84,d9⟩:=d84;subst e84;replace cg:=cg.tr0 (b2.t (ad.t b1));refine hcl (fun v wv=>TmD [] mT85 wv (v)) rfl J4 (ZW [] mT81 mT84 _ _ _ _ _ _ _ _ _ _ w43 (by simp) cg d9) rfl (fun e' w2 hr=>?_) (fun v85 w44 bc d85=>?_)
 ·obtain⟨⟨_,rfl,hd⟩,s87⟩:=hr;exact⟨_,rfl,sB s87,hd⟩
 obtain⟨S85,c85,B85,m85,n85,e85,d8⟩:=d85;subst e85;replace a1:=a1.tr0 (bo.t (c1.t (bn.t (bm.t (be.t (ba.t (an.t (b9.t (bd.t (b2.t (ad.t (b1.t bc))))))))))));refine hcl (fun v wv=>TmD [] mT86 wv (v)) rfl XK (oX [] mS5 mT85 _ _ _ _ _ _ _ _ w44 (by simp) a1 d8) rfl (fun e' w2 hr=>?_) (fun v86 w45 bk d86=>?_)
 ·obtain⟨⟨_,rfl,hd⟩,s89⟩:=hr;exact⟨_,rfl,sB s89,hd⟩
 obtain⟨S86,c86,B86,m86,n86,e86,d7⟩:=d86;subst e86;replace a2:=a2.tr0 (c3.t (c9.t (c2.t (bt.t (bg.t (bb.t (bf.t (br.t (bq.t (bo.t (c1.t (bn.t (bm.t (be.t (ba.t (an.t (b9.t (bd.t (b2.t (ad.t (b1.t (bc.t bk))))))))))))))))))))));refine hcl (fun v wv=>TmD [] mT87 wv (v)) rfl XK (oX [] mS6 mT86 _ _ _ _ _ _ _ _ w45 (by simp) a2 d7) rfl (fun e' w2 hr=>?_) (fun v87 w46 bj d87=>?_)
 ·obtain⟨⟨_,rfl,hd⟩,s91⟩:=hr;exact⟨_,rfl,sB s91,hd⟩
 obtain⟨S87,c87,B87,m87,n87,e87,d6⟩:=d87;subst e87;replace cm:=cm.tr0 (be.t (ba.t (an.t (b9.t (bd.t (b2.t (ad.t (b1.t (bc.t (bk.t bj))))))))));refine hcl (fun v wv=>TmD [] mT88 wv (v)) rfl XK (oX [] mT74 mT87 _ _ _ _ _ _ _ _ w46 (by simp) cm d6) rfl (fun e' w2 hr=>?_) (fun v88 w47 c0 d88=>?_)
 ·obtain⟨⟨_,rfl,hd⟩,s93⟩:=hr;exact⟨_,rfl,sB s93,hd⟩
 obtain⟨S88,c88,B88,m88,n88,e88,d5⟩:=d88;subst e88;replace a2:=a2.tr0 (bj.t c0);refine hcl (fun v wv=>TmD [] Cv wv (v)) rfl XK (oX [] mS6 mT88 _ _ _ _ _ _ _ _ w47 (by simp) a2 d5) rfl (fun e' w2 hr=>?_) (fun v89 w48 c8 d89=>?_)
 ·obtain⟨⟨_,rfl,hd⟩,s95⟩:=hr;exact⟨_,rfl,sB s95,hd⟩
 obtain⟨S89,c89,B89,m89,n89,e89,a9⟩:=d89;subst e89;replace e7:=e7.t (s2.t (s4.t (s6.t (s8.t (d2.t (ce.t (c7.t (cd.t (cc.t (cz.t (cb.t (ca.t (c6.t (bx.t (bi.t (bw.t (bh.t (bv.t (bu.t (c5.t (c4.t (c3.t (c9.t (c2.t (bt.t (bg.t (bb.t (bf.t (br.t (bq.t (bo.t (c1.t (bn.t (bm.t (be.t (ba.t (an.t (b9.t (bd.t (b2.t (ad.t (b1.t (bc.t (bk.t (bj.t (c0.t c8))))))))))))))))))))))))))))))))))))))))))))));have q0:=e7.size;replace a8:=a8.tr0 (ce.t (c7.t (cd.t (cc.t (cz.t (cb.t (ca.t (c6.t (bx.t (bi.t (bw.t (bh.t (bv.t (bu.t (c5.t (c4.t (c3.t (c9.t (c2.t (bt.t (bg.t (bb.t (bf.t (br.t (bq.t (bo.t (c1.t (bn.t (bm.t (be.t (ba.t (an.t (b9.t (bd.t (b2.t (ad.t (b1.t (bc.t (bk.t (bj.t (c0.t c8)))))))))))))))))))))))))))))))))))))))));have q30:=a8.le;replace a7:=a7.tr0 (cb.t (ca.t (c6.t (bx.t (bi.t (bw.t (bh.t (bv.t (bu.t (c5.t (c4.t (c3.t (c9.t (c2.t (bt.t (bg.t (bb.t (bf.t (br.t (bq.t (bo.t (c1.t (bn.t (bm.t (be.t (ba.t (an.t (b9.t (bd.t (b2.t (ad.t (b1.t (bc.t (bk.t (bj.t (c0.t c8))))))))))))))))))))))))))))))))))));have q37:=a7.le;replace a6:=a6.tr0 (c6.t (bx.t (bi.t (bw.t (bh.t (bv.t (bu.t (c5.t (c4.t (c3.t (c9.t (c2.t (bt.t (bg.t (bb.t (bf.t (br.t (bq.t (bo.t (c1.t (bn.t (bm.t (be.t (ba.t (an.t (b9.t (bd.t (b2.t (ad.t (b1.t (bc.t (bk.t (bj.t (c0.t c8))))))))))))))))))))))))))))))))));have q40:=a6.le;replace a5:=a5.tr0 (c2.t (bt.t (bg.t (bb.t (bf.t (br.t (bq.t (bo.t (c1.t (bn.t (bm.t (be.t (ba.t (an.t (b9.t (bd.t (b2.t (ad.t (b1.t (bc.t (bk.t (bj.t (c0.t c8)))))))))))))))))))))))
 have q55:=a5.le;replace a4:=a4.tr0 (bn.t (bm.t (be.t (ba.t (an.t (b9.t (bd.t (b2.t (ad.t (b1.t (bc.t (bk.t (bj.t (c0.t c8))))))))))))));have q68:=a4.le;have q89:=a9.le;refine h1 rfl ?_;refine qv (cs:=#[_,_,_,_,_,_,_,_,_,_,_,_,_,_,_,_,_,_,_,_,_,_,_,_,_,_,_,_,_,_,_,_,_,_,_,_]) [(0,.agg _),(1,.agg _),(2,.agg _),(3,.agg _),(4,.agg _),(5,.agg _)] rfl U32 jw gw dE dE kR rfl (fun e8 w49 a3 bz hr=>?_);have d3:=bz;refine zQ (E2 d3 ?_);replace a8:=a8.tr0 bz;replace a7:=a7.tr0 bz;replace a6:=a6.tr0 bz;replace a5:=a5.tr0 bz;replace a4:=a4.tr0 bz;replace a9:=a9.tr0 bz;obtain⟨e8,S30,c30,B30,m30,S37,c37,B37,m37,S40,c40,B40,m40,S55,c55,B55,m55,S68,c68,B68,m68,S89,c89,B89,m89,e90,d4,a3,a8,a7,a6,a5,a4,a9⟩:MnR wc (.slice (some ⟨e8,0,none⟩) 6 6) w49:=⟨_,_,_,_,_,_,_,_,_,_,_,_,_,_,_,_,_,_,_,_,_,_,_,_,_,rfl,nLT q0 hr,a3,a8.mono (nLT q30 hr) (Nat.le_of_lt a3.lt),a7.mono (nLT q37 hr) (Nat.le_of_lt a3.lt),a6.mono (nLT q40 hr) (Nat.le_of_lt a3.lt),a5.mono (nLT q55 hr) (Nat.le_of_lt a3.lt),a4.mono (nLT q68 hr) (Nat.le_of_lt a3.lt),a9.mono (nLT q89 hr) (Nat.le_of_lt a3.lt)⟩
 cases e90;refine zn2 ?_;refine e_R ⟨agA,?_⟩;replace hZ:=hZ.trans (s1.t (s2.t (s4.t (s6.t (s8.t (d2.t (ce.t (c7.t (cd.t (cc.t (cz.t (cb.t (ca.t (c6.t (bx.t (bi.t (bw.t (bh.t (bv.t (bu.t (c5.t (c4.t (c3.t (c9.t (c2.t (bt.t (bg.t (bb.t (bf.t (br.t (bq.t (bo.t (c1.t (bn.t (bm.t (be.t (ba.t (an.t (b9.t (bd.t (b2.t (ad.t (b1.t (bc.t (bk.t (bj.t (c0.t (c8.t bz))))))))))))))))))))))))))))))))))))))))))))))));exact⟨hZ,e8,S30,c30,B30,m30,S37,c37,B37,m37,S40,c40,B40,m40,S55,c55,B55,m55,S68,c68,B68,m68,S89,c89,B89,m89,rfl,d4,a3,a8,a7,a6,a5,a4,a9⟩
theorem Gw(w:World):Calls Tryz.prog 21 #[.bool false] w fun e w'=>(∃ b vs n,e= .returned (.slice (some ⟨b,0,none⟩) 6 6)/\Blk w' b 34 vs.toArray/\TmCs n w' Y8 vs)/\Bel w w':=by
 refine enT Tryz.func21 Tryz.ntmps21 rfl rfl fun hB=>?_;refine zn7 ?_;refine aY Hx (Zz _ _) rfl (fun w1 s1=>?_);refine aY Hx (Zz _ _) rfl (fun w2 s2=>?_);refine qk (cs:=#[.string ⟨#[]⟩,.slice none 0 0]) j5 rfl (fun b3 w3 a9 s3 hr=>?_);have lo3:=nLT (Bel.size hB.u) hr;refine qk (cs:=#[.string ⟨#[]⟩,.slice none 0 0]) j5 rfl (fun b4 w4 an s4 hr=>?_);have:=nLL a9.lt hr;have lo4:=nLT (Bel.size hB.u) hr;refine zk a9.u rfl rfl xq rfl zJ (fun w5 hq s5=>?_);replace a9:=hq;refine zk an.u rfl rfl xq rfl zJ (fun w6 hq s6=>?_);replace an:=hq;refine zn6 ?_;refine zW Jy (Q0 [] (Ts.b false) (Ts.b true) _ _ _ _ _ _ _ (by simp) (Fz.triv _ _ TS (fun _=>SimsIn.nil)) (Fz.triv _ _ TS (fun _=>SimsIn.nil))) rfl (fun e' w7 hr=>?_);obtain⟨⟨_,rfl,A14,c14,n14,rfl,a1⟩,s7⟩:=hr;replace s7:=sB s7;refine⟨_,rfl,?_⟩;refine yj (cs:=#[.string ⟨#[]⟩,.slice none 0 0]) j5 rfl (fun _=>rfl) (fun _=>rfl) xq rfl zJ (fun b5 w9 bg s8 hr=>?_);refine zn6 ?_;replace a1:=a1.tr0 s8;refine zW Jy (Q0 [] mS5 (Ts.b true) _ _ _ _ _ _ _ (by simp) a1 (Fz.triv _ _ TS (fun _=>SimsIn.nil))) rfl (fun e' w10 hr=>?_);obtain⟨⟨_,rfl,A17,c17,n17,rfl,a2⟩,s9⟩:=hr;replace s9:=sB s9;refine⟨_,rfl,?_⟩;refine yj (cs:=#[.string ⟨#[]⟩,.slice none 0 0]) j5 rfl (fun _=>rfl) (fun _=>rfl) xq rfl zJ (fun b6 w12 bf ad hr=>?_);refine zn6 ?_;replace a1:=a1.tr0 (s9.t ad);refine zW Jy (Q0 [] (Ts.b false) mS5 _ _ _ _ _ _ _ (by simp) (Fz.triv _ _ TS (fun _=>SimsIn.nil)) a1) rfl (fun e' w13 hr=>?_);obtain⟨⟨_,rfl,A20,c20,n20,rfl,a8⟩,a5⟩:=hr;replace a5:=sB a5;refine⟨_,rfl,?_⟩;refine yj (cs:=#[.string ⟨#[]⟩,.slice none 0 0]) j5 rfl (fun _=>rfl) (fun _=>rfl) xq rfl zJ (fun b7 w15 be a6 hr=>?_);refine zn6 ?_;replace a2:=a2.tr0 (ad.t (a5.t a6));replace a1:=a1.tr0 (a5.t a6);refine zW Jy (Q0 [] mS5 mS6 _ _ _ _ _ _ _ (by simp) a1 a2) rfl (fun e' w16 hr=>?_);obtain⟨⟨_,rfl,A23,c23,n23,rfl,a7⟩,a3⟩:=hr;replace a3:=sB a3;refine⟨_,rfl,?_⟩;refine yj (cs:=#[.string ⟨#[]⟩,.slice none 0 0]) j5 rfl (fun _=>rfl) (fun _=>rfl) xq rfl zJ (fun b8 w18 hb8 a4 hr=>?_);refine zn3 ?_;refine y7 (rg [9] 24 67) (fun g w'=>Same [] w18 w'/\MnR w18 (g 9) w') ?_ (fun g6 w19 hI=>?_)
 ·replace a9:=(a9.tr1 s6 oG).tr0 (s7.t (s8.t (s9.t (ad.t (a5.t (a6.t (a3.t a4)))))));replace an:=an.tr0 (s7.t (s8.t (s9.t (ad.t (a5.t (a6.t (a3.t a4)))))));replace bg:=bg.tr0 (s9.t (ad.t (a5.t (a6.t (a3.t a4)))));replace bf:=bf.tr0 (a5.t (a6.t (a3.t a4)));replace a8:=a8.tr0 (a6.t (a3.t a4));replace a1:=a1.tr0 (a3.t a4);replace a2:=a2.tr0 (a3.t a4);replace be:=be.tr0 (a3.t a4);replace a7:=a7.tr0 a4;have hh:=fun f Q k0 k1 k2 k3 k4 k5 kq=>mean_r6 a9 an bg bf be hb8 a1 a2 a8 a7 f Q k0 k1 k2 k3 k4 k5 kq
  exact hh _ _ (by rfl) (by rfl) (by rfl) (by rfl) (by rfl) (by rfl) (by intro d;cases d<;>exact fun _ _ _ _ h=>h)
 obtain⟨s15,b90,S30,c30,B30,m30,S37,c37,B37,m37,S40,c40,B40,m40,S55,c55,B55,m55,S68,c68,B68,m68,S89,c89,B89,m89,e9,lo90,bd,bc,bb,ba,b9,b2,b1⟩:=hI;refine jK 9 _ e9 nu (zn7 ?_);refine ky rfl (fun c91=>?_) (fun c91=>?_)
 ·exact absurd c91 dE
 refine vy ?_;exact⟨⟨b90,_,b90,rfl,bd,(.cons bc (.cons bb (.cons ba (.cons b9 (.cons b2 (.cons b1 .nil))))))⟩,hB.u⟩
end Go.Proofs.YtiofaflajkgiaaaGreatDoor
