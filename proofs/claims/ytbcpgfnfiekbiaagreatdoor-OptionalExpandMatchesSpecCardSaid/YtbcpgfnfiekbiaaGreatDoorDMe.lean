/- What these functions of the program compute, at every world: glosswright/glosswrightequal.base, glosswright/glosswrightequal.fun, glosswright/glosswrightequal.con, glosswright/glosswrightequal.bound, glosswright/glosswrightequal.abs, glosswright/glosswrightequal.app. What these functions of the program compute, at every world: glosswright/glosswrightequal.quantified, glosswright/glosswrightequal.quantified. What these functions of the program compute, at every world: glosswright/glosswrightequal.meanings, glosswright/glosswrightequal.meanings. -/
import Derived.Test.YtbcpgfnfiekbiaaGreatDoorU
import Derived.Test.YtbcpgfnfiekbiaaGreatDoorTrm
import Derived.Test.YtbcpgfnfiekbiaaGreatDoorStk
import Derived.Test.YtbcpgfnfiekbiaaGreatDoorEng7
namespace Go.Proofs.YtbcpgfnfiekbiaaGreatDoor
open Go.RowKit
theorem xw:(Tryz.prog.info? 41).map (·.size)=some 2:=by kernel_rfl
theorem vW:(Tryz.prog.info? 44).map (·.size)=some 6:=by kernel_rfl
theorem vx:(Tryz.prog.info? 41).map (·.zero)=some (some (.agg #[.string ⟨#[]⟩,.slice none 0 0])):=by kernel_rfl
theorem uj:(Tryz.prog.info? 44).map (·.zero)=some (some (.agg #[.int .i64 0,.string ⟨#[]⟩,.int .i64 0,.string ⟨#[]⟩,.slice none 0 0,.slice none 0 0])):=by kernel_rfl
theorem o7 (s:ByteArray) (w:World):Calls Tryz.prog 17 #[.string s] w fun e w'=>e= .returned (.agg #[.string s,.slice none 0 0])∧Bel w w':=by
 refine enT Tryz.func17 Tryz.ntmps17 rfl rfl fun hB=>?_;refine zn2 ?_;refine qq (cs:=#[.string ⟨#[]⟩,.slice none 0 0]) vx rfl (fun b2 w1 hb2 s1 hr=>?_);have lo2:=nLT (Bel.size hB) hr;refine zn5 ?_;refine wl (ZY (v0:= .string _) (fun v0=>#[v0,.slice none 0 0]) rfl kR) ?_;refine zk hb2 rfl rfl xw rfl zQ (fun w2 hq s2=>?_);replace hb2:=hq;refine zn3 ?_;refine x7 (.inl rfl) rfl (zy U41 rfl rfl hb2.range0 xw) ?_;exact⟨rfl,hB.u⟩
theorem gj (X:List Nat) (a b:Ts) (A1 A2:Option Addr) (c1 c2 n1 n2:Nat) (w:World) (hX:∀ x ∈ X,x < w.heap.size) (h1:Fz X n1 TS w (fun w=>SimsIn w A1 (a).sm.args)) (h2:Fz X n2 TS w (fun w=>SimsIn w A2 (b).sm.args)):Calls Tryz.prog 18 #[.agg #[.string (a).sm.base,.slice A1 (a).sm.args.length c1],.agg #[.string (b).sm.base,.slice A2 (b).sm.args.length c2]] w fun e w'=>(∃ z,e= .returned z∧SmD X (.f a b) w' z)∧Bel w w':=by
 refine enT Tryz.func18 Tryz.ntmps18 rfl rfl fun hB=>?_;refine zn2 ?_;refine x6 (v:= .agg #[_,_]) (cs:=#[_,_]) rfl rfl (fun b2 w1 hb2 s1 hr=>?_);refine x6 (v:= .agg #[_,_]) (cs:=#[_,_]) rfl rfl (fun b3 w2 hb3 s2 hr=>?_);refine qq (cs:=#[.string ⟨#[]⟩,.slice none 0 0]) vx rfl (fun b4 w3 hb4 s3 hr=>?_);have lo4:=nLT (Bel.size hB.u) hr;refine zn6 ?_;refine qw (cs:=#[_,_,_,_]) [(0,.agg _),(1,.agg _)] rfl U39 xw vx dE dE kR rfl (fun b7 w4 hb7 s4 hr=>?_);have:=nLL hb4.lt hr;refine wl (ZY (v0:= .slice _ _ _) (fun v0=>#[.string ⟨#[]⟩,v0]) rfl kR) ?_;refine zk hb4.u rfl rfl xw rfl zQ (fun w5 hq s5=>?_);replace hb4:=hq;refine zn3 ?_;refine x7 (.inl rfl) rfl (zy U41 rfl rfl hb4.range0 xw) ?_;replace hB:=(hB.tr0 (s1.trans (s2.trans (s3.trans s4)))).tr1 s5 lo4;replace hb7:=hb7.tr1 s5 oM;exact⟨⟨_,rfl,SmD.two hb7 (fun hm=>by have:=hX _ hm;omega) (h1.bel hB) (h2.bel hB)⟩,hB⟩
theorem uZ (X:List Nat) (nm:ByteArray) (a:Ts) (A1:Option Addr) (c1 n1:Nat) (w:World) (h1:Fz X n1 TS w (fun w=>SimsIn w A1 (a).sm.args)):Calls Tryz.prog 24 #[.string nm,.agg #[.string (a).sm.base,.slice A1 (a).sm.args.length c1]] w fun e w'=>(∃ z,e= .returned z∧TmD X (.con nm a) w' z)∧Bel w w':=by
 refine enT Tryz.func24 Tryz.ntmps24 rfl rfl fun hB=>?_;refine zn2 ?_;refine x6 (v:= .agg #[_,_]) (cs:=#[_,_]) rfl rfl (fun b3 w1 hb3 s1 hr=>?_);refine qq (cs:=#[.int .i64 0,.string ⟨#[]⟩,.int .i64 0,.string ⟨#[]⟩,.slice none 0 0,.slice none 0 0]) uj rfl (fun b4 w2 hb4 s2 hr=>?_);have lo4:=nLT (Bel.size hB.u) hr;refine zn6 ?_;refine wl (Qz (v0:= .int _ _) (v1:= .string _) (v2:= .agg _) (fun v0 v1 v2=>#[v0,v1,.int .i64 0,(qx v2 0),(qx v2 1),.slice none 0 0]) rfl rfl rfl kR) ?_;refine zk hb4 rfl rfl vW rfl zQ (fun w3 hq s3=>?_);replace hb4:=hq;refine zn3 ?_;refine x7 (.inl rfl) rfl (zy U44 rfl rfl hb4.range0 vW) ?_;exact⟨⟨_,rfl,TmD.con nm (h1.bel hB.u)⟩,hB.u⟩
theorem vw (X:List Nat) (i:Nat) (w:World):Calls Tryz.prog 27 #[.int .i64 ((i:Nat):Int)] w fun e w'=>(∃ z,e= .returned z∧TmD X (.var i) w' z)∧Bel w w':=by
 refine enT Tryz.func27 Tryz.ntmps27 rfl rfl fun hB=>?_;refine zn2 ?_;refine qq (cs:=#[.int .i64 0,.string ⟨#[]⟩,.int .i64 0,.string ⟨#[]⟩,.slice none 0 0,.slice none 0 0]) uj rfl (fun b2 w1 hb2 s1 hr=>?_);have lo2:=nLT (Bel.size hB) hr;refine zn5 ?_;refine wl (xY (v0:= .int _ _) (v1:= .int _ _) (fun v0 v1=>#[v0,.string ⟨#[]⟩,v1,.string ⟨#[]⟩,.slice none 0 0,.slice none 0 0]) rfl rfl kR) ?_;refine zk hb2 rfl rfl vW rfl zQ (fun w2 hq s2=>?_);replace hb2:=hq;refine zn3 ?_;refine x7 (.inl rfl) rfl (zy U44 rfl rfl hb2.range0 vW) ?_;exact⟨⟨_,rfl,TmD.var i⟩,hB.u⟩
theorem u5 (X:List Nat) (a:Ts) (x:Tv) (A1 S2 B2:Option Addr) (c1 n1 c2 m2 n2:Nat) (w:World) (hX:∀ x ∈ X,x < w.heap.size) (h1:Fz X n1 TS w (fun w=>SimsIn w A1 (a).sm.args)) (h2:Fz X n2 TS w (fun w=>SimsIn w S2 (x).tm.type.args∧TmsIn w B2 (x).tm.args)):Calls Tryz.prog 25 #[.agg #[.string (a).sm.base,.slice A1 (a).sm.args.length c1],.agg #[.int .i64 (x).tm.kind,.string (x).tm.name,.int .i64 (x).tm.index,.string (x).tm.type.base,.slice S2 (x).tm.type.args.length c2,.slice B2 (x).tm.args.length m2]] w fun e w'=>(∃ z,e= .returned z∧TmD X (.abs a x) w' z)∧Bel w w':=by
 refine enT Tryz.func25 Tryz.ntmps25 rfl rfl fun hB=>?_;refine zn2 ?_;refine x6 (v:= .agg #[_,_]) (cs:=#[_,_]) rfl rfl (fun b2 w1 hb2 s1 hr=>?_);refine x6 (v:= .agg #[_,_,_,_,_,_]) (cs:=#[_,_,_,_,_,_]) rfl rfl (fun b3 w2 hb3 s2 hr=>?_);refine qq (cs:=#[.int .i64 0,.string ⟨#[]⟩,.int .i64 0,.string ⟨#[]⟩,.slice none 0 0,.slice none 0 0]) uj rfl (fun b4 w3 hb4 s3 hr=>?_);have lo4:=nLT (Bel.size hB.u) hr;refine zn6 ?_;refine qw (cs:=#[_,_,_,_,_,_]) [(0,.agg _)] rfl U42 vW uj dE dE kR rfl (fun b7 w4 hb7 s4 hr=>?_);have:=nLL hb4.lt hr;refine wl (Qz (v0:= .int _ _) (v1:= .agg _) (v2:= .slice _ _ _) (fun v0 v1 v2=>#[v0,.string ⟨#[]⟩,.int .i64 0,(qx v1 0),(qx v1 1),v2]) rfl rfl rfl kR) ?_;refine zk hb4.u rfl rfl vW rfl zQ (fun w5 hq s5=>?_);replace hb4:=hq;refine zn3 ?_;refine x7 (.inl rfl) rfl (zy U44 rfl rfl hb4.range0 vW) ?_;replace hB:=(hB.tr0 (s1.trans (s2.trans (s3.trans s4)))).tr1 s5 lo4;replace hb7:=hb7.tr1 s5 oM;exact⟨⟨_,rfl,TmD.abs (h1.bel hB) hb7 (fun hm=>by have:=hX _ hm;omega) (h2.bel hB)⟩,hB⟩
theorem oY (X:List Nat) (x y:Tv) (S1 B1 S2 B2:Option Addr) (c1 m1 n1 c2 m2 n2:Nat) (w:World) (hX:∀ x ∈ X,x < w.heap.size) (h1:Fz X n1 TS w (fun w=>SimsIn w S1 (x).tm.type.args∧TmsIn w B1 (x).tm.args)) (h2:Fz X n2 TS w (fun w=>SimsIn w S2 (y).tm.type.args∧TmsIn w B2 (y).tm.args)):Calls Tryz.prog 26 #[.agg #[.int .i64 (x).tm.kind,.string (x).tm.name,.int .i64 (x).tm.index,.string (x).tm.type.base,.slice S1 (x).tm.type.args.length c1,.slice B1 (x).tm.args.length m1],.agg #[.int .i64 (y).tm.kind,.string (y).tm.name,.int .i64 (y).tm.index,.string (y).tm.type.base,.slice S2 (y).tm.type.args.length c2,.slice B2 (y).tm.args.length m2]] w fun e w'=>(∃ z,e= .returned z∧TmD X (.app x y) w' z)∧Bel w w':=by
 refine enT Tryz.func26 Tryz.ntmps26 rfl rfl fun hB=>?_;refine zn2 ?_;refine x6 (v:= .agg #[_,_,_,_,_,_]) (cs:=#[_,_,_,_,_,_]) rfl rfl (fun b2 w1 hb2 s1 hr=>?_);refine x6 (v:= .agg #[_,_,_,_,_,_]) (cs:=#[_,_,_,_,_,_]) rfl rfl (fun b3 w2 hb3 s2 hr=>?_);refine qq (cs:=#[.int .i64 0,.string ⟨#[]⟩,.int .i64 0,.string ⟨#[]⟩,.slice none 0 0,.slice none 0 0]) uj rfl (fun b4 w3 hb4 s3 hr=>?_);have lo4:=nLT (Bel.size hB.u) hr;refine zn6 ?_;refine qw (cs:=#[_,_,_,_,_,_,_,_,_,_,_,_]) [(0,.agg _),(1,.agg _)] rfl U42 vW uj dE dE kR rfl (fun b7 w4 hb7 s4 hr=>?_);have:=nLL hb4.lt hr;refine wl (xY (v0:= .int _ _) (v1:= .slice _ _ _) (fun v0 v1=>#[v0,.string ⟨#[]⟩,.int .i64 0,.string ⟨#[]⟩,.slice none 0 0,v1]) rfl rfl kR) ?_;refine zk hb4.u rfl rfl vW rfl zQ (fun w5 hq s5=>?_);replace hb4:=hq;refine zn3 ?_;refine x7 (.inl rfl) rfl (zy U44 rfl rfl hb4.range0 vW) ?_;replace hB:=(hB.tr0 (s1.trans (s2.trans (s3.trans s4)))).tr1 s5 lo4;replace hb7:=hb7.tr1 s5 oM;exact⟨⟨_,rfl,TmD.app hb7 (fun hm=>by have:=hX _ hm;omega) (h1.bel hB) (h2.bel hB)⟩,hB⟩
end Go.Proofs.YtbcpgfnfiekbiaaGreatDoor
namespace Go.Proofs.YtbcpgfnfiekbiaaGreatDoor
open Go.RowKit
def qN19 (s1 s2:ByteArray):Ts:=(fun _=>(Ts.f (Ts.f (Ts.b false) (Ts.b true)) (Ts.b true))) (s1,s2)
def qN20 (s1 s2:ByteArray):Tv:=(Tv.con s1 (qN19 s1 s2))
def qN26 (s1 s2:ByteArray):Ts:=(fun _=>(Ts.f (Ts.b true) (Ts.b true))) (s1,s2)
def qN27 (s1 s2:ByteArray):Ts:=(Ts.f (Ts.b true) (qN26 s1 s2))
def qN28 (s1 s2:ByteArray):Tv:=(Tv.con s2 (qN27 s1 s2))
def qN29 (s1 s2:ByteArray):Tv:=(fun _=>(Tv.var 2)) (s1,s2)
def qN30 (s1 s2:ByteArray):Tv:=(fun _=>(Tv.var 0)) (s1,s2)
def qN31 (s1 s2:ByteArray):Tv:=(Tv.app (qN29 s1 s2) (qN30 s1 s2))
def qN32 (s1 s2:ByteArray):Tv:=(Tv.app (qN28 s1 s2) (qN31 s1 s2))
def qN33 (s1 s2:ByteArray):Tv:=(fun _=>(Tv.var 1)) (s1,s2)
def qN34 (s1 s2:ByteArray):Tv:=(fun _=>(Tv.var 0)) (s1,s2)
def qN35 (s1 s2:ByteArray):Tv:=(Tv.app (qN33 s1 s2) (qN34 s1 s2))
def qN36 (s1 s2:ByteArray):Tv:=(Tv.app (qN32 s1 s2) (qN35 s1 s2))
def qN37 (s1 s2:ByteArray):Tv:=(Tv.abs (Ts.b false) (qN36 s1 s2))
def IW (s1 s2:ByteArray):Tv:=(Tv.app (qN20 s1 s2) (qN37 s1 s2))
def qM49 (s1 s2:ByteArray):Tv:=(Tv.abs (Ts.f (Ts.b false) (Ts.b true)) (IW s1 s2))
def qM50 (s1 s2:ByteArray):Tv:=(Tv.abs (Ts.f (Ts.b false) (Ts.b true)) (qM49 s1 s2))
def qY42 (s1 s2:ByteArray):Ts:=(fun _=>(Ts.f (Ts.b true) (Ts.b true))) (s1,s2)
def qY43 (s1 s2:ByteArray):Tv:=(Tv.con ⟨#[110,111,116]⟩ (qY42 s1 s2))
def qY45 (s1 s2:ByteArray):Tv:=(Tv.app (qY43 s1 s2) (IW s1 s2))
def qY49 (s1 s2:ByteArray):Tv:=(Tv.abs (Ts.f (Ts.b false) (Ts.b true)) (qY45 s1 s2))
def qY50 (s1 s2:ByteArray):Tv:=(Tv.abs (Ts.f (Ts.b false) (Ts.b true)) (qY49 s1 s2))
def quN (s1 s2:ByteArray):Tv:=(qM50 s1 s2)
def quY (s1 s2:ByteArray):Tv:=(qY50 s1 s2)
def QuR (s1 s2:ByteArray) (wc:World) (v:Value) (w':World):Prop:=∃ b10 S38 c38 B38 m38 n38,v= .pointer (some ⟨b10,0,none⟩)∧wc.heap.size≤b10∧Blk w' b10 44 #[.int .i64 ((IW s1 s2)).tm.kind,.string ((IW s1 s2)).tm.name,.int .i64 ((IW s1 s2)).tm.index,.string ((IW s1 s2)).tm.type.base,.slice S38 ((IW s1 s2)).tm.type.args.length c38,.slice B38 ((IW s1 s2)).tm.args.length m38]∧Fz [b10] n38 TS w' (fun w=>SimsIn w S38 ((IW s1 s2)).tm.type.args∧TmsIn w B38 ((IW s1 s2)).tm.args)
theorem Same.new10 {b:Nat} {w w1 w2:World} (h:Same [] w w1) (hs:Same [b] w1 w2) (hb:w.heap.size≤b):Same [] w w2:=
  ⟨hs.os.trans h.os,hs.tape.trans h.tape,hs.output.trans h.output,nLT h.size hs.size,fun k hk _=>by
    rw [hs.blk k (nLL hk h.size) (by simp;omega)];exact h.blk k hk (by simp)⟩
theorem W7:zK Tryz.prog 17=true:=by kernel_rfl
theorem Y1:zK Tryz.prog 18=true:=by kernel_rfl
theorem QZ:zK Tryz.prog 24=true:=by kernel_rfl
theorem Q4:zK Tryz.prog 25=true:=by kernel_rfl
theorem Xy:zK Tryz.prog 26=true:=by kernel_rfl
theorem Q3:zK Tryz.prog 27=true:=by kernel_rfl
set_option maxHeartbeats 2000000 in
theorem qu_r3 {wc:World} {b7 b8 b9 c15 n15:Nat} {A15:Option Addr} (s1 s2:ByteArray) (hb7:Blk wc b7 41 #[.string ⟨#[101]⟩,.slice none 0 0]) (hb8:Blk wc b8 41 #[.string ⟨#[116]⟩,.slice none 0 0]) (hb9:Blk wc b9 41 #[.string ((Ts.f (Ts.b false) (Ts.b true))).sm.base,.slice A15 ((Ts.f (Ts.b false) (Ts.b true))).sm.args.length c15]) (hz15:Fz [] n15 TS wc (fun w=>SimsIn w A15 ((Ts.f (Ts.b false) (Ts.b true))).sm.args)) (f:Fr) (Q:Exit→Act→World→Prop) (k0:f 0= .string s1) (k1:f 1= .string s2) (k7:f 7= .pointer (some ⟨b7,0,none⟩)) (k8:f 8= .pointer (some ⟨b8,0,none⟩)) (k9:f 9= .pointer (some ⟨b9,0,none⟩)) (hPQ:PQ Q):WC Tryz.prog (sl (sr (sr (sr (ob Tryz.f23.body))))) (QRS 51 [10,16,17,18,19,20,21,22,23,24,25,26,27,28,29,30,31,32,33,34,35,36,37,38] f (fun g w'=>Same [] wc w'∧QuR s1 s2 wc (g 10) w') Q) 51 f wc:=by
 have hZ:Same [] wc wc:=Same.refl _ _;refine zZ 0 _ k0 nu (zZ 1 _ k1 nu (zZ 7 _ k7 nu (zZ 8 _ k8 nu (zZ 9 _ k9 nu ?_))));have z7:=hb7.lt;have z8:=hb8.lt;have z9:=hb9.lt;refine kK 24 [16,17,18,19,20,21,22,23,24,25,26,27,28,29,30,31,32,33,34,35,36,37,38,10] (fun ix=>Nat.beq ix 23) (fun ix v wv=>match ix with | 0=>v= .string s1 | 1=>v= .agg #[.string ((Ts.f (Ts.b false) (Ts.b true))).sm.base,.slice A15 ((Ts.f (Ts.b false) (Ts.b true))).sm.args.length c15] | 2=>v= .agg #[.string ((Ts.b true)).sm.base,.slice none ((Ts.b true)).sm.args.length 0] | 3=>SmD [] (qN19 s1 s2) wv (v) | 4=>TmD [] (qN20 s1 s2) wv (v) | 5=>v= .agg #[.string ((Ts.b false)).sm.base,.slice none ((Ts.b false)).sm.args.length 0] | 6=>v= .string s2 | 7=>v= .agg #[.string ((Ts.b true)).sm.base,.slice none ((Ts.b true)).sm.args.length 0] | 8=>v= .agg #[.string ((Ts.b true)).sm.base,.slice none ((Ts.b true)).sm.args.length 0] | 9=>v= .agg #[.string ((Ts.b true)).sm.base,.slice none ((Ts.b true)).sm.args.length 0] | 10=>SmD [] (qN26 s1 s2) wv (v) | 11=>SmD [] (qN27 s1 s2) wv (v) | 12=>TmD [] (qN28 s1 s2) wv (v) | 13=>TmD [] (qN29 s1 s2) wv (v) | 14=>TmD [] (qN30 s1 s2) wv (v) | 15=>TmD [] (qN31 s1 s2) wv (v) | 16=>TmD [] (qN32 s1 s2) wv (v) | 17=>TmD [] (qN33 s1 s2) wv (v) | 18=>TmD [] (qN34 s1 s2) wv (v) | 19=>TmD [] (qN35 s1 s2) wv (v) | 20=>TmD [] (qN36 s1 s2) wv (v) | 21=>TmD [] (qN37 s1 s2) wv (v) | 22=>TmD [] (IW s1 s2) wv (v) | 23=>∃ b,v= .pointer (some ⟨b,0,none⟩)∧wc.heap.size≤b∧Blk wv b 44 #[.int .i64 0,.string ⟨#[]⟩,.int .i64 0,.string ⟨#[]⟩,.slice none 0 0,.slice none 0 0] | _=>True) kR kR ?_ ?_ ?_
 ·intro ix v wv wv2 h t1
  match ix,h with
  | 0,h=>exact h
  | 1,h=>exact h
  | 2,h=>exact h
  | 3,h=>
   obtain⟨A19,c19,n19,e19,hz19⟩:=h;exact⟨A19,c19,n19,e19,hz19.tr0 t1⟩
  | 4,h=>
   obtain⟨S20,c20,B20,m20,n20,e20,hz20⟩:=h;exact⟨S20,c20,B20,m20,n20,e20,hz20.tr0 t1⟩
  | 5,h=>exact h
  | 6,h=>exact h
  | 7,h=>exact h
  | 8,h=>exact h
  | 9,h=>exact h
  | 10,h=>
   obtain⟨A26,c26,n26,e26,hz26⟩:=h;exact⟨A26,c26,n26,e26,hz26.tr0 t1⟩
  | 11,h=>
   obtain⟨A27,c27,n27,e27,hz27⟩:=h;exact⟨A27,c27,n27,e27,hz27.tr0 t1⟩
  | 12,h=>
   obtain⟨S28,c28,B28,m28,n28,e28,hz28⟩:=h;exact⟨S28,c28,B28,m28,n28,e28,hz28.tr0 t1⟩
  | 13,h=>
   obtain⟨S29,c29,B29,m29,n29,e29,hz29⟩:=h;exact⟨S29,c29,B29,m29,n29,e29,hz29.tr0 t1⟩
  | 14,h=>
   obtain⟨S30,c30,B30,m30,n30,e30,hz30⟩:=h;exact⟨S30,c30,B30,m30,n30,e30,hz30.tr0 t1⟩
  | 15,h=>
   obtain⟨S31,c31,B31,m31,n31,e31,hz31⟩:=h;exact⟨S31,c31,B31,m31,n31,e31,hz31.tr0 t1⟩
  | 16,h=>
   obtain⟨S32,c32,B32,m32,n32,e32,hz32⟩:=h;exact⟨S32,c32,B32,m32,n32,e32,hz32.tr0 t1⟩
  | 17,h=>
   obtain⟨S33,c33,B33,m33,n33,e33,hz33⟩:=h;exact⟨S33,c33,B33,m33,n33,e33,hz33.tr0 t1⟩
  | 18,h=>
   obtain⟨S34,c34,B34,m34,n34,e34,hz34⟩:=h;exact⟨S34,c34,B34,m34,n34,e34,hz34.tr0 t1⟩
  | 19,h=>
   obtain⟨S35,c35,B35,m35,n35,e35,hz35⟩:=h;exact⟨S35,c35,B35,m35,n35,e35,hz35.tr0 t1⟩
  | 20,h=>
   obtain⟨S36,c36,B36,m36,n36,e36,hz36⟩:=h;exact⟨S36,c36,B36,m36,n36,e36,hz36.tr0 t1⟩
  | 21,h=>
   obtain⟨S37,c37,B37,m37,n37,e37,hz37⟩:=h;exact⟨S37,c37,B37,m37,n37,e37,hz37.tr0 t1⟩
  | 22,h=>
   obtain⟨S38,c38,B38,m38,n38,e38,hz38⟩:=h;exact⟨S38,c38,B38,m38,n38,e38,hz38.tr0 t1⟩
  | 23,h=>
   obtain⟨b10,e10,lo10,hb10⟩:=h;exact⟨b10,e10,lo10,hb10.tr0 t1⟩
  | _ + 24,h=>exact trivial
 ·intro ix o hix hoq gg wx t2 hd hdis
  match ix,hix,hoq with
  | 0,_,hoq=>
   cases sI hoq;exact oVq (yq (v:= .string _) rfl) rfl
  | 1,_,hoq=>
   cases sI hoq;exact oVq (zY U41 rfl rfl hb9.u.range0 xw) rfl
  | 2,_,hoq=>
   cases sI hoq;exact oVq (zY U41 rfl rfl hb8.u.range0 xw) rfl
  | 3,_,hoq=>
   cases sI hoq;refine zx 17 _ (hd 1 (zj kR)) nu (zx 18 _ (hd 2 (zj kR)) nu ?_);replace hz15:=hz15.tr0 t2;refine vQ Y1 (gj [] (Ts.f (Ts.b false) (Ts.b true)) (Ts.b true) _ _ _ _ _ _ wx (by simp) hz15 (Fz.triv _ _ TS (fun _=>SimsIn.nil))) rfl (fun e' w2 hr=>?_);obtain⟨⟨_,rfl,hd⟩,t3⟩:=hr;exact⟨_,rfl,sB t3,hd,xX⟩
  | 4,_,hoq=>
   cases sI hoq;obtain⟨A19,c19,n19,e19,hz19⟩:=hd 3 (zj kR);refine zx 16 _ (hd 0 (zj kR)) nu (zx 19 _ e19 nu ?_);refine vQ QZ (uZ [] s1 (qN19 s1 s2) _ _ _ wx hz19) rfl (fun e' w2 hr=>?_);obtain⟨⟨_,rfl,hd⟩,t4⟩:=hr;exact⟨_,rfl,sB t4,hd,xX⟩
  | 5,_,hoq=>
   cases sI hoq;exact oVq (zY U41 rfl rfl hb7.u.range0 xw) rfl
  | 6,_,hoq=>
   cases sI hoq;exact oVq (yq (v:= .string _) rfl) rfl
  | 7,_,hoq=>
   cases sI hoq;exact oVq (zY U41 rfl rfl hb8.u.range0 xw) rfl
  | 8,_,hoq=>
   cases sI hoq;exact oVq (zY U41 rfl rfl hb8.u.range0 xw) rfl
  | 9,_,hoq=>
   cases sI hoq;exact oVq (zY U41 rfl rfl hb8.u.range0 xw) rfl
  | 10,_,hoq=>
   cases sI hoq;refine zx 24 _ (hd 8 (zj kR)) nu (zx 25 _ (hd 9 (zj kR)) nu ?_);refine vQ Y1 (gj [] (Ts.b true) (Ts.b true) _ _ _ _ _ _ wx (by simp) (Fz.triv _ _ TS (fun _=>SimsIn.nil)) (Fz.triv _ _ TS (fun _=>SimsIn.nil))) rfl (fun e' w2 hr=>?_);obtain⟨⟨_,rfl,hd⟩,t5⟩:=hr;exact⟨_,rfl,sB t5,hd,xX⟩
  | 11,_,hoq=>
   cases sI hoq;obtain⟨A26,c26,n26,e26,hz26⟩:=hd 10 (zj kR);refine zx 23 _ (hd 7 (zj kR)) nu (zx 26 _ e26 nu ?_);refine vQ Y1 (gj [] (Ts.b true) (qN26 s1 s2) _ _ _ _ _ _ wx (by simp) (Fz.triv _ _ TS (fun _=>SimsIn.nil)) hz26) rfl (fun e' w2 hr=>?_);obtain⟨⟨_,rfl,hd⟩,t6⟩:=hr;exact⟨_,rfl,sB t6,hd,xX⟩
  | 12,_,hoq=>
   cases sI hoq;obtain⟨A27,c27,n27,e27,hz27⟩:=hd 11 (zj kR);refine zx 22 _ (hd 6 (zj kR)) nu (zx 27 _ e27 nu ?_);refine vQ QZ (uZ [] s2 (qN27 s1 s2) _ _ _ wx hz27) rfl (fun e' w2 hr=>?_);obtain⟨⟨_,rfl,hd⟩,t7⟩:=hr;exact⟨_,rfl,sB t7,hd,xX⟩
  | 13,_,hoq=>
   cases sI hoq;refine vQ Q3 (vw [] 2 wx) rfl (fun e' w2 hr=>?_);obtain⟨⟨_,rfl,hd⟩,t8⟩:=hr;exact⟨_,rfl,sB t8,hd,xX⟩
  | 14,_,hoq=>
   cases sI hoq;refine vQ Q3 (vw [] 0 wx) rfl (fun e' w2 hr=>?_);obtain⟨⟨_,rfl,hd⟩,t9⟩:=hr;exact⟨_,rfl,sB t9,hd,xX⟩
  | 15,_,hoq=>
   cases sI hoq;obtain⟨S29,c29,B29,m29,n29,e29,hz29⟩:=hd 13 (zj kR);obtain⟨S30,c30,B30,m30,n30,e30,hz30⟩:=hd 14 (zj kR);refine zx 29 _ e29 nu (zx 30 _ e30 nu ?_);refine vQ Xy (oY [] (qN29 s1 s2) (qN30 s1 s2) _ _ _ _ _ _ _ _ _ _ wx (by simp) hz29 hz30) rfl (fun e' w2 hr=>?_);obtain⟨⟨_,rfl,hd⟩,t10⟩:=hr;exact⟨_,rfl,sB t10,hd,xX⟩
  | 16,_,hoq=>
   cases sI hoq;obtain⟨S28,c28,B28,m28,n28,e28,hz28⟩:=hd 12 (zj kR);obtain⟨S31,c31,B31,m31,n31,e31,hz31⟩:=hd 15 (zj kR);refine zx 28 _ e28 nu (zx 31 _ e31 nu ?_);refine vQ Xy (oY [] (qN28 s1 s2) (qN31 s1 s2) _ _ _ _ _ _ _ _ _ _ wx (by simp) hz28 hz31) rfl (fun e' w2 hr=>?_);obtain⟨⟨_,rfl,hd⟩,t11⟩:=hr;exact⟨_,rfl,sB t11,hd,xX⟩
  | 17,_,hoq=>
   cases sI hoq;refine vQ Q3 (vw [] 1 wx) rfl (fun e' w2 hr=>?_);obtain⟨⟨_,rfl,hd⟩,t12⟩:=hr;exact⟨_,rfl,sB t12,hd,xX⟩
  | 18,_,hoq=>
   cases sI hoq;refine vQ Q3 (vw [] 0 wx) rfl (fun e' w2 hr=>?_);obtain⟨⟨_,rfl,hd⟩,t13⟩:=hr;exact⟨_,rfl,sB t13,hd,xX⟩
  | 19,_,hoq=>
   cases sI hoq;obtain⟨S33,c33,B33,m33,n33,e33,hz33⟩:=hd 17 (zj kR);obtain⟨S34,c34,B34,m34,n34,e34,hz34⟩:=hd 18 (zj kR);refine zx 33 _ e33 nu (zx 34 _ e34 nu ?_);refine vQ Xy (oY [] (qN33 s1 s2) (qN34 s1 s2) _ _ _ _ _ _ _ _ _ _ wx (by simp) hz33 hz34) rfl (fun e' w2 hr=>?_);obtain⟨⟨_,rfl,hd⟩,t14⟩:=hr;exact⟨_,rfl,sB t14,hd,xX⟩
  | 20,_,hoq=>
   cases sI hoq;obtain⟨S32,c32,B32,m32,n32,e32,hz32⟩:=hd 16 (zj kR);obtain⟨S35,c35,B35,m35,n35,e35,hz35⟩:=hd 19 (zj kR);refine zx 32 _ e32 nu (zx 35 _ e35 nu ?_);refine vQ Xy (oY [] (qN32 s1 s2) (qN35 s1 s2) _ _ _ _ _ _ _ _ _ _ wx (by simp) hz32 hz35) rfl (fun e' w2 hr=>?_);obtain⟨⟨_,rfl,hd⟩,t15⟩:=hr;exact⟨_,rfl,sB t15,hd,xX⟩
  | 21,_,hoq=>
   cases sI hoq;obtain⟨S36,c36,B36,m36,n36,e36,hz36⟩:=hd 20 (zj kR);refine zx 21 _ (hd 5 (zj kR)) nu (zx 36 _ e36 nu ?_);refine vQ Q4 (u5 [] (Ts.b false) (qN36 s1 s2) _ _ _ _ _ _ _ _ wx (by simp) (Fz.triv _ _ TS (fun _=>SimsIn.nil)) hz36) rfl (fun e' w2 hr=>?_);obtain⟨⟨_,rfl,hd⟩,t16⟩:=hr;exact⟨_,rfl,sB t16,hd,xX⟩
  | 22,_,hoq=>
   cases sI hoq;obtain⟨S20,c20,B20,m20,n20,e20,hz20⟩:=hd 4 (zj kR);obtain⟨S37,c37,B37,m37,n37,e37,hz37⟩:=hd 21 (zj kR);refine zx 20 _ e20 nu (zx 37 _ e37 nu ?_);refine vQ Xy (oY [] (qN20 s1 s2) (qN37 s1 s2) _ _ _ _ _ _ _ _ _ _ wx (by simp) hz20 hz37) rfl (fun e' w2 hr=>?_);obtain⟨⟨_,rfl,hd⟩,t17⟩:=hr;exact⟨_,rfl,sB t17,hd,xX⟩
  | 23,_,hoq=>
   cases sI hoq;have hs0:=t2;refine jk (fun ops Q K=>?_);refine qq (cs:=#[.int .i64 0,.string ⟨#[]⟩,.int .i64 0,.string ⟨#[]⟩,.slice none 0 0,.slice none 0 0]) uj rfl (fun b10 w1 hb10 t18 hr=>?_);exact K _ _ ⟨t18,⟨_,rfl,nLT hs0.size hr,hb10⟩,fRq hr hb10.lt⟩
  | _ + 24,hix,_=>exact absurd hix oM
 intro gg w2 t19 hR hdis;obtain⟨S38,c38,B38,m38,n38,e38,hz38⟩:=hR 22 dE;obtain⟨b10,e10,lo10,hb10⟩:=hR 23 dE;refine xK 38 _ e38 nu (xK 10 _ e10 nu ?_);refine zk hb10 rfl rfl vW rfl zQ (fun w3 hq t20=>?_);replace hZ:=hZ.trans t19;replace hZ:=hZ.new10 t20 lo10;replace hz38:=hz38.free t20 hb10 sp_tm;replace hb10:=hq;refine zJ ?_;refine e_R ⟨agA,?_⟩;exact⟨hZ,b10,S38,c38,B38,m38,_,rfl,lo10,hb10,hz38⟩
set_option maxHeartbeats 2000000 in
theorem quN_d (s1 s2:ByteArray) (w:World):Calls Tryz.prog 23 #[.string s1,.string s2,.bool false] w fun e w'=>(∃ z,e= .returned z∧TmD [] (quN s1 s2) w' z)∧Bel w w':=by
 refine enT Tryz.func23 Tryz.ntmps23 rfl rfl fun hB=>?_;refine zn2 ?_;refine qq (cs:=#[.int .i64 0,.string ⟨#[]⟩,.int .i64 0,.string ⟨#[]⟩,.slice none 0 0,.slice none 0 0]) uj rfl (fun b6 w1 hb6 t1 hr=>?_);have lo6:=nLT (Bel.size hB) hr;refine zn4 ?_;refine zV W7 (o7 _ _) rfl (fun e' w2 hr=>?_);obtain⟨rfl,t2⟩:=hr;replace t2:=sB t2;refine⟨_,rfl,?_⟩;refine zV W7 (o7 _ _) rfl (fun e' w3 hr=>?_);obtain⟨rfl,t3⟩:=hr;replace t3:=sB t3;refine⟨_,rfl,?_⟩;refine qq (cs:=#[.string ⟨#[]⟩,.slice none 0 0]) vx rfl (fun b7 w4 hb7 t4 hr=>?_);have:=nLL hb6.u.lt hr;have lo7:=nLT (Bel.size hB.u) hr;refine qq (cs:=#[.string ⟨#[]⟩,.slice none 0 0]) vx rfl (fun b8 w5 hb8 t5 hr=>?_);have:=nLL hb6.u.lt hr;have:=nLL hb7.lt hr;have lo8:=nLT (Bel.size hB.u) hr;refine zk hb7.u rfl rfl xw rfl zQ (fun w6 hq t6=>?_);replace hb7:=hq;refine zk hb8.u rfl rfl xw rfl zQ (fun w7 hq t7=>?_);replace hb8:=hq;refine zn6 ?_;refine zV Y1 (gj [] (Ts.b false) (Ts.b true) none none 0 0 _ _ _ (by simp) (Fz.triv _ _ TS (fun _=>SimsIn.nil)) (Fz.triv _ _ TS (fun _=>SimsIn.nil))) rfl (fun e' w8 hr=>?_);obtain⟨⟨_,rfl,A15,c15,n15,rfl,hz15⟩,t8⟩:=hr;replace t8:=sB t8;refine⟨_,rfl,?_⟩;refine xV (cs:=#[.string ⟨#[]⟩,.slice none 0 0]) vx rfl (fun _=>rfl) (fun _=>rfl) xw rfl zQ (fun b9 w10 hb9 t9 hr=>?_);refine zn3 ?_;replace hz15:=hz15.tr0 t9;refine yy (rg [10] 16 23) (fun g w'=>Same [] w10 w'∧QuR s1 s2 w10 (g 10) w') ?_ (fun g3 w11 hI=>?_)
 ·replace hb7:=(hb7.tr1 t7 oM).tr0 (t8.trans t9);replace hb8:=hb8.tr0 (t8.trans t9);have hh:=fun f Q k0 k1 k2 k3 k4 kq=>qu_r3 s1 s2 hb7 hb8 hb9 hz15 f Q k0 k1 k2 k3 k4 kq
  exact hh _ _ (by rfl) (by rfl) (by rfl) (by rfl) (by rfl) (by intro d;cases d <;> exact fun _ _ _ _ h=>h)
 obtain⟨t10,b10,S38,c38,B38,m38,n38,e10,lo10,hb10,hz38⟩:=hI;have q15:=hz15.le;replace hB:=(((hB.tr0 (t1.trans (t2.trans (t3.trans (t4.trans t5))))).tr1 t6 lo7).tr1 t7 lo8).tr0 (t8.trans t9);have lo10n:=nLT (Bel.size hB) lo10;replace hz15:=hz15.tr0 t10;replace hz15:=hz15.addX (Y:=[b10]) (fun y hy=> .inr (by rw [List.mem_singleton.1 hy];exact nLT q15 lo10));replace lo10:=lo10n;refine gV 10 _ e10 nu (zn7 ?_);refine vK rfl (fun c39=>?_) (fun c39=>?_)
 ·exact absurd c39 dE
 refine zn3 ?_;refine kz [] [5] [0,1,2,3,4,5] rfl (fun w12 t11=>?_);refine zn3 ?_;replace hz15:=hz15.tr0 t11;replace hb10:=hb10.tr0 t11;replace hz38:=hz38.tr0 t11;refine hcl (fun v wv=>TmD [b10] (qM49 s1 s2) wv (v)) rfl Q4 (u5 [b10] (Ts.f (Ts.b false) (Ts.b true)) (IW s1 s2) _ _ _ _ _ _ _ _ w12 (fun x hx=>by rw [List.mem_singleton.1 hx];exact hb10.lt) hz15 hz38) rfl (fun e' w2 hr=>?_) (fun v49 w13 t12 d49=>?_)
 ·obtain⟨⟨_,rfl,hd⟩,t13⟩:=hr;exact⟨_,rfl,sB t13,hd⟩
 obtain⟨S49,c49,B49,m49,n49,e49,hz49⟩:=d49;subst e49;replace hz15:=hz15.tr0 t12;replace hb10:=hb10.tr0 t12;refine hcl (fun v wv=>TmD [b10] (qM50 s1 s2) wv (v)) rfl Q4 (u5 [b10] (Ts.f (Ts.b false) (Ts.b true)) (qM49 s1 s2) _ _ _ _ _ _ _ _ w13 (fun x hx=>by rw [List.mem_singleton.1 hx];exact hb10.lt) hz15 hz49) rfl (fun e' w2 hr=>?_) (fun v50 w14 t14 d50=>?_)
 ·obtain⟨⟨_,rfl,hd⟩,t15⟩:=hr;exact⟨_,rfl,sB t15,hd⟩
 obtain⟨S50,c50,B50,m50,n50,e50,hz50⟩:=d50;subst e50;refine h1 rfl ?_;refine zk hb6.u rfl rfl vW rfl zQ (fun w15 hq t16=>?_);have hsH5:=t16;replace hb6:=(((hb6.tr0 (t2.trans (t3.trans (t4.trans t5)))).tr1 t6 oM).tr1 t7 oM).tr0 (t8.trans (t9.trans (t10.trans (t11.trans (t12.trans t14)))));replace hz50:=hz50.sp1 t16 hb6 sp_tm;replace hb6:=hq;refine zJ (V0 [] (zn3 ?_));refine x7 (.inl rfl) rfl (zy U44 rfl rfl hb6.range0 vW) ?_;exact⟨⟨_,rfl,_,_,_,_,_,rfl,hz50.nil⟩,hB.u⟩
set_option maxHeartbeats 2000000 in
theorem quY_d (s1 s2:ByteArray) (w:World):Calls Tryz.prog 23 #[.string s1,.string s2,.bool true] w fun e w'=>(∃ z,e= .returned z∧TmD [] (quY s1 s2) w' z)∧Bel w w':=by
 refine enT Tryz.func23 Tryz.ntmps23 rfl rfl fun hB=>?_;refine zn2 ?_;refine qq (cs:=#[.int .i64 0,.string ⟨#[]⟩,.int .i64 0,.string ⟨#[]⟩,.slice none 0 0,.slice none 0 0]) uj rfl (fun b6 w1 hb6 t1 hr=>?_);have lo6:=nLT (Bel.size hB) hr;refine zn4 ?_;refine zV W7 (o7 _ _) rfl (fun e' w2 hr=>?_);obtain⟨rfl,t2⟩:=hr;replace t2:=sB t2;refine⟨_,rfl,?_⟩;refine zV W7 (o7 _ _) rfl (fun e' w3 hr=>?_);obtain⟨rfl,t3⟩:=hr;replace t3:=sB t3;refine⟨_,rfl,?_⟩;refine qq (cs:=#[.string ⟨#[]⟩,.slice none 0 0]) vx rfl (fun b7 w4 hb7 t4 hr=>?_);have:=nLL hb6.u.lt hr;have lo7:=nLT (Bel.size hB.u) hr;refine qq (cs:=#[.string ⟨#[]⟩,.slice none 0 0]) vx rfl (fun b8 w5 hb8 t5 hr=>?_);have:=nLL hb6.u.lt hr;have:=nLL hb7.lt hr;have lo8:=nLT (Bel.size hB.u) hr;refine zk hb7.u rfl rfl xw rfl zQ (fun w6 hq t6=>?_);replace hb7:=hq;refine zk hb8.u rfl rfl xw rfl zQ (fun w7 hq t7=>?_);replace hb8:=hq;refine zn6 ?_;refine zV Y1 (gj [] (Ts.b false) (Ts.b true) none none 0 0 _ _ _ (by simp) (Fz.triv _ _ TS (fun _=>SimsIn.nil)) (Fz.triv _ _ TS (fun _=>SimsIn.nil))) rfl (fun e' w8 hr=>?_);obtain⟨⟨_,rfl,A15,c15,n15,rfl,hz15⟩,t8⟩:=hr;replace t8:=sB t8;refine⟨_,rfl,?_⟩;refine xV (cs:=#[.string ⟨#[]⟩,.slice none 0 0]) vx rfl (fun _=>rfl) (fun _=>rfl) xw rfl zQ (fun b9 w10 hb9 t9 hr=>?_);refine zn3 ?_;replace hz15:=hz15.tr0 t9;refine yy (rg [10] 16 23) (fun g w'=>Same [] w10 w'∧QuR s1 s2 w10 (g 10) w') ?_ (fun g3 w11 hI=>?_)
 ·replace hb7:=(hb7.tr1 t7 oM).tr0 (t8.trans t9);replace hb8:=hb8.tr0 (t8.trans t9);have hh:=fun f Q k0 k1 k2 k3 k4 kq=>qu_r3 s1 s2 hb7 hb8 hb9 hz15 f Q k0 k1 k2 k3 k4 kq
  exact hh _ _ (by rfl) (by rfl) (by rfl) (by rfl) (by rfl) (by intro d;cases d <;> exact fun _ _ _ _ h=>h)
 obtain⟨t10,b10,S38,c38,B38,m38,n38,e10,lo10,hb10,hz38⟩:=hI;have:=nLL hb6.u.lt lo10;have:=nLL hb9.lt lo10;have q15:=hz15.le;replace hB:=(((hB.tr0 (t1.trans (t2.trans (t3.trans (t4.trans t5))))).tr1 t6 lo7).tr1 t7 lo8).tr0 (t8.trans t9);have lo10n:=nLT (Bel.size hB) lo10;replace hz15:=hz15.tr0 t10;replace hz15:=hz15.addX (Y:=[b10]) (fun y hy=> .inr (by rw [List.mem_singleton.1 hy];exact nLT q15 lo10));replace lo10:=lo10n;refine gV 10 _ e10 nu (zn7 ?_);refine vK rfl (fun c39=>?_) (fun c39=>?_)
 ·refine kz [] [6] [0,1,4,2,3,5,6] rfl (fun w12 t11=>?_);refine zn3 ?_;replace hb10:=hb10.tr0 t11;refine hcl (fun v wv=>SmD [b10] (qY42 s1 s2) wv (v)) rfl Y1 (gj [b10] (Ts.b true) (Ts.b true) _ _ _ _ _ _ w12 (fun x hx=>by rw [List.mem_singleton.1 hx];exact hb10.lt) (Fz.triv _ _ TS (fun _=>SimsIn.nil)) (Fz.triv _ _ TS (fun _=>SimsIn.nil))) rfl (fun e' w2 hr=>?_) (fun v42 w13 t12 d42=>?_)
  ·obtain⟨⟨_,rfl,hd⟩,t13⟩:=hr;exact⟨_,rfl,sB t13,hd⟩
  obtain⟨A42,c42,n42,e42,hz42⟩:=d42;subst e42;refine hcl (fun v wv=>TmD [b10] (qY43 s1 s2) wv (v)) rfl QZ (uZ [b10] ⟨#[110,111,116]⟩ (qY42 s1 s2) _ _ _ w13 hz42) rfl (fun e' w2 hr=>?_) (fun v43 w14 t14 d43=>?_)
  ·obtain⟨⟨_,rfl,hd⟩,t15⟩:=hr;exact⟨_,rfl,sB t15,hd⟩
  obtain⟨S43,c43,B43,m43,n43,e43,hz43⟩:=d43;subst e43;replace hz38:=hz38.tr0 (t11.trans (t12.trans t14));replace hb10:=hb10.tr0 (t12.trans t14);refine hcl (fun v wv=>TmD [b10] (qY45 s1 s2) wv (v)) rfl Xy (oY [b10] (qY43 s1 s2) (IW s1 s2) _ _ _ _ _ _ _ _ _ _ w14 (fun x hx=>by rw [List.mem_singleton.1 hx];exact hb10.lt) hz43 hz38) rfl (fun e' w2 hr=>?_) (fun v45 w15 t16 d45=>?_)
  ·obtain⟨⟨_,rfl,hd⟩,t17⟩:=hr;exact⟨_,rfl,sB t17,hd⟩
  obtain⟨S45,c45,B45,m45,n45,e45,hz45⟩:=d45;subst e45;refine h1 rfl ?_;refine zk hb10.u rfl rfl vW rfl zQ (fun w16 hq t18=>?_);have hsH6:=t18;replace hz15:=hz15.tr0 (t11.trans (t12.trans (t14.trans t16)));replace hz15:=hz15.in1 t18 (by simp);replace hz45:=hz45.in1 t18 (by simp);replace hb10:=hq;refine zJ (V0 [] (zn3 ?_));refine kz [] [5] [0,1,2,3,4,5] rfl (fun w17 t19=>?_);refine zn3 ?_;replace hz15:=hz15.tr0 t19;replace hb10:=hb10.tr0 t19;replace hz45:=hz45.tr0 t19;refine hcl (fun v wv=>TmD [b10] (qY49 s1 s2) wv (v)) rfl Q4 (u5 [b10] (Ts.f (Ts.b false) (Ts.b true)) (qY45 s1 s2) _ _ _ _ _ _ _ _ w17 (fun x hx=>by rw [List.mem_singleton.1 hx];exact hb10.lt) hz15 hz45) rfl (fun e' w2 hr=>?_) (fun v49 w18 t20 d49=>?_)
  ·obtain⟨⟨_,rfl,hd⟩,t21⟩:=hr;exact⟨_,rfl,sB t21,hd⟩
  obtain⟨S49,c49,B49,m49,n49,e49,hz49⟩:=d49;subst e49;replace hz15:=hz15.tr0 t20;replace hb10:=hb10.tr0 t20;refine hcl (fun v wv=>TmD [b10] (qY50 s1 s2) wv (v)) rfl Q4 (u5 [b10] (Ts.f (Ts.b false) (Ts.b true)) (qY49 s1 s2) _ _ _ _ _ _ _ _ w18 (fun x hx=>by rw [List.mem_singleton.1 hx];exact hb10.lt) hz15 hz49) rfl (fun e' w2 hr=>?_) (fun v50 w19 t22 d50=>?_)
  ·obtain⟨⟨_,rfl,hd⟩,t23⟩:=hr;exact⟨_,rfl,sB t23,hd⟩
  obtain⟨S50,c50,B50,m50,n50,e50,hz50⟩:=d50;subst e50;refine h1 rfl ?_;refine zk hb6.u rfl rfl vW rfl zQ (fun w20 hq t24=>?_);have hsH5:=t24;replace hb6:=(((((hb6.tr0 (t2.trans (t3.trans (t4.trans t5)))).tr1 t6 oM).tr1 t7 oM).tr0 (t8.trans (t9.trans (t10.trans (t11.trans (t12.trans (t14.trans t16))))))).tr1 t18 oM).tr0 (t19.trans (t20.trans t22));replace hz50:=hz50.sp1 t24 hb6 sp_tm;replace hb6:=hq;refine zJ (V0 [] (zn3 ?_));refine x7 (.inl rfl) rfl (zy U44 rfl rfl hb6.range0 vW) ?_;exact⟨⟨_,rfl,_,_,_,_,_,rfl,hz50.nil⟩,hB.u⟩
 exact absurd c39 dE
end Go.Proofs.YtbcpgfnfiekbiaaGreatDoor
namespace Go.Proofs.YtbcpgfnfiekbiaaGreatDoor
open Go.RowKit
def mS5:Ts:=(Ts.f (Ts.b false) (Ts.b true))
def mS6:Ts:=(Ts.f mS5 (Ts.b true))
def mS7:Ts:=(Ts.f (Ts.b false) mS5)
def mS8:Ts:=(Ts.f mS5 mS6)
def mT26:Tv:=(Tv.var 1)
def mT27:Tv:=(Tv.var 0)
def mT28:Tv:=(Tv.app mT26 mT27)
def mT29:Tv:=(Tv.abs mS5 mT28)
def P7:Tv:=(Tv.abs mS6 mT29)
def mT33:Tv:=(Tv.var 1)
def mT34:Tv:=(Tv.var 0)
def mT35:Tv:=(Tv.app mT33 mT34)
def mT36:Tv:=(Tv.abs mS5 mT35)
def P6:Tv:=(Tv.abs mS8 mT36)
def mT39:Tv:=(Tv.var 0)
def P5:Tv:=(Tv.abs mS5 mT39)
def mT44:Tv:=(Tv.var 1)
def mT46:Tv:=(Tv.var 3)
def mT47:Tv:=(Tv.var 1)
def mT48:Tv:=(Tv.app mT46 mT47)
def mT49:Tv:=(Tv.var 0)
def mT50:Tv:=(Tv.app mT48 mT49)
def mT51:Tv:=(Tv.abs (Ts.b false) mT50)
def mT52:Tv:=(Tv.app mT44 mT51)
def mT53:Tv:=(Tv.abs (Ts.b false) mT52)
def mT54:Tv:=(Tv.abs mS6 mT53)
def P4:Tv:=(Tv.abs mS7 mT54)
def mT58:Ts:=(Ts.f (Ts.b true) (Ts.b true))
def mT61:Tv:=(Tv.var 2)
def mT62:Tv:=(Tv.var 1)
def mT63:Tv:=(Tv.var 0)
def mT64:Tv:=(Tv.app mT62 mT63)
def mT65:Tv:=(Tv.app mT61 mT64)
def mT66:Tv:=(Tv.abs (Ts.b false) mT65)
def mT67:Tv:=(Tv.abs mS5 mT66)
def P3:Tv:=(Tv.abs mT58 mT67)
def mT73:Ts:=(Ts.f (Ts.b true) (Ts.b true))
def mT74:Ts:=(Ts.f (Ts.b true) mT73)
def mT77:Tv:=(Tv.var 2)
def mT78:Tv:=(Tv.var 3)
def mT79:Tv:=(Tv.var 0)
def mT80:Tv:=(Tv.app mT78 mT79)
def mT81:Tv:=(Tv.app mT77 mT80)
def mT82:Tv:=(Tv.var 1)
def mT83:Tv:=(Tv.var 0)
def mT84:Tv:=(Tv.app mT82 mT83)
def mT85:Tv:=(Tv.app mT81 mT84)
def mT86:Tv:=(Tv.abs mS5 mT85)
def mT87:Tv:=(Tv.abs mS6 mT86)
def mT88:Tv:=(Tv.abs mT74 mT87)
def P2:Tv:=(Tv.abs mS6 mT88)
def Qx:List Tv:=[P7,P6,P5,P4,P3,P2]
def MnR (wc:World) (v:Value) (w':World):Prop:=∃ b90 S30 c30 B30 m30 S37 c37 B37 m37 S40 c40 B40 m40 S55 c55 B55 m55 S68 c68 B68 m68 S89 c89 B89 m89,v= .slice (some ⟨b90,0,none⟩) 6 6∧wc.heap.size≤b90∧Blk w' b90 44 #[.int .i64 (P7).tm.kind,.string (P7).tm.name,.int .i64 (P7).tm.index,.string (P7).tm.type.base,.slice S30 (P7).tm.type.args.length c30,.slice B30 (P7).tm.args.length m30,.int .i64 (P6).tm.kind,.string (P6).tm.name,.int .i64 (P6).tm.index,.string (P6).tm.type.base,.slice S37 (P6).tm.type.args.length c37,.slice B37 (P6).tm.args.length m37,.int .i64 (P5).tm.kind,.string (P5).tm.name,.int .i64 (P5).tm.index,.string (P5).tm.type.base,.slice S40 (P5).tm.type.args.length c40,.slice B40 (P5).tm.args.length m40,.int .i64 (P4).tm.kind,.string (P4).tm.name,.int .i64 (P4).tm.index,.string (P4).tm.type.base,.slice S55 (P4).tm.type.args.length c55,.slice B55 (P4).tm.args.length m55,.int .i64 (P3).tm.kind,.string (P3).tm.name,.int .i64 (P3).tm.index,.string (P3).tm.type.base,.slice S68 (P3).tm.type.args.length c68,.slice B68 (P3).tm.args.length m68,.int .i64 (P2).tm.kind,.string (P2).tm.name,.int .i64 (P2).tm.index,.string (P2).tm.type.base,.slice S89 (P2).tm.type.args.length c89,.slice B89 (P2).tm.args.length m89]∧Fz [] b90 TS w' (fun w=>SimsIn w S30 (P7).tm.type.args∧TmsIn w B30 (P7).tm.args)∧Fz [] b90 TS w' (fun w=>SimsIn w S37 (P6).tm.type.args∧TmsIn w B37 (P6).tm.args)∧Fz [] b90 TS w' (fun w=>SimsIn w S40 (P5).tm.type.args∧TmsIn w B40 (P5).tm.args)∧Fz [] b90 TS w' (fun w=>SimsIn w S55 (P4).tm.type.args∧TmsIn w B55 (P4).tm.args)∧Fz [] b90 TS w' (fun w=>SimsIn w S68 (P3).tm.type.args∧TmsIn w B68 (P3).tm.args)∧Fz [] b90 TS w' (fun w=>SimsIn w S89 (P2).tm.type.args∧TmsIn w B89 (P2).tm.args)
theorem MnR.tr0 {wc w1 w2:World} {v:Value} (h:MnR wc v w1) (hs:Same [] w1 w2):MnR wc v w2:=by
  obtain⟨b90,S30,c30,B30,m30,S37,c37,B37,m37,S40,c40,B40,m40,S55,c55,B55,m55,S68,c68,B68,m68,S89,c89,B89,m89,e,lo,hb,hz30,hz37,hz40,hz55,hz68,hz89⟩:=h;exact⟨b90,S30,c30,B30,m30,S37,c37,B37,m37,S40,c40,B40,m40,S55,c55,B55,m55,S68,c68,B68,m68,S89,c89,B89,m89,e,lo,hb.tr0 hs,hz30.tr0 hs,hz37.tr0 hs,hz40.tr0 hs,hz55.tr0 hs,hz68.tr0 hs,hz89.tr0 hs⟩
set_option maxRecDepth 100000 in
set_option maxHeartbeats 8000000 in
theorem mean_r6 {wc:World} {b3 b4 b5 b6 b7 b8 c14 c17 c20 c23 n14 n17 n20 n23:Nat} {A14 A17 A20 A23:Option Addr} (hb3:Blk wc b3 41 #[.string ⟨#[101]⟩,.slice none 0 0]) (hb4:Blk wc b4 41 #[.string ⟨#[116]⟩,.slice none 0 0]) (hb5:Blk wc b5 41 #[.string (mS5).sm.base,.slice A14 (mS5).sm.args.length c14]) (hb6:Blk wc b6 41 #[.string (mS6).sm.base,.slice A17 (mS6).sm.args.length c17]) (hb7:Blk wc b7 41 #[.string (mS7).sm.base,.slice A20 (mS7).sm.args.length c20]) (hb8:Blk wc b8 41 #[.string (mS8).sm.base,.slice A23 (mS8).sm.args.length c23]) (hz14:Fz [] n14 TS wc (fun w=>SimsIn w A14 (mS5).sm.args)) (hz17:Fz [] n17 TS wc (fun w=>SimsIn w A17 (mS6).sm.args)) (hz20:Fz [] n20 TS wc (fun w=>SimsIn w A20 (mS7).sm.args)) (hz23:Fz [] n23 TS wc (fun w=>SimsIn w A23 (mS8).sm.args)) (f:Fr) (Q:Exit→Act→World→Prop) (k3:f 3= .pointer (some ⟨b3,0,none⟩)) (k4:f 4= .pointer (some ⟨b4,0,none⟩)) (k5:f 5= .pointer (some ⟨b5,0,none⟩)) (k6:f 6= .pointer (some ⟨b6,0,none⟩)) (k7:f 7= .pointer (some ⟨b7,0,none⟩)) (k8:f 8= .pointer (some ⟨b8,0,none⟩)) (hPQ:PQ Q):WC Tryz.prog (sl (sr (sr (sr (sr (sr (sr (ob Tryz.f20.body)))))))) (QRS 128 [9,24,25,26,27,28,29,30,31,32,33,34,35,36,37,38,39,40,41,42,43,44,45,46,47,48,49,50,51,52,53,54,55,56,57,58,59,60,61,62,63,64,65,66,67,68,69,70,71,72,73,74,75,76,77,78,79,80,81,82,83,84,85,86,87,88,89,90] f (fun g w'=>Same [] wc w'∧MnR wc (g 9) w') Q) 128 f wc:=by
 have hZ:Same [] wc wc:=Same.refl _ _;refine zZ 3 _ k3 nu (zZ 4 _ k4 nu (zZ 5 _ k5 nu (zZ 6 _ k6 nu (zZ 7 _ k7 nu (zZ 8 _ k8 nu ?_)))));refine jx [] [0,1,7,8,14,17,18,19,21,32,33,35,36,45,46,47,48,51,52,2,3,4,5,6,9,10,11,12,13,15,16,20,22,23,24,25,26,27,28,29,30,31,34,37,38,39,40,41,42,43,44,49,50,53,54,55,56,57,58,59,60,61,62,63,64,65,66,67] rfl (fun w1 s1=>?_);have hs0:=s1;refine zn19 ?_;refine hcl (fun v wv=>TmD [] mT26 wv (v)) rfl Q3 (vw [] 1 w1) rfl (fun e' w2 hr=>?_) (fun v26 w2 s2 d26=>?_)
 ·obtain⟨⟨_,rfl,hd⟩,s3⟩:=hr;exact⟨_,rfl,sB s3,hd⟩
 obtain⟨S26,c26,B26,m26,n26,e26,hz26⟩:=d26;subst e26;refine hcl (fun v wv=>TmD [] mT27 wv (v)) rfl Q3 (vw [] 0 w2) rfl (fun e' w2 hr=>?_) (fun v27 w3 s4 d27=>?_)
 ·obtain⟨⟨_,rfl,hd⟩,s5⟩:=hr;exact⟨_,rfl,sB s5,hd⟩
 obtain⟨S27,c27,B27,m27,n27,e27,hz27⟩:=d27;subst e27;replace hz26:=hz26.tr0 s4;refine hcl (fun v wv=>TmD [] mT28 wv (v)) rfl Xy (oY [] mT26 mT27 _ _ _ _ _ _ _ _ _ _ w3 (by simp) hz26 hz27) rfl (fun e' w2 hr=>?_) (fun v28 w4 s6 d28=>?_)
 ·obtain⟨⟨_,rfl,hd⟩,s7⟩:=hr;exact⟨_,rfl,sB s7,hd⟩
 obtain⟨S28,c28,B28,m28,n28,e28,hz28⟩:=d28;subst e28;replace hz14:=hz14.tr0 (s1.trans (s2.trans (s4.trans s6)));refine hcl (fun v wv=>TmD [] mT29 wv (v)) rfl Q4 (u5 [] mS5 mT28 _ _ _ _ _ _ _ _ w4 (by simp) hz14 hz28) rfl (fun e' w2 hr=>?_) (fun v29 w5 s8 d29=>?_)
 ·obtain⟨⟨_,rfl,hd⟩,s9⟩:=hr;exact⟨_,rfl,sB s9,hd⟩
 obtain⟨S29,c29,B29,m29,n29,e29,hz29⟩:=d29;subst e29;replace hz17:=hz17.tr0 (s1.trans (s2.trans (s4.trans (s6.trans s8))));refine hcl (fun v wv=>TmD [] P7 wv (v)) rfl Q4 (u5 [] mS6 mT29 _ _ _ _ _ _ _ _ w5 (by simp) hz17 hz29) rfl (fun e' w2 hr=>?_) (fun v30 w6 s10 d30=>?_)
 ·obtain⟨⟨_,rfl,hd⟩,s11⟩:=hr;exact⟨_,rfl,sB s11,hd⟩
 obtain⟨S30,c30,B30,m30,n30,e30,hz30⟩:=d30;subst e30;refine hcl (fun v wv=>TmD [] mT33 wv (v)) rfl Q3 (vw [] 1 w6) rfl (fun e' w2 hr=>?_) (fun v33 w7 s12 d33=>?_)
 ·obtain⟨⟨_,rfl,hd⟩,s13⟩:=hr;exact⟨_,rfl,sB s13,hd⟩
 obtain⟨S33,c33,B33,m33,n33,e33,hz33⟩:=d33;subst e33;refine hcl (fun v wv=>TmD [] mT34 wv (v)) rfl Q3 (vw [] 0 w7) rfl (fun e' w2 hr=>?_) (fun v34 w8 s14 d34=>?_)
 ·obtain⟨⟨_,rfl,hd⟩,s15⟩:=hr;exact⟨_,rfl,sB s15,hd⟩
 obtain⟨S34,c34,B34,m34,n34,e34,hz34⟩:=d34;subst e34;replace hz33:=hz33.tr0 s14;refine hcl (fun v wv=>TmD [] mT35 wv (v)) rfl Xy (oY [] mT33 mT34 _ _ _ _ _ _ _ _ _ _ w8 (by simp) hz33 hz34) rfl (fun e' w2 hr=>?_) (fun v35 w9 s16 d35=>?_)
 ·obtain⟨⟨_,rfl,hd⟩,s17⟩:=hr;exact⟨_,rfl,sB s17,hd⟩
 obtain⟨S35,c35,B35,m35,n35,e35,hz35⟩:=d35;subst e35;replace hz14:=hz14.tr0 (s8.trans (s10.trans (s12.trans (s14.trans s16))));refine hcl (fun v wv=>TmD [] mT36 wv (v)) rfl Q4 (u5 [] mS5 mT35 _ _ _ _ _ _ _ _ w9 (by simp) hz14 hz35) rfl (fun e' w2 hr=>?_) (fun v36 w10 s18 d36=>?_)
 ·obtain⟨⟨_,rfl,hd⟩,s19⟩:=hr;exact⟨_,rfl,sB s19,hd⟩
 obtain⟨S36,c36,B36,m36,n36,e36,hz36⟩:=d36;subst e36;replace hz23:=hz23.tr0 (s1.trans (s2.trans (s4.trans (s6.trans (s8.trans (s10.trans (s12.trans (s14.trans (s16.trans s18)))))))));refine hcl (fun v wv=>TmD [] P6 wv (v)) rfl Q4 (u5 [] mS8 mT36 _ _ _ _ _ _ _ _ w10 (by simp) hz23 hz36) rfl (fun e' w2 hr=>?_) (fun v37 w11 s20 d37=>?_)
 ·obtain⟨⟨_,rfl,hd⟩,s21⟩:=hr;exact⟨_,rfl,sB s21,hd⟩
 obtain⟨S37,c37,B37,m37,n37,e37,hz37⟩:=d37;subst e37;refine hcl (fun v wv=>TmD [] mT39 wv (v)) rfl Q3 (vw [] 0 w11) rfl (fun e' w2 hr=>?_) (fun v39 w12 s22 d39=>?_)
 ·obtain⟨⟨_,rfl,hd⟩,s23⟩:=hr;exact⟨_,rfl,sB s23,hd⟩
 obtain⟨S39,c39,B39,m39,n39,e39,hz39⟩:=d39;subst e39;replace hz14:=hz14.tr0 (s18.trans (s20.trans s22));refine hcl (fun v wv=>TmD [] P5 wv (v)) rfl Q4 (u5 [] mS5 mT39 _ _ _ _ _ _ _ _ w12 (by simp) hz14 hz39) rfl (fun e' w2 hr=>?_) (fun v40 w13 s24 d40=>?_)
 ·obtain⟨⟨_,rfl,hd⟩,s25⟩:=hr;exact⟨_,rfl,sB s25,hd⟩
 obtain⟨S40,c40,B40,m40,n40,e40,hz40⟩:=d40;subst e40;refine hcl (fun v wv=>TmD [] mT44 wv (v)) rfl Q3 (vw [] 1 w13) rfl (fun e' w2 hr=>?_) (fun v44 w14 s26 d44=>?_)
 ·obtain⟨⟨_,rfl,hd⟩,s27⟩:=hr;exact⟨_,rfl,sB s27,hd⟩
 obtain⟨S44,c44,B44,m44,n44,e44,hz44⟩:=d44;subst e44;refine hcl (fun v wv=>TmD [] mT46 wv (v)) rfl Q3 (vw [] 3 w14) rfl (fun e' w2 hr=>?_) (fun v46 w15 s28 d46=>?_)
 ·obtain⟨⟨_,rfl,hd⟩,s29⟩:=hr;exact⟨_,rfl,sB s29,hd⟩
 obtain⟨S46,c46,B46,m46,n46,e46,hz46⟩:=d46;subst e46;refine hcl (fun v wv=>TmD [] mT47 wv (v)) rfl Q3 (vw [] 1 w15) rfl (fun e' w2 hr=>?_) (fun v47 w16 s30 d47=>?_)
 ·obtain⟨⟨_,rfl,hd⟩,s31⟩:=hr;exact⟨_,rfl,sB s31,hd⟩
 obtain⟨S47,c47,B47,m47,n47,e47,hz47⟩:=d47;subst e47;replace hz46:=hz46.tr0 s30;refine hcl (fun v wv=>TmD [] mT48 wv (v)) rfl Xy (oY [] mT46 mT47 _ _ _ _ _ _ _ _ _ _ w16 (by simp) hz46 hz47) rfl (fun e' w2 hr=>?_) (fun v48 w17 s32 d48=>?_)
 ·obtain⟨⟨_,rfl,hd⟩,s33⟩:=hr;exact⟨_,rfl,sB s33,hd⟩
 obtain⟨S48,c48,B48,m48,n48,e48,hz48⟩:=d48;subst e48;refine hcl (fun v wv=>TmD [] mT49 wv (v)) rfl Q3 (vw [] 0 w17) rfl (fun e' w2 hr=>?_) (fun v49 w18 s34 d49=>?_)
 ·obtain⟨⟨_,rfl,hd⟩,s35⟩:=hr;exact⟨_,rfl,sB s35,hd⟩
 obtain⟨S49,c49,B49,m49,n49,e49,hz49⟩:=d49;subst e49;replace hz48:=hz48.tr0 s34;refine hcl (fun v wv=>TmD [] mT50 wv (v)) rfl Xy (oY [] mT48 mT49 _ _ _ _ _ _ _ _ _ _ w18 (by simp) hz48 hz49) rfl (fun e' w2 hr=>?_) (fun v50 w19 s36 d50=>?_)
 ·obtain⟨⟨_,rfl,hd⟩,s37⟩:=hr;exact⟨_,rfl,sB s37,hd⟩
 obtain⟨S50,c50,B50,m50,n50,e50,hz50⟩:=d50;subst e50;refine hcl (fun v wv=>TmD [] mT51 wv (v)) rfl Q4 (u5 [] (Ts.b false) mT50 _ _ _ _ _ _ _ _ w19 (by simp) (Fz.triv _ _ TS (fun _=>SimsIn.nil)) hz50) rfl (fun e' w2 hr=>?_) (fun v51 w20 s38 d51=>?_)
 ·obtain⟨⟨_,rfl,hd⟩,s39⟩:=hr;exact⟨_,rfl,sB s39,hd⟩
 obtain⟨S51,c51,B51,m51,n51,e51,hz51⟩:=d51;subst e51;replace hz44:=hz44.tr0 (s28.trans (s30.trans (s32.trans (s34.trans (s36.trans s38)))));refine hcl (fun v wv=>TmD [] mT52 wv (v)) rfl Xy (oY [] mT44 mT51 _ _ _ _ _ _ _ _ _ _ w20 (by simp) hz44 hz51) rfl (fun e' w2 hr=>?_) (fun v52 w21 s40 d52=>?_)
 ·obtain⟨⟨_,rfl,hd⟩,s41⟩:=hr;exact⟨_,rfl,sB s41,hd⟩
 obtain⟨S52,c52,B52,m52,n52,e52,hz52⟩:=d52;subst e52;refine hcl (fun v wv=>TmD [] mT53 wv (v)) rfl Q4 (u5 [] (Ts.b false) mT52 _ _ _ _ _ _ _ _ w21 (by simp) (Fz.triv _ _ TS (fun _=>SimsIn.nil)) hz52) rfl (fun e' w2 hr=>?_) (fun v53 w22 s42 d53=>?_)
 ·obtain⟨⟨_,rfl,hd⟩,s43⟩:=hr;exact⟨_,rfl,sB s43,hd⟩
 obtain⟨S53,c53,B53,m53,n53,e53,hz53⟩:=d53;subst e53;replace hz17:=hz17.tr0 (s10.trans (s12.trans (s14.trans (s16.trans (s18.trans (s20.trans (s22.trans (s24.trans (s26.trans (s28.trans (s30.trans (s32.trans (s34.trans (s36.trans (s38.trans (s40.trans s42))))))))))))))));refine hcl (fun v wv=>TmD [] mT54 wv (v)) rfl Q4 (u5 [] mS6 mT53 _ _ _ _ _ _ _ _ w22 (by simp) hz17 hz53) rfl (fun e' w2 hr=>?_) (fun v54 w23 s44 d54=>?_)
 ·obtain⟨⟨_,rfl,hd⟩,s45⟩:=hr;exact⟨_,rfl,sB s45,hd⟩
 obtain⟨S54,c54,B54,m54,n54,e54,hz54⟩:=d54;subst e54;replace hz20:=hz20.tr0 (s1.trans (s2.trans (s4.trans (s6.trans (s8.trans (s10.trans (s12.trans (s14.trans (s16.trans (s18.trans (s20.trans (s22.trans (s24.trans (s26.trans (s28.trans (s30.trans (s32.trans (s34.trans (s36.trans (s38.trans (s40.trans (s42.trans s44))))))))))))))))))))));refine hcl (fun v wv=>TmD [] P4 wv (v)) rfl Q4 (u5 [] mS7 mT54 _ _ _ _ _ _ _ _ w23 (by simp) hz20 hz54) rfl (fun e' w2 hr=>?_) (fun v55 w24 s46 d55=>?_)
 ·obtain⟨⟨_,rfl,hd⟩,s47⟩:=hr;exact⟨_,rfl,sB s47,hd⟩
 obtain⟨S55,c55,B55,m55,n55,e55,hz55⟩:=d55;subst e55;refine hcl (fun v wv=>SmD [] mT58 wv (v)) rfl Y1 (gj [] (Ts.b true) (Ts.b true) _ _ _ _ _ _ w24 (by simp) (Fz.triv _ _ TS (fun _=>SimsIn.nil)) (Fz.triv _ _ TS (fun _=>SimsIn.nil))) rfl (fun e' w2 hr=>?_) (fun v58 w25 s48 d58=>?_)
 ·obtain⟨⟨_,rfl,hd⟩,s49⟩:=hr;exact⟨_,rfl,sB s49,hd⟩
 obtain⟨A58,c58,n58,e58,hz58⟩:=d58;subst e58;refine hcl (fun v wv=>TmD [] mT61 wv (v)) rfl Q3 (vw [] 2 w25) rfl (fun e' w2 hr=>?_) (fun v61 w26 s50 d61=>?_)
 ·obtain⟨⟨_,rfl,hd⟩,s51⟩:=hr;exact⟨_,rfl,sB s51,hd⟩
 obtain⟨S61,c61,B61,m61,n61,e61,hz61⟩:=d61;subst e61;refine hcl (fun v wv=>TmD [] mT62 wv (v)) rfl Q3 (vw [] 1 w26) rfl (fun e' w2 hr=>?_) (fun v62 w27 s52 d62=>?_)
 ·obtain⟨⟨_,rfl,hd⟩,s53⟩:=hr;exact⟨_,rfl,sB s53,hd⟩
 obtain⟨S62,c62,B62,m62,n62,e62,hz62⟩:=d62;subst e62;refine hcl (fun v wv=>TmD [] mT63 wv (v)) rfl Q3 (vw [] 0 w27) rfl (fun e' w2 hr=>?_) (fun v63 w28 s54 d63=>?_)
 ·obtain⟨⟨_,rfl,hd⟩,s55⟩:=hr;exact⟨_,rfl,sB s55,hd⟩
 obtain⟨S63,c63,B63,m63,n63,e63,hz63⟩:=d63;subst e63;replace hz62:=hz62.tr0 s54;refine hcl (fun v wv=>TmD [] mT64 wv (v)) rfl Xy (oY [] mT62 mT63 _ _ _ _ _ _ _ _ _ _ w28 (by simp) hz62 hz63) rfl (fun e' w2 hr=>?_) (fun v64 w29 s56 d64=>?_)
 ·obtain⟨⟨_,rfl,hd⟩,s57⟩:=hr;exact⟨_,rfl,sB s57,hd⟩
 obtain⟨S64,c64,B64,m64,n64,e64,hz64⟩:=d64;subst e64;replace hz61:=hz61.tr0 (s52.trans (s54.trans s56));refine hcl (fun v wv=>TmD [] mT65 wv (v)) rfl Xy (oY [] mT61 mT64 _ _ _ _ _ _ _ _ _ _ w29 (by simp) hz61 hz64) rfl (fun e' w2 hr=>?_) (fun v65 w30 s58 d65=>?_)
 ·obtain⟨⟨_,rfl,hd⟩,s59⟩:=hr;exact⟨_,rfl,sB s59,hd⟩
 obtain⟨S65,c65,B65,m65,n65,e65,hz65⟩:=d65;subst e65;refine hcl (fun v wv=>TmD [] mT66 wv (v)) rfl Q4 (u5 [] (Ts.b false) mT65 _ _ _ _ _ _ _ _ w30 (by simp) (Fz.triv _ _ TS (fun _=>SimsIn.nil)) hz65) rfl (fun e' w2 hr=>?_) (fun v66 w31 s60 d66=>?_)
 ·obtain⟨⟨_,rfl,hd⟩,s61⟩:=hr;exact⟨_,rfl,sB s61,hd⟩
 obtain⟨S66,c66,B66,m66,n66,e66,hz66⟩:=d66;subst e66;replace hz14:=hz14.tr0 (s24.trans (s26.trans (s28.trans (s30.trans (s32.trans (s34.trans (s36.trans (s38.trans (s40.trans (s42.trans (s44.trans (s46.trans (s48.trans (s50.trans (s52.trans (s54.trans (s56.trans (s58.trans s60))))))))))))))))));refine hcl (fun v wv=>TmD [] mT67 wv (v)) rfl Q4 (u5 [] mS5 mT66 _ _ _ _ _ _ _ _ w31 (by simp) hz14 hz66) rfl (fun e' w2 hr=>?_) (fun v67 w32 s62 d67=>?_)
 ·obtain⟨⟨_,rfl,hd⟩,s63⟩:=hr;exact⟨_,rfl,sB s63,hd⟩
 obtain⟨S67,c67,B67,m67,n67,e67,hz67⟩:=d67;subst e67;replace hz58:=hz58.tr0 (s50.trans (s52.trans (s54.trans (s56.trans (s58.trans (s60.trans s62))))));refine hcl (fun v wv=>TmD [] P3 wv (v)) rfl Q4 (u5 [] mT58 mT67 _ _ _ _ _ _ _ _ w32 (by simp) hz58 hz67) rfl (fun e' w2 hr=>?_) (fun v68 w33 s64 d68=>?_)
 ·obtain⟨⟨_,rfl,hd⟩,s65⟩:=hr;exact⟨_,rfl,sB s65,hd⟩
 obtain⟨S68,c68,B68,m68,n68,e68,hz68⟩:=d68;subst e68;refine hcl (fun v wv=>SmD [] mT73 wv (v)) rfl Y1 (gj [] (Ts.b true) (Ts.b true) _ _ _ _ _ _ w33 (by simp) (Fz.triv _ _ TS (fun _=>SimsIn.nil)) (Fz.triv _ _ TS (fun _=>SimsIn.nil))) rfl (fun e' w2 hr=>?_) (fun v73 w34 s66 d73=>?_)
 ·obtain⟨⟨_,rfl,hd⟩,s67⟩:=hr;exact⟨_,rfl,sB s67,hd⟩
 obtain⟨A73,c73,n73,e73,hz73⟩:=d73;subst e73;refine hcl (fun v wv=>SmD [] mT74 wv (v)) rfl Y1 (gj [] (Ts.b true) mT73 _ _ _ _ _ _ w34 (by simp) (Fz.triv _ _ TS (fun _=>SimsIn.nil)) hz73) rfl (fun e' w2 hr=>?_) (fun v74 w35 s68 d74=>?_)
 ·obtain⟨⟨_,rfl,hd⟩,s69⟩:=hr;exact⟨_,rfl,sB s69,hd⟩
 obtain⟨A74,c74,n74,e74,hz74⟩:=d74;subst e74;refine hcl (fun v wv=>TmD [] mT77 wv (v)) rfl Q3 (vw [] 2 w35) rfl (fun e' w2 hr=>?_) (fun v77 w36 s70 d77=>?_)
 ·obtain⟨⟨_,rfl,hd⟩,s71⟩:=hr;exact⟨_,rfl,sB s71,hd⟩
 obtain⟨S77,c77,B77,m77,n77,e77,hz77⟩:=d77;subst e77;refine hcl (fun v wv=>TmD [] mT78 wv (v)) rfl Q3 (vw [] 3 w36) rfl (fun e' w2 hr=>?_) (fun v78 w37 s72 d78=>?_)
 ·obtain⟨⟨_,rfl,hd⟩,s73⟩:=hr;exact⟨_,rfl,sB s73,hd⟩
 obtain⟨S78,c78,B78,m78,n78,e78,hz78⟩:=d78;subst e78;refine hcl (fun v wv=>TmD [] mT79 wv (v)) rfl Q3 (vw [] 0 w37) rfl (fun e' w2 hr=>?_) (fun v79 w38 s74 d79=>?_)
 ·obtain⟨⟨_,rfl,hd⟩,s75⟩:=hr;exact⟨_,rfl,sB s75,hd⟩
 obtain⟨S79,c79,B79,m79,n79,e79,hz79⟩:=d79;subst e79;replace hz78:=hz78.tr0 s74;refine hcl (fun v wv=>TmD [] mT80 wv (v)) rfl Xy (oY [] mT78 mT79 _ _ _ _ _ _ _ _ _ _ w38 (by simp) hz78 hz79) rfl (fun e' w2 hr=>?_) (fun v80 w39 s76 d80=>?_)
 ·obtain⟨⟨_,rfl,hd⟩,s77⟩:=hr;exact⟨_,rfl,sB s77,hd⟩
 obtain⟨S80,c80,B80,m80,n80,e80,hz80⟩:=d80;subst e80;replace hz77:=hz77.tr0 (s72.trans (s74.trans s76));refine hcl (fun v wv=>TmD [] mT81 wv (v)) rfl Xy (oY [] mT77 mT80 _ _ _ _ _ _ _ _ _ _ w39 (by simp) hz77 hz80) rfl (fun e' w2 hr=>?_) (fun v81 w40 s78 d81=>?_)
 ·obtain⟨⟨_,rfl,hd⟩,s79⟩:=hr;exact⟨_,rfl,sB s79,hd⟩
 obtain⟨S81,c81,B81,m81,n81,e81,hz81⟩:=d81;subst e81;refine hcl (fun v wv=>TmD [] mT82 wv (v)) rfl Q3 (vw [] 1 w40) rfl (fun e' w2 hr=>?_) (fun v82 w41 s80 d82=>?_)
 ·obtain⟨⟨_,rfl,hd⟩,s81⟩:=hr;exact⟨_,rfl,sB s81,hd⟩
 obtain⟨S82,c82,B82,m82,n82,e82,hz82⟩:=d82;subst e82;refine hcl (fun v wv=>TmD [] mT83 wv (v)) rfl Q3 (vw [] 0 w41) rfl (fun e' w2 hr=>?_) (fun v83 w42 s82 d83=>?_)
 ·obtain⟨⟨_,rfl,hd⟩,s83⟩:=hr;exact⟨_,rfl,sB s83,hd⟩
 obtain⟨S83,c83,B83,m83,n83,e83,hz83⟩:=d83;subst e83;replace hz82:=hz82.tr0 s82;refine hcl (fun v wv=>TmD [] mT84 wv (v)) rfl Xy (oY [] mT82 mT83 _ _ _ _ _ _ _ _ _ _ w42 (by simp) hz82 hz83) rfl (fun e' w2 hr=>?_) (fun v84 w43 s84 d84=>?_)
 ·obtain⟨⟨_,rfl,hd⟩,s85⟩:=hr;exact⟨_,rfl,sB s85,hd⟩
 obtain⟨S84,c84,B84,m84,n84,e84,hz84⟩:=d84;subst e84;replace hz81:=hz81.tr0 (s80.trans (s82.trans s84));refine hcl (fun v wv=>TmD [] mT85 wv (v)) rfl Xy (oY [] mT81 mT84 _ _ _ _ _ _ _ _ _ _ w43 (by simp) hz81 hz84) rfl (fun e' w2 hr=>?_) (fun v85 w44 s86 d85=>?_)
 ·obtain⟨⟨_,rfl,hd⟩,s87⟩:=hr;exact⟨_,rfl,sB s87,hd⟩
 obtain⟨S85,c85,B85,m85,n85,e85,hz85⟩:=d85;subst e85;replace hz14:=hz14.tr0 (s62.trans (s64.trans (s66.trans (s68.trans (s70.trans (s72.trans (s74.trans (s76.trans (s78.trans (s80.trans (s82.trans (s84.trans s86))))))))))));refine hcl (fun v wv=>TmD [] mT86 wv (v)) rfl Q4 (u5 [] mS5 mT85 _ _ _ _ _ _ _ _ w44 (by simp) hz14 hz85) rfl (fun e' w2 hr=>?_) (fun v86 w45 s88 d86=>?_)
 ·obtain⟨⟨_,rfl,hd⟩,s89⟩:=hr;exact⟨_,rfl,sB s89,hd⟩
 obtain⟨S86,c86,B86,m86,n86,e86,hz86⟩:=d86;subst e86;replace hz17:=hz17.tr0 (s44.trans (s46.trans (s48.trans (s50.trans (s52.trans (s54.trans (s56.trans (s58.trans (s60.trans (s62.trans (s64.trans (s66.trans (s68.trans (s70.trans (s72.trans (s74.trans (s76.trans (s78.trans (s80.trans (s82.trans (s84.trans (s86.trans s88))))))))))))))))))))));refine hcl (fun v wv=>TmD [] mT87 wv (v)) rfl Q4 (u5 [] mS6 mT86 _ _ _ _ _ _ _ _ w45 (by simp) hz17 hz86) rfl (fun e' w2 hr=>?_) (fun v87 w46 s90 d87=>?_)
 ·obtain⟨⟨_,rfl,hd⟩,s91⟩:=hr;exact⟨_,rfl,sB s91,hd⟩
 obtain⟨S87,c87,B87,m87,n87,e87,hz87⟩:=d87;subst e87;replace hz74:=hz74.tr0 (s70.trans (s72.trans (s74.trans (s76.trans (s78.trans (s80.trans (s82.trans (s84.trans (s86.trans (s88.trans s90))))))))));refine hcl (fun v wv=>TmD [] mT88 wv (v)) rfl Q4 (u5 [] mT74 mT87 _ _ _ _ _ _ _ _ w46 (by simp) hz74 hz87) rfl (fun e' w2 hr=>?_) (fun v88 w47 s92 d88=>?_)
 ·obtain⟨⟨_,rfl,hd⟩,s93⟩:=hr;exact⟨_,rfl,sB s93,hd⟩
 obtain⟨S88,c88,B88,m88,n88,e88,hz88⟩:=d88;subst e88;replace hz17:=hz17.tr0 (s90.trans s92);refine hcl (fun v wv=>TmD [] P2 wv (v)) rfl Q4 (u5 [] mS6 mT88 _ _ _ _ _ _ _ _ w47 (by simp) hz17 hz88) rfl (fun e' w2 hr=>?_) (fun v89 w48 s94 d89=>?_)
 ·obtain⟨⟨_,rfl,hd⟩,s95⟩:=hr;exact⟨_,rfl,sB s95,hd⟩
 obtain⟨S89,c89,B89,m89,n89,e89,hz89⟩:=d89;subst e89;replace hs0:=hs0.trans (s2.trans (s4.trans (s6.trans (s8.trans (s10.trans (s12.trans (s14.trans (s16.trans (s18.trans (s20.trans (s22.trans (s24.trans (s26.trans (s28.trans (s30.trans (s32.trans (s34.trans (s36.trans (s38.trans (s40.trans (s42.trans (s44.trans (s46.trans (s48.trans (s50.trans (s52.trans (s54.trans (s56.trans (s58.trans (s60.trans (s62.trans (s64.trans (s66.trans (s68.trans (s70.trans (s72.trans (s74.trans (s76.trans (s78.trans (s80.trans (s82.trans (s84.trans (s86.trans (s88.trans (s90.trans (s92.trans s94))))))))))))))))))))))))))))))))))))))))))))));have q0:=hs0.size;replace hz30:=hz30.tr0 (s12.trans (s14.trans (s16.trans (s18.trans (s20.trans (s22.trans (s24.trans (s26.trans (s28.trans (s30.trans (s32.trans (s34.trans (s36.trans (s38.trans (s40.trans (s42.trans (s44.trans (s46.trans (s48.trans (s50.trans (s52.trans (s54.trans (s56.trans (s58.trans (s60.trans (s62.trans (s64.trans (s66.trans (s68.trans (s70.trans (s72.trans (s74.trans (s76.trans (s78.trans (s80.trans (s82.trans (s84.trans (s86.trans (s88.trans (s90.trans (s92.trans s94)))))))))))))))))))))))))))))))))))))))));have q30:=hz30.le;replace hz37:=hz37.tr0 (s22.trans (s24.trans (s26.trans (s28.trans (s30.trans (s32.trans (s34.trans (s36.trans (s38.trans (s40.trans (s42.trans (s44.trans (s46.trans (s48.trans (s50.trans (s52.trans (s54.trans (s56.trans (s58.trans (s60.trans (s62.trans (s64.trans (s66.trans (s68.trans (s70.trans (s72.trans (s74.trans (s76.trans (s78.trans (s80.trans (s82.trans (s84.trans (s86.trans (s88.trans (s90.trans (s92.trans s94))))))))))))))))))))))))))))))))))));have q37:=hz37.le;replace hz40:=hz40.tr0 (s26.trans (s28.trans (s30.trans (s32.trans (s34.trans (s36.trans (s38.trans (s40.trans (s42.trans (s44.trans (s46.trans (s48.trans (s50.trans (s52.trans (s54.trans (s56.trans (s58.trans (s60.trans (s62.trans (s64.trans (s66.trans (s68.trans (s70.trans (s72.trans (s74.trans (s76.trans (s78.trans (s80.trans (s82.trans (s84.trans (s86.trans (s88.trans (s90.trans (s92.trans s94))))))))))))))))))))))))))))))))));have q40:=hz40.le;replace hz55:=hz55.tr0 (s48.trans (s50.trans (s52.trans (s54.trans (s56.trans (s58.trans (s60.trans (s62.trans (s64.trans (s66.trans (s68.trans (s70.trans (s72.trans (s74.trans (s76.trans (s78.trans (s80.trans (s82.trans (s84.trans (s86.trans (s88.trans (s90.trans (s92.trans s94)))))))))))))))))))))))
 have q55:=hz55.le;replace hz68:=hz68.tr0 (s66.trans (s68.trans (s70.trans (s72.trans (s74.trans (s76.trans (s78.trans (s80.trans (s82.trans (s84.trans (s86.trans (s88.trans (s90.trans (s92.trans s94))))))))))))));have q68:=hz68.le;have q89:=hz89.le;refine h1 rfl ?_;refine qw (cs:=#[_,_,_,_,_,_,_,_,_,_,_,_,_,_,_,_,_,_,_,_,_,_,_,_,_,_,_,_,_,_,_,_,_,_,_,_]) [(0,.agg _),(1,.agg _),(2,.agg _),(3,.agg _),(4,.agg _),(5,.agg _)] rfl U42 vW uj dE dE kR rfl (fun b90 w49 hb90 s96 hr=>?_);have hsH66:=s96;refine zJ (M5 hsH66 ?_);replace hz30:=hz30.tr0 s96;replace hz37:=hz37.tr0 s96;replace hz40:=hz40.tr0 s96;replace hz55:=hz55.tr0 s96;replace hz68:=hz68.tr0 s96;replace hz89:=hz89.tr0 s96;obtain⟨b90,S30,c30,B30,m30,S37,c37,B37,m37,S40,c40,B40,m40,S55,c55,B55,m55,S68,c68,B68,m68,S89,c89,B89,m89,e90,lo90,hb90,hz30,hz37,hz40,hz55,hz68,hz89⟩:MnR wc (.slice (some ⟨b90,0,none⟩) 6 6) w49:=⟨_,_,_,_,_,_,_,_,_,_,_,_,_,_,_,_,_,_,_,_,_,_,_,_,_,rfl,nLT q0 hr,hb90,hz30.mono (nLT q30 hr) (Nat.le_of_lt hb90.lt),hz37.mono (nLT q37 hr) (Nat.le_of_lt hb90.lt),hz40.mono (nLT q40 hr) (Nat.le_of_lt hb90.lt),hz55.mono (nLT q55 hr) (Nat.le_of_lt hb90.lt),hz68.mono (nLT q68 hr) (Nat.le_of_lt hb90.lt),hz89.mono (nLT q89 hr) (Nat.le_of_lt hb90.lt)⟩
 cases e90;refine zn2 ?_;refine e_R ⟨agA,?_⟩;replace hZ:=hZ.trans (s1.trans (s2.trans (s4.trans (s6.trans (s8.trans (s10.trans (s12.trans (s14.trans (s16.trans (s18.trans (s20.trans (s22.trans (s24.trans (s26.trans (s28.trans (s30.trans (s32.trans (s34.trans (s36.trans (s38.trans (s40.trans (s42.trans (s44.trans (s46.trans (s48.trans (s50.trans (s52.trans (s54.trans (s56.trans (s58.trans (s60.trans (s62.trans (s64.trans (s66.trans (s68.trans (s70.trans (s72.trans (s74.trans (s76.trans (s78.trans (s80.trans (s82.trans (s84.trans (s86.trans (s88.trans (s90.trans (s92.trans (s94.trans s96))))))))))))))))))))))))))))))))))))))))))))))));exact⟨hZ,b90,S30,c30,B30,m30,S37,c37,B37,m37,S40,c40,B40,m40,S55,c55,B55,m55,S68,c68,B68,m68,S89,c89,B89,m89,rfl,lo90,hb90,hz30,hz37,hz40,hz55,hz68,hz89⟩
set_option maxRecDepth 100000 in
set_option maxHeartbeats 8000000 in
theorem Ly (w:World):Calls Tryz.prog 20 #[.bool false] w fun e w'=>(∃ b vs n,e= .returned (.slice (some ⟨b,0,none⟩) 6 6)∧Blk w' b 44 vs.toArray∧TmCs n w' Qx vs)∧Bel w w':=by
 refine enT Tryz.func20 Tryz.ntmps20 rfl rfl fun hB=>?_;refine zn7 ?_;refine zV W7 (o7 _ _) rfl (fun e' w1 hr=>?_);obtain⟨rfl,s1⟩:=hr;replace s1:=sB s1;refine⟨_,rfl,?_⟩;refine zV W7 (o7 _ _) rfl (fun e' w2 hr=>?_);obtain⟨rfl,s2⟩:=hr;replace s2:=sB s2;refine⟨_,rfl,?_⟩;refine qq (cs:=#[.string ⟨#[]⟩,.slice none 0 0]) vx rfl (fun b3 w3 hb3 s3 hr=>?_);have lo3:=nLT (Bel.size hB.u) hr;refine qq (cs:=#[.string ⟨#[]⟩,.slice none 0 0]) vx rfl (fun b4 w4 hb4 s4 hr=>?_);have:=nLL hb3.lt hr;have lo4:=nLT (Bel.size hB.u) hr;refine zk hb3.u rfl rfl xw rfl zQ (fun w5 hq s5=>?_);replace hb3:=hq;refine zk hb4.u rfl rfl xw rfl zQ (fun w6 hq s6=>?_);replace hb4:=hq;refine zn6 ?_;refine zV Y1 (gj [] (Ts.b false) (Ts.b true) _ _ _ _ _ _ _ (by simp) (Fz.triv _ _ TS (fun _=>SimsIn.nil)) (Fz.triv _ _ TS (fun _=>SimsIn.nil))) rfl (fun e' w7 hr=>?_);obtain⟨⟨_,rfl,A14,c14,n14,rfl,hz14⟩,s7⟩:=hr;replace s7:=sB s7;refine⟨_,rfl,?_⟩;refine xV (cs:=#[.string ⟨#[]⟩,.slice none 0 0]) vx rfl (fun _=>rfl) (fun _=>rfl) xw rfl zQ (fun b5 w9 hb5 s8 hr=>?_);refine zn6 ?_;replace hz14:=hz14.tr0 s8;refine zV Y1 (gj [] mS5 (Ts.b true) _ _ _ _ _ _ _ (by simp) hz14 (Fz.triv _ _ TS (fun _=>SimsIn.nil))) rfl (fun e' w10 hr=>?_);obtain⟨⟨_,rfl,A17,c17,n17,rfl,hz17⟩,s9⟩:=hr;replace s9:=sB s9;refine⟨_,rfl,?_⟩;refine xV (cs:=#[.string ⟨#[]⟩,.slice none 0 0]) vx rfl (fun _=>rfl) (fun _=>rfl) xw rfl zQ (fun b6 w12 hb6 s10 hr=>?_);refine zn6 ?_;replace hz14:=hz14.tr0 (s9.trans s10);refine zV Y1 (gj [] (Ts.b false) mS5 _ _ _ _ _ _ _ (by simp) (Fz.triv _ _ TS (fun _=>SimsIn.nil)) hz14) rfl (fun e' w13 hr=>?_);obtain⟨⟨_,rfl,A20,c20,n20,rfl,hz20⟩,s11⟩:=hr;replace s11:=sB s11;refine⟨_,rfl,?_⟩;refine xV (cs:=#[.string ⟨#[]⟩,.slice none 0 0]) vx rfl (fun _=>rfl) (fun _=>rfl) xw rfl zQ (fun b7 w15 hb7 s12 hr=>?_);refine zn6 ?_;replace hz17:=hz17.tr0 (s10.trans (s11.trans s12));replace hz14:=hz14.tr0 (s11.trans s12);refine zV Y1 (gj [] mS5 mS6 _ _ _ _ _ _ _ (by simp) hz14 hz17) rfl (fun e' w16 hr=>?_);obtain⟨⟨_,rfl,A23,c23,n23,rfl,hz23⟩,s13⟩:=hr;replace s13:=sB s13;refine⟨_,rfl,?_⟩;refine xV (cs:=#[.string ⟨#[]⟩,.slice none 0 0]) vx rfl (fun _=>rfl) (fun _=>rfl) xw rfl zQ (fun b8 w18 hb8 s14 hr=>?_);refine zn3 ?_;refine yy (rg [9] 24 67) (fun g w'=>Same [] w18 w'∧MnR w18 (g 9) w') ?_ (fun g6 w19 hI=>?_)
 ·replace hb3:=(hb3.tr1 s6 oM).tr0 (s7.trans (s8.trans (s9.trans (s10.trans (s11.trans (s12.trans (s13.trans s14)))))));replace hb4:=hb4.tr0 (s7.trans (s8.trans (s9.trans (s10.trans (s11.trans (s12.trans (s13.trans s14)))))));replace hb5:=hb5.tr0 (s9.trans (s10.trans (s11.trans (s12.trans (s13.trans s14)))));replace hb6:=hb6.tr0 (s11.trans (s12.trans (s13.trans s14)));replace hz20:=hz20.tr0 (s12.trans (s13.trans s14));replace hz14:=hz14.tr0 (s13.trans s14);replace hz17:=hz17.tr0 (s13.trans s14);replace hb7:=hb7.tr0 (s13.trans s14);replace hz23:=hz23.tr0 s14;have hh:=fun f Q k0 k1 k2 k3 k4 k5 kq=>mean_r6 hb3 hb4 hb5 hb6 hb7 hb8 hz14 hz17 hz20 hz23 f Q k0 k1 k2 k3 k4 k5 kq
  exact hh _ _ (by rfl) (by rfl) (by rfl) (by rfl) (by rfl) (by rfl) (by intro d;cases d <;> exact fun _ _ _ _ h=>h)
 obtain⟨s15,b90,S30,c30,B30,m30,S37,c37,B37,m37,S40,c40,B40,m40,S55,c55,B55,m55,S68,c68,B68,m68,S89,c89,B89,m89,e9,lo90,hb90,hz30,hz37,hz40,hz55,hz68,hz89⟩:=hI;refine gV 9 _ e9 nu (zn7 ?_);refine vK rfl (fun c91=>?_) (fun c91=>?_)
 ·exact absurd c91 dE
 refine yv ?_;exact⟨⟨b90,_,b90,rfl,hb90,(.cons hz30 (.cons hz37 (.cons hz40 (.cons hz55 (.cons hz68 (.cons hz89 .nil))))))⟩,hB.u⟩
end Go.Proofs.YtbcpgfnfiekbiaaGreatDoor
