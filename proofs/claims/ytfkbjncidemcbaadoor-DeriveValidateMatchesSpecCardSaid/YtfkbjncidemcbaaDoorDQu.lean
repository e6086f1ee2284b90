/- What these functions of the program compute, at every world: glosswright/glosswrightequal.base, glosswright/glosswrightequal.fun, glosswright/glosswrightequal.con, glosswright/glosswrightequal.bound, glosswright/glosswrightequal.abs, glosswright/glosswrightequal.app. What these functions of the program compute, at every world: glosswright/glosswrightequal.quantified, glosswright/glosswrightequal.quantified. -/
import Derived.Test.YtfkbjncidemcbaaDoorU
import Derived.Test.YtfkbjncidemcbaaDoorEng5
import Derived.Test.YtfkbjncidemcbaaDoorDHo
namespace Go.Proofs.YtfkbjncidemcbaaDoor
open Go.RowKit
theorem qk:(Tryd.prog.info? 36).map (·.size)=some 2:=by kernel_rfl
theorem vQ:(Tryd.prog.info? 39).map (·.size)=some 6:=by kernel_rfl
theorem j8:(Tryd.prog.info? 36).map (·.zero)=some (some (.agg #[.string ⟨#[]⟩,.slice none 0 0])):=by kernel_rfl
theorem uY:(Tryd.prog.info? 39).map (·.zero)=some (some (.agg #[.int .i64 0,.string ⟨#[]⟩,.int .i64 0,.string ⟨#[]⟩,.slice none 0 0,.slice none 0 0])):=by kernel_rfl
theorem oY (s:ByteArray) (w:World):Calls Tryd.prog 23 #[.string s] w fun e w'=>e= .returned (.agg #[.string s,.slice none 0 0])∧Bel w w':=by
 refine enter Tryd.func23 Tryd.ntmps23 rfl (Nat.le_of_ble_eq_true rfl) ?_;have hB:Bel w w:=Below.refl _ _;refine zz (z4 ?_);refine xQ (cs:=#[.string ⟨#[]⟩,.slice none 0 0]) j8 rfl (fun b2 w1 hb2 hs hr=>?_);have lo2:=nLT (Bel.size hB) hr;replace hB:=hB.tr0 hs;refine zq (e_S (zz (z4 (wl (qy (v:= .string _) rfl) (wl (Nq (v0:= .string _) (fun v0=>#[v0,.slice none 0 0]) rfl kR) ?_)))));refine qz hb2 rfl rfl qk rfl qX (fun w2 hq hs=>?_);replace hB:=hB.tr1 hs lo2;replace hb2:=hq;refine zq (e_S (q8 (qK (.inl rfl) rfl (qq U36 rfl rfl hb2.range0 qk) ?_)));exact⟨rfl,hB⟩
theorem Z0 (X:List Nat) (a b:Ts) (A1 A2:Option Addr) (c1 c2 n1 n2:Nat) (w:World) (hX:∀ x ∈ X,x < w.heap.size) (h1:Fz X n1 TS w (fun w=>SimsIn w A1 (a).sm.args)) (h2:Fz X n2 TS w (fun w=>SimsIn w A2 (b).sm.args)):Calls Tryd.prog 24 #[.agg #[.string (a).sm.base,.slice A1 (a).sm.args.length c1],.agg #[.string (b).sm.base,.slice A2 (b).sm.args.length c2]] w fun e w'=>(∃ z,e= .returned z∧SmD X (.f a b) w' z)∧Bel w w':=by
 refine enter Tryd.func24 Tryd.ntmps24 rfl (Nat.le_of_ble_eq_true rfl) ?_;have hB:Bel w w:=Below.refl _ _;refine zz (z4 ?_);refine yx (v:= .agg #[_,_]) (cs:=#[_,_]) rfl rfl (fun b2 w1 hb2 hs hr=>?_);replace hB:=hB.tr0 hs;refine yx (v:= .agg #[_,_]) (cs:=#[_,_]) rfl rfl (fun b3 w2 hb3 hs hr=>?_);replace hB:=hB.tr0 hs;replace hb2:=hb2.tr0 hs;refine xQ (cs:=#[.string ⟨#[]⟩,.slice none 0 0]) j8 rfl (fun b4 w3 hb4 hs hr=>?_);have lo4:=nLT (Bel.size hB) hr;replace hB:=hB.tr0 hs;replace hb2:=hb2.tr0 hs;replace hb3:=hb3.tr0 hs;refine zq (e_S (zz (z4 (wl (zW U36 rfl rfl hb2.range0 qk) (wl (zW U36 rfl rfl hb3.range0 qk) ?_)))));refine xZ (cs:=#[_,_,_,_]) [(0,.agg _),(1,.agg _)] rfl U34 qk j8 dE dE kR rfl (fun b7 w4 hb7 hs hr=>?_);have:=nLL hb4.lt hr;replace hB:=hB.tr0 hs;replace hb4:=hb4.tr0 hs;refine wl (Nq (v0:= .slice _ _ _) (fun v0=>#[.string ⟨#[]⟩,v0]) rfl kR) ?_;refine qz hb4 rfl rfl qk rfl qX (fun w5 hq hs=>?_);replace hB:=hB.tr1 hs lo4;replace hb7:=hb7.tr1 hs om;replace hb4:=hq;refine zq (e_S (q8 (qK (.inl rfl) rfl (qq U36 rfl rfl hb4.range0 qk) ?_)));exact⟨⟨_,rfl,SmD.two hb7 (fun hm=>by have:=hX _ hm;omega) (h1.bel hB) (h2.bel hB)⟩,hB⟩
theorem o8 (X:List Nat) (nm:ByteArray) (a:Ts) (A1:Option Addr) (c1 n1:Nat) (w:World) (h1:Fz X n1 TS w (fun w=>SimsIn w A1 (a).sm.args)):Calls Tryd.prog 30 #[.string nm,.agg #[.string (a).sm.base,.slice A1 (a).sm.args.length c1]] w fun e w'=>(∃ z,e= .returned z∧TmD X (.con nm a) w' z)∧Bel w w':=by
 refine enter Tryd.func30 Tryd.ntmps30 rfl (Nat.le_of_ble_eq_true rfl) ?_;have hB:Bel w w:=Below.refl _ _;refine zz (z4 ?_);refine yx (v:= .agg #[_,_]) (cs:=#[_,_]) rfl rfl (fun b3 w1 hb3 hs hr=>?_);replace hB:=hB.tr0 hs;refine xQ (cs:=#[.int .i64 0,.string ⟨#[]⟩,.int .i64 0,.string ⟨#[]⟩,.slice none 0 0,.slice none 0 0]) uY rfl (fun b4 w2 hb4 hs hr=>?_);have lo4:=nLT (Bel.size hB) hr;replace hB:=hB.tr0 hs;replace hb3:=hb3.tr0 hs;refine zq (e_S (zz (z4 (wl (qy (v:= .string _) rfl) (wl (zW U36 rfl rfl hb3.range0 qk) (wl (K5 (v0:= .int _ _) (v1:= .string _) (v2:= .agg _) (fun v0 v1 v2=>#[v0,v1,.int .i64 0,(xk v2 0),(xk v2 1),.slice none 0 0]) rfl rfl rfl kR) ?_))))));refine qz hb4 rfl rfl vQ rfl qX (fun w3 hq hs=>?_);replace hB:=hB.tr1 hs lo4;replace hb4:=hq;refine zq (e_S (q8 (qK (.inl rfl) rfl (qq U39 rfl rfl hb4.range0 vQ) ?_)));exact⟨⟨_,rfl,TmD.con nm (h1.bel hB)⟩,hB⟩
theorem jx (X:List Nat) (i:Nat) (w:World):Calls Tryd.prog 33 #[.int .i64 ((i:Nat):Int)] w fun e w'=>(∃ z,e= .returned z∧TmD X (.var i) w' z)∧Bel w w':=by
 refine enter Tryd.func33 Tryd.ntmps33 rfl (Nat.le_of_ble_eq_true rfl) ?_;have hB:Bel w w:=Below.refl _ _;refine zz (z4 ?_);refine xQ (cs:=#[.int .i64 0,.string ⟨#[]⟩,.int .i64 0,.string ⟨#[]⟩,.slice none 0 0,.slice none 0 0]) uY rfl (fun b2 w1 hb2 hs hr=>?_);have lo2:=nLT (Bel.size hB) hr;replace hB:=hB.tr0 hs;refine zq (e_S (zz (z4 (wmI rfl (wl (vZ (v0:= .int _ _) (v1:= .int _ _) (fun v0 v1=>#[v0,.string ⟨#[]⟩,v1,.string ⟨#[]⟩,.slice none 0 0,.slice none 0 0]) rfl rfl kR) ?_)))));refine qz hb2 rfl rfl vQ rfl qX (fun w2 hq hs=>?_);replace hB:=hB.tr1 hs lo2;replace hb2:=hq;refine zq (e_S (q8 (qK (.inl rfl) rfl (qq U39 rfl rfl hb2.range0 vQ) ?_)));exact⟨⟨_,rfl,TmD.var i⟩,hB⟩
theorem uy (X:List Nat) (a:Ts) (x:Tv) (A1 S2 B2:Option Addr) (c1 n1 c2 m2 n2:Nat) (w:World) (hX:∀ x ∈ X,x < w.heap.size) (h1:Fz X n1 TS w (fun w=>SimsIn w A1 (a).sm.args)) (h2:Fz X n2 TS w (fun w=>SimsIn w S2 (x).tm.type.args∧TmsIn w B2 (x).tm.args)):Calls Tryd.prog 31 #[.agg #[.string (a).sm.base,.slice A1 (a).sm.args.length c1],.agg #[.int .i64 (x).tm.kind,.string (x).tm.name,.int .i64 (x).tm.index,.string (x).tm.type.base,.slice S2 (x).tm.type.args.length c2,.slice B2 (x).tm.args.length m2]] w fun e w'=>(∃ z,e= .returned z∧TmD X (.abs a x) w' z)∧Bel w w':=by
 refine enter Tryd.func31 Tryd.ntmps31 rfl (Nat.le_of_ble_eq_true rfl) ?_;have hB:Bel w w:=Below.refl _ _;refine zz (z4 ?_);refine yx (v:= .agg #[_,_]) (cs:=#[_,_]) rfl rfl (fun b2 w1 hb2 hs hr=>?_);replace hB:=hB.tr0 hs;refine yx (v:= .agg #[_,_,_,_,_,_]) (cs:=#[_,_,_,_,_,_]) rfl rfl (fun b3 w2 hb3 hs hr=>?_);replace hB:=hB.tr0 hs;replace hb2:=hb2.tr0 hs;refine xQ (cs:=#[.int .i64 0,.string ⟨#[]⟩,.int .i64 0,.string ⟨#[]⟩,.slice none 0 0,.slice none 0 0]) uY rfl (fun b4 w3 hb4 hs hr=>?_);have lo4:=nLT (Bel.size hB) hr;replace hB:=hB.tr0 hs;replace hb2:=hb2.tr0 hs;replace hb3:=hb3.tr0 hs;refine zq (e_S (zz (z4 (wl (zW U36 rfl rfl hb2.range0 qk) (wl (zW U39 rfl rfl hb3.range0 vQ) ?_)))));refine xZ (cs:=#[_,_,_,_,_,_]) [(0,.agg _)] rfl U37 vQ uY dE dE kR rfl (fun b7 w4 hb7 hs hr=>?_);have:=nLL hb4.lt hr;replace hB:=hB.tr0 hs;replace hb4:=hb4.tr0 hs;refine wl (K5 (v0:= .int _ _) (v1:= .agg _) (v2:= .slice _ _ _) (fun v0 v1 v2=>#[v0,.string ⟨#[]⟩,.int .i64 0,(xk v1 0),(xk v1 1),v2]) rfl rfl rfl kR) ?_;refine qz hb4 rfl rfl vQ rfl qX (fun w5 hq hs=>?_);replace hB:=hB.tr1 hs lo4;replace hb7:=hb7.tr1 hs om;replace hb4:=hq;refine zq (e_S (q8 (qK (.inl rfl) rfl (qq U39 rfl rfl hb4.range0 vQ) ?_)));exact⟨⟨_,rfl,TmD.abs (h1.bel hB) hb7 (fun hm=>by have:=hX _ hm;omega) (h2.bel hB)⟩,hB⟩
theorem gV (X:List Nat) (x y:Tv) (S1 B1 S2 B2:Option Addr) (c1 m1 n1 c2 m2 n2:Nat) (w:World) (hX:∀ x ∈ X,x < w.heap.size) (h1:Fz X n1 TS w (fun w=>SimsIn w S1 (x).tm.type.args∧TmsIn w B1 (x).tm.args)) (h2:Fz X n2 TS w (fun w=>SimsIn w S2 (y).tm.type.args∧TmsIn w B2 (y).tm.args)):Calls Tryd.prog 32 #[.agg #[.int .i64 (x).tm.kind,.string (x).tm.name,.int .i64 (x).tm.index,.string (x).tm.type.base,.slice S1 (x).tm.type.args.length c1,.slice B1 (x).tm.args.length m1],.agg #[.int .i64 (y).tm.kind,.string (y).tm.name,.int .i64 (y).tm.index,.string (y).tm.type.base,.slice S2 (y).tm.type.args.length c2,.slice B2 (y).tm.args.length m2]] w fun e w'=>(∃ z,e= .returned z∧TmD X (.app x y) w' z)∧Bel w w':=by
 refine enter Tryd.func32 Tryd.ntmps32 rfl (Nat.le_of_ble_eq_true rfl) ?_;have hB:Bel w w:=Below.refl _ _;refine zz (z4 ?_);refine yx (v:= .agg #[_,_,_,_,_,_]) (cs:=#[_,_,_,_,_,_]) rfl rfl (fun b2 w1 hb2 hs hr=>?_);replace hB:=hB.tr0 hs;refine yx (v:= .agg #[_,_,_,_,_,_]) (cs:=#[_,_,_,_,_,_]) rfl rfl (fun b3 w2 hb3 hs hr=>?_);replace hB:=hB.tr0 hs;replace hb2:=hb2.tr0 hs;refine xQ (cs:=#[.int .i64 0,.string ⟨#[]⟩,.int .i64 0,.string ⟨#[]⟩,.slice none 0 0,.slice none 0 0]) uY rfl (fun b4 w3 hb4 hs hr=>?_);have lo4:=nLT (Bel.size hB) hr;replace hB:=hB.tr0 hs;replace hb2:=hb2.tr0 hs;replace hb3:=hb3.tr0 hs;refine zq (e_S (zz (z4 (wl (zW U39 rfl rfl hb2.range0 vQ) (wl (zW U39 rfl rfl hb3.range0 vQ) ?_)))));refine xZ (cs:=#[_,_,_,_,_,_,_,_,_,_,_,_]) [(0,.agg _),(1,.agg _)] rfl U37 vQ uY dE dE kR rfl (fun b7 w4 hb7 hs hr=>?_);have:=nLL hb4.lt hr;replace hB:=hB.tr0 hs;replace hb4:=hb4.tr0 hs;refine wl (vZ (v0:= .int _ _) (v1:= .slice _ _ _) (fun v0 v1=>#[v0,.string ⟨#[]⟩,.int .i64 0,.string ⟨#[]⟩,.slice none 0 0,v1]) rfl rfl kR) ?_;refine qz hb4 rfl rfl vQ rfl qX (fun w5 hq hs=>?_);replace hB:=hB.tr1 hs lo4;replace hb7:=hb7.tr1 hs om;replace hb4:=hq;refine zq (e_S (q8 (qK (.inl rfl) rfl (qq U39 rfl rfl hb4.range0 vQ) ?_)));exact⟨⟨_,rfl,TmD.app hb7 (fun hm=>by have:=hX _ hm;omega) (h1.bel hB) (h2.bel hB)⟩,hB⟩
end Go.Proofs.YtfkbjncidemcbaaDoor
namespace Go.Proofs.YtfkbjncidemcbaaDoor
open Go.RowKit
def qN19 (s1 s2:ByteArray):Ts:=(fun _=>(Ts.f (Ts.f (Ts.b false) (Ts.b true)) (Ts.b true))) (s1,s2)
def P5 (s1 s2:ByteArray):Tv:=(Tv.con s1 (qN19 s1 s2))
def qN26 (s1 s2:ByteArray):Ts:=(fun _=>(Ts.f (Ts.b true) (Ts.b true))) (s1,s2)
def qN27 (s1 s2:ByteArray):Ts:=(Ts.f (Ts.b true) (qN26 s1 s2))
def P4 (s1 s2:ByteArray):Tv:=(Tv.con s2 (qN27 s1 s2))
def P3 (s1 s2:ByteArray):Tv:=(fun _=>(Tv.var 2)) (s1,s2)
def P2 (s1 s2:ByteArray):Tv:=(fun _=>(Tv.var 0)) (s1,s2)
def P0 (s1 s2:ByteArray):Tv:=(Tv.app (P3 s1 s2) (P2 s1 s2))
def OY (s1 s2:ByteArray):Tv:=(Tv.app (P4 s1 s2) (P0 s1 s2))
def OW (s1 s2:ByteArray):Tv:=(fun _=>(Tv.var 1)) (s1,s2)
def OV (s1 s2:ByteArray):Tv:=(fun _=>(Tv.var 0)) (s1,s2)
def OK (s1 s2:ByteArray):Tv:=(Tv.app (OW s1 s2) (OV s1 s2))
def OJ (s1 s2:ByteArray):Tv:=(Tv.app (OY s1 s2) (OK s1 s2))
def OX (s1 s2:ByteArray):Tv:=(Tv.abs (Ts.b false) (OJ s1 s2))
def kQ (s1 s2:ByteArray):Tv:=(Tv.app (P5 s1 s2) (OX s1 s2))
def P6 (s1 s2:ByteArray):Tv:=(Tv.abs (Ts.f (Ts.b false) (Ts.b true)) (kQ s1 s2))
def BV (s1 s2:ByteArray):Tv:=(Tv.abs (Ts.f (Ts.b false) (Ts.b true)) (P6 s1 s2))
def qY42 (s1 s2:ByteArray):Ts:=(fun _=>(Ts.f (Ts.b true) (Ts.b true))) (s1,s2)
def OQ (s1 s2:ByteArray):Tv:=(Tv.con ⟨#[110,111,116]⟩ (qY42 s1 s2))
def Qw (s1 s2:ByteArray):Tv:=(Tv.app (OQ s1 s2) (kQ s1 s2))
def OZ (s1 s2:ByteArray):Tv:=(Tv.abs (Ts.f (Ts.b false) (Ts.b true)) (Qw s1 s2))
def BK (s1 s2:ByteArray):Tv:=(Tv.abs (Ts.f (Ts.b false) (Ts.b true)) (OZ s1 s2))
def quN (s1 s2:ByteArray):Tv:=(BV s1 s2)
def quY (s1 s2:ByteArray):Tv:=(BK s1 s2)
def QuR (s1 s2:ByteArray) (wc:World) (v:Value) (w':World):Prop:=∃ b10 S38 c38 B38 m38 n38,v= .pointer (some ⟨b10,0,none⟩)∧wc.heap.size≤b10∧Blk w' b10 39 #[.int .i64 ((kQ s1 s2)).tm.kind,.string ((kQ s1 s2)).tm.name,.int .i64 ((kQ s1 s2)).tm.index,.string ((kQ s1 s2)).tm.type.base,.slice S38 ((kQ s1 s2)).tm.type.args.length c38,.slice B38 ((kQ s1 s2)).tm.args.length m38]∧Fz [b10] n38 TS w' (fun w=>SimsIn w S38 ((kQ s1 s2)).tm.type.args∧TmsIn w B38 ((kQ s1 s2)).tm.args)
theorem Same.new10 {b:Nat} {w w1 w2:World} (h:Same [] w w1) (hs:Same [b] w1 w2) (hb:w.heap.size≤b):Same [] w w2:=
  ⟨hs.os.trans h.os,hs.tape.trans h.tape,hs.output.trans h.output,nLT h.size hs.size,fun k hk _=>by
    rw [hs.blk k (nLL hk h.size) (by simp;omega)];exact h.blk k hk (by simp)⟩
theorem SJ:qj Tryd.prog 23=true:=by kernel_rfl
theorem Y3:qj Tryd.prog 24=true:=by kernel_rfl
theorem QQ:qj Tryd.prog 30=true:=by kernel_rfl
theorem Q4:qj Tryd.prog 31=true:=by kernel_rfl
theorem XX:qj Tryd.prog 32=true:=by kernel_rfl
theorem Q3:qj Tryd.prog 33=true:=by kernel_rfl
set_option maxHeartbeats 2000000 in
theorem qu_r3 {wc:World} {b7 b8 b9 c15 n15:Nat} {A15:Option Addr} (s1 s2:ByteArray) (hb7:Blk wc b7 36 #[.string ⟨#[101]⟩,.slice none 0 0]) (hb8:Blk wc b8 36 #[.string ⟨#[116]⟩,.slice none 0 0]) (hb9:Blk wc b9 36 #[.string ((Ts.f (Ts.b false) (Ts.b true))).sm.base,.slice A15 ((Ts.f (Ts.b false) (Ts.b true))).sm.args.length c15]) (hz15:Fz [] n15 TS wc (fun w=>SimsIn w A15 ((Ts.f (Ts.b false) (Ts.b true))).sm.args)) (f:Fr) (Q:Exit→Act→World→Prop) (k0:f 0= .string s1) (k1:f 1= .string s2) (k7:f 7= .pointer (some ⟨b7,0,none⟩)) (k8:f 8= .pointer (some ⟨b8,0,none⟩)) (k9:f 9= .pointer (some ⟨b9,0,none⟩)):WC Tryd.prog (sl (sr (sr (sr (ob Tryd.f29.body))))) (QRS 51 [10,16,17,18,19,20,21,22,23,24,25,26,27,28,29,30,31,32,33,34,35,36,37,38] f (fun g w'=>Same [] wc w'∧QuR s1 s2 wc (g 10) w') Q) 51 f wc:=by
 have hZ:Same [] wc wc:=Same.refl _ _;refine qv 0 (.string s1) k0 nu (qv 1 (.string s2) k1 nu (qv 7 (.pointer (some ⟨b7,0,none⟩)) k7 nu (qv 8 (.pointer (some ⟨b8,0,none⟩)) k8 nu (qv 9 (.pointer (some ⟨b9,0,none⟩)) k9 nu ?_))));have z7:=hb7.lt;have z8:=hb8.lt;have z9:=hb9.lt;refine jv 24 [16,17,18,19,20,21,22,23,24,25,26,27,28,29,30,31,32,33,34,35,36,37,38,10] (fun ix=>Nat.beq ix 23) (fun ix v wv=>match ix with | 0=>v= .string s1 | 1=>v= .agg #[.string ((Ts.f (Ts.b false) (Ts.b true))).sm.base,.slice A15 ((Ts.f (Ts.b false) (Ts.b true))).sm.args.length c15] | 2=>v= .agg #[.string ((Ts.b true)).sm.base,.slice none ((Ts.b true)).sm.args.length 0] | 3=>SmD [] (qN19 s1 s2) wv (v) | 4=>TmD [] (P5 s1 s2) wv (v) | 5=>v= .agg #[.string ((Ts.b false)).sm.base,.slice none ((Ts.b false)).sm.args.length 0] | 6=>v= .string s2 | 7=>v= .agg #[.string ((Ts.b true)).sm.base,.slice none ((Ts.b true)).sm.args.length 0] | 8=>v= .agg #[.string ((Ts.b true)).sm.base,.slice none ((Ts.b true)).sm.args.length 0] | 9=>v= .agg #[.string ((Ts.b true)).sm.base,.slice none ((Ts.b true)).sm.args.length 0] | 10=>SmD [] (qN26 s1 s2) wv (v) | 11=>SmD [] (qN27 s1 s2) wv (v) | 12=>TmD [] (P4 s1 s2) wv (v) | 13=>TmD [] (P3 s1 s2) wv (v) | 14=>TmD [] (P2 s1 s2) wv (v) | 15=>TmD [] (P0 s1 s2) wv (v) | 16=>TmD [] (OY s1 s2) wv (v) | 17=>TmD [] (OW s1 s2) wv (v) | 18=>TmD [] (OV s1 s2) wv (v) | 19=>TmD [] (OK s1 s2) wv (v) | 20=>TmD [] (OJ s1 s2) wv (v) | 21=>TmD [] (OX s1 s2) wv (v) | 22=>TmD [] (kQ s1 s2) wv (v) | 23=>∃ b,v= .pointer (some ⟨b,0,none⟩)∧wc.heap.size≤b∧Blk wv b 39 #[.int .i64 0,.string ⟨#[]⟩,.int .i64 0,.string ⟨#[]⟩,.slice none 0 0,.slice none 0 0] | _=>True) kR kR ?_ ?_ ?_
 ·intro ix v wv wv2 h hs
  match ix,h with
  | 0,h=>exact h
  | 1,h=>exact h
  | 2,h=>exact h
  | 3,h=>
   obtain⟨A19,c19,n19,e19,hz19⟩:=h;exact⟨A19,c19,n19,e19,hz19.tr0 hs⟩
  | 4,h=>
   obtain⟨S20,c20,B20,m20,n20,e20,hz20⟩:=h;exact⟨S20,c20,B20,m20,n20,e20,hz20.tr0 hs⟩
  | 5,h=>exact h
  | 6,h=>exact h
  | 7,h=>exact h
  | 8,h=>exact h
  | 9,h=>exact h
  | 10,h=>
   obtain⟨A26,c26,n26,e26,hz26⟩:=h;exact⟨A26,c26,n26,e26,hz26.tr0 hs⟩
  | 11,h=>
   obtain⟨A27,c27,n27,e27,hz27⟩:=h;exact⟨A27,c27,n27,e27,hz27.tr0 hs⟩
  | 12,h=>
   obtain⟨S28,c28,B28,m28,n28,e28,hz28⟩:=h;exact⟨S28,c28,B28,m28,n28,e28,hz28.tr0 hs⟩
  | 13,h=>
   obtain⟨S29,c29,B29,m29,n29,e29,hz29⟩:=h;exact⟨S29,c29,B29,m29,n29,e29,hz29.tr0 hs⟩
  | 14,h=>
   obtain⟨S30,c30,B30,m30,n30,e30,hz30⟩:=h;exact⟨S30,c30,B30,m30,n30,e30,hz30.tr0 hs⟩
  | 15,h=>
   obtain⟨S31,c31,B31,m31,n31,e31,hz31⟩:=h;exact⟨S31,c31,B31,m31,n31,e31,hz31.tr0 hs⟩
  | 16,h=>
   obtain⟨S32,c32,B32,m32,n32,e32,hz32⟩:=h;exact⟨S32,c32,B32,m32,n32,e32,hz32.tr0 hs⟩
  | 17,h=>
   obtain⟨S33,c33,B33,m33,n33,e33,hz33⟩:=h;exact⟨S33,c33,B33,m33,n33,e33,hz33.tr0 hs⟩
  | 18,h=>
   obtain⟨S34,c34,B34,m34,n34,e34,hz34⟩:=h;exact⟨S34,c34,B34,m34,n34,e34,hz34.tr0 hs⟩
  | 19,h=>
   obtain⟨S35,c35,B35,m35,n35,e35,hz35⟩:=h;exact⟨S35,c35,B35,m35,n35,e35,hz35.tr0 hs⟩
  | 20,h=>
   obtain⟨S36,c36,B36,m36,n36,e36,hz36⟩:=h;exact⟨S36,c36,B36,m36,n36,e36,hz36.tr0 hs⟩
  | 21,h=>
   obtain⟨S37,c37,B37,m37,n37,e37,hz37⟩:=h;exact⟨S37,c37,B37,m37,n37,e37,hz37.tr0 hs⟩
  | 22,h=>
   obtain⟨S38,c38,B38,m38,n38,e38,hz38⟩:=h;exact⟨S38,c38,B38,m38,n38,e38,hz38.tr0 hs⟩
  | 23,h=>
   obtain⟨b10,e10,lo10,hb10⟩:=h;exact⟨b10,e10,lo10,hb10.tr0 hs⟩
  | _ + 24,h=>exact trivial
 ·intro ix o hix hoq gg wx hs hd hdis
  match ix,hix,hoq with
  | 0,_,hoq=>
   cases sI hoq;exact oV (qy (v:= .string _) rfl) rfl
  | 1,_,hoq=>
   cases sI hoq;replace hb9:=hb9.tr0 hs;exact oV (zW U36 rfl rfl hb9.range0 qk) rfl
  | 2,_,hoq=>
   cases sI hoq;replace hb8:=hb8.tr0 hs;exact oV (zW U36 rfl rfl hb8.range0 qk) rfl
  | 3,_,hoq=>
   cases sI hoq;replace hz15:=hz15.tr0 hs;refine zx 17 (.agg #[.string ((Ts.f (Ts.b false) (Ts.b true))).sm.base,.slice A15 ((Ts.f (Ts.b false) (Ts.b true))).sm.args.length c15]) (hd 1 (zj kR)) nu (zx 18 (.agg #[.string ((Ts.b true)).sm.base,.slice none ((Ts.b true)).sm.args.length 0]) (hd 2 (zj kR)) nu ?_);refine xq Y3 (Z0 [] (Ts.f (Ts.b false) (Ts.b true)) (Ts.b true) _ _ _ _ _ _ wx (by simp) hz15 (Fz.triv _ _ TS (fun _=>SimsIn.nil))) rfl (fun e' w2 hr=>?_);obtain⟨⟨_,rfl,hd⟩,hs⟩:=hr;exact⟨_,rfl,sB hs,hd,qZ⟩
  | 4,_,hoq=>
   cases sI hoq;obtain⟨A19,c19,n19,e19,hz19⟩:=hd 3 (zj kR);refine zx 16 (.string s1) (hd 0 (zj kR)) nu (zx 19 (.agg #[.string ((qN19 s1 s2)).sm.base,.slice A19 ((qN19 s1 s2)).sm.args.length c19]) e19 nu ?_);refine xq QQ (o8 [] s1 (qN19 s1 s2) _ _ _ wx hz19) rfl (fun e' w2 hr=>?_);obtain⟨⟨_,rfl,hd⟩,hs⟩:=hr;exact⟨_,rfl,sB hs,hd,qZ⟩
  | 5,_,hoq=>
   cases sI hoq;replace hb7:=hb7.tr0 hs;exact oV (zW U36 rfl rfl hb7.range0 qk) rfl
  | 6,_,hoq=>
   cases sI hoq;exact oV (qy (v:= .string _) rfl) rfl
  | 7,_,hoq=>
   cases sI hoq;replace hb8:=hb8.tr0 hs;exact oV (zW U36 rfl rfl hb8.range0 qk) rfl
  | 8,_,hoq=>
   cases sI hoq;replace hb8:=hb8.tr0 hs;exact oV (zW U36 rfl rfl hb8.range0 qk) rfl
  | 9,_,hoq=>
   cases sI hoq;replace hb8:=hb8.tr0 hs;exact oV (zW U36 rfl rfl hb8.range0 qk) rfl
  | 10,_,hoq=>
   cases sI hoq;refine zx 24 (.agg #[.string ((Ts.b true)).sm.base,.slice none ((Ts.b true)).sm.args.length 0]) (hd 8 (zj kR)) nu (zx 25 (.agg #[.string ((Ts.b true)).sm.base,.slice none ((Ts.b true)).sm.args.length 0]) (hd 9 (zj kR)) nu ?_);refine xq Y3 (Z0 [] (Ts.b true) (Ts.b true) _ _ _ _ _ _ wx (by simp) (Fz.triv _ _ TS (fun _=>SimsIn.nil)) (Fz.triv _ _ TS (fun _=>SimsIn.nil))) rfl (fun e' w2 hr=>?_);obtain⟨⟨_,rfl,hd⟩,hs⟩:=hr;exact⟨_,rfl,sB hs,hd,qZ⟩
  | 11,_,hoq=>
   cases sI hoq;obtain⟨A26,c26,n26,e26,hz26⟩:=hd 10 (zj kR);refine zx 23 (.agg #[.string ((Ts.b true)).sm.base,.slice none ((Ts.b true)).sm.args.length 0]) (hd 7 (zj kR)) nu (zx 26 (.agg #[.string ((qN26 s1 s2)).sm.base,.slice A26 ((qN26 s1 s2)).sm.args.length c26]) e26 nu ?_);refine xq Y3 (Z0 [] (Ts.b true) (qN26 s1 s2) _ _ _ _ _ _ wx (by simp) (Fz.triv _ _ TS (fun _=>SimsIn.nil)) hz26) rfl (fun e' w2 hr=>?_);obtain⟨⟨_,rfl,hd⟩,hs⟩:=hr;exact⟨_,rfl,sB hs,hd,qZ⟩
  | 12,_,hoq=>
   cases sI hoq;obtain⟨A27,c27,n27,e27,hz27⟩:=hd 11 (zj kR);refine zx 22 (.string s2) (hd 6 (zj kR)) nu (zx 27 (.agg #[.string ((qN27 s1 s2)).sm.base,.slice A27 ((qN27 s1 s2)).sm.args.length c27]) e27 nu ?_);refine xq QQ (o8 [] s2 (qN27 s1 s2) _ _ _ wx hz27) rfl (fun e' w2 hr=>?_);obtain⟨⟨_,rfl,hd⟩,hs⟩:=hr;exact⟨_,rfl,sB hs,hd,qZ⟩
  | 13,_,hoq=>
   cases sI hoq;refine xq Q3 (jx [] 2 wx) rfl (fun e' w2 hr=>?_);obtain⟨⟨_,rfl,hd⟩,hs⟩:=hr;exact⟨_,rfl,sB hs,hd,qZ⟩
  | 14,_,hoq=>
   cases sI hoq;refine xq Q3 (jx [] 0 wx) rfl (fun e' w2 hr=>?_);obtain⟨⟨_,rfl,hd⟩,hs⟩:=hr;exact⟨_,rfl,sB hs,hd,qZ⟩
  | 15,_,hoq=>
   cases sI hoq;obtain⟨S29,c29,B29,m29,n29,e29,hz29⟩:=hd 13 (zj kR);obtain⟨S30,c30,B30,m30,n30,e30,hz30⟩:=hd 14 (zj kR);refine zx 29 (.agg #[.int .i64 ((P3 s1 s2)).tm.kind,.string ((P3 s1 s2)).tm.name,.int .i64 ((P3 s1 s2)).tm.index,.string ((P3 s1 s2)).tm.type.base,.slice S29 ((P3 s1 s2)).tm.type.args.length c29,.slice B29 ((P3 s1 s2)).tm.args.length m29]) e29 nu (zx 30 (.agg #[.int .i64 ((P2 s1 s2)).tm.kind,.string ((P2 s1 s2)).tm.name,.int .i64 ((P2 s1 s2)).tm.index,.string ((P2 s1 s2)).tm.type.base,.slice S30 ((P2 s1 s2)).tm.type.args.length c30,.slice B30 ((P2 s1 s2)).tm.args.length m30]) e30 nu ?_);refine xq XX (gV [] (P3 s1 s2) (P2 s1 s2) _ _ _ _ _ _ _ _ _ _ wx (by simp) hz29 hz30) rfl (fun e' w2 hr=>?_);obtain⟨⟨_,rfl,hd⟩,hs⟩:=hr;exact⟨_,rfl,sB hs,hd,qZ⟩
  | 16,_,hoq=>
   cases sI hoq;obtain⟨S28,c28,B28,m28,n28,e28,hz28⟩:=hd 12 (zj kR);obtain⟨S31,c31,B31,m31,n31,e31,hz31⟩:=hd 15 (zj kR);refine zx 28 (.agg #[.int .i64 ((P4 s1 s2)).tm.kind,.string ((P4 s1 s2)).tm.name,.int .i64 ((P4 s1 s2)).tm.index,.string ((P4 s1 s2)).tm.type.base,.slice S28 ((P4 s1 s2)).tm.type.args.length c28,.slice B28 ((P4 s1 s2)).tm.args.length m28]) e28 nu (zx 31 (.agg #[.int .i64 ((P0 s1 s2)).tm.kind,.string ((P0 s1 s2)).tm.name,.int .i64 ((P0 s1 s2)).tm.index,.string ((P0 s1 s2)).tm.type.base,.slice S31 ((P0 s1 s2)).tm.type.args.length c31,.slice B31 ((P0 s1 s2)).tm.args.length m31]) e31 nu ?_);refine xq XX (gV [] (P4 s1 s2) (P0 s1 s2) _ _ _ _ _ _ _ _ _ _ wx (by simp) hz28 hz31) rfl (fun e' w2 hr=>?_);obtain⟨⟨_,rfl,hd⟩,hs⟩:=hr;exact⟨_,rfl,sB hs,hd,qZ⟩
  | 17,_,hoq=>
   cases sI hoq;refine xq Q3 (jx [] 1 wx) rfl (fun e' w2 hr=>?_);obtain⟨⟨_,rfl,hd⟩,hs⟩:=hr;exact⟨_,rfl,sB hs,hd,qZ⟩
  | 18,_,hoq=>
   cases sI hoq;refine xq Q3 (jx [] 0 wx) rfl (fun e' w2 hr=>?_);obtain⟨⟨_,rfl,hd⟩,hs⟩:=hr;exact⟨_,rfl,sB hs,hd,qZ⟩
  | 19,_,hoq=>
   cases sI hoq;obtain⟨S33,c33,B33,m33,n33,e33,hz33⟩:=hd 17 (zj kR);obtain⟨S34,c34,B34,m34,n34,e34,hz34⟩:=hd 18 (zj kR);refine zx 33 (.agg #[.int .i64 ((OW s1 s2)).tm.kind,.string ((OW s1 s2)).tm.name,.int .i64 ((OW s1 s2)).tm.index,.string ((OW s1 s2)).tm.type.base,.slice S33 ((OW s1 s2)).tm.type.args.length c33,.slice B33 ((OW s1 s2)).tm.args.length m33]) e33 nu (zx 34 (.agg #[.int .i64 ((OV s1 s2)).tm.kind,.string ((OV s1 s2)).tm.name,.int .i64 ((OV s1 s2)).tm.index,.string ((OV s1 s2)).tm.type.base,.slice S34 ((OV s1 s2)).tm.type.args.length c34,.slice B34 ((OV s1 s2)).tm.args.length m34]) e34 nu ?_);refine xq XX (gV [] (OW s1 s2) (OV s1 s2) _ _ _ _ _ _ _ _ _ _ wx (by simp) hz33 hz34) rfl (fun e' w2 hr=>?_);obtain⟨⟨_,rfl,hd⟩,hs⟩:=hr;exact⟨_,rfl,sB hs,hd,qZ⟩
  | 20,_,hoq=>
   cases sI hoq;obtain⟨S32,c32,B32,m32,n32,e32,hz32⟩:=hd 16 (zj kR);obtain⟨S35,c35,B35,m35,n35,e35,hz35⟩:=hd 19 (zj kR);refine zx 32 (.agg #[.int .i64 ((OY s1 s2)).tm.kind,.string ((OY s1 s2)).tm.name,.int .i64 ((OY s1 s2)).tm.index,.string ((OY s1 s2)).tm.type.base,.slice S32 ((OY s1 s2)).tm.type.args.length c32,.slice B32 ((OY s1 s2)).tm.args.length m32]) e32 nu (zx 35 (.agg #[.int .i64 ((OK s1 s2)).tm.kind,.string ((OK s1 s2)).tm.name,.int .i64 ((OK s1 s2)).tm.index,.string ((OK s1 s2)).tm.type.base,.slice S35 ((OK s1 s2)).tm.type.args.length c35,.slice B35 ((OK s1 s2)).tm.args.length m35]) e35 nu ?_);refine xq XX (gV [] (OY s1 s2) (OK s1 s2) _ _ _ _ _ _ _ _ _ _ wx (by simp) hz32 hz35) rfl (fun e' w2 hr=>?_);obtain⟨⟨_,rfl,hd⟩,hs⟩:=hr;exact⟨_,rfl,sB hs,hd,qZ⟩
  | 21,_,hoq=>
   cases sI hoq;obtain⟨S36,c36,B36,m36,n36,e36,hz36⟩:=hd 20 (zj kR);refine zx 21 (.agg #[.string ((Ts.b false)).sm.base,.slice none ((Ts.b false)).sm.args.length 0]) (hd 5 (zj kR)) nu (zx 36 (.agg #[.int .i64 ((OJ s1 s2)).tm.kind,.string ((OJ s1 s2)).tm.name,.int .i64 ((OJ s1 s2)).tm.index,.string ((OJ s1 s2)).tm.type.base,.slice S36 ((OJ s1 s2)).tm.type.args.length c36,.slice B36 ((OJ s1 s2)).tm.args.length m36]) e36 nu ?_);refine xq Q4 (uy [] (Ts.b false) (OJ s1 s2) _ _ _ _ _ _ _ _ wx (by simp) (Fz.triv _ _ TS (fun _=>SimsIn.nil)) hz36) rfl (fun e' w2 hr=>?_);obtain⟨⟨_,rfl,hd⟩,hs⟩:=hr;exact⟨_,rfl,sB hs,hd,qZ⟩
  | 22,_,hoq=>
   cases sI hoq;obtain⟨S20,c20,B20,m20,n20,e20,hz20⟩:=hd 4 (zj kR);obtain⟨S37,c37,B37,m37,n37,e37,hz37⟩:=hd 21 (zj kR);refine zx 20 (.agg #[.int .i64 ((P5 s1 s2)).tm.kind,.string ((P5 s1 s2)).tm.name,.int .i64 ((P5 s1 s2)).tm.index,.string ((P5 s1 s2)).tm.type.base,.slice S20 ((P5 s1 s2)).tm.type.args.length c20,.slice B20 ((P5 s1 s2)).tm.args.length m20]) e20 nu (zx 37 (.agg #[.int .i64 ((OX s1 s2)).tm.kind,.string ((OX s1 s2)).tm.name,.int .i64 ((OX s1 s2)).tm.index,.string ((OX s1 s2)).tm.type.base,.slice S37 ((OX s1 s2)).tm.type.args.length c37,.slice B37 ((OX s1 s2)).tm.args.length m37]) e37 nu ?_);refine xq XX (gV [] (P5 s1 s2) (OX s1 s2) _ _ _ _ _ _ _ _ _ _ wx (by simp) hz20 hz37) rfl (fun e' w2 hr=>?_);obtain⟨⟨_,rfl,hd⟩,hs⟩:=hr;exact⟨_,rfl,sB hs,hd,qZ⟩
  | 23,_,hoq=>
   cases sI hoq;have hs0:=hs;refine kJ (fun ops Q K=>?_);refine xQ (cs:=#[.int .i64 0,.string ⟨#[]⟩,.int .i64 0,.string ⟨#[]⟩,.slice none 0 0,.slice none 0 0]) uY rfl (fun b10 w1 hb10 hs hr=>?_);exact K _ _ ⟨hs,⟨_,rfl,nLT hs0.size hr,hb10⟩,fR hr hb10.lt⟩
  | _ + 24,hix,_=>exact absurd hix om
 intro gg w2 hs hR hdis;replace hZ:=hZ.trans hs;obtain⟨S38,c38,B38,m38,n38,e38,hz38⟩:=hR 22 dE;obtain⟨b10,e10,lo10,hb10⟩:=hR 23 dE;refine y5 38 (.agg #[.int .i64 ((kQ s1 s2)).tm.kind,.string ((kQ s1 s2)).tm.name,.int .i64 ((kQ s1 s2)).tm.index,.string ((kQ s1 s2)).tm.type.base,.slice S38 ((kQ s1 s2)).tm.type.args.length c38,.slice B38 ((kQ s1 s2)).tm.args.length m38]) e38 nu (y5 10 (.pointer (some ⟨b10,0,none⟩)) e10 nu ?_);refine qz hb10 rfl rfl vQ rfl qX (fun w3 hq hs=>?_);replace hZ:=hZ.new10 hs lo10;replace hz38:=hz38.free hs hb10 sp_tm;replace hb10:=hq;refine zq ?_;refine e_R ⟨agA,?_⟩;exact⟨hZ,b10,S38,c38,B38,m38,_,rfl,lo10,hb10,hz38⟩
set_option maxHeartbeats 2000000 in
theorem quN_d (s1 s2:ByteArray) (w:World):Calls Tryd.prog 29 #[.string s1,.string s2,.bool false] w fun e w'=>(∃ z,e= .returned z∧TmD [] (quN s1 s2) w' z)∧Bel w w':=by
 refine enter Tryd.func29 Tryd.ntmps29 rfl (Nat.le_of_ble_eq_true rfl) ?_;have hB:Bel w w:=Below.refl _ _;refine zz (z4 ?_);refine xQ (cs:=#[.int .i64 0,.string ⟨#[]⟩,.int .i64 0,.string ⟨#[]⟩,.slice none 0 0,.slice none 0 0]) uY rfl (fun b6 w1 hb6 hs hr=>?_);have lo6:=nLT (Bel.size hB) hr;replace hB:=hB.tr0 hs;refine zq (e_S (zz (z4 ?_)));refine qJ SJ (oY _ _) rfl (fun e' w2 hr=>?_);obtain⟨rfl,hs⟩:=hr;replace hs:=sB hs;replace hB:=hB.tr0 hs;replace hb6:=hb6.tr0 hs;refine⟨_,rfl,?_⟩;refine qJ SJ (oY _ _) rfl (fun e' w3 hr=>?_);obtain⟨rfl,hs⟩:=hr;replace hs:=sB hs;replace hB:=hB.tr0 hs;replace hb6:=hb6.tr0 hs;refine⟨_,rfl,?_⟩;refine xQ (cs:=#[.string ⟨#[]⟩,.slice none 0 0]) j8 rfl (fun b7 w4 hb7 hs hr=>?_);have:=nLL hb6.lt hr;have lo7:=nLT (Bel.size hB) hr;replace hB:=hB.tr0 hs;replace hb6:=hb6.tr0 hs;refine xQ (cs:=#[.string ⟨#[]⟩,.slice none 0 0]) j8 rfl (fun b8 w5 hb8 hs hr=>?_);have:=nLL hb6.lt hr;have:=nLL hb7.lt hr;have lo8:=nLT (Bel.size hB) hr;replace hB:=hB.tr0 hs;replace hb6:=hb6.tr0 hs;replace hb7:=hb7.tr0 hs;refine qz hb7 rfl rfl qk rfl qX (fun w6 hq hs=>?_);replace hB:=hB.tr1 hs lo7;replace hb6:=hb6.tr1 hs om;replace hb8:=hb8.tr1 hs om;replace hb7:=hq;refine qz hb8 rfl rfl qk rfl qX (fun w7 hq hs=>?_);replace hB:=hB.tr1 hs lo8;replace hb6:=hb6.tr1 hs om;replace hb7:=hb7.tr1 hs om;replace hb8:=hq;refine zq (e_S (zz (z4 (wl (zW U36 rfl rfl hb7.range0 qk) (wl (zW U36 rfl rfl hb8.range0 qk) ?_)))));refine qJ Y3 (Z0 [] (Ts.b false) (Ts.b true) none none 0 0 _ _ _ (by simp) (Fz.triv _ _ TS (fun _=>SimsIn.nil)) (Fz.triv _ _ TS (fun _=>SimsIn.nil))) rfl (fun e' w8 hr=>?_);obtain⟨⟨_,rfl,A15,c15,n15,rfl,hz15⟩,hs⟩:=hr;replace hs:=sB hs;replace hB:=hB.tr0 hs;replace hb6:=hb6.tr0 hs;replace hb7:=hb7.tr0 hs;replace hb8:=hb8.tr0 hs;refine⟨_,rfl,?_⟩;refine yW (cs:=#[.string ⟨#[]⟩,.slice none 0 0]) j8 rfl (fun _=>rfl) (fun _=>rfl) qk rfl qX (fun b9 w10 hb9 hs hr=>?_);replace hB:=hB.tr0 hs;replace hb6:=hb6.tr0 hs;replace hb7:=hb7.tr0 hs;replace hb8:=hb8.tr0 hs;replace hz15:=hz15.tr0 hs;refine zq (e_S (zz ?_));refine yV [10,16,17,18,19,20,21,22,23,24,25,26,27,28,29,30,31,32,33,34,35,36,37,38] (fun g w'=>Same [] w10 w'∧QuR s1 s2 w10 (g 10) w') ?_ (fun g3 w11 hI=>?_)
 ·have hh:=fun f Q k0 k1 k2 k3 k4=>qu_r3 s1 s2 hb7 hb8 hb9 hz15 f Q k0 k1 k2 k3 k4
  exact hh _ _ (by rfl) (by rfl) (by rfl) (by rfl) (by rfl)
 obtain⟨hs,b10,S38,c38,B38,m38,n38,e10,lo10,hb10,hz38⟩:=hI;have q15:=hz15.le;have lo10n:=nLT (Bel.size hB) lo10;replace hB:=hB.tr0 hs;replace hb6:=hb6.tr0 hs;replace hb9:=hb9.tr0 hs;replace hz15:=hz15.tr0 hs;replace hz15:=hz15.addX (Y:=[b10]) (fun y hy=> .inr (by rw [List.mem_singleton.1 hy];exact nLT q15 lo10));replace lo10:=lo10n;refine u5 10 (.pointer (some ⟨b10,0,none⟩)) e10 nu (e_S (zz (zz (z4 (wmB rfl (zq (e_S ?_)))))));refine kZ rfl (fun c39=>?_) (fun c39=>?_)
 ·exact absurd c39 dE
 refine zK (e_S (zz ?_));refine jv 5 [46,47,48,49,50] (fun _=>false) (fun ix v wv=>match ix with | 0=>v= .agg #[.string ((Ts.f (Ts.b false) (Ts.b true))).sm.base,.slice A15 ((Ts.f (Ts.b false) (Ts.b true))).sm.args.length c15] | 1=>v= .agg #[.string ((Ts.f (Ts.b false) (Ts.b true))).sm.base,.slice A15 ((Ts.f (Ts.b false) (Ts.b true))).sm.args.length c15] | 2=>v= .agg #[.int .i64 ((kQ s1 s2)).tm.kind,.string ((kQ s1 s2)).tm.name,.int .i64 ((kQ s1 s2)).tm.index,.string ((kQ s1 s2)).tm.type.base,.slice S38 ((kQ s1 s2)).tm.type.args.length c38,.slice B38 ((kQ s1 s2)).tm.args.length m38] | 3=>TmD [b10] (P6 s1 s2) wv (v) | 4=>TmD [b10] (BV s1 s2) wv (v) | _=>True) kR kR ?_ ?_ ?_
 ·intro ix v wv wv2 h hs
  match ix,h with
  | 0,h=>exact h
  | 1,h=>exact h
  | 2,h=>exact h
  | 3,h=>
   obtain⟨S49,c49,B49,m49,n49,e49,hz49⟩:=h;exact⟨S49,c49,B49,m49,n49,e49,hz49.tr0 hs⟩
  | 4,h=>
   obtain⟨S50,c50,B50,m50,n50,e50,hz50⟩:=h;exact⟨S50,c50,B50,m50,n50,e50,hz50.tr0 hs⟩
  | _ + 5,h=>exact trivial
 ·intro ix o hix hoq gg wx hs hd hdis
  match ix,hix,hoq with
  | 0,_,hoq=>
   cases sI hoq;replace hb9:=hb9.tr0 hs;exact oV (zW U36 rfl rfl hb9.range0 qk) rfl
  | 1,_,hoq=>
   cases sI hoq;replace hb9:=hb9.tr0 hs;exact oV (zW U36 rfl rfl hb9.range0 qk) rfl
  | 2,_,hoq=>
   cases sI hoq;replace hb10:=hb10.tr0 hs;exact oV (zW U39 rfl rfl hb10.range0 vQ) rfl
  | 3,_,hoq=>
   cases sI hoq;replace hz15:=hz15.tr0 hs;replace hb10:=hb10.tr0 hs;replace hz38:=hz38.tr0 hs;refine zx 47 (.agg #[.string ((Ts.f (Ts.b false) (Ts.b true))).sm.base,.slice A15 ((Ts.f (Ts.b false) (Ts.b true))).sm.args.length c15]) (hd 1 (zj kR)) nu (zx 48 (.agg #[.int .i64 ((kQ s1 s2)).tm.kind,.string ((kQ s1 s2)).tm.name,.int .i64 ((kQ s1 s2)).tm.index,.string ((kQ s1 s2)).tm.type.base,.slice S38 ((kQ s1 s2)).tm.type.args.length c38,.slice B38 ((kQ s1 s2)).tm.args.length m38]) (hd 2 (zj kR)) nu ?_);refine xq Q4 (uy [b10] (Ts.f (Ts.b false) (Ts.b true)) (kQ s1 s2) _ _ _ _ _ _ _ _ wx (fun x hx=>by rw [List.mem_singleton.1 hx];exact hb10.lt) hz15 hz38) rfl (fun e' w2 hr=>?_);obtain⟨⟨_,rfl,hd⟩,hs⟩:=hr;exact⟨_,rfl,sB hs,hd,qZ⟩
  | 4,_,hoq=>
   cases sI hoq;replace hz15:=hz15.tr0 hs;replace hb10:=hb10.tr0 hs;obtain⟨S49,c49,B49,m49,n49,e49,hz49⟩:=hd 3 (zj kR);refine zx 46 (.agg #[.string ((Ts.f (Ts.b false) (Ts.b true))).sm.base,.slice A15 ((Ts.f (Ts.b false) (Ts.b true))).sm.args.length c15]) (hd 0 (zj kR)) nu (zx 49 (.agg #[.int .i64 ((P6 s1 s2)).tm.kind,.string ((P6 s1 s2)).tm.name,.int .i64 ((P6 s1 s2)).tm.index,.string ((P6 s1 s2)).tm.type.base,.slice S49 ((P6 s1 s2)).tm.type.args.length c49,.slice B49 ((P6 s1 s2)).tm.args.length m49]) e49 nu ?_);refine xq Q4 (uy [b10] (Ts.f (Ts.b false) (Ts.b true)) (P6 s1 s2) _ _ _ _ _ _ _ _ wx (fun x hx=>by rw [List.mem_singleton.1 hx];exact hb10.lt) hz15 hz49) rfl (fun e' w2 hr=>?_);obtain⟨⟨_,rfl,hd⟩,hs⟩:=hr;exact⟨_,rfl,sB hs,hd,qZ⟩
  | _ + 5,hix,_=>exact absurd hix om
 intro gg w12 hs hR hdis;replace hB:=hB.tr0 hs;replace hb6:=hb6.tr0 hs;obtain⟨S50,c50,B50,m50,n50,e50,hz50⟩:=hR 4 dE;refine y5 50 (.agg #[.int .i64 ((BV s1 s2)).tm.kind,.string ((BV s1 s2)).tm.name,.int .i64 ((BV s1 s2)).tm.index,.string ((BV s1 s2)).tm.type.base,.slice S50 ((BV s1 s2)).tm.type.args.length c50,.slice B50 ((BV s1 s2)).tm.args.length m50]) e50 nu ?_;refine qz hb6 rfl rfl vQ rfl qX (fun w13 hq hs=>?_);replace hB:=hB.tr1 hs lo6;replace hz50:=hz50.sp1 hs hb6 sp_tm;replace hb6:=hq;refine zq (e_S (q8 (qK (.inl rfl) rfl (qq U39 rfl rfl hb6.range0 vQ) ?_)));exact⟨⟨_,rfl,_,_,_,_,_,rfl,hz50.nil⟩,hB⟩
set_option maxHeartbeats 2000000 in
theorem quY_d (s1 s2:ByteArray) (w:World):Calls Tryd.prog 29 #[.string s1,.string s2,.bool true] w fun e w'=>(∃ z,e= .returned z∧TmD [] (quY s1 s2) w' z)∧Bel w w':=by
 refine enter Tryd.func29 Tryd.ntmps29 rfl (Nat.le_of_ble_eq_true rfl) ?_;have hB:Bel w w:=Below.refl _ _;refine zz (z4 ?_);refine xQ (cs:=#[.int .i64 0,.string ⟨#[]⟩,.int .i64 0,.string ⟨#[]⟩,.slice none 0 0,.slice none 0 0]) uY rfl (fun b6 w1 hb6 hs hr=>?_);have lo6:=nLT (Bel.size hB) hr;replace hB:=hB.tr0 hs;refine zq (e_S (zz (z4 ?_)));refine qJ SJ (oY _ _) rfl (fun e' w2 hr=>?_);obtain⟨rfl,hs⟩:=hr;replace hs:=sB hs;replace hB:=hB.tr0 hs;replace hb6:=hb6.tr0 hs;refine⟨_,rfl,?_⟩;refine qJ SJ (oY _ _) rfl (fun e' w3 hr=>?_);obtain⟨rfl,hs⟩:=hr;replace hs:=sB hs;replace hB:=hB.tr0 hs;replace hb6:=hb6.tr0 hs;refine⟨_,rfl,?_⟩;refine xQ (cs:=#[.string ⟨#[]⟩,.slice none 0 0]) j8 rfl (fun b7 w4 hb7 hs hr=>?_);have:=nLL hb6.lt hr;have lo7:=nLT (Bel.size hB) hr;replace hB:=hB.tr0 hs;replace hb6:=hb6.tr0 hs;refine xQ (cs:=#[.string ⟨#[]⟩,.slice none 0 0]) j8 rfl (fun b8 w5 hb8 hs hr=>?_);have:=nLL hb6.lt hr;have:=nLL hb7.lt hr;have lo8:=nLT (Bel.size hB) hr;replace hB:=hB.tr0 hs;replace hb6:=hb6.tr0 hs;replace hb7:=hb7.tr0 hs;refine qz hb7 rfl rfl qk rfl qX (fun w6 hq hs=>?_);replace hB:=hB.tr1 hs lo7;replace hb6:=hb6.tr1 hs om;replace hb8:=hb8.tr1 hs om;replace hb7:=hq;refine qz hb8 rfl rfl qk rfl qX (fun w7 hq hs=>?_);replace hB:=hB.tr1 hs lo8;replace hb6:=hb6.tr1 hs om;replace hb7:=hb7.tr1 hs om;replace hb8:=hq;refine zq (e_S (zz (z4 (wl (zW U36 rfl rfl hb7.range0 qk) (wl (zW U36 rfl rfl hb8.range0 qk) ?_)))));refine qJ Y3 (Z0 [] (Ts.b false) (Ts.b true) none none 0 0 _ _ _ (by simp) (Fz.triv _ _ TS (fun _=>SimsIn.nil)) (Fz.triv _ _ TS (fun _=>SimsIn.nil))) rfl (fun e' w8 hr=>?_);obtain⟨⟨_,rfl,A15,c15,n15,rfl,hz15⟩,hs⟩:=hr;replace hs:=sB hs;replace hB:=hB.tr0 hs;replace hb6:=hb6.tr0 hs;replace hb7:=hb7.tr0 hs;replace hb8:=hb8.tr0 hs;refine⟨_,rfl,?_⟩;refine yW (cs:=#[.string ⟨#[]⟩,.slice none 0 0]) j8 rfl (fun _=>rfl) (fun _=>rfl) qk rfl qX (fun b9 w10 hb9 hs hr=>?_);replace hB:=hB.tr0 hs;replace hb6:=hb6.tr0 hs;replace hb7:=hb7.tr0 hs;replace hb8:=hb8.tr0 hs;replace hz15:=hz15.tr0 hs;refine zq (e_S (zz ?_));refine yV [10,16,17,18,19,20,21,22,23,24,25,26,27,28,29,30,31,32,33,34,35,36,37,38] (fun g w'=>Same [] w10 w'∧QuR s1 s2 w10 (g 10) w') ?_ (fun g3 w11 hI=>?_)
 ·have hh:=fun f Q k0 k1 k2 k3 k4=>qu_r3 s1 s2 hb7 hb8 hb9 hz15 f Q k0 k1 k2 k3 k4
  exact hh _ _ (by rfl) (by rfl) (by rfl) (by rfl) (by rfl)
 obtain⟨hs,b10,S38,c38,B38,m38,n38,e10,lo10,hb10,hz38⟩:=hI;have:=nLL hb6.lt lo10;have:=nLL hb9.lt lo10;have q15:=hz15.le;have lo10n:=nLT (Bel.size hB) lo10;replace hB:=hB.tr0 hs;replace hb6:=hb6.tr0 hs;replace hb8:=hb8.tr0 hs;replace hb9:=hb9.tr0 hs;replace hz15:=hz15.tr0 hs;replace hz15:=hz15.addX (Y:=[b10]) (fun y hy=> .inr (by rw [List.mem_singleton.1 hy];exact nLT q15 lo10));replace lo10:=lo10n;refine u5 10 (.pointer (some ⟨b10,0,none⟩)) e10 nu (e_S (zz (zz (z4 (wmB rfl (zq (e_S ?_)))))));refine kZ rfl (fun c39=>?_) (fun c39=>?_)
 ·refine jv 6 [40,41,42,43,44,45] (fun _=>false) (fun ix v wv=>match ix with | 0=>v= .agg #[.string ((Ts.b true)).sm.base,.slice none ((Ts.b true)).sm.args.length 0] | 1=>v= .agg #[.string ((Ts.b true)).sm.base,.slice none ((Ts.b true)).sm.args.length 0] | 2=>SmD [b10] (qY42 s1 s2) wv (v) | 3=>TmD [b10] (OQ s1 s2) wv (v) | 4=>v= .agg #[.int .i64 ((kQ s1 s2)).tm.kind,.string ((kQ s1 s2)).tm.name,.int .i64 ((kQ s1 s2)).tm.index,.string ((kQ s1 s2)).tm.type.base,.slice S38 ((kQ s1 s2)).tm.type.args.length c38,.slice B38 ((kQ s1 s2)).tm.args.length m38] | 5=>TmD [b10] (Qw s1 s2) wv (v) | _=>True) kR kR ?_ ?_ ?_
  ·intro ix v wv wv2 h hs
   match ix,h with
   | 0,h=>exact h
   | 1,h=>exact h
   | 2,h=>
    obtain⟨A42,c42,n42,e42,hz42⟩:=h;exact⟨A42,c42,n42,e42,hz42.tr0 hs⟩
   | 3,h=>
    obtain⟨S43,c43,B43,m43,n43,e43,hz43⟩:=h;exact⟨S43,c43,B43,m43,n43,e43,hz43.tr0 hs⟩
   | 4,h=>exact h
   | 5,h=>
    obtain⟨S45,c45,B45,m45,n45,e45,hz45⟩:=h;exact⟨S45,c45,B45,m45,n45,e45,hz45.tr0 hs⟩
   | _ + 6,h=>exact trivial
  ·intro ix o hix hoq gg wx hs hd hdis
   match ix,hix,hoq with
   | 0,_,hoq=>
    cases sI hoq;replace hb8:=hb8.tr0 hs;exact oV (zW U36 rfl rfl hb8.range0 qk) rfl
   | 1,_,hoq=>
    cases sI hoq;replace hb8:=hb8.tr0 hs;exact oV (zW U36 rfl rfl hb8.range0 qk) rfl
   | 2,_,hoq=>
    cases sI hoq;replace hb10:=hb10.tr0 hs;refine zx 40 (.agg #[.string ((Ts.b true)).sm.base,.slice none ((Ts.b true)).sm.args.length 0]) (hd 0 (zj kR)) nu (zx 41 (.agg #[.string ((Ts.b true)).sm.base,.slice none ((Ts.b true)).sm.args.length 0]) (hd 1 (zj kR)) nu ?_);refine xq Y3 (Z0 [b10] (Ts.b true) (Ts.b true) _ _ _ _ _ _ wx (fun x hx=>by rw [List.mem_singleton.1 hx];exact hb10.lt) (Fz.triv _ _ TS (fun _=>SimsIn.nil)) (Fz.triv _ _ TS (fun _=>SimsIn.nil))) rfl (fun e' w2 hr=>?_);obtain⟨⟨_,rfl,hd⟩,hs⟩:=hr;exact⟨_,rfl,sB hs,hd,qZ⟩
   | 3,_,hoq=>
    cases sI hoq;obtain⟨A42,c42,n42,e42,hz42⟩:=hd 2 (zj kR);refine zx 42 (.agg #[.string ((qY42 s1 s2)).sm.base,.slice A42 ((qY42 s1 s2)).sm.args.length c42]) e42 nu ?_;refine xq QQ (o8 [b10] ⟨#[110,111,116]⟩ (qY42 s1 s2) _ _ _ wx hz42) rfl (fun e' w2 hr=>?_);obtain⟨⟨_,rfl,hd⟩,hs⟩:=hr;exact⟨_,rfl,sB hs,hd,qZ⟩
   | 4,_,hoq=>
    cases sI hoq;replace hb10:=hb10.tr0 hs;exact oV (zW U39 rfl rfl hb10.range0 vQ) rfl
   | 5,_,hoq=>
    cases sI hoq;replace hb10:=hb10.tr0 hs;replace hz38:=hz38.tr0 hs;obtain⟨S43,c43,B43,m43,n43,e43,hz43⟩:=hd 3 (zj kR);refine zx 43 (.agg #[.int .i64 ((OQ s1 s2)).tm.kind,.string ((OQ s1 s2)).tm.name,.int .i64 ((OQ s1 s2)).tm.index,.string ((OQ s1 s2)).tm.type.base,.slice S43 ((OQ s1 s2)).tm.type.args.length c43,.slice B43 ((OQ s1 s2)).tm.args.length m43]) e43 nu (zx 44 (.agg #[.int .i64 ((kQ s1 s2)).tm.kind,.string ((kQ s1 s2)).tm.name,.int .i64 ((kQ s1 s2)).tm.index,.string ((kQ s1 s2)).tm.type.base,.slice S38 ((kQ s1 s2)).tm.type.args.length c38,.slice B38 ((kQ s1 s2)).tm.args.length m38]) (hd 4 (zj kR)) nu ?_);refine xq XX (gV [b10] (OQ s1 s2) (kQ s1 s2) _ _ _ _ _ _ _ _ _ _ wx (fun x hx=>by rw [List.mem_singleton.1 hx];exact hb10.lt) hz43 hz38) rfl (fun e' w2 hr=>?_);obtain⟨⟨_,rfl,hd⟩,hs⟩:=hr;exact⟨_,rfl,sB hs,hd,qZ⟩
   | _ + 6,hix,_=>exact absurd hix om
  intro gg w12 hs hR hdis;have hs0:=hs;replace hB:=hB.tr0 hs;replace hb6:=hb6.tr0 hs;replace hb9:=hb9.tr0 hs;replace hz15:=hz15.tr0 hs;replace hb10:=hb10.tr0 hs;obtain⟨S45,c45,B45,m45,n45,e45,hz45⟩:=hR 5 dE;refine y5 45 (.agg #[.int .i64 ((Qw s1 s2)).tm.kind,.string ((Qw s1 s2)).tm.name,.int .i64 ((Qw s1 s2)).tm.index,.string ((Qw s1 s2)).tm.type.base,.slice S45 ((Qw s1 s2)).tm.type.args.length c45,.slice B45 ((Qw s1 s2)).tm.args.length m45]) e45 nu ?_;refine qz hb10 rfl rfl vQ rfl qX (fun w13 hq hs=>?_);replace hB:=hB.tr1 hs lo10;replace hb6:=hb6.tr1 hs om;replace hb9:=hb9.tr1 hs om;replace hz15:=hz15.in1 hs (by simp);replace hz45:=hz45.in1 hs (by simp);replace hb10:=hq;refine zq (e_S (zz ?_));refine jv 5 [46,47,48,49,50] (fun _=>false) (fun ix v wv=>match ix with | 0=>v= .agg #[.string ((Ts.f (Ts.b false) (Ts.b true))).sm.base,.slice A15 ((Ts.f (Ts.b false) (Ts.b true))).sm.args.length c15] | 1=>v= .agg #[.string ((Ts.f (Ts.b false) (Ts.b true))).sm.base,.slice A15 ((Ts.f (Ts.b false) (Ts.b true))).sm.args.length c15] | 2=>v= .agg #[.int .i64 ((Qw s1 s2)).tm.kind,.string ((Qw s1 s2)).tm.name,.int .i64 ((Qw s1 s2)).tm.index,.string ((Qw s1 s2)).tm.type.base,.slice S45 ((Qw s1 s2)).tm.type.args.length c45,.slice B45 ((Qw s1 s2)).tm.args.length m45] | 3=>TmD [b10] (OZ s1 s2) wv (v) | 4=>TmD [b10] (BK s1 s2) wv (v) | _=>True) kR kR ?_ ?_ ?_
  ·intro ix v wv wv2 h hs
   match ix,h with
   | 0,h=>exact h
   | 1,h=>exact h
   | 2,h=>exact h
   | 3,h=>
    obtain⟨S49,c49,B49,m49,n49,e49,hz49⟩:=h;exact⟨S49,c49,B49,m49,n49,e49,hz49.tr0 hs⟩
   | 4,h=>
    obtain⟨S50,c50,B50,m50,n50,e50,hz50⟩:=h;exact⟨S50,c50,B50,m50,n50,e50,hz50.tr0 hs⟩
   | _ + 5,h=>exact trivial
  ·intro ix o hix hoq gg wx hs hd hdis
   match ix,hix,hoq with
   | 0,_,hoq=>
    cases sI hoq;replace hb9:=hb9.tr0 hs;exact oV (zW U36 rfl rfl hb9.range0 qk) rfl
   | 1,_,hoq=>
    cases sI hoq;replace hb9:=hb9.tr0 hs;exact oV (zW U36 rfl rfl hb9.range0 qk) rfl
   | 2,_,hoq=>
    cases sI hoq;replace hb10:=hb10.tr0 hs;exact oV (zW U39 rfl rfl hb10.range0 vQ) rfl
   | 3,_,hoq=>
    cases sI hoq;replace hz15:=hz15.tr0 hs;replace hb10:=hb10.tr0 hs;replace hz45:=hz45.tr0 hs;refine zx 47 (.agg #[.string ((Ts.f (Ts.b false) (Ts.b true))).sm.base,.slice A15 ((Ts.f (Ts.b false) (Ts.b true))).sm.args.length c15]) (hd 1 (zj kR)) nu (zx 48 (.agg #[.int .i64 ((Qw s1 s2)).tm.kind,.string ((Qw s1 s2)).tm.name,.int .i64 ((Qw s1 s2)).tm.index,.string ((Qw s1 s2)).tm.type.base,.slice S45 ((Qw s1 s2)).tm.type.args.length c45,.slice B45 ((Qw s1 s2)).tm.args.length m45]) (hd 2 (zj kR)) nu ?_);refine xq Q4 (uy [b10] (Ts.f (Ts.b false) (Ts.b true)) (Qw s1 s2) _ _ _ _ _ _ _ _ wx (fun x hx=>by rw [List.mem_singleton.1 hx];exact hb10.lt) hz15 hz45) rfl (fun e' w2 hr=>?_);obtain⟨⟨_,rfl,hd⟩,hs⟩:=hr;exact⟨_,rfl,sB hs,hd,qZ⟩
   | 4,_,hoq=>
    cases sI hoq;replace hz15:=hz15.tr0 hs;replace hb10:=hb10.tr0 hs;obtain⟨S49,c49,B49,m49,n49,e49,hz49⟩:=hd 3 (zj kR);refine zx 46 (.agg #[.string ((Ts.f (Ts.b false) (Ts.b true))).sm.base,.slice A15 ((Ts.f (Ts.b false) (Ts.b true))).sm.args.length c15]) (hd 0 (zj kR)) nu (zx 49 (.agg #[.int .i64 ((OZ s1 s2)).tm.kind,.string ((OZ s1 s2)).tm.name,.int .i64 ((OZ s1 s2)).tm.index,.string ((OZ s1 s2)).tm.type.base,.slice S49 ((OZ s1 s2)).tm.type.args.length c49,.slice B49 ((OZ s1 s2)).tm.args.length m49]) e49 nu ?_);refine xq Q4 (uy [b10] (Ts.f (Ts.b false) (Ts.b true)) (OZ s1 s2) _ _ _ _ _ _ _ _ wx (fun x hx=>by rw [List.mem_singleton.1 hx];exact hb10.lt) hz15 hz49) rfl (fun e' w2 hr=>?_);obtain⟨⟨_,rfl,hd⟩,hs⟩:=hr;exact⟨_,rfl,sB hs,hd,qZ⟩
   | _ + 5,hix,_=>exact absurd hix om
  intro gg w14 hs hR hdis;replace hB:=hB.tr0 hs;replace hb6:=hb6.tr0 hs;obtain⟨S50,c50,B50,m50,n50,e50,hz50⟩:=hR 4 dE;refine y5 50 (.agg #[.int .i64 ((BK s1 s2)).tm.kind,.string ((BK s1 s2)).tm.name,.int .i64 ((BK s1 s2)).tm.index,.string ((BK s1 s2)).tm.type.base,.slice S50 ((BK s1 s2)).tm.type.args.length c50,.slice B50 ((BK s1 s2)).tm.args.length m50]) e50 nu ?_;refine qz hb6 rfl rfl vQ rfl qX (fun w15 hq hs=>?_);replace hB:=hB.tr1 hs lo6;replace hz50:=hz50.sp1 hs hb6 sp_tm;replace hb6:=hq;refine zq (e_S (q8 (qK (.inl rfl) rfl (qq U39 rfl rfl hb6.range0 vQ) ?_)));exact⟨⟨_,rfl,_,_,_,_,_,rfl,hz50.nil⟩,hB⟩
 exact absurd c39 dE
end Go.Proofs.YtfkbjncidemcbaaDoor
