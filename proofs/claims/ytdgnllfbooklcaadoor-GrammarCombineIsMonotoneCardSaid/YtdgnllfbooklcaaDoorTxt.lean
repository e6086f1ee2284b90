/- What these functions of the program compute, at every world: glosswright/unify.Into, glosswright/unify.sized, glosswright/unify.Unify. Two graphs are unified: the result is the least graph to which both map. No program in sight. Simple types as plain trees, how a world holds them, and what is wrong with them. No program in sight. Terms of the typed lambda calculus as plain trees, how a world holds them, and what is wrong with them. No program in sight. The engine's sixth part: copy, zeros appended to a slice, functions that the model has itself, a drawn region in which an operation changes what another one has made. Bytes of strings; sums of strings: rules for them. No program in sight. Strings cut at places and at bytes. No program in sight. -/
import Derived.Test.YtdgnllfbooklcaaDoorU
import Derived.Test.YtdgnllfbooklcaaDoorName
import Derived.Test.YtdgnllfbooklcaaDoorPGraph
import Derived.Test.YtdgnllfbooklcaaDoorGro
import Derived.Laws.CopyRow
import Derived.Laws.Externs
import Derived.Lib.Overlaps
import Derived.Lib.Builder
import Derived.Lib.AppendStr
import Derived.Lib.UnsafeStr
import Derived.Lib.Bytealg
namespace Go.Proofs.YtdgnllfbooklcaaDoor
open Go.RowKit
def Z2 (l:List Ty) (U:List Nd) (J:List (Nat×Nat)) (X:List Nd):Prop:=∃ P rep ρ T L o,US l U J P rep ρ T L []∧DL (yx U.length rep T L) [rep 0] [] o∧X=yk (yx U.length rep T L) o
theorem shN_zero (g:List Nd):g.map (shN 0)=g:=by
  have h:∀ x:Nd,shN 0 x=x:=fun x=>by
    refine YZ rfl ?_;simp [shN]
  rw [List.map_congr_left (g:=id) (fun x _=>h x),List.map_id]
theorem two_feat {nf:Nat} {U g:List Nd} (hU:∀ i,i < U.length→∀ z ∈ (nd U i).ln,0≤z.1∧z.1 < nf) (hg:∀ i,i < g.length→∀ z ∈ (nd g i).ln,0≤z.1∧z.1 < nf):∀ i,i < (U ++ g.map (shN U.length)).length→∀ z ∈ (nd (U ++ g.map (shN U.length)) i).ln,0≤z.1∧z.1 < nf:=fun i hi z hz=>by
  by_cases e:i < U.length
  · rw [uw e] at hz;exact hU i e z hz
  · have hl:i - U.length < g.length:=by simp at hi;omega
    have h:=uY (U:=U) hl
    rw [show U.length + (i - U.length)=i by omega] at h
    rw [h] at hz
    obtain⟨y,hy,rfl⟩:=List.mem_map.1 hz
    exact hg _ hl y hy
theorem R0 {nt nf:Nat} {g:List Nd} (h:GOk nt nf g):∀ i,i < g.length→∀ z ∈ (nd g i).ln,0≤z.1∧z.1 < nf:=fun i hi z hz=>by
  rw [yy hi] at hz
  have:=h.ln i hi z hz
  omega
theorem pool_nil {w:World} {ob bp cp ct cl:Nat} {c0 c1:Value} (h:Blk w bp 125 #[c0,c1,.slice none 0 cp,.slice none 0 ct,.slice none 0 cl]) (hp:cp=0) (ht:ct=0) (hl:cl=0):PoolAt w ob bp c0 c1 0 none none none cp ct cl (fun x=>x) (fun _=>0) (fun _=> .slice none 0 0) (fun _=>[]):=by
  subst hp ht hl;exact⟨h,Own.nil _ _ _ _,Own.nil _ _ _ _,Own.nil _ _ _ _,fun x hx=>absurd hx (Nat.not_lt_zero _),fun g hg=>by cases hg⟩
theorem US.first {l:List Ty} {g:List Nd} (hg:GY l g):US l g [] (Bz 0 (fun x=>x)) (fun x=>if x < 0 then x else x) (fun _=>0) (PX 0 (fun _=>0) g) (Rz 0 (fun _=>[]) g) []:=by
  have h:=(US.nil (l:=l) (P:=fun x=>x) (rep:=fun x=>x) (ρ:=fun _=>0) (T:=fun _=>0) (L:=fun _=>[])).add hg (fun p hp=>by cases hp);rw [List.nil_append,show ([]:List Nd).length=0 from rfl,shN_zero] at h;exact h
theorem NodesIn.chgB {w0 w w2:World} {ob b:Nat} {G:Option Addr} {g:List Nd} (h:NodesIn w0 G g) (hB:Bel w0 w) (hc:Chg ob [b] w w2) (h1:w0.heap.size≤ob) (h2:w0.heap.size≤b):NodesIn w2 G g:=h.mono (hB.chg hc h1 (fun g hg=>by rw [List.mem_singleton.1 hg];exact h2))
theorem ret_into {A:Option Addr} {n:Nat} {X:List Nd} (h:X.length=n):Ending.returned (.tuple #[.agg #[.slice A n n],.bool true])= .returned (.tuple #[.agg #[.slice A X.length X.length],.bool true]):=by rw [h]
def SizedS (A:Option Addr) (n c:Nat) (b:Bool) (A':Option Addr) (n' c':Nat) (ok:Bool) (x y:Int):Prop:=(b=false∧A'=none∧n'=0∧c'=0∧ok=false∧x=0∧y=0)∨(b=true∧60 < n∧A'=none∧n'=0∧c'=0∧ok=false∧x=17∧y= -1)∨(b=true∧n≤60∧A'=A∧n'=n∧c'=c∧ok=true∧x=0∧y=0)
def vY (l:List Ty) (fs:List Ft) (ga gb:List Nd) (ok:Bool) (f:Fl) (X:List Nd):Prop:=
  (¬(kX l fs ga gb).1=0∧ok=false∧f=kX l fs ga gb∧X= [])∨((kX l fs ga gb).1=0∧ok=false∧f=(0,0)∧X= []∧¬Jw l (ga ++ gb.map (shN ga.length)) [(0,ga.length)])∨((kX l fs ga gb).1=0∧ok=false∧f=(17,-1)∧X= []∧∃ Y,Z2 l (ga ++ gb.map (shN ga.length)) [(0,ga.length)] Y∧60 < Y.length)∨((kX l fs ga gb).1=0∧ok=true∧f=(0,0)∧Z2 l (ga ++ gb.map (shN ga.length)) [(0,ga.length)] X∧X.length≤60)
theorem ret_un {A:Option Addr} {n c:Nat} {ok:Bool} {f:Fl} {x y:Int} {X:List Nd} (hn:X.length=n) (hc:X.length=c) (hx:f=(x,y)):Ending.returned (.tuple #[.agg #[.slice A n c],.bool ok,.agg #[.int .i64 x,.int .i64 y]])= .returned (.tuple #[.agg #[.slice A X.length X.length],.bool ok,.agg #[.int .i64 f.1,.int .i64 f.2]]):=by
  subst hn hx;rw [← hc]
theorem un_fin {l:List Ty} {fs:List Ft} {ga gb X:List Nd} {A A2:Option Addr} {ok ok2:Bool} {n2 c2 lo:Nat} {x y:Int} {w:World} (h0:(kX l fs ga gb).1=0) (hc:(ok=true∧Z2 l (ga ++ gb.map (shN ga.length)) [(0,ga.length)] X)∨(ok=false∧X= []∧¬Jw l (ga ++ gb.map (shN ga.length)) [(0,ga.length)])) (hs:SizedS A X.length X.length ok A2 n2 c2 ok2 x y) (hN:∀ w2,FrSame lo w w2→NodesIn w2 A X):∃ X2:List Nd,X2.length=n2∧c2=n2∧(∀ w2,FrSame lo w w2→NodesIn w2 A2 X2)∧vY l fs ga gb ok2 (x,y) X2:=by
  rcases hs with ⟨a1,rfl,rfl,rfl,rfl,rfl,rfl⟩ | ⟨a1,a2,rfl,rfl,rfl,rfl,rfl,rfl⟩ | ⟨a1,a2,rfl,rfl,rfl,rfl,rfl,rfl⟩
  · rcases hc with ⟨b1,_⟩ | ⟨_,_,b3⟩
    · rw [a1] at b1;cases b1
    · exact⟨[],rfl,rfl,fun w2 _=>jV w2 none,.inr (.inl ⟨h0,rfl,rfl,rfl,b3⟩)⟩
  · rcases hc with ⟨_,b2⟩ | ⟨b1,_⟩
    · exact⟨[],rfl,rfl,fun w2 _=>jV w2 none,.inr (.inr (.inl ⟨h0,rfl,rfl,rfl,X,b2,a2⟩))⟩
    · rw [a1] at b1;cases b1
  · rcases hc with ⟨_,b2⟩ | ⟨b1,_⟩
    · exact⟨X,rfl,rfl,hN,.inr (.inr (.inr ⟨h0,rfl,rfl,b2,a2⟩))⟩
    · rw [a1] at b1;cases b1
theorem fn36:zZ Tryd.prog 36=true:=by kernel_rfl
theorem fn37:zZ Tryd.prog 37=true:=by kernel_rfl
theorem fn56:zZ Tryd.prog 56=true:=by kernel_rfl
theorem fn57:zZ Tryd.prog 57=true:=by kernel_rfl
theorem fn58:zZ Tryd.prog 58=true:=by kernel_rfl
set_option maxRecDepth 100000 in
set_option maxHeartbeats 2000000 in
theorem TQ {nt nf bu bd j c1 c2:Nat} {G1 G2:Option Addr} {l:List Ty} {ga gb:List Nd} (w:World) (hTab:TabIn w) (hTI:TableIn w l bu bd) (hSd:Jv l) (hG1:NodesIn w G1 ga) (hG2:NodesIn w G2 gb) (hka:GOk nt nf ga) (hkb:GOk nt nf gb) (hya:GY l ga) (hyb:GY l gb) (hnf:nf≤1000) (hj:j < ga.length):Calls Tryd.prog 37 #[.agg #[.slice (some ⟨bu,0,none⟩) l.length l.length,.slice (some ⟨bd,0,none⟩) l.length l.length],.agg #[.slice G1 ga.length c1],.int .i64 (j:Nat),.agg #[.slice G2 gb.length c2]] w fun e w'=>(∃ A X ok,e= .returned (.tuple #[.agg #[.slice A (List.length X) X.length],.bool ok])∧(∀ w2,FrSame w.heap.size w' w2→NodesIn w2 A X)∧((ok=true∧Z2 l (ga ++ gb.map (shN ga.length)) [(j,ga.length)] X)∨(ok=false∧X= []∧¬Jw l (ga ++ gb.map (shN ga.length)) [(j,ga.length)])))∧Bel w w':=by
 have hna:=hka.le;have hnb:=hkb.le;have hpb:=hkb.pos;refine enter Tryd.func37 Tryd.ntmps37 rfl (Nat.le_of_ble_eq_true rfl) ?_;have hB:Bel w w:=Below.refl _ _;refine zn2 ?_;refine xk (v:= .agg #[_,_]) (cs:=#[_,_]) rfl rfl (fun b4 w1 hb4 s1 hr=>?_);have lo4:=nLT (Bel.size hB) hr;refine xk (v:= .agg #[_]) (cs:=#[_]) rfl rfl (fun b5 w2 hb5 s2 hr=>?_);have:=nLL hb4.lt hr;replace hB:=hB.tr0 s1;have lo5:=nLT (Bel.size hB) hr;refine xk (v:= .agg #[_]) (cs:=#[_]) rfl rfl (fun b7 w3 hb7 s3 hr=>?_);replace hb4:=hb4.tr0 s2;have:=nLL hb4.lt hr;have:=nLL hb5.lt hr;replace hB:=hB.tr0 s2;have lo7:=nLT (Bel.size hB) hr;refine qV (cs:=#[.slice none 0 0]) yW rfl (fun b8 w4 hb8 s4 hr=>?_);replace hb4:=hb4.tr0 s3;have:=nLL hb4.lt hr;replace hb5:=hb5.tr0 s3;have:=nLL hb5.lt hr;have:=nLL hb7.lt hr;replace hB:=hB.tr0 s3;have lo8:=nLT (Bel.size hB) hr;refine zn6 ?_;refine wl (IX (v0:= .agg _) (fun v0=>#[(xz v0 0),(xz v0 1),.slice none 0 0,.slice none 0 0,.slice none 0 0]) rfl kR) ?_;refine xk (v:= .agg #[_,_,_,_,_]) (cs:=#[_,_,_,_,_]) rfl rfl (fun b13 w5 hb13 s5 hr=>?_);replace hb4:=hb4.tr0 s4;have:=nLL hb4.lt hr;replace hb5:=hb5.tr0 s4;have:=nLL hb5.lt hr;replace hb7:=hb7.tr0 s4;have:=nLL hb7.lt hr;have:=nLL hb8.lt hr;replace hB:=hB.tr0 s4;have lo13:=nLT (Bel.size hB) hr;refine wl (u7 (v:= .pointer (some _)) rfl) (zn3 ?_);replace hb13:Blk w5 b13 125 #[.slice (some ⟨bu,0,none⟩) l.length l.length,.slice (some ⟨bd,0,none⟩) l.length l.length,.slice none 0 0,.slice none 0 0,.slice none 0 0]:=hb13;have hz13:=hb13.lt;refine Q4 (wl (x8 (v:= .pointer (some _)) rfl) (zn1 ?_));replace hB:=hB.tr0 s5;refine qz fn56 (T2 (n:=0) nt _ (pool_nil hb13 rfl rfl rfl) (Nat.lt_succ_self _) hz13 om (fun w2 hc=>hG1.chgB hB hc om lo13) hka hnf) rfl (fun e' w6 hr=>?_);obtain⟨⟨PA1,TA1,LA1,cp1,ct1,cl1,V1,rfl,hp1⟩,hC,hs1⟩:=hr;replace hB:=hB.chg hC om (by simp;omega);replace hb4:=hb4.tr0 s5;replace hb4:=hb4.chg hC om (by simp;omega);replace hb5:=hb5.tr0 s5;replace hb5:=hb5.chg hC om (by simp;omega);replace hb7:=hb7.tr0 s5;replace hb7:=hb7.chg hC om (by simp;omega);replace hb8:=hb8.tr0 s5;replace hb8:=hb8.chg hC om (by simp;omega);rw [Nat.zero_add] at hp1;have hus1:=US.first hya;refine⟨_,rfl,?_⟩;refine zn5 ?_;refine wl (x8 (v:= .pointer (some _)) rfl) (wmI rfl (wl (x8 (v:= .pointer (some _)) rfl) (zn1 ?_)));have hl13:w.heap.size≤b13:=lo13;refine qz fn56 (T2 (n:=ga.length) nt _ hp1 (Nat.lt_succ_self _) hs1 om (fun w2 hc=>hG2.chgB hB hc om lo13) hkb hnf) rfl (fun e' w7 hr=>?_)
 obtain⟨⟨PA2,TA2,LA2,cp2,ct2,cl2,V2,rfl,hp2⟩,hC,hs2⟩:=hr;replace hB:=hB.chg hC om (by simp;omega);replace hb4:=hb4.chg hC om (by simp;omega);replace hb5:=hb5.chg hC om (by simp;omega);replace hb7:=hb7.chg hC om (by simp;omega);replace hb8:=hb8.chg hC om (by simp;omega);have hUl:(ga ++ gb.map (shN ga.length)).length=ga.length + gb.length:=by simp
 have hus2:=(hus1.add hyb (fun p hp=>by cases hp)).push (a:=j) (b:=ga.length) om om;rw [← hUl] at hp2;have hUf:=two_feat (R0 hka) (R0 hkb);refine⟨_,rfl,?_⟩;refine qz fn57 (pjoin_any (U:=(ga ++ gb.map (shN ga.length))) (J:=[(j,ga.length)]) (nf:=nf) w _ hTab hTI hSd hB om hp2 (Nat.lt_succ_self _) hs2 om hnf hUf om hus2) rfl (fun e' w8 hr=>?_);obtain⟨⟨b,rfl,hyes,hno⟩,hC,hs3⟩:=hr;replace hB:=hB.chg hC om (by simp;omega);replace hb4:=hb4.chg hC om (by simp;omega);replace hb5:=hb5.chg hC om (by simp;omega);replace hb7:=hb7.chg hC om (by simp;omega);replace hb8:=hb8.chg hC om (by simp;omega);refine⟨_,rfl,?_⟩;refine zn3 ?_;refine kw rfl (fun c23=>?_) (fun c23=>?_)
 ·have hbf:b=false:=by simpa using c23
  have hnb2:=hno hbf;refine zn2 ?_;refine wl (uZ (vs:=#[]) (cs:=#[.slice none 0 0]) (by simp) kR) ?_;refine zk hb8 rfl rfl zV rfl zJ (fun w9 hq s6=>?_);replace hb8:=hq;refine zn5 ?_;refine ZW (.inl rfl) rfl (zw U30 rfl rfl hb8.range0 zV) rfl ?_;replace hB:=hB.tr1 s6 lo8;exact⟨⟨none,[],false,rfl,fun w2 _=>jV w2 none,.inr ⟨rfl,rfl,hnb2⟩⟩,hB⟩
 have hbt:b=true:=by simpa using c23
 obtain⟨P3,rep3,ρ3,T3,V3,L3,hp3,hus3⟩:=hyes hbt;have hz8:=hb8.lt;have hszv:=Bel.size hB;refine zn4 ?_;refine wl (x8 (v:= .pointer (some _)) rfl) ?_
 refine qz fn58 (FJ (r:=0) (nf:=nf) _ hp3 hus3.uf (Nat.lt_succ_self _) hs3 om hnf (pool_gok2 hus3 om om hUf) om (fun i hi hr z hz=>by
    obtain⟨u,hu,_,hm⟩:=hus3.val i hi hr z hz;exact hus3.ur u hu z hm) (fun i hi hr=>by
    have:=I6 (nf:=nf) (lo:=0) (hus3.srt i hi) (fun z hz=>by
      obtain⟨u,hu,_,hm⟩:=hus3.val i hi hr z hz
      exact hUf u hu z hm) (Int.le_refl _) om
    omega)) rfl (fun e' w10 hr=>?_)
 obtain⟨⟨o,AF,hD,rfl,hN⟩,hC,hs4⟩:=hr;replace hB:=hB.chg hC om (by simp;omega);replace hb4:=hb4.chg hC om (by simp;omega);replace hb5:=hb5.chg hC om (by simp;omega);replace hb7:=hb7.chg hC om (by simp;omega);replace hb8:=hb8.chg hC om (by simp;omega);have hFr:FrSame (w8).heap.size w10 w10:=FrSame.refl _ _;obtain⟨Z0,hZ0⟩:∃ z,z=(w8).heap.size:=⟨_,rfl⟩
 rw [← hZ0] at hN hFr hz8 hszv;obtain⟨wZ,hwZ⟩:∃ z,z=w10:=⟨_,rfl⟩
 replace hFr:FrSame Z0 wZ w10:=by rw [hwZ];exact FrSame.refl _ _
 rw [← hwZ] at hN;refine⟨_,rfl,?_⟩;refine zk hb8 rfl rfl zV rfl zJ (fun w11 hq s7=>?_);replace hFr:=hFr.of s7 (fun g hg=>by rw [List.mem_singleton.1 hg];omega);replace hb8:=hq;refine zn4 ?_;refine ZW (.inl rfl) rfl (zw U30 rfl rfl hb8.range0 zV) rfl ?_;have hcl:(yk (yx (ga ++ gb.map (shN ga.length)).length rep3 T3 L3) o).length=o.length:=o6 _ _;replace hB:=hB.tr1 s7 lo8;exact⟨⟨AF,_,true,ret_into hcl,fun w2 hf=>hN w2 (hFr.then hf hszv),.inl ⟨rfl,P3,rep3,ρ3,T3,L3,o,hus3,hD,rfl⟩⟩,hB⟩
theorem sized_any (A:Option Addr) (n c:Nat) (b:Bool) (w:World):Calls Tryd.prog 36 #[.agg #[.slice A n c],.bool b] w fun e w'=>(∃ A' n' c' ok x y,e= .returned (.tuple #[.agg #[.slice A' n' c'],.bool ok,.agg #[.int .i64 x,.int .i64 y]])∧SizedS A n c b A' n' c' ok x y)∧Bel w w':=by
 refine enter Tryd.func36 Tryd.ntmps36 rfl (Nat.le_of_ble_eq_true rfl) ?_;have hB:Bel w w:=Below.refl _ _;refine zn2 ?_;refine xk (v:= .agg #[_]) (cs:=#[_]) rfl rfl (fun b2 w1 hb2 s1 hr=>?_);refine qV (cs:=#[.slice none 0 0]) yW rfl (fun b4 w2 hb4 s2 hr=>?_);replace hB:=hB.tr0 s1;have lo4:=nLT (Bel.size hB) hr;refine waB rfl ?_;refine qV (cs:=#[.int .i64 0,.int .i64 0]) uQ rfl (fun b6 w3 hb6 s3 hr=>?_);have:=nLL hb4.lt hr;replace hB:=hB.tr0 s2;have lo6:=nLT (Bel.size hB) hr;refine zn9 ?_;replace hB:=hB.tr0 s3;replace hb4:=hb4.tr0 s3;refine kw rfl (fun c8=>?_) (fun c8=>?_)
 ·have hbf:b=false:=by simpa using c8
  refine zn2 ?_;refine wl (uZ (vs:=#[]) (cs:=#[.slice none 0 0]) (by simp) kR) (wl (uZ (vs:=#[]) (cs:=#[.int .i64 0,.int .i64 0]) (by simp) kR) ?_);refine zk hb4 rfl rfl zV rfl zJ (fun w4 hq s4=>?_);replace hb4:=hq;refine waB rfl ?_;replace hb6:=hb6.tr1 s4 om;refine zk hb6 rfl rfl qw rfl zJ (fun w5 hq s5=>?_);replace hb6:=hq;refine zn4 ?_;replace hb4:=hb4.tr1 s5 om;refine K7 (.inl rfl) rfl (zw U30 rfl rfl hb4.range0 zV) rfl (zw U36 rfl rfl hb6.range0 qw) ?_;replace hB:=(hB.tr1 s4 lo4).tr1 s5 lo6;exact⟨⟨_,_,_,_,_,_,rfl,.inl ⟨hbf,rfl,rfl,rfl,rfl,rfl,rfl⟩⟩,hB⟩
 have hbt:b=true:=by simpa using c8
 refine ZQ ?_;refine zW rfl (fun c14=>?_) (fun c14=>?_)
 ·have h60:60 < n:=by omega
  refine zn2 ?_;refine wl (uZ (vs:=#[]) (cs:=#[.slice none 0 0]) (by simp) kR) (wl (oK (v0:= .int _ _) (v1:= .int _ _) (fun v0 v1=>#[v0,v1]) rfl rfl kR) ?_);refine zk hb4 rfl rfl zV rfl zJ (fun w6 hq s6=>?_);replace hb4:=hq;refine waB rfl ?_;replace hb6:=hb6.tr1 s6 om;refine zk hb6 rfl rfl qw rfl zJ (fun w7 hq s7=>?_);replace hb6:=hq;refine zn4 ?_;replace hb4:=hb4.tr1 s7 om;refine K7 (.inl rfl) rfl (zw U30 rfl rfl hb4.range0 zV) rfl (zw U36 rfl rfl hb6.range0 qw) ?_;replace hB:=(hB.tr1 s6 lo4).tr1 s7 lo6;exact⟨⟨_,_,_,_,_,_,rfl,.inr (.inl ⟨hbt,h60,rfl,rfl,rfl,rfl,rfl,rfl⟩)⟩,hB⟩
 have h60:n≤60:=by omega
 refine zn5 ?_;refine wl (uZ (vs:=#[]) (cs:=#[.int .i64 0,.int .i64 0]) (by simp) kR) ?_;refine zk hb4 rfl rfl zV rfl zJ (fun w8 hq s8=>?_);replace hb4:=hq;refine waB rfl ?_;replace hb6:=hb6.tr1 s8 om;refine zk hb6 rfl rfl qw rfl zJ (fun w9 hq s9=>?_);replace hb6:=hq;refine zn3 ?_;replace hb4:=hb4.tr1 s9 om;refine K7 (.inl rfl) rfl (zw U30 rfl rfl hb4.range0 zV) rfl (zw U36 rfl rfl hb6.range0 qw) ?_;replace hB:=(hB.tr1 s8 lo4).tr1 s9 lo6;exact⟨⟨_,_,_,_,_,_,rfl,.inr (.inr ⟨hbt,h60,rfl,rfl,rfl,rfl,rfl,rfl⟩)⟩,hB⟩
set_option maxHeartbeats 2000000 in
theorem GZ (A B G1 G2:Option Addr) (c d c1 c2:Nat) (l:List Ty) (fs:List Ft) (ga gb:List Nd) (w:World) (hTab:TabIn w) (hT:TypesIn w A l) (hF:FeatsIn w B fs) (hG1:NodesIn w G1 ga) (hG2:NodesIn w G2 gb):Calls Tryd.prog 8 #[.agg #[.slice A l.length c,.slice B fs.length d],.agg #[.slice G1 ga.length c1],.agg #[.slice G2 gb.length c2]] w fun e w'=>(∃ A X ok f,e= .returned (.tuple #[.agg #[.slice A (List.length X) X.length],.bool ok,.agg #[.int .i64 (Prod.fst f),.int .i64 f.2]])∧(∀ w2,FrSame w.heap.size w' w2→NodesIn w2 A X)∧vY l fs ga gb ok f X)∧Bel w w':=by
 refine enter Tryd.func8 Tryd.ntmps8 rfl (Nat.le_of_ble_eq_true rfl) ?_;have hB:Bel w w:=Below.refl _ _;refine zn2 ?_;refine xk (v:= .agg #[_,_]) (cs:=#[_,_]) rfl rfl (fun b3 w1 hb3 s1 hr=>?_);refine xk (v:= .agg #[_]) (cs:=#[_]) rfl rfl (fun b4 w2 hb4 s2 hr=>?_);refine xk (v:= .agg #[_]) (cs:=#[_]) rfl rfl (fun b5 w3 hb5 s3 hr=>?_);refine qV (cs:=#[.slice none 0 0]) yW rfl (fun b6 w4 hb6 s4 hr=>?_);replace hB:=hB.tr0 (s1.trans (s2.trans s3));have lo6:=nLT (Bel.size hB) hr;refine waB rfl ?_;refine qV (cs:=#[.int .i64 0,.int .i64 0]) uQ rfl (fun b8 w5 hb8 s5 hr=>?_);have:=nLL hb6.lt hr;replace hB:=hB.tr0 s4;have lo8:=nLT (Bel.size hB) hr;refine zn7 ?_;replace hB:=hB.tr0 s5;refine qz fn35 (R8 A B G1 G2 c d c1 c2 l fs ga gb _ (hTab.mono hB) (hT.mono hB) (hF.mono hB) (hG1.mono hB) (hG2.mono hB)) rfl (fun e' w6 hr=>?_);obtain⟨⟨U,D,n1,k1,n2,k2,rfl,hTB⟩,s6⟩:=hr;replace s6:=sB s6;have hB9:Bel w6 w6:=Below.refl _ _;refine⟨_,rfl,?_⟩;refine wmT rfl (wl (yZ (v:=_) rfl rfl) (wl (yZ (v:=_) rfl rfl) ?_));refine qV (cs:=#[.slice none 0 0,.slice none 0 0]) Y8 rfl (fun b9 w7 hb9 s7 hr=>?_);replace hb4:=hb4.tr0 (s3.trans (s4.trans (s5.trans s6)));have:=nLL hb4.lt hr;replace hb5:=hb5.tr0 (s4.trans (s5.trans s6));have:=nLL hb5.lt hr;replace hb6:=hb6.tr0 (s5.trans s6);have:=nLL hb6.lt hr;replace hb8:=hb8.tr0 s6;have:=nLL hb8.lt hr;replace hB:=hB.tr0 s6;have lo9:=nLT (Bel.size hB) hr;have lo_hB9_b9:=nLT (Bel.size hB9) hr;refine qV (cs:=#[.int .i64 0,.int .i64 0]) uQ rfl (fun b10 w8 hb10 s8 hr=>?_);replace hb4:=hb4.tr0 s7;have:=nLL hb4.lt hr;replace hb5:=hb5.tr0 s7;have:=nLL hb5.lt hr;replace hb6:=hb6.tr0 s7;have:=nLL hb6.lt hr;replace hb8:=hb8.tr0 s7;have:=nLL hb8.lt hr;have:=nLL hb9.lt hr;replace hB:=hB.tr0 s7;have lo10:=nLT (Bel.size hB) hr;replace hB9:=hB9.tr0 s7;have lo_hB9_b10:=nLT (Bel.size hB9) hr;replace hb9:=hb9.tr0 s8;refine zk hb9 rfl rfl xW rfl zJ (fun w9 hq s9=>?_);replace hb9:=hq;replace hb10:=hb10.tr1 s9 om;refine zk hb10 rfl rfl qw rfl zJ (fun w10 hq s10=>?_);replace hb10:=hq;refine kv ?_;replace hB:=((hB.tr0 s8).tr1 s9 lo9).tr1 s10 lo10;replace hb6:=((hb6.tr0 s8).tr1 s9 om).tr1 s10 om;replace hb8:=((hb8.tr0 s8).tr1 s9 om).tr1 s10 om;refine zW rfl (fun c20=>?_) (fun c20=>?_)
 ·refine y8 ?_;refine G4 #[false,false,false,false,false] kR (by rfl) (fun w11 s11=>?_);replace hB:=hB.tr0 s11;replace hb6:=hb6.tr0 s11;replace hb8:=hb8.tr0 s11;refine xq [0,1] kR rfl ⟨fun o hoq=>?_,fun o hoq=>?_,trivial⟩
  ·cases sI hoq;refine wl (uZ (vs:=#[]) (cs:=#[.slice none 0 0]) (by simp) kR) (zQ (e_A (listed':=#[true,false,false,false,false]) (by rfl) ?_));refine xq [1,2] kR rfl ⟨fun o hoq=>?_,fun o hoq=>?_,trivial⟩
   ·cases sI hoq;refine zn2 ?_;refine e_A (listed':=#[true,true,false,false,false]) (by rfl) ?_;refine xq [2] kR rfl ⟨fun o hoq=>?_,trivial⟩;cases sI hoq;refine zk hb6 rfl rfl zV rfl zJ (fun w12 hq s12=>?_);replace hb6:=hq;refine zQ (e_A (listed':=#[true,true,true,false,false]) (by rfl) ?_);refine xq [3] kR rfl ⟨fun o hoq=>?_,trivial⟩;cases sI hoq;refine zn2 ?_;refine e_A (listed':=#[true,true,true,true,false]) (by rfl) ?_;refine xq [4] kR rfl ⟨fun o hoq=>?_,trivial⟩;cases sI hoq;replace hb8:=hb8.tr1 s12 om;refine zk hb8 rfl rfl qw rfl zJ (fun w13 hq s13=>?_);replace hb8:=hq;refine zQ (e_A (listed':=#[true,true,true,true,true]) (by rfl) (oQ kR (zn3 ?_)));replace hb6:=hb6.tr1 s13 om;refine K7 (.inl rfl) rfl (zw U30 rfl rfl hb6.range0 zV) rfl (zw U36 rfl rfl hb8.range0 qw) ?_;replace hB:=(hB.tr1 s12 lo6).tr1 s13 lo8;exact⟨⟨none,[],false,kX l fs ga gb,rfl,fun w2 _=>jV w2 none,.inl ⟨c20,rfl,rfl,rfl⟩⟩,hB⟩
   cases sI hoq;refine zk hb6 rfl rfl zV rfl zJ (fun w14 hq s14=>?_);replace hb6:=hq;refine zQ (e_A (listed':=#[true,false,true,false,false]) (by rfl) ?_);replace hB:=hB.tr1 s14 lo6;replace hb8:=hb8.tr1 s14 om;refine xq [1,3] kR rfl ⟨fun o hoq=>?_,fun o hoq=>?_,trivial⟩
   ·cases sI hoq;refine zn2 ?_;refine e_A (listed':=#[true,true,true,false,false]) (by rfl) ?_;refine xq [3] kR rfl ⟨fun o hoq=>?_,trivial⟩;cases sI hoq;refine zn2 ?_;refine e_A (listed':=#[true,true,true,true,false]) (by rfl) ?_;refine xq [4] kR rfl ⟨fun o hoq=>?_,trivial⟩;cases sI hoq;refine zk hb8 rfl rfl qw rfl zJ (fun w15 hq s15=>?_);replace hb8:=hq;refine zQ (e_A (listed':=#[true,true,true,true,true]) (by rfl) (oQ kR (zn3 ?_)));replace hb6:=hb6.tr1 s15 om;refine K7 (.inl rfl) rfl (zw U30 rfl rfl hb6.range0 zV) rfl (zw U36 rfl rfl hb8.range0 qw) ?_;replace hB:=hB.tr1 s15 lo8;exact⟨⟨none,[],false,kX l fs ga gb,rfl,fun w2 _=>jV w2 none,.inl ⟨c20,rfl,rfl,rfl⟩⟩,hB⟩
   cases sI hoq;refine zn2 ?_;refine e_A (listed':=#[true,false,true,true,false]) (by rfl) ?_;refine xq [1] kR rfl ⟨fun o hoq=>?_,trivial⟩;cases sI hoq;refine zn2 ?_;refine e_A (listed':=#[true,true,true,true,false]) (by rfl) ?_;refine xq [4] kR rfl ⟨fun o hoq=>?_,trivial⟩;cases sI hoq;refine zk hb8 rfl rfl qw rfl zJ (fun w16 hq s16=>?_);replace hb8:=hq;refine zQ (e_A (listed':=#[true,true,true,true,true]) (by rfl) (oQ kR (zn3 ?_)));replace hb6:=hb6.tr1 s16 om;refine K7 (.inl rfl) rfl (zw U30 rfl rfl hb6.range0 zV) rfl (zw U36 rfl rfl hb8.range0 qw) ?_;replace hB:=hB.tr1 s16 lo8;exact⟨⟨none,[],false,kX l fs ga gb,rfl,fun w2 _=>jV w2 none,.inl ⟨c20,rfl,rfl,rfl⟩⟩,hB⟩
  cases sI hoq;refine zn2 ?_;refine e_A (listed':=#[false,true,false,false,false]) (by rfl) ?_;refine xq [0] kR rfl ⟨fun o hoq=>?_,trivial⟩;cases sI hoq;refine wl (uZ (vs:=#[]) (cs:=#[.slice none 0 0]) (by simp) kR) (zQ (e_A (listed':=#[true,true,false,false,false]) (by rfl) ?_));refine xq [2] kR rfl ⟨fun o hoq=>?_,trivial⟩;cases sI hoq;refine zk hb6 rfl rfl zV rfl zJ (fun w17 hq s17=>?_);replace hb6:=hq;refine zQ (e_A (listed':=#[true,true,true,false,false]) (by rfl) ?_);refine xq [3] kR rfl ⟨fun o hoq=>?_,trivial⟩;cases sI hoq;refine zn2 ?_;refine e_A (listed':=#[true,true,true,true,false]) (by rfl) ?_;refine xq [4] kR rfl ⟨fun o hoq=>?_,trivial⟩;cases sI hoq;replace hb8:=hb8.tr1 s17 om;refine zk hb8 rfl rfl qw rfl zJ (fun w18 hq s18=>?_);replace hb8:=hq;refine zQ (e_A (listed':=#[true,true,true,true,true]) (by rfl) (oQ kR (zn3 ?_)));replace hb6:=hb6.tr1 s18 om;refine K7 (.inl rfl) rfl (zw U30 rfl rfl hb6.range0 zV) rfl (zw U36 rfl rfl hb8.range0 qw) ?_;replace hB:=(hB.tr1 s17 lo6).tr1 s18 lo8;exact⟨⟨none,[],false,kX l fs ga gb,rfl,fun w2 _=>jV w2 none,.inl ⟨c20,rfl,rfl,rfl⟩⟩,hB⟩
 have h0:=Decidable.not_not.1 c20;obtain⟨⟨hva,hvb⟩,_⟩:=EW h0;have hzz:=two_zz h0;obtain⟨bu,bd,⟨rfl,rfl,rfl,rfl,rfl,rfl⟩,hTI⟩:=hTB h0;refine zn7 ?_;have z6:=hb6.lt;have z8:=hb8.lt;have hszv:=Bel.size hB;replace hB9:=((hB9.tr0 s8).tr1 s9 lo_hB9_b9).tr1 s10 lo_hB9_b10;refine qz fn37 (TQ (nt:=l.length) (nf:=fs.length) (j:=0) (l:=l) _ (hTab.mono hB) (hTI.mono hB9) hva.s (hG1.mono hB) (hG2.mono hB) hva.gok hvb.gok hva.gx.toGY hvb.gx.toGY (by have:=hva.few;omega) hva.gok.pos) rfl (fun e' w19 hr=>?_);obtain⟨⟨AX,X,ok,rfl,hNX,hcase⟩,s19⟩:=hr;replace s19:=sB s19;have hFr:FrSame (w10).heap.size w19 w19:=FrSame.refl _ _;obtain⟨Z0,hZ0⟩:∃ z,z=(w10).heap.size:=⟨_,rfl⟩
 rw [← hZ0] at hNX hFr z6 z8 hszv;obtain⟨wZ,hwZ⟩:∃ z,z=w19:=⟨_,rfl⟩
 replace hFr:FrSame Z0 wZ w19:=by rw [hwZ];exact FrSame.refl _ _
 rw [← hwZ] at hNX;refine⟨_,rfl,?_⟩;refine wl (yZ (v:=_) rfl rfl) (wl (yZ (v:=_) rfl rfl) ?_);refine qz fn36 (sized_any _ _ _ _ _) rfl (fun e' w20 hr=>?_);obtain⟨⟨A2,n2,c2_,ok2,x2,y2,rfl,hsz⟩,s20⟩:=hr;replace s20:=sB s20;replace hFr:=hFr.of s20 (by simp);refine⟨_,rfl,?_⟩;refine wl (yZ (v:=_) rfl rfl) (wl (yZ (v:=_) rfl rfl) (wl (yZ (v:=_) rfl rfl) ?_));replace hb6:=hb6.tr0 (s19.trans s20);refine zk hb6 rfl rfl zV rfl zJ (fun w21 hq s21=>?_);replace hFr:=hFr.of s21 (fun g hg=>by rw [List.mem_singleton.1 hg];omega);replace hb6:=hq;refine waB rfl ?_;replace hb8:=(hb8.tr0 (s19.trans s20)).tr1 s21 om;refine zk hb8 rfl rfl qw rfl zJ (fun w22 hq s22=>?_);replace hFr:=hFr.of s22 (fun g hg=>by rw [List.mem_singleton.1 hg];omega);replace hb8:=hq;refine zn3 ?_;replace hb6:=hb6.tr1 s22 om;refine K7 (.inl rfl) rfl (zw U30 rfl rfl hb6.range0 zV) rfl (zw U36 rfl rfl hb8.range0 qw) ?_;obtain⟨X2,hn2,hc2,hN2,hU2⟩:=un_fin h0 hcase hsz (fun w2 hf=>hNX w2 (hFr.then hf hszv));replace hB:=((hB.tr0 (s19.trans s20)).tr1 s21 lo6).tr1 s22 lo8;exact⟨⟨A2,X2,ok2,(x2,y2),ret_un hn2 (hn2.trans (hc2.symm)) rfl,hN2,hU2⟩,hB⟩
end Go.Proofs.YtdgnllfbooklcaaDoor
namespace Go.Proofs.YtdgnllfbooklcaaDoor
open Go.RowKit
section lub
variable {l:List Ty} {fs:List Ft} {ga gb:List Nd}
theorem T1 {c:List Nd} {φ ψ:Nat→Nat} (hφ:Hom l ga c φ) (hψ:Hom l gb c ψ) (hya:GY l ga) (hyb:GY l gb):Adm l (ga ++ gb.map (shN ga.length)) c (fun i=>if i < ga.length then φ i else ψ (i - ga.length)):=by
  have hlen:(ga ++ gb.map (shN ga.length)).length=ga.length + gb.length:=by simp
  have hnd:∀ i,i < ga.length + gb.length→¬i < ga.length→nd (ga ++ gb.map (shN ga.length)) i=shN ga.length (nd gb (i - ga.length))∧i - ga.length < gb.length:=fun i hi hn=>by
    have hl:i - ga.length < gb.length:=by omega
    have h:=uY (U:=ga) hl;rw [show ga.length + (i - ga.length)=i by omega] at h;exact⟨h,hl⟩
  refine⟨fun i hi=>?_,fun i hi=>?_,fun i hi x hx=>?_⟩ <;> rw [hlen] at hi <;> by_cases e:i < ga.length
  · simp only [if_pos e];exact hφ.lt i e
  · simp only [if_neg e];exact hψ.lt _ (hnd i hi e).2
  · simp only [if_pos e];rw [uw e];exact hφ.ty i e
  · simp only [if_neg e];rw [(hnd i hi e).1];exact hψ.ty _ (hnd i hi e).2
  · simp only [if_pos e]
    rw [uw e] at hx;have h1:=hya.lr i e x hx;rw [if_pos h1.2];exact hφ.ln i e x hx
  · simp only [if_neg e]
    rw [(hnd i hi e).1] at hx;obtain⟨y,hy,rfl⟩:=List.mem_map.1 hx;have h1:=hyb.lr _ (hnd i hi e).2 y hy;have e1:(y.2 + (ga.length:Int)).toNat=y.2.toNat + ga.length:=by omega
    simp only [e1];rw [if_neg om,show y.2.toNat + ga.length - ga.length=y.2.toNat by omega];exact hψ.ln _ (hnd i hi e).2 y hy
theorem FV {c:List Nd} (hc:GY l c) (ha:Maps l ga c) (hb:Maps l gb c) (hya:GY l ga) (hyb:GY l gb):Jw l (ga ++ gb.map (shN ga.length)) [(0,ga.length)]:=by
  obtain⟨φ,hφ⟩:=ha;obtain⟨ψ,hψ⟩:=hb;refine⟨c,_,hc.tr,T1 hφ hψ hya hyb,fun p hp=>?_⟩;rw [List.mem_singleton.1 hp];have:=hya.pos;simp [this,hφ.zero,hψ.zero]
structure Lub (l:List Ty) (ga gb X:List Nd):Prop where
  gx:GX l X
  left:Maps l ga X
  right:Maps l gb X
  least:∀ c,GY l c→Maps l ga c→Maps l gb c→Maps l X c
  can:∃ o,DL X [0] [] o∧yk X o=X
theorem I2 {X:List Nd} (hga:GX l ga) (hgb:GX l gb) (h:Z2 l (ga ++ gb.map (shN ga.length)) [(0,ga.length)] X):Lub l ga gb X:=by
  obtain⟨P,rep,ρ,T,L,o,hus,hd,rfl⟩:=h;have hlen:(ga ++ gb.map (shN ga.length)).length=ga.length + gb.length:=by simp
  have hp:=hga.pos;have hpb:=hgb.pos;have h0:0 < (ga ++ gb.map (shN ga.length)).length:=by omega
  have hgy:=hus.gy hga.vt h0;have hr:=hus.uf.rl 0 h0;have hrr:=hus.uf.two h0;have t:=hgy.trr (r:=rep 0) (by rw [yw];exact hr) hd;have hj:rep 0=rep ga.length:=hus.jcov (0,ga.length) (by simp) rep ⟨fun i hi=>(hus.uf.two hi).symm,fun w hw=>by cases hw⟩;have z0:∀ x:Nd,shN 0 x=x:=fun x=>YZ rfl (by simp [shN])
  refine⟨t.gx hgy,?_,?_,fun c hc ha hb=>?_,⟨_,?_,t.can2 t.has t.dl⟩⟩
  · obtain⟨φ,h1,h2,h3,h4,h5⟩:=hus.into hga.vt hr hrr t (g:=ga) (s:=0) hga (fun i hi=>by
      rw [Nat.zero_add,z0]
      exact⟨by omega,uw hi⟩) t.has
    exact⟨φ,by rw [h1];exact t.zero,h3,h4,h5⟩
  · obtain⟨φ,h1,h2,h3,h4,h5⟩:=hus.into hga.vt hr hrr t (g:=gb) (s:=ga.length) hgb (fun i hi=>⟨by omega,uY hi⟩) (by rw [← hj];exact t.has)
    exact⟨φ,by rw [h1,← hj];exact t.zero,h3,h4,h5⟩
  · obtain⟨φ,hφ⟩:=ha
    obtain⟨ψ,hψ⟩:=hb;have hA:=T1 hφ hψ hga.toGY hgb.toGY;have hJ:∀ p ∈ [((0:Nat),ga.length)],(fun i=>if i < ga.length then φ i else ψ (i - ga.length)) p.1=(fun i=>if i < ga.length then φ i else ψ (i - ga.length)) p.2:=fun p hpm=>by
      rw [List.mem_singleton.1 hpm];simp [hp,hφ.zero,hψ.zero]
    have hres:=(hus.only c _ hc.tr hA hJ).1.1 0 h0;refine hus.least hr hrr t hc.tr hA hJ ?_;exact hres.symm.trans (by simp [hp,hφ.zero])
  · have:=t.dl2 t.has t.dl
    rw [t.zero] at this;exact this
theorem GQ {X:List Nd} (ha:GV l fs ga) (hb:GV l fs gb) (h:Z2 l (ga ++ gb.map (shN ga.length)) [(0,ga.length)] X) (h60:X.length≤60):vQ l fs X=(0,0):=by
  have hl:=I2 ha.gx hb.gx h;obtain⟨P,rep,ρ,T,L,o,hus,hd,rfl⟩:=h;have hlen:(ga ++ gb.map (shN ga.length)).length=ga.length + gb.length:=by simp
  have h0:0 < (ga ++ gb.map (shN ga.length)).length:=by have:=ha.gok.pos;omega
  have hgy:=hus.gy ha.s.vt h0;have hr:=hus.uf.rl 0 h0;have t:=hgy.trr (r:=rep 0) (by rw [yw];exact hr) hd
  have hfit:=hus.fit (fs:=fs) ha.s.vt hr (hus.uf.two h0) t (fun i hi x hx=>by
    rw [hlen] at hi;by_cases e:i < ga.length
    · rw [uw e] at hx ⊢
      have h1:=ha.lt e hx;have h2:=(ha.gx.lr i e x hx).2;rw [uw h2];exact⟨⟨h1.1,h1.2.1⟩,h1.2.2⟩
    · have hl2:i - ga.length < gb.length:=by omega
      have h3:=uY (U:=ga) hl2;rw [show ga.length + (i - ga.length)=i by omega] at h3;rw [h3] at hx ⊢;obtain⟨y,hy,rfl⟩:=List.mem_map.1 hx;have h1:=hb.lt hl2 hy;have h2:=(hb.gx.lr _ hl2 y hy).2;have h4:=(hb.gx.lr _ hl2 y hy).1;have e1:(y.2 + (ga.length:Int)).toNat=ga.length + y.2.toNat:=by omega
      simp only [e1];rw [uY h2]
      exact⟨⟨h1.1,h1.2.1⟩,h1.2.2⟩)
  exact gf_mk ha.h hl.gx h60 hfit.1 hfit.2
theorem Lub.uniq {X Y:List Nd} (h:Lub l ga gb X) (k:Lub l ga gb Y):X=Y:=by
  obtain⟨o,ho,e⟩:=h.can;obtain⟨p,hp,e2⟩:=k.can;have:=WW h.gx k.gx (h.least Y k.gx.toGY k.left k.right) (k.least X h.gx.toGY h.left h.right) ho hp;rw [e,e2] at this;exact this.symm
end lub
end Go.Proofs.YtdgnllfbooklcaaDoor
namespace Go.Proofs.YtdgnllfbooklcaaDoor
open Go.RowKit
inductive Sm where
  | mk (base:ByteArray) (args:List Sm)
def Sm.base:Sm→ByteArray | .mk b _=>b
def Sm.args:Sm→List Sm | .mk _ a=>a
theorem Sm.eta (s:Sm):s= .mk s.base s.args:=by cases s;rfl
mutual
inductive SimAt (w:World):Nat→Nat→Sm→Prop
  | mk {b o:Nat} {base:ByteArray} {args:List Sm} {A:Option Addr} {c:Nat} (hb:b < w.heap.size) (h:w.rangeAt b o [.string base,.slice A (List.length args) c]) (hs:SimsIn w A args):SimAt w b o (.mk base args)
inductive SimsIn (w:World):Option Addr→List Sm→Prop
  | nil {A:Option Addr}:SimsIn w A []
  | more {b o:Nat} {args:List Sm} (hl:args.length≤j7) (hb:b < w.heap.size) (h:∀ k (hk:k < args.length),SimAt w b (o + k * 2) args[k]):SimsIn w (some ⟨b,o,none⟩) args
end
theorem SimAt.both {w w':World} (hw:Bel w w'):(∀ {b o:Nat} {s:Sm},SimAt w b o s→SimAt w' b o s)∧∀ {A:Option Addr} {l:List Sm},SimsIn w A l→SimsIn w' A l:=by
  have h1:∀ {b o:Nat} {s:Sm} (h:SimAt w b o s),SimAt w' b o s:=fun h=>
    SimAt.rec (motive_1:=fun b o s _=>SimAt w' b o s) (motive_2:=fun A l _=>SimsIn w' A l)
      (fun hb h _ ih=> .mk (nLL hb hw.size) (hw.range hb h) ih) .nil (fun hl hb _ ih=> .more hl (nLL hb hw.size) ih) h
  have h2:∀ {A:Option Addr} {l:List Sm} (h:SimsIn w A l),SimsIn w' A l:=fun h=>
    SimsIn.rec (motive_1:=fun b o s _=>SimAt w' b o s) (motive_2:=fun A l _=>SimsIn w' A l)
      (fun hb h _ ih=> .mk (nLL hb hw.size) (hw.range hb h) ih) .nil (fun hl hb _ ih=> .more hl (nLL hb hw.size) ih) h
  exact⟨h1,h2⟩
theorem SimAt.mono {w w':World} {b o:Nat} {s:Sm} (h:SimAt w b o s) (hw:Bel w w'):SimAt w' b o s:=(SimAt.both hw).1 h
theorem SimsIn.mono {w w':World} {A:Option Addr} {l:List Sm} (h:SimsIn w A l) (hw:Bel w w'):SimsIn w' A l:=(SimAt.both hw).2 h
theorem SimsIn.le {w:World} {A:Option Addr} {l:List Sm} (h:SimsIn w A l):l.length≤j7:=by
  cases h with
  | nil=>exact Nat.zero_le _
  | more hl=>exact hl
theorem SimsIn.at_ {w:World} {A:Option Addr} {l:List Sm} (h:SimsIn w A l) {k:Nat} (hk:k < l.length):∃ b o A' c,A=some ⟨b,o,none⟩∧b < w.heap.size∧w.rangeAt b (o + k * 2) [Value.string (l[k]).base,.slice A' (l[k]).args.length c]∧SimsIn w A' (l[k]).args:=by
  cases h with
  | nil=>simp at hk
  | @more b o _ _ hb h=>
    have hx:=h k hk
    generalize l[k]=s at hx
    cases hx with
    | mk _ hr hs=>exact⟨b,o,_,_,rfl,hb,hr,hs⟩
def smE:ByteArray:=⟨#[101]⟩
def smT:ByteArray:=⟨#[116]⟩
def E5 (s:Sm):Prop:=((s.base=smE∨s.base=smT)∧s.args.length=0)∨(s.base=⟨#[]⟩∧s.args.length=2)
instance (s:Sm):Decidable (E5 s):=by unfold E5;infer_instance
mutual
def swk:Sm→Nat→Nat→Nat×Int
  | .mk b l,d,n=>if 200 < n + 1∨40 < d then (n + 1,1) else if E5 (.mk b l) then E4 l (d + 1) (n + 1) else (n + 1,5)
def E4:List Sm→Nat→Nat→Nat×Int
  | [],_,n=>(n,0)
  | x :: r,d,n=>if (swk x d n).2=0 then E4 r d (swk x d n).1 else swk x d n
end
theorem F5 (s:Sm) (d n:Nat):swk s d n=if 200 < n + 1∨40 < d then (n + 1,1) else if E5 s then E4 s.args (d + 1) (n + 1) else (n + 1,5):=by
  cases s;rw [swk];rfl
def smF (s:Sm):Int:=(swk s 1 0).2
inductive Ts where
  | b (t:Bool)
  | f (x y:Ts)
def Ts.sm:Ts→Sm
  | .b t=> .mk (if t then smT else smE) []
  | .f x y=> .mk ⟨#[]⟩ [x.sm,y.sm]
def Ts.size:Ts→Nat
  | .b _=>1
  | .f x y=>x.size + y.size + 1
def Ts.eqb:Ts→Ts→Bool
  | .b s,.b t=>s == t
  | .f x y,.f p q=>x.eqb p && y.eqb q
  | _,_=>false
theorem Ts.eqb_iff:∀ {a b:Ts},a.eqb b=true ↔ a=b
  | .b s,.b t=>by simp [Ts.eqb]
  | .f x y,.f p q=>by simp [Ts.eqb,Ts.eqb_iff (a:=x),Ts.eqb_iff (a:=y)]
  | .b s,.f p q=>by simp [Ts.eqb]
  | .f x y,.b t=>by simp [Ts.eqb]
theorem smOk_leaf {s:Sm} (h:E5 s) (hl:s.args.length=0):∃ t,s=(Ts.b t).sm:=by
  rcases h with ⟨hb,_⟩ | ⟨_,h2⟩
  · have ha:s.args= []:=List.length_eq_zero_iff.1 hl
    rcases hb with hb | hb
    · exact⟨false,by rw [Sm.eta s,hb,ha];rfl⟩
    · exact⟨true,by rw [Sm.eta s,hb,ha];rfl⟩
  · omega
mutual
theorem F4:∀ (s:Sm) (d n:Nat),(swk s d n).2=0→∃ τ:Ts,s=τ.sm∧(swk s d n).1=n + τ.size∧n + τ.size≤200
  | .mk b l,d,n,h=>by
    rw [swk] at h ⊢
    by_cases h1:200 < n + 1∨40 < d
    · rw [if_pos h1] at h;cases h
    · rw [if_neg h1] at h ⊢
      by_cases h2:E5 (.mk b l)
      · rw [if_pos h2] at h ⊢
        obtain⟨ts,e1,e2,e3⟩:=Hv l (d + 1) (n + 1) h om
        match l,ts,e1,h2 with
        | [],ts,e1,h2=>
          obtain⟨t,ht⟩:=smOk_leaf h2 rfl
          cases ts with
          | nil=>exact⟨.b t,ht,e2,by simp [Ts.size] at e3 ⊢;omega⟩
          | cons a r=>cases e1
        | [x,y],[p,q],e1,h2=>
          simp only [List.map_cons,List.map_nil,List.cons.injEq,and_true] at e1
          rcases h2 with ⟨_,h2⟩ | ⟨h2,_⟩
          · cases h2
          · have h2:b=⟨#[]⟩:=h2
            simp only [List.map_cons,List.map_nil,List.sum_cons,List.sum_nil] at e2 e3
            refine⟨.f p q,?_,?_,?_⟩
            · rw [h2,e1.1,e1.2];rfl
            · rw [e2];show _=n + (p.size + q.size + 1);omega
            · show n + (p.size + q.size + 1)≤200;omega
        | [x],ts,_,h2=>rcases h2 with ⟨_,h2⟩ | ⟨_,h2⟩ <;> cases h2
        | x :: y :: z :: r,ts,_,h2=>rcases h2 with ⟨_,h2⟩ | ⟨_,h2⟩ <;> cases h2
      · rw [if_neg h2] at h;cases h
theorem Hv:∀ (l:List Sm) (d n:Nat),(E4 l d n).2=0→n≤200→∃ ts:List Ts,l=ts.map Ts.sm∧(E4 l d n).1=n + (ts.map Ts.size).sum∧n + (ts.map Ts.size).sum≤200
  | [],d,n,_,hn=>⟨[],rfl,by rw [E4];rfl,hn⟩
  | x :: r,d,n,h,hn=>by
    rw [E4] at h ⊢
    by_cases h1:(swk x d n).2=0
    · rw [if_pos h1] at h ⊢
      obtain⟨τ,e1,e2,e3⟩:=F4 x d n h1
      rw [e2] at h ⊢
      obtain⟨ts,k1,k2,k3⟩:=Hv r d (n + τ.size) h e3
      exact⟨τ :: ts,by rw [e1,k1];rfl,by rw [k2];simp;omega,by simp;omega⟩
    · rw [if_neg h1] at h;exact absurd h h1
end
theorem smF_ts {s:Sm} (h:smF s=0):∃ τ:Ts,s=τ.sm∧τ.size≤200:=by
  obtain⟨τ,e,_,e2⟩:=F4 s 1 0 h;exact⟨τ,e,by omega⟩
theorem Ts.sm_inj:∀ {a b:Ts},a.sm=b.sm→a=b
  | .b s,.b t,h=>by
    cases s <;> cases t <;> first | rfl | (exfalso;revert h;simp [Ts.sm,smE,smT])
  | .b s,.f x y,h=>by exfalso;revert h;cases s <;> simp [Ts.sm]
  | .f x y,.b t,h=>by exfalso;revert h;cases t <;> simp [Ts.sm]
  | .f x y,.f p q,h=>by
    simp only [Ts.sm,Sm.mk.injEq,List.cons.injEq,and_true,true_and] at h
    rw [Ts.sm_inj h.1,Ts.sm_inj h.2]
def Ts.txt:Ts→List UInt8
  | .b t=>if t then [116] else [101]
  | .f x y=>40 :: (x.txt ++ 32 :: (y.txt ++ [41]))
end Go.Proofs.YtdgnllfbooklcaaDoor
namespace Go.Proofs.YtdgnllfbooklcaaDoor
open Go.RowKit
inductive Tm where
  | mk (kind:Int) (name:ByteArray) (index:Int) (type:Sm) (args:List Tm)
def Tm.kind:Tm→Int | .mk k _ _ _ _=>k
def Tm.name:Tm→ByteArray | .mk _ n _ _ _=>n
def Tm.index:Tm→Int | .mk _ _ i _ _=>i
def Tm.type:Tm→Sm | .mk _ _ _ t _=>t
def Tm.args:Tm→List Tm | .mk _ _ _ _ a=>a
theorem Tm.eta (t:Tm):t= .mk t.kind t.name t.index t.type t.args:=by cases t;rfl
mutual
inductive TmAt (w:World):Nat→Nat→Tm→Prop
  | mk {b o:Nat} {k i:Int} {nm:ByteArray} {s:Sm} {args:List Tm} {A B:Option Addr} {c d:Nat} (hb:b < w.heap.size) (h:w.rangeAt b o [.int .i64 k,.string nm,.int .i64 i,.string s.base,.slice A s.args.length c,.slice B (List.length args) d]) (hs:SimsIn w A s.args) (ht:TmsIn w B args):TmAt w b o (.mk k nm i s args)
inductive TmsIn (w:World):Option Addr→List Tm→Prop
  | nil {A:Option Addr}:TmsIn w A []
  | more {b o:Nat} {args:List Tm} (hl:args.length≤j7) (hb:b < w.heap.size) (h:∀ k (hk:k < args.length),TmAt w b (o + k * 6) args[k]):TmsIn w (some ⟨b,o,none⟩) args
end
theorem TmAt.both {w w':World} (hw:Bel w w'):(∀ {b o:Nat} {s:Tm},TmAt w b o s→TmAt w' b o s)∧∀ {A:Option Addr} {l:List Tm},TmsIn w A l→TmsIn w' A l:=by
  have h1:∀ {b o:Nat} {s:Tm} (h:TmAt w b o s),TmAt w' b o s:=fun h=>
    TmAt.rec (motive_1:=fun b o s _=>TmAt w' b o s) (motive_2:=fun A l _=>TmsIn w' A l)
      (fun hb h hs _ ih=> .mk (nLL hb hw.size) (hw.range hb h) (hs.mono hw) ih) .nil (fun hl hb _ ih=> .more hl (nLL hb hw.size) ih) h
  have h2:∀ {A:Option Addr} {l:List Tm} (h:TmsIn w A l),TmsIn w' A l:=fun h=>
    TmsIn.rec (motive_1:=fun b o s _=>TmAt w' b o s) (motive_2:=fun A l _=>TmsIn w' A l)
      (fun hb h hs _ ih=> .mk (nLL hb hw.size) (hw.range hb h) (hs.mono hw) ih) .nil (fun hl hb _ ih=> .more hl (nLL hb hw.size) ih) h
  exact⟨h1,h2⟩
theorem TmAt.mono {w w':World} {b o:Nat} {s:Tm} (h:TmAt w b o s) (hw:Bel w w'):TmAt w' b o s:=(TmAt.both hw).1 h
theorem TmsIn.mono {w w':World} {A:Option Addr} {l:List Tm} (h:TmsIn w A l) (hw:Bel w w'):TmsIn w' A l:=(TmAt.both hw).2 h
theorem TmsIn.le {w:World} {A:Option Addr} {l:List Tm} (h:TmsIn w A l):l.length≤j7:=by
  cases h with
  | nil=>exact Nat.zero_le _
  | more hl=>exact hl
theorem TmsIn.at_ {w:World} {A:Option Addr} {l:List Tm} (h:TmsIn w A l) {k:Nat} (hk:k < l.length):∃ b o A' c B d,A=some ⟨b,o,none⟩∧b < w.heap.size∧w.rangeAt b (o + k * 6) [Value.int .i64 (l[k]).kind,.string (l[k]).name,.int .i64 (l[k]).index,.string (l[k]).type.base,.slice A' (l[k]).type.args.length c,.slice B (l[k]).args.length d]∧SimsIn w A' (l[k]).type.args∧TmsIn w B (l[k]).args:=by
  cases h with
  | nil=>simp at hk
  | @more b o _ _ hb h=>
    have hx:=h k hk
    generalize l[k]=s at hx
    cases hx with
    | mk _ hr hs ht=>exact⟨b,o,_,_,_,_,rfl,hb,hr,hs,ht⟩
def MJ (s:Sm):Prop:=s.base=⟨#[]⟩∧s.args.length=0
instance (s:Sm):Decidable (MJ s):=by unfold MJ;infer_instance
def ndC (b:Nat) (t:Tm):Int:=
  if t.kind=1 then (if t.index=0∧t.args.length=0 then (if yX t.name=true then (if smF t.type=0 then 0 else 12) else 10) else 5)
  else if t.kind=2 then (if t.name=⟨#[]⟩∧MJ t.type∧t.args.length=0 then (if t.index < 0∨(b:Int)≤t.index then 15 else 0) else 5)
  else if t.kind=3 then (if t.name=⟨#[]⟩∧t.index=0∧t.args.length=1 then (if smF t.type=0 then 0 else 12) else 5)
  else if t.kind=4 then (if t.name=⟨#[]⟩∧t.index=0∧MJ t.type∧t.args.length=2 then 0 else 5)
  else 4
theorem ndC_mk (b:Nat) (k:Int) (nm:ByteArray) (i:Int) (s:Sm) (l:List Tm):ndC b (.mk k nm i s l) =
  if k=1 then (if i=0∧l.length=0 then (if yX nm=true then (if smF s=0 then 0 else 12) else 10) else 5)
  else if k=2 then (if nm=⟨#[]⟩∧MJ s∧l.length=0 then (if i < 0∨(b:Int)≤i then 15 else 0) else 5)
  else if k=3 then (if nm=⟨#[]⟩∧i=0∧l.length=1 then (if smF s=0 then 0 else 12) else 5)
  else if k=4 then (if nm=⟨#[]⟩∧i=0∧MJ s∧l.length=2 then 0 else 5)
  else 4:=rfl
def inB (t:Tm) (b:Nat):Nat:=if t.kind=3 then b + 1 else b
mutual
def twk:Tm→Nat→Nat→Nat→Nat×Fl
  | .mk k nm i s l,d,b,n=>if 200 < n + 1∨40 < d then (n + 1,(1,(n:Int))) else if ndC b (.mk k nm i s l)=0 then V9 l (d + 1) (inB (.mk k nm i s l) b) (n + 1) else (n + 1,(ndC b (.mk k nm i s l),(n:Int)))
def V9:List Tm→Nat→Nat→Nat→Nat×Fl
  | [],_,_,n=>(n,(0,0))
  | x :: r,d,b,n=>if (twk x d b n).2.1=0 then V9 r d b (twk x d b n).1 else twk x d b n
end
theorem MZ (t:Tm) (d b n:Nat):twk t d b n=if 200 < n + 1∨40 < d then (n + 1,(1,(n:Int))) else if ndC b t=0 then V9 t.args (d + 1) (inB t b) (n + 1) else (n + 1,(ndC b t,(n:Int))):=by
  cases t;rw [twk];rfl
theorem twks_z:∀ (l:List Tm) (d b n:Nat),(V9 l d b n).2.1=0→(V9 l d b n).2=(0,0)
  | [],_,_,_,_=>by rw [V9]
  | .mk k nm i s a :: r,d,b,n,h=>by
    rw [V9] at h ⊢
    by_cases h1:(twk (.mk k nm i s a) d b n).2.1=0
    · rw [if_pos h1] at h ⊢;exact twks_z r d b _ h
    · rw [if_neg h1] at h;exact absurd h h1
theorem twk_z {t:Tm} {d b n:Nat} (h:(twk t d b n).2.1=0):(twk t d b n).2=(0,0):=by
  rw [MZ] at h ⊢;by_cases h1:200 < n + 1∨40 < d
  · rw [if_pos h1] at h;cases h
  · rw [if_neg h1] at h ⊢
    by_cases h2:ndC b t=0
    · rw [if_pos h2] at h ⊢;exact twks_z _ _ _ _ h
    · rw [if_neg h2] at h;exact absurd h h2
inductive Tv where
  | con (nm:ByteArray) (τ:Ts)
  | var (i:Nat)
  | abs (τ:Ts) (x:Tv)
  | app (x y:Tv)
def smZ:Sm:= .mk ⟨#[]⟩ []
def Tv.tm:Tv→Tm
  | .con nm τ=> .mk 1 nm 0 τ.sm []
  | .var i=> .mk 2 ⟨#[]⟩ i smZ []
  | .abs τ x=> .mk 3 ⟨#[]⟩ 0 τ.sm [x.tm]
  | .app x y=> .mk 4 ⟨#[]⟩ 0 smZ [x.tm,y.tm]
def Tv.size:Tv→Nat
  | .con _ _=>1
  | .var _=>1
  | .abs _ x=>x.size + 1
  | .app x y=>x.size + y.size + 1
theorem Tv.pos (v:Tv):0 < v.size:=by cases v <;> simp [Tv.size]
def Tv.ok:Nat→Tv→Prop
  | _,.con _ τ=>τ.size≤200
  | b,.var i=>i < b
  | b,.abs τ x=>τ.size≤200∧x.ok (b + 1)
  | b,.app x y=>x.ok b∧y.ok b
theorem smNo_z {s:Sm} (h:MJ s):s=smZ:=by
  rw [Sm.eta s,h.1,List.length_eq_zero_iff.1 h.2];rfl
theorem nil_of {α:Type} {l:List α} (h:l.length=0):l= []:=List.length_eq_zero_iff.1 h
mutual
theorem F0:∀ (t:Tm) (d b n:Nat),(twk t d b n).2.1=0→∃ v:Tv,t=v.tm∧v.ok b∧(twk t d b n).1=n + v.size∧n + v.size≤200
  | .mk k nm i s l,d,b,n,h=>by
    rw [twk] at h ⊢
    by_cases h1:200 < n + 1∨40 < d
    · rw [if_pos h1] at h;cases h
    rw [if_neg h1] at h ⊢
    by_cases h2:ndC b (.mk k nm i s l)=0
    · rw [if_pos h2] at h ⊢
      obtain⟨vs,e1,e0,e2,e3⟩:=H8 l (d + 1) (inB (.mk k nm i s l) b) (n + 1) h om
      rw [e2]
      rw [ndC_mk] at h2
      by_cases k1:k=1
      · subst k1
        rw [if_pos rfl] at h2
        by_cases q:i=0∧l.length=0
        · rw [if_pos q] at h2
          obtain⟨rfl,q2⟩:=q
          obtain rfl:=nil_of q2
          by_cases q3:yX nm=true
          · rw [if_pos q3] at h2
            by_cases q4:smF s=0
            · obtain⟨τ,rfl,hτ⟩:=smF_ts q4
              obtain rfl:vs= []:=by cases vs with | nil=>rfl | cons a r=>cases e1
              exact⟨.con nm τ,rfl,hτ,by simp [Tv.size],by simp [Tv.size];omega⟩
            · rw [if_neg q4] at h2;cases h2
          · rw [if_neg q3] at h2;cases h2
        · rw [if_neg q] at h2;cases h2
      rw [if_neg k1] at h2
      by_cases k2:k=2
      · subst k2
        rw [if_pos rfl] at h2
        by_cases q:nm=⟨#[]⟩∧MJ s∧l.length=0
        · rw [if_pos q] at h2
          obtain⟨rfl,qs,q2⟩:=q
          obtain rfl:=nil_of q2
          obtain rfl:=smNo_z qs
          by_cases q3:i < 0∨(b:Int)≤i
          · rw [if_pos q3] at h2;cases h2
          · obtain⟨j,rfl⟩:∃ j:Nat,i=j:=⟨i.toNat,by omega⟩
            obtain rfl:vs= []:=by cases vs with | nil=>rfl | cons a r=>cases e1
            exact⟨.var j,rfl,show j < b by omega,by simp [Tv.size],by simp [Tv.size];omega⟩
        · rw [if_neg q] at h2;cases h2
      rw [if_neg k2] at h2
      by_cases k3:k=3
      · subst k3
        rw [if_pos rfl] at h2
        by_cases q:nm=⟨#[]⟩∧i=0∧l.length=1
        · rw [if_pos q] at h2
          obtain⟨rfl,rfl,q2⟩:=q
          by_cases q4:smF s=0
          · obtain⟨τ,rfl,hτ⟩:=smF_ts q4
            match l,vs,e1,q2 with
            | [x],[v],e1,_=>
              simp only [List.map_cons,List.map_nil,List.cons.injEq,and_true] at e1
              simp only [List.map_cons,List.map_nil,List.sum_cons,List.sum_nil] at e3 ⊢
              have eb:=e0 v (List.mem_singleton.2 rfl)
              have hin:inB (.mk 3 ⟨#[]⟩ 0 τ.sm [x]) b=b + 1:=rfl
              rw [hin] at eb
              exact⟨.abs τ v,by rw [e1];rfl,⟨hτ,eb⟩,by simp only [Tv.size];omega,by simp only [Tv.size];omega⟩
          · rw [if_neg q4] at h2;cases h2
        · rw [if_neg q] at h2;cases h2
      rw [if_neg k3] at h2
      by_cases k4:k=4
      · subst k4
        rw [if_pos rfl] at h2
        by_cases q:nm=⟨#[]⟩∧i=0∧MJ s∧l.length=2
        · obtain⟨rfl,rfl,qs,q2⟩:=q
          obtain rfl:=smNo_z qs
          match l,vs,e1,q2 with
          | [x,y],[v,u],e1,_=>
            simp only [List.map_cons,List.map_nil,List.cons.injEq,and_true] at e1
            simp only [List.map_cons,List.map_nil,List.sum_cons,List.sum_nil] at e3 ⊢
            have eb:=e0 v (by simp)
            have eu:=e0 u (by simp)
            have hin:inB (.mk 4 ⟨#[]⟩ 0 smZ [x,y]) b=b:=rfl
            rw [hin] at eb eu
            exact⟨.app v u,by rw [e1.1,e1.2];rfl,⟨eb,eu⟩,by simp only [Tv.size];omega,by simp only [Tv.size];omega⟩
        · rw [if_neg q] at h2;cases h2
      · rw [if_neg k4] at h2;cases h2
    · rw [if_neg h2] at h;exact absurd h h2
theorem H8:∀ (l:List Tm) (d b n:Nat),(V9 l d b n).2.1=0→n≤200→∃ vs:List Tv,l=vs.map Tv.tm∧(∀ v ∈ vs,v.ok b)∧(V9 l d b n).1=n + (vs.map Tv.size).sum∧n + (vs.map Tv.size).sum≤200
  | [],d,b,n,_,hn=>⟨[],rfl,(fun _ h=>by cases h),(by rw [V9];rfl),hn⟩
  | x :: r,d,b,n,h,hn=>by
    rw [V9] at h ⊢
    by_cases h1:(twk x d b n).2.1=0
    · rw [if_pos h1] at h ⊢
      obtain⟨v,e1,e0,e2,e3⟩:=F0 x d b n h1
      rw [e2] at h ⊢
      obtain⟨vs,k1,k0,k2,k3⟩:=H8 r d b (n + v.size) h e3
      refine⟨v :: vs,by rw [e1,k1];rfl,fun u hu=>?_,by rw [k2];simp;omega,by simp;omega⟩
      rcases List.mem_cons.1 hu with rfl | hu
      · exact e0
      · exact k0 u hu
    · rw [if_neg h1] at h;exact absurd h h1
end
theorem Tv.tm_inj:∀ {a b:Tv},a.tm=b.tm→a=b
  | .con n s,.con m t,h=>by
    simp only [Tv.tm,Tm.mk.injEq,and_true,true_and] at h
    rw [h.1,Ts.sm_inj h.2]
  | .var i,.var j,h=>by
    simp only [Tv.tm,Tm.mk.injEq,and_true,true_and] at h
    rw [show i=j by omega]
  | .abs s x,.abs t y,h=>by
    simp only [Tv.tm,Tm.mk.injEq,List.cons.injEq,and_true,true_and] at h
    rw [Ts.sm_inj h.1,Tv.tm_inj h.2]
  | .app x y,.app u v,h=>by
    simp only [Tv.tm,Tm.mk.injEq,List.cons.injEq,and_true,true_and] at h
    rw [Tv.tm_inj h.1,Tv.tm_inj h.2]
  | .con _ _,.var _,h=>by simp [Tv.tm] at h
  | .con _ _,.abs _ _,h=>by simp [Tv.tm] at h
  | .con _ _,.app _ _,h=>by simp [Tv.tm] at h
  | .var _,.con _ _,h=>by simp [Tv.tm] at h
  | .var _,.abs _ _,h=>by simp [Tv.tm] at h
  | .var _,.app _ _,h=>by simp [Tv.tm] at h
  | .abs _ _,.con _ _,h=>by simp [Tv.tm] at h
  | .abs _ _,.var _,h=>by simp [Tv.tm] at h
  | .abs _ _,.app _ _,h=>by simp [Tv.tm] at h
  | .app _ _,.con _ _,h=>by simp [Tv.tm] at h
  | .app _ _,.var _,h=>by simp [Tv.tm] at h
  | .app _ _,.abs _ _,h=>by simp [Tv.tm] at h
def tyv:List Ts→Tv→Option Ts
  | _,.con _ τ=>some τ
  | Γ,.var i=>Γ[i]?
  | Γ,.abs τ x=>(tyv (τ :: Γ) x).map (.f τ)
  | Γ,.app x y=>match tyv Γ x,tyv Γ y with
    | some (.f a r),some z=>if a.eqb z=true then some r else none
    | _,_=>none
open Classical in
noncomputable def tmF (t:Tm):Fl:=if (twk t 1 0 0).2.1=0 then (if ∃ v τ,t=Tv.tm v∧tyv [] v=some τ then (0,0) else (12,-1)) else (twk t 1 0 0).2
theorem tmF_bad {t:Tm} (h:¬(twk t 1 0 0).2.1=0):tmF t=(twk t 1 0 0).2:=by unfold tmF;rw [if_neg h]
theorem tmF_ok {v:Tv} (h:(twk v.tm 1 0 0).2.1=0):tmF v.tm=if (tyv [] v).isSome then (0,0) else (12,-1):=by
  unfold tmF;rw [if_pos h];cases e:tyv [] v with
  | none=>
    rw [if_neg]
    · rfl
    · rintro ⟨u,τ,h1,h2⟩
      rw [← Tv.tm_inj h1,e] at h2;cases h2
  | some τ=>rw [if_pos ⟨v,τ,rfl,e⟩];rfl
end Go.Proofs.YtdgnllfbooklcaaDoor
namespace Go.Proofs.YtdgnllfbooklcaaDoor
open Go.RowKit
section six
variable {P:Program} {Q:Exit→Act→World→Prop} {n:Nat} {f:Fr} {w:World} {ops:Array Oper} {rest:List Oper} {d:Tmp} {ty t e:TypeId} {pos:String} {af:Array Edge} {x y:Operand} {v:Value}
theorem r_ext {F:FuncId} {xs:Array Operand} {ats:Array TypeId} {args:List Value} {dst:Option Nat} {gd:Option (Nat×Bool)} (h:(callFunc F args.toArray).run P w= .ok (.value v) w) (hargs:xs.toList.map (ev n f)=args):
    RV P n f w ⟨dst,.call { callee:= .value (.func F),args:=xs,argTypes:=ats },ty,pos,af,gd⟩ v w:=by
  subst hargs;have hm:(xs.toList.map (ev n f)).toArray=xs.map (ev n f):=by rw [← Array.toList_map,Array.toArray_toList]
  rw [hm] at h;simp [RV,execOp,resolve,ev,Deferred.ofValue,invoke,h]
theorem Own.whole {base sz k cap:Nat} {A:Option Addr} {xs:List Value} (h:Own w base e sz A k cap xs) (hk:0 < k):∃ (g:Nat) (cur:Array Value),A=some ⟨g,0,none⟩∧base≤g∧Blk w g e cur∧cap≤9223372036854775807∧cur.size=cap * sz∧cur.toList.take (k * sz)=xs:=by
  rcases h.2 with ⟨_,h0⟩ | ⟨g,c,cur,hv,hb,hg,hkc,hm,hs,ht⟩
  · omega
  · cases hv
    exact⟨g,cur,rfl,hb,hg,by simpa [maxLen] using hm,hs,ht⟩
end six
end Go.Proofs.YtdgnllfbooklcaaDoor
namespace Go.Proofs.YtdgnllfbooklcaaDoor
open Go.RowKit
def bl (s:ByteArray):List UInt8:=s.data.toList
theorem B9 (p:ByteArray):(bl p).length=p.size:=by unfold bl;rw [Array.length_toList];rfl
theorem H0 {p q:ByteArray} (h:bl p=bl q):p=q:=by
  cases p;cases q;unfold bl at h;simp only [ByteArray.mk.injEq];exact Array.toList_inj.1 h
section rules
variable {P:Program} {Q:Exit→Act→World→Prop} {n:Nat} {f:Fr} {w w':World} {ops:Array Oper} {rest:List Oper} {d:Nat} {ty:TypeId} {pos:String} {af:Array Edge} {x y z:Operand} {t t' e:TypeId}
end rules
end Go.Proofs.YtdgnllfbooklcaaDoor
namespace Go.Proofs.YtdgnllfbooklcaaDoor
open Go.RowKit
def stk (h:Nat) (s:ByteArray):ByteArray:=⟨((bl s).take h).toArray⟩
def sdr (l:Nat) (s:ByteArray):ByteArray:=⟨((bl s).drop l).toArray⟩
theorem Jk (l:Nat) (s:ByteArray):bl (sdr l s)=(bl s).drop l:=rfl
theorem yq (l:Nat) (s:ByteArray):(sdr l s).size=s.size - l:=by rw [← B9,← B9,Jk,List.length_drop]
theorem ext_bl (s:ByteArray) (l h:Nat):bl (s.extract l h)=((bl s).drop l).take (h - l):=by
  unfold bl;rw [ByteArray.data_extract,Array.toList_extract,List.extract_eq_take_drop]
theorem ext_sdr {s:ByteArray} {l:Nat}:s.extract l s.size=sdr l s:=H0 (by
  rw [ext_bl,Jk,List.take_of_length_le]
  rw [List.length_drop,B9]
  exact Nat.le_refl _)
section rules
variable {P:Program} {Q:Exit→Act→World→Prop} {n:Nat} {f:Fr} {w w':World} {ops:Array Oper} {rest:List Oper} {d:Nat} {ty:TypeId} {pos:String} {af:Array Edge} {x y z:Operand} {t t' e:TypeId}
theorem V6 {dst:Option Tmp} {gd:Option (Nat×Bool)} {s:ByteArray} {l:Nat} (hu:P.underlying t=some .string) (hx:ev n f x= .string s) (hy:ev n f y= .int .i64 (l:Int)) (hl:l≤s.size):
    RV P n f w ⟨dst,.slice t x (some y) none none,ty,pos,af,gd⟩ (.string (sdr l s)) w:=by
  have h1:(Instr.sliceBound (.int .i64 (l:Int)) s.size .sliceB).run P w= .ok l w:=by
    simp [Instr.sliceBound,asIntOf,hl]
  simp [RV,execOp,hx,hy,Instr.sliceAt,run_underlying hu,Instr.slice,Instr.sliceBounds,h1,ext_sdr]
end rules
def Cz (c:UInt8):List UInt8→List (List UInt8)
  | []=>[[]]
  | x :: xs=>if x=c then [] :: Cz c xs else (x :: (Cz c xs).headD []) :: (Cz c xs).tail
theorem Lj {c:UInt8}:∀ {l:List UInt8} {m:Nat},Lib.indexByte l c=(m:Int)→m < l.length∧¬c ∈ l.take m∧l=l.take m ++ c :: l.drop (m + 1)
  | [],m,h=>by simp [Lib.indexByte] at h
  | b :: l,m,h=>by
    unfold Lib.indexByte at h
    by_cases e:b=c
    · have e2:(b == c)=true:=by simpa using e
      simp only [e2,if_true] at h
      have:m=0:=by omega
      subst this
      exact⟨by simp,by simp,by simp [e]⟩
    · have e2:(b == c)=false:=by simpa using e
      simp only [e2,Bool.false_eq_true,if_false] at h
      by_cases q:Lib.indexByte l c= -1
      · simp [q] at h
      · have q2:(Lib.indexByte l c == -1)=false:=by simpa using q
        simp only [q2,Bool.false_eq_true,if_false] at h
        have h3:=Lib.indexByte_ge l c
        obtain⟨k,rfl⟩:∃ k,m=k + 1:=⟨m - 1,by omega⟩
        obtain⟨a1,a2,a3⟩:=Lj (c:=c) (l:=l) (m:=k) om
        refine⟨by simp;exact a1,?_,?_⟩
        · rw [List.take_succ_cons]
          intro hm
          rcases List.mem_cons.1 hm with q | q
          · exact e q.symm
          · exact a2 q
        · rw [List.take_succ_cons,List.drop_succ_cons,List.cons_append,← a3]
def sp (c:UInt8) (s:ByteArray):List ByteArray:=(Cz c (bl s)).map (fun p=>⟨p.toArray⟩)
def pc (c:UInt8) (s:ByteArray) (k:Nat):ByteArray:=(sp c s).getD k ⟨#[]⟩
def StrsIn (w:World) (A:Option Addr) (xs:List ByteArray):Prop:=
  xs.length≤j7∧(xs≠[]→∃ b o,A=some ⟨b,o,none⟩∧b < w.heap.size∧∀ k (h:k < xs.length),w.cell? ⟨b,o + k * 1,none⟩=some (.string xs[k]))
theorem StrsIn.mono {w w':World} {A:Option Addr} {xs:List ByteArray} (h:StrsIn w A xs) (hb:Bel w w'):StrsIn w' A xs:=
  ⟨h.1,fun hn=>by
    obtain⟨b,o,e,hl,hc⟩:=h.2 hn
    exact⟨b,o,e,nLL hl hb.size,fun k hk=>hb.cell hl (hc k hk)⟩⟩
theorem StrsIn.at_ {w:World} {A:Option Addr} {xs:List ByteArray} (h:StrsIn w A xs) {k:Nat} (hk:k < xs.length):
    ∃ b o,A=some ⟨b,o,none⟩∧b < w.heap.size∧w.cell? ⟨b,o + k * 1,none⟩=some (.string xs[k]):=by
  obtain⟨b,o,e,hl,hc⟩:=h.2 (by rintro rfl;simp at hk);exact⟨b,o,e,hl,hc k hk⟩
end Go.Proofs.YtdgnllfbooklcaaDoor
