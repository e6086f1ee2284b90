/- What these functions of the program compute, at every world: glosswright/glosswrightlaw4.leaf, glosswright/derive.Weight, glosswright/derive.Graph. What these functions of the program compute, at every world: slices.Equal[[]string,string], glosswright/derive.Words$1, glosswright/derive.leaves. What these functions of the program compute, at every world: glosswright/derive.Words. What these functions of the program compute, at every world: . -/
import Derived.Test.YtdgnllfbooklcaaDoorU
import Derived.Test.YtdgnllfbooklcaaDoorSim
import Derived.Test.YtdgnllfbooklcaaDoorYGo
import Derived.Test.YtdgnllfbooklcaaDoorZSu
import Derived.Test.YtdgnllfbooklcaaDoorStk
import Derived.Test.YtdgnllfbooklcaaDoorEng9
import Derived.Test.YtdgnllfbooklcaaDoorRng
import Derived.Test.YtdgnllfbooklcaaDoorHLaw
import Derived.Test.YtdgnllfbooklcaaDoorDGo
import Derived.Test.YtdgnllfbooklcaaDoorGro
namespace Go.Proofs.YtdgnllfbooklcaaDoor
open Go.RowKit
theorem Oq {g t:Fl} (h:(if g.1=0 then t else g).1=0):g.1=0∧t.1=0:=by
  by_cases h1:g.1=0
  · rw [if_pos h1] at h;exact⟨h1,h⟩
  · rw [if_neg h1] at h;exact absurd h h1
theorem tf_zero {rs:List Rl} {nx:Nat} {t:Dt} (h:(yv rs nx t).1=0):yv rs nx t=(0,0):=by
  by_cases a:(tw rs nx t 1 0 0 0).2.2.1=0
  · by_cases b:12 < (tw rs nx t 1 0 0 0).2.1
    · rw [NQ a b] at h;cases h
    · exact tf_ok a b
  · rw [C0 a] at h;exact absurd h a
theorem Xv {l:List Ty} {fs:List Ft} {rs:List Rl} {xs:List Lx} {st:List Nd} {t:Dt} (h:(if (qy l fs rs xs st).1=0 then yv rs xs.length t else qy l fs rs xs st).1=0):(if (qy l fs rs xs st).1=0 then yv rs xs.length t else qy l fs rs xs st)=(0,0):=by
  obtain⟨h1,h2⟩:=Oq h;rw [if_pos h1];exact tf_zero h2
theorem LZ {l:List Ty} {fs:List Ft} {rs:List Rl} {xs:List Lx} {st:List Nd} (h:(qy l fs rs xs st).1=0):Nv l fs rs xs:=
  ⟨gr_h0 h,fun i hi=>⟨(gr_jok h hi).2,by have:=(gr_one h hi).1;omega,(gr_one h hi).2⟩,fun i hi=>(Mk (gr_h0 h) (gr_lexv h hi)).1⟩
theorem tg_pick {l:List Ty} {fs:List Ft} {rs:List Rl} {xs:List Lx} (H:Nv l fs rs xs) {t:Dt} (hok:OkT rs xs.length t):∃ ok X,∀ ok' X',TgR l rs xs t ok' X'→ok'=ok∧X'=X∧TgR l rs xs t ok X:=by
  by_cases h:∃ ok X,TgR l rs xs t ok X
  · obtain⟨ok,X,hX⟩:=h
    exact⟨ok,X,fun ok' X' h'=>by obtain⟨a,b⟩:=tg_det H hok h' hX;exact⟨a,b,hX⟩⟩
  · exact⟨false,[],fun ok' X' h'=>absurd ⟨_,_,h'⟩ h⟩
theorem fn39:zZ Tryd.prog 39=true:=by kernel_rfl
theorem Dz (k:Int) (w:World):Calls Tryd.prog 11 #[.int .i64 k] w fun e w'=>e= .returned (.agg #[.int .i64 (-1),.int .i64 k,.slice none 0 0])∧Bel w w':=by
 refine enter Tryd.func11 Tryd.ntmps11 rfl (Nat.le_of_ble_eq_true rfl) ?_;have hB:Bel w w:=Below.refl _ _;refine zn2 ?_;refine qw (cs:=#[.int .i64 0,.int .i64 0,.slice none 0 0]) G3 rfl (fun b2 w1 hb2 s1 hr=>?_);have lo2:=nLT (Bel.size hB) hr;refine zn5 ?_;refine wl (Z9 (v0:= .int _ _) (v1:= .int _ _) (fun v0 v1=>#[v0,v1,.slice none 0 0]) rfl rfl kR) ?_;refine zk hb2 rfl rfl S7 rfl zK (fun w2 hq s2=>?_);replace hb2:=hq;refine zn3 ?_;refine xX (.inl rfl) rfl (zw U56 rfl rfl hb2.range0 S7) ?_;replace hB:=(hB.tr0 s1).tr1 s2 lo2;exact⟨rfl,hB⟩
set_option maxRecDepth 100000 in
set_option maxHeartbeats 2000000 in
theorem weight_d (AT AF AR AX AS:Option Addr) (ct cf cr cx cst:Nat) (l:List Ty) (fs:List Ft) (rs:List Rl) (xs:List Lx) (st:List Nd) (t:Dt) (A:Option Addr) (c:Nat) (w:World) (hTab:TabIn w) (hU:U8In w) (hTy:TypesIn w AT l) (hF:FeatsIn w AF fs) (hRu:RulesIn w AR rs) (hLx:LexesIn w AX xs) (hG:NodesIn w AS st) (hT:TresIn w A t.kids):Calls Tryd.prog 10 #[.agg #[.slice AT l.length ct,.slice AF fs.length cf,.slice AR rs.length cr,.slice AX xs.length cx,.slice AS st.length cst],.agg #[.int .i64 (t).rule,.int .i64 (t).lex,.slice A (t).kids.length c]] w fun e w'=>e= .returned (.tuple #[.int .i64 (if (if (qy l fs rs xs st).1=0 then yv rs xs.length t else qy l fs rs xs st).1=0 then wtT rs xs t else 0),flV (if (qy l fs rs xs st).1=0 then yv rs xs.length t else qy l fs rs xs st)])∧Bel w w':=by
 refine enter Tryd.func10 Tryd.ntmps10 rfl (Nat.le_of_ble_eq_true rfl) ?_;have hB:Bel w w:=Below.refl _ _;refine zn2 ?_;refine xz (v:= .agg #[_,_,_,_,_]) (cs:=#[_,_,_,_,_]) rfl rfl (fun b2 w1 hb2 s1 hr=>?_);refine xz (v:= .agg #[_,_,_]) (cs:=#[_,_,_]) rfl rfl (fun b3 w2 hb3 s2 hr=>?_);refine waI rfl ?_;refine qw (cs:=#[.int .i64 0,.int .i64 0]) zY rfl (fun b5 w3 hb5 s3 hr=>?_);replace hB:=hB.tr0 (s1.trans s2);have lo5:=nLT (Bel.size hB) hr;refine zn7 ?_;replace hB:=hB.tr0 s3;refine zX fn39 (JJ AT AF AR AX AS ct cf cr cx cst l fs rs xs st t A c _ (hTab.mono hB) (hU.mono hB) (hTy.mono hB) (hF.mono hB) (hRu.mono hB) (hLx.mono hB) (hG.mono hB) (hT.mono hB)) rfl (fun e' w4 hr=>?_);obtain⟨rfl,s4⟩:=hr;replace s4:=sB s4;refine⟨_,rfl,?_⟩;refine yj (cs:=#[.int .i64 0,.int .i64 0]) zY rfl (fun _=>rfl) (fun _=>rfl) zz rfl zK (fun b6 w6 hb6 s5 hr=>?_);refine zn9 ?_;replace hB:=hB.tr0 (s4.trans s5);replace hb5:=hb5.tr0 (s4.trans s5);refine zJ rfl (fun c12=>?_) (fun c12=>?_)
 ·refine xK ?_;refine X1 2 kR kR (fun w7 s6=>?_);refine zn2 ?_;refine QV ?_;replace hb5:=hb5.tr0 s6;refine zk hb5 rfl rfl zz rfl zK (fun w8 hq s7=>?_);replace hb5:=hq;refine zn4 ?_;refine ZK (.inl rfl) rfl rfl (zw U36 rfl rfl hb5.range0 zz) ?_;replace hB:=(hB.tr0 s6).tr1 s7 lo5;exact⟨by rw [if_neg c12];rfl,hB⟩
 have hd0:=Classical.not_not.1 c12;obtain⟨hg0,ht0⟩:=Oq hd0;obtain⟨hok,hnd,_⟩:=K3 ht0;obtain⟨_,_,hwr,hwx,_⟩:=Ly hg0;have hdz:=Xv hd0;refine zn6 ?_;refine zX fn40 (sum_any hwr hwx t A c _ (hRu.mono hB) (hLx.mono hB) (hT.mono hB) hok hnd) rfl (fun e' w9 hr=>?_);obtain⟨rfl,s8⟩:=hr;replace s8:=sB s8;refine⟨_,rfl,?_⟩;refine wl (uJ (vs:=#[]) (cs:=#[.int .i64 0,.int .i64 0]) (by simp) kR) (waI rfl ?_);replace hb5:=hb5.tr0 s8;refine zk hb5 rfl rfl zz rfl zK (fun w10 hq s9=>?_);replace hb5:=hq;refine zn3 ?_;refine ZK (.inl rfl) rfl rfl (zw U36 rfl rfl hb5.range0 zz) ?_;replace hB:=(hB.tr0 s8).tr1 s9 lo5;exact⟨by rw [if_pos hd0,hdz];rfl,hB⟩
set_option maxRecDepth 100000 in
set_option maxHeartbeats 4000000 in
theorem Lv (AT AF AR AX AS:Option Addr) (ct cf cr cx cst:Nat) (l:List Ty) (fs:List Ft) (rs:List Rl) (xs:List Lx) (st:List Nd) (t:Dt) (A:Option Addr) (c:Nat) (w:World) (hTab:TabIn w) (hU:U8In w) (hTy:TypesIn w AT l) (hF:FeatsIn w AF fs) (hRu:RulesIn w AR rs) (hLx:LexesIn w AX xs) (hG:NodesIn w AS st) (hT:TresIn w A t.kids):Calls Tryd.prog 12 #[.agg #[.slice AT l.length ct,.slice AF fs.length cf,.slice AR rs.length cr,.slice AX xs.length cx,.slice AS st.length cst],.agg #[.int .i64 (t).rule,.int .i64 (t).lex,.slice A (t).kids.length c]] w fun e w'=>(∃ A X ok c,e= .returned (.tuple #[.agg #[.slice A (List.length X) c],.bool ok,flV (if (qy l fs rs xs st).1=0 then yv rs xs.length t else qy l fs rs xs st)])∧(∀ w2,FrSame w.heap.size w' w2→NodesIn w2 A X)∧((¬(if (qy l fs rs xs st).1=0 then yv rs xs.length t else qy l fs rs xs st).1=0∧ok=false∧X= [])∨((if (qy l fs rs xs st).1=0 then yv rs xs.length t else qy l fs rs xs st)=(0,0)∧TgR l rs xs t ok X)))∧Bel w w':=by
 refine enter Tryd.func12 Tryd.ntmps12 rfl (Nat.le_of_ble_eq_true rfl) ?_;have hB:Bel w w:=Below.refl _ _;refine zn2 ?_;refine xz (v:= .agg #[_,_,_,_,_]) (cs:=#[_,_,_,_,_]) rfl rfl (fun b2 w1 hb2 s1 hr=>?_);have lo2:=nLT (Bel.size hB) hr;refine xz (v:= .agg #[_,_,_]) (cs:=#[_,_,_]) rfl rfl (fun b3 w2 hb3 s2 hr=>?_);have:=nLL hb2.lt hr;replace hB:=hB.tr0 s1;have lo3:=nLT (Bel.size hB) hr;refine qw (cs:=#[.slice none 0 0]) E1 rfl (fun b4 w3 hb4 s3 hr=>?_);replace hb2:=hb2.tr0 s2;have:=nLL hb2.lt hr;have:=nLL hb3.lt hr;replace hB:=hB.tr0 s2;have lo4:=nLT (Bel.size hB) hr;refine waB rfl ?_;refine qw (cs:=#[.int .i64 0,.int .i64 0]) zY rfl (fun b6 w4 hb6 s4 hr=>?_);replace hb2:=hb2.tr0 s3;have:=nLL hb2.lt hr;replace hb3:=hb3.tr0 s3;have:=nLL hb3.lt hr;have:=nLL hb4.lt hr;replace hB:=hB.tr0 s3;have lo6:=nLT (Bel.size hB) hr;refine zn7 ?_;replace hB:=hB.tr0 s4;refine zX fn39 (JJ AT AF AR AX AS ct cf cr cx cst l fs rs xs st t A c _ (hTab.mono hB) (hU.mono hB) (hTy.mono hB) (hF.mono hB) (hRu.mono hB) (hLx.mono hB) (hG.mono hB) (hT.mono hB)) rfl (fun e' w5 hr=>?_);obtain⟨rfl,s5⟩:=hr;replace s5:=sB s5;refine⟨_,rfl,?_⟩;refine yj (cs:=#[.int .i64 0,.int .i64 0]) zY rfl (fun _=>rfl) (fun _=>rfl) zz rfl zK (fun b7 w7 hb7 s6 hr=>?_);replace hb2:=hb2.tr0 (s4.trans s5);have:=nLL hb2.lt hr;replace hb3:=hb3.tr0 (s4.trans s5);have:=nLL hb3.lt hr;replace hb4:=hb4.tr0 (s4.trans s5);have:=nLL hb4.lt hr;replace hb6:=hb6.tr0 s5;have:=nLL hb6.lt hr;replace hB:=hB.tr0 s5;have lo7:=nLT (Bel.size hB) hr;refine zn9 ?_;replace hB:=hB.tr0 s6;replace hb4:=hb4.tr0 s6;replace hb6:=hb6.tr0 s6;refine zJ rfl (fun c15=>?_) (fun c15=>?_)
 ·refine xK ?_;refine R5 5 [16,17,5] [b4,b6] (fun ix v wv=>match ix with | 0=>v= .agg #[.slice none 0 0] | 1=>v= .agg #[.int .i64 (if (qy l fs rs xs st).1=0 then yv rs xs.length t else qy l fs rs xs st).1,.int .i64 (if (qy l fs rs xs st).1=0 then yv rs xs.length t else qy l fs rs xs st).2] | 2=>Blk wv b4 30 #[.slice none 0 0] | 3=>v= .bool false | 4=>Blk wv b6 36 #[.int .i64 (if (qy l fs rs xs st).1=0 then yv rs xs.length t else qy l fs rs xs st).1,.int .i64 (if (qy l fs rs xs st).1=0 then yv rs xs.length t else qy l fs rs xs st).2] | _=>True) (fun wq=>(∃ z,Blk wq b4 30 #[z])∧∃ z y,Blk wq b6 36 #[z,y]) kR kR ?_ ?_ ⟨⟨_,hb4⟩,_,_,hb6⟩ ?_ ?_
  ·intro ix v wv wv2 h s7
   match ix,h with
   | 0,h=>exact h
   | 1,h=>exact h
   | 2,h=>exact(show Blk wv b4 30 #[.slice none 0 0] from h).tr0 s7
   | 3,h=>exact h
   | 4,h=>exact(show Blk wv b6 36 #[.int .i64 (if (qy l fs rs xs st).1=0 then yv rs xs.length t else qy l fs rs xs st).1,.int .i64 (if (qy l fs rs xs st).1=0 then yv rs xs.length t else qy l fs rs xs st).2] from h).tr0 s7
   | _ + 5,h=>exact trivial
  ·intro wv wv2 h s8;obtain⟨⟨z1,hb4⟩,z2,z3,hb6⟩:=h;replace hb4:=hb4.tr0 s8;replace hb6:=hb6.tr0 s8;exact⟨⟨_,hb4⟩,_,_,hb6⟩
  ·intro ix o hix hoq gg wx s9 hJ hd
   match ix,hix,hoq with
   | 0,_,hoq=>
    cases sI hoq;show OS _ _ _ _ _ _;exact oVq (uJ (vs:=#[]) (cs:=#[.slice none 0 0]) (by simp) kR) rfl
   | 1,_,hoq=>
    cases sI hoq;replace hb7:=hb7.tr s9 (fun hx=>by simp only [List.mem_cons,List.not_mem_nil,or_false] at hx;omega);show OS _ _ _ _ _ _;exact oVq (qW U36 rfl rfl hb7.range0 zz) rfl
   | 2,_,hoq=>
    cases sI hoq;have d0:gg 16= .agg #[.slice none 0 0]:=hd 0 _ (zj kR) rfl;have e16:=d0;show OS _ _ _ _ _ _;refine zq 16 _ e16 nu ?_;obtain⟨⟨z1,hb4⟩,z2,z3,hb6⟩:=hJ;refine M7 (fun ops Q K=>?_);refine zk hb4 rfl rfl Z8 rfl zK (fun w2 hq hs2=>?_);have K2:=K w2;refine K2 ⟨hs2.weak (by simp),?_,hq,fun kx v hne h=>?_⟩
    ·replace hb6:=hb6.tr hs2 (by simp;omega);replace hb4:=hq;exact⟨⟨_,hb4⟩,_,_,hb6⟩
    match kx,hne,h with
    | 0,_,h=>exact h
    | 1,_,h=>exact h
    | 2,hne,_=>exact absurd rfl hne
    | 3,_,h=>exact h
    | 4,_,h=>exact(show Blk wx b6 36 #[.int .i64 (if (qy l fs rs xs st).1=0 then yv rs xs.length t else qy l fs rs xs st).1,.int .i64 (if (qy l fs rs xs st).1=0 then yv rs xs.length t else qy l fs rs xs st).2] from h).tr hs2 (by simp;omega)
    | _ + 5,_,_=>exact trivial
   | 3,_,hoq=>
    cases sI hoq;show OS _ _ _ _ _ _;exact oVq (kQ (v:= .bool _) rfl) rfl
   | 4,_,hoq=>
    cases sI hoq;have d1:gg 17= .agg #[.int .i64 (if (qy l fs rs xs st).1=0 then yv rs xs.length t else qy l fs rs xs st).1,.int .i64 (if (qy l fs rs xs st).1=0 then yv rs xs.length t else qy l fs rs xs st).2]:=hd 1 _ (zj kR) rfl;have e17:=d1;show OS _ _ _ _ _ _;refine zq 17 _ e17 nu ?_;obtain⟨⟨z1,hb4⟩,z2,z3,hb6⟩:=hJ;refine M7 (fun ops Q K=>?_);refine zk hb6 rfl rfl zz rfl zK (fun w2 hq hs2=>?_);have K2:=K w2;refine K2 ⟨hs2.weak (by simp),?_,hq,fun kx v hne h=>?_⟩
    ·replace hb4:=hb4.tr hs2 (by simp;omega);replace hb6:=hq;exact⟨⟨_,hb4⟩,_,_,hb6⟩
    match kx,hne,h with
    | 0,_,h=>exact h
    | 1,_,h=>exact h
    | 2,_,h=>exact(show Blk wx b4 30 #[.slice none 0 0] from h).tr hs2 (by simp;omega)
    | 3,_,h=>exact h
    | 4,hne,_=>exact absurd rfl hne
    | _ + 5,_,_=>exact trivial
   | _ + 5,hix,_=>exact absurd hix om
  intro gg w8 s10 hJ hR;replace hB:=hB.tr s10 (fun q hx=>by simp only [List.mem_cons,List.not_mem_nil,or_false] at hx;omega);have hq2:Blk w8 b4 30 #[.slice none 0 0]:=hR 2 _ rfl;have hq4:Blk w8 b6 36 #[.int .i64 (if (qy l fs rs xs st).1=0 then yv rs xs.length t else qy l fs rs xs st).1,.int .i64 (if (qy l fs rs xs st).1=0 then yv rs xs.length t else qy l fs rs xs st).2]:=hR 4 _ rfl;replace hb4:=hq2;replace hb6:=hq4;have d3:gg 5= .bool false:=hR 3 _ rfl;have e5:=d3;refine qY 5 _ e5 nu (zn4 ?_);refine Pq (.inl rfl) rfl (zw U30 rfl rfl hb4.range0 Z8) rfl (zw U36 rfl rfl hb6.range0 zz) ?_;exact⟨⟨none,[],false,0,rfl,fun w2 _=>oX w2 none,.inl ⟨c15,rfl,rfl⟩⟩,hB⟩
 have hd0:=Classical.not_not.1 c15;obtain⟨hg0,ht0⟩:=Oq hd0;have H:=LZ hg0;obtain⟨hok,hnd,_⟩:=K3 ht0;have hS:=K8 H.h0;have hdz:=Xv hd0;obtain⟨okG,XG,hGd⟩:=tg_pick H hok;refine zn3 ?_;have hsz:=Bel.size hB;replace hb2:=hb2.tr0 s6;have z2:=hb2.lt;replace hb3:=hb3.tr0 s6;have z3:=hb3.lt;have z4:=hb4.lt;have z6:=hb6.lt;refine yz [8,9,18,19,20,21,22,23,24,25,26,27] (fun g w'=>∃ (b8:Nat) (AZ:Option Addr) (cZ lz hz:Nat),g 8= .pointer (some ⟨b8,0,none⟩)∧g 9= .bool okG∧Bel w w'∧Blk w' b8 30 #[.slice AZ (List.length XG) cZ]∧Blk w' b4 30 #[.slice none 0 0]∧Blk w' b6 36 #[.int .i64 0,.int .i64 0]∧Kept lz hz w' (fun wq=>NodesIn wq AZ XG)∧w.heap.size≤lz∧b4 < lz∧b6 < lz∧b4 < b8∧b6 < b8∧TgR l rs xs t okG XG) ?_ (fun g4 w9 hI=>?_)
 ·refine R6 11 [19,20,21,22,23,24,25,18,26,27,8] [9] (fun ix=>bif Nat.beq ix 7 then 6 else bif Nat.beq ix 8 then 6 else ix) (fun ix v la ha wv=>match ix with | 0=>v= .agg #[.slice AT l.length ct,.slice AF fs.length cf,.slice AR rs.length cr,.slice AX xs.length cx,.slice AS st.length cst] | 1=>v= .pointer (some ⟨b2,0,none⟩) | 2=>v= .pointer (some ⟨b2,0,none⟩) | 3=>v= .slice AT l.length ct | 4=>∃ bu bd,v=OQ l.length bu bd∧TableIn wv l bu bd | 5=>v= .agg #[.int .i64 (t).rule,.int .i64 (t).lex,.slice A (t).kids.length c] | 6=>∃ AZ cZ,v= .tuple #[.agg #[.slice AZ (List.length XG) cZ],.bool okG]∧Kept la ha wv (fun wq=>NodesIn wq AZ XG)∧w7.heap.size≤la∧TgR l rs xs t okG XG | 7=>∃ AZ cZ,v= .tuple #[.agg #[.slice AZ (List.length XG) cZ],.bool okG]∧Kept la ha wv (fun wq=>NodesIn wq AZ XG)∧w7.heap.size≤la∧TgR l rs xs t okG XG | 8=>∃ AZ cZ,v= .agg #[.slice AZ (List.length XG) cZ]∧Kept la ha wv (fun wq=>NodesIn wq AZ XG)∧w7.heap.size≤la∧TgR l rs xs t okG XG | 9=>v= .bool okG | 10=>∃ b,v= .pointer (some ⟨b,0,none⟩)∧w7.heap.size≤b∧Blk wv b 30 #[.slice none 0 0]∧la≤b∧b < ha | _=>True) kR kR kR kR ?_ ?_ ?_
  ·intro ix v la ha wv wv2 h hle s11
   match ix,h with
   | 0,h=>exact h
   | 1,h=>exact h
   | 2,h=>exact h
   | 3,h=>exact h
   | 4,h=>
    obtain⟨bu,bd,e23,hTI⟩:=(show ∃ bu bd,v=OQ l.length bu bd∧TableIn wv l bu bd from h)
    exact⟨bu,bd,e23,hTI.mono s11.bel⟩
   | 5,h=>exact h
   | 6,h=>
    obtain⟨AZ,cZ,e25,hNZ,hla,hTG⟩:=(show ∃ AZ cZ,v= .tuple #[.agg #[.slice AZ (List.length XG) cZ],.bool okG]∧Kept la ha wv (fun wq=>NodesIn wq AZ XG)∧w7.heap.size≤la∧TgR l rs xs t okG XG from h)
    exact⟨AZ,cZ,e25,hNZ.tr0 s11,hla,hTG⟩
   | 7,h=>
    obtain⟨AZ7,cZ7,e18,hN7,hla7,hTG7⟩:=(show ∃ AZ cZ,v= .tuple #[.agg #[.slice AZ (List.length XG) cZ],.bool okG]∧Kept la ha wv (fun wq=>NodesIn wq AZ XG)∧w7.heap.size≤la∧TgR l rs xs t okG XG from h)
    exact⟨AZ7,cZ7,e18,hN7.tr0 s11,hla7,hTG7⟩
   | 8,h=>
    obtain⟨AZ,cZ,e26,hNZ,hla,hTG⟩:=(show ∃ AZ cZ,v= .agg #[.slice AZ (List.length XG) cZ]∧Kept la ha wv (fun wq=>NodesIn wq AZ XG)∧w7.heap.size≤la∧TgR l rs xs t okG XG from h)
    exact⟨AZ,cZ,e26,hNZ.tr0 s11,hla,hTG⟩
   | 9,h=>exact h
   | 10,h=>
    obtain⟨b8,e8,lo8,hb8,la8,ha8⟩:=(show ∃ b,v= .pointer (some ⟨b,0,none⟩)∧w7.heap.size≤b∧Blk wv b 30 #[.slice none 0 0]∧la≤b∧b < ha from h)
    exact⟨b8,e8,lo8,hb8.tr0 s11,la8,ha8⟩
   | _ + 11,h=>exact trivial
  ·intro ix o hix hoq gg wx lo hi s12 hd hdis
   match ix,hix,hoq with
   | 0,_,hoq=>
    cases sI hoq;refine gdA ?_;replace hb2:=hb2.tr0 s12;refine qQ (qW U32 rfl rfl hb2.range0 sz32) ⟨Same.refl _ _,?_⟩;exact rfl
   | 1,_,hoq=>
    cases sI hoq;refine gdA ?_;refine qQ (o7 U32 K4 dE rfl rfl rfl) ⟨Same.refl _ _,?_⟩;exact rfl
   | 2,_,hoq=>
    cases sI hoq;have d1:gg 20= .pointer (some ⟨b2,0,none⟩):=(hd 1 (zj kR)).1;have e20:=d1;refine gdA (zq 20 _ e20 nu ?_);refine qQ (o7 U25 S9 dE rfl rfl rfl) ⟨Same.refl _ _,?_⟩;exact rfl
   | 3,_,hoq=>
    cases sI hoq;have d2:gg 21= .pointer (some ⟨b2,0,none⟩):=(hd 2 (zj kR)).1;have e21:=d2;refine gdA (zq 21 _ e21 nu ?_);replace hb2:=hb2.tr0 s12;refine qQ (qK (v:= .slice _ _ _) U22 rfl rfl (hb2.cell rfl)) ⟨Same.refl _ _,?_⟩;exact rfl
   | 4,_,hoq=>
    cases sI hoq;have d3:gg 22= .slice AT l.length ct:=(hd 3 (zj kR)).1;have e22:=d3;refine gdA (zq 22 _ e22 nu ?_);replace hB:=hB.tr0 s12;refine yw Oz (XZ AT ct l wx (hTy.mono hB) hS.vt hS.le) rfl (fun e' w2 hr=>?_);obtain⟨bu,bd,rfl,hTI,s13⟩:=hr;exact⟨_,rfl,sB s13,⟨_,_,rfl,hTI⟩⟩
   | 5,_,hoq=>
    cases sI hoq;refine gdA ?_;replace hb3:=hb3.tr0 s12;refine qQ (qW U56 rfl rfl hb3.range0 S7) ⟨Same.refl _ _,?_⟩;exact rfl
   | 6,_,hoq=>
    cases sI hoq;have hs0:=s12;have d0:gg 19= .agg #[.slice AT l.length ct,.slice AF fs.length cf,.slice AR rs.length cr,.slice AX xs.length cx,.slice AS st.length cst]:=(hd 0 (zj kR)).1;have e19:=d0;have d4:∃ bu bd,gg 23=OQ l.length bu bd∧TableIn wx l bu bd:=(hd 4 (zj kR)).1;obtain⟨bu,bd,e23,hTI⟩:=d4;have d5:gg 24= .agg #[.int .i64 (t).rule,.int .i64 (t).lex,.slice A (t).kids.length c]:=(hd 5 (zj kR)).1;have e24:=d5;refine gdA (zq 19 _ e19 nu (zq 23 _ e23 (by simp [undef,OQ]) (zq 24 _ e24 nu ?_)));replace hB:=hB.tr0 s12;refine yw fn41 (gof_any H t A c wx (hTab.mono hB) hTI (hRu.mono hB) (hLx.mono hB) (hT.mono hB) hok) rfl (fun e' w2 hr=>?_);obtain⟨⟨A9,X9,ok9,c9,rfl,hN9,hG9⟩,s14⟩:=hr;exact⟨_,rfl,sB s14,(by obtain⟨e1,e2,e3⟩:=hGd ok9 X9 hG9;subst e1 e2;exact⟨A9,c9,rfl,jQ hN9,hs0.size,e3⟩)⟩
   | 7,_,hoq=>
    cases sI hoq;have d6:∃ AZ cZ,gg 25= .tuple #[.agg #[.slice AZ (List.length XG) cZ],.bool okG]∧Kept (lo 6) (hi 6) wx (fun wq=>NodesIn wq AZ XG)∧w7.heap.size≤(lo 6)∧TgR l rs xs t okG XG:=(hd 6 (zj kR)).1;obtain⟨AZ,cZ,e25,hNZ,hla,hTG⟩:=d6;refine gdA (zq 25 _ e25 nu ?_);refine qQ (x5 (v:= .tuple _) rfl) ⟨Same.refl _ _,?_⟩;exact⟨_,_,rfl,hNZ,hla,hTG⟩
   | 8,_,hoq=>
    cases sI hoq;have d7:∃ AZ cZ,gg 18= .tuple #[.agg #[.slice AZ (List.length XG) cZ],.bool okG]∧Kept (lo 6) (hi 6) wx (fun wq=>NodesIn wq AZ XG)∧w7.heap.size≤(lo 6)∧TgR l rs xs t okG XG:=(hd 7 (zj kR)).1;obtain⟨AZ7,cZ7,e18,hN7,hla7,hTG7⟩:=d7;refine gdA (zq 18 _ e18 nu ?_);refine qQ (yk (v:=_) rfl rfl) ⟨Same.refl _ _,?_⟩;exact⟨_,_,rfl,hN7,hla7,hTG7⟩
   | 9,_,hoq=>
    cases sI hoq;have d7:∃ AZ cZ,gg 18= .tuple #[.agg #[.slice AZ (List.length XG) cZ],.bool okG]∧Kept (lo 6) (hi 6) wx (fun wq=>NodesIn wq AZ XG)∧w7.heap.size≤(lo 6)∧TgR l rs xs t okG XG:=(hd 7 (zj kR)).1;obtain⟨AZ7,cZ7,e18,hN7,hla7,hTG7⟩:=d7;refine gdA (zq 18 _ e18 nu ?_);refine qQ (yk (v:=_) rfl rfl) ⟨Same.refl _ _,?_⟩;exact rfl
   | 10,_,hoq=>
    cases sI hoq;have hs0:=s12;refine gdA ?_;refine vK (fun ops Q K=>?_);refine qw (cs:=#[.slice none 0 0]) E1 rfl (fun b8 w10 hb8 s15 hr=>?_);exact K _ _ ⟨s15,⟨_,rfl,nLT hs0.size hr,hb8,hr,hb8.lt⟩⟩
   | _ + 11,hix,_=>exact absurd hix om
  refine⟨?_,?_,trivial⟩
  ·intro x gg w11 lo hi s16 hR hdis;have d7:∃ AZ cZ,gg 18= .tuple #[.agg #[.slice AZ (List.length XG) cZ],.bool okG]∧Kept (lo 6) (hi 6) w11 (fun wq=>NodesIn wq AZ XG)∧w7.heap.size≤(lo 6)∧TgR l rs xs t okG XG:=(hR 7 dE dE).1;obtain⟨AZ7,cZ7,e18,hN7,hla7,hTG7⟩:=d7;have d8:∃ AZ cZ,gg 26= .agg #[.slice AZ (List.length XG) cZ]∧Kept (lo 6) (hi 6) w11 (fun wq=>NodesIn wq AZ XG)∧w7.heap.size≤(lo 6)∧TgR l rs xs t okG XG:=(hR 8 dE dE).1;obtain⟨AZ,cZ,e26,hNZ,hla,hTG⟩:=d8;have d9:gg 27= .bool okG:=(hR 9 dE dE).1;have e27:=d9;have d10:∃ b,gg 8= .pointer (some ⟨b,0,none⟩)∧w7.heap.size≤b∧Blk w11 b 30 #[.slice none 0 0]∧(lo 10)≤b∧b < (hi 10):=(hR 10 dE dE).1;obtain⟨b8,e8,lo8,hb8,la8,ha8⟩:=d10;have dis_6_10:(hi 6)≤(lo 10)∨(hi 10)≤(lo 6):=hdis 6 10 dE dE dE dE dE;have:=nLL z2 lo8;have:=nLL z3 lo8;have or_b4_b8:b4 < b8:=nLL z4 lo8;have or_b6_b8:b6 < b8:=nLL z6 lo8;replace lo8:=nLT hsz lo8;have hz4:b4 < (lo 6):=nLL z4 hla;have hz6:b6 < (lo 6):=nLL z6 hla;refine kK 18 (.tuple #[.agg #[.slice AZ7 (List.length XG) cZ7],.bool okG]) e18 nu (kK 26 (.agg #[.slice AZ (List.length XG) cZ]) e26 nu (kK 27 (.bool okG) e27 nu (kK 8 (.pointer (some ⟨b8,0,none⟩)) e8 nu (B4 (k':=2) kR (LQ (listed':=#[true,true,true,true,true,true,true,true,true,true,true,false,false]) kR ?_)))));refine Bz [11] kR rfl ⟨fun o hoq=>?_,trivial⟩;cases sI hoq;refine zk hb8 rfl rfl Z8 rfl zK (fun w12 hq s17=>?_);replace hb8:=hq;refine zW (e_A (listed':=#[true,true,true,true,true,true,true,true,true,true,true,true,false]) (by rfl) (a_tk 12 rfl (fun _=>kQ (v:= .bool _) rfl) (LV kR ?_)));refine e_R ⟨agA,?_⟩;replace hB:=(hB.tr0 s16).tr1 s17 lo8;replace hb4:=(hb4.tr0 s16).tr1 s17 om;replace hb6:=(hb6.tr0 s16).tr1 s17 om;replace hNZ:=hNZ.tr1 s17 om;exact⟨b8,AZ,cZ,_,_,rfl,rfl,hB,hb8,hb4,hb6,hNZ,nLT hsz hla,hz4,hz6,or_b4_b8,or_b6_b8,hTG⟩
  intro x gg w13 lo hi s18 hR hdis;have d7:∃ AZ cZ,gg 18= .tuple #[.agg #[.slice AZ (List.length XG) cZ],.bool okG]∧Kept (lo 6) (hi 6) w13 (fun wq=>NodesIn wq AZ XG)∧w7.heap.size≤(lo 6)∧TgR l rs xs t okG XG:=(hR 7 dE dE).1;obtain⟨AZ7,cZ7,e18,hN7,hla7,hTG7⟩:=d7;have d8:∃ AZ cZ,gg 26= .agg #[.slice AZ (List.length XG) cZ]∧Kept (lo 6) (hi 6) w13 (fun wq=>NodesIn wq AZ XG)∧w7.heap.size≤(lo 6)∧TgR l rs xs t okG XG:=(hR 8 dE dE).1;obtain⟨AZ,cZ,e26,hNZ,hla,hTG⟩:=d8;have d10:∃ b,gg 8= .pointer (some ⟨b,0,none⟩)∧w7.heap.size≤b∧Blk w13 b 30 #[.slice none 0 0]∧(lo 10)≤b∧b < (hi 10):=(hR 10 dE dE).1;obtain⟨b8,e8,lo8,hb8,la8,ha8⟩:=d10;have dis_6_10:(hi 6)≤(lo 10)∨(hi 10)≤(lo 6):=hdis 6 10 dE dE dE dE dE;have:=nLL z2 lo8;have:=nLL z3 lo8;have or_b4_b8:b4 < b8:=nLL z4 lo8;have or_b6_b8:b6 < b8:=nLL z6 lo8;replace lo8:=nLT hsz lo8;have hz4:b4 < (lo 6):=nLL z4 hla;have hz6:b6 < (lo 6):=nLL z6 hla;refine kK 18 (.tuple #[.agg #[.slice AZ7 (List.length XG) cZ7],.bool okG]) e18 nu (kK 26 (.agg #[.slice AZ (List.length XG) cZ]) e26 nu (kK 8 (.pointer (some ⟨b8,0,none⟩)) e8 nu (B4 (k':=3) kR (LQ (listed':=#[true,true,true,true,true,true,true,true,true,false,true,false,false]) kR (a_tk 9 rfl (fun _=>yk (v:=_) rfl rfl) ?_)))));refine Bz [11] kR rfl ⟨fun o hoq=>?_,trivial⟩;cases sI hoq;refine zk hb8 rfl rfl Z8 rfl zK (fun w14 hq s19=>?_);replace hb8:=hq;refine zW (e_A (listed':=#[true,true,true,true,true,true,true,true,true,true,true,true,false]) (by rfl) (a_tk 12 rfl (fun _=>kQ (v:= .bool _) rfl) (LV kR ?_)));refine e_R ⟨agA,?_⟩;replace hB:=(hB.tr0 s18).tr1 s19 lo8;replace hb4:=(hb4.tr0 s18).tr1 s19 om;replace hb6:=(hb6.tr0 s18).tr1 s19 om;replace hNZ:=hNZ.tr1 s19 om;exact⟨b8,AZ,cZ,_,_,rfl,rfl,hB,hb8,hb4,hb6,hNZ,nLT hsz hla,hz4,hz6,or_b4_b8,or_b6_b8,hTG⟩
 obtain⟨b8,AZ,cZ,lz,hz,h8,h9,hB,hb8,hb4,hb6,hNZ,hlz,hz4,hz6,or_b4_b8,or_b6_b8,hTG⟩:=hI;refine oz 8 _ h8 nu (oz 9 _ h9 nu (zn5 ?_));refine wl (uJ (vs:=#[]) (cs:=#[.int .i64 0,.int .i64 0]) (by simp) kR) ?_;refine zk hb4 rfl rfl Z8 rfl zK (fun w15 hq s20=>?_);replace hb4:=hq;refine waB rfl ?_;replace hb6:=hb6.tr1 s20 om;refine zk hb6 rfl rfl zz rfl zK (fun w16 hq s21=>?_);replace hb6:=hq;refine zn3 ?_;replace hb4:=hb4.tr1 s21 om;refine Pq (.inl rfl) rfl (zw U30 rfl rfl hb4.range0 Z8) rfl (zw U36 rfl rfl hb6.range0 zz) ?_;replace hB:=(hB.tr1 s20 lo4).tr1 s21 lo6;replace hNZ:=(hNZ.tr1 s20 om).tr1 s21 om;exact⟨⟨AZ,XG,okG,cZ,by rw [hdz];rfl,QZ hNZ hlz,.inr ⟨hdz,hTG⟩⟩,hB⟩
end Go.Proofs.YtdgnllfbooklcaaDoor
namespace Go.Proofs.YtdgnllfbooklcaaDoor
open Go.RowKit
theorem wsl_snoc (A:Option Addr) (cap:Nat) (xs:List ByteArray) (z:ByteArray):Value.slice A (xs.length + 1) cap=Value.slice A (xs ++ [z]).length cap:=by rw [List.length_append];rfl
theorem G6 {w:World} {base:Nat} {A:Option Addr} {cap:Nat} {xs:List ByteArray} {z:ByteArray} (h:Own w base 9 1 A (xs.length + 1) cap (xs.map Value.string ++ [Value.string z])):Own w base 9 1 A (xs ++ [z]).length cap ((xs ++ [z]).map Value.string):=by
  rw [List.length_append,List.map_append];exact h
theorem own_strs {w:World} {base:Nat} {A:Option Addr} {cap:Nat} {xs:List ByteArray} (h:Own w base 9 1 A xs.length cap (xs.map Value.string)):StrsIn w A xs:=
  ⟨h.max,fun hn=>by
    obtain⟨g,e,hb,hg,hc⟩:=h.cell (by simpa using hn)
    refine⟨g,0,e,hg,fun k hk=>?_⟩
    have:=hc k (.string xs[k]) (by simp [hk])
    simpa using this⟩
theorem own_strf {w:World} {base B:Nat} {A:Option Addr} {cap:Nat} {xs:List ByteArray} (h:Own w base 9 1 A xs.length cap (xs.map Value.string)) (hb:B≤base):∀ w2,FrSame B w w2→StrsIn w2 A xs:=fun w2 hf=>by
  refine⟨h.max,fun hn=>?_⟩
  obtain⟨g,e,hb2,hg,hc⟩:=h.cell (by simpa using hn)
  refine⟨g,0,e,nLL hg hf.1,fun k hk=>?_⟩
  have h1:=hc k (.string xs[k]) (by simp [hk])
  have h2:=hf.2 g (nLT hb hb2) hg
  simp only [World.cell?,h2] at h1 ⊢
  simpa using h1
theorem T5 {ks:List Dt} {j:Nat} (hj:j < ks.length):Qx (ks.drop j)=ndT ks[j] + Qx (ks.drop (j + 1)):=by
  rw [List.drop_eq_getElem_cons hj,Qx]
def WdR (bL base:Nat) (As:Option Addr) (zs:List ByteArray) (w w':World):Prop:=∃ A' cap',Blk w' bL 61 #[.slice A' (zs).length cap']∧Own w' base 9 1 A' (zs).length cap' ((zs).map Value.string)∧ChG (fun g=>g=bL∨g ∈ aL As) w w'∧(aL A'=aL As∨∀ g ∈ aL A',w.heap.size≤g)
theorem fn42:zZ Tryd.prog 42=true:=by kernel_rfl
theorem fn43:zZ Tryd.prog 43=true:=by kernel_rfl
theorem in9:(Tryd.prog.info? 9).map (fun i=>(i.zero,i.size,i.bytes))=some (some (.string ⟨#[]⟩),1,16):=by kernel_rfl
theorem sz61:(Tryd.prog.info? 61).map (·.size)=some 1:=by kernel_rfl
theorem seq_any (A B:Option Addr) (c d:Nat) (xs ys:List ByteArray) (w:World) (hX:StrsIn w A xs) (hY:StrsIn w B ys):Calls Tryd.prog 14 #[.slice A xs.length c,.slice B ys.length d] w fun e w'=>e= .returned (.bool (decide (xs=ys)))∧Bel w w':=by
 have hmx:=hX.1;unfold vz at hmx;refine enter Tryd.func14 Tryd.ntmps14 rfl (Nat.le_of_ble_eq_true rfl) ?_;have hB:Bel w w:=Below.refl _ _;refine Ow ?_;refine zJ rfl (fun c10=>?_) (fun c10=>?_)
 ·have hne:¬xs=ys:=fun e=>c10 (by rw [e])
  refine zn8 ?_;exact⟨jx (decide_eq_false hne),hB⟩
 have hle:xs.length=ys.length:=by omega
 refine gj ?_;refine qJ [4,5,13,14,15,16,17,18,19,20,21,22,23,24,25] (fun m g w'=>∃ k:Nat,k≤xs.length∧m=xs.length - k∧g 13= .int .i64 k∧Bel w w'∧(∀ j (hj:j < xs.length) (hj2:j < ys.length),j < k→xs[j]=ys[j])) (xs.length) ?_ (fun m g4 w1 hI=>?_)
 ·exact⟨0,Nat.zero_le _,rfl,rfl,hB,fun j _ _ h=>by omega⟩
 obtain⟨k,hk,hm,h13,hB,hall⟩:=hI;refine zQ 13 _ h13 nu (zn6 ?_);refine zJ rfl (fun c14=>?_) (fun c14=>?_)
 ·have hlt:k < xs.length:=by omega
  have hlt2:k < ys.length:=by omega
  obtain⟨xb,xo,rfl,hxb,hxc⟩:=hX.at_ hlt;obtain⟨yb,yo,rfl,hyb,hyc⟩:=hY.at_ hlt2;refine gj ?_;refine gK kR kR (fun w2 s1=>?_);refine zn3 ?_;replace hB:=hB.tr0 s1;refine ws (qK (v:= .string _) U9 rfl rfl (hB.cell hxb hxc)) (zn3 ?_);refine ws (qK (v:= .string _) U9 rfl rfl (hB.cell hyb hyc)) (zn1 ?_);refine u4 (e_S ?_);refine zJ rfl (fun c24=>?_) (fun c24=>?_)
  ·have hne:¬xs=ys:=fun e=>c24 (by simp only [e])
   refine vQ ?_;exact⟨jx (decide_eq_false hne),hB⟩
  refine zn7 ?_;refine yq (xs.length - (k + 1)) om agA ?_
  exact⟨k + 1,by omega,rfl,rfl,hB,fun j hj hj2 h=>by
    by_cases e:j=k
    · subst e;exact Decidable.not_not.1 c24
    · exact hall j hj hj2 om⟩
 have heq:xs=ys:=List.ext_getElem hle (fun j h1 h2=>hall j h1 h2 om);refine vQ ?_;exact⟨jx (decide_eq_true heq),hB⟩
set_option maxHeartbeats 1000000 in
theorem wd_one {AT AF AR AX AS:Option Addr} {ct cf cr cx cst:Nat} {l:List Ty} {fs:List Ft} {rs:List Rl} {xs:List Lx} {st:List Nd} {w0:World} {bL bG base:Nat} (hLx:LexesIn w0 AX xs) (l0L:w0.heap.size≤bL) (l0G:w0.heap.size≤bG) (hne:bL≠bG) (hlL:bL < base) (hlG:bG < base) {xi:Nat} (hxi:xi < xs.length) {As:Option Addr} {cap:Nat} {ys:List ByteArray} {w:World} (hn:ys.length≤400) (hbase:base≤w.heap.size) (hB:Bel w0 w) (hbL:Blk w bL 61 #[.slice As (ys).length cap]) (hbG:Blk w bG 32 #[.slice AT l.length ct,.slice AF fs.length cf,.slice AR rs.length cr,.slice AX xs.length cx,.slice AS st.length cst]) (ho:Own w base 9 1 As (ys).length cap ((ys).map Value.string)):Calls Tryd.prog 43 #[.int .i64 (xi:Nat),.pointer (some ⟨bL,0,none⟩),.pointer (some ⟨bG,0,none⟩)] w fun e w'=>e= .returned (.tuple #[])∧WdR bL base As (ys ++ [(xs[xi]).word]) w w':=by
 have hxx:=hLx.1;unfold vz at hxx;have l0B:w0.heap.size≤base:=by omega
 have hC:ChG (fun g=>g=bL∨g ∈ aL As) w w:=ChG.refl _ _;obtain⟨xb,xo,Gk,cgk,Sk,csk,Bk,mk,rfl,hxb,_,hxr0,_,_,_⟩:=hLx.at_ (Below.refl _ _) hxi;have zL:=hbL.lt;have zG:=hbG.lt;refine enter Tryd.func43 Tryd.ntmps43 rfl (Nat.le_of_ble_eq_true rfl) ?_;refine uj 8 [4,5,6,7,8,9,10,11] (fun _=>false) (fun ix v wv=>match ix with | 0=>v= .slice As ys.length cap | 1=>v= .pointer (some ⟨bG,3,none⟩) | 2=>v= .slice (some ⟨xb,xo,none⟩) xs.length cx | 3=>v= .int .i64 ((xi:Nat):Int) | 4=>v= .pointer (some ⟨xb,xo + xi * 9,none⟩) | 5=>v= .pointer (some ⟨xb,xo + xi * 9 + 0,none⟩) | 6=>v= .string (xs[xi]).word | 7=>∃ b,v= .slice (some ⟨b,0,none⟩) 1 1∧w.heap.size≤b∧Blk wv b 9 #[.string (xs[xi]).word] | _=>True) kR kR ?_ ?_ ?_
 ·intro ix v wv wv2 h s1
  match ix,h with
  | 0,h=>exact h
  | 1,h=>exact h
  | 2,h=>exact h
  | 3,h=>exact h
  | 4,h=>exact h
  | 5,h=>exact h
  | 6,h=>exact h
  | 7,h=>
   obtain⟨b11,e11,lo11,hb11⟩:=h;exact⟨b11,e11,lo11,hb11.tr0 s1⟩
  | _ + 8,h=>exact trivial
 ·intro ix o hix hoq gg wx s2 hd hdis
  match ix,hix,hoq with
  | 0,_,hoq=>
   cases sI hoq;replace hbL:=hbL.tr0 s2;exact oVq (qK (v:= .slice _ _ _) U61 rfl rfl (hbL.cell rfl)) rfl
  | 1,_,hoq=>
   cases sI hoq;exact oVq (o7 U32 Ex dE rfl rfl rfl) rfl
  | 2,_,hoq=>
   cases sI hoq;refine zq 5 _ (hd 1 (zj kR)) nu ?_;replace hbG:=hbG.tr0 s2;exact oVq (qK (v:= .slice _ _ _) U27 rfl rfl (hbG.cell rfl)) rfl
  | 3,_,hoq=>
   cases sI hoq;exact oVq (x5 (v:= .int _ _) rfl) rfl
  | 4,_,hoq=>
   cases sI hoq;refine zq 6 _ (hd 2 (zj kR)) nu (zq 7 _ (hd 3 (zj kR)) nu ?_);exact oVq (yJ (i:=xi) U27 S8 rfl rfl hxi rfl) rfl
  | 5,_,hoq=>
   cases sI hoq;refine zq 8 _ (hd 4 (zj kR)) nu ?_;exact oVq (o7 U46 C1 dE rfl rfl rfl) rfl
  | 6,_,hoq=>
   cases sI hoq;refine zq 9 _ (hd 5 (zj kR)) nu ?_;replace hB:=hB.tr0 s2;exact oVq (qK (v:= .string _) U9 rfl rfl (hB.cell hxb (hxr0 0 _ rfl))) rfl
  | 7,_,hoq=>
   cases sI hoq;have hs0:=s2;refine zq 10 _ (hd 6 (zj kR)) nu ?_;refine vK (fun ops Q K=>?_);refine qZ (cs:=#[_]) [(0,.string _)] rfl U61 C1 ze9 dE dE kR rfl (fun b11 w1 hb11 s3 hr=>?_);exact K _ _ ⟨s3,⟨_,rfl,nLT hs0.size hr,hb11⟩,fRq hr hb11.lt⟩
  | _ + 8,hix,_=>exact absurd hix om
 intro gg w2 s4 hR hdis;replace hC:=hC.st s4 (by simp);obtain⟨b11,e11,lo11,hb11⟩:=hR 7 dE;have hbs:base≤w2.heap.size:=nLT hbase hC.size;have hszA:=hC.size;replace ho:=ho.tr0 s4;have zo:=fun g hg=>(ho.lt g hg).2
 refine qY 4 _ (hR 0 dE) nu (qY 11 _ e11 nu ?_);refine j9 U61 in9 rfl dE ho hb11 rfl rfl rfl zK dE om om hbs (fun g12 cap12 w3 ho12 s5 hg=>?_);replace hbL:=hbL.tr0 s4;have ne_ho12_bL:g12≠bL:=fun e=>by
  have hl:=hbL.lt;rcases hg with hg | hg
  · have h1:=ho.lt g12 (by rw [hg];exact List.mem_singleton.2 rfl)
    (try have:=or_ho_bL g12 (by rw [hg];exact List.mem_singleton.2 rfl));omega
  · omega
 have ne_ho12_bG:g12≠bG:=fun e=>by
  replace hbG:=hbG.tr0 s4;have hl:=hbG.lt;rcases hg with hg | hg
  · have h1:=ho.lt g12 (by rw [hg];exact List.mem_singleton.2 rfl)
    (try have:=or_ho_bG g12 (by rw [hg];exact List.mem_singleton.2 rfl));omega
  · omega
 replace hbL:=hbL.tr s5 (fun hx=>by have:=(ho.lt _ hx).1;(try have:=or_ho_bL _ hx);omega);replace hC:=hC.st s5 (fun g hg=> .inl (.inr hg));refine xZ (v:= .slice _ _ _) hbL rfl rfl sz61 (by first | decide | simp) rfl rfl (fun w4 hq s6=>?_);replace hC:=hC.st s6 (fun g hg=>by rw [List.mem_singleton.1 hg];first | exact .inl (.inl rfl) | exact .inr or_hC_bL);replace ho12:=ho12.tr1 s6 (fun g hg=>by have:=(ho12.lt g hg).1;(try have:=or_ho12_bL g hg);(try simp only [aL] at hg);(try simp only [List.mem_singleton] at hg);omega);replace hbL:=hq;refine zW (fin0 (.inr rfl) rfl  ?_);refine⟨rfl,some ⟨g12,0,none⟩,cap12,(by have q:=hbL;rw [show _=_ from wsl_snoc _ _ ys ((xs[xi]).word)] at q;exact q),G6 ho12,hC,?_⟩;rcases hg with hg | hg
 · exact .inl hg.symm
 · exact .inr (fun g hgm=>by cases List.mem_singleton.1 hgm;exact nLT hszA hg)
set_option maxRecDepth 100000 in
set_option maxHeartbeats 2000000 in
theorem lv_step {AT AF AR AX AS:Option Addr} {ct cf cr cx cst:Nat} {l:List Ty} {fs:List Ft} {rs:List Rl} {xs:List Lx} {st:List Nd} {w0:World} {bL bG base:Nat} (hLx:LexesIn w0 AX xs) (l0L:w0.heap.size≤bL) (l0G:w0.heap.size≤bG) (hne:bL≠bG) (hlL:bL < base) (hlG:bG < base) {t:Dt} {A As:Option Addr} {c cap:Nat} {ys:List ByteArray} {w:World} (hT:TresIn w0 A t.kids) (hok:OkT rs xs.length t) (IH:∀ x ∈ t.kids,∀ (A2:Option Addr) (c2:Nat) (zs:List ByteArray) (A3:Option Addr) (cap3:Nat) (w2:World),TresIn w0 A2 x.kids→OkT rs xs.length x→zs.length + ndT x≤400→base≤w2.heap.size→Bel w0 w2→Blk w2 bL 61 #[.slice A3 (zs).length cap3]→Blk w2 bG 32 #[.slice AT l.length ct,.slice AF fs.length cf,.slice AR rs.length cr,.slice AX xs.length cx,.slice AS st.length cst]→Own w2 base 9 1 A3 (zs).length cap3 ((zs).map Value.string)→Calls Tryd.prog 42 #[.agg #[.int .i64 (x).rule,.int .i64 (x).lex,.slice A2 (x).kids.length c2],.func (.func 43) #[] #[.pointer (some ⟨bL,0,none⟩),.pointer (some ⟨bG,0,none⟩)]] w2 fun e w'=>e= .returned (.tuple #[])∧WdR bL base A3 (zs ++ wdT xs x) w2 w') (hn:ys.length + ndT t≤400) (hbase:base≤w.heap.size) (hB:Bel w0 w) (hbL:Blk w bL 61 #[.slice As (ys).length cap]) (hbG:Blk w bG 32 #[.slice AT l.length ct,.slice AF fs.length cf,.slice AR rs.length cr,.slice AX xs.length cx,.slice AS st.length cst]) (ho:Own w base 9 1 As (ys).length cap ((ys).map Value.string)):Calls Tryd.prog 42 #[.agg #[.int .i64 (t).rule,.int .i64 (t).lex,.slice A (t).kids.length c],.func (.func 43) #[] #[.pointer (some ⟨bL,0,none⟩),.pointer (some ⟨bG,0,none⟩)]] w fun e w'=>e= .returned (.tuple #[])∧WdR bL base As (ys ++ wdT xs t) w w':=by
 have hmx:=hT.le;unfold vz at hmx;have l0B:w0.heap.size≤base:=by omega
 have ltL:=hbL.lt;have ltG:=hbG.lt;obtain⟨hk1,hk2⟩:=hok.at_;have hC:ChG (fun g=>g=bL∨g ∈ aL As) w w:=ChG.refl _ _;have hnd:=EK t;refine enter Tryd.func42 Tryd.ntmps42 rfl (Nat.le_of_ble_eq_true rfl) (zn2 ?_);refine xz (v:= .agg #[_,_,_]) (cs:=#[_,_,_]) rfl rfl (fun b2 w1 hb2 s1 hr=>?_);have:=nLL hbL.lt hr;have:=nLL hbG.lt hr;have or_ho_b2:=fun g hg=>nLL (ho.lt g hg).2 hr
 have or_hC_b2:=(nLT hC.size hr)
 have lo2:=nLT (Bel.size hB) hr;replace hC:=hC.st s1 (by simp);refine jy ?_;have hA:aL As=aL As∨∀ g ∈ aL As,w.heap.size≤g:= .inl rfl;have hn2:∀ g ∈ aL As,g≠b2:=fun g hg e=>by have:=or_ho_b2 g hg;omega
 replace hB:=hB.tr0 s1;replace hbL:=hbL.tr0 s1;replace hbG:=hbG.tr0 s1;replace ho:=ho.tr0 s1;refine yz [9,10,11,12] (fun g w'=>∃ A1 cap1,Bel w0 w'∧Blk w' bL 61 #[.slice A1 (ys ++ (if t.rule < 0 then [P7 xs t.lex] else [])).length cap1]∧Blk w' bG 32 #[.slice AT l.length ct,.slice AF fs.length cf,.slice AR rs.length cr,.slice AX xs.length cx,.slice AS st.length cst]∧Blk w' b2 56 #[.int .i64 t.rule,.int .i64 t.lex,.slice A t.kids.length c]∧Own w' base 9 1 A1 (ys ++ (if t.rule < 0 then [P7 xs t.lex] else [])).length cap1 ((ys ++ (if t.rule < 0 then [P7 xs t.lex] else [])).map Value.string)∧ChG (fun g=>g=bL∨g ∈ aL As) w w'∧(aL A1=aL As∨∀ g ∈ aL A1,w.heap.size≤g)∧∀ g ∈ aL A1,g≠b2) ?_ (fun gx1 w2 hI=>?_)
 ·refine zJ rfl (fun c8=>?_) (fun c8=>?_)
  ·obtain⟨_,q1,q2,_⟩:=KY hk1 c8;obtain⟨xi,hxi⟩:=Int.eq_ofNat_of_zero_le q1;have hxil:xi < xs.length:=by omega
   have hhd:(if t.rule < 0 then [P7 xs t.lex] else [])= [(xs[xi]).word]:=(if_pos c8).trans (congrArg (fun z=>[z]) (lxWd_at hxil hxi));refine zn3 ?_;refine wl (qK (v:= .int .i64 ((xi:Nat):Int)) U3 rfl rfl (by rw [← hxi];exact hb2.cell rfl)) ?_;refine xv rfl fn43 (wd_one (AT:=AT) (AF:=AF) (AR:=AR) (AX:=AX) (AS:=AS) (ct:=ct) (cf:=cf) (cr:=cr) (cx:=cx) (cst:=cst) (l:=l) (fs:=fs) (rs:=rs) (xs:=xs) (st:=st) hLx l0L l0G hne hlL hlG hxil om (nLT hbase hC.size) hB hbL hbG ho) rfl rfl (fun e' w3 hr=>?_);obtain⟨rfl,A3,cap3,hbL2,ho2,hC2,hA2⟩:=hr;have hsz5:=hC.size;have hb2l:=hb2.lt
   replace hB:=hB.chG hC2 (fun g hg=>by
     rcases(show g=bL∨g ∈ aL As from hg) with e | e
     · rw [e];exact l0L
     · exact nLT l0B (ho.lt g e).1)
   replace hbG:=hbG.chG hC2 (fun hx=>by
     rcases(show bG=bL∨bG ∈ aL As from hx) with e | e
     · exact hne e.symm
     · have:=(ho.lt _ e).1;omega)
   replace hb2:=hb2.chG hC2 (fun hx=>by
     rcases(show b2=bL∨b2 ∈ aL As from hx) with e | e
     · omega
     · exact hn2 _ e rfl)
   replace hC:=hC.trans hC2 (fun g hg=>by
     rcases(show g=bL∨g ∈ aL As from hg) with e | e
     · exact .inl (.inl e)
     · rcases hA with ha | ha
       · exact .inl (.inr (ha ▸ e))
       · exact .inr (ha g e))
   have hn4:∀ g ∈ aL A3,g≠b2:=fun g hg=>by
     rcases hA2 with ha | ha
     · exact hn2 g (ha ▸ hg)
     · have:=ha g hg;omega
   have hA3:aL A3=aL As∨∀ g ∈ aL A3,w.heap.size≤g:=by
     rcases hA2 with ha | ha
     · rw [ha];exact hA
     · exact .inr (fun g hg=>nLT hsz5 (ha g hg))
   replace ho:=ho2;replace hbL:=hbL2;refine⟨_,rfl,?_⟩;refine zW ?_;refine e_R ⟨agA,?_⟩
   first
   | exact⟨A3,cap3,hB,(by rw [hhd];exact hbL),hbG,hb2,(by rw [hhd];exact ho),hC,hA3,hn4⟩
   | exact⟨As,cap,hB,(by rw [hhd,List.append_nil];exact hbL),hbG,hb2,(by rw [hhd,List.append_nil];exact ho),hC,hA,hn2⟩
  have hhd:(if t.rule < 0 then [P7 xs t.lex] else [])= []:=if_neg c8;refine B6 ?_;refine e_R ⟨agA,?_⟩
  first
  | exact⟨A3,cap3,hB,(by rw [hhd];exact hbL),hbG,hb2,(by rw [hhd];exact ho),hC,hA3,hn4⟩
  | exact⟨As,cap,hB,(by rw [hhd,List.append_nil];exact hbL),hbG,hb2,(by rw [hhd,List.append_nil];exact ho),hC,hA,hn2⟩
 obtain⟨A1,cap1,hB,hbL,hbG,hb2,ho,hC,hA,hn2⟩:=hI;refine jy ?_;refine qJ [5,16,17,18,19,20,21,22,23] (fun m g w'=>∃ (j:Nat) (zs:List ByteArray) (A2:Option Addr) (cap2:Nat),j≤t.kids.length∧m=t.kids.length - j∧g 16= .int .i64 j∧ys ++ wdT xs t=zs ++ Iy xs (t.kids.drop j)∧zs.length + Qx (t.kids.drop j)≤400∧Bel w0 w'∧Blk w' bL 61 #[.slice A2 (zs).length cap2]∧Blk w' bG 32 #[.slice AT l.length ct,.slice AF fs.length cf,.slice AR rs.length cr,.slice AX xs.length cx,.slice AS st.length cst]∧Blk w' b2 56 #[.int .i64 t.rule,.int .i64 t.lex,.slice A t.kids.length c]∧Own w' base 9 1 A2 (zs).length cap2 ((zs).map Value.string)∧ChG (fun g=>g=bL∨g ∈ aL As) w w'∧(aL A2=aL As∨∀ g ∈ aL A2,w.heap.size≤g)∧∀ g ∈ aL A2,g≠b2) (t.kids.length) ?_ (fun m g4 w4 hI=>?_)
 ·exact⟨0,ys ++ (if t.rule < 0 then [P7 xs t.lex] else []),A1,cap1,Nat.zero_le _,rfl,rfl,by rw [wdT_eq,List.drop_zero,List.append_assoc],by rw [List.length_append,List.drop_zero];(split <;> simp <;> omega),hB,hbL,hbG,hb2,ho,hC,hA,hn2⟩
 obtain⟨j,zs,A2,cap2,hj,hm,h16,hR,hzn,hB,hbL,hbG,hb2,ho,hC,hA,hn2⟩:=hI;refine zQ 16 _ h16 nu (zn6 ?_);refine zJ rfl (fun c17=>?_) (fun c17=>?_)
 ·have hjl:j < t.kids.length:=by omega
  obtain⟨sb,so,A',c',rfl,hsb,hsr,hs2⟩:=hT.at_ hjl;rw [T5 hjl] at hzn;rw [List.drop_eq_getElem_cons hjl,Iy] at hR;have hR3:=hR;rw [← List.append_assoc] at hR3;have hwl:=RZ xs (t.kids[j]'hjl);have hzn3:(zs ++ wdT xs (t.kids[j]'hjl)).length + Qx (t.kids.drop (j + 1))≤400:=by rw [List.length_append];omega
  refine zn8 ?_;refine qw (cs:=#[.int .i64 0,.int .i64 0,.slice none 0 0]) G3 rfl (fun b5 w5 hb5 s2 hr=>?_);have:=nLL hbL.lt hr;have:=nLL hbG.lt hr;have or_hC_b5:=(nLT hC.size hr)
  have:=nLL hb2.lt hr;have or_ho_b5:=fun g hg=>nLL (ho.lt g hg).2 hr
  have lo5:=nLT (Bel.size hB) hr;replace hC:=hC.st s2 (by simp);refine zk hb5 rfl rfl S7 rfl zK (fun w6 hq s3=>?_);replace hC:=hC.st s3 (fun g hg=>by rw [List.mem_singleton.1 hg];first | exact .inl (.inl rfl) | exact .inr or_hC_b5);replace ho:=ho.tr0 s2;replace ho:=ho.tr1 s3 (fun g hg=>by have:=(ho.lt g hg).1;(try have:=or_ho_b5 g hg);(try simp only [aL] at hg);(try simp only [List.mem_singleton] at hg);omega);replace hb5:=hq;refine zn5 ?_;replace hB:=(hB.tr0 s2).tr1 s3 lo5;replace hbL:=(hbL.tr0 s2).tr1 s3 om;replace hbG:=(hbG.tr0 s2).tr1 s3 om;refine zX fn42 (IH _ (List.getElem_mem hjl) A' c' zs A2 cap2 _ hs2 (hk2 _ (List.getElem_mem hjl)) om (nLT hbase hC.size) hB hbL hbG ho) rfl (fun e' w7 hr=>?_);obtain⟨rfl,A3,cap3,hbL2,ho2,hC2,hA2⟩:=hr;have hsz5:=hC.size;replace hb2:=(hb2.tr0 s2).tr1 s3 om;have hb2l:=hb2.lt
  replace hB:=hB.chG hC2 (fun g hg=>by
    rcases(show g=bL∨g ∈ aL A2 from hg) with e | e
    · rw [e];exact l0L
    · exact nLT l0B (ho.lt g e).1)
  replace hbG:=hbG.chG hC2 (fun hx=>by
    rcases(show bG=bL∨bG ∈ aL A2 from hx) with e | e
    · exact hne e.symm
    · have:=(ho.lt _ e).1;omega)
  replace hb2:=hb2.chG hC2 (fun hx=>by
    rcases(show b2=bL∨b2 ∈ aL A2 from hx) with e | e
    · omega
    · exact hn2 _ e rfl)
  replace hC:=hC.trans hC2 (fun g hg=>by
    rcases(show g=bL∨g ∈ aL A2 from hg) with e | e
    · exact .inl (.inl e)
    · rcases hA with ha | ha
      · exact .inl (.inr (ha ▸ e))
      · exact .inr (ha g e))
  have hn4:∀ g ∈ aL A3,g≠b2:=fun g hg=>by
    rcases hA2 with ha | ha
    · exact hn2 g (ha ▸ hg)
    · have:=ha g hg;omega
  have hA3:aL A3=aL As∨∀ g ∈ aL A3,w.heap.size≤g:=by
    rcases hA2 with ha | ha
    · rw [ha];exact hA
    · exact .inr (fun g hg=>nLT hsz5 (ha g hg))
  replace ho:=ho2;replace hbL:=hbL2;refine⟨_,rfl,?_⟩;refine zn7 ?_;refine yq (t.kids.length - (j + 1)) om agA ?_;exact⟨j + 1,_,A3,cap3,by omega,rfl,rfl,hR3,hzn3,hB,hbL,hbG,hb2,ho,hC,hA3,hn4⟩
 have hje:j=t.kids.length:=by omega
 rw [hje,List.drop_length,Iy,List.append_nil] at hR;refine zn4 ?_;refine fin0 (.inr rfl) rfl  ?_;rw [← hR] at hbL ho;exact⟨rfl,A2,cap2,hbL,ho,hC,hA⟩
theorem lv_anyK {AT AF AR AX AS:Option Addr} {ct cf cr cx cst:Nat} {l:List Ty} {fs:List Ft} {rs:List Rl} {xs:List Lx} {st:List Nd} {w0:World} {bL bG base:Nat} (hLx:LexesIn w0 AX xs) (l0L:w0.heap.size≤bL) (l0G:w0.heap.size≤bG) (hne:bL≠bG) (hlL:bL < base) (hlG:bG < base):∀ (k:Nat) (t:Dt),SizeOf.sizeOf t < k→∀ (A As:Option Addr) (c cap:Nat) (ys:List ByteArray) (w:World),TresIn w0 A t.kids→OkT rs xs.length t→ys.length + ndT t≤400→base≤w.heap.size→Bel w0 w→Blk w bL 61 #[.slice As (ys).length cap]→Blk w bG 32 #[.slice AT l.length ct,.slice AF fs.length cf,.slice AR rs.length cr,.slice AX xs.length cx,.slice AS st.length cst]→Own w base 9 1 As (ys).length cap ((ys).map Value.string)→Calls Tryd.prog 42 #[.agg #[.int .i64 (t).rule,.int .i64 (t).lex,.slice A (t).kids.length c],.func (.func 43) #[] #[.pointer (some ⟨bL,0,none⟩),.pointer (some ⟨bG,0,none⟩)]] w fun e w'=>e= .returned (.tuple #[])∧WdR bL base As (ys ++ wdT xs t) w w':=by
  intro k
  induction k with
  | zero=>intro t h;omega
  | succ k ih=>
    intro t h A As c cap ys w hT hok hn hb hB hbL hbG ho;refine lv_step hLx l0L l0G hne hlL hlG hT hok (fun x hx A2 c2 zs A3 cap3 w2 h1 h2 h3 h4 h5 h6 h7 h8=>ih x ?_ A2 A3 c2 cap3 zs w2 h1 h2 h3 h4 h5 h6 h7 h8) hn hb hB hbL hbG ho;have:=List.sizeOf_lt_of_mem hx;cases t with
    | mk r x ks=>simp only [Dt.mk.sizeOf_spec,Dt.kids] at h this;omega
end Go.Proofs.YtdgnllfbooklcaaDoor
namespace Go.Proofs.YtdgnllfbooklcaaDoor
open Go.RowKit
theorem ze61:(Tryd.prog.info? 61).map (·.zero)=some (some (.slice none 0 0)):=by kernel_rfl
set_option maxRecDepth 100000 in
set_option maxHeartbeats 2000000 in
theorem words_d (AT AF AR AX AS:Option Addr) (ct cf cr cx cst:Nat) (l:List Ty) (fs:List Ft) (rs:List Rl) (xs:List Lx) (st:List Nd) (t:Dt) (A:Option Addr) (c:Nat) (w:World) (hTab:TabIn w) (hU:U8In w) (hTy:TypesIn w AT l) (hF:FeatsIn w AF fs) (hRu:RulesIn w AR rs) (hLx:LexesIn w AX xs) (hG:NodesIn w AS st) (hT:TresIn w A t.kids):Calls Tryd.prog 13 #[.agg #[.slice AT l.length ct,.slice AF fs.length cf,.slice AR rs.length cr,.slice AX xs.length cx,.slice AS st.length cst],.agg #[.int .i64 (t).rule,.int .i64 (t).lex,.slice A (t).kids.length c]] w fun e w'=>(∃ A' c',e= .returned (.tuple #[.slice A' (if (if (qy l fs rs xs st).1=0 then yv rs xs.length t else qy l fs rs xs st).1=0 then wdT xs t else []).length c',flV (if (qy l fs rs xs st).1=0 then yv rs xs.length t else qy l fs rs xs st)])∧∀ w2,FrSame w.heap.size w' w2→StrsIn w2 A' (if (if (qy l fs rs xs st).1=0 then yv rs xs.length t else qy l fs rs xs st).1=0 then wdT xs t else []))∧Bel w w':=by
 refine enter Tryd.func13 Tryd.ntmps13 rfl (Nat.le_of_ble_eq_true rfl) ?_;have hB:Bel w w:=Below.refl _ _;refine zn2 ?_;refine xz (v:= .agg #[_,_,_,_,_]) (cs:=#[_,_,_,_,_]) rfl rfl (fun b2 w1 hb2 s1 hr=>?_);have lo2:=nLT (Bel.size hB) hr;refine xz (v:= .agg #[_,_,_]) (cs:=#[_,_,_]) rfl rfl (fun b3 w2 hb3 s2 hr=>?_);have:=nLL hb2.lt hr;replace hB:=hB.tr0 s1;have lo3:=nLT (Bel.size hB) hr;refine wl (kQ (v:= .slice _ _ _) rfl) ?_;refine qw (cs:=#[.int .i64 0,.int .i64 0]) zY rfl (fun b5 w3 hb5 s3 hr=>?_);replace hb2:=hb2.tr0 s2;have:=nLL hb2.lt hr;have:=nLL hb3.lt hr;replace hB:=hB.tr0 s2;have lo5:=nLT (Bel.size hB) hr;refine zn7 ?_;replace hB:=hB.tr0 s3;refine zX fn39 (JJ AT AF AR AX AS ct cf cr cx cst l fs rs xs st t A c _ (hTab.mono hB) (hU.mono hB) (hTy.mono hB) (hF.mono hB) (hRu.mono hB) (hLx.mono hB) (hG.mono hB) (hT.mono hB)) rfl (fun e' w4 hr=>?_);obtain⟨rfl,s4⟩:=hr;replace s4:=sB s4;refine⟨_,rfl,?_⟩;refine yj (cs:=#[.int .i64 0,.int .i64 0]) zY rfl (fun _=>rfl) (fun _=>rfl) zz rfl zK (fun b6 w6 hb6 s5 hr=>?_);replace hb2:=hb2.tr0 (s3.trans s4);have:=nLL hb2.lt hr;replace hb3:=hb3.tr0 (s3.trans s4);have:=nLL hb3.lt hr;replace hb5:=hb5.tr0 s4;have:=nLL hb5.lt hr;replace hB:=hB.tr0 s4;have lo6:=nLT (Bel.size hB) hr;refine zn9 ?_;replace hB:=hB.tr0 s5;replace hb5:=hb5.tr0 s5;refine zJ rfl (fun c13=>?_) (fun c13=>?_)
 ·refine xK ?_;refine X1 2 kR kR (fun w7 s6=>?_);refine zn2 ?_;refine QV ?_;replace hb5:=hb5.tr0 s6;refine zk hb5 rfl rfl zz rfl zK (fun w8 hq s7=>?_);replace hb5:=hq;refine zn4 ?_;refine ZK (.inl rfl) rfl rfl (zw U36 rfl rfl hb5.range0 zz) ?_;replace hB:=(hB.tr0 s6).tr1 s7 lo5;exact⟨⟨none,0,by rw [if_neg c13];rfl,by rw [if_neg c13];exact fun _ _=>⟨Nat.zero_le _,fun h=>absurd rfl h⟩⟩,hB⟩
 have hd0:=Classical.not_not.1 c13;obtain⟨hg0,ht0⟩:=Oq hd0;obtain⟨hok,hnd,_⟩:=K3 ht0;have hdz:=Xv hd0;refine zn4 ?_;refine qw (cs:=#[.slice none 0 0]) ze61 rfl (fun b7 w9 hb7 s8 hr=>?_);replace hb2:=hb2.tr0 s5;have:=nLL hb2.lt hr;replace hb3:=hb3.tr0 s5;have:=nLL hb3.lt hr;have:=nLL hb5.lt hr;have:=nLL hb6.lt hr;have lo7:=nLT (Bel.size hB) hr;refine zn5 ?_;refine wl (Fw rfl) ?_;replace hB:=hB.tr0 s8;replace hb2:=hb2.tr0 s8;refine zX fn42 (lv_anyK (AT:=AT) (AF:=AF) (AR:=AR) (AX:=AX) (AS:=AS) (ct:=ct) (cf:=cf) (cr:=cr) (cx:=cx) (cst:=cst) (l:=l) (fs:=fs) (rs:=rs) (xs:=xs) (st:=st) (w0:=w) (bL:=b7) (bG:=b2) (base:=b7 + 1) hLx lo7 lo2 om om om (SizeOf.sizeOf t + 1) t (Nat.lt_succ_self _) A none c 0 [] _ hT hok (by rw [List.length_nil];omega) hb7.lt hB hb7 hb2 (Own.nil _ _ _ _)) rfl (fun e' w10 hr=>?_);obtain⟨rfl,A3,cap3,hb7n,ho3,hC2,_⟩:=hr
 replace hB:=hB.chG hC2 (fun g hg=>by
   rcases(show g=b7∨g ∈ aL none from hg) with e | e
   · rw [e];exact lo7
   · cases e)
 replace hb5:=hb5.tr0 s8
 replace hb5:=hb5.chG hC2 (fun hx=>by
   rcases(show b5=b7∨b5 ∈ aL none from hx) with e | e
   · omega
   · cases e)
 replace hb7:=hb7n;refine⟨_,rfl,?_⟩;refine zn5 ?_;refine wl (uJ (vs:=#[]) (cs:=#[.int .i64 0,.int .i64 0]) (by simp) kR) (wl (kQ (v:= .slice _ _ _) rfl) ?_);refine zk hb5 rfl rfl zz rfl zK (fun w11 hq s9=>?_);replace ho3:=ho3.tr1 s9 (fun g hg=>by have:=(ho3.lt g hg).1;(try have:=or_ho3_b5 g hg);(try simp only [aL] at hg);(try simp only [List.mem_singleton] at hg);omega);replace hb5:=hq;refine zn3 ?_;refine ZK (.inl rfl) rfl rfl (zw U36 rfl rfl hb5.range0 zz) ?_;replace hB:=hB.tr1 s9 lo5;exact⟨⟨A3,cap3,by rw [if_pos hd0,hdz];rfl,by rw [if_pos hd0];exact own_strf ho3 (Nat.le_succ_of_le lo7)⟩,hB⟩
end Go.Proofs.YtdgnllfbooklcaaDoor
namespace Go.Proofs.YtdgnllfbooklcaaDoor
open Go.RowKit
theorem GW {w:World} {A:Option Addr} {zs:List ByteArray} (h:StrsIn w A zs) (hn:0 < zs.length):∃ b o,A=some ⟨b,o,none⟩∧∀ j u,(zs.map Value.string)[j]? =some u→w.cell? ⟨b,o + j,none⟩=some u:=by
  obtain⟨b,o,e,_,hc⟩:=h.2 (by rintro rfl;simp at hn);refine⟨b,o,e,fun j u hj=>?_⟩;rw [List.getElem?_map,Option.map_eq_some_iff] at hj;obtain⟨z,hz,rfl⟩:=hj;obtain⟨hl,rfl⟩:=List.getElem?_eq_some_iff.1 hz;have:=hc j hl
  rwa [Nat.mul_one] at this
theorem sv_one (xs:List ByteArray):(xs.map Value.string).all (·.oneCell')=true:=by simp [List.all_eq_true];intros;rfl
theorem dvx_kid {l:List Ty} {fs:List Ft} {rs:List Rl} {xs:List Lx} {st:List Nd} {t x:Dt} (hg:(qy l fs rs xs st).1=0) (ht:(yv rs xs.length t).1=0) (hx:x ∈ t.kids):((if (qy l fs rs xs st).1=0 then yv rs xs.length x else qy l fs rs xs st)).1=0:=by
  rw [if_pos hg];exact kid_ok ht hx
theorem graph_ok (AT AF AR AX AS:Option Addr) (ct cf cr cx cst:Nat) (l:List Ty) (fs:List Ft) (rs:List Rl) (xs:List Lx) (st:List Nd) (t:Dt) (A:Option Addr) (c:Nat) (w:World) (hTab:TabIn w) (hU:U8In w) (hTy:TypesIn w AT l) (hF:FeatsIn w AF fs) (hRu:RulesIn w AR rs) (hLx:LexesIn w AX xs) (hG:NodesIn w AS st) (hT:TresIn w A t.kids) (hd0:(if (qy l fs rs xs st).1=0 then yv rs xs.length t else qy l fs rs xs st).1=0):Calls Tryd.prog 12 #[.agg #[.slice AT l.length ct,.slice AF fs.length cf,.slice AR rs.length cr,.slice AX xs.length cx,.slice AS st.length cst],.agg #[.int .i64 (t).rule,.int .i64 (t).lex,.slice A (t).kids.length c]] w fun e w'=>(∃ A X ok c,e= .returned (.tuple #[.agg #[.slice A (List.length X) c],.bool ok,.agg #[.int .i64 0,.int .i64 0]])∧(∀ w2,FrSame w.heap.size w' w2→NodesIn w2 A X)∧TgR l rs xs t ok X)∧Bel w w':=
  (Lv AT AF AR AX AS ct cf cr cx cst l fs rs xs st t A c w hTab hU hTy hF hRu hLx hG hT).mono fun e w' h=>by
    obtain⟨⟨A',X,ok,c',rfl,hN,hQ⟩,hB⟩:=h
    rcases hQ with ⟨h1,_⟩ | ⟨h1,h2⟩
    · exact absurd hd0 h1
    · rw [h1];exact⟨⟨A',X,ok,c',rfl,hN,h2⟩,hB⟩
theorem BX (AT AF AR AX AS:Option Addr) (ct cf cr cx cst:Nat) (l:List Ty) (fs:List Ft) (rs:List Rl) (xs:List Lx) (st:List Nd) (t:Dt) (A:Option Addr) (c:Nat) (w:World) (hTab:TabIn w) (hU:U8In w) (hTy:TypesIn w AT l) (hF:FeatsIn w AF fs) (hRu:RulesIn w AR rs) (hLx:LexesIn w AX xs) (hG:NodesIn w AS st) (hT:TresIn w A t.kids) (hd0:(if (qy l fs rs xs st).1=0 then yv rs xs.length t else qy l fs rs xs st).1=0):Calls Tryd.prog 13 #[.agg #[.slice AT l.length ct,.slice AF fs.length cf,.slice AR rs.length cr,.slice AX xs.length cx,.slice AS st.length cst],.agg #[.int .i64 (t).rule,.int .i64 (t).lex,.slice A (t).kids.length c]] w fun e w'=>(∃ A' c',e= .returned (.tuple #[.slice A' (wdT xs t).length c',.agg #[.int .i64 0,.int .i64 0]])∧∀ w2,FrSame w.heap.size w' w2→StrsIn w2 A' (wdT xs t))∧Bel w w':=
  (words_d AT AF AR AX AS ct cf cr cx cst l fs rs xs st t A c w hTab hU hTy hF hRu hLx hG hT).mono fun e w' h=>by
    obtain⟨⟨A',c',rfl,hN⟩,hB⟩:=h
    rw [if_pos hd0] at hN ⊢
    rw [Xv hd0]
    exact⟨⟨A',c',rfl,hN⟩,hB⟩
theorem Iw (AT AF AR AX AS:Option Addr) (ct cf cr cx cst:Nat) (l:List Ty) (fs:List Ft) (rs:List Rl) (xs:List Lx) (st:List Nd) (t:Dt) (A:Option Addr) (c:Nat) (w:World) (hTab:TabIn w) (hU:U8In w) (hTy:TypesIn w AT l) (hF:FeatsIn w AF fs) (hRu:RulesIn w AR rs) (hLx:LexesIn w AX xs) (hG:NodesIn w AS st) (hT:TresIn w A t.kids) (hd0:(if (qy l fs rs xs st).1=0 then yv rs xs.length t else qy l fs rs xs st).1=0):Calls Tryd.prog 10 #[.agg #[.slice AT l.length ct,.slice AF fs.length cf,.slice AR rs.length cr,.slice AX xs.length cx,.slice AS st.length cst],.agg #[.int .i64 (t).rule,.int .i64 (t).lex,.slice A (t).kids.length c]] w fun e w'=>e= .returned (.tuple #[.int .i64 (wtT rs xs t),.agg #[.int .i64 0,.int .i64 0]])∧Bel w w':=
  (weight_d AT AF AR AX AS ct cf cr cx cst l fs rs xs st t A c w hTab hU hTy hF hRu hLx hG hT).mono fun e w' h=>by
    obtain⟨rfl,hB⟩:=h
    rw [if_pos hd0,Xv hd0]
    exact⟨rfl,hB⟩
theorem comb_z {l:List Ty} {fs:List Ft} {rs:List Rl} {xs:List Lx} {st:List Nd} {i:Nat} {Ys:List (List Nd)} (hg:(qy l fs rs xs st).1=0) (hi:i < rs.length) (hl:(Ys.length:Int)=(rs[i]).kids) (hv:∀ Y ∈ Ys,(kj l fs Y).1=0):Iq l fs rs xs st (i:Int) Ys=(0,0):=by
  refine cmb_w hg om (by rw [kdR_at hi];exact hl) (Z7 (fun j _ hj=>?_));have hj2:j < Ys.length:=by omega
  have h:=hv _ (List.getElem_mem hj2);rw [Dj (gr_h0 hg)] at h;rw [Ry hj2];exact h
def smallW2T:Dt:= .mk 1 0 [.mk (-1) 0 [],.mk (-1) 3 []]
theorem smallW2_f:yv smallR smallX.length smallW2T=(0,0)∧wtT smallR smallX smallW2T=2:=by decide +kernel
theorem small_wt {w:World} {AT AF AR AX AS:Option Addr} {ct cf cr cx cst b:Nat} (hTab:TabIn w) (hU:U8In w) (hTy:TypesIn w AT smallT) (hF:FeatsIn w AF smallF) (hRu:RulesIn w AR smallR) (hLx:LexesIn w AX smallX) (hG:NodesIn w AS smallS) (hb:Blk w b 56 #[.int .i64 (-1),.int .i64 0,.slice none 0 0,.int .i64 (-1),.int .i64 3,.slice none 0 0]):Calls Tryd.prog 10 #[.agg #[.slice AT smallT.length ct,.slice AF smallF.length cf,.slice AR smallR.length cr,.slice AX smallX.length cx,.slice AS smallS.length cst],.agg #[.int .i64 1,.int .i64 0,.slice (some ⟨b,0,none⟩) 2 2]] w fun e w'=>e= .returned (.tuple #[.int .i64 2,.agg #[.int .i64 0,.int .i64 0]])∧Bel w w':=by
  have hT:TresIn w (some ⟨b,0,none⟩) smallW2T.kids:= .more (by show 2≤vz;decide) hb.lt (fun k hk=>by
    match k,hk with
    | 0,_=>exact .mk (A:=none) (c:=0) hb.lt (hb.range (fun j v hj=>by match j,hj with | 0,hj=>cases hj;rfl | 1,hj=>cases hj;rfl | 2,hj=>cases hj;rfl | _ + 3,hj=>cases hj)) .nil
    | 1,_=>exact .mk (A:=none) (c:=0) hb.lt (hb.range (fun j v hj=>by match j,hj with | 0,hj=>cases hj;rfl | 1,hj=>cases hj;rfl | 2,hj=>cases hj;rfl | _ + 3,hj=>cases hj)) .nil)
  have h:=Iw AT AF AR AX AS ct cf cr cx cst smallT smallF smallR smallX smallS smallW2T (some ⟨b,0,none⟩) 2 w hTab hU hTy hF hRu hLx hG hT (by rw [small_ok,if_pos rfl,smallW2_f.1]);rw [smallW2_f.2] at h;exact h
end Go.Proofs.YtdgnllfbooklcaaDoor
