/- What these functions of the program compute, at every world: glosswright/glosswrightequal.Trees, glosswright/glosswrightequal.Tree. What these functions of the program compute, at every world: glosswright/glosswrightlaw4.leaf, glosswright/glosswrightlaw4.DeriveCompareMatchesSpec. Arguments opened: graphs. Arguments opened: types and terms (structs that hold slices of themselves), rules, words and grammars; and the bounds of strings inside. Arguments opened: trees. -/
import Derived.Test.YtdkfnakncaggoaaGreatDoorU
import Derived.Test.YtdkfnakncaggoaaGreatDoorName
import Derived.Test.YtdkfnakncaggoaaGreatDoorZSu
import Derived.Test.YtdkfnakncaggoaaGreatDoorDSh
import Derived.Test.YtdkfnakncaggoaaGreatDoorTRf
import Derived.Test.YtdkfnakncaggoaaGreatDoorDfs
import Derived.Test.YtdkfnakncaggoaaGreatDoorGrm
import Derived.SizedLaws
namespace Go.Proofs.YtdkfnakncaggoaaGreatDoor
open Go.RowKit
theorem T5:∀ (ks ls:List Dt),¬ks.length=ls.length→X1 ks ls=false
  | [],[],h=>absurd rfl h
  | [],_ :: _,_=>by rw [X1]
  | _ :: _,[],_=>by rw [X1]
  | x :: r,y :: s,h=>by rw [X1,T5 r s (fun e=>h (by simp [e])),Bool.and_false]
theorem fn11:zQ Tryz.prog 11=true:=by kernel_rfl
theorem fn38:zQ Tryz.prog 38=true:=by kernel_rfl
theorem VK:(Tryz.prog.info? 35).map (·.size)=some 3:=by kernel_rfl
set_option maxHeartbeats 1000000 in
theorem R4 {A B:Option Addr} {c d:Nat} {ks ls:List Dt} {w:World} (IH:∀ t ∈ ks,∀ (u:Dt) (A B:Option Addr) (c d:Nat) (w2:World),TresIn w2 A t.kids→TresIn w2 B u.kids→Calls Tryz.prog 11 #[.agg #[.int .i64 (t).rule,.int .i64 (t).lex,.slice A (t).kids.length c],.agg #[.int .i64 (u).rule,.int .i64 (u).lex,.slice B (u).kids.length d]] w2 fun e w'=>e= .returned (.bool (eqT t u))∧Bel w2 w') (hT:TresIn w A ks) (hV:TresIn w B ls):Calls Tryz.prog 38 #[.slice A (ks).length c,.slice B (ls).length d] w fun e w'=>e= .returned (.bool (X1 ks ls))∧Bel w w':=by
 have hmx:=hT.le;have hmy:=hV.le;unfold yJ at hmx hmy;refine enter Tryz.func38 Tryz.ntmps38 rfl (Nat.le_of_ble_eq_true rfl) ?_;have hB:Bel w w:=Below.refl _ _;refine Zk ?_;refine zw rfl (fun c10=>?_) (fun c10=>?_)
 ·have hne:¬ks.length=ls.length:=by omega
  refine zn8 ?_;exact⟨by rw [T5 _ _ hne];rfl,hB⟩
 have hel:ks.length=ls.length:=by omega
 refine vx ?_;refine q8 [4,5,13,14,15,16,17,18,19,20,21,22,23,24,25,26] (fun m g w'=>∃ k:Nat,k≤ks.length∧m=ks.length - k∧g 13= .int .i64 k∧Bel w w'∧X1 ks ls=X1 (ks.drop k) (ls.drop k)) (ks.length) ?_ (fun m g4 w1 hI=>?_)
 ·exact⟨0,Nat.zero_le _,rfl,rfl,hB,rfl⟩
 obtain⟨k,hk,hm,h13,hB,hQ⟩:=hI;refine zJ 13 (.int .i64 k) h13 nu (zn6 ?_);refine zw rfl (fun c14=>?_) (fun c14=>?_)
 ·have hlt:k < ks.length:=by omega
  have hlu:k < ls.length:=by omega
  obtain⟨sb,so,A1,c1,rfl,hsb,hsr,hs1⟩:=hT.at_ hlt;obtain⟨tb,to,B1,d1,rfl,htb,htr,hs2⟩:=hV.at_ hlu;rw [List.drop_eq_getElem_cons hlt,List.drop_eq_getElem_cons hlu,X1] at hQ;refine vx ?_;refine yk 10 [16,17,18,19,20,21,22,23,24,25] (fun _=>false) (fun ix v wv=>match ix with | 0=>v= .slice (some ⟨sb,so,none⟩) ks.length c | 1=>v= .int .i64 k | 2=>v= .pointer (some ⟨sb,so + k * 3,none⟩) | 3=>v= .agg #[.int .i64 ((ks[k]'hlt)).rule,.int .i64 ((ks[k]'hlt)).lex,.slice A1 ((ks[k]'hlt)).kids.length c1] | 4=>v= .slice (some ⟨tb,to,none⟩) ls.length d | 5=>v= .int .i64 k | 6=>v= .pointer (some ⟨tb,to + k * 3,none⟩) | 7=>v= .agg #[.int .i64 ((ls[k]'hlu)).rule,.int .i64 ((ls[k]'hlu)).lex,.slice B1 ((ls[k]'hlu)).kids.length d1] | 8=>v= .bool (eqT (ks[k]'hlt) (ls[k]'hlu)) | 9=>v= .bool (!(eqT (ks[k]'hlt) (ls[k]'hlu))) | _=>True) kR kR ?_ ?_ ?_
  ·intro ix v wv wv2 h hs
   match ix,h with
   | 0,h=>exact h
   | 1,h=>exact h
   | 2,h=>exact h
   | 3,h=>exact h
   | 4,h=>exact h
   | 5,h=>exact h
   | 6,h=>exact h
   | 7,h=>exact h
   | 8,h=>exact h
   | 9,h=>exact h
   | _ + 10,h=>exact trivial
  ·intro ix o hix hoq gg wx hs hd hdis
   match ix,hix,hoq with
   | 0,_,hoq=>
    cases sI hoq;exact oV (x9 (v:= .slice _ _ _) rfl) rfl
   | 1,_,hoq=>
    cases sI hoq;exact oV (x9 (v:= .int _ _) rfl) rfl
   | 2,_,hoq=>
    cases sI hoq;refine z4 16 (.slice (some ⟨sb,so,none⟩) ks.length c) (hd 0 (zz kR)) nu (z4 17 (.int .i64 k) (hd 1 (zz kR)) nu ?_);exact oV (yQ (i:=k) U33 VK rfl rfl om rfl) rfl
   | 3,_,hoq=>
    cases sI hoq;replace hB:=hB.tr0 hs;refine z4 18 (.pointer (some ⟨sb,so + k * 3,none⟩)) (hd 2 (zz kR)) nu ?_;exact oV (zW U35 rfl rfl (hB.range hsb hsr) VK) rfl
   | 4,_,hoq=>
    cases sI hoq;exact oV (x9 (v:= .slice _ _ _) rfl) rfl
   | 5,_,hoq=>
    cases sI hoq;exact oV (x9 (v:= .int _ _) rfl) rfl
   | 6,_,hoq=>
    cases sI hoq;refine z4 20 (.slice (some ⟨tb,to,none⟩) ls.length d) (hd 4 (zz kR)) nu (z4 21 (.int .i64 k) (hd 5 (zz kR)) nu ?_);exact oV (yQ (i:=k) U33 VK rfl rfl om rfl) rfl
   | 7,_,hoq=>
    cases sI hoq;replace hB:=hB.tr0 hs;refine z4 22 (.pointer (some ⟨tb,to + k * 3,none⟩)) (hd 6 (zz kR)) nu ?_;exact oV (zW U35 rfl rfl (hB.range htb htr) VK) rfl
   | 8,_,hoq=>
    cases sI hoq;replace hB:=hB.tr0 hs;refine z4 19 (.agg #[.int .i64 ((ks[k]'hlt)).rule,.int .i64 ((ks[k]'hlt)).lex,.slice A1 ((ks[k]'hlt)).kids.length c1]) (hd 3 (zz kR)) nu (z4 23 (.agg #[.int .i64 ((ls[k]'hlu)).rule,.int .i64 ((ls[k]'hlu)).lex,.slice B1 ((ls[k]'hlu)).kids.length d1]) (hd 7 (zz kR)) nu ?_);refine qx fn11 (IH _ (List.getElem_mem hlt) (ls[k]'hlu) A1 B1 c1 d1 wx (hs1.mono hB) (hs2.mono hB)) rfl (fun e' w2 hr=>?_);obtain⟨rfl,hs⟩:=hr;exact⟨_,rfl,sB hs,rfl,zX⟩
   | 9,_,hoq=>
    cases sI hoq;refine z4 24 (.bool (eqT (ks[k]'hlt) (ls[k]'hlu))) (hd 8 (zz kR)) nu ?_;exact oV (gJ rfl) rfl
   | _ + 10,hix,_=>exact absurd hix om
  intro gg w2 hs hR hdis;replace hB:=hB.tr0 hs;refine qK 25 (.bool (!(eqT (ks[k]'hlt) (ls[k]'hlu)))) (hR 9 dE) nu (zZ (e_S ?_));refine j7 rfl (fun c25=>?_) (fun c25=>?_)
  ·have he:eqT (ks[k]'hlt) (ls[k]'hlu)=false:=by simpa using c25
   rw [he,Bool.false_and] at hQ;refine yj ?_;exact⟨by rw [hQ];rfl,hB⟩
  have he:eqT (ks[k]'hlt) (ls[k]'hlu)=true:=by simpa using c25
  have hQ3:=hQ;rw [he,Bool.true_and] at hQ3;refine zn7 ?_;refine xv (ks.length - (k + 1)) om agA ?_;exact⟨k + 1,by omega,rfl,rfl,hB,hQ3⟩
 have hke:k=ks.length:=by omega
 have hQe:X1 ks ls=true:=by rw [hQ,List.drop_eq_nil_of_le om,List.drop_eq_nil_of_le om,X1]
 refine yj ?_;exact⟨by rw [hQe];rfl,hB⟩
set_option maxHeartbeats 1000000 in
theorem Lj {A B:Option Addr} {c d:Nat} {t u:Dt} {w:World} (IH:∀ x ∈ t.kids,∀ (u:Dt) (A B:Option Addr) (c d:Nat) (w2:World),TresIn w2 A x.kids→TresIn w2 B u.kids→Calls Tryz.prog 11 #[.agg #[.int .i64 (x).rule,.int .i64 (x).lex,.slice A (x).kids.length c],.agg #[.int .i64 (u).rule,.int .i64 (u).lex,.slice B (u).kids.length d]] w2 fun e w'=>e= .returned (.bool (eqT x u))∧Bel w2 w') (hT:TresIn w A t.kids) (hV:TresIn w B u.kids):Calls Tryz.prog 11 #[.agg #[.int .i64 (t).rule,.int .i64 (t).lex,.slice A (t).kids.length c],.agg #[.int .i64 (u).rule,.int .i64 (u).lex,.slice B (u).kids.length d]] w fun e w'=>e= .returned (.bool (eqT t u))∧Bel w w':=by
 refine enter Tryz.func11 Tryz.ntmps11 rfl (Nat.le_of_ble_eq_true rfl) ?_;have hB:Bel w w:=Below.refl _ _;refine zn2 ?_;refine qW (v:= .agg #[_,_,_]) (cs:=#[_,_,_]) rfl rfl (fun b2 w1 hb2 hs hr=>?_);replace hB:=hB.tr0 hs;refine qW (v:= .agg #[_,_,_]) (cs:=#[_,_,_]) rfl rfl (fun b3 w2 hb3 hs hr=>?_);replace hB:=hB.tr0 hs;replace hb2:=hb2.tr0 hs;refine vx ?_;refine zj 10 rfl (fun g10=>?_) (fun g10=>?_)
 ·refine yj ?_;refine zj 17 rfl (fun g17=>?_) (fun g17=>?_)
  ·refine zn9 ?_;refine zV fn38 (R4 IH (hT.mono hB) (hV.mono hB)) rfl (fun e' w3 hr=>?_);obtain⟨rfl,hs⟩:=hr;replace hs:=sB hs;replace hB:=hB.tr0 hs;refine⟨_,rfl,?_⟩;refine zn6 ?_;exact⟨by rw [C4];first | (rw [decide_eq_false g10];rfl) | (rw [decide_eq_true g10,decide_eq_false g17];rfl) | (rw [decide_eq_true g10,decide_eq_true g17];rfl),hB⟩
  refine vx ?_;exact⟨by rw [C4];first | (rw [decide_eq_false g10];rfl) | (rw [decide_eq_true g10,decide_eq_false g17];rfl) | (rw [decide_eq_true g10,decide_eq_true g17];rfl),hB⟩
 refine zn18 ?_;exact⟨by rw [C4];first | (rw [decide_eq_false g10];rfl) | (rw [decide_eq_true g10,decide_eq_false g17];rfl) | (rw [decide_eq_true g10,decide_eq_true g17];rfl),hB⟩
theorem tree_any:∀ (k:Nat) (t:Dt),SizeOf.sizeOf t < k→∀ (u:Dt) (A B:Option Addr) (c d:Nat) (w:World),TresIn w A t.kids→TresIn w B u.kids→Calls Tryz.prog 11 #[.agg #[.int .i64 (t).rule,.int .i64 (t).lex,.slice A (t).kids.length c],.agg #[.int .i64 (u).rule,.int .i64 (u).lex,.slice B (u).kids.length d]] w fun e w'=>e= .returned (.bool (eqT t u))∧Bel w w':=by
  intro k
  induction k with
  | zero=>intro t h;omega
  | succ k ih=>
    intro t h u A B c d w hT hV;refine Lj (fun x hx u2 A2 B2 c2 d2 w2 h1 h2=>ih x ?_ u2 A2 B2 c2 d2 w2 h1 h2) hT hV;have:=List.sizeOf_lt_of_mem hx;cases t with
    | mk r x ks=>simp only [Dt.mk.sizeOf_spec,Dt.kids] at h this;omega
end Go.Proofs.YtdkfnakncaggoaaGreatDoor
namespace Go.Proofs.YtdkfnakncaggoaaGreatDoor
open Go.RowKit
def E6 (k:Int):Dt:= .mk (-1) k []
theorem leafN_f:xq smallR smallX.length (E6 0)=(0,0)∧xq smallR smallX.length (E6 1)=(0,0)∧vW smallR smallX (E6 0) (E6 1)=1:=by decide +kernel
theorem GZ {w:World} {AT AF AR AX AS:Option Addr} {ct cf cr cx cst:Nat} (hTab:TabIn w) (hU:U8In w) (hTy:TypesIn w AT smallT) (hF:FeatsIn w AF smallF) (hRu:RulesIn w AR smallR) (hLx:LexesIn w AX smallX) (hG:NodesIn w AS smallS):Calls Tryz.prog 5 #[.agg #[.slice AT smallT.length ct,.slice AF smallF.length cf,.slice AR smallR.length cr,.slice AX smallX.length cx,.slice AS smallS.length cst],.agg #[.int .i64 (-1),.int .i64 0,.slice none 0 0],.agg #[.int .i64 (-1),.int .i64 1,.slice none 0 0]] w fun e w'=>e= .returned (.tuple #[.int .i64 1,.agg #[.int .i64 0,.int .i64 0]])∧Bel w w':=by
  have h:=KY AT AF AR AX AS ct cf cr cx cst smallT smallF smallR smallX smallS (E6 0) none 0 (E6 1) none 0 w hTab hU hTy hF hRu hLx hG .nil .nil;rw [small_ok,if_pos rfl,leafN_f.1,leafN_f.2.1,leafN_f.2.2] at h;exact h
theorem fd37:(Tryz.prog.fieldsOf 37).toList.map (fun f=>(f.name == "_",f.type,f.offset))= [(false,3,0),(false,3,1)]:=by kernel_rfl
theorem fn10:zQ Tryz.prog 10=true:=by kernel_rfl
theorem fn5:zQ Tryz.prog 5=true:=by kernel_rfl
theorem fn6:zQ Tryz.prog 6=true:=by kernel_rfl
theorem fn7:zQ Tryz.prog 7=true:=by kernel_rfl
theorem fn8:zQ Tryz.prog 8=true:=by kernel_rfl
theorem fn9:zQ Tryz.prog 9=true:=by kernel_rfl
theorem ft37:Tryz.prog.underlying 37=some (.struct (Tryz.prog.fieldsOf 37)):=by kernel_rfl
theorem Sv (k:Int) (w:World):Calls Tryz.prog 7 #[.int .i64 k] w fun e w'=>e= .returned (.agg #[.int .i64 (-1),.int .i64 k,.slice none 0 0])∧Bel w w':=by
 refine enter Tryz.func7 Tryz.ntmps7 rfl (Nat.le_of_ble_eq_true rfl) ?_;have hB:Bel w w:=Below.refl _ _;refine zn2 ?_;refine qZ (cs:=#[.int .i64 0,.int .i64 0,.slice none 0 0]) Cx rfl (fun b2 w1 hb2 hs hr=>?_);have lo2:=nLT (Bel.size hB) hr;replace hB:=hB.tr0 hs;refine zn5 ?_;refine wl (yz (v0:= .int _ _) (v1:= .int _ _) (fun v0 v1=>#[v0,v1,.slice none 0 0]) rfl rfl kR) ?_;refine zk hb2 rfl rfl gX rfl zK (fun w2 hq hs=>?_);replace hB:=hB.tr1 hs lo2;replace hb2:=hq;refine zn3 ?_;refine x5 (.inl rfl) rfl (zy U35 rfl rfl hb2.range0 gX) ?_;exact⟨rfl,hB⟩
set_option maxRecDepth 100000 in
set_option maxHeartbeats 8000000 in
theorem law33_any (AT AF AR AX AS:Option Addr) (ct cf cr cx cst:Nat) (l:List Ty) (fs:List Ft) (rs:List Rl) (xs:List Lx) (st:List Nd) (t:Dt) (A:Option Addr) (c:Nat) (u:Dt) (B:Option Addr) (d:Nat) (w:World) (hTab:TabIn w) (hU:U8In w) (hct:l.length≤ct) (hcf:fs.length≤cf) (hcr:rs.length≤cr) (hTy:TypesIn w AT l) (hF:FeatsIn w AF fs) (hRu:RulesIn w AR rs) (hLx:LexesIn w AX xs) (hG:NodesIn w AS st) (hT:TresIn w A t.kids) (hV:TresIn w B u.kids):Calls Tryz.prog 3 #[.agg #[.slice AT l.length ct,.slice AF fs.length cf,.slice AR rs.length cr,.slice AX xs.length cx,.slice AS st.length cst],.agg #[.int .i64 (t).rule,.int .i64 (t).lex,.slice A (t).kids.length c],.agg #[.int .i64 (u).rule,.int .i64 (u).lex,.slice B (u).kids.length d]] w fun e w'=>e= .returned (.bool true)∧Bel w w':=by
 refine enter Tryz.func3 Tryz.ntmps3 rfl (Nat.le_of_ble_eq_true rfl) ?_;have hB:Bel w w:=Below.refl _ _;refine zn2 ?_;refine qW (v:= .agg #[_,_,_,_,_]) (cs:=#[_,_,_,_,_]) rfl rfl (fun b3 w1 hb3 hs hr=>?_);replace hB:=hB.tr0 hs;refine qW (v:= .agg #[_,_,_]) (cs:=#[_,_,_]) rfl rfl (fun b4 w2 hb4 hs hr=>?_);replace hB:=hB.tr0 hs;replace hb3:=hb3.tr0 hs;refine qW (v:= .agg #[_,_,_]) (cs:=#[_,_,_]) rfl rfl (fun b5 w3 hb5 hs hr=>?_);replace hB:=hB.tr0 hs;replace hb3:=hb3.tr0 hs;replace hb4:=hb4.tr0 hs;refine zn6 ?_;refine zV fn6 (small_d _) rfl (fun e' w4 hr=>?_);obtain⟨⟨_,rfl,At1,ct1,Bf1,cf1,br,cells,A1,cap1,AS1,cst1,n1,rfl,lor,hbr,hD⟩,hs⟩:=hr;replace hs:=sB hs;replace hB:=hB.tr0 hs;replace hb3:=hb3.tr0 hs;replace hb4:=hb4.tr0 hs;replace hb5:=hb5.tr0 hs;refine⟨_,rfl,?_⟩;refine zV fn7 (Sv 0 _) rfl (fun e' w5 hr=>?_);obtain⟨rfl,hs⟩:=hr;replace hs:=sB hs;replace hB:=hB.tr0 hs;replace hb3:=hb3.tr0 hs;replace hb4:=hb4.tr0 hs;replace hb5:=hb5.tr0 hs;replace hD:=hD.tr0 hs;replace hbr:=hbr.tr0 hs;refine⟨_,rfl,?_⟩;refine zV fn7 (Sv 1 _) rfl (fun e' w6 hr=>?_);obtain⟨rfl,hs⟩:=hr;replace hs:=sB hs;replace hB:=hB.tr0 hs;replace hb3:=hb3.tr0 hs;replace hb4:=hb4.tr0 hs;replace hb5:=hb5.tr0 hs;replace hD:=hD.tr0 hs;replace hbr:=hbr.tr0 hs;refine⟨_,rfl,?_⟩;refine zV fn5 (GZ (hTab.mono hB) (hU.mono hB) hD.now.1 hD.now.2.1 (hD.now.2.2.1.rules hbr dE) hD.now.2.2.2.1 hD.now.2.2.2.2) rfl (fun e' w7 hr=>?_);obtain⟨rfl,hs⟩:=hr;replace hs:=sB hs;replace hB:=hB.tr0 hs;replace hb3:=hb3.tr0 hs;replace hb4:=hb4.tr0 hs;replace hb5:=hb5.tr0 hs;refine⟨_,rfl,?_⟩;refine wmT rfl (wl (jv (v:= .int _ _) rfl rfl) (wl (jv (v:= .agg _) rfl rfl) ?_));refine qZ (cs:=#[.int .i64 0,.int .i64 0]) zY rfl (fun b8 w8 hb8 hs hr=>?_);have:=nLL hb3.lt hr;have:=nLL hb4.lt hr;have:=nLL hb5.lt hr;have lo8:=nLT (Bel.size hB) hr;replace hB:=hB.tr0 hs;replace hb3:=hb3.tr0 hs;replace hb4:=hb4.tr0 hs;replace hb5:=hb5.tr0 hs;refine waI rfl ?_;refine zk hb8 rfl rfl zq rfl zK (fun w9 hq hs=>?_);replace hB:=hB.tr1 hs lo8;replace hb3:=hb3.tr1 hs om;replace hb4:=hb4.tr1 hs om;replace hb5:=hb5.tr1 hs om;replace hb8:=hq;refine zn3 ?_;refine x7 [21,22,23,24,25,26,27] 27 (.bool (decide (False))) nu ?_ (fun gq=>?_)
 ·refine zn5 ?_;refine zj 24 rfl (fun g24=>?_) (fun g24=>?_)
  ·refine zn3 ?_;refine zZ (e_R ⟨rfl,agA,?_⟩);show Value.bool _=Value.bool _
   first | exact absurd rfl g24 | exact congrArg Value.bool dE
  refine zn5 ?_;refine zZ (e_R ⟨rfl,agA,?_⟩);show Value.bool _=Value.bool _
  first | exact absurd rfl g24 | exact congrArg Value.bool dE
 refine e_S ?_;refine zw rfl (fun c27=>?_) (fun c27=>?_)
 ·exact c27.elim
 refine zn7 ?_;refine zV fn5 (KY AT AF AR AX AS ct cf cr cx cst l fs rs xs st t A c u B d _ (hTab.mono hB) (hU.mono hB) (hTy.mono hB) (hF.mono hB) (hRu.mono hB) (hLx.mono hB) (hG.mono hB) (hT.mono hB) (hV.mono hB)) rfl (fun e' w10 hr=>?_);obtain⟨rfl,hs⟩:=hr;replace hs:=sB hs;replace hB:=hB.tr0 hs;replace hb3:=hb3.tr0 hs;replace hb4:=hb4.tr0 hs;replace hb5:=hb5.tr0 hs;replace hb8:=hb8.tr0 hs;refine⟨_,rfl,?_⟩;refine wmT rfl (wl (jv (v:= .int _ _) rfl rfl) (wl (jv (v:= .agg _) rfl rfl) ?_));refine qZ (cs:=#[.int .i64 0,.int .i64 0]) zY rfl (fun b10 w11 hb10 hs hr=>?_);have:=nLL hb3.lt hr;have:=nLL hb4.lt hr;have:=nLL hb5.lt hr;have:=nLL hb8.lt hr;have lo10:=nLT (Bel.size hB) hr;replace hB:=hB.tr0 hs;replace hb3:=hb3.tr0 hs;replace hb4:=hb4.tr0 hs;replace hb5:=hb5.tr0 hs;replace hb8:=hb8.tr0 hs;refine waI rfl ?_;refine zk hb10 rfl rfl zq rfl zK (fun w12 hq hs=>?_);replace hB:=hB.tr1 hs lo10;replace hb3:=hb3.tr1 hs om;replace hb4:=hb4.tr1 hs om;replace hb5:=hb5.tr1 hs om;replace hb8:=hb8.tr1 hs om;replace hb10:=hq;refine zn5 ?_;refine zV fn8 (Nj AT AF AR AX AS ct cf cr cx cst l fs rs xs st _ hct hcf hcr (hTy.mono hB) (hF.mono hB) (hRu.mono hB) (hLx.mono hB) (hG.mono hB)) rfl (fun e' w13 hr=>?_);obtain⟨rfl,hs⟩:=hr;replace hs:=sB hs;replace hB:=hB.tr0 hs;replace hb3:=hb3.tr0 hs;replace hb4:=hb4.tr0 hs;replace hb5:=hb5.tr0 hs;replace hb8:=hb8.tr0 hs;replace hb10:=hb10.tr0 hs;refine⟨_,rfl,?_⟩;refine xV (cs:=#[.int .i64 0,.int .i64 0]) zY rfl (fun _=>rfl) (fun _=>rfl) zq rfl zK (fun b11 w15 hb11 hs hr=>?_);have:=nLL hb3.lt hr;have:=nLL hb4.lt hr;have:=nLL hb5.lt hr;have:=nLL hb10.lt hr;have lo11:=nLT (Bel.size hB) hr;replace hB:=hB.tr0 hs;replace hb3:=hb3.tr0 hs;replace hb4:=hb4.tr0 hs;replace hb5:=hb5.tr0 hs;replace hb10:=hb10.tr0 hs;refine yq ?_;refine xK [40,41,42] (fun g w'=>Bel w w'∧Blk w' b3 32 #[.slice AT l.length ct,.slice AF fs.length cf,.slice AR rs.length cr,.slice AX xs.length cx,.slice AS st.length cst]∧Blk w' b4 35 #[.int .i64 t.rule,.int .i64 t.lex,.slice A t.kids.length c]∧Blk w' b5 35 #[.int .i64 u.rule,.int .i64 u.lex,.slice B u.kids.length d]∧Blk w' b10 37 #[.int .i64 (oK (if (x8 l fs rs xs st).1=0 then xq rs xs.length t else x8 l fs rs xs st) (xq rs xs.length u) (vW rs xs t u)).2.1,.int .i64 (oK (if (x8 l fs rs xs st).1=0 then xq rs xs.length t else x8 l fs rs xs st) (xq rs xs.length u) (vW rs xs t u)).2.2]∧Blk w' b11 37 #[.int .i64 ((if (x8 l fs rs xs st).1=0 then xq rs xs.length t else x8 l fs rs xs st)).1,.int .i64 ((if (x8 l fs rs xs st).1=0 then xq rs xs.length t else x8 l fs rs xs st)).2]) ?_ (fun gx1 w16 hI=>?_)
 ·refine zw rfl (fun c39=>?_) (fun c39=>?_)
  ·have hdv:(if (x8 l fs rs xs st).1=0 then xq rs xs.length t else x8 l fs rs xs st)=xq rs xs.length t:=if_pos c39;refine zn3 ?_;refine zV fn9 (YV AT AF AR AX AS ct cf cr cx cst l fs rs xs st t A c _ (hRu.mono hB) (IV c39).2.2.2.2 (hT.mono hB)) rfl (fun e' w17 hr=>?_);obtain⟨rfl,hs⟩:=hr;replace hs:=sB hs;replace hB:=hB.tr0 hs;replace hb3:=hb3.tr0 hs;replace hb4:=hb4.tr0 hs;replace hb5:=hb5.tr0 hs;replace hb10:=hb10.tr0 hs;replace hb11:=hb11.tr0 hs;refine⟨_,rfl,?_⟩;refine zk hb11 rfl rfl zq rfl zK (fun w18 hq hs=>?_);replace hB:=hB.tr1 hs lo11;replace hb3:=hb3.tr1 hs om;replace hb4:=hb4.tr1 hs om;replace hb5:=hb5.tr1 hs om;replace hb10:=hb10.tr1 hs om;replace hb11:=hq;refine zZ ?_;refine e_R ⟨agA,?_⟩;exact⟨hB,hb3,hb4,hb5,hb10,by rw [hdv];exact hb11⟩
  have hdv:(if (x8 l fs rs xs st).1=0 then xq rs xs.length t else x8 l fs rs xs st)=x8 l fs rs xs st:=if_neg c39;refine uY ?_;refine e_R ⟨agA,?_⟩;exact⟨hB,hb3,hb4,hb5,hb10,by rw [hdv];exact hb11⟩
 obtain⟨hB,hb3,hb4,hb5,hb10,hb11⟩:=hI;refine zn9 ?_;refine xK [46,47,48,49,50,51,52] (fun g w'=>Bel w w'∧Blk w' b3 32 #[.slice AT l.length ct,.slice AF fs.length cf,.slice AR rs.length cr,.slice AX xs.length cx,.slice AS st.length cst]∧Blk w' b4 35 #[.int .i64 t.rule,.int .i64 t.lex,.slice A t.kids.length c]∧Blk w' b5 35 #[.int .i64 u.rule,.int .i64 u.lex,.slice B u.kids.length d]∧Blk w' b10 37 #[.int .i64 (oK (if (x8 l fs rs xs st).1=0 then xq rs xs.length t else x8 l fs rs xs st) (xq rs xs.length u) (vW rs xs t u)).2.1,.int .i64 (oK (if (x8 l fs rs xs st).1=0 then xq rs xs.length t else x8 l fs rs xs st) (xq rs xs.length u) (vW rs xs t u)).2.2]∧Blk w' b11 37 #[.int .i64 ((eF (if (x8 l fs rs xs st).1=0 then xq rs xs.length t else x8 l fs rs xs st) (xq rs xs.length u))).1,.int .i64 ((eF (if (x8 l fs rs xs st).1=0 then xq rs xs.length t else x8 l fs rs xs st) (xq rs xs.length u))).2]) ?_ (fun gx2 w19 hI=>?_)
 ·refine zw rfl (fun c45=>?_) (fun c45=>?_)
  ·have q1:=(dv_ok c45).1;refine zn4 ?_;refine zV fn9 (YV AT AF AR AX AS ct cf cr cx cst l fs rs xs st u B d _ (hRu.mono hB) (IV q1).2.2.2.2 (hV.mono hB)) rfl (fun e' w20 hr=>?_);obtain⟨rfl,hs⟩:=hr;replace hs:=sB hs;replace hB:=hB.tr0 hs;replace hb3:=hb3.tr0 hs;replace hb4:=hb4.tr0 hs;replace hb5:=hb5.tr0 hs;replace hb10:=hb10.tr0 hs;replace hb11:=hb11.tr0 hs;refine⟨_,rfl,?_⟩;refine zk hb11 rfl rfl zq rfl zK (fun w21 hq hs=>?_);replace hB:=hB.tr1 hs lo11;replace hb3:=hb3.tr1 hs om;replace hb4:=hb4.tr1 hs om;replace hb5:=hb5.tr1 hs om;replace hb10:=hb10.tr1 hs om;replace hb11:=hq;refine zn9 ?_;refine zw rfl (fun c51=>?_) (fun c51=>?_)
   ·have heF:(eF (if (x8 l fs rs xs st).1=0 then xq rs xs.length t else x8 l fs rs xs st) (xq rs xs.length u))=((xq rs xs.length u).1,-3):=by unfold eF C1;rw [if_pos c45,if_pos c51]
    refine zn2 ?_;refine xY (v:= .int _ _) hb11 rfl rfl qw (by first | decide | simp) rfl rfl (fun w22 hq hs=>?_);replace hB:=hB.tr1 hs lo11;replace hb3:=hb3.tr1 hs om;replace hb4:=hb4.tr1 hs om;replace hb5:=hb5.tr1 hs om;replace hb10:=hb10.tr1 hs om;replace hb11:=hq;refine zZ ?_;refine e_R ⟨agA,?_⟩;exact⟨hB,hb3,hb4,hb5,hb10,by rw [heF];exact hb11⟩
   have heF:(eF (if (x8 l fs rs xs st).1=0 then xq rs xs.length t else x8 l fs rs xs st) (xq rs xs.length u))=((xq rs xs.length u).1,(xq rs xs.length u).2):=by unfold eF C1;rw [if_pos c45,if_neg c51]
   refine uY ?_;refine e_R ⟨agA,?_⟩;exact⟨hB,hb3,hb4,hb5,hb10,by rw [heF];exact hb11⟩
  have heF:(eF (if (x8 l fs rs xs st).1=0 then xq rs xs.length t else x8 l fs rs xs st) (xq rs xs.length u))=(if (x8 l fs rs xs st).1=0 then xq rs xs.length t else x8 l fs rs xs st):=if_neg c45;refine uY ?_;refine e_R ⟨agA,?_⟩;exact⟨hB,hb3,hb4,hb5,hb10,by rw [heF];exact hb11⟩
 obtain⟨hB,hb3,hb4,hb5,hb10,hb11⟩:=hI;refine zn9 ?_;refine zw rfl (fun c55=>?_) (fun c55=>?_)
 ·have hX:=cmpF_e (o:=vW rs xs t u) c55;have hX1:(oK (if (x8 l fs rs xs st).1=0 then xq rs xs.length t else x8 l fs rs xs st) (xq rs xs.length u) (vW rs xs t u)).1=0:=by rw [hX]
  have hX2:(oK (if (x8 l fs rs xs st).1=0 then xq rs xs.length t else x8 l fs rs xs st) (xq rs xs.length u) (vW rs xs t u)).2.1=(eF (if (x8 l fs rs xs st).1=0 then xq rs xs.length t else x8 l fs rs xs st) (xq rs xs.length u)).1:=by rw [hX]
  have hX3:(oK (if (x8 l fs rs xs st).1=0 then xq rs xs.length t else x8 l fs rs xs st) (xq rs xs.length u) (vW rs xs t u)).2.2=(eF (if (x8 l fs rs xs st).1=0 then xq rs xs.length t else x8 l fs rs xs st) (xq rs xs.length u)).2:=by rw [hX]
  refine zn4 ?_;refine wl (r_eqF Tryz.eqGuardType37 ft37 Tryz.stoodInHeld37 fd37 U3 rfl rfl) (wl (x9 (v:= .bool _) rfl) ?_);refine zj 59 rfl (fun g59=>?_) (fun g59=>?_)
  ·refine vx ?_;exact⟨by first | exact absurd ⟨hX2,hX3⟩ g59 | exact congrArg (fun b=>Ending.returned (Value.bool b)) (decide_eq_true hX1),hB⟩
  refine zn9 ?_;exact⟨by first | exact absurd ⟨hX2,hX3⟩ g59 | exact congrArg (fun b=>Ending.returned (Value.bool b)) (decide_eq_true hX1),hB⟩
 obtain⟨q1,q3⟩:=eF_0 (Classical.not_not.1 c55);obtain⟨q1,q2⟩:=dv_ok q1;obtain⟨gn1,gn2,gn3,gn4,gn5⟩:=IV q1;obtain⟨ot,ntq,_⟩:=VZ q2;obtain⟨ou,nuq,_⟩:=VZ q3;have hX:oK (if (x8 l fs rs xs st).1=0 then xq rs xs.length t else x8 l fs rs xs st) (xq rs xs.length u) (vW rs xs t u)=(vW rs xs t u,(0,0)):=FK (by rw [if_pos q1];exact q2) q3;have hY:oK (if (x8 l fs rs xs st).1=0 then xq rs xs.length u else x8 l fs rs xs st) (xq rs xs.length t) (vW rs xs u t)=(vW rs xs u t,(0,0)):=FK (by rw [if_pos q1];exact q3) q2;have hX1:(oK (if (x8 l fs rs xs st).1=0 then xq rs xs.length t else x8 l fs rs xs st) (xq rs xs.length u) (vW rs xs t u)).1=vW rs xs t u:=by rw [hX]
 have hX2:(oK (if (x8 l fs rs xs st).1=0 then xq rs xs.length t else x8 l fs rs xs st) (xq rs xs.length u) (vW rs xs t u)).2.1=0:=by rw [hX]
 have hY1:(oK (if (x8 l fs rs xs st).1=0 then xq rs xs.length u else x8 l fs rs xs st) (xq rs xs.length t) (vW rs xs u t)).1= - (oK (if (x8 l fs rs xs st).1=0 then xq rs xs.length t else x8 l fs rs xs st) (xq rs xs.length u) (vW rs xs t u)).1:=by rw [hX,hY];exact ord_swap t u
 have hrg:=ord_rng rs xs t u;have hzq:decide ((oK (if (x8 l fs rs xs st).1=0 then xq rs xs.length t else x8 l fs rs xs st) (xq rs xs.length u) (vW rs xs t u)).1=0)=eqT t u:=by rw [hX1,Bool.eq_iff_iff,decide_eq_true_iff,eqT_dec];exact ord_zero gn1 ot ou
 refine zn7 ?_;refine zV fn5 (KY AT AF AR AX AS ct cf cr cx cst l fs rs xs st u B d t A c _ (hTab.mono hB) (hU.mono hB) (hTy.mono hB) (hF.mono hB) (hRu.mono hB) (hLx.mono hB) (hG.mono hB) (hV.mono hB) (hT.mono hB)) rfl (fun e' w23 hr=>?_);obtain⟨rfl,hs⟩:=hr;replace hs:=sB hs;replace hB:=hB.tr0 hs;replace hb3:=hb3.tr0 hs;replace hb4:=hb4.tr0 hs;replace hb5:=hb5.tr0 hs;replace hb10:=hb10.tr0 hs;replace hb11:=hb11.tr0 hs;refine⟨_,rfl,?_⟩;refine wmT rfl (wl (jv (v:= .int _ _) rfl rfl) (wl (jv (v:= .agg _) rfl rfl) ?_));refine qZ (cs:=#[.int .i64 0,.int .i64 0]) zY rfl (fun b13 w24 hb13 hs hr=>?_);have:=nLL hb3.lt hr;have:=nLL hb4.lt hr;have:=nLL hb5.lt hr;have:=nLL hb10.lt hr;have lo13:=nLT (Bel.size hB) hr;replace hB:=hB.tr0 hs;replace hb3:=hb3.tr0 hs;replace hb4:=hb4.tr0 hs;replace hb5:=hb5.tr0 hs;replace hb10:=hb10.tr0 hs;refine waI rfl ?_;refine zk hb13 rfl rfl zq rfl zK (fun w25 hq hs=>?_);replace hB:=hB.tr1 hs lo13;replace hb3:=hb3.tr1 hs om;replace hb4:=hb4.tr1 hs om;replace hb5:=hb5.tr1 hs om;replace hb10:=hb10.tr1 hs om;replace hb13:=hq;refine zn8 ?_;refine zj 73 rfl (fun g73=>?_) (fun g73=>?_)
 ·refine zn9 ?_;refine zV fn10 (O7 AT AF AR AX AS ct cf cr cx cst l fs rs xs st t A c u B d _ gn3 gn4 gn2 (hRu.mono hB) (hLx.mono hB) (hT.mono hB) (hV.mono hB) ot ntq ou nuq) rfl (fun e' w26 hr=>?_);obtain⟨rfl,hs⟩:=hr;replace hs:=sB hs;replace hB:=hB.tr0 hs;replace hb4:=hb4.tr0 hs;replace hb5:=hb5.tr0 hs;refine⟨_,rfl,?_⟩;refine zn4 ?_;refine zj 81 rfl (fun g81=>?_) (fun g81=>?_)
  ·refine zn5 ?_;refine wl (r_negI rfl (by rw [hX1];omega)) (zn4 ?_);refine zj 87 rfl (fun g87=>?_) (fun g87=>?_)
   ·refine zn9 ?_;refine zV fn11 (tree_any (SizeOf.sizeOf t + 1) t (Nat.lt_succ_self _) u A B c d _ (hT.mono hB) (hV.mono hB)) rfl (fun e' w27 hr=>?_);obtain⟨rfl,hs⟩:=hr;replace hs:=sB hs;replace hB:=hB.tr0 hs;refine⟨_,rfl,?_⟩;refine zn1 ?_;refine wl (r_eqlB U4 rfl rfl) (zn6 ?_);exact⟨by first | exact absurd hX2 g73 | exact absurd hX1 g81 | exact absurd hY1 g87 | exact congrArg (fun b=>Ending.returned (Value.bool b)) (show (decide ((oK (if (x8 l fs rs xs st).1=0 then xq rs xs.length t else x8 l fs rs xs st) (xq rs xs.length u) (vW rs xs t u)).1=0) == eqT t u)=true from by rw [hzq];exact beq_self_eq_true _),hB⟩
   refine yj ?_;exact⟨by first | exact absurd hX2 g73 | exact absurd hX1 g81 | exact absurd hY1 g87 | exact congrArg (fun b=>Ending.returned (Value.bool b)) (show (decide ((oK (if (x8 l fs rs xs st).1=0 then xq rs xs.length t else x8 l fs rs xs st) (xq rs xs.length u) (vW rs xs t u)).1=0) == eqT t u)=true from by rw [hzq];exact beq_self_eq_true _),hB⟩
  refine zn18 ?_;exact⟨by first | exact absurd hX2 g73 | exact absurd hX1 g81 | exact absurd hY1 g87 | exact congrArg (fun b=>Ending.returned (Value.bool b)) (show (decide ((oK (if (x8 l fs rs xs st).1=0 then xq rs xs.length t else x8 l fs rs xs st) (xq rs xs.length u) (vW rs xs t u)).1=0) == eqT t u)=true from by rw [hzq];exact beq_self_eq_true _),hB⟩
 refine zn26 ?_;exact⟨by first | exact absurd hX2 g73 | exact absurd hX1 g81 | exact absurd hY1 g87 | exact congrArg (fun b=>Ending.returned (Value.bool b)) (show (decide ((oK (if (x8 l fs rs xs st).1=0 then xq rs xs.length t else x8 l fs rs xs st) (xq rs xs.length u) (vW rs xs t u)).1=0) == eqT t u)=true from by rw [hzq];exact beq_self_eq_true _),hB⟩
end Go.Proofs.YtdkfnakncaggoaaGreatDoor
namespace Go.Proofs.YtdkfnakncaggoaaGreatDoor
open Go.RowKit Go.ChangeShapes Go.WideShapes Go.Deep Go.Joins
section
variable {H:Type} {enc:TypeId×Value→H} {P:Program} {w:World} {base:Nat} {spare:Nat→Bool} {held:Bool}
theorem F8 {t e ti:TypeId} {f0 f1:Field} {fuel:Nat} {v:Value} {x:DataW H×List MemPlace} (ht:P.underlying t=some (.slice e)) (he:P.underlying e=some (.struct #[f0,f1])) (hsz:P.cellsOf e=2) (o0:f0.offset=0) (o1:f1.offset=1) (e0:f0.type=ti) (e1:f1.type=ti)
    (hi:P.underlying ti=some (.int .i64)) (hc1:P.cellsOf ti=1) (h:DataW.trod enc P w base spare held fuel t [v]=some x):
    ∃ A xs c,v= .slice A (List.length xs) c∧xs.length≤c∧LinksIn w A xs:=by
  obtain⟨A,len,c,rfl,hl,hm,hx⟩:=J9 ht hsz dE h;by_cases h0:len=0
  · subst h0
    exact⟨A,[],c,rfl,Nat.zero_le _,Nat.zero_le _,fun h=>absurd rfl h⟩
  · obtain⟨b,o,rfl,hlt,hc⟩:=hx h0
    obtain⟨xs,hxl,hxs⟩:=vV (p:=fun i (z:Int×Int)=>w.rangeAt b (o + i * 2) [.int .i64 z.1,.int .i64 z.2]) (n:=len) (fun i hi'=>by
      obtain⟨cs,k,y,h1,h2,h3⟩:=hc i hi';obtain⟨v0,v1,n,y0,y1,rfl,g0,g1⟩:=Kq he h1 o0 o1 (by rw [e0];exact hc1) (by rw [e1];exact hc1) h3;rw [e0] at g0;rw [e1] at g1;obtain⟨z1,h5,_,_⟩:=DataW.trod_int hi g0;obtain⟨z2,h6,_,_⟩:=DataW.trod_int hi g1;rw [vZ h5,vZ h6] at h2
      exact⟨(z1,z2),h2⟩)
    subst hxl;exact⟨_,xs,c,rfl,hl,nLT hl hm,fun _=>⟨b,o,rfl,hlt,hxs⟩⟩
theorem F1 {t e ti tl te:TypeId} {f0 f1 g0 g1:Field} {fuel:Nat} {v:Value} {x:DataW H×List MemPlace} (ht:P.underlying t=some (.slice e)) (he:P.underlying e=some (.struct #[f0,f1])) (hsz:P.cellsOf e=2) (o0:f0.offset=0) (o1:f1.offset=1) (e0:f0.type=ti) (e1:f1.type=tl)
    (htl:P.underlying tl=some (.slice te)) (hte:P.underlying te=some (.struct #[g0,g1])) (hst:P.cellsOf te=2) (p0:g0.offset=0) (p1:g1.offset=1) (d0:g0.type=ti) (d1:g1.type=ti) (hcl:P.cellsOf tl=1)
    (hi:P.underlying ti=some (.int .i64)) (hc1:P.cellsOf ti=1) (h:DataW.trod enc P w base spare held fuel t [v]=some x):
    ∃ A gr c,v= .slice A (List.length gr) c∧gr.length≤c∧NodesIn w A gr:=by
  obtain⟨A,len,c,rfl,hl,hm,hx⟩:=J9 ht hsz dE h;by_cases h0:len=0
  · subst h0
    exact⟨A,[],c,rfl,Nat.zero_le _,Nat.zero_le _,fun h=>absurd rfl h⟩
  · obtain⟨b,o,rfl,hlt,hc⟩:=hx h0
    obtain⟨gr,hxl,hxs⟩:=vV (p:=fun i (z:Nd)=>NdIn w b (o + i * 2) z) (n:=len) (fun i hi'=>by
      obtain⟨cs,k,y,h1,h2,h3⟩:=hc i hi';obtain⟨v0,v1,n,y0,y1,rfl,q0,q1⟩:=Kq he h1 o0 o1 (by rw [e0];exact hc1) (by rw [e1];exact hcl) h3;rw [e0] at q0;rw [e1] at q1;obtain⟨z1,h5,_,_⟩:=DataW.trod_int hi q0;obtain⟨A',xs,c',rfl,_,hin⟩:=F8 htl hte hst p0 p1 d0 d1 hi hc1 q1;rw [vZ h5] at h2
      exact⟨⟨z1,xs⟩,A',c',h2,hin⟩)
    subst hxl;exact⟨_,gr,c,rfl,hl,nLT hl hm,fun _=>⟨b,o,rfl,hlt,hxs⟩⟩
theorem one_cell {e:TypeId} {f0:Field} {fuel:Nat} {cs:List Value} {x:DataW H×List MemPlace} (he:P.underlying e=some (.struct #[f0])) (hl:cs.length=1) (o0:f0.offset=0) (c0:P.cellsOf f0.type=1) (h:DataW.trod enc P w base spare held fuel e cs=some x):
    ∃ v0 n y0,cs= [v0]∧DataW.trod enc P w base spare held n f0.type [v0]=some y0:=by
  obtain⟨y0,n,_,_,h0⟩:=trod_struct1 he h
  match cs,hl with
  | [v0],_=>
    simp [o0,c0] at h0;exact⟨v0,n,y0,rfl,h0⟩
end
end Go.Proofs.YtdkfnakncaggoaaGreatDoor
namespace Go.Proofs.YtdkfnakncaggoaaGreatDoor
open Go.RowKit Go.ChangeShapes Go.WideShapes Go.Deep Go.Joins
section
variable {H:Type} {enc:TypeId×Value→H} {P:Program} {w:World} {base:Nat} {spare:Nat→Bool} {held:Bool}
def Lw (P:Program) (t:TypeId) (d:DataW H):Prop:=∀ n ∈ d.weights P t,n≤reachBytes
theorem I3 {e:TypeId}:∀ {l:List (DataW H)} {d:DataW H},d ∈ l→∀ n ∈ d.weights P e,n ∈ DataW.weightsAll P e l
  | [],_,h,_,_=>nomatch h
  | a :: r,d,h,n,hn=>by
    simp only [DataW.weightsAll,List.mem_append]
    rcases List.mem_cons.1 h with rfl | h
    · exact .inl hn
    · exact .inr (I3 h n hn)
theorem T3 {t:TypeId} {fs:Array Field} {fuel:Nat} {cs:List Value} {x:DataW H×List MemPlace} (ht:P.underlying t=some (.struct fs)) (h:DataW.trod enc P w base spare held fuel t cs=some x):
    ∃ n,n < fuel∧cs.length=P.cellsOf t∧∀ (i:Nat) (f:Field),fs[i]? =some f→∃ y,DataW.trod enc P w base spare held n f.type ((cs.drop f.offset).take (P.cellsOf f.type))=some y∧(Lw P t x.1→Lw P f.type y.1):=by
  obtain⟨xs,n,rfl,rfl,hl,hlen,hf⟩:=DataW.trod_struct ht h;refine⟨n,Nat.lt_succ_self n,hl,fun i f hi=>?_⟩;have hil:i < xs.length:=by rw [hlen];exact(Array.getElem?_eq_some_iff.1 hi).1
  have h1:=hf i f hi;rw [List.getElem?_eq_getElem hil] at h1;refine⟨xs[i],h1,fun hw m hm=>hw m ?_⟩;show m ∈ DataW.weights P t (.agg (xs.map (·.1)));simp only [DataW.weights,ht];refine DataW.weights_mem_each (j:=i) (t:=f.type) (d:=(xs[i]).1) ?_ ?_ m hm
  · rw [List.getElem?_map,Array.getElem?_toList,hi];rfl
  · rw [List.getElem?_map,List.getElem?_eq_getElem hil];rfl
theorem slF {t e:TypeId} {sz fuel:Nat} {v:Value} {x:DataW H×List MemPlace} (ht:P.underlying t=some (.slice e)) (hsz:P.cellsOf e=sz) (hpos:0 < sz) (h:DataW.trod enc P w base spare held fuel t [v]=some x):
    ∃ A len c,v= .slice A len c∧len≤c∧c≤yJ∧(len≠0→∃ b o,A=some ⟨b,o,none⟩∧b < w.heap.size∧∀ i,i < len→∃ cs k y,k < fuel∧cs.length=sz∧w.rangeAt b (o + i * sz) cs∧DataW.trod enc P w base spare held k e cs=some y∧(Lw P t x.1→Lw P e y.1)):=by
  rcases DataW.trod_slice ht h with ⟨hc,_⟩ | ⟨a,len,cap,elems,rest,n,rfl,hc,rfl,hb,hl,hm,hlen,hel,_⟩
  · rw [vZ hc]
    exact⟨none,0,0,rfl,Nat.le_refl _,Nat.zero_le _,fun h=>absurd rfl h⟩
  · rw [vZ hc]
    rw [hsz] at hel;have hi:∀ i (hi:i < len),∃ cs',w.cells? base (a.add (i * sz)) sz=some cs'∧DataW.trod enc P w base spare held n e cs'=some (elems[i]'om):=fun i hi=>by
      have key:=hel i hi;rw [List.getElem?_eq_getElem om] at key;exact Option.bind_eq_some_iff.1 key
    refine⟨some a,len,cap,rfl,hl,hm,fun h0=>?_⟩;obtain⟨b,o,s⟩:=a;have hsp:s=none∧b < w.heap.size:=by
      obtain⟨cs,h1,_⟩:=hi 0 om;obtain⟨_,h3,h4⟩:=World.cells?_some h1;have h5:=h4 0 hpos;have h6:cs[0]? =some (cs[0]'om):=List.getElem?_eq_getElem om;have h7:(Addr.add (Addr.add ⟨b,o,s⟩ (0 * sz)) 0)=⟨b,o,s⟩:=by simp [Addr.add]
      rw [h7,h6] at h5;exact⟨World.cell?_spot h5,Go.Clock.block_lt h5⟩
    obtain⟨rfl,hlt⟩:=hsp;refine⟨b,o,rfl,hlt,fun i hil=>?_⟩;obtain⟨cs,h1,h2⟩:=hi i om;obtain⟨_,h3,h4⟩:=World.cells?_some h1;refine⟨cs,n,_,Nat.lt_succ_self n,h3,fun j v hj=>?_,h2,fun hw m hm=>hw m ?_⟩
    · have hjl:=(List.getElem?_eq_some_iff.1 hj).1
      have h5:=h4 j om;rw [Addr.add_mid,Addr.add_mid] at h5;rw [h5];exact hj
    · show m ∈ DataW.weights P t (.slice (elems.map (·.1)) (rest.map (·.1)))
      simp only [DataW.weights,ht,List.mem_cons,List.mem_append];exact .inr (.inl (I3 (List.mem_map.2 ⟨_,List.getElem_mem om,rfl⟩) m hm))
theorem X8 {t:TypeId} {fuel:Nat} {v:Value} {x:DataW H×List MemPlace} (ht:P.underlying t=some .string) (h:DataW.trod enc P w base spare held fuel t [v]=some x):∃ s:ByteArray,v= .string s∧(Lw P t x.1→s.size < 9223372036854775807):=by
  obtain⟨s,h1,rfl,_⟩:=DataW.trod_string ht h;refine⟨s,vZ h1,fun hw=>?_⟩;have:=hw s.data.toList.length (by simp [DataW.weights]);have h2:s.data.toList.length=s.size:=Array.length_toList;unfold reachBytes at this;omega
structure SmT (P:Program) (e ts tstr:TypeId) (f0 f1:Field):Prop where
  he:P.underlying e=some (.struct #[f0,f1])
  hsz:P.cellsOf e=2
  o0:f0.offset=0
  o1:f1.offset=1
  e0:f0.type=tstr
  e1:f1.type=ts
  hts:P.underlying ts=some (.slice e)
  hs:P.underlying tstr=some .string
  cs:P.cellsOf tstr=1
  ct:P.cellsOf ts=1
theorem GX {e ts tstr:TypeId} {f0 f1:Field} (T:SmT P e ts tstr f0 f1):∀ (fuel:Nat) (v:Value) (x:DataW H×List MemPlace),DataW.trod enc P w base spare held fuel ts [v]=some x→∃ A l c,v= .slice A (List.length l) c∧l.length≤c∧SimsIn w A l:=by
  intro fuel
  induction fuel using Nat.strongRecOn with
  | ind fuel ih=>
    intro v x h;obtain⟨A,len,c,rfl,hl,hm,hx⟩:=slF T.hts T.hsz dE h;by_cases h0:len=0
    · subst h0
      exact⟨A,[],c,rfl,Nat.zero_le _,.nil⟩
    · obtain⟨b,o,rfl,hlt,hc⟩:=hx h0
      obtain⟨l,hxl,hxs⟩:=vV (p:=fun i (z:Sm)=>SimAt w b (o + i * 2) z) (n:=len) (fun i hi=>by
        obtain⟨cs,k,y,hk,h1,h2,h3,_⟩:=hc i hi;obtain⟨n,hn,hlc,hf⟩:=T3 T.he h3;obtain⟨y0,g0,_⟩:=hf 0 f0 rfl;obtain⟨y1,g1,_⟩:=hf 1 f1 rfl
        match cs,h1 with
        | [v0,v1],_=>
          rw [T.e0,T.o0,T.cs] at g0;rw [T.e1,T.o1,T.ct] at g1;obtain⟨s,rfl,_⟩:=X8 T.hs (show DataW.trod enc P w base spare held n tstr [v0]=some y0 from g0);obtain⟨A',l',c',rfl,_,hin⟩:=ih n om v1 y1 g1
          exact⟨.mk s l',.mk hlt h2 hin⟩)
      subst hxl;exact⟨_,l,c,rfl,hl,.more (nLT hl hm) hlt hxs⟩
theorem sim_open {e ts tstr:TypeId} {f0 f1:Field} (T:SmT P e ts tstr f0 f1) {fuel:Nat} {v0 v1:Value} {x:DataW H×List MemPlace} (h:DataW.trod enc P w base spare held fuel e [v0,v1]=some x):∃ (s:Sm) (A:Option Addr) (c:Nat),v0= .string s.base∧v1= .slice A s.args.length c∧SimsIn w A s.args:=by
  obtain⟨n,hn,hlc,hf⟩:=T3 T.he h;obtain⟨y0,g0,_⟩:=hf 0 f0 rfl;obtain⟨y1,g1,_⟩:=hf 1 f1 rfl;rw [T.e0,T.o0,T.cs] at g0;rw [T.e1,T.o1,T.ct] at g1;obtain⟨s,rfl,_⟩:=X8 T.hs (show DataW.trod enc P w base spare held n tstr [v0]=some y0 from g0);obtain⟨A',l',c',rfl,_,hin⟩:=GX T n v1 y1 g1;exact⟨.mk s l',A',c',rfl,rfl,hin⟩
structure TmT (P:Program) (m tm ti tstr e ts:TypeId) (f0 f1:Field) (g0 g1 g2 g3 g4:Field):Prop where
  S:SmT P e ts tstr f0 f1
  he:P.underlying m=some (.struct #[g0,g1,g2,g3,g4])
  hsz:P.cellsOf m=6
  o0:g0.offset=0
  o1:g1.offset=1
  o2:g2.offset=2
  o3:g3.offset=3
  o4:g4.offset=5
  e0:g0.type=ti
  e1:g1.type=tstr
  e2:g2.type=ti
  e3:g3.type=e
  e4:g4.type=tm
  htm:P.underlying tm=some (.slice m)
  hi:P.underlying ti=some (.int .i64)
  ci:P.cellsOf ti=1
  ct:P.cellsOf tm=1
section tm
variable {m tm ti tstr e ts:TypeId} {f0 f1 g0 g1 g2 g3 g4:Field}
theorem CY (T:TmT P m tm ti tstr e ts f0 f1 g0 g1 g2 g3 g4) {fuel:Nat} {cs:List Value} {x:DataW H×List MemPlace} (hl:cs.length=6) (h:DataW.trod enc P w base spare held fuel m cs=some x):
    ∃ (k i:Int) (nm:ByteArray) (s:Sm) (A:Option Addr) (c:Nat) (v:Value) (n:Nat) (y:DataW H×List MemPlace),n < fuel∧cs= [.int .i64 k,.string nm,.int .i64 i,.string s.base,.slice A s.args.length c,v]∧SimsIn w A s.args∧DataW.trod enc P w base spare held n tm [v]=some y:=by
  obtain⟨n,hn,hlc,hf⟩:=T3 T.he h;obtain⟨y0,q0,_⟩:=hf 0 g0 rfl;obtain⟨y1,q1,_⟩:=hf 1 g1 rfl;obtain⟨y2,q2,_⟩:=hf 2 g2 rfl;obtain⟨y3,q3,_⟩:=hf 3 g3 rfl;obtain⟨y4,q4,_⟩:=hf 4 g4 rfl
  match cs,hl with
  | [v0,v1,v2,v3,v4,v5],_=>
    rw [T.e0,T.o0,T.ci] at q0;rw [T.e1,T.o1,T.S.cs] at q1;rw [T.e2,T.o2,T.ci] at q2;rw [T.e3,T.o3,T.S.hsz] at q3;rw [T.e4,T.o4,T.ct] at q4;obtain⟨k,h5,_,_⟩:=DataW.trod_int T.hi (show DataW.trod enc P w base spare held n ti [v0]=some y0 from q0);obtain⟨nm,rfl,_⟩:=X8 T.S.hs (show DataW.trod enc P w base spare held n tstr [v1]=some y1 from q1);obtain⟨i,h6,_,_⟩:=DataW.trod_int T.hi (show DataW.trod enc P w base spare held n ti [v2]=some y2 from q2);obtain⟨s,A,c,rfl,rfl,hS⟩:=sim_open T.S (show DataW.trod enc P w base spare held n e [v3,v4]=some y3 from q3);rw [vZ h5,vZ h6];exact⟨k,i,nm,s,A,c,v5,n,y4,hn,rfl,hS,q4⟩
theorem tms_open (T:TmT P m tm ti tstr e ts f0 f1 g0 g1 g2 g3 g4):∀ (fuel:Nat) (v:Value) (x:DataW H×List MemPlace),DataW.trod enc P w base spare held fuel tm [v]=some x→∃ A l c,v= .slice A (List.length l) c∧l.length≤c∧TmsIn w A l:=by
  intro fuel
  induction fuel using Nat.strongRecOn with
  | ind fuel ih=>
    intro v x h;obtain⟨A,len,c,rfl,hl,hm,hx⟩:=slF T.htm T.hsz dE h;by_cases h0:len=0
    · subst h0
      exact⟨A,[],c,rfl,Nat.zero_le _,.nil⟩
    · obtain⟨b,o,rfl,hlt,hc⟩:=hx h0
      obtain⟨l,hxl,hxs⟩:=vV (p:=fun i (z:Tm)=>TmAt w b (o + i * 6) z) (n:=len) (fun i hi=>by
        obtain⟨cs,k,y,hk,h1,h2,h3,_⟩:=hc i hi;obtain⟨kd,ix,nm,s,A1,c1,v',n,y',hn,rfl,hS,h4⟩:=CY T h1 h3;obtain⟨A',l',c',rfl,_,hin⟩:=ih n om v' y' h4
        exact⟨.mk kd nm ix s l',.mk hlt h2 hS hin⟩)
      subst hxl;exact⟨_,l,c,rfl,hl,.more (nLT hl hm) hlt hxs⟩
theorem Ww (T:TmT P m tm ti tstr e ts f0 f1 g0 g1 g2 g3 g4) {fuel:Nat} {cs:List Value} {x:DataW H×List MemPlace} (hl:cs.length=6) (h:DataW.trod enc P w base spare held fuel m cs=some x):
    ∃ (t:Tm) (A:Option Addr) (c:Nat) (B:Option Addr) (d:Nat),cs= [.int .i64 t.kind,.string t.name,.int .i64 t.index,.string t.type.base,.slice A t.type.args.length c,.slice B t.args.length d]∧SimsIn w A t.type.args∧TmsIn w B t.args:=by
  obtain⟨kd,ix,nm,s,A1,c1,v',n,y',hn,rfl,hS,h4⟩:=CY T hl h;obtain⟨A',l',c',rfl,_,hin⟩:=tms_open T n v' y' h4;exact⟨.mk kd nm ix s l',A1,c1,A',c',rfl,hS,hin⟩
end tm
structure GrfT (P:Program) (tg tn e ti tl te:TypeId) (q0 f0 f1 g0 g1:Field):Prop where
  hg:P.underlying tg=some (.struct #[q0])
  hgz:P.cellsOf tg=1
  r0:q0.offset=0
  s0:q0.type=tn
  hcn:P.cellsOf tn=1
  htn:P.underlying tn=some (.slice e)
  he:P.underlying e=some (.struct #[f0,f1])
  hsz:P.cellsOf e=2
  o0:f0.offset=0
  o1:f1.offset=1
  e0:f0.type=ti
  e1:f1.type=tl
  htl:P.underlying tl=some (.slice te)
  hte:P.underlying te=some (.struct #[g0,g1])
  hst:P.cellsOf te=2
  p0:g0.offset=0
  p1:g1.offset=1
  d0:g0.type=ti
  d1:g1.type=ti
  hcl:P.cellsOf tl=1
  hi:P.underlying ti=some (.int .i64)
  hc1:P.cellsOf ti=1
theorem DK {tg tn e ti tl te:TypeId} {q0 f0 f1 g0 g1:Field} (T:GrfT P tg tn e ti tl te q0 f0 f1 g0 g1) {fuel:Nat} {v:Value} {x:DataW H×List MemPlace} (h:DataW.trod enc P w base spare held fuel tg [v]=some x):∃ A gr c,v= .slice A (List.length gr) c∧NodesIn w A gr:=by
  obtain⟨v0,n,y0,h1,h2⟩:=one_cell T.hg rfl T.r0 (by rw [T.s0];exact T.hcn) h;rw [T.s0] at h2;obtain⟨A,gr,c,rfl,_,hin⟩:=F1 T.htn T.he T.hsz T.o0 T.o1 T.e0 T.e1 T.htl T.hte T.hst T.p0 T.p1 T.d0 T.d1 T.hcl T.hi T.hc1 h2;exact⟨A,gr,c,vZ h1,hin⟩
section rl
variable {m tm ti tstr e ts:TypeId} {f0 f1 g0 g1 g2 g3 g4:Field} {tg tn te' tl tk:TypeId} {q0 a0 a1 b0 b1:Field}
theorem RZ {t r:TypeId} {x0 x1 x2 x3 x4:Field} (T:TmT P m tm ti tstr e ts f0 f1 g0 g1 g2 g3 g4) (G:GrfT P tg tn te' ti tl tk q0 a0 a1 b0 b1) (ht:P.underlying t=some (.slice r)) (hr:P.underlying r=some (.struct #[x0,x1,x2,x3,x4])) (hsz:P.cellsOf r=10)
    (o0:x0.offset=0) (o1:x1.offset=1) (o2:x2.offset=2) (o3:x3.offset=3) (o4:x4.offset=4) (t0:x0.type=tstr) (t1:x1.type=tg) (t2:x2.type=ti) (t3:x3.type=ti) (t4:x4.type=m) {fuel:Nat} {v:Value} {x:DataW H×List MemPlace} (h:DataW.trod enc P w base spare held fuel t [v]=some x):
    ∃ A l c,v= .slice A (List.length l) c∧l.length≤c∧RulesIn w A l:=by
  obtain⟨A,len,c,rfl,hl,hm,hx⟩:=slF ht hsz dE h;by_cases h0:len=0
  · subst h0
    exact⟨A,[],c,rfl,Nat.zero_le _,Nat.zero_le _,fun h=>absurd rfl h⟩
  · obtain⟨b,o,rfl,hlt,hc⟩:=hx h0
    obtain⟨l,hxl,hxs⟩:=vV (p:=fun i (z:Rl)=>RlIn w b (o + i * 10) z) (n:=len) (fun i hi=>by
      obtain⟨cs,k,y,hk,h1,h2,h3,_⟩:=hc i hi;obtain⟨n,hn,hlc,hf⟩:=T3 hr h3;obtain⟨y0,p0,_⟩:=hf 0 x0 rfl;obtain⟨y1,p1,_⟩:=hf 1 x1 rfl;obtain⟨y2,p2,_⟩:=hf 2 x2 rfl;obtain⟨y3,p3,_⟩:=hf 3 x3 rfl;obtain⟨y4,p4,_⟩:=hf 4 x4 rfl
      match cs,h1 with
      | [v0,v1,v2,v3,v4,v5,v6,v7,v8,v9],_=>
        rw [t0,o0,T.S.cs] at p0;rw [t1,o1,G.hgz] at p1;rw [t2,o2,T.ci] at p2;rw [t3,o3,T.ci] at p3;rw [t4,o4,T.hsz] at p4;obtain⟨nm,rfl,_⟩:=X8 T.S.hs (show DataW.trod enc P w base spare held n tstr [v0]=some y0 from p0);obtain⟨B,gr,d,rfl,hG⟩:=DK G (show DataW.trod enc P w base spare held n tg [v1]=some y1 from p1);obtain⟨kd,h5,_,_⟩:=DataW.trod_int T.hi (show DataW.trod enc P w base spare held n ti [v2]=some y2 from p2);obtain⟨wt,h6,_,_⟩:=DataW.trod_int T.hi (show DataW.trod enc P w base spare held n ti [v3]=some y3 from p3);obtain⟨tt,A2,c2,B2,d2,h7,hS,hT⟩:=Ww T rfl (show DataW.trod enc P w base spare held n m [v4,v5,v6,v7,v8,v9]=some y4 from p4);rw [vZ h5,vZ h6,h7] at h2
        exact⟨⟨nm,gr,kd,wt,tt⟩,B,d,A2,c2,B2,d2,h2,hG,hS,hT⟩)
    subst hxl;exact⟨_,l,c,rfl,hl,nLT hl hm,fun _=>⟨b,o,rfl,hlt,hxs⟩⟩
theorem F9 {t r:TypeId} {x0 x1 x2 x3:Field} (T:TmT P m tm ti tstr e ts f0 f1 g0 g1 g2 g3 g4) (G:GrfT P tg tn te' ti tl tk q0 a0 a1 b0 b1) (ht:P.underlying t=some (.slice r)) (hr:P.underlying r=some (.struct #[x0,x1,x2,x3])) (hsz:P.cellsOf r=9)
    (o0:x0.offset=0) (o1:x1.offset=1) (o2:x2.offset=2) (o3:x3.offset=3) (t0:x0.type=tstr) (t1:x1.type=tg) (t2:x2.type=ti) (t3:x3.type=m) {fuel:Nat} {v:Value} {x:DataW H×List MemPlace} (hw:Lw P t x.1) (h:DataW.trod enc P w base spare held fuel t [v]=some x):
    ∃ A l c,v= .slice A (List.length l) c∧l.length≤c∧LexesIn w A l:=by
  obtain⟨A,len,c,rfl,hl,hm,hx⟩:=slF ht hsz dE h;by_cases h0:len=0
  · subst h0
    exact⟨A,[],c,rfl,Nat.zero_le _,Nat.zero_le _,fun h=>absurd rfl h⟩
  · obtain⟨b,o,rfl,hlt,hc⟩:=hx h0
    obtain⟨l,hxl,hxs⟩:=vV (p:=fun i (z:Lx)=>LxIn w b (o + i * 9) z) (n:=len) (fun i hi=>by
      obtain⟨cs,k,y,hk,h1,h2,h3,hwy⟩:=hc i hi;obtain⟨n,hn,hlc,hf⟩:=T3 hr h3;obtain⟨y0,p0,hw0⟩:=hf 0 x0 rfl;obtain⟨y1,p1,_⟩:=hf 1 x1 rfl;obtain⟨y2,p2,_⟩:=hf 2 x2 rfl;obtain⟨y3,p3,_⟩:=hf 3 x3 rfl
      match cs,h1 with
      | [v0,v1,v2,v3,v4,v5,v6,v7,v8],_=>
        rw [t0,o0,T.S.cs] at p0;rw [t0] at hw0;rw [t1,o1,G.hgz] at p1;rw [t2,o2,T.ci] at p2;rw [t3,o3,T.hsz] at p3;obtain⟨nm,rfl,hws⟩:=X8 T.S.hs (show DataW.trod enc P w base spare held n tstr [v0]=some y0 from p0);obtain⟨B,gr,d,rfl,hG⟩:=DK G (show DataW.trod enc P w base spare held n tg [v1]=some y1 from p1);obtain⟨wt,h6,_,_⟩:=DataW.trod_int T.hi (show DataW.trod enc P w base spare held n ti [v2]=some y2 from p2);obtain⟨tt,A2,c2,B2,d2,h7,hS,hT⟩:=Ww T rfl (show DataW.trod enc P w base spare held n m [v3,v4,v5,v6,v7,v8]=some y3 from p3);rw [vZ h6,h7] at h2
        exact⟨⟨nm,gr,wt,tt⟩,hws (hw0 (hwy hw)),B,d,A2,c2,B2,d2,h2,hG,hS,hT⟩)
    subst hxl;exact⟨_,l,c,rfl,hl,nLT hl hm,fun _=>⟨b,o,rfl,hlt,hxs⟩⟩
end rl
theorem lw_arg {ts:List TypeId} {ds:List (DataW H)} (h:(DataW.weightsEach P ts ds).all (·≤reachBytes)=true) {j:Nat} {t:TypeId} {d:DataW H} (ht:ts[j]? =some t) (hd:ds[j]? =some d):Lw P t d:=fun n hn=>by
  have:=List.all_eq_true.1 h _ (DataW.weights_mem_each ht hd n hn)
  simpa using this
end
end Go.Proofs.YtdkfnakncaggoaaGreatDoor
namespace Go.Proofs.YtdkfnakncaggoaaGreatDoor
open Go.RowKit Go.ChangeShapes Go.WideShapes Go.Deep Go.Joins
section
variable {H:Type} {enc:TypeId×Value→H} {P:Program} {w:World} {base:Nat} {spare:Nat→Bool} {held:Bool}
structure DtT (P:Program) (e ts ti:TypeId) (f0 f1 f2:Field):Prop where
  he:P.underlying e=some (.struct #[f0,f1,f2])
  hsz:P.cellsOf e=3
  o0:f0.offset=0
  o1:f1.offset=1
  o2:f2.offset=2
  e0:f0.type=ti
  e1:f1.type=ti
  e2:f2.type=ts
  hts:P.underlying ts=some (.slice e)
  hi:P.underlying ti=some (.int .i64)
  ci:P.cellsOf ti=1
  ct:P.cellsOf ts=1
section
variable {e ts ti:TypeId} {f0 f1 f2:Field}
theorem T6 (T:DtT P e ts ti f0 f1 f2) {fuel:Nat} {v0 v1 v2:Value} {x:DataW H×List MemPlace} (h:DataW.trod enc P w base spare held fuel e [v0,v1,v2]=some x):
    ∃ (r l:Int) (n:Nat) (y:DataW H×List MemPlace),n < fuel∧v0= .int .i64 r∧v1= .int .i64 l∧DataW.trod enc P w base spare held n ts [v2]=some y:=by
  obtain⟨n,hn,hlc,hf⟩:=T3 T.he h;obtain⟨y0,g0,_⟩:=hf 0 f0 rfl;obtain⟨y1,g1,_⟩:=hf 1 f1 rfl;obtain⟨y2,g2,_⟩:=hf 2 f2 rfl;rw [T.e0,T.o0,T.ci] at g0;rw [T.e1,T.o1,T.ci] at g1;rw [T.e2,T.o2,T.ct] at g2;obtain⟨r,h5,_,_⟩:=DataW.trod_int T.hi (show DataW.trod enc P w base spare held n ti [v0]=some y0 from g0);obtain⟨l,h6,_,_⟩:=DataW.trod_int T.hi (show DataW.trod enc P w base spare held n ti [v1]=some y1 from g1);exact⟨r,l,n,y2,hn,vZ h5,vZ h6,g2⟩
theorem dts_open (T:DtT P e ts ti f0 f1 f2):∀ (fuel:Nat) (v:Value) (x:DataW H×List MemPlace),DataW.trod enc P w base spare held fuel ts [v]=some x→∃ A l c,v= .slice A (List.length l) c∧l.length≤c∧TresIn w A l:=by
  intro fuel
  induction fuel using Nat.strongRecOn with
  | ind fuel ih=>
    intro v x h;obtain⟨A,len,c,rfl,hl,hm,hx⟩:=slF T.hts T.hsz dE h;by_cases h0:len=0
    · subst h0
      exact⟨A,[],c,rfl,Nat.zero_le _,.nil⟩
    · obtain⟨b,o,rfl,hlt,hc⟩:=hx h0
      obtain⟨l,hxl,hxs⟩:=vV (p:=fun i (z:Dt)=>TreAt w b (o + i * 3) z) (n:=len) (fun i hi=>by
        obtain⟨cs,k,y,hk,h1,h2,h3,_⟩:=hc i hi
        match cs,h1 with
        | [v0,v1,v2],_=>
          obtain⟨r,l,n,y',hn,rfl,rfl,h4⟩:=T6 T h3;obtain⟨A',l',c',rfl,_,hin⟩:=ih n om v2 y' h4
          exact⟨.mk r l l',.mk hlt h2 hin⟩)
      subst hxl;exact⟨_,l,c,rfl,hl,.more (nLT hl hm) hlt hxs⟩
theorem dt_open (T:DtT P e ts ti f0 f1 f2) {fuel:Nat} {v0 v1 v2:Value} {x:DataW H×List MemPlace} (h:DataW.trod enc P w base spare held fuel e [v0,v1,v2]=some x):
    ∃ (t:Dt) (A:Option Addr) (c:Nat),v0= .int .i64 t.rule∧v1= .int .i64 t.lex∧v2= .slice A t.kids.length c∧TresIn w A t.kids:=by
  obtain⟨r,l,n,y',hn,rfl,rfl,h4⟩:=T6 T h;obtain⟨A',l',c',rfl,_,hin⟩:=dts_open T n v2 y' h4;exact⟨.mk r l l',A',c',rfl,rfl,rfl,hin⟩
end
end
end Go.Proofs.YtdkfnakncaggoaaGreatDoor
