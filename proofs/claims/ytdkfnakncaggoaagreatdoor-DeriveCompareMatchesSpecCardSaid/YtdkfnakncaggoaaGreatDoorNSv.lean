/- What these functions of the program compute, at every world: glosswright/simple.Validate$1. What these functions of the program compute, at every world: glosswright/glosswrightref1.To, glosswright/glosswrightref1.noType, glosswright/term.none, glosswright/glosswrightref1.SimpleText. What these functions of the program compute, at every world: glosswright/glosswrightref1.SameType, glosswright/simple.Same. What these functions of the program compute, at every world: glosswright/glosswrightref1.SimpleFault. What these functions of the program compute, at every world: glosswright/simple.Validate. -/
import Derived.Test.YtdkfnakncaggoaaGreatDoorName
import Derived.Test.YtdkfnakncaggoaaGreatDoorTyp
import Derived.Test.YtdkfnakncaggoaaGreatDoorGNodes
import Derived.Test.YtdkfnakncaggoaaGreatDoorU
import Derived.Test.YtdkfnakncaggoaaGreatDoorGrm
namespace Go.Proofs.YtdkfnakncaggoaaGreatDoor
open Go.RowKit
section ok
variable {b:ByteArray} {l:List Sm}
theorem okA (h:b=smE∨b=smT) (k:((l.length:Nat):Int)=0):Zy (.mk b l):= .inl ⟨h,by show l.length=0;omega⟩
theorem okB1 (h:b=smE∨b=smT) (k:¬((l.length:Nat):Int)=0):¬Zy (.mk b l):=by
  rintro (⟨_,h2⟩ | ⟨h2,_⟩)
  · exact k (by have:l.length=0:=h2;omega)
  · have h2:b=⟨#[]⟩:=h2
    rcases h with h | h <;> exact absurd (h.symm.trans h2) dE
theorem okB2 (h:¬(b=smE∨b=smT)) (k:¬b=⟨#[]⟩):¬Zy (.mk b l):=by
  rintro (⟨h2,_⟩ | ⟨h2,_⟩)
  · exact h h2
  · exact k h2
theorem okX (h:b=smE∨b=smT) (k:b=⟨#[]⟩):False:=by rcases h with h | h <;> exact absurd (h.symm.trans k) dE
theorem okD (h:¬(b=smE∨b=smT)) (k:b=⟨#[]⟩):decide (¬((l.length:Nat):Int)=2)=decide (¬Zy (.mk b l)):=by
  refine decide_eq_decide.2 (not_congr ⟨fun e=> .inr ⟨k,by show l.length=2;omega⟩,fun e=>?_⟩);rcases e with ⟨h2,_⟩ | ⟨_,h2⟩
  · exact absurd h2 h
  · have:l.length=2:=h2
    omega
end ok
theorem fn117:zQ Tryz.prog 117=true:=by kernel_rfl
theorem EV:(Tryz.prog.info? 50).map (·.size)=some 1:=by kernel_rfl
theorem xy:(Tryz.prog.info? 52).map (·.size)=some 2:=by kernel_rfl
theorem WQ:(Tryz.prog.info? 9).map (·.size)=some 1:=by kernel_rfl
theorem Vx:(Tryz.prog.info? 52).map (·.zero)=some (some (.agg #[.string ⟨#[]⟩,.slice none 0 0])):=by kernel_rfl
set_option maxRecDepth 100000 in
set_option maxHeartbeats 2000000 in
theorem swk_step {w0:World} {bN bV:Nat} (l0N:w0.heap.size≤bN) (_l0V:w0.heap.size≤bV) (nVN:bV≠bN) {base:ByteArray} {args:List Sm} {A:Option Addr} {c d n:Nat} {w:World} (hS:SimsIn w0 A args) (IH:∀ x ∈ args,∀ (A2:Option Addr) (c2 d2 n2:Nat) (w2:World),SimsIn w0 A2 x.args→n2≤200→d2≤41→Bel w0 w2→Blk w2 bN 3 #[.int .i64 ((n2:Nat):Int)]→Blk w2 bV 175 #[.func (.func 117) #[] #[.pointer (some ⟨bN,0,none⟩),.pointer (some ⟨bV,0,none⟩)]]→Calls Tryz.prog 117 #[.agg #[.string x.base,.slice A2 x.args.length c2],.int .i64 ((d2:Nat):Int),.pointer (some ⟨bN,0,none⟩),.pointer (some ⟨bV,0,none⟩)] w2 fun e w'=>e= .returned (.int .i64 (swk x d2 n2).2)∧ChG (fun g=>g=bN) w2 w'∧Blk w' bN 3 #[.int .i64 (((swk x d2 n2).1:Nat):Int)]) (hn:n≤200) (hd:d≤41) (hB:Bel w0 w) (hbN:Blk w bN 3 #[.int .i64 ((n:Nat):Int)]) (hbV:Blk w bV 175 #[.func (.func 117) #[] #[.pointer (some ⟨bN,0,none⟩),.pointer (some ⟨bV,0,none⟩)]]):Calls Tryz.prog 117 #[.agg #[.string base,.slice A args.length c],.int .i64 ((d:Nat):Int),.pointer (some ⟨bN,0,none⟩),.pointer (some ⟨bV,0,none⟩)] w fun e w'=>e= .returned (.int .i64 (swk (.mk base args) d n).2)∧ChG (fun g=>g=bN) w w'∧Blk w' bN 3 #[.int .i64 (((swk (.mk base args) d n).1:Nat):Int)]:=by
 have hmx:=hS.le;unfold yJ at hmx;have ltN:=hbN.lt;have ltV:=hbV.lt;have hC:ChG (fun g=>g=bN) w w:=ChG.refl _ _;refine enter Tryz.func117 Tryz.ntmps117 rfl (Nat.le_of_ble_eq_true rfl) (zn2 ?_);refine qW (v:= .agg #[_,_]) (cs:=#[_,_]) rfl rfl (fun b4 w1 hb4 hs hr=>?_);have:=nLL hbN.lt hr;have:=nLL hbV.lt hr;replace hB:=hB.tr0 hs;replace hbN:=hbN.tr0 hs;replace hbV:=hbV.tr0 hs;replace hC:=hC.st hs (by simp);refine zn7 ?_;refine xY (v:= .int _ _) hbN rfl rfl qw (by first | decide | simp) rfl rfl (fun w2 hq hs=>?_);replace hB:=hB.tr1 hs l0N;replace hbV:=hbV.tr1 hs om;replace hC:=hC.st hs (fun g hg=>by rw [List.mem_singleton.1 hg];first | exact .inl rfl | exact .inr or_hC_bN);replace hb4:=hb4.tr1 hs om;replace hbN:=hq;refine zn4 ?_;refine x7 [13,14,15,16,17,18] 18 (.bool (decide (200 < n + 1∨40 < d))) nu ?_ (fun gq=>?_)
 ·refine zn4 ?_;refine zj 15 rfl (fun g15=>?_) (fun g15=>?_)
  ·refine zn3 ?_;refine zZ (e_R ⟨rfl,agA,?_⟩);exact clA
  refine zn5 ?_;refine zZ (e_R ⟨rfl,agA,?_⟩);exact clA
 refine e_S ?_;refine zw rfl (fun c18=>?_) (fun c18=>?_)
 ·refine zn8 ?_;have e:swk (.mk base args) d n=(n + 1,1):=by rw [Kk,if_pos c18]
  rw [e];exact⟨rfl,hC,hbN⟩
 refine zn3 ?_;refine x7 [7,19,20,21,22,23,24,25,26] 7 (.bool (decide (base=smE∨base=smT))) nu ?_ (fun gq=>?_)
 ·refine zn5 ?_;refine zj 22 rfl (fun g22=>?_) (fun g22=>?_)
  ·refine zn5 ?_;refine zZ (e_R ⟨rfl,agA,?_⟩);show Value.bool _=Value.bool _
   first | exact congrArg Value.bool (decide_eq_true (Or.inl g22)).symm | exact congrArg Value.bool (decide_eq_decide.2 ⟨Or.inr,fun h=>h.resolve_left g22⟩)
  refine zn8 ?_;refine zZ (e_R ⟨rfl,agA,?_⟩);show Value.bool _=Value.bool _
  first | exact congrArg Value.bool (decide_eq_true (Or.inl g22)).symm | exact congrArg Value.bool (decide_eq_decide.2 ⟨Or.inr,fun h=>h.resolve_left g22⟩)
 refine zn3 ?_;refine x7 [27,28,29,30,31,32,33,34,35,36,37,38,39,40,41,42,43,44,45] 45 (.bool (decide (¬Zy (.mk base args)))) nu ?_ (fun gq=>?_)
 ·refine zn3 ?_;refine zj 28 rfl (fun g28=>?_) (fun g28=>?_)
  ·refine yq ?_;refine zj 34 rfl (fun g34=>?_) (fun g34=>?_)
   ·refine vx ?_;refine zZ (e_R ⟨rfl,agA,?_⟩);show Value.bool _=Value.bool _
    first | exact(okX g28 g38).elim | exact congrArg Value.bool (decide_eq_false (fun h=>h (okA g28 g34))).symm | exact congrArg Value.bool (decide_eq_true (okB1 g28 g34)).symm | exact congrArg Value.bool (decide_eq_true (okB2 g28 g38)).symm | exact congrArg Value.bool (okD g28 g38)
   refine zn8 ?_;refine zj 38 rfl (fun g38=>?_) (fun g38=>?_)
   ·refine yj ?_;refine zZ (e_R ⟨rfl,agA,?_⟩);show Value.bool _=Value.bool _
    first | exact(okX g28 g38).elim | exact congrArg Value.bool (decide_eq_false (fun h=>h (okA g28 g34))).symm | exact congrArg Value.bool (decide_eq_true (okB1 g28 g34)).symm | exact congrArg Value.bool (decide_eq_true (okB2 g28 g38)).symm | exact congrArg Value.bool (okD g28 g38)
   refine zn8 ?_;refine zZ (e_R ⟨rfl,agA,?_⟩);show Value.bool _=Value.bool _
   first | exact(okX g28 g38).elim | exact congrArg Value.bool (decide_eq_false (fun h=>h (okA g28 g34))).symm | exact congrArg Value.bool (decide_eq_true (okB1 g28 g34)).symm | exact congrArg Value.bool (decide_eq_true (okB2 g28 g38)).symm | exact congrArg Value.bool (okD g28 g38)
  refine oY ?_;refine zj 38 rfl (fun g38=>?_) (fun g38=>?_)
  ·refine yj ?_;refine zZ (e_R ⟨rfl,agA,?_⟩);show Value.bool _=Value.bool _
   first | exact(okX g28 g38).elim | exact congrArg Value.bool (decide_eq_false (fun h=>h (okA g28 g34))).symm | exact congrArg Value.bool (decide_eq_true (okB1 g28 g34)).symm | exact congrArg Value.bool (decide_eq_true (okB2 g28 g38)).symm | exact congrArg Value.bool (okD g28 g38)
  refine zn8 ?_;refine zZ (e_R ⟨rfl,agA,?_⟩);show Value.bool _=Value.bool _
  first | exact(okX g28 g38).elim | exact congrArg Value.bool (decide_eq_false (fun h=>h (okA g28 g34))).symm | exact congrArg Value.bool (decide_eq_true (okB1 g28 g34)).symm | exact congrArg Value.bool (decide_eq_true (okB2 g28 g38)).symm | exact congrArg Value.bool (okD g28 g38)
 refine e_S ?_;refine zw rfl (fun c45=>?_) (fun c45=>?_)
 ·have e:swk (.mk base args) d n=(n + 1,5):=by rw [Kk,if_neg c18,if_neg c45]
  refine zn8 ?_;rw [e];exact⟨rfl,hC,hbN⟩
 have hok:Zy (.mk base args):=Decidable.not_not.1 c45;have he:swk (.mk base args) d n=V6 args (d + 1) (n + 1):=by rw [Kk,if_neg c18,if_pos hok];rfl
 refine yj ?_;refine q8 [6,9,10,49,50,51,52,53,54,55,56,57,58,59,60,61] (fun m g w'=>∃ j nj:Nat,j≤args.length∧m=args.length - j∧g 49= .int .i64 j∧nj≤200∧V6 args (d + 1) (n + 1)=V6 (args.drop j) (d + 1) nj∧Bel w0 w'∧Blk w' bN 3 #[.int .i64 ((nj:Nat):Int)]∧Blk w' bV 175 #[.func (.func 117) #[] #[.pointer (some ⟨bN,0,none⟩),.pointer (some ⟨bV,0,none⟩)]]∧ChG (fun g=>g=bN) w w') (args.length) ?_ (fun m g8 w3 hI=>?_)
 ·exact⟨0,n + 1,Nat.zero_le _,rfl,rfl,by omega,rfl,hB,hbN,hbV,hC⟩
 obtain⟨j,nj,hj,hmj,h49,hnj,hR,hB,hbN,hbV,hC⟩:=hI;refine zJ 49 (.int .i64 j) h49 nu (zn6 ?_);refine zw rfl (fun c50=>?_) (fun c50=>?_)
 ·have hjl:j < args.length:=by omega
  obtain⟨sb,so,A',c',rfl,hsb,hsr,hs2⟩:=hS.at_ hjl;have hdr:args.drop j=args[j] :: args.drop (j + 1):=List.drop_eq_getElem_cons hjl;rw [hdr,V6] at hR;refine zn8 ?_;refine qZ (cs:=#[.string ⟨#[]⟩,.slice none 0 0]) Vx rfl (fun b9 w4 hb9 hs hr=>?_);have:=nLL hbN.lt hr;have:=nLL hbV.lt hr;have or_hC_b9:=(nLT hC.size hr)
  have lo9:=nLT (Bel.size hB) hr;replace hB:=hB.tr0 hs;replace hbN:=hbN.tr0 hs;replace hbV:=hbV.tr0 hs;replace hC:=hC.st hs (by simp);refine zk hb9 rfl rfl xy rfl zK (fun w5 hq hs=>?_);replace hB:=hB.tr1 hs lo9;replace hbN:=hbN.tr1 hs om;replace hbV:=hbV.tr1 hs om;replace hC:=hC.st hs (fun g hg=>by rw [List.mem_singleton.1 hg];first | exact .inl rfl | exact .inr or_hC_b9);replace hb9:=hq;refine zn8 ?_;refine xJ rfl fn117 (IH _ (List.getElem_mem hjl) A' c' (d + 1) nj _ hs2 hnj om hB hbN hbV) rfl rfl (fun e' w6 hr=>?_);obtain⟨rfl,hC2,hbN2⟩:=hr;replace hB:=hB.chG hC2 (fun g hg=>by rw [show g=bN from hg];exact l0N);replace hbV:=hbV.chG hC2 (fun hx=>by have hx:bV=bN:=hx;omega);replace hC:=hC.trans hC2 (fun g hg=> .inl hg);replace hbN:=hbN2;refine⟨_,rfl,?_⟩;refine zn9 ?_;refine zw rfl (fun c59=>?_) (fun c59=>?_)
  ·rw [if_neg c59] at hR;refine jq ?_;rw [he,hR];exact⟨rfl,hC,hbN⟩
  have c59:(swk (args[j]'hjl) (d + 1) nj).2=0:=Decidable.not_not.1 c59;rw [if_pos c59] at hR;obtain⟨_,_,e1,e2⟩:=Rq _ _ _ c59;have hn3:(swk (args[j]'hjl) (d + 1) nj).1≤200:=by rw [e1];exact e2
  have hR3:=hR;refine zn7 ?_;refine xv (args.length - (j + 1)) om agA ?_;exact⟨j + 1,_,by omega,rfl,rfl,hn3,hR3,hB,hbN,hbV,hC⟩
 have hje:j=args.length:=by omega
 rw [hje,List.drop_length,V6] at hR;refine yj ?_;rw [he,hR];exact⟨rfl,hC,hbN⟩
theorem swk_anyK {w0:World} {bN bV:Nat} (l0N:w0.heap.size≤bN) (_l0V:w0.heap.size≤bV) (nVN:bV≠bN):∀ (k:Nat) (s:Sm),SizeOf.sizeOf s < k→∀ (A:Option Addr) (c d n:Nat) (w:World),SimsIn w0 A s.args→n≤200→d≤41→Bel w0 w→Blk w bN 3 #[.int .i64 ((n:Nat):Int)]→Blk w bV 175 #[.func (.func 117) #[] #[.pointer (some ⟨bN,0,none⟩),.pointer (some ⟨bV,0,none⟩)]]→Calls Tryz.prog 117 #[.agg #[.string s.base,.slice A s.args.length c],.int .i64 ((d:Nat):Int),.pointer (some ⟨bN,0,none⟩),.pointer (some ⟨bV,0,none⟩)] w fun e w'=>e= .returned (.int .i64 (swk s d n).2)∧ChG (fun g=>g=bN) w w'∧Blk w' bN 3 #[.int .i64 (((swk s d n).1:Nat):Int)]:=by
  intro k
  induction k with
  | zero=>intro s h;omega
  | succ k ih=>
    intro s h A c d n w hS hn hd hB hbN hbV;cases s with
    | mk base args=>exact swk_step (base:=base) (args:=args) l0N _l0V nVN hS (fun x hx A2 c2 d2 n2 w2 h1 h2 h3 h4 h5 h6=>ih x (by have:=List.sizeOf_lt_of_mem hx;simp only [Sm.mk.sizeOf_spec] at h;omega) A2 c2 d2 n2 w2 h1 h2 h3 h4 h5 h6) hn hd hB hbN hbV
theorem swk_any {w0:World} {bN bV:Nat} (l0N:w0.heap.size≤bN) (_l0V:w0.heap.size≤bV) (nVN:bV≠bN)  (s:Sm) (A:Option Addr) (c d n:Nat) (w:World):SimsIn w0 A s.args→n≤200→d≤41→Bel w0 w→Blk w bN 3 #[.int .i64 ((n:Nat):Int)]→Blk w bV 175 #[.func (.func 117) #[] #[.pointer (some ⟨bN,0,none⟩),.pointer (some ⟨bV,0,none⟩)]]→Calls Tryz.prog 117 #[.agg #[.string s.base,.slice A s.args.length c],.int .i64 ((d:Nat):Int),.pointer (some ⟨bN,0,none⟩),.pointer (some ⟨bV,0,none⟩)] w fun e w'=>e= .returned (.int .i64 (swk s d n).2)∧ChG (fun g=>g=bN) w w'∧Blk w' bN 3 #[.int .i64 (((swk s d n).1:Nat):Int)]:=swk_anyK l0N _l0V nVN (SizeOf.sizeOf s + 1) s (Nat.lt_succ_self _) A c d n w
end Go.Proofs.YtdkfnakncaggoaaGreatDoor
namespace Go.Proofs.YtdkfnakncaggoaaGreatDoor
open Go.RowKit
theorem H2 {w:World} {b c1 c2:Nat} {A1 A2:Option Addr} {s t:Sm} (hb:Blk w b 52 #[.string s.base,.slice A1 s.args.length c1,.string t.base,.slice A2 t.args.length c2]) (h1:SimsIn w A1 s.args) (h2:SimsIn w A2 t.args):SimsIn w (some ⟨b,0,none⟩) [s,t]:=by
  refine .more (by simp [yJ]) hb.lt (fun k hk=>?_)
  match k,hk with
  | 0,_=>
    rw [show [s,t][0]=Sm.mk s.base s.args from Sm.eta s];refine SimAt.mk (c:=c1) hb.lt (fun i v hv=>?_) h1
    match i,hv with
    | 0,hv=>exact hb.cell hv
    | 1,hv=>exact hb.cell hv
    | i + 2,hv=>simp at hv
  | 1,_=>
    rw [show [s,t][1]=Sm.mk t.base t.args from Sm.eta t];refine SimAt.mk (c:=c2) hb.lt (fun i v hv=>?_) h2
    match i,hv with
    | 0,hv=>exact hb.cell hv
    | 1,hv=>exact hb.cell hv
    | i + 2,hv=>simp at hv
def tb (τ:Ts):ByteArray:=⟨τ.txt.toArray⟩
theorem Y7 (τ:Ts):(tb τ).size=τ.txt.length:=by rw [← IY];rfl
theorem tb_eq (a b:Ts):decide (tb a=tb b)=a.eqb b:=by
  by_cases h:a=b
  · subst h;rw [decide_eq_true rfl,(Ts.eqb_iff).2 rfl]
  · rw [decide_eq_false (fun e=>h (Ts.txt_inj (by have:=congrArg bl e;exact this)))]
    cases e:a.eqb b with
    | true=>exact absurd (Ts.eqb_iff.1 e) h
    | false=>rfl
theorem tb_leaf (t:Bool):tb (.b t)=(Ts.b t).sm.base:=by cases t <;> rfl
theorem tb_f (x y:Ts):(⟨#[40]⟩:ByteArray) ++ tb x ++ ⟨#[32]⟩ ++ tb y ++ ⟨#[41]⟩=tb (.f x y):=by
  refine C6 ?_;simp only [bl_app];show [40] ++ x.txt ++ [32] ++ y.txt ++ [41]=40 :: (x.txt ++ 32 :: (y.txt ++ [41]));simp
theorem ts_leaf {τ:Ts} (h:¬τ.sm.base=⟨#[]⟩):∃ t,τ= .b t:=by
  cases τ with
  | b t=>exact⟨t,rfl⟩
  | f x y=>exact absurd rfl h
theorem ts_fun {τ:Ts} (h:τ.sm.base=⟨#[]⟩):∃ x y,τ= .f x y:=by
  cases τ with
  | b t=>exact absurd h (by cases t <;> decide)
  | f x y=>exact⟨x,y,rfl⟩
theorem HJ:zQ Tryz.prog 124=true:=by kernel_rfl
theorem to_any (A1 A2:Option Addr) (c1 c2:Nat) (s t:Sm) (w:World) (h1:SimsIn w A1 s.args) (h2:SimsIn w A2 t.args):Calls Tryz.prog 115 #[.agg #[.string s.base,.slice A1 s.args.length c1],.agg #[.string t.base,.slice A2 t.args.length c2]] w fun e w'=>(∃ b,e= .returned (.agg #[.string ⟨#[]⟩,.slice (some ⟨b,0,none⟩) 2 2])∧SimsIn w' (some ⟨b,0,none⟩) [s,t])∧Bel w w':=by
 refine enter Tryz.func115 Tryz.ntmps115 rfl (Nat.le_of_ble_eq_true rfl) ?_;have hB:Bel w w:=Below.refl _ _;refine zn2 ?_;refine qW (v:= .agg #[_,_]) (cs:=#[_,_]) rfl rfl (fun b2 w1 hb2 hs hr=>?_);replace hB:=hB.tr0 hs;refine qW (v:= .agg #[_,_]) (cs:=#[_,_]) rfl rfl (fun b3 w2 hb3 hs hr=>?_);replace hB:=hB.tr0 hs;replace hb2:=hb2.tr0 hs;refine qZ (cs:=#[.string ⟨#[]⟩,.slice none 0 0]) Vx rfl (fun b4 w3 hb4 hs hr=>?_);have lo4:=nLT (Bel.size hB) hr;replace hB:=hB.tr0 hs;replace hb2:=hb2.tr0 hs;replace hb3:=hb3.tr0 hs;refine zn6 ?_;refine qJ (cs:=#[_,_,_,_]) [(0,.agg _),(1,.agg _)] rfl U50 xy Vx dE dE kR rfl (fun b7 w4 hb7 hs hr=>?_);have:=nLL hb4.lt hr;replace hB:=hB.tr0 hs;replace hb4:=hb4.tr0 hs;refine wl (MK (v0:= .slice _ _ _) (fun v0=>#[.string ⟨#[]⟩,v0]) rfl kR) ?_;refine zk hb4 rfl rfl xy rfl zK (fun w5 hq hs=>?_);replace hB:=hB.tr1 hs lo4;replace hb7:=hb7.tr1 hs om;replace hb4:=hq;refine zn3 ?_;refine x5 (.inl rfl) rfl (zy U52 rfl rfl hb4.range0 xy) ?_;exact⟨⟨b7,rfl,H2 hb7 (h1.mono hB) (h2.mono hB)⟩,hB⟩
theorem Qq (A:Option Addr) (c:Nat) (s:Sm) (w:World):Calls Tryz.prog 92 #[.agg #[.string s.base,.slice A s.args.length c]] w fun e w'=>e= .returned (.bool (decide (QV s)))∧Bel w w':=by
 refine enter Tryz.func92 Tryz.ntmps92 rfl (Nat.le_of_ble_eq_true rfl) ?_;have hB:Bel w w:=Below.refl _ _;refine zn2 ?_;refine qW (v:= .agg #[_,_]) (cs:=#[_,_]) rfl rfl (fun b1 w1 hb1 hs hr=>?_);replace hB:=hB.tr0 hs;refine zn4 ?_;refine x7 [2,3,4,5,6,7,8,9,10,11] 2 (.bool (decide (QV s))) nu ?_ (fun gq=>?_)
 ·refine zn5 ?_;refine zj 6 rfl (fun g6=>?_) (fun g6=>?_)
  ·refine yq ?_;refine zZ (e_R ⟨rfl,agA,?_⟩);show Value.bool _=Value.bool _
   first | exact congrArg Value.bool (decide_eq_decide.2 ⟨fun e=>⟨g6,by omega⟩,fun e=>by have:=e.2;omega⟩) | exact congrArg Value.bool (decide_eq_false (fun e=>g6 e.1)).symm
  refine zn6 ?_;refine zZ (e_R ⟨rfl,agA,?_⟩);show Value.bool _=Value.bool _
  first | exact congrArg Value.bool (decide_eq_decide.2 ⟨fun e=>⟨g6,by omega⟩,fun e=>by have:=e.2;omega⟩) | exact congrArg Value.bool (decide_eq_false (fun e=>g6 e.1)).symm
 refine zn3 ?_;exact⟨rfl,hB⟩
theorem S9 (A:Option Addr) (c:Nat) (s:Sm) (w:World):Calls Tryz.prog 100 #[.agg #[.string s.base,.slice A s.args.length c]] w fun e w'=>e= .returned (.bool (decide (QV s)))∧Bel w w':=by
 refine enter Tryz.func100 Tryz.ntmps100 rfl (Nat.le_of_ble_eq_true rfl) ?_;have hB:Bel w w:=Below.refl _ _;refine zn2 ?_;refine qW (v:= .agg #[_,_]) (cs:=#[_,_]) rfl rfl (fun b1 w1 hb1 hs hr=>?_);replace hB:=hB.tr0 hs;refine zn4 ?_;refine x7 [2,3,4,5,6,7,8,9,10,11] 2 (.bool (decide (QV s))) nu ?_ (fun gq=>?_)
 ·refine zn5 ?_;refine zj 6 rfl (fun g6=>?_) (fun g6=>?_)
  ·refine yq ?_;refine zZ (e_R ⟨rfl,agA,?_⟩);show Value.bool _=Value.bool _
   first | exact congrArg Value.bool (decide_eq_decide.2 ⟨fun e=>⟨g6,by omega⟩,fun e=>by have:=e.2;omega⟩) | exact congrArg Value.bool (decide_eq_false (fun e=>g6 e.1)).symm
  refine zn6 ?_;refine zZ (e_R ⟨rfl,agA,?_⟩);show Value.bool _=Value.bool _
  first | exact congrArg Value.bool (decide_eq_decide.2 ⟨fun e=>⟨g6,by omega⟩,fun e=>by have:=e.2;omega⟩) | exact congrArg Value.bool (decide_eq_false (fun e=>g6 e.1)).symm
 refine zn3 ?_;exact⟨rfl,hB⟩
set_option maxHeartbeats 1000000 in
theorem stx_step {τ:Ts} {A:Option Addr} {c:Nat} {w:World} (hS:SimsIn w A τ.sm.args) (hlen:τ.txt.length≤1000000) (IH:∀ x ∈ τ.kids,∀ (A2:Option Addr) (c2:Nat) (w2:World),SimsIn w2 A2 x.sm.args→x.txt.length≤1000000→Calls Tryz.prog 124 #[.agg #[.string (x).sm.base,.slice A2 (x).sm.args.length c2]] w2 fun e w'=>e= .returned (.string (tb x))∧Bel w2 w'):Calls Tryz.prog 124 #[.agg #[.string (τ).sm.base,.slice A (τ).sm.args.length c]] w fun e w'=>e= .returned (.string (tb τ))∧Bel w w':=by
 refine enter Tryz.func124 Tryz.ntmps124 rfl (Nat.le_of_ble_eq_true rfl) ?_;have hB:Bel w w:=Below.refl _ _;refine zn2 ?_;refine qW (v:= .agg #[_,_]) (cs:=#[_,_]) rfl rfl (fun b1 w1 hb1 hs hr=>?_);replace hB:=hB.tr0 hs;refine vx ?_;refine zw rfl (fun c5=>?_) (fun c5=>?_)
 ·obtain⟨t,rfl⟩:=ts_leaf c5;refine yq ?_;exact⟨congrArg (fun z=>Ending.returned (.string z)) (tb_leaf t).symm,hB⟩
 obtain⟨x,y,rfl⟩:=ts_fun (Decidable.not_not.1 c5);obtain⟨sb,so,A1,c1,rfl,hsb,hr1,hs1⟩:=hS.at_ (k:=0) (by simp [Ts.sm,Sm.args]);obtain⟨_,_,A2,c2,e2,_,hr2,hs2⟩:=hS.at_ (k:=1) (by simp [Ts.sm,Sm.args]);cases e2;have hl:x.txt.length + y.txt.length + 3≤1000000:=by simp [Ts.txt] at hlen;omega
 refine zn3 ?_;refine yk 15 [8,9,10,11,12,13,14,15,16,17,18,19,20,21,2] (fun _=>false) (fun ix v wv=>match ix with | 0=>v= .pointer (some ⟨b1,0 + 1,none⟩) | 1=>v= .slice (some ⟨sb,so,none⟩) 2 c | 2=>v= .pointer (some ⟨sb,so + 0 * 2,none⟩) | 3=>v= .agg #[.string x.sm.base,.slice A1 x.sm.args.length c1] | 4=>v= .string (tb x) | 5=>v= .string ((⟨#[40]⟩:ByteArray) ++ tb x) | 6=>v= .string ((⟨#[40]⟩:ByteArray) ++ tb x ++ (⟨#[32]⟩:ByteArray)) | 7=>v= .pointer (some ⟨b1,0 + 1,none⟩) | 8=>v= .slice (some ⟨sb,so,none⟩) 2 c | 9=>v= .pointer (some ⟨sb,so + 1 * 2,none⟩) | 10=>v= .agg #[.string y.sm.base,.slice A2 y.sm.args.length c2] | 11=>v= .string (tb y) | 12=>v= .string ((⟨#[40]⟩:ByteArray) ++ tb x ++ (⟨#[32]⟩:ByteArray) ++ tb y) | 13=>v= .string ((⟨#[40]⟩:ByteArray) ++ tb x ++ (⟨#[32]⟩:ByteArray) ++ tb y ++ (⟨#[41]⟩:ByteArray)) | 14=>v= .string ((⟨#[40]⟩:ByteArray) ++ tb x ++ (⟨#[32]⟩:ByteArray) ++ tb y ++ (⟨#[41]⟩:ByteArray)) | _=>True) kR kR ?_ ?_ ?_
 ·intro ix v wv wv2 h hs
  match ix,h with
  | 0,h=>exact h
  | 1,h=>exact h
  | 2,h=>exact h
  | 3,h=>exact h
  | 4,h=>exact h
  | 5,h=>exact h
  | 6,h=>exact h
  | 7,h=>exact h
  | 8,h=>exact h
  | 9,h=>exact h
  | 10,h=>exact h
  | 11,h=>exact h
  | 12,h=>exact h
  | 13,h=>exact h
  | 14,h=>exact h
  | _ + 15,h=>exact trivial
 ·intro ix o hix hoq gg wx hs hd hdis
  match ix,hix,hoq with
  | 0,_,hoq=>
   cases sI hoq;exact oV (vX U52 EV dE rfl rfl rfl) rfl
  | 1,_,hoq=>
   cases sI hoq;replace hb1:=hb1.tr0 hs;refine z4 8 (.pointer (some ⟨b1,0 + 1,none⟩)) (hd 0 (zz kR)) nu ?_;exact oV (qk (v:= .slice _ _ _) U50 rfl rfl (hb1.cell rfl)) rfl
  | 2,_,hoq=>
   cases sI hoq;refine z4 9 (.slice (some ⟨sb,so,none⟩) 2 c) (hd 1 (zz kR)) nu ?_;exact oV (yQ (i:=0) U50 xy rfl rfl dE rfl) rfl
  | 3,_,hoq=>
   cases sI hoq;replace hB:=hB.tr0 hs;refine z4 10 (.pointer (some ⟨sb,so + 0 * 2,none⟩)) (hd 2 (zz kR)) nu ?_;exact oV (zW U52 rfl rfl (hB.range hsb hr1) xy) rfl
  | 4,_,hoq=>
   cases sI hoq;replace hB:=hB.tr0 hs;refine z4 11 (.agg #[.string x.sm.base,.slice A1 x.sm.args.length c1]) (hd 3 (zz kR)) nu ?_;refine qx HJ (IH x (List.mem_cons_self ..) A1 c1 wx (hs1.mono hB) om) rfl (fun e' w2 hr=>?_);obtain⟨rfl,hs⟩:=hr;exact⟨_,rfl,sB hs,rfl,zX⟩
  | 5,_,hoq=>
   cases sI hoq;refine z4 12 (.string (tb x)) (hd 4 (zz kR)) nu ?_;exact oV (O9 rfl rfl (by rw [Y7];show 1 + _≤_;omega)) rfl
  | 6,_,hoq=>
   cases sI hoq;refine z4 13 (.string ((⟨#[40]⟩:ByteArray) ++ tb x)) (hd 5 (zz kR)) nu ?_;exact oV (O9 rfl rfl (by rw [ByteArray.size_append,Y7];show 1 + _ + 1≤_;omega)) rfl
  | 7,_,hoq=>
   cases sI hoq;exact oV (vX U52 EV dE rfl rfl rfl) rfl
  | 8,_,hoq=>
   cases sI hoq;replace hb1:=hb1.tr0 hs;refine z4 15 (.pointer (some ⟨b1,0 + 1,none⟩)) (hd 7 (zz kR)) nu ?_;exact oV (qk (v:= .slice _ _ _) U50 rfl rfl (hb1.cell rfl)) rfl
  | 9,_,hoq=>
   cases sI hoq;refine z4 16 (.slice (some ⟨sb,so,none⟩) 2 c) (hd 8 (zz kR)) nu ?_;exact oV (yQ (i:=1) U50 xy rfl rfl dE rfl) rfl
  | 10,_,hoq=>
   cases sI hoq;replace hB:=hB.tr0 hs;refine z4 17 (.pointer (some ⟨sb,so + 1 * 2,none⟩)) (hd 9 (zz kR)) nu ?_;exact oV (zW U52 rfl rfl (hB.range hsb hr2) xy) rfl
  | 11,_,hoq=>
   cases sI hoq;replace hB:=hB.tr0 hs;refine z4 18 (.agg #[.string y.sm.base,.slice A2 y.sm.args.length c2]) (hd 10 (zz kR)) nu ?_;refine qx HJ (IH y (List.mem_cons_of_mem _ (List.mem_cons_self ..)) A2 c2 wx (hs2.mono hB) om) rfl (fun e' w2 hr=>?_);obtain⟨rfl,hs⟩:=hr;exact⟨_,rfl,sB hs,rfl,zX⟩
  | 12,_,hoq=>
   cases sI hoq;refine z4 14 (.string ((⟨#[40]⟩:ByteArray) ++ tb x ++ (⟨#[32]⟩:ByteArray))) (hd 6 (zz kR)) nu (z4 19 (.string (tb y)) (hd 11 (zz kR)) nu ?_);exact oV (O9 rfl rfl (by rw [ByteArray.size_append,ByteArray.size_append,Y7,Y7];show 1 + _ + 1 + _≤_;omega)) rfl
  | 13,_,hoq=>
   cases sI hoq;refine z4 20 (.string ((⟨#[40]⟩:ByteArray) ++ tb x ++ (⟨#[32]⟩:ByteArray) ++ tb y)) (hd 12 (zz kR)) nu ?_;exact oV (O9 rfl rfl (by rw [ByteArray.size_append,ByteArray.size_append,ByteArray.size_append,Y7,Y7];show 1 + _ + 1 + _ + 1≤_;omega)) rfl
  | 14,_,hoq=>
   cases sI hoq;refine z4 21 (.string ((⟨#[40]⟩:ByteArray) ++ tb x ++ (⟨#[32]⟩:ByteArray) ++ tb y ++ (⟨#[41]⟩:ByteArray))) (hd 13 (zz kR)) nu ?_;exact oV (u7 (v:= .string _) rfl) rfl
  | _ + 15,hix,_=>exact absurd hix om
 intro gg w2 hs hR hdis;replace hB:=hB.tr0 hs;refine qK 2 (.string ((⟨#[40]⟩:ByteArray) ++ tb x ++ (⟨#[32]⟩:ByteArray) ++ tb y ++ (⟨#[41]⟩:ByteArray))) (hR 14 dE) nu (zn4 ?_);exact⟨congrArg (fun z=>Ending.returned (.string z)) (tb_f x y),hB⟩
theorem WW:∀ (k:Nat) (τ:Ts),τ.size < k→∀ (A:Option Addr) (c:Nat) (w:World),SimsIn w A τ.sm.args→τ.txt.length≤1000000→Calls Tryz.prog 124 #[.agg #[.string (τ).sm.base,.slice A (τ).sm.args.length c]] w fun e w'=>e= .returned (.string (tb τ))∧Bel w w':=by
  intro k
  induction k with
  | zero=>intro τ h;omega
  | succ k ih=>exact fun τ h A c w hS hl=>stx_step hS hl (fun x hx A2 c2 w2 h1 h2=>ih x (by have:=Ts.kids_lt hx;omega) A2 c2 w2 h1 h2)
end Go.Proofs.YtdkfnakncaggoaaGreatDoor
namespace Go.Proofs.YtdkfnakncaggoaaGreatDoor
open Go.RowKit
theorem fn118:zQ Tryz.prog 118=true:=by kernel_rfl
set_option maxHeartbeats 1000000 in
theorem GJ (A1 A2:Option Addr) (c1 c2:Nat) (a b:Ts) (w:World) (h1:SimsIn w A1 a.sm.args) (h2:SimsIn w A2 b.sm.args) (hl1:a.txt.length≤1000000) (hl2:b.txt.length≤1000000):Calls Tryz.prog 116 #[.agg #[.string a.sm.base,.slice A1 a.sm.args.length c1],.agg #[.string b.sm.base,.slice A2 b.sm.args.length c2]] w fun e w'=>e= .returned (.bool (a.eqb b))∧Bel w w':=by
 refine enter Tryz.func116 Tryz.ntmps116 rfl (Nat.le_of_ble_eq_true rfl) ?_;have hB:Bel w w:=Below.refl _ _;refine zn2 ?_;refine qW (v:= .agg #[_,_]) (cs:=#[_,_]) rfl rfl (fun b2 w1 hb2 hs hr=>?_);replace hB:=hB.tr0 hs;refine qW (v:= .agg #[_,_]) (cs:=#[_,_]) rfl rfl (fun b3 w2 hb3 hs hr=>?_);replace hB:=hB.tr0 hs;replace hb2:=hb2.tr0 hs;refine zn4 ?_;refine yk 6 [5,6,7,8,9,4] (fun _=>false) (fun ix v wv=>match ix with | 0=>v= .agg #[.string a.sm.base,.slice A1 a.sm.args.length c1] | 1=>v= .string (tb a) | 2=>v= .agg #[.string b.sm.base,.slice A2 b.sm.args.length c2] | 3=>v= .string (tb b) | 4=>v= .bool (decide (tb a=tb b)) | 5=>v= .bool (decide (tb a=tb b)) | _=>True) kR kR ?_ ?_ ?_
 ·intro ix v wv wv2 h hs
  match ix,h with
  | 0,h=>exact h
  | 1,h=>exact h
  | 2,h=>exact h
  | 3,h=>exact h
  | 4,h=>exact h
  | 5,h=>exact h
  | _ + 6,h=>exact trivial
 ·intro ix o hix hoq gg wx hs hd hdis
  match ix,hix,hoq with
  | 0,_,hoq=>
   cases sI hoq;replace hb2:=hb2.tr0 hs;exact oV (zW U52 rfl rfl hb2.range0 xy) rfl
  | 1,_,hoq=>
   cases sI hoq;replace hB:=hB.tr0 hs;refine z4 5 (.agg #[.string a.sm.base,.slice A1 a.sm.args.length c1]) (hd 0 (zz kR)) nu ?_;refine qx HJ (WW _ a (Nat.lt_succ_self _) A1 c1 wx (h1.mono hB) hl1) rfl (fun e' w2 hr=>?_);obtain⟨rfl,hs⟩:=hr;exact⟨_,rfl,sB hs,rfl,zX⟩
  | 2,_,hoq=>
   cases sI hoq;replace hb3:=hb3.tr0 hs;exact oV (zW U52 rfl rfl hb3.range0 xy) rfl
  | 3,_,hoq=>
   cases sI hoq;replace hB:=hB.tr0 hs;refine z4 7 (.agg #[.string b.sm.base,.slice A2 b.sm.args.length c2]) (hd 2 (zz kR)) nu ?_;refine qx HJ (WW _ b (Nat.lt_succ_self _) A2 c2 wx (h2.mono hB) hl2) rfl (fun e' w2 hr=>?_);obtain⟨rfl,hs⟩:=hr;exact⟨_,rfl,sB hs,rfl,zX⟩
  | 4,_,hoq=>
   cases sI hoq;refine z4 6 (.string (tb a)) (hd 1 (zz kR)) nu (z4 8 (.string (tb b)) (hd 3 (zz kR)) nu ?_);exact oV (r_eqlS rfl rfl) rfl
  | 5,_,hoq=>
   cases sI hoq;refine z4 9 (.bool (decide (tb a=tb b))) (hd 4 (zz kR)) nu ?_;exact oV (u7 (v:= .bool _) rfl) rfl
  | _ + 6,hix,_=>exact absurd hix om
 intro gg w3 hs hR hdis;replace hB:=hB.tr0 hs;refine qK 4 (.bool (decide (tb a=tb b))) (hR 5 dE) nu (zn4 ?_);exact⟨congrArg (fun z=>Ending.returned (.bool z)) (tb_eq a b),hB⟩
set_option maxRecDepth 100000 in
set_option maxHeartbeats 2000000 in
theorem GK {A1 A2:Option Addr} {c1 c2:Nat} {a b:Ts} {w:World} (h1:SimsIn w A1 a.sm.args) (h2:SimsIn w A2 b.sm.args) (IH:∀ x ∈ a.kids,∀ (A1 A2:Option Addr) (c1 c2:Nat) (b:Ts) (w:World),SimsIn w A1 x.sm.args→SimsIn w A2 b.sm.args→Calls Tryz.prog 118 #[.agg #[.string x.sm.base,.slice A1 x.sm.args.length c1],.agg #[.string b.sm.base,.slice A2 b.sm.args.length c2]] w fun e w'=>e= .returned (.bool (x.eqb b))∧Bel w w'):Calls Tryz.prog 118 #[.agg #[.string a.sm.base,.slice A1 a.sm.args.length c1],.agg #[.string b.sm.base,.slice A2 b.sm.args.length c2]] w fun e w'=>e= .returned (.bool (a.eqb b))∧Bel w w':=by
 have hk1:=Ts.kids_len a;have hk2:=Ts.kids_len b;have ek1:a.sm.args.length=a.kids.length:=by rw [Ts.kids_sm,List.length_map]
 have ek2:b.sm.args.length=b.kids.length:=by rw [Ts.kids_sm,List.length_map]
 refine enter Tryz.func118 Tryz.ntmps118 rfl (Nat.le_of_ble_eq_true rfl) ?_;have hB:Bel w w:=Below.refl _ _;refine zn2 ?_;refine qW (v:= .agg #[_,_]) (cs:=#[_,_]) rfl rfl (fun b2 w1 hb2 hs hr=>?_);replace hB:=hB.tr0 hs;refine qW (v:= .agg #[_,_]) (cs:=#[_,_]) rfl rfl (fun b3 w2 hb3 hs hr=>?_);replace hB:=hB.tr0 hs;replace hb2:=hb2.tr0 hs;refine zn5 ?_;refine x7 [6,7,8,9,10,11,12,13,14,15,16,17,18,19] 19 (.bool (decide (¬(a.sm.base=b.sm.base∧a.sm.args.length=b.sm.args.length)))) nu ?_ (fun gq=>?_)
 ·refine zn7 ?_;refine zj 11 rfl (fun g11=>?_) (fun g11=>?_)
  ·refine zn8 ?_;refine zZ (e_R ⟨rfl,agA,?_⟩);show Value.bool _=Value.bool _
   first | exact congrArg Value.bool (decide_eq_true (by exact fun h=>g11 h.1)).symm | exact congrArg Value.bool (decide_eq_decide.2 (by exact⟨fun h k=>h (by have:=k.2;omega),fun h e=>h ⟨Classical.not_not.1 g11,by omega⟩⟩))
  refine Zk ?_;refine zZ (e_R ⟨rfl,agA,?_⟩);show Value.bool _=Value.bool _
  first | exact congrArg Value.bool (decide_eq_true (by exact fun h=>g11 h.1)).symm | exact congrArg Value.bool (decide_eq_decide.2 (by exact⟨fun h k=>h (by have:=k.2;omega),fun h e=>h ⟨Classical.not_not.1 g11,by omega⟩⟩))
 refine e_S ?_;refine zw rfl (fun c19=>?_) (fun c19=>?_)
 ·refine zn8 ?_;have hne:¬a=b:=fun e=>c19 (by subst e;exact⟨rfl,rfl⟩)
  exact⟨congrArg (fun z=>Ending.returned (.bool z)) (Bool.eq_false_iff.2 (fun e=>hne (Ts.eqb_iff.1 e))).symm,hB⟩
 have hbl:=Decidable.not_not.1 c19;refine yj ?_;refine q8 [4,5,23,24,25,26,27,28,29,30,31,32,33,34,35,36,37,38] (fun m g w'=>∃ j:Nat,j≤a.kids.length∧m=a.kids.length - j∧g 23= .int .i64 j∧Bel w w'∧Blk w' b2 52 #[.string a.sm.base,.slice A1 a.sm.args.length c1]∧Blk w' b3 52 #[.string b.sm.base,.slice A2 b.sm.args.length c2]∧a.kids.take j=b.kids.take j) (a.kids.length) ?_ (fun m g4 w3 hI=>?_)
 ·exact⟨0,Nat.zero_le _,rfl,rfl,hB,hb2,hb3,rfl⟩
 obtain⟨j,hj,hmj,h23,hB,hb2,hb3,hall⟩:=hI;refine zJ 23 (.int .i64 j) h23 nu (zn6 ?_);refine zw rfl (fun c24=>?_) (fun c24=>?_)
 ·have hja:j < a.kids.length:=by omega
  have hjb:j < b.kids.length:=by omega
  obtain⟨sb,so,A3,c3,rfl,hsb,hr3,hs3⟩:=BX h1 hja;obtain⟨tb,to,A4,c4,rfl,htb,hr4,hs4⟩:=BX h2 hjb;refine vx ?_;refine Qy 10 kR kR (fun w4 hs=>?_);replace hB:=hB.tr0 hs;replace hb2:=hb2.tr0 hs;replace hb3:=hb3.tr0 hs;refine yq ?_;refine Q5 ?_;refine zV fn118 (IH _ (List.getElem_mem hja) A3 A4 c3 c4 _ _ (hs3.mono hB) (hs4.mono hB)) rfl (fun e' w5 hr=>?_);obtain⟨rfl,hs⟩:=hr;replace hs:=sB hs;replace hB:=hB.tr0 hs;replace hb2:=hb2.tr0 hs;replace hb3:=hb3.tr0 hs;refine⟨_,rfl,?_⟩;refine zn3 ?_;refine j7 rfl (fun c37=>?_) (fun c37=>?_)
  ·refine yj ?_;have hne:¬a=b:=fun e=>by
     have h:=(Ts.eqb_iff (a:=a.kids[j]) (b:=b.kids[j])).2 (by subst e;rfl);rw [h] at c37;cases c37
   exact⟨congrArg (fun z=>Ending.returned (.bool z)) (Bool.eq_false_iff.2 (fun e=>hne (Ts.eqb_iff.1 e))).symm,hB⟩
  refine zn7 ?_;refine xv (a.kids.length - (j + 1)) om agA ?_;exact⟨j + 1,by omega,rfl,rfl,hB,hb2,hb3,take_kid hall hja hjb (Ts.eqb_iff.1 (by simpa using c37))⟩
 have hje:j=a.kids.length:=by omega
 refine yj ?_;rw [hje,List.take_of_length_le (Nat.le_refl _),List.take_of_length_le om] at hall;exact⟨congrArg (fun z=>Ending.returned (.bool z)) (Ts.eqb_iff.2 (Ts.ext hbl.1 hall)).symm,hB⟩
theorem GY:∀ (k:Nat) (a:Ts),a.size < k→∀ (A1 A2:Option Addr) (c1 c2:Nat) (b:Ts) (w:World),SimsIn w A1 a.sm.args→SimsIn w A2 b.sm.args→Calls Tryz.prog 118 #[.agg #[.string a.sm.base,.slice A1 a.sm.args.length c1],.agg #[.string b.sm.base,.slice A2 b.sm.args.length c2]] w fun e w'=>e= .returned (.bool (a.eqb b))∧Bel w w':=by
  intro k
  induction k with
  | zero=>intro a h;omega
  | succ k ih=>exact fun a h A1 A2 c1 c2 b w h1 h2=>GK h1 h2 (fun x hx A3 A4 c3 c4 b2 w2 h3 h4=>ih x (by have:=Ts.kids_lt hx;omega) A3 A4 c3 c4 b2 w2 h3 h4)
theorem samE_any (A1 A2:Option Addr) (c1 c2:Nat) (a b:Ts) (w:World) (h1:SimsIn w A1 a.sm.args) (h2:SimsIn w A2 b.sm.args):Calls Tryz.prog 118 #[.agg #[.string a.sm.base,.slice A1 a.sm.args.length c1],.agg #[.string b.sm.base,.slice A2 b.sm.args.length c2]] w fun e w'=>e= .returned (.bool (a.eqb b))∧Bel w w':=GY _ a (Nat.lt_succ_self _) A1 A2 c1 c2 b w h1 h2
end Go.Proofs.YtdkfnakncaggoaaGreatDoor
namespace Go.Proofs.YtdkfnakncaggoaaGreatDoor
open Go.RowKit
theorem map_two {α β:Type} {l:List α} (h:l.length=2) (f:α→β):l.map f= [f (l[0]'om),f (l[1]'om)]:=by
  match l,h with
  | [a,b],_=>rfl
theorem okR1 {s:Sm} (h:¬s.base=⟨#[]⟩) (k:s.base≠⟨#[101]⟩) (l:s.base≠⟨#[116]⟩):¬Zy s:=by
  rintro (⟨h1 | h1,_⟩ | ⟨h1,_⟩)
  · exact k h1
  · exact l h1
  · exact h h1
theorem okR2 {s:Sm} (h:s.base=smE∨s.base=smT):((s.args.length:Nat):Int)≠0 ↔ ¬Zy s:=
  ⟨fun k h2=>by
    rcases h2 with ⟨_,h2⟩ | ⟨h2,_⟩
    · omega
    · exact okX h h2,fun k h2=>k (.inl ⟨h,by omega⟩)⟩
theorem in165:(Tryz.prog.info? 165).map (fun i=>(i.zero,i.size,i.bytes))=some (some (.agg #[.string ⟨#[]⟩,.slice none 0 0,.int .i64 0]),3,48):=by kernel_rfl
theorem NK:(Tryz.prog.info? 165).map (·.size)=some 3:=by kernel_rfl
theorem ze165:(Tryz.prog.info? 165).map (·.zero)=some (some (.agg #[.string ⟨#[]⟩,.slice none 0 0,.int .i64 0])):=by kernel_rfl
set_option maxRecDepth 100000 in
set_option maxHeartbeats 4000000 in
theorem My (A:Option Addr) (c:Nat) (s:Sm) (w:World) (hS:SimsIn w A s.args):Calls Tryz.prog 94 #[.agg #[.string s.base,.slice A s.args.length c]] w fun e w'=>e= .returned (.int .i64 (smF s))∧Bel w w':=by
 have hR0:smF s=(sst [(s,1)] 0).2:=by rw [sst_one];rfl
 refine enter Tryz.func94 Tryz.ntmps94 rfl (Nat.le_of_ble_eq_true rfl) ?_;have hB:Bel w w:=Below.refl _ _;refine zn2 ?_;refine qW (v:= .agg #[_,_]) (cs:=#[_,_]) rfl rfl (fun b1 w1 hb1 hs hr=>?_);replace hB:=hB.tr0 hs;refine zn6 ?_;refine wl (yz (v0:= .agg _) (v1:= .int _ _) (fun v0 v1=>#[(qX v0 0),(qX v0 1),v1]) rfl rfl kR) ?_;refine qJ (cs:=#[_,_,_]) [(0,.agg _)] rfl W0 NK ze165 dE dE kR rfl (fun b8 w2 hb8 hs hr=>?_);have lo8:=nLT (Bel.size hB) hr;replace hB:=hB.tr0 hs;refine yq ?_;refine q8 [2,3,4,5,9,10,11,12,13,14,15,16,17,18,19,20,21,22,23,24,25,26,27,28,29,30,31,32,33,34,35,36,37,38,39,40,41,42,43,44,45,46,47,48,49,50,51,52,53,54,55,56,57,58,59,60,61,62,63,64,65,66,67,68,69,70,71,72,73,74,75,76,77,78] (fun m g w'=>∃ (st:List (Sm×Nat)) (vs:List Value) (A3:Option Addr) (cap3 n:Nat),m=201 - n∧n≤200∧st.length≤2 * n + 1∧g 3= .slice A3 st.length cap3∧g 4= .int .i64 n∧Bel w w'∧Own w' w.heap.size 165 3 A3 st.length cap3 vs∧StkS w st vs∧smF s=(sst st.reverse n).2) (201) ?_ (fun m g3 w3 hI=>?_)
 ·exact⟨[(s,1)],_,_,_,0,rfl,by omega,by simp,rfl,rfl,hB,Yq (m:=1) hb8 lo8 rfl dE,.snoc .nil hS,hR0⟩
 obtain⟨st,vs,A3,cap3,n,hm,hn,hsl,h3,h4,hB,ho,hstk,hR⟩:=hI;refine zJ 3 (.slice A3 st.length cap3) h3 nu (zJ 4 (.int .i64 n) h4 nu (zn8 ?_));refine zw rfl (fun c11=>?_) (fun c11=>?_)
 ·obtain⟨st1,vs1,s1,d1,A1,c1,rfl,rfl,hst1,hs1⟩:=hstk.pop om;have hlen:(st1 ++ [(s1,d1)]).length=st1.length + 1:=by simp
  rw [XK] at hR;obtain⟨q,rfl,hqb,hql,hqc⟩:=ho.cell (by simp);refine zn8 ?_;refine wl (jV (c:=(st1.length:Int)) rfl rfl (by rw [hlen];omega) om) (wl (yQ (i:=st1.length) W0 NK rfl rfl (by rw [hlen];omega) rfl) (wl (zW C8 rfl rfl (H6 ho hst1.len) NK) ?_));refine xV (cs:=#[.string ⟨#[]⟩,.slice none 0 0,.int .i64 0]) ze165 rfl (fun _=>rfl) (fun _=>rfl) NK rfl zK (fun b5 w5 hb5 hs hr=>?_);have or_ho_b5:=fun g hg=>nLL (ho.lt g hg).2 hr
  replace hB:=hB.tr0 hs;replace ho:=ho.tr0 hs;refine zn7 ?_;refine wl (jV (c:=(st1.length:Int)) rfl rfl (by rw [hlen];omega) om) (wl (E2 (h:=st1.length) W0 NK rfl rfl (by have:=ho.cap_le;omega)) (zn4 ?_));replace ho:Own w5 w.heap.size 165 3 (some ⟨q,0,none⟩) st1.length cap3 vs1:=by
    have h:=ho.take (k':=st1.length) om om
    rwa [List.take_append_of_le_length (by rw [hst1.len];exact Nat.le_refl _),List.take_of_length_le (by rw [hst1.len];exact Nat.le_refl _)] at h
  refine zn8 ?_;refine x7 [25,26,27,28,29,30,31] 31 (.bool (decide (200 < n + 1∨40 < d1))) nu ?_ (fun gq=>?_)
  ·refine zn4 ?_;refine zj 27 rfl (fun g27=>?_) (fun g27=>?_)
   ·refine zn4 ?_;refine zZ (e_R ⟨rfl,agA,?_⟩);exact clA
   refine zn7 ?_;refine zZ (e_R ⟨rfl,agA,?_⟩);exact clA
  refine e_S ?_;refine zw rfl (fun c31=>?_) (fun c31=>?_)
  ·rw [sst_out c31] at hR;refine yj ?_;exact⟨by rw [hR];rfl,hB⟩
  refine yq ?_;refine zw rfl (fun c35=>?_) (fun c35=>?_)
  ·refine yq ?_;refine zw rfl (fun c40=>?_) (fun c40=>?_)
   ·have hno:¬Zy s1:=fun h=>by
      rcases h with ⟨h,_⟩ | ⟨_,h⟩
      · exact okX h c35
      · omega
    rw [WY c31 hno] at hR;refine yj ?_;exact⟨by rw [hR];rfl,hB⟩
   have h2l:s1.args.length=2:=by omega
   have h1l:1 < s1.args.length:=by omega
   have h0l:0 < s1.args.length:=by omega
   have hok:Zy s1:= .inr ⟨c35,h2l⟩;rw [sst_go c31 hok] at hR;obtain⟨sb,so,B0,e0,rfl,hsb,hr0,hs10⟩:=hs1.at_ h0l;obtain⟨_,_,B1,e1,ez,_,hr1,hs11⟩:=hs1.at_ h1l;cases ez;have hR2:smF s=(sst (st1 ++ [((s1.args[1]'h1l),d1 + 1)] ++ [((s1.args[0]'h0l),d1 + 1)]).reverse (n + 1)).2:=by
     rw [hR,XK,XK,map_two h2l];rfl
   refine uY (e_S ?_);have zo:=fun g hg=>(ho.lt g hg).2
   refine N6 21 [41,42,43,44,45,46,47,48,49,50,51,52,53,54,55,56,57,58,59,60,61] (aL (some ⟨q,0,none⟩)) 20 (fun ix v wv=>match ix with | 0=>v= .slice (some ⟨q,0,none⟩) st1.length cap3 | 1=>v= .pointer (some ⟨b5,0,none⟩) | 2=>v= .pointer (some ⟨b5,0 + 1,none⟩) | 3=>v= .slice (some ⟨sb,so,none⟩) s1.args.length c1 | 4=>v= .pointer (some ⟨sb,so + 1 * 2,none⟩) | 5=>v= .agg #[.string (s1.args[1]'h1l).base,.slice B1 (s1.args[1]'h1l).args.length e1] | 6=>v= .pointer (some ⟨b5,0 + 2,none⟩) | 7=>v= .int .i64 d1 | 8=>v= .int .i64 ((d1:Nat) + 1:Int) | 9=>v= .agg #[.string (s1.args[1]'h1l).base,.slice B1 (s1.args[1]'h1l).args.length e1,.int .i64 ((d1:Nat) + 1:Int)] | 10=>v= .pointer (some ⟨b5,0,none⟩) | 11=>v= .pointer (some ⟨b5,0 + 1,none⟩) | 12=>v= .slice (some ⟨sb,so,none⟩) s1.args.length c1 | 13=>v= .pointer (some ⟨sb,so + 0 * 2,none⟩) | 14=>v= .agg #[.string (s1.args[0]'h0l).base,.slice B0 (s1.args[0]'h0l).args.length e0] | 15=>v= .pointer (some ⟨b5,0 + 2,none⟩) | 16=>v= .int .i64 d1 | 17=>v= .int .i64 ((d1:Nat) + 1:Int) | 18=>v= .agg #[.string (s1.args[0]'h0l).base,.slice B0 (s1.args[0]'h0l).args.length e0,.int .i64 ((d1:Nat) + 1:Int)] | 19=>∃ b,v= .slice (some ⟨b,0,none⟩) 2 2∧w5.heap.size≤b∧Blk wv b 165 #[.string (s1.args[1]'h1l).base,.slice B1 (s1.args[1]'h1l).args.length e1,.int .i64 ((d1:Nat) + 1:Int),.string (s1.args[0]'h0l).base,.slice B0 (s1.args[0]'h0l).args.length e0,.int .i64 ((d1:Nat) + 1:Int)] | 20=>∃ g cap,v= .slice (some ⟨g,0,none⟩) (st1.length + 2) cap∧Own wv w.heap.size 165 3 (some ⟨g,0,none⟩) (st1.length + 2) cap (vs1 ++ [.string (s1.args[1]'h1l).base,.slice B1 (s1.args[1]'h1l).args.length e1,.int .i64 ((d1:Nat) + 1:Int),.string (s1.args[0]'h0l).base,.slice B0 (s1.args[0]'h0l).args.length e0,.int .i64 ((d1:Nat) + 1:Int)]) | _=>True) (fun _=>True) kR kR ?_ (fun _ _ _ _=>trivial) ?_ ?_ dE ?_
   ·intro ix v wv wv2 h hs
    match ix,h with
    | 0,h=>exact h
    | 1,h=>exact h
    | 2,h=>exact h
    | 3,h=>exact h
    | 4,h=>exact h
    | 5,h=>exact h
    | 6,h=>exact h
    | 7,h=>exact h
    | 8,h=>exact h
    | 9,h=>exact h
    | 10,h=>exact h
    | 11,h=>exact h
    | 12,h=>exact h
    | 13,h=>exact h
    | 14,h=>exact h
    | 15,h=>exact h
    | 16,h=>exact h
    | 17,h=>exact h
    | 18,h=>exact h
    | 19,h=>
     obtain⟨b60,e60,lo60,hb60⟩:=h;exact⟨b60,e60,lo60,hb60.tr0 hs⟩
    | 20,h=>
     obtain⟨g61,cap61,e61,ho61⟩:=h;exact⟨g61,cap61,e61,ho61.tr0 hs⟩
    | _ + 21,h=>exact trivial
   ·intro ix o hix hne hoq gg wx hs hd
    match ix,hix,hne,hoq with
    | 0,_,_,hoq=>
     cases sI hoq;refine xZ (x9 (v:= .slice _ _ _) rfl) ⟨Same.refl _ _,?_⟩;exact rfl
    | 1,_,_,hoq=>
     cases sI hoq;refine xZ (vX C8 xy dE rfl rfl rfl) ⟨Same.refl _ _,?_⟩;exact rfl
    | 2,_,_,hoq=>
     cases sI hoq;refine z4 42 (.pointer (some ⟨b5,0,none⟩)) (hd 1 (zz kR)) nu ?_;refine xZ (vX U52 EV dE rfl rfl rfl) ⟨Same.refl _ _,?_⟩;exact rfl
    | 3,_,_,hoq=>
     cases sI hoq;replace hb5:=hb5.tr hs (fun hx=>by have:=(ho.lt _ hx).1;(try have:=or_ho_b5 _ hx);omega);refine z4 43 (.pointer (some ⟨b5,0 + 1,none⟩)) (hd 2 (zz kR)) nu ?_;refine xZ (qk (v:= .slice _ _ _) U50 rfl rfl (hb5.cell rfl)) ⟨Same.refl _ _,?_⟩;exact rfl
    | 4,_,_,hoq=>
     cases sI hoq;refine z4 44 (.slice (some ⟨sb,so,none⟩) s1.args.length c1) (hd 3 (zz kR)) nu ?_;refine xZ (yQ (i:=1) U50 xy rfl rfl h1l rfl) ⟨Same.refl _ _,?_⟩;exact rfl
    | 5,_,_,hoq=>
     cases sI hoq;replace hB:=hB.tr hs (fun g hg=>nLT (Nat.le_refl _) (ho.lt g hg).1);refine z4 45 (.pointer (some ⟨sb,so + 1 * 2,none⟩)) (hd 4 (zz kR)) nu ?_;refine xZ (zW U52 rfl rfl (hB.range hsb hr1) xy) ⟨Same.refl _ _,?_⟩;exact rfl
    | 6,_,_,hoq=>
     cases sI hoq;refine xZ (vX C8 qw dE rfl rfl rfl) ⟨Same.refl _ _,?_⟩;exact rfl
    | 7,_,_,hoq=>
     cases sI hoq;replace hb5:=hb5.tr hs (fun hx=>by have:=(ho.lt _ hx).1;(try have:=or_ho_b5 _ hx);omega);refine z4 47 (.pointer (some ⟨b5,0 + 2,none⟩)) (hd 6 (zz kR)) nu ?_;refine xZ (qk (v:= .int _ _) U3 rfl rfl (hb5.cell rfl)) ⟨Same.refl _ _,?_⟩;exact rfl
    | 8,_,_,hoq=>
     cases sI hoq;refine z4 48 (.int .i64 d1) (hd 7 (zz kR)) nu ?_;refine xZ (kK rfl rfl rfl om) ⟨Same.refl _ _,?_⟩;exact rfl
    | 9,_,_,hoq=>
     cases sI hoq;refine z4 46 (.agg #[.string (s1.args[1]'h1l).base,.slice B1 (s1.args[1]'h1l).args.length e1]) (hd 5 (zz kR)) nu (z4 49 (.int .i64 ((d1:Nat) + 1:Int)) (hd 8 (zz kR)) nu ?_);refine xZ (yz (v0:= .agg _) (v1:= .int _ _) (fun v0 v1=>#[(qX v0 0),(qX v0 1),v1]) rfl rfl kR) ⟨Same.refl _ _,?_⟩;exact rfl
    | 10,_,_,hoq=>
     cases sI hoq;refine xZ (vX C8 xy dE rfl rfl rfl) ⟨Same.refl _ _,?_⟩;exact rfl
    | 11,_,_,hoq=>
     cases sI hoq;refine z4 51 (.pointer (some ⟨b5,0,none⟩)) (hd 10 (zz kR)) nu ?_;refine xZ (vX U52 EV dE rfl rfl rfl) ⟨Same.refl _ _,?_⟩;exact rfl
    | 12,_,_,hoq=>
     cases sI hoq;replace hb5:=hb5.tr hs (fun hx=>by have:=(ho.lt _ hx).1;(try have:=or_ho_b5 _ hx);omega);refine z4 52 (.pointer (some ⟨b5,0 + 1,none⟩)) (hd 11 (zz kR)) nu ?_;refine xZ (qk (v:= .slice _ _ _) U50 rfl rfl (hb5.cell rfl)) ⟨Same.refl _ _,?_⟩;exact rfl
    | 13,_,_,hoq=>
     cases sI hoq;refine z4 53 (.slice (some ⟨sb,so,none⟩) s1.args.length c1) (hd 12 (zz kR)) nu ?_;refine xZ (yQ (i:=0) U50 xy rfl rfl h0l rfl) ⟨Same.refl _ _,?_⟩;exact rfl
    | 14,_,_,hoq=>
     cases sI hoq;replace hB:=hB.tr hs (fun g hg=>nLT (Nat.le_refl _) (ho.lt g hg).1);refine z4 54 (.pointer (some ⟨sb,so + 0 * 2,none⟩)) (hd 13 (zz kR)) nu ?_;refine xZ (zW U52 rfl rfl (hB.range hsb hr0) xy) ⟨Same.refl _ _,?_⟩;exact rfl
    | 15,_,_,hoq=>
     cases sI hoq;refine xZ (vX C8 qw dE rfl rfl rfl) ⟨Same.refl _ _,?_⟩;exact rfl
    | 16,_,_,hoq=>
     cases sI hoq;replace hb5:=hb5.tr hs (fun hx=>by have:=(ho.lt _ hx).1;(try have:=or_ho_b5 _ hx);omega);refine z4 56 (.pointer (some ⟨b5,0 + 2,none⟩)) (hd 15 (zz kR)) nu ?_;refine xZ (qk (v:= .int _ _) U3 rfl rfl (hb5.cell rfl)) ⟨Same.refl _ _,?_⟩;exact rfl
    | 17,_,_,hoq=>
     cases sI hoq;refine z4 57 (.int .i64 d1) (hd 16 (zz kR)) nu ?_;refine xZ (kK rfl rfl rfl om) ⟨Same.refl _ _,?_⟩;exact rfl
    | 18,_,_,hoq=>
     cases sI hoq;refine z4 55 (.agg #[.string (s1.args[0]'h0l).base,.slice B0 (s1.args[0]'h0l).args.length e0]) (hd 14 (zz kR)) nu (z4 58 (.int .i64 ((d1:Nat) + 1:Int)) (hd 17 (zz kR)) nu ?_);refine xZ (yz (v0:= .agg _) (v1:= .int _ _) (fun v0 v1=>#[(qX v0 0),(qX v0 1),v1]) rfl rfl kR) ⟨Same.refl _ _,?_⟩;exact rfl
    | 19,_,_,hoq=>
     cases sI hoq;have hs0:=hs;refine z4 50 (.agg #[.string (s1.args[1]'h1l).base,.slice B1 (s1.args[1]'h1l).args.length e1,.int .i64 ((d1:Nat) + 1:Int)]) (hd 9 (zz kR)) nu (z4 59 (.agg #[.string (s1.args[0]'h0l).base,.slice B0 (s1.args[0]'h0l).args.length e0,.int .i64 ((d1:Nat) + 1:Int)]) (hd 18 (zz kR)) nu ?_);refine jx (fun ops Q K=>?_);refine qJ (cs:=#[_,_,_,_,_,_]) [(0,.agg _),(1,.agg _)] rfl W0 NK ze165 dE dE kR rfl (fun b60 w6 hb60 hs hr=>?_);exact K _ _ ⟨hs,⟨_,rfl,nLT hs0.size hr,hb60⟩⟩
    | 20,_,hne,_=>exact absurd rfl hne
    | _ + 21,hix,_,_=>exact absurd hix om
   ·intro o hoq gg wx hs hd;cases sI hoq;replace hB:=hB.tr0 hs;replace ho:=ho.tr0 hs;obtain⟨b60,e60,lo60,hb60⟩:=hd 19 (zz kR);refine z4 41 (.slice (some ⟨q,0,none⟩) st1.length cap3) (hd 0 (zz kR)) nu (z4 60 (.slice (some ⟨b60,0,none⟩) 2 2) e60 nu ?_);refine jx (fun ops Q K=>?_);refine o8 W0 in165 rfl dE ho hb60 rfl rfl rfl zK dE om om (Bel.size hB) (fun g61 cap61 w2 ho61 hs2 hg61=>?_);refine K _ _ ⟨hs2,⟨_,_,rfl,ho61⟩,trivial,fun kx v hne h=>?_⟩
    match kx,hne,h with
    | 0,_,h=>exact h
    | 1,_,h=>exact h
    | 2,_,h=>exact h
    | 3,_,h=>exact h
    | 4,_,h=>exact h
    | 5,_,h=>exact h
    | 6,_,h=>exact h
    | 7,_,h=>exact h
    | 8,_,h=>exact h
    | 9,_,h=>exact h
    | 10,_,h=>exact h
    | 11,_,h=>exact h
    | 12,_,h=>exact h
    | 13,_,h=>exact h
    | 14,_,h=>exact h
    | 15,_,h=>exact h
    | 16,_,h=>exact h
    | 17,_,h=>exact h
    | 18,_,h=>exact h
    | 19,_,h=>
     obtain⟨b60,e60,lo60,hb60⟩:=h;exact⟨b60,e60,lo60,hb60.tr hs2 (fun hx=>by have:=zo _ hx;omega)⟩
    | 20,hne,_=>exact absurd rfl hne
    | _ + 21,_,_=>exact trivial
   intro gg w7 hs _ hR;replace hB:=hB.tr hs (fun g hg=>nLT (Nat.le_refl _) (ho.lt g hg).1);obtain⟨g61,cap61,e61,ho61⟩:=hR 20 dE;have q1:(st1 ++ [((s1.args[1]'h1l),d1 + 1)] ++ [((s1.args[0]'h0l),d1 + 1)]).length=st1.length + 2:=by simp
   have q2:vs1 ++ [.string (s1.args[1]'h1l).base,.slice B1 (s1.args[1]'h1l).args.length e1,.int .i64 ((d1:Nat) + 1:Int)] ++ [.string (s1.args[0]'h0l).base,.slice B0 (s1.args[0]'h0l).args.length e0,.int .i64 ((d1:Nat) + 1:Int)]=vs1 ++ [.string (s1.args[1]'h1l).base,.slice B1 (s1.args[1]'h1l).args.length e1,.int .i64 ((d1:Nat) + 1:Int),.string (s1.args[0]'h0l).base,.slice B0 (s1.args[0]'h0l).args.length e0,.int .i64 ((d1:Nat) + 1:Int)]:=by simp
   have ho:Own w7 w.heap.size 165 3 (some ⟨g61,0,none⟩) (st1 ++ [((s1.args[1]'h1l),d1 + 1)] ++ [((s1.args[0]'h0l),d1 + 1)]).length cap61 (vs1 ++ [.string (s1.args[1]'h1l).base,.slice B1 (s1.args[1]'h1l).args.length e1,.int .i64 ((d1:Nat) + 1:Int)] ++ [.string (s1.args[0]'h0l).base,.slice B0 (s1.args[0]'h0l).args.length e0,.int .i64 ((d1:Nat) + 1:Int)]):=by rw [q1,q2];exact ho61
   refine qK 61 (.slice (some ⟨g61,0,none⟩) (st1.length + 2) cap61) e61 nu (zn3 ?_);refine xv (201 - (n + 1)) om agA ?_
   first
     | exact⟨st1 ++ [((s1.args[1]'h1l),d1 + 1)] ++ [((s1.args[0]'h0l),d1 + 1)],_,_,_,n + 1,rfl,by omega,by rw [q1];omega,(by rw [q1];rfl),rfl,hB,ho,.snoc (.snoc hst1 hs11) hs10,hR2⟩
     | exact⟨st1,vs1,_,_,n + 1,rfl,by omega,by omega,rfl,rfl,hB,ho,hst1,hR2⟩
  refine xX ?_;refine x7 [62,63,64,65,66,67,68,69,70,71,72,73,74,75,76,77,78] 78 (.bool (decide (¬Zy s1))) nu ?_ (fun gq=>?_)
  ·refine zn6 ?_;refine zj 66 rfl (fun g66=>?_) (fun g66=>?_)
   ·refine yq ?_;refine zj 72 rfl (fun g72=>?_) (fun g72=>?_)
    ·refine zn6 ?_;refine zZ (e_R ⟨rfl,agA,?_⟩);show Value.bool _=Value.bool _
     first | exact congrArg Value.bool (decide_eq_true (by exact okR1 c35 g66 g72)).symm | exact congrArg Value.bool (decide_eq_decide.2 (by exact okR2 (.inr (Classical.not_not.1 g72)))) | exact congrArg Value.bool (decide_eq_decide.2 (by exact okR2 (.inl (Classical.not_not.1 g66))))
    refine vx ?_;refine zZ (e_R ⟨rfl,agA,?_⟩);show Value.bool _=Value.bool _
    first | exact congrArg Value.bool (decide_eq_true (by exact okR1 c35 g66 g72)).symm | exact congrArg Value.bool (decide_eq_decide.2 (by exact okR2 (.inr (Classical.not_not.1 g72)))) | exact congrArg Value.bool (decide_eq_decide.2 (by exact okR2 (.inl (Classical.not_not.1 g66))))
   refine M0 ?_;refine zZ (e_R ⟨rfl,agA,?_⟩);show Value.bool _=Value.bool _
   first | exact congrArg Value.bool (decide_eq_true (by exact okR1 c35 g66 g72)).symm | exact congrArg Value.bool (decide_eq_decide.2 (by exact okR2 (.inr (Classical.not_not.1 g72)))) | exact congrArg Value.bool (decide_eq_decide.2 (by exact okR2 (.inl (Classical.not_not.1 g66))))
  refine e_S ?_;refine zw rfl (fun c78=>?_) (fun c78=>?_)
  ·rw [WY c31 c78] at hR;refine vx ?_;exact⟨by rw [hR];rfl,hB⟩
  have hok:Zy s1:=Classical.not_not.1 c78;have ha0:s1.args= []:=by
    rcases hok with ⟨_,h⟩ | ⟨h,_⟩
    · exact List.length_eq_zero_iff.1 h
    · exact absurd h c35
  have hR2:smF s=(sst st1.reverse (n + 1)).2:=by rw [hR,sst_go c31 hok,ha0];rfl
  refine uY (e_B (xv (201 - (n + 1)) om agA ?_))
  first
    | exact⟨st1 ++ [((s1.args[1]'h1l),d1 + 1)] ++ [((s1.args[0]'h0l),d1 + 1)],_,_,_,n + 1,rfl,by omega,by rw [q1];omega,(by rw [q1];rfl),rfl,hB,ho,.snoc (.snoc hst1 hs11) hs10,hR2⟩
    | exact⟨st1,vs1,_,_,n + 1,rfl,by omega,by omega,rfl,rfl,hB,ho,hst1,hR2⟩
 have hst:st= []:=List.length_eq_zero_iff.1 om;subst hst;have hR3:smF s=0:=hR;refine yj ?_;exact⟨by rw [hR3];rfl,hB⟩
end Go.Proofs.YtdkfnakncaggoaaGreatDoor
namespace Go.Proofs.YtdkfnakncaggoaaGreatDoor
open Go.RowKit
theorem sz175:(Tryz.prog.info? 175).map (·.size)=some 1:=by kernel_rfl
theorem ze175:(Tryz.prog.info? 175).map (·.zero)=some (some (.nilFunc)):=by kernel_rfl
set_option maxHeartbeats 1000000 in
theorem BQ (A:Option Addr) (c:Nat) (s:Sm) (w:World) (hS:SimsIn w A s.args):Calls Tryz.prog 99 #[.agg #[.string s.base,.slice A s.args.length c]] w fun e w'=>e= .returned (flV (smF s,0))∧Bel w w':=by
 refine enter Tryz.func99 Tryz.ntmps99 rfl (Nat.le_of_ble_eq_true rfl) ?_;have hB:Bel w w:=Below.refl _ _;refine zn2 ?_;refine qW (v:= .agg #[_,_]) (cs:=#[_,_]) rfl rfl (fun b1 w1 hb1 hs hr=>?_);replace hB:=hB.tr0 hs;refine qZ (cs:=#[.int .i64 0,.int .i64 0]) zY rfl (fun b2 w2 hb2 hs hr=>?_);have:=nLL hb1.lt hr;have lo2:=nLT (Bel.size hB) hr;replace hB:=hB.tr0 hs;replace hb1:=hb1.tr0 hs;refine zn4 ?_;refine qZ (cs:=#[.int .i64 0]) jw rfl (fun b3 w3 hb3 hs hr=>?_);have:=nLL hb1.lt hr;have:=nLL hb2.lt hr;have lo3:=nLT (Bel.size hB) hr;replace hB:=hB.tr0 hs;replace hb1:=hb1.tr0 hs;replace hb2:=hb2.tr0 hs;refine xY (v:= .int _ _) hb3 rfl rfl qw (by first | decide | simp) rfl rfl (fun w4 hq hs=>?_);replace hB:=hB.tr1 hs lo3;replace hb1:=hb1.tr1 hs om;replace hb2:=hb2.tr1 hs om;replace hb3:=hq;refine zn4 ?_;refine qZ (cs:=#[.nilFunc]) ze175 rfl (fun b4 w5 hb4 hs hr=>?_);have:=nLL hb1.lt hr;have:=nLL hb2.lt hr;have:=nLL hb3.lt hr;have lo4:=nLT (Bel.size hB) hr;replace hB:=hB.tr0 hs;replace hb1:=hb1.tr0 hs;replace hb2:=hb2.tr0 hs;replace hb3:=hb3.tr0 hs;refine zn4 ?_;refine wl (r_mf rfl) ?_;refine xY (v:= .func _ _ _) hb4 rfl rfl sz175 (by first | decide | simp) rfl rfl (fun w6 hq hs=>?_);replace hB:=hB.tr1 hs lo4;replace hb1:=hb1.tr1 hs om;replace hb2:=hb2.tr1 hs om;replace hb3:=hb3.tr1 hs om;replace hb4:=hq;refine zn6 ?_;refine xJ rfl fn117 (swk_any (w0:=w) (bN:=b3) (bV:=b4) lo3 lo4 om s A c 1 0 _ hS om om hB hb3 hb4) rfl rfl (fun e' w7 hr=>?_);obtain⟨rfl,hC2,hb32⟩:=hr;replace hB:=hB.chG hC2 (fun g hg=>by rw [show g=b3 from hg];exact lo3);replace hb2:=hb2.chG hC2 (fun hx=>by have hx:b2=b3:=hx;omega);replace hb3:=hb32;refine⟨_,rfl,?_⟩;refine wl (MK (v0:= .int _ _) (fun v0=>#[v0,.int .i64 0]) rfl kR) ?_;refine zk hb2 rfl rfl zq rfl zK (fun w8 hq hs=>?_);replace hB:=hB.tr1 hs lo2;replace hb2:=hq;refine zn3 ?_;refine x5 (.inl rfl) rfl (zy U37 rfl rfl hb2.range0 zq) ?_;exact⟨rfl,hB⟩
end Go.Proofs.YtdkfnakncaggoaaGreatDoor
