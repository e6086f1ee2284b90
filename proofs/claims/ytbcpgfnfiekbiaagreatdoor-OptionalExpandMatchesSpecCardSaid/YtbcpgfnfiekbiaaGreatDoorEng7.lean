/- What these functions of the program compute, at every world: glosswright/simple.Validate$1. What these functions of the program compute, at every world: glosswright/glosswrightref1.To, glosswright/glosswrightref1.noType, glosswright/term.none, glosswright/glosswrightref1.SimpleText. What these functions of the program compute, at every world: glosswright/glosswrightref1.SameType, glosswright/simple.Same. Slices cut at their length, and what is appended to them; rows of types. No program in sight. The engine: a region that draws its order, in which some operations store into blocks of a list X; every operation leaves what the others have told. The engine's seventh part: a drawn region of whatever operations. -/
import Derived.Test.YtbcpgfnfiekbiaaGreatDoorTrm
import Derived.Test.YtbcpgfnfiekbiaaGreatDoorStk
import Derived.Test.YtbcpgfnfiekbiaaGreatDoorEng4
import Derived.Test.YtbcpgfnfiekbiaaGreatDoorGNodes
import Derived.Test.YtbcpgfnfiekbiaaGreatDoorU
import Derived.Test.YtbcpgfnfiekbiaaGreatDoorGrm
import Derived.ArgAppend
import Derived.Test.YtbcpgfnfiekbiaaGreatDoorEng2
namespace Go.Proofs.YtbcpgfnfiekbiaaGreatDoor
open Go.RowKit
section ok
variable {b:ByteArray} {l:List Sm}
theorem okA (h:b=smE∨b=smT) (k:((l.length:Nat):Int)=0):QW (.mk b l):= .inl ⟨h,by show l.length=0;omega⟩
theorem okB1 (h:b=smE∨b=smT) (k:¬((l.length:Nat):Int)=0):¬QW (.mk b l):=by
  rintro (⟨_,h2⟩ | ⟨h2,_⟩)
  · exact k (by have:l.length=0:=h2;omega)
  · have h2:b=⟨#[]⟩:=h2
    rcases h with h | h <;> exact absurd (h.symm.trans h2) dE
theorem okB2 (h:¬(b=smE∨b=smT)) (k:¬b=⟨#[]⟩):¬QW (.mk b l):=by
  rintro (⟨h2,_⟩ | ⟨h2,_⟩)
  · exact h h2
  · exact k h2
theorem okX (h:b=smE∨b=smT) (k:b=⟨#[]⟩):False:=by rcases h with h | h <;> exact absurd (h.symm.trans k) dE
theorem okD (h:¬(b=smE∨b=smT)) (k:b=⟨#[]⟩):decide (¬((l.length:Nat):Int)=2)=decide (¬QW (.mk b l)):=by
  refine decide_eq_decide.2 (not_congr ⟨fun e=> .inr ⟨k,by show l.length=2;omega⟩,fun e=>?_⟩);rcases e with ⟨h2,_⟩ | ⟨_,h2⟩
  · exact absurd h2 h
  · have:l.length=2:=h2
    omega
end ok
theorem fn123:zK Tryz.prog 123=true:=by kernel_rfl
theorem x9:(Tryz.prog.info? 41).map (·.size)=some 2:=by kernel_rfl
theorem ov:(Tryz.prog.info? 41).map (·.zero)=some (some (.agg #[.string ⟨#[]⟩,.slice none 0 0])):=by kernel_rfl
set_option maxRecDepth 100000 in
set_option maxHeartbeats 2000000 in
theorem swk_step {w0:World} {bN bV:Nat} (l0N:w0.heap.size≤bN) (_l0V:w0.heap.size≤bV) (nVN:bV≠bN) {base:ByteArray} {args:List Sm} {A:Option Addr} {c d n:Nat} {w:World} (hS:SimsIn w0 A args) (IH:∀ x ∈ args,∀ (A2:Option Addr) (c2 d2 n2:Nat) (w2:World),SimsIn w0 A2 x.args→n2≤200→d2≤41→Bel w0 w2→Blk w2 bN 3 #[.int .i64 ((n2:Nat):Int)]→Blk w2 bV 185 #[.func (.func 123) #[] #[.pointer (some ⟨bN,0,none⟩),.pointer (some ⟨bV,0,none⟩)]]→Calls Tryz.prog 123 #[.agg #[.string x.base,.slice A2 x.args.length c2],.int .i64 ((d2:Nat):Int),.pointer (some ⟨bN,0,none⟩),.pointer (some ⟨bV,0,none⟩)] w2 fun e w'=>e= .returned (.int .i64 (swk x d2 n2).2)∧ChG (fun g=>g=bN) w2 w'∧Blk w' bN 3 #[.int .i64 (((swk x d2 n2).1:Nat):Int)]) (hn:n≤200) (hd:d≤41) (hB:Bel w0 w) (hbN:Blk w bN 3 #[.int .i64 ((n:Nat):Int)]) (hbV:Blk w bV 185 #[.func (.func 123) #[] #[.pointer (some ⟨bN,0,none⟩),.pointer (some ⟨bV,0,none⟩)]]):Calls Tryz.prog 123 #[.agg #[.string base,.slice A args.length c],.int .i64 ((d:Nat):Int),.pointer (some ⟨bN,0,none⟩),.pointer (some ⟨bV,0,none⟩)] w fun e w'=>e= .returned (.int .i64 (swk (.mk base args) d n).2)∧ChG (fun g=>g=bN) w w'∧Blk w' bN 3 #[.int .i64 (((swk (.mk base args) d n).1:Nat):Int)]:=by
 have hmx:=hS.le;unfold yJ at hmx;have ltN:=hbN.lt;have ltV:=hbV.lt;have hC:ChG (fun g=>g=bN) w w:=ChG.refl _ _;refine enter Tryz.func123 Tryz.ntmps123 rfl (Nat.le_of_ble_eq_true rfl) (zn2 ?_);refine x6 (v:= .agg #[_,_]) (cs:=#[_,_]) rfl rfl (fun b4 w1 hb4 s1 hr=>?_);have:=nLL hbN.lt hr;have:=nLL hbV.lt hr;replace hC:=hC.st s1 (by simp);refine zn7 ?_;replace hbN:=hbN.tr0 s1;refine xz (v:= .int _ _) hbN rfl rfl qX (by first | decide | simp) rfl rfl (fun w2 hq s2=>?_);replace hB:=hB.u.tr1 s2 l0N;replace hC:=hC.st s2 (fun g hg=>by rw [List.mem_singleton.1 hg];first | exact .inl rfl | exact .inr or_hC_bN);replace hbN:=hq;refine zn4 ?_;refine xJ [13,14,15,16,17,18] 18 (.bool (decide (200 < n + 1∨40 < d))) nu ?_ (fun gq=>?_)
 ·refine zn4 ?_;refine zw 15 rfl (fun g15=>?_) (fun g15=>?_)
  ·refine zn3 ?_;refine zJ (e_R ⟨rfl,agA,?_⟩);exact clA
  refine zn5 ?_;refine zJ (e_R ⟨rfl,agA,?_⟩);exact clA
 refine e_S ?_;refine zX rfl (fun c18=>?_) (fun c18=>?_)
 ·refine zn8 ?_;have e:swk (.mk base args) d n=(n + 1,1):=by rw [Iw,if_pos c18]
  rw [e];exact⟨rfl,hC,hbN⟩
 refine zn3 ?_;refine xJ (rg [7] 19 8) 7 (.bool (decide (base=smE∨base=smT))) nu ?_ (fun gq=>?_)
 ·refine zn5 ?_;refine zw 22 rfl (fun g22=>?_) (fun g22=>?_)
  ·refine zn5 ?_;refine zJ (e_R ⟨rfl,agA,?_⟩);show Value.bool _=Value.bool _
   first | exact congrArg Value.bool (decide_eq_true (Or.inl g22)).symm | exact congrArg Value.bool (decide_eq_decide.2 ⟨Or.inr,fun h=>h.resolve_left g22⟩)
  refine zn8 ?_;refine zJ (e_R ⟨rfl,agA,?_⟩);show Value.bool _=Value.bool _
  first | exact congrArg Value.bool (decide_eq_true (Or.inl g22)).symm | exact congrArg Value.bool (decide_eq_decide.2 ⟨Or.inr,fun h=>h.resolve_left g22⟩)
 refine zn3 ?_;refine xJ (rg [] 27 19) 45 (.bool (decide (¬QW (.mk base args)))) nu ?_ (fun gq=>?_)
 ·refine zn3 ?_;refine zw 28 rfl (fun g28=>?_) (fun g28=>?_)
  ·refine yv ?_;refine zw 34 rfl (fun g34=>?_) (fun g34=>?_)
   ·refine vq ?_;refine zJ (e_R ⟨rfl,agA,?_⟩);show Value.bool _=Value.bool _
    first | exact(okX g28 g38).elim | exact congrArg Value.bool (decide_eq_false (fun h=>h (okA g28 g34))).symm | exact congrArg Value.bool (decide_eq_true (okB1 g28 g34)).symm | exact congrArg Value.bool (decide_eq_true (okB2 g28 g38)).symm | exact congrArg Value.bool (okD g28 g38)
   refine zn8 ?_;refine zw 38 rfl (fun g38=>?_) (fun g38=>?_)
   ·refine yZ ?_;refine zJ (e_R ⟨rfl,agA,?_⟩);show Value.bool _=Value.bool _
    first | exact(okX g28 g38).elim | exact congrArg Value.bool (decide_eq_false (fun h=>h (okA g28 g34))).symm | exact congrArg Value.bool (decide_eq_true (okB1 g28 g34)).symm | exact congrArg Value.bool (decide_eq_true (okB2 g28 g38)).symm | exact congrArg Value.bool (okD g28 g38)
   refine zn8 ?_;refine zJ (e_R ⟨rfl,agA,?_⟩);show Value.bool _=Value.bool _
   first | exact(okX g28 g38).elim | exact congrArg Value.bool (decide_eq_false (fun h=>h (okA g28 g34))).symm | exact congrArg Value.bool (decide_eq_true (okB1 g28 g34)).symm | exact congrArg Value.bool (decide_eq_true (okB2 g28 g38)).symm | exact congrArg Value.bool (okD g28 g38)
  refine ZX ?_;refine zw 38 rfl (fun g38=>?_) (fun g38=>?_)
  ·refine yZ ?_;refine zJ (e_R ⟨rfl,agA,?_⟩);show Value.bool _=Value.bool _
   first | exact(okX g28 g38).elim | exact congrArg Value.bool (decide_eq_false (fun h=>h (okA g28 g34))).symm | exact congrArg Value.bool (decide_eq_true (okB1 g28 g34)).symm | exact congrArg Value.bool (decide_eq_true (okB2 g28 g38)).symm | exact congrArg Value.bool (okD g28 g38)
  refine zn8 ?_;refine zJ (e_R ⟨rfl,agA,?_⟩);show Value.bool _=Value.bool _
  first | exact(okX g28 g38).elim | exact congrArg Value.bool (decide_eq_false (fun h=>h (okA g28 g34))).symm | exact congrArg Value.bool (decide_eq_true (okB1 g28 g34)).symm | exact congrArg Value.bool (decide_eq_true (okB2 g28 g38)).symm | exact congrArg Value.bool (okD g28 g38)
 refine e_S ?_;refine zX rfl (fun c45=>?_) (fun c45=>?_)
 ·have e:swk (.mk base args) d n=(n + 1,5):=by rw [Iw,if_neg c18,if_neg c45]
  refine zn8 ?_;rw [e];exact⟨rfl,hC,hbN⟩
 have hok:QW (.mk base args):=Decidable.not_not.1 c45;have he:swk (.mk base args) d n=J1 args (d + 1) (n + 1):=by rw [Iw,if_neg c18,if_pos hok];rfl
 refine yZ ?_;refine zW (rg [6,9,10] 49 13) (fun m g w'=>∃ j nj:Nat,j≤args.length∧m=args.length - j∧g 49= .int .i64 j∧nj≤200∧J1 args (d + 1) (n + 1)=J1 (args.drop j) (d + 1) nj∧Bel w0 w'∧Blk w' bN 3 #[.int .i64 ((nj:Nat):Int)]∧Blk w' bV 185 #[.func (.func 123) #[] #[.pointer (some ⟨bN,0,none⟩),.pointer (some ⟨bV,0,none⟩)]]∧ChG (fun g=>g=bN) w w') (args.length) ?_ (fun m g8 w3 hI=>?_)
 ·exact⟨0,n + 1,Nat.zero_le _,rfl,rfl,by omega,rfl,hB,hbN,hbV.u,hC⟩
 obtain⟨j,nj,hj,hmj,h49,hnj,hR,hB,hbN,hbV,hC⟩:=hI;refine zZ 49 _ h49 nu (zn6 ?_);refine zX rfl (fun c50=>?_) (fun c50=>?_)
 ·have hjl:j < args.length:=by omega
  obtain⟨sb,so,A',c',rfl,hsb,hsr,hs2⟩:=hS.at_ hjl;have hdr:args.drop j=args[j] :: args.drop (j + 1):=List.drop_eq_getElem_cons hjl;rw [hdr,J1] at hR;refine zn8 ?_;refine qq (cs:=#[.string ⟨#[]⟩,.slice none 0 0]) ov rfl (fun b9 w4 hb9 s3 hr=>?_);have:=nLL hbN.lt hr;have:=nLL hbV.lt hr;have or_hC_b9:=(nLT hC.size hr)
  have lo9:=nLT (Bel.size hB) hr;replace hC:=hC.st s3 (by simp);refine zk hb9 rfl rfl x9 rfl zQ (fun w5 hq s4=>?_);replace hC:=hC.st s4 (fun g hg=>by rw [List.mem_singleton.1 hg];first | exact .inl rfl | exact .inr or_hC_b9);replace hb9:=hq;refine zn8 ?_;refine y6 rfl fn123 (IH _ (List.getElem_mem hjl) A' c' (d + 1) nj _ hs2 hnj oM hB.u hbN.u hbV.u) rfl rfl (fun e' w6 hr=>?_);obtain⟨rfl,hC2,hbN2⟩:=hr;replace hB:=(hB.tr0 s3).tr1 s4 lo9;replace hB:=hB.chG hC2 (fun g hg=>by rw [show g=bN from hg];exact l0N);replace hbV:=(hbV.tr0 s3).tr1 s4 oM;replace hbV:=hbV.chG hC2 (fun hx=>by have hx:bV=bN:=hx;omega);replace hC:=hC.trans hC2 (fun g hg=> .inl hg);replace hbN:=hbN2;refine⟨_,rfl,?_⟩;refine zn9 ?_;refine zX rfl (fun c59=>?_) (fun c59=>?_)
  ·rw [if_neg c59] at hR;refine ky ?_;rw [he,hR];exact⟨rfl,hC,hbN⟩
  have c59:(swk (args[j]'hjl) (d + 1) nj).2=0:=Decidable.not_not.1 c59;rw [if_pos c59] at hR;obtain⟨_,_,e1,e2⟩:=Hz _ _ _ c59;have hn3:(swk (args[j]'hjl) (d + 1) nj).1≤200:=by rw [e1];exact e2
  have hR3:=hR;refine zn7 ?_;refine xv (args.length - (j + 1)) oM agA ?_;exact⟨j + 1,_,by omega,rfl,rfl,hn3,hR3,hB,hbN,hbV,hC⟩
 have hje:j=args.length:=by omega
 rw [hje,List.drop_length,J1] at hR;refine yZ ?_;rw [he,hR];exact⟨rfl,hC,hbN⟩
theorem swk_anyK {w0:World} {bN bV:Nat} (l0N:w0.heap.size≤bN) (_l0V:w0.heap.size≤bV) (nVN:bV≠bN):∀ (k:Nat) (s:Sm),SizeOf.sizeOf s < k→∀ (A:Option Addr) (c d n:Nat) (w:World),SimsIn w0 A s.args→n≤200→d≤41→Bel w0 w→Blk w bN 3 #[.int .i64 ((n:Nat):Int)]→Blk w bV 185 #[.func (.func 123) #[] #[.pointer (some ⟨bN,0,none⟩),.pointer (some ⟨bV,0,none⟩)]]→Calls Tryz.prog 123 #[.agg #[.string s.base,.slice A s.args.length c],.int .i64 ((d:Nat):Int),.pointer (some ⟨bN,0,none⟩),.pointer (some ⟨bV,0,none⟩)] w fun e w'=>e= .returned (.int .i64 (swk s d n).2)∧ChG (fun g=>g=bN) w w'∧Blk w' bN 3 #[.int .i64 (((swk s d n).1:Nat):Int)]:=by
  intro k
  induction k with
  | zero=>intro s h;omega
  | succ k ih=>
    intro s h A c d n w hS hn hd hB hbN hbV;cases s with
    | mk base args=>exact swk_step (base:=base) (args:=args) l0N _l0V nVN hS (fun x hx A2 c2 d2 n2 w2 h1 h2 h3 h4 h5 h6=>ih x (by have:=List.sizeOf_lt_of_mem hx;simp only [Sm.mk.sizeOf_spec] at h;omega) A2 c2 d2 n2 w2 h1 h2 h3 h4 h5 h6) hn hd hB hbN hbV
theorem swk_any {w0:World} {bN bV:Nat} (l0N:w0.heap.size≤bN) (_l0V:w0.heap.size≤bV) (nVN:bV≠bN)  (s:Sm) (A:Option Addr) (c d n:Nat) (w:World):SimsIn w0 A s.args→n≤200→d≤41→Bel w0 w→Blk w bN 3 #[.int .i64 ((n:Nat):Int)]→Blk w bV 185 #[.func (.func 123) #[] #[.pointer (some ⟨bN,0,none⟩),.pointer (some ⟨bV,0,none⟩)]]→Calls Tryz.prog 123 #[.agg #[.string s.base,.slice A s.args.length c],.int .i64 ((d:Nat):Int),.pointer (some ⟨bN,0,none⟩),.pointer (some ⟨bV,0,none⟩)] w fun e w'=>e= .returned (.int .i64 (swk s d n).2)∧ChG (fun g=>g=bN) w w'∧Blk w' bN 3 #[.int .i64 (((swk s d n).1:Nat):Int)]:=swk_anyK l0N _l0V nVN (SizeOf.sizeOf s + 1) s (Nat.lt_succ_self _) A c d n w
end Go.Proofs.YtbcpgfnfiekbiaaGreatDoor
namespace Go.Proofs.YtbcpgfnfiekbiaaGreatDoor
open Go.RowKit
theorem sm2_two {w:World} {b c1 c2:Nat} {A1 A2:Option Addr} {s t:Sm} (hb:Blk w b 41 #[.string s.base,.slice A1 s.args.length c1,.string t.base,.slice A2 t.args.length c2]) (h1:SimsIn w A1 s.args) (h2:SimsIn w A2 t.args):SimsIn w (some ⟨b,0,none⟩) [s,t]:=by
  refine .more (by simp [yJ]) hb.lt (fun k hk=>?_)
  match k,hk with
  | 0,_=>
    rw [show [s,t][0]=Sm.mk s.base s.args from Sm.eta s];refine SimAt.mk (c:=c1) hb.lt (fun i v hv=>?_) h1
    match i,hv with
    | 0,hv=>exact hb.cell hv
    | 1,hv=>exact hb.cell hv
    | i + 2,hv=>simp at hv
  | 1,_=>
    rw [show [s,t][1]=Sm.mk t.base t.args from Sm.eta t];refine SimAt.mk (c:=c2) hb.lt (fun i v hv=>?_) h2
    match i,hv with
    | 0,hv=>exact hb.cell hv
    | 1,hv=>exact hb.cell hv
    | i + 2,hv=>simp at hv
def tb (τ:Ts):ByteArray:=⟨τ.txt.toArray⟩
theorem V5 (τ:Ts):(tb τ).size=τ.txt.length:=by rw [← bl_size];rfl
theorem tb_eq (a b:Ts):decide (tb a=tb b)=a.eqb b:=by
  by_cases h:a=b
  · subst h;rw [decide_eq_true rfl,(Ts.eqb_iff).2 rfl]
  · rw [decide_eq_false (fun e=>h (Ts.txt_inj (by have:=congrArg bl e;exact this)))]
    cases e:a.eqb b with
    | true=>exact absurd (Ts.eqb_iff.1 e) h
    | false=>rfl
theorem tb_leaf (t:Bool):tb (.b t)=(Ts.b t).sm.base:=by cases t <;> rfl
theorem tb_f (x y:Ts):(⟨#[40]⟩:ByteArray) ++ tb x ++ ⟨#[32]⟩ ++ tb y ++ ⟨#[41]⟩=tb (.f x y):=by
  refine bl_ext ?_;simp only [bl_app];show [40] ++ x.txt ++ [32] ++ y.txt ++ [41]=40 :: (x.txt ++ 32 :: (y.txt ++ [41]));simp
theorem ts_leaf {τ:Ts} (h:¬τ.sm.base=⟨#[]⟩):∃ t,τ= .b t:=by
  cases τ with
  | b t=>exact⟨t,rfl⟩
  | f x y=>exact absurd rfl h
theorem ts_fun {τ:Ts} (h:τ.sm.base=⟨#[]⟩):∃ x y,τ= .f x y:=by
  cases τ with
  | b t=>exact absurd h (by cases t <;> decide)
  | f x y=>exact⟨x,y,rfl⟩
theorem fn92:zK Tryz.prog 92=true:=by kernel_rfl
theorem to_any (A1 A2:Option Addr) (c1 c2:Nat) (s t:Sm) (w:World):Calls Tryz.prog 91 #[.agg #[.string s.base,.slice A1 s.args.length c1],.agg #[.string t.base,.slice A2 t.args.length c2]] w fun e w'=>(∃ b,e= .returned (.agg #[.string ⟨#[]⟩,.slice (some ⟨b,0,none⟩) 2 2])∧w.heap.size≤b∧Blk w' b 41 #[.string s.base,.slice A1 s.args.length c1,.string t.base,.slice A2 t.args.length c2])∧Bel w w':=by
 refine enT Tryz.func91 Tryz.ntmps91 rfl rfl fun hB=>?_;refine zn2 ?_;refine x6 (v:= .agg #[_,_]) (cs:=#[_,_]) rfl rfl (fun b2 w1 hb2 s1 hr=>?_);refine x6 (v:= .agg #[_,_]) (cs:=#[_,_]) rfl rfl (fun b3 w2 hb3 s2 hr=>?_);refine qq (cs:=#[.string ⟨#[]⟩,.slice none 0 0]) ov rfl (fun b4 w3 hb4 s3 hr=>?_);have lo4:=nLT (Bel.size hB.u) hr;refine zn6 ?_;refine qw (cs:=#[_,_,_,_]) [(0,.agg _),(1,.agg _)] rfl U39 x9 ov dE dE kR rfl (fun b7 w4 hb7 s4 hr=>?_);have:=nLL hb4.lt hr;have lo7:=nLT (Bel.size hB.u) hr;refine wl (ZY (v0:= .slice _ _ _) (fun v0=>#[.string ⟨#[]⟩,v0]) rfl kR) ?_;refine zk hb4.u rfl rfl x9 rfl zQ (fun w5 hq s5=>?_);replace hb4:=hq;refine zn3 ?_;refine x7 (.inl rfl) rfl (zy U41 rfl rfl hb4.range0 x9) ?_;exact⟨⟨b7,rfl,lo7,hb7.u⟩,hB.u⟩
theorem Xj (A:Option Addr) (c:Nat) (s:Sm) (w:World):Calls Tryz.prog 86 #[.agg #[.string s.base,.slice A s.args.length c]] w fun e w'=>e= .returned (.bool (decide (Vj s)))∧Bel w w':=by
 refine enT Tryz.func86 Tryz.ntmps86 rfl rfl fun hB=>?_;refine zn2 ?_;refine x6 (v:= .agg #[_,_]) (cs:=#[_,_]) rfl rfl (fun b1 w1 hb1 s1 hr=>?_);refine zn4 ?_;refine xJ (rg [] 2 10) 2 (.bool (decide (Vj s))) nu ?_ (fun gq=>?_)
 ·refine zn5 ?_;refine zw 6 rfl (fun g6=>?_) (fun g6=>?_)
  ·refine yv ?_;refine zJ (e_R ⟨rfl,agA,?_⟩);show Value.bool _=Value.bool _
   first | exact congrArg Value.bool (decide_eq_decide.2 ⟨fun e=>⟨g6,by omega⟩,fun e=>by have:=e.2;omega⟩) | exact congrArg Value.bool (decide_eq_false (fun e=>g6 e.1)).symm
  refine zn6 ?_;refine zJ (e_R ⟨rfl,agA,?_⟩);show Value.bool _=Value.bool _
  first | exact congrArg Value.bool (decide_eq_decide.2 ⟨fun e=>⟨g6,by omega⟩,fun e=>by have:=e.2;omega⟩) | exact congrArg Value.bool (decide_eq_false (fun e=>g6 e.1)).symm
 refine zn3 ?_;exact⟨rfl,hB.u⟩
theorem Fk (A:Option Addr) (c:Nat) (s:Sm) (w:World):Calls Tryz.prog 110 #[.agg #[.string s.base,.slice A s.args.length c]] w fun e w'=>e= .returned (.bool (decide (Vj s)))∧Bel w w':=by
 refine enT Tryz.func110 Tryz.ntmps110 rfl rfl fun hB=>?_;refine zn2 ?_;refine x6 (v:= .agg #[_,_]) (cs:=#[_,_]) rfl rfl (fun b1 w1 hb1 s1 hr=>?_);refine zn4 ?_;refine xJ (rg [] 2 10) 2 (.bool (decide (Vj s))) nu ?_ (fun gq=>?_)
 ·refine zn5 ?_;refine zw 6 rfl (fun g6=>?_) (fun g6=>?_)
  ·refine yv ?_;refine zJ (e_R ⟨rfl,agA,?_⟩);show Value.bool _=Value.bool _
   first | exact congrArg Value.bool (decide_eq_decide.2 ⟨fun e=>⟨g6,by omega⟩,fun e=>by have:=e.2;omega⟩) | exact congrArg Value.bool (decide_eq_false (fun e=>g6 e.1)).symm
  refine zn6 ?_;refine zJ (e_R ⟨rfl,agA,?_⟩);show Value.bool _=Value.bool _
  first | exact congrArg Value.bool (decide_eq_decide.2 ⟨fun e=>⟨g6,by omega⟩,fun e=>by have:=e.2;omega⟩) | exact congrArg Value.bool (decide_eq_false (fun e=>g6 e.1)).symm
 refine zn3 ?_;exact⟨rfl,hB.u⟩
set_option maxHeartbeats 1000000 in
theorem stx_step {τ:Ts} {A:Option Addr} {c:Nat} {w:World} (hS:SimsIn w A τ.sm.args) (hlen:τ.txt.length≤1000000) (IH:∀ x ∈ τ.kids,∀ (A2:Option Addr) (c2:Nat) (w2:World),SimsIn w2 A2 x.sm.args→x.txt.length≤1000000→Calls Tryz.prog 92 #[.agg #[.string (x).sm.base,.slice A2 (x).sm.args.length c2]] w2 fun e w'=>e= .returned (.string (tb x))∧Bel w2 w'):Calls Tryz.prog 92 #[.agg #[.string (τ).sm.base,.slice A (τ).sm.args.length c]] w fun e w'=>e= .returned (.string (tb τ))∧Bel w w':=by
 refine enT Tryz.func92 Tryz.ntmps92 rfl rfl fun hB=>?_;refine zn2 ?_;refine x6 (v:= .agg #[_,_]) (cs:=#[_,_]) rfl rfl (fun b1 w1 hb1 s1 hr=>?_);refine vq ?_;refine zX rfl (fun c5=>?_) (fun c5=>?_)
 ·obtain⟨t,rfl⟩:=ts_leaf c5;refine yv ?_;exact⟨congrArg (fun z=>Ending.returned (.string z)) (tb_leaf t).symm,hB.u⟩
 obtain⟨x,y,rfl⟩:=ts_fun (Decidable.not_not.1 c5);obtain⟨sb,so,A1,c1,rfl,hsb,hr1,hs1⟩:=hS.at_ (k:=0) (by simp [Ts.sm,Sm.args]);obtain⟨_,_,A2,c2,e2,_,hr2,hs2⟩:=hS.at_ (k:=1) (by simp [Ts.sm,Sm.args]);cases e2;have hlx:x.txt.length + y.txt.length + 3≤1000000:=by simp [Ts.txt] at hlen;omega
 refine zn3 ?_;refine jx [] [0,1,2,3,7,8,9,10,4,5,6,11,12,13,14] rfl (fun w2 s2=>?_);refine zn2 ?_;refine hl rfl (fun _=>xk (i:=0) U39 x9 rfl rfl (by show 0 < 2;decide) rfl) (zn3 ?_);refine hl rfl (fun _=>xk (i:=1) U39 x9 rfl rfl (by show 1 < 2;decide) rfl) (zn1 ?_);refine hcl (fun v wv=>v= .string (tb x)) rfl fn92 (IH x (List.mem_cons_self ..) A1 c1 w2 (hs1.mono hB.u) oM) rfl (fun e' w2 hr=>?_) (fun v12 w3 s3 d12=>?_)
 ·obtain⟨rfl,s4⟩:=hr;exact⟨_,rfl,sB s4,rfl⟩
 have e12:=d12;subst e12;refine hl rfl (fun _=>YX rfl rfl (by rw [V5];show 1 + _≤_;omega)) (hl rfl (fun _=>YX rfl rfl (by rw [ByteArray.size_append,V5];show 1 + _ + 1≤_;omega)) ?_);refine hcl (fun v wv=>v= .string (tb y)) rfl fn92 (IH y (List.mem_cons_of_mem _ (List.mem_cons_self ..)) A2 c2 w3 (hs2.mono hB.u) oM) rfl (fun e' w2 hr=>?_) (fun v19 w4 s5 d19=>?_)
 ·obtain⟨rfl,s6⟩:=hr;exact⟨_,rfl,sB s6,rfl⟩
 have e19:=d19;subst e19;refine hl rfl (fun _=>YX rfl rfl (by rw [ByteArray.size_append,ByteArray.size_append,V5,V5];show 1 + _ + 1 + _≤_;omega)) (hl rfl (fun _=>YX rfl rfl (by rw [ByteArray.size_append,ByteArray.size_append,ByteArray.size_append,V5,V5];show 1 + _ + 1 + _ + 1≤_;omega)) (zn5 ?_));exact⟨congrArg (fun z=>Ending.returned (.string z)) (tb_f x y),hB.u⟩
theorem stx_any:∀ (k:Nat) (τ:Ts),τ.size < k→∀ (A:Option Addr) (c:Nat) (w:World),SimsIn w A τ.sm.args→τ.txt.length≤1000000→Calls Tryz.prog 92 #[.agg #[.string (τ).sm.base,.slice A (τ).sm.args.length c]] w fun e w'=>e= .returned (.string (tb τ))∧Bel w w':=by
  intro k
  induction k with
  | zero=>intro τ h;omega
  | succ k ih=>exact fun τ h A c w hS hl=>stx_step hS hl (fun x hx A2 c2 w2 h1 h2=>ih x (by have:=Ts.kids_lt hx;omega) A2 c2 w2 h1 h2)
end Go.Proofs.YtbcpgfnfiekbiaaGreatDoor
namespace Go.Proofs.YtbcpgfnfiekbiaaGreatDoor
open Go.RowKit
theorem fn78:zK Tryz.prog 78=true:=by kernel_rfl
set_option maxHeartbeats 1000000 in
theorem IQ (A1 A2:Option Addr) (c1 c2:Nat) (a b:Ts) (w:World) (h1:SimsIn w A1 a.sm.args) (h2:SimsIn w A2 b.sm.args) (hl1:a.txt.length≤1000000) (hl2:b.txt.length≤1000000):Calls Tryz.prog 49 #[.agg #[.string a.sm.base,.slice A1 a.sm.args.length c1],.agg #[.string b.sm.base,.slice A2 b.sm.args.length c2]] w fun e w'=>e= .returned (.bool (a.eqb b))∧Bel w w':=by
 refine enT Tryz.func49 Tryz.ntmps49 rfl rfl fun hB=>?_;refine zn2 ?_;refine x6 (v:= .agg #[_,_]) (cs:=#[_,_]) rfl rfl (fun b2 w1 hb2 s1 hr=>?_);refine x6 (v:= .agg #[_,_]) (cs:=#[_,_]) rfl rfl (fun b3 w2 hb3 s2 hr=>?_);refine zn4 ?_;refine jx [] [0,2,1,3,4,5] rfl (fun w3 s3=>?_);refine zn2 ?_;refine hcl (fun v wv=>v= .string (tb a)) rfl fn92 (stx_any _ a (Nat.lt_succ_self _) A1 c1 w3 (h1.mono hB.u) hl1) rfl (fun e' w2 hr=>?_) (fun v6 w4 s4 d6=>?_)
 ·obtain⟨rfl,s5⟩:=hr;exact⟨_,rfl,sB s5,rfl⟩
 have e6:=d6;subst e6;refine hcl (fun v wv=>v= .string (tb b)) rfl fn92 (stx_any _ b (Nat.lt_succ_self _) A2 c2 w4 (h2.mono hB.u) hl2) rfl (fun e' w2 hr=>?_) (fun v8 w5 s6 d8=>?_)
 ·obtain⟨rfl,s7⟩:=hr;exact⟨_,rfl,sB s7,rfl⟩
 have e8:=d8;subst e8;refine zn6 ?_;exact⟨congrArg (fun z=>Ending.returned (.bool z)) (tb_eq a b),hB.u⟩
set_option maxRecDepth 100000 in
set_option maxHeartbeats 2000000 in
theorem same_step {A1 A2:Option Addr} {c1 c2:Nat} {a b:Ts} {w:World} (h1:SimsIn w A1 a.sm.args) (h2:SimsIn w A2 b.sm.args) (IH:∀ x ∈ a.kids,∀ (A1 A2:Option Addr) (c1 c2:Nat) (b:Ts) (w:World),SimsIn w A1 x.sm.args→SimsIn w A2 b.sm.args→Calls Tryz.prog 78 #[.agg #[.string x.sm.base,.slice A1 x.sm.args.length c1],.agg #[.string b.sm.base,.slice A2 b.sm.args.length c2]] w fun e w'=>e= .returned (.bool (x.eqb b))∧Bel w w'):Calls Tryz.prog 78 #[.agg #[.string a.sm.base,.slice A1 a.sm.args.length c1],.agg #[.string b.sm.base,.slice A2 b.sm.args.length c2]] w fun e w'=>e= .returned (.bool (a.eqb b))∧Bel w w':=by
 have hk1:=Ts.kids_len a;have hk2:=Ts.kids_len b;have ek1:a.sm.args.length=a.kids.length:=by rw [Ts.kids_sm,List.length_map]
 have ek2:b.sm.args.length=b.kids.length:=by rw [Ts.kids_sm,List.length_map]
 refine enT Tryz.func78 Tryz.ntmps78 rfl rfl fun hB=>?_;refine zn2 ?_;refine x6 (v:= .agg #[_,_]) (cs:=#[_,_]) rfl rfl (fun b2 w1 hb2 s1 hr=>?_);refine x6 (v:= .agg #[_,_]) (cs:=#[_,_]) rfl rfl (fun b3 w2 hb3 s2 hr=>?_);refine zn5 ?_;replace hB:=hB.tr0 (s1.trans s2);refine xJ (rg [] 6 14) 19 (.bool (decide (¬(a.sm.base=b.sm.base∧a.sm.args.length=b.sm.args.length)))) nu ?_ (fun gq=>?_)
 ·refine zn7 ?_;refine zw 11 rfl (fun g11=>?_) (fun g11=>?_)
  ·refine zn8 ?_;refine zJ (e_R ⟨rfl,agA,?_⟩);show Value.bool _=Value.bool _
   first | exact congrArg Value.bool (decide_eq_true (by exact fun h=>g11 h.1)).symm | exact congrArg Value.bool (decide_eq_decide.2 (by exact⟨fun h k=>h (by have:=k.2;omega),fun h e=>h ⟨Classical.not_not.1 g11,by omega⟩⟩))
  refine QJ ?_;refine zJ (e_R ⟨rfl,agA,?_⟩);show Value.bool _=Value.bool _
  first | exact congrArg Value.bool (decide_eq_true (by exact fun h=>g11 h.1)).symm | exact congrArg Value.bool (decide_eq_decide.2 (by exact⟨fun h k=>h (by have:=k.2;omega),fun h e=>h ⟨Classical.not_not.1 g11,by omega⟩⟩))
 refine e_S ?_;refine zX rfl (fun c19=>?_) (fun c19=>?_)
 ·refine zn8 ?_;have hne:¬a=b:=fun e=>c19 (by subst e;exact⟨rfl,rfl⟩)
  exact⟨congrArg (fun z=>Ending.returned (.bool z)) (Bool.eq_false_iff.2 (fun e=>hne (Ts.eqb_iff.1 e))).symm,hB⟩
 have hbl:=Decidable.not_not.1 c19;refine yZ ?_;refine zW (rg [4,5] 23 16) (fun m g w'=>∃ j:Nat,j≤a.kids.length∧m=a.kids.length - j∧g 23= .int .i64 j∧Bel w w'∧Blk w' b2 41 #[.string a.sm.base,.slice A1 a.sm.args.length c1]∧Blk w' b3 41 #[.string b.sm.base,.slice A2 b.sm.args.length c2]∧a.kids.take j=b.kids.take j) (a.kids.length) ?_ (fun m g4 w3 hI=>?_)
 ·exact⟨0,Nat.zero_le _,rfl,rfl,hB,hb2.u,hb3,rfl⟩
 obtain⟨j,hj,hmj,h23,hB,hb2,hb3,hall⟩:=hI;refine zZ 23 _ h23 nu (zn6 ?_);refine zX rfl (fun c24=>?_) (fun c24=>?_)
 ·have hja:j < a.kids.length:=by omega
  have hjb:j < b.kids.length:=by omega
  obtain⟨sb,so,A3,c3,rfl,hsb,hr3,hs3⟩:=R4 h1 hja;obtain⟨tb,to,A4,c4,rfl,htb,hr4,hs4⟩:=R4 h2 hjb;refine vq ?_;refine XQ 10 kR kR (fun w4 s3=>?_);refine yv ?_;refine X8 ?_;refine zV fn78 (IH _ (List.getElem_mem hja) A3 A4 c3 c4 _ _ (hs3.mono hB.u) (hs4.mono hB.u)) rfl (fun e' w5 hr=>?_);obtain⟨rfl,s4⟩:=hr;replace s4:=sB s4;refine⟨_,rfl,?_⟩;refine zn3 ?_;refine vK rfl (fun c37=>?_) (fun c37=>?_)
  ·refine yZ ?_;have hne:¬a=b:=fun e=>by
     have h:=(Ts.eqb_iff (a:=a.kids[j]) (b:=b.kids[j])).2 (by subst e;rfl);rw [h] at c37;cases c37
   exact⟨congrArg (fun z=>Ending.returned (.bool z)) (Bool.eq_false_iff.2 (fun e=>hne (Ts.eqb_iff.1 e))).symm,hB.u⟩
  refine zn7 ?_;refine xv (a.kids.length - (j + 1)) oM agA ?_;exact⟨j + 1,by omega,rfl,rfl,hB.u,hb2.u,hb3.u,take_kid hall hja hjb (Ts.eqb_iff.1 (by simpa using c37))⟩
 have hje:j=a.kids.length:=by omega
 refine yZ ?_;rw [hje,List.take_of_length_le (Nat.le_refl _),List.take_of_length_le oM] at hall;exact⟨congrArg (fun z=>Ending.returned (.bool z)) (Ts.eqb_iff.2 (Ts.ext hbl.1 hall)).symm,hB⟩
theorem same_anyK:∀ (k:Nat) (a:Ts),a.size < k→∀ (A1 A2:Option Addr) (c1 c2:Nat) (b:Ts) (w:World),SimsIn w A1 a.sm.args→SimsIn w A2 b.sm.args→Calls Tryz.prog 78 #[.agg #[.string a.sm.base,.slice A1 a.sm.args.length c1],.agg #[.string b.sm.base,.slice A2 b.sm.args.length c2]] w fun e w'=>e= .returned (.bool (a.eqb b))∧Bel w w':=by
  intro k
  induction k with
  | zero=>intro a h;omega
  | succ k ih=>exact fun a h A1 A2 c1 c2 b w h1 h2=>same_step h1 h2 (fun x hx A3 A4 c3 c4 b2 w2 h3 h4=>ih x (by have:=Ts.kids_lt hx;omega) A3 A4 c3 c4 b2 w2 h3 h4)
theorem R7 (A1 A2:Option Addr) (c1 c2:Nat) (a b:Ts) (w:World) (h1:SimsIn w A1 a.sm.args) (h2:SimsIn w A2 b.sm.args):Calls Tryz.prog 78 #[.agg #[.string a.sm.base,.slice A1 a.sm.args.length c1],.agg #[.string b.sm.base,.slice A2 b.sm.args.length c2]] w fun e w'=>e= .returned (.bool (a.eqb b))∧Bel w w':=same_anyK _ a (Nat.lt_succ_self _) A1 A2 c1 c2 b w h1 h2
end Go.Proofs.YtbcpgfnfiekbiaaGreatDoor
namespace Go.Proofs.YtbcpgfnfiekbiaaGreatDoor
open Go.RowKit
section rules
variable {P:Program} {Q:Exit→Act→World→Prop} {n:Nw} {f:Fr} {w w':World} {ops:Array Oper} {rest:List Oper} {d:Nat} {ty:TypeId} {pos:String} {af:Array Edge} {x y z:Operand} {t t' e:TypeId}
theorem r_slF {dst:Option Tmp} {gd:Option (Nat×Bool)} {A:Option Addr} {m c h:Nat} {sz:Nat} (hu:P.underlying t=some (.slice e)) (hs:(P.info? e).map (·.size)=some sz) (hx:ev n f x= .slice A m c) (hy:ev n f y= .int .i64 (h:Int)) (hz:ev n f z= .int .i64 (h:Int)) (hh:h≤c):
    RV P n f w ⟨dst,.slice t x none (some y) (some z),ty,pos,af,gd⟩ (.slice A h h) w:=by
  cases hq:P.info? e with
  | none=>simp [hq] at hs
  | some i=>
    have h1:(Instr.sliceBound (.int .i64 (h:Int)) h .slice3C).run P w= .ok h w:=by simp [Instr.sliceBound,asIntOf]
    have h2:(Instr.sliceBound (.int .i64 (h:Int)) c .slice3Acap).run P w= .ok h w:=by simp [Instr.sliceBound,asIntOf,hh]
    have h3:(Instr.sliceBound (.int .i64 (h:Int)) h .slice3B).run P w= .ok h w:=by simp [Instr.sliceBound,asIntOf]
    cases A <;> simp [RV,execOp,hx,hy,hz,Instr.sliceAt,run_underlying hu,Instr.slice,Instr.sliceBounds,h1,h2,h3,sizeOf,typeInfo,hq,C5]
theorem wl_appFl {zv:Value} {by' k m c b sz:Nat} {A:Option Addr} {cs:Array Value} {olds:List Value} (hu:P.underlying t=some (.slice e)) (hi:(P.info? e).map (fun i=>(i.zero,i.size,i.bytes))=some (some zv,sz,by')) (hzs:zv.cells.size=sz) (hsz:0 < sz)
    (hlo:olds.length=k * sz) (holds:∀ b',A=some b'→∀ j u,olds[j]? =some u→w.cell? (b'.add j)=some u) (hno:A=none→k=0) (hb:Blk w b e cs) (hx:ev n f x= .slice A k k) (hy:ev n f y= .slice (some ⟨b,0,none⟩) m c) (hl:cs.size=m * sz) (h1:cs.toList.all (·.oneCell')=true) (hm:0 < m) (h63:k + m≤9223372036854775807) (hbytes:(k + m) * by'≤140737488355328)
    (K:∀ g cap' w1,Own w1 w.heap.size e sz (some ⟨g,0,none⟩) (k + m) cap' (olds ++ cs.toList)→Same [] w w1→w.heap.size≤g→WL P ops Q rest n (upd f d (.slice (some ⟨g,0,none⟩) (k + m) cap')) w1):
    WL P ops Q (⟨some d,.call { callee:= .builtin .append,args:=#[x,y],argTypes:=#[t,t] },ty,pos,af,none⟩ :: rest) n f w:=by
  cases A with
  | none=>
    obtain rfl:=hno rfl;obtain rfl:olds= []:=List.eq_nil_of_length_eq_zero (by simpa using hlo);refine vX hu hi hzs hsz (Own.nil w w.heap.size e sz) hb hx hy hl h1 hm h63 hbytes (Nat.le_refl _) (fun g cap' w1 ho hs hg=>K g cap' w1 ho hs ?_);rcases hg with h | h
    · cases h
    · exact h
  | some b'=>
    obtain⟨i,hq,hzz⟩:=Option.map_eq_some_iff.1 hi;simp only [Prod.mk.injEq] at hzz;obtain⟨v',w1,hr,ho,hg⟩:=run_append_arg_grows (P:=P) w t ty e i zv sz by' hu hq hzz.1 hzz.2.1 hzz.2.2 hzs hsz b' k k olds hlo (holds b' rfl) ⟨b,0,none⟩ m c cs.toList (by simpa using hl) (World.news_of_block hb) oM h63 hbytes;have hv:∃ g cap',v'= .slice (some ⟨g,0,none⟩) (k + m) cap'∧w.heap.size≤g:=by
      rcases ho.2 with ⟨_,h0⟩ | ⟨g,cap',_,rfl,hg',_⟩
      · omega
      · exact⟨g,cap',rfl,hg'⟩
    obtain⟨g,cap',rfl,hgl⟩:=hv;refine wl (v:= .slice (some ⟨g,0,none⟩) (k + m) cap') (w':=w1) ?_ (K g cap' w1 ho (J6 (A:=none) (k:=0) (cap:=0) hg) hgl);simp only [RV,execOp,resolve,invoke,builtin,Sem.run_bind,Sem.run_pure,Result.andThen_ok,List.map_toArray,List.map_cons,List.map_nil,hx,hy,hr]
end rules
inductive SimR (w:World):List Sm→List Value→Prop
  | nil:SimR w [] []
  | snoc {l:List Sm} {vs:List Value} {s:Sm} {A:Option Addr} {c:Nat} (h:SimR w l vs) (hs:SimsIn w A s.args):SimR w (l ++ [s]) (vs ++ [.string s.base,.slice A s.args.length c])
theorem SimR.len {w:World} {l:List Sm} {vs:List Value} (h:SimR w l vs):vs.length=l.length * 2:=by
  induction h with
  | nil=>rfl
  | snoc h hs ih=>simp only [List.length_append,ih,List.length_cons,List.length_nil];omega
theorem SimR.mono {w w':World} {l:List Sm} {vs:List Value} (h:SimR w l vs) (hb:Bel w w'):SimR w' l vs:=by
  induction h with
  | nil=>exact .nil
  | snoc h hs ih=>exact .snoc ih (hs.mono hb)
theorem SimR.at_ {w:World} {l:List Sm} {vs:List Value} (h:SimR w l vs):∀ {k:Nat} (hk:k < l.length),∃ A c,vs[k * 2]? =some (.string (l[k]).base)∧vs[k * 2 + 1]? =some (.slice A (l[k]).args.length c)∧SimsIn w A (l[k]).args:=by
  induction h with
  | nil=>intro k hk;simp at hk
  | @snoc l vs s A c h hs ih=>
    intro k hk;have hl:=h.len;by_cases e:k < l.length
    · obtain⟨A',c',h1,h2,h3⟩:=ih e
      rw [List.getElem_append_left e];exact⟨A',c',by rw [List.getElem?_append_left oM];exact h1,by rw [List.getElem?_append_left oM];exact h2,h3⟩
    · have ek:k=l.length:=by rw [List.length_append] at hk;simp at hk;omega
      subst ek;rw [List.getElem_append_right (Nat.le_refl _)];simp only [Nat.sub_self,List.getElem_cons_zero];refine⟨A,c,?_,?_,hs⟩
      · rw [List.getElem?_append_right oM,hl,Nat.sub_self];rfl
      · rw [List.getElem?_append_right oM,hl,show l.length * 2 + 1 - l.length * 2=1 by omega];rfl
theorem SimsIn.row {w:World} {b o:Nat} {l:List Sm} (h:SimsIn w (some ⟨b,o,none⟩) l):∃ vs,SimR w l vs∧∀ j u,vs[j]? =some u→w.cell? ⟨b,o + j,none⟩=some u:=by
  have key:∀ k,k≤l.length→∃ vs,SimR w (l.take k) vs∧∀ j u,vs[j]? =some u→w.cell? ⟨b,o + j,none⟩=some u:=by
    intro k
    induction k with
    | zero=>exact fun _=>⟨[],.nil,fun j u hj=>by simp at hj⟩
    | succ k ih=>
      intro hk;obtain⟨vs,h1,h2⟩:=ih oM;obtain⟨b',o',A',c',e,_,hr,hs⟩:=h.at_ (k:=k) oM;cases e;have hl:=h1.len;rw [List.length_take,Nat.min_eq_left oM] at hl;refine⟨vs ++ [.string (l[k]).base,.slice A' (l[k]).args.length c'],?_,fun j u hj=>?_⟩
      · rw [Zv l oM];exact .snoc h1 hs
      · by_cases e:j < vs.length
        · rw [List.getElem?_append_left e] at hj;exact h2 j u hj
        · rw [List.getElem?_append_right oM] at hj
          have:=hr (j - vs.length) u hj
          rwa [hl,show o + k * 2 + (j - k * 2)=o + j by omega] at this
  obtain⟨vs,h1,h2⟩:=key l.length (Nat.le_refl _);rw [List.take_of_length_le (Nat.le_refl _)] at h1;exact⟨vs,h1,h2⟩
theorem sims_own {w:World} {base n cap g:Nat} {l:List Sm} {vs:List Value} (ho:Own w base 41 2 (some ⟨g,0,none⟩) n cap vs) (h:SimR w l vs) (hn:l.length=n) (hp:0 < n):SimsIn w (some ⟨g,0,none⟩) l:=by
  have hl:=h.len;obtain⟨g',e,_,hg,hc⟩:=ho.cell (by intro e;rw [e] at hl;simp at hl;omega);cases e;refine .more (by have:=ho.max;unfold yJ;omega) hg (fun k hk=>?_);obtain⟨A,c,h1,h2,h3⟩:=h.at_ hk;rw [show l[k]=Sm.mk (l[k]).base (l[k]).args from Sm.eta _];refine SimAt.mk (c:=c) hg (fun i v hv=>?_) h3
  match i,hv with
  | 0,hv=>cases hv;have:=hc _ _ h1;rwa [Nat.zero_add]
  | 1,hv=>cases hv;have:=hc _ _ h2;rwa [Nat.zero_add]
  | i + 2,hv=>simp at hv
def CtxIn (w:World) (C:Option Addr) (Γ:List Ts):Prop:=SimsIn w C (Γ.reverse.map Ts.sm)∧(C=none→Γ= [])
theorem CtxIn.mono {w w':World} {C:Option Addr} {Γ:List Ts} (h:CtxIn w C Γ) (hb:Bel w w'):CtxIn w' C Γ:=⟨h.1.mono hb,h.2⟩
theorem CtxIn.nil (w:World):CtxIn w none []:=⟨.nil,fun _=>rfl⟩
theorem CtxIn.at_ {w:World} {C:Option Addr} {Γ:List Ts} (h:CtxIn w C Γ) {i:Nat} {τ:Ts} (hi:Γ[i]? =some τ):∃ b o A c,C=some ⟨b,o,none⟩∧b < w.heap.size∧w.rangeAt b (o + (Γ.length - 1 - i) * 2) [.string τ.sm.base,.slice A τ.sm.args.length c]∧SimsIn w A τ.sm.args:=by
  obtain⟨hl,rfl⟩:=List.getElem?_eq_some_iff.1 hi;obtain⟨b,o,A,c,h1,h2,h3,h4⟩:=h.1.at_ (k:=Γ.length - 1 - i) (by rw [List.length_map,List.length_reverse];omega);have e:(Γ.reverse.map Ts.sm)[Γ.length - 1 - i]'(by rw [List.length_map,List.length_reverse];omega)=(Γ[i]).sm:=by
    rw [List.getElem_map,List.getElem_reverse]
    congr 2;omega
  rw [e] at h3 h4;exact⟨b,o,A,c,h1,h2,h3,h4⟩
theorem CtxIn.row {w:World} {C:Option Addr} {Γ:List Ts} (h:CtxIn w C Γ):∃ vs,SimR w (Γ.reverse.map Ts.sm) vs∧vs.length=Γ.length * 2∧(∀ b',C=some b'→∀ j u,vs[j]? =some u→w.cell? (b'.add j)=some u)∧(C=none→Γ.length=0):=by
  have hn:C=none→Γ.length=0:=fun e=>by rw [h.2 e];rfl
  cases C with
  | none=>
    have:=h.2 rfl;subst this;exact⟨[],.nil,rfl,fun b' e=>(by cases e),hn⟩
  | some a=>
    cases hq:Γ with
    | nil=>exact⟨[],.nil,rfl,fun b' e j u hj=>by simp at hj,fun e=>by cases e⟩
    | cons τ Γ'=>
      have h1:=h.1;rw [hq] at h1
      generalize el:List.map Ts.sm (τ :: Γ').reverse=l at h1
      cases h1 with
      | nil=>rw [List.map_eq_nil_iff] at el;simp at el
      | @more b o _ hl hb hx=>
        obtain⟨vs,h2,h3⟩:=SimsIn.row (.more hl hb hx);refine⟨vs,h2,by rw [h2.len,← el,List.length_map,List.length_reverse],fun b' e j u hj=>?_,fun e=>by cases e⟩;cases e;rw [Addr.add_mid];exact h3 j u hj
theorem ctx_app {w:World} {base n cap g c:Nat} {A:Option Addr} {Γ:List Ts} {τ:Ts} {vs:List Value} (ho:Own w base 41 2 (some ⟨g,0,none⟩) n cap (vs ++ [.string τ.sm.base,.slice A τ.sm.args.length c])) (h:SimR w (Γ.reverse.map Ts.sm) vs) (hs:SimsIn w A τ.sm.args) (hn:Γ.length + 1=n):CtxIn w (some ⟨g,0,none⟩) (τ :: Γ):=by
  refine⟨?_,fun e=>by cases e⟩;have e:(τ :: Γ).reverse.map Ts.sm=Γ.reverse.map Ts.sm ++ [τ.sm]:=by simp
  rw [e];exact sims_own ho (.snoc h hs) (by simp;exact hn) oM
theorem M6 {w w':World} {X:List Nat} {b o:Nat} {v:Value} (hs:Same X w w') (hb:b < w.heap.size) (hx:b ∉ X) (h:w.cell? ⟨b,o,none⟩=some v):w'.cell? ⟨b,o,none⟩=some v:=by
  have e:=hs.blk b hb hx;unfold World.cell? at h ⊢;simp only [e];exact h
theorem Kq {w w':World} {b:Nat} (hb:Blk w b 41 #[.string ⟨#[]⟩,.slice none 0 0]) (hs:Same [b] w w'):∀ (τ:Ts) {A:Option Addr},SimsIn w A τ.sm.args→SimsIn w' A τ.sm.args
  | .b t,A,h=>by cases t <;> exact .nil
  | .f x y,A,h=>by
    have far:∀ (τ:Ts) (o c:Nat) (A':Option Addr),w.rangeAt b o [.string τ.sm.base,.slice A' τ.sm.args.length c]→False:=fun τ o c A' hr=>by
      have h0:=hr 0 _ rfl
      have h1:=hr 1 _ rfl
      rw [Nat.add_zero,cell_of_row w b o _ _ _ hb] at h0
      rw [cell_of_row w b (o + 1) _ _ _ hb] at h1
      match o,h0,h1 with
      | 0,h0,h1=>
        simp only [List.getElem?_toArray,List.getElem?_cons_zero,Option.some.injEq,Value.string.injEq,List.getElem?_cons_succ,Value.slice.injEq,Nat.zero_add] at h0 h1
        obtain⟨p,q,rfl⟩:∃ p q,τ= .f p q:=by
          cases τ with
          | b t=>exfalso;revert h0;cases t <;> decide
          | f p q=>exact⟨p,q,rfl⟩
        have h2:0=2:=h1.2.1;cases h2
      | 1,h0,_=>simp at h0
      | o + 2,h0,_=>simp at h0
    obtain⟨b1,o1,A0,c0,rfl,hl,hr0,hs0⟩:=h.at_ (k:=0) (by simp [Ts.sm,Sm.args]);obtain⟨_,_,A1,c1,e1,_,hr1,hs1⟩:=h.at_ (k:=1) (by simp [Ts.sm,Sm.args]);cases e1;have hne:b1 ∉ [b]:=fun hm=>by
      obtain rfl:=List.mem_singleton.1 hm;exact far x _ _ _ hr0
    refine .more (show 2≤yJ by decide) (nLL hl hs.size) (fun k hk=>?_)
    match k,hk with
    | 0,_=>
      show SimAt w' b1 (o1 + 0 * 2) x.sm;rw [Sm.eta x.sm];exact SimAt.mk (nLL hl hs.size) (fun i v hv=>M6 hs hl hne (hr0 i v hv)) (Kq hb hs x hs0)
    | 1,_=>
      show SimAt w' b1 (o1 + 1 * 2) y.sm;rw [Sm.eta y.sm];exact SimAt.mk (nLL hl hs.size) (fun i v hv=>M6 hs hl hne (hr1 i v hv)) (Kq hb hs y hs1)
end Go.Proofs.YtbcpgfnfiekbiaaGreatDoor
namespace Go.Proofs.YtbcpgfnfiekbiaaGreatDoor
open Go.RowKit
section monok
variable {P:Program} {Q:Exit→Act→World→Prop} {n:Nw} {f:Fr} {w:World}
def vO (f:Fr) (o:Oper):Value:=match o.dst with
  | some d=>f d
  | none=>undef
def rO (R:Nat→Value→World→Prop) (i:Nat) (o:Oper) (v:Value) (w:World):Prop:=match o.dst with
  | some _=>R i v w
  | none=>R i undef w
def monoK (l:List Oper) (m:Nat) (S:List Nat):Bool:=
  decide (l.length=m) && (List.range l.length).all (fun i=>match l[i]? with
    | some o=>o.guard.isNone && (jz o).all (fun j=>decide (j < i)) && (match o.dst with
      | some d=>mem S d && (List.range l.length).all (fun j=>decide (i=j) || (match l[j]? with | some o'=>!(o'.dst == some d) | none=>true))
      | none=>true)
    | none=>false)
theorem Bw {Post:Value→World→Prop} {op:Op} {ty:TypeId} {pos:String} {af:Array Edge} (h:∀ (ops:Array Oper) (Q:Exit→Act→World→Prop),(∀ w',Post undef w'→WL P ops Q [] n f w')→WL P ops Q [⟨none,op,ty,pos,af,none⟩] n f w):OS P n f w ⟨none,op,ty,pos,af,none⟩ Post:=by
  unfold OS;intro K Q hK
  have h1:=h #[] (Dx K Q) (fun w' hp=>by
    unfold WL;refine wpList_nil ?_;have:=hK undef w' hp
    exact this)
  unfold WL wpList at h1;rw [if_pos (by simp [Region.wanted])] at h1;have ho:¬LetsOut (Dx K Q):=fun⟨_,_,h⟩=>h
  rcases h1 with h1 | ⟨_,h1⟩
  · exact VQ (Q:=Dx K Q) (fun a w h=>h) (fun c a w h=>h) ho h1
  · exact absurd h1 ho
end monok
end Go.Proofs.YtbcpgfnfiekbiaaGreatDoor
namespace Go.Proofs.YtbcpgfnfiekbiaaGreatDoor
open Go.RowKit
section seven
variable {P:Program} {Q:Exit→Act→World→Prop} {n:Nw} {f:Fr} {w:World}
def stU (st:Nat→Bool) (i k:Nat):Bool:=if k=i then true else st k
def stL (sp:Nat→Bool) (listed:Array Bool) (k:Nat):Bool:=listed.getD k false && sp k
def Mw (l:List Oper):Nat→Nat→Nat→Bool
  | 0,_,_=>false
  | k + 1,s,i=>match l[s]? with
    | some o=>(jz o).any (fun j=>Nat.beq j i || Mw l k j i)
    | none=>false
theorem RJ {l:List Oper} {listed:Array Bool} (hD:Dn l listed):∀ {k s i:Nat},Mw l k s i=true→listed.getD s false=true→listed.getD i false=true
  | 0,_,_,h,_=>by cases h
  | k + 1,s,i,h,hs=>by
    unfold Mw at h
    cases ho:l[s]? with
    | none=>rw [ho] at h;cases h
    | some o=>
      rw [ho] at h
      obtain⟨j,hj,h2⟩:=List.any_eq_true.1 h
      have hjl:=hD s o ho hs j hj
      rw [Bool.or_eq_true] at h2
      rcases h2 with h2 | h2
      · rw [← Nat.eq_of_beq_eq_true h2];exact hjl
      · exact RJ hD h2 hjl
theorem c_monoU {id:Nat} {l:List Oper} (m:Nat) (S X:List Nat) (sp:Nat→Bool) (R:(Nat→Bool)→Nat→Value→Nat→Nat→World→Prop) (hm:P.follows .mixedOrders=true) (hB:monoK l m S=true)
    (hst:∀ st i v la ha w1 w2,R st i v la ha w1→Same [] w1 w2→R st i v la ha w2)
    (step:∀ st i o,i < m→sp i=false→l[i]? =some o→(∀ s,sp s=true→Mw l m s i=true→st s=false)→∀ f' w' (la ha:Nat→Nat),Same X w w'→Ag S f' f→(∀ j o',j ∈ jz o→l[j]? =some o'→R st j (vO f' o') (la j) (ha j) w')→OS P n f' w' o (fun v w''=>Same [] w' w''∧R st i v w'.heap.size w''.heap.size w''))
    (stepS:∀ st i o,i < m→sp i=true→st i=false→l[i]? =some o→(∀ s,sp s=true→Mw l m s i=true→st s=false)→∀ f' w' (la ha:Nat→Nat),Same X w w'→Ag S f' f→(∀ j o',j ∈ jz o→l[j]? =some o'→R st j (vO f' o') (la j) (ha j) w')→(∀ j k,j ∈ jz o→k ∈ jz o→j≠k→ha j≤la k∨ha k≤la j)→OS P n f' w' o (fun v w''=>Same X w w''∧w'.heap.size≤w''.heap.size∧rO (fun i v w''=>R (stU st i) i v w'.heap.size w''.heap.size w'') i o v w''∧∀ k o',k≠i→l[k]? =some o'→R st k (vO f' o') (la k) (ha k) w'→R (stU st i) k (vO f' o') (la k) (ha k) w''))
    (hspd:∀ i o,l[i]? =some o→o.dst=none→sp i=true)
    (fin:∀ st f' w' (la ha:Nat→Nat),(∀ k,k < m→sp k=true→st k=true)→Same X w w'→Ag S f' f→(∀ i o,l[i]? =some o→R st i (vO f' o) (la i) (ha i) w')→(∀ i j,i < m→j < m→i≠j→ha i≤la j∨ha j≤la i)→WL P l.toArray Q [] n f' w'):WC P (.region id l.toArray true) Q n f w:=by
  unfold WC;refine wp_region_any hm ?_;simp only [monoK,Bool.and_eq_true,List.all_eq_true,List.mem_range,decide_eq_true_eq] at hB;obtain⟨hlm,hB⟩:=hB;have hget:∀ i o,l[i]? =some o→o.guard=none∧(∀ j ∈ jz o,j < i)∧∀ d,o.dst=some d→mem S d=true∧∀ j o',l[j]? =some o'→i≠j→o'.dst≠some d:=fun i o ho=>by
    have hil:i < l.length:=(List.getElem?_eq_some_iff.1 ho).1;have h:=hB i hil;simp only [ho,Bool.and_eq_true] at h;obtain⟨⟨h1,h2⟩,h3⟩:=h;refine⟨Option.isNone_iff_eq_none.1 h1,fun j hj=>by simpa using List.all_eq_true.1 h2 j hj,fun d hd=>?_⟩;simp only [hd,Bool.and_eq_true] at h3;refine⟨h3.1,fun j o' ho' hne hd'=>?_⟩;have h4:=List.all_eq_true.1 h3.2 j (List.mem_range.2 (List.getElem?_eq_some_iff.1 ho').1);simp [ho',hd',hne] at h4
  have key:∀ (fuel:Nat) (listed:Array Bool) (f':Fr) (w':World) (la ha:Nat→Nat),listed.size=l.length→Dn l listed→Same X w w'→Ag S f' f→(∀ i o,l[i]? =some o→listed.getD i false=true→R (stL sp listed) i (vO f' o) (la i) (ha i) w')→(∀ i,i < l.length→listed.getD i false=true→ha i≤w'.heap.size)→(∀ i j,i < l.length→j < l.length→i≠j→listed.getD i false=true→listed.getD j false=true→ha i≤la j∨ha j≤la i)→
      (List.range l.length).countP (fun i=>!listed.getD i false)≤fuel→wpAny P .any l.toArray Q fuel listed (AF n f') w':=by
    have fin':∀ (listed:Array Bool) (f':Fr) (w':World) (la ha:Nat→Nat),Same X w w'→Ag S f' f→(∀ i o,l[i]? =some o→listed.getD i false=true→R (stL sp listed) i (vO f' o) (la i) (ha i) w')→(∀ i j,i < l.length→j < l.length→i≠j→listed.getD i false=true→listed.getD j false=true→ha i≤la j∨ha j≤la i)→(∀ i,i < l.length→listed.getD i false=true)→Q .normal (AF n f') w':=fun listed f' w' la ha hs hag hR hI hall=>by
      have:=fin (stL sp listed) f' w' la ha (fun k hk hsk=>by unfold stL;rw [hall k oM,hsk];rfl) hs hag (fun i o ho=>hR i o ho (hall i (List.getElem?_eq_some_iff.1 ho).1)) (fun i j hi hj hne=>hI i j oM oM hne (hall i oM) (hall j oM));unfold WL at this;exact this
    intro fuel
    induction fuel with
    | zero=>
      intro listed f' w' la ha hs hD hsm hag hR hH hI hc;have hall:∀ i,i < l.length→listed.getD i false=true:=by
        intro i hi;have h0:(List.range l.length).countP (fun i=>!listed.getD i false)=0:=by omega
        rw [List.countP_eq_zero] at h0;have:=h0 i (List.mem_range.2 hi)
        simpa using this
      refine⟨?_,fin' listed f' w' la ha hsm hag hR hI hall⟩;cases hr:Region.ready .any l.toArray listed with
      | nil=>rfl
      | cons i r=>
        obtain⟨o,ho,hn,_⟩:=Xx listed i (by rw [hr];simp);have:i < l.length:=(List.getElem?_eq_some_iff.1 ho).1;rw [hall i oM] at hn;cases hn
    | succ fuel ih=>
      intro listed f' w' la ha hs hD hsm hag hR hH hI hc;refine⟨fun hr=>?_,fun i hi=>?_⟩
      · have hall:∀ k,k≤l.length→∀ i,i < k→listed.getD i false=true:=by
          intro k
          induction k with
          | zero=>intro _ i hi;omega
          | succ k ihk=>
            intro hk i hi;have ihk':=ihk oM;by_cases hik:i < k
            · exact ihk' i hik
            · have:i=k:=by omega
              subst this;cases hb:listed.getD i false with
              | true=>rfl
              | false=>
                have ho:l[i]? =some l[i]:=List.getElem?_eq_getElem oM;have:=D9 listed i _ hs ho hb (fun j hj=>ihk' j ((hget i _ ho).2.1 j hj));rw [hr] at this;cases this
        exact fin' listed f' w' la ha hsm hag hR hI (hall l.length (Nat.le_refl _))
      · obtain⟨o,ho,hn,hd⟩:=Xx listed i hi
        have hil:i < l.length:=(List.getElem?_eq_some_iff.1 ho).1;obtain⟨hg,hdl,hdd⟩:=hget i o ho;unfold wpOp;simp only [List.getElem?_toArray,ho];rw [if_pos (by simp [Region.wanted,hg])]
        left
        have hstn:sp i=false→stL sp (listed.setIfInBounds i true)=stL sp listed:=fun hsp=>by
          funext k
          unfold stL;by_cases hik:i=k
          · subst hik;rw [hsp,Bool.and_false,Bool.and_false]
          · simp only [Array.getD_eq_getD_getElem?,Array.getElem?_setIfInBounds_ne hik]
        have hsts:sp i=true→stL sp (listed.setIfInBounds i true)=stU (stL sp listed) i:=fun hsp=>by
          funext k
          unfold stL stU;by_cases hik:k=i
          · subst hik
            have:k < listed.size:=by omega
            simp [this,hsp]
          · rw [if_neg hik]
            simp only [Array.getD_eq_getD_getElem?,Array.getElem?_setIfInBounds_ne (Ne.symm hik)]
        have hli:∀ j,i≠j→(listed.setIfInBounds i true).getD j false=listed.getD j false:=fun j hij=>by
          simp only [Array.getD_eq_getD_getElem?,Array.getElem?_setIfInBounds_ne hij]
        have hlt:=o6 (p:=fun i=>!listed.getD i false) (q:=fun k=>!(listed.setIfInBounds i true).getD k false) (fun x hx=>by
          by_cases hix:i=x
          · subst hix;simp [hn]
          · simpa only [Array.getD_eq_getD_getElem?,Array.getElem?_setIfInBounds_ne hix] using hx) (List.range l.length) i (List.mem_range.2 hil) (by simp [hn]) (by
            have:i < listed.size:=by omega
            simp [this])
        have next:∀ v w'',Same X w w''→w'.heap.size≤w''.heap.size→rO (fun i v w''=>R (stL sp (listed.setIfInBounds i true)) i v w'.heap.size w''.heap.size w'') i o v w''→(∀ k o',k≠i→l[k]? =some o'→R (stL sp listed) k (vO f' o') (la k) (ha k) w'→R (stL sp (listed.setIfInBounds i true)) k (vO f' o') (la k) (ha k) w'')→wpAny P .any l.toArray Q fuel (listed.setIfInBounds i true) ((AF n f').put o.dst v) w'':=by
          intro v w'' hs1 hsz hr1 hk1;have hH2:∀ j,j < l.length→(listed.setIfInBounds i true).getD j false=true→(if j=i then w''.heap.size else ha j)≤w''.heap.size:=fun j hj hl'=>by
            by_cases hij:j=i
            · rw [if_pos hij];exact Nat.le_refl _
            · rw [hli j (Ne.symm hij)] at hl'
              rw [if_neg hij];exact nLT (hH j hj hl') hsz
          have hI2:∀ j1 j2,j1 < l.length→j2 < l.length→j1≠j2→(listed.setIfInBounds i true).getD j1 false=true→(listed.setIfInBounds i true).getD j2 false=true→(if j1=i then w''.heap.size else ha j1)≤(if j2=i then w'.heap.size else la j2)∨(if j2=i then w''.heap.size else ha j2)≤(if j1=i then w'.heap.size else la j1):=fun j1 j2 hj1 hj2 hne hl1 hl2=>by
            by_cases e1:j1=i
            · subst e1
              rw [hli j2 hne] at hl2;rw [if_pos rfl,if_neg (Ne.symm hne),if_neg (Ne.symm hne),if_pos rfl];exact .inr (hH j2 hj2 hl2)
            · rw [hli j1 (Ne.symm e1)] at hl1
              rw [if_neg e1,if_neg e1];by_cases e2:j2=i
              · rw [if_pos e2,if_pos e2]
                exact .inl (hH j1 hj1 hl1)
              · rw [hli j2 (Ne.symm e2)] at hl2
                rw [if_neg e2,if_neg e2];exact hI j1 j2 hj1 hj2 hne hl1 hl2
          cases hdst:o.dst with
          | none=>
            have hri:R (stL sp (listed.setIfInBounds i true)) i undef w'.heap.size w''.heap.size w'':=by simpa only [rO,hdst] using hr1
            show wpAny P .any l.toArray Q fuel (listed.setIfInBounds i true) (AF n f') w'';refine ih _ _ _ (fun k=>if k=i then w'.heap.size else la k) (fun k=>if k=i then w''.heap.size else ha k) (by simpa using hs) (hD.set oM ho hd) hs1 hag (fun j o' ho' hl'=>?_) hH2 hI2 oM;by_cases hij:i=j
            · subst hij
              rw [ho] at ho';cases ho';simp only [if_true,vO,hdst];exact hri
            · rw [hli j hij] at hl'
              simp only [if_neg (Ne.symm hij)];exact hk1 j o' (fun e=>hij e.symm) ho' (hR j o' ho' hl')
          | some d=>
            have hri:R (stL sp (listed.setIfInBounds i true)) i v w'.heap.size w''.heap.size w'':=by simpa only [rO,hdst] using hr1
            obtain⟨hSd,hne⟩:=hdd d hdst;rw [oZ];refine ih _ _ _ (fun k=>if k=i then w'.heap.size else la k) (fun k=>if k=i then w''.heap.size else ha k) (by simpa using hs) (hD.set oM ho hd) hs1 (T0 hSd hag) (fun j o' ho' hl'=>?_) hH2 hI2 oM;by_cases hij:i=j
            · subst hij
              rw [ho] at ho';cases ho';have:vO (upd f' d v) o=v:=by simp [vO,hdst,upd]
              rw [this];simp only [if_true];exact hri
            · rw [hli j hij] at hl'
              have:vO (upd f' d v) o'=vO f' o':=by
                unfold vO;cases hd':o'.dst with
                | none=>rfl
                | some d'=>
                  have h1:=hne j o' ho' hij;rw [hd'] at h1;simp only [upd];have:Nat.beq d' d=false:=by
                    cases hb:Nat.beq d' d
                    · rfl
                    · exact absurd (congrArg some (Nat.eq_of_beq_eq_true hb)) h1
                  simp [this]
              rw [this];simp only [if_neg (Ne.symm hij)];exact hk1 j o' (fun e=>hij e.symm) ho' (hR j o' ho' hl')
        have hns:∀ s,sp s=true→Mw l m s i=true→stL sp listed s=false:=fun s _ hr=>by
          unfold stL;cases hls:listed.getD s false with
          | false=>rfl
          | true=>rw [RJ hD hr hls] at hn;cases hn
        cases hsp:sp i with
        | false=>
          have hst1:=step (stL sp listed) i o oM hsp ho hns f' w' la ha hsm hag (fun j o' hjd ho'=>hR j o' ho' (hd j hjd));unfold OS at hst1;refine hst1 _ _ ?_
          rintro v w'' ⟨hs1,hr1⟩
          refine next v w'' (hsm.trans (hs1.weak (by simp))) hs1.size ?_ (fun k o' _ _ h=>by rw [hstn hsp];exact hst _ _ _ _ _ _ _ h hs1);unfold rO;cases hdst:o.dst with
          | none=>have:=hspd i o ho hdst;rw [hsp] at this;cases this
          | some d=>simp only [hstn hsp];exact hr1
        | true=>
          have hst1:=stepS (stL sp listed) i o oM hsp (by unfold stL;rw [hn];rfl) ho hns f' w' la ha hsm hag (fun j o' hjd ho'=>hR j o' ho' (hd j hjd)) (fun j k hj hk hne=>hI j k (by have:=hdl j hj;omega) (by have:=hdl k hk;omega) hne (hd j hj) (hd k hk));unfold OS at hst1;refine hst1 _ _ ?_
          rintro v w'' ⟨hs1,hsz,hr1,hk1⟩
          rw [← hsts hsp] at hk1;refine next v w'' hs1 hsz ?_ hk1;unfold rO at hr1 ⊢;cases hdst:o.dst with
          | none=>simp only [hdst] at hr1 ⊢;rw [hsts hsp];exact hr1
          | some d=>simp only [hdst] at hr1 ⊢;rw [hsts hsp];exact hr1
  have h0:=key l.length (Array.replicate l.length false) f { w with drawn:=w.drawn + 1 } (fun _=>0) (fun _=>0) (by simp) (fun j o _ h=>by
    simp only [Array.getD_eq_getD_getElem?,Array.getElem?_replicate] at h
    split at h <;> cases h) ((Same.drew w 1).weak (fun x hx=>by cases hx)) I8 (fun i o _ h=>by
    simp only [Array.getD_eq_getD_getElem?,Array.getElem?_replicate] at h
    split at h <;> cases h) (fun _ _ _=>Nat.zero_le _) (fun _ _ _ _ _ _ _=> .inl (Nat.le_refl _)) (by
      have:=List.countP_le_length (p:=fun i=>!(Array.replicate l.length false).getD i false) (l:=List.range l.length);simp only [List.length_range] at this
      omega)
  simpa using h0
theorem OZ {id:Nat} {l:List Oper} (m:Nat) (S X:List Nat) (sp:Nat→Bool) (R:(Nat→Bool)→Nat→Value→Nat→Nat→World→Prop) (hm:P.follows .mixedOrders=true) (hB:monoK l m S=true) (hsp:(List.range m).all (fun i=>match l[i]? with | some o=>o.dst.isSome || sp i | none=>true)=true)
    (hst:∀ st i v la ha w1 w2,R st i v la ha w1→Same [] w1 w2→R st i v la ha w2)
    (step:∀ st i o,i < m→l[i]? =some o→(∀ s,sp s=true→Mw l m s i=true→st s=false)→∀ g w' (la ha:Nat→Nat),Same X w w'→(∀ j o',j ∈ jz o→l[j]? =some o'→R st j (vO g o') (la j) (ha j) w')→bif sp i then st i=false→(∀ j k,j ∈ jz o→k ∈ jz o→j≠k→ha j≤la k∨ha k≤la j)→OS P n (ovr S g f) w' o (fun v w''=>Same X w w''∧w'.heap.size≤w''.heap.size∧rO (fun i v w''=>R (stU st i) i v w'.heap.size w''.heap.size w'') i o v w''∧∀ k o',k≠i→l[k]? =some o'→R st k (vO g o') (la k) (ha k) w'→R (stU st i) k (vO g o') (la k) (ha k) w'') else OS P n (ovr S g f) w' o (fun v w''=>Same [] w' w''∧R st i v w'.heap.size w''.heap.size w''))
    (fin:∀ st g w' (la ha:Nat→Nat),(∀ k,k < m→sp k=true→st k=true)→Same X w w'→(∀ i o,l[i]? =some o→R st i (vO g o) (la i) (ha i) w')→(∀ i j,i < m→j < m→i≠j→ha i≤la j∨ha j≤la i)→WL P l.toArray Q [] n (ovr S g f) w'):WC P (.region id l.toArray true) Q n f w:=by
  have hlm:l.length=m:=by
    have h:=hB;simp only [monoK,Bool.and_eq_true,decide_eq_true_eq] at h;exact h.1
  have hvo:∀ {f':Fr},Ag S f' f→f'=ovr S f' f:=fun hag=>XJ hag
  refine c_monoU m S X sp R hm hB hst (fun st i o hi hs ho hns f' w' la ha hsm hag hd=>?_) (fun st i o hi hs hn ho hns f' w' la ha hsm hag hd hI=>?_) (fun i o ho hd=>?_) (fun st f' w' la ha hall hsm hag hR hI=>?_)
  · have h:=step st i o hi ho hns f' w' la ha hsm hd
    rw [hs] at h;rw [← hvo hag] at h;exact h
  · have h:=step st i o hi ho hns f' w' la ha hsm hd
    rw [hs] at h;rw [← hvo hag] at h;exact h hn hI
  · have hil:=(List.getElem?_eq_some_iff.1 ho).1
    have h:=List.all_eq_true.1 hsp i (List.mem_range.2 oM)
    simpa [ho,hd] using h
  · have h:=fin st f' w' la ha hall hsm hR hI
    rw [← hvo hag] at h;exact h
end seven
end Go.Proofs.YtbcpgfnfiekbiaaGreatDoor
