/- What these functions of the program compute, at every world: glosswright/term.Validate$1$1, glosswright/term.Validate$1. What these functions of the program compute, at every world: glosswright/term.Typed. What these functions of the program compute, at every world: glosswright/term.Validate. -/
import Derived.Test.YtdgnllfbooklcaaDoorU
import Derived.Test.YtdgnllfbooklcaaDoorSim
import Derived.Test.YtdgnllfbooklcaaDoorNSv
namespace Go.Proofs.YtdgnllfbooklcaaDoor
open Go.RowKit
theorem twk_out {t:Tm} {d b n:Nat} (h:200 < n + 1∨40 < d):twk t d b n=(n + 1,(1,(n:Int))):=by rw [IJ,if_pos h]
theorem Zv {t:Tm} {d b n:Nat} {c:Int} (h:¬(200 < n + 1∨40 < d)) (hc:ndC b t=c) (h0:c≠0):twk t d b n=(n + 1,(c,(n:Int))):=by rw [IJ,if_neg h,if_neg (by rw [hc];exact h0),hc]
theorem H4 {t:Tm} {d b n:Nat} (h:¬(200 < n + 1∨40 < d)) (hc:ndC b t=0) (ha:t.args= []):twk t d b n=(n + 1,(0,0)):=by rw [IJ,if_neg h,if_pos hc,ha,Yx]
theorem H5 (x:Tm) (d b n:Nat):Yx [x] d b n=twk x d b n:=by
  rw [Yx];by_cases h:(twk x d b n).2.1=0
  · rw [if_pos h,Yx,← twk_z h]
  · rw [if_neg h]
theorem twks_one {l:List Tm} (hl:l.length=1) (h0:0 < l.length) (d b n:Nat):Yx l d b n=twk (l[0]'h0) d b n:=by
  match l,hl with
  | [x],_=>exact H5 x d b n
theorem twks_two {l:List Tm} (hl:l.length=2) (h0:0 < l.length) (h1:1 < l.length) (d b n:Nat):Yx l d b n=if (twk (l[0]'h0) d b n).2.1=0 then twk (l[1]'h1) d b (twk (l[0]'h0) d b n).1 else twk (l[0]'h0) d b n:=by
  match l,hl with
  | [x,y],_=>rw [Yx,H5];rfl
theorem twk_one {t:Tm} {d b b' n:Nat} (h:¬(200 < n + 1∨40 < d)) (hc:ndC b t=0) (hi:inB t b=b') (hl:t.args.length=1) (h0:0 < t.args.length):twk t d b n=twk (t.args[0]'h0) (d + 1) b' (n + 1):=by
  rw [IJ,if_neg h,if_pos hc,hi,twks_one hl h0]
theorem twk_two {t:Tm} {d b b' n:Nat} (h:¬(200 < n + 1∨40 < d)) (hc:ndC b t=0) (hi:inB t b=b') (hl:t.args.length=2) (h0:0 < t.args.length) (h1:1 < t.args.length):twk t d b n=if (twk (t.args[0]'h0) (d + 1) b' (n + 1)).2.1=0 then twk (t.args[1]'h1) (d + 1) b' (twk (t.args[0]'h0) (d + 1) b' (n + 1)).1 else twk (t.args[0]'h0) (d + 1) b' (n + 1):=by
  rw [IJ,if_neg h,if_pos hc,hi,twks_two hl h0 h1]
theorem TW:zZ Tryd.prog 46=true:=by kernel_rfl
theorem fn77:zZ Tryd.prog 77=true:=by kernel_rfl
theorem P9:zZ Tryd.prog 78=true:=by kernel_rfl
theorem fn79:zZ Tryd.prog 79=true:=by kernel_rfl
theorem fn80:zZ Tryd.prog 80=true:=by kernel_rfl
theorem sz42:(Tryd.prog.info? 42).map (·.size)=some 1:=by kernel_rfl
theorem N9:(Tryd.prog.info? 44).map (·.size)=some 6:=by kernel_rfl
theorem uX (b9:Nat) (cd n:Int) (w:World) (hb9:Blk w b9 3 #[.int .i64 n]):Calls Tryd.prog 78 #[.int .i64 cd,.pointer (some ⟨b9,0,none⟩)] w fun e w'=>e= .returned (flV (cd,n))∧Bel w w':=by
 refine enter Tryd.func78 Tryd.ntmps78 rfl (Nat.le_of_ble_eq_true rfl) ?_;have hB:Bel w w:=Below.refl _ _;refine zn2 ?_;refine qw (cs:=#[.int .i64 0,.int .i64 0]) zY rfl (fun b3 w1 hb3 s1 hr=>?_);have lo3:=nLT (Bel.size hB) hr;refine zn6 ?_;refine wl (Z9 (v0:= .int _ _) (v1:= .int _ _) (fun v0 v1=>#[v0,v1]) rfl rfl kR) ?_;refine zk hb3 rfl rfl zz rfl zK (fun w2 hq s2=>?_);replace hb3:=hq;refine zn3 ?_;refine xX (.inl rfl) rfl (zw U36 rfl rfl hb3.range0 zz) ?_;replace hB:=(hB.tr0 s1).tr1 s2 lo3;exact⟨rfl,hB⟩
set_option maxRecDepth 100000 in
set_option maxHeartbeats 8000000 in
theorem twk_step {w0:World} {bN bV:Nat} (l0N:w0.heap.size≤bN) (_l0V:w0.heap.size≤bV) (nVN:bV≠bN) {t:Tm} {A B:Option Addr} {c m d b n:Nat} {w:World} (hS:SimsIn w0 A t.type.args) (hT:TmsIn w0 B t.args) (IH:∀ x ∈ t.args,∀ (A2 B2:Option Addr) (c2 m2 d2 b2 n2:Nat) (w2:World),SimsIn w0 A2 x.type.args→TmsIn w0 B2 x.args→n2≤200→d2≤41→b2≤d2→Bel w0 w2→Blk w2 bN 3 #[.int .i64 ((n2:Nat):Int)]→Blk w2 bV 143 #[.func (.func 77) #[] #[.pointer (some ⟨bN,0,none⟩),.pointer (some ⟨bV,0,none⟩)]]→Calls Tryd.prog 77 #[.agg #[.int .i64 (x).kind,.string (x).name,.int .i64 (x).index,.string (x).type.base,.slice A2 (x).type.args.length c2,.slice B2 (x).args.length m2],.int .i64 ((d2:Nat):Int),.int .i64 ((b2:Nat):Int),.pointer (some ⟨bN,0,none⟩),.pointer (some ⟨bV,0,none⟩)] w2 fun e w'=>e= .returned (flV (twk x d2 b2 n2).2)∧ChG (fun g=>g=bN) w2 w'∧Blk w' bN 3 #[.int .i64 (((twk x d2 b2 n2).1:Nat):Int)]) (hn:n≤200) (hd:d≤41) (hbd:b≤d) (hB:Bel w0 w) (hbN:Blk w bN 3 #[.int .i64 ((n:Nat):Int)]) (hbV:Blk w bV 143 #[.func (.func 77) #[] #[.pointer (some ⟨bN,0,none⟩),.pointer (some ⟨bV,0,none⟩)]]):Calls Tryd.prog 77 #[.agg #[.int .i64 (t).kind,.string (t).name,.int .i64 (t).index,.string (t).type.base,.slice A (t).type.args.length c,.slice B (t).args.length m],.int .i64 ((d:Nat):Int),.int .i64 ((b:Nat):Int),.pointer (some ⟨bN,0,none⟩),.pointer (some ⟨bV,0,none⟩)] w fun e w'=>e= .returned (flV (twk t d b n).2)∧ChG (fun g=>g=bN) w w'∧Blk w' bN 3 #[.int .i64 (((twk t d b n).1:Nat):Int)]:=by
 have hmx:=hT.le;unfold vz at hmx;have ltN:=hbN.lt;have ltV:=hbV.lt;have hC:ChG (fun g=>g=bN) w w:=ChG.refl _ _;refine enter Tryd.func77 Tryd.ntmps77 rfl (Nat.le_of_ble_eq_true rfl) (zn2 ?_);refine xz (v:= .agg #[_,_,_,_,_,_]) (cs:=#[_,_,_,_,_,_]) rfl rfl (fun b5 w1 hb5 s1 hr=>?_);have:=nLL hbN.lt hr;replace hC:=hC.st s1 (by simp);refine qw (cs:=#[.int .i64 0,.int .i64 0]) zY rfl (fun b8 w2 hb8 s2 hr=>?_);replace hbN:=hbN.tr0 s1;have:=nLL hbN.lt hr;replace hbV:=hbV.tr0 s1;have:=nLL hbV.lt hr;have or_hC_b8:=(nLT hC.size hr)
 have:=nLL hb5.lt hr;replace hC:=hC.st s2 (by simp);refine zn5 ?_;refine qw (cs:=#[.int .i64 0]) gk rfl (fun b9 w3 hb9 s3 hr=>?_);replace hbN:=hbN.tr0 s2;have:=nLL hbN.lt hr;replace hbV:=hbV.tr0 s2;have:=nLL hbV.lt hr;have or_hC_b9:=(nLT hC.size hr)
 replace hb5:=hb5.tr0 s2;have:=nLL hb5.lt hr;have:=nLL hb8.lt hr;replace hB:=hB.tr0 (s1.trans s2);have lo9:=nLT (Bel.size hB) hr;replace hC:=hC.st s3 (by simp);refine xZ (v:= .int _ _) hb9 rfl rfl xy (by first | decide | simp) rfl rfl (fun w4 hq s4=>?_);replace hC:=hC.st s4 (fun g hg=>by rw [List.mem_singleton.1 hg];first | exact .inl rfl | exact .inr or_hC_b9);replace hb9:=hq;refine zn6 ?_;replace hbN:=(hbN.tr0 s3).tr1 s4 om;refine xZ (v:= .int _ _) hbN rfl rfl xy (by first | decide | simp) rfl rfl (fun w5 hq s5=>?_);replace hB:=(hB.tr0 s3).tr1 s4 lo9;replace hB:=hB.tr1 s5 l0N;replace hC:=hC.st s5 (fun g hg=>by rw [List.mem_singleton.1 hg];first | exact .inl rfl | exact .inr or_hC_bN);replace hbN:=hq;refine zn4 ?_;refine wl (Fw rfl) (zn5 ?_);replace hb8:=((hb8.tr0 s3).tr1 s4 om).tr1 s5 om;replace hb9:=hb9.tr1 s5 om;refine yQ [16,17,18,19,20,21] 21 (.bool (decide (200 < n + 1∨40 < d))) nu ?_ (fun gq=>?_)
 ·refine zn4 ?_;refine zV 18 rfl (fun g18=>?_) (fun g18=>?_)
  ·refine zn3 ?_;refine zW (e_R ⟨rfl,agA,?_⟩);exact clA
  refine zn5 ?_;refine zW (e_R ⟨rfl,agA,?_⟩);exact clA
 refine e_S ?_;refine zJ rfl (fun c21=>?_) (fun c21=>?_)
 ·refine zn3 ?_;refine xv rfl P9 (uX b9 _ _ _ hb9) rfl rfl (fun e' w6 hr=>?_);obtain⟨rfl,s6⟩:=hr;replace s6:=sB s6;replace hC:=hC.st s6 (by simp);refine⟨_,rfl,?_⟩;replace hb8:=hb8.tr0 s6;refine zk hb8 rfl rfl zz rfl zK (fun w7 hq s7=>?_);replace hC:=hC.st s7 (fun g hg=>by rw [List.mem_singleton.1 hg];first | exact .inl rfl | exact .inr or_hC_b8);replace hb8:=hq;refine zn4 ?_;refine xX (.inl rfl) rfl (zw U36 rfl rfl hb8.range0 zz) ?_;rw [twk_out c21];replace hbN:=(hbN.tr0 s6).tr1 s7 om;exact⟨rfl,hC,hbN⟩
 refine NY ?_;replace hb5:=((hb5.tr0 s3).tr1 s4 om).tr1 s5 om;refine zJ rfl (fun c28=>?_) (fun c28=>?_)
 ·refine xK (xK ?_);refine yQ [30,31,32,33,34,35,36,37,38] 38 (.bool (decide (¬(t.index=0∧t.args.length=0)))) nu ?_ (fun gq=>?_)
  ·refine zn5 ?_;refine zV 33 rfl (fun g33=>?_) (fun g33=>?_)
   ·refine zn5 ?_;refine zW (e_R ⟨rfl,agA,?_⟩);show Value.bool _=Value.bool _
    first | exact congrArg Value.bool (decide_eq_true (by exact fun h=>g33 h.1)).symm | exact congrArg Value.bool (decide_eq_decide.2 (by exact⟨fun k h=>k (by have:=h.2;omega),fun k e=>k ⟨Classical.not_not.1 g33,by omega⟩⟩))
   refine zn9 ?_;refine zW (e_R ⟨rfl,agA,?_⟩);show Value.bool _=Value.bool _
   first | exact congrArg Value.bool (decide_eq_true (by exact fun h=>g33 h.1)).symm | exact congrArg Value.bool (decide_eq_decide.2 (by exact⟨fun k h=>k (by have:=h.2;omega),fun k e=>k ⟨Classical.not_not.1 g33,by omega⟩⟩))
  refine e_S ?_;refine zJ rfl (fun c38=>?_) (fun c38=>?_)
  ·have hcd:ndC b t=5:=by unfold ndC;rw [if_pos c28,if_neg c38]
   refine zn3 ?_;refine xv rfl P9 (uX b9 _ _ _ hb9) rfl rfl (fun e' w8 hr=>?_);obtain⟨rfl,s8⟩:=hr;replace s8:=sB s8;replace hC:=hC.st s8 (by simp);refine⟨_,rfl,?_⟩;replace hb8:=hb8.tr0 s8;refine zk hb8 rfl rfl zz rfl zK (fun w9 hq s9=>?_);replace hC:=hC.st s9 (fun g hg=>by rw [List.mem_singleton.1 hg];first | exact .inl rfl | exact .inr or_hC_b8);replace hb8:=hq;refine zn6 ?_;refine xX (.inl rfl) rfl (zw U36 rfl rfl hb8.range0 zz) ?_;rw [Zv c21 (show ndC b t=5 from hcd) dE];replace hbN:=(hbN.tr0 s8).tr1 s9 om;exact⟨rfl,hC,hbN⟩
  have c38:=Classical.not_not.1 c38;refine zn7 ?_;refine zX TW (I1 _ _) rfl (fun e' w10 hr=>?_);obtain⟨rfl,rfl⟩:=hr;refine⟨_,rfl,?_⟩;refine zn3 ?_;refine kv rfl (fun c44=>?_) (fun c44=>?_)
  ·have hcd:ndC b t=10:=by unfold ndC;rw [if_pos c28,if_pos c38,if_neg (by simpa using c44)]
   refine zn3 ?_;refine xv rfl P9 (uX b9 _ _ _ hb9) rfl rfl (fun e' w11 hr=>?_);obtain⟨rfl,s10⟩:=hr;replace s10:=sB s10;replace hC:=hC.st s10 (by simp);refine⟨_,rfl,?_⟩;replace hb8:=hb8.tr0 s10;refine zk hb8 rfl rfl zz rfl zK (fun w12 hq s11=>?_);replace hC:=hC.st s11 (fun g hg=>by rw [List.mem_singleton.1 hg];first | exact .inl rfl | exact .inr or_hC_b8);replace hb8:=hq;refine zn6 ?_;refine xX (.inl rfl) rfl (zw U36 rfl rfl hb8.range0 zz) ?_;rw [Zv c21 (show ndC b t=10 from hcd) dE];replace hbN:=(hbN.tr0 s10).tr1 s11 om;exact⟨rfl,hC,hbN⟩
  have c44:y8 t.name=true:=by simpa using c44
  refine zn5 ?_;refine wl (qW U41 rfl rfl (hb5.sub (n:=2) (xs:=[_,_]) rfl) kZ) ?_;refine zX fn79 (Sy A c t.type _ (hS.mono hB)) rfl (fun e' w13 hr=>?_);obtain⟨rfl,s12⟩:=hr;replace s12:=sB s12;replace hC:=hC.st s12 (by simp);refine⟨_,rfl,?_⟩;refine wl (HJ (v:= .int _ _) U36 rfl U3 rfl rfl rfl) (zn3 ?_);replace hbN:=hbN.tr0 s12;replace hb8:=hb8.tr0 s12;refine zJ rfl (fun c51=>?_) (fun c51=>?_)
  ·have hcd:ndC b t=12:=by unfold ndC;rw [if_pos c28,if_pos c38,if_pos c44,if_neg c51]
   refine zn3 ?_;replace hb9:=hb9.tr0 s12;refine xv rfl P9 (uX b9 _ _ _ hb9) rfl rfl (fun e' w14 hr=>?_);obtain⟨rfl,s13⟩:=hr;replace s13:=sB s13;replace hC:=hC.st s13 (by simp);refine⟨_,rfl,?_⟩;replace hb8:=hb8.tr0 s13;refine zk hb8 rfl rfl zz rfl zK (fun w15 hq s14=>?_);replace hC:=hC.st s14 (fun g hg=>by rw [List.mem_singleton.1 hg];first | exact .inl rfl | exact .inr or_hC_b8);replace hb8:=hq;refine zn5 ?_;refine xX (.inl rfl) rfl (zw U36 rfl rfl hb8.range0 zz) ?_;rw [Zv c21 (show ndC b t=12 from hcd) dE];replace hbN:=(hbN.tr0 s13).tr1 s14 om;exact⟨rfl,hC,hbN⟩
  have c51:=Classical.not_not.1 c51;have hcd:ndC b t=0:=by unfold ndC;rw [if_pos c28,if_pos c38,if_pos c44,if_pos c51]
  have hl0:t.args= []:=List.length_eq_zero_iff.1 c38.2;refine zn5 ?_;refine wl (uJ (vs:=#[]) (cs:=#[.int .i64 0,.int .i64 0]) (by simp) kR) ?_;refine zk hb8 rfl rfl zz rfl zK (fun w16 hq s15=>?_);replace hC:=hC.st s15 (fun g hg=>by rw [List.mem_singleton.1 hg];first | exact .inl rfl | exact .inr or_hC_b8);replace hb8:=hq;refine zn3 ?_;refine xX (.inl rfl) rfl (zw U36 rfl rfl hb8.range0 zz) ?_;rw [H4 c21 hcd hl0];replace hbN:=hbN.tr1 s15 om;exact⟨rfl,hC,hbN⟩
 refine zn6 ?_;refine zJ rfl (fun c54=>?_) (fun c54=>?_)
 ·refine xK (xK ?_);refine yz [56,57,58,59,60,61,62,63,64,65,66,67,68,69,70] (fun g w'=>(g 70= .bool (decide (¬(t.name=⟨#[]⟩∧IW t.type∧t.args.length=0))))∧Same [] w5 w') ?_ (fun g16 w17 hI=>?_)
  ·have hZ:SameQ [] w5 w5:=Same.refl _ _;refine zn5 ?_;refine zV 59 rfl (fun g59=>?_) (fun g59=>?_)
   ·refine vQ ?_;refine e_R ⟨agA,?_⟩;refine⟨?_,hZ⟩
    first | exact congrArg Value.bool (decide_eq_true (by exact fun h=>g59 h.1)).symm | exact congrArg Value.bool (decide_eq_true (by exact fun h=>g65 h.2.1)).symm | exact congrArg Value.bool (decide_eq_decide.2 (by exact⟨fun k h=>k (by have:=h.2.2;omega),fun k e=>k ⟨Classical.not_not.1 g59,Classical.not_not.1 g65,by omega⟩⟩))
   refine zn3 ?_;refine wl (qW U41 rfl rfl (hb5.sub (n:=2) (xs:=[_,_]) rfl) kZ) (zn1 ?_);refine zX fn80 (T4 A c t.type _) rfl (fun e' w18 hr=>?_);obtain⟨rfl,s16⟩:=hr;replace s16:=sB s16;replace hC:=hC.st s16 (by simp);replace hZ:=SameQ.trans hZ s16 (by simp);refine⟨_,rfl,?_⟩;refine zn4 ?_;refine zV 65 rfl (fun g65=>?_) (fun g65=>?_)
   ·refine zn6 ?_;refine e_R ⟨agA,?_⟩;refine⟨?_,hZ⟩
    first | exact congrArg Value.bool (decide_eq_true (by exact fun h=>g59 h.1)).symm | exact congrArg Value.bool (decide_eq_true (by exact fun h=>g65 h.2.1)).symm | exact congrArg Value.bool (decide_eq_decide.2 (by exact⟨fun k h=>k (by have:=h.2.2;omega),fun k e=>k ⟨Classical.not_not.1 g59,Classical.not_not.1 g65,by omega⟩⟩))
   refine jy ?_;refine e_R ⟨agA,?_⟩;refine⟨?_,hZ⟩
   first | exact congrArg Value.bool (decide_eq_true (by exact fun h=>g59 h.1)).symm | exact congrArg Value.bool (decide_eq_true (by exact fun h=>g65 h.2.1)).symm | exact congrArg Value.bool (decide_eq_decide.2 (by exact⟨fun k h=>k (by have:=h.2.2;omega),fun k e=>k ⟨Classical.not_not.1 g59,Classical.not_not.1 g65,by omega⟩⟩))
  obtain⟨h70,s17⟩:=hI;replace hC:=hC.st s17 (by simp);refine oz 70 _ h70 nu (e_S ?_);replace hbN:=hbN.tr0 s17;replace hb8:=hb8.tr0 s17;replace hb9:=hb9.tr0 s17;refine zJ rfl (fun c70=>?_) (fun c70=>?_)
  ·have hcd:ndC b t=5:=by unfold ndC;rw [if_neg c28,if_pos c54,if_neg c70]
   refine zn3 ?_;refine xv rfl P9 (uX b9 _ _ _ hb9) rfl rfl (fun e' w19 hr=>?_);obtain⟨rfl,s18⟩:=hr;replace s18:=sB s18;replace hC:=hC.st s18 (by simp);refine⟨_,rfl,?_⟩;replace hb8:=hb8.tr0 s18;refine zk hb8 rfl rfl zz rfl zK (fun w20 hq s19=>?_);replace hC:=hC.st s19 (fun g hg=>by rw [List.mem_singleton.1 hg];first | exact .inl rfl | exact .inr or_hC_b8);replace hb8:=hq;refine zn6 ?_;refine xX (.inl rfl) rfl (zw U36 rfl rfl hb8.range0 zz) ?_;rw [Zv c21 (show ndC b t=5 from hcd) dE];replace hbN:=(hbN.tr0 s18).tr1 s19 om;exact⟨rfl,hC,hbN⟩
  have c70:=Classical.not_not.1 c70;refine zn3 ?_;refine yQ [73,74,75,76,77,78,79,80,81] 81 (.bool (decide (t.index < 0∨(b:Int)≤t.index))) nu ?_ (fun gq=>?_)
  ·refine zn5 ?_;refine zV 76 rfl (fun g76=>?_) (fun g76=>?_)
   ·refine zn5 ?_;refine zW (e_R ⟨rfl,agA,?_⟩);exact clA
   refine zn9 ?_;refine zW (e_R ⟨rfl,agA,?_⟩);exact clA
  refine e_S ?_;refine zJ rfl (fun c81=>?_) (fun c81=>?_)
  ·have hcd:ndC b t=15:=by unfold ndC;rw [if_neg c28,if_pos c54,if_pos c70,if_pos c81]
   refine zn3 ?_;refine xv rfl P9 (uX b9 _ _ _ hb9) rfl rfl (fun e' w21 hr=>?_);obtain⟨rfl,s20⟩:=hr;replace s20:=sB s20;replace hC:=hC.st s20 (by simp);refine⟨_,rfl,?_⟩;replace hb8:=hb8.tr0 s20;refine zk hb8 rfl rfl zz rfl zK (fun w22 hq s21=>?_);replace hC:=hC.st s21 (fun g hg=>by rw [List.mem_singleton.1 hg];first | exact .inl rfl | exact .inr or_hC_b8);replace hb8:=hq;refine zn5 ?_;refine xX (.inl rfl) rfl (zw U36 rfl rfl hb8.range0 zz) ?_;rw [Zv c21 (show ndC b t=15 from hcd) dE];replace hbN:=(hbN.tr0 s20).tr1 s21 om;exact⟨rfl,hC,hbN⟩
  have hcd:ndC b t=0:=by unfold ndC;rw [if_neg c28,if_pos c54,if_pos c70,if_neg c81]
  have hl0:t.args= []:=List.length_eq_zero_iff.1 c70.2.2;refine zn5 ?_;refine wl (uJ (vs:=#[]) (cs:=#[.int .i64 0,.int .i64 0]) (by simp) kR) ?_;refine zk hb8 rfl rfl zz rfl zK (fun w23 hq s22=>?_);replace hC:=hC.st s22 (fun g hg=>by rw [List.mem_singleton.1 hg];first | exact .inl rfl | exact .inr or_hC_b8);replace hb8:=hq;refine zn3 ?_;refine xX (.inl rfl) rfl (zw U36 rfl rfl hb8.range0 zz) ?_;rw [H4 c21 hcd hl0];replace hbN:=hbN.tr1 s22 om;exact⟨rfl,hC,hbN⟩
 refine zn6 ?_;replace hbV:=((hbV.tr0 s3).tr1 s4 om).tr1 s5 om;refine zJ rfl (fun c84=>?_) (fun c84=>?_)
 ·refine xK (xK ?_);refine yQ [86,87,88,89,90,91,92,93,94,95,96,97,98,99] 99 (.bool (decide (¬(t.name=⟨#[]⟩∧t.index=0∧t.args.length=1)))) nu ?_ (fun gq=>?_)
  ·refine zn5 ?_;refine zV 89 rfl (fun g89=>?_) (fun g89=>?_)
   ·refine jy ?_;refine zW (e_R ⟨rfl,agA,?_⟩);show Value.bool _=Value.bool _
    first | exact congrArg Value.bool (decide_eq_true (by exact fun h=>g89 h.1)).symm | exact congrArg Value.bool (decide_eq_true (by exact fun h=>g94 h.2.1)).symm | exact congrArg Value.bool (decide_eq_decide.2 (by exact⟨fun k h=>k (by have:=h.2.2;omega),fun k e=>k ⟨Classical.not_not.1 g89,Classical.not_not.1 g94,by omega⟩⟩))
   refine zn8 ?_;refine zV 94 rfl (fun g94=>?_) (fun g94=>?_)
   ·refine zn5 ?_;refine zW (e_R ⟨rfl,agA,?_⟩);show Value.bool _=Value.bool _
    first | exact congrArg Value.bool (decide_eq_true (by exact fun h=>g89 h.1)).symm | exact congrArg Value.bool (decide_eq_true (by exact fun h=>g94 h.2.1)).symm | exact congrArg Value.bool (decide_eq_decide.2 (by exact⟨fun k h=>k (by have:=h.2.2;omega),fun k e=>k ⟨Classical.not_not.1 g89,Classical.not_not.1 g94,by omega⟩⟩))
   refine zn9 ?_;refine zW (e_R ⟨rfl,agA,?_⟩);show Value.bool _=Value.bool _
   first | exact congrArg Value.bool (decide_eq_true (by exact fun h=>g89 h.1)).symm | exact congrArg Value.bool (decide_eq_true (by exact fun h=>g94 h.2.1)).symm | exact congrArg Value.bool (decide_eq_decide.2 (by exact⟨fun k h=>k (by have:=h.2.2;omega),fun k e=>k ⟨Classical.not_not.1 g89,Classical.not_not.1 g94,by omega⟩⟩))
  refine e_S ?_;refine zJ rfl (fun c99=>?_) (fun c99=>?_)
  ·have hcd:ndC b t=5:=by unfold ndC;rw [if_neg c28,if_neg c54,if_pos c84,if_neg c99]
   refine zn3 ?_;refine xv rfl P9 (uX b9 _ _ _ hb9) rfl rfl (fun e' w24 hr=>?_);obtain⟨rfl,s23⟩:=hr;replace s23:=sB s23;replace hC:=hC.st s23 (by simp);refine⟨_,rfl,?_⟩;replace hb8:=hb8.tr0 s23;refine zk hb8 rfl rfl zz rfl zK (fun w25 hq s24=>?_);replace hC:=hC.st s24 (fun g hg=>by rw [List.mem_singleton.1 hg];first | exact .inl rfl | exact .inr or_hC_b8);replace hb8:=hq;refine zn6 ?_;refine xX (.inl rfl) rfl (zw U36 rfl rfl hb8.range0 zz) ?_;rw [Zv c21 (show ndC b t=5 from hcd) dE];replace hbN:=(hbN.tr0 s23).tr1 s24 om;exact⟨rfl,hC,hbN⟩
  have c99:=Classical.not_not.1 c99;have h0l:0 < t.args.length:=by omega
  refine zn6 ?_;refine wl (qW U41 rfl rfl (hb5.sub (n:=2) (xs:=[_,_]) rfl) kZ) ?_;refine zX fn79 (Sy A c t.type _ (hS.mono hB)) rfl (fun e' w26 hr=>?_);obtain⟨rfl,s25⟩:=hr;replace s25:=sB s25;replace hC:=hC.st s25 (by simp);refine⟨_,rfl,?_⟩;refine wl (HJ (v:= .int _ _) U36 rfl U3 rfl rfl rfl) (zn3 ?_);replace hbN:=hbN.tr0 s25;replace hb8:=hb8.tr0 s25;refine zJ rfl (fun c106=>?_) (fun c106=>?_)
  ·have hcd:ndC b t=12:=by unfold ndC;rw [if_neg c28,if_neg c54,if_pos c84,if_pos c99,if_neg c106]
   refine zn3 ?_;replace hb9:=hb9.tr0 s25;refine xv rfl P9 (uX b9 _ _ _ hb9) rfl rfl (fun e' w27 hr=>?_);obtain⟨rfl,s26⟩:=hr;replace s26:=sB s26;replace hC:=hC.st s26 (by simp);refine⟨_,rfl,?_⟩;replace hb8:=hb8.tr0 s26;refine zk hb8 rfl rfl zz rfl zK (fun w28 hq s27=>?_);replace hC:=hC.st s27 (fun g hg=>by rw [List.mem_singleton.1 hg];first | exact .inl rfl | exact .inr or_hC_b8);replace hb8:=hq;refine zn6 ?_;refine xX (.inl rfl) rfl (zw U36 rfl rfl hb8.range0 zz) ?_;rw [Zv c21 (show ndC b t=12 from hcd) dE];replace hbN:=(hbN.tr0 s26).tr1 s27 om;exact⟨rfl,hC,hbN⟩
  have c106:=Classical.not_not.1 c106;have hcd:ndC b t=0:=by unfold ndC;rw [if_neg c28,if_neg c54,if_pos c84,if_pos c99,if_pos c106]
  obtain⟨tb,to,A0,c0,B0,m0,rfl,htb,htr,ks0,kt0⟩:=hT.at_ h0l;have hgo:=twk_one c21 hcd (by rw [inB,if_pos c84]:inB t b=b + 1) c99.2.2 h0l;refine zn3 ?_;refine X1 9 kR kR (fun w29 s28=>?_);replace hC:=hC.st s28 (by simp);refine zn3 ?_;refine ws (yJ (i:=0) U42 N9 rfl rfl h0l rfl) (zn5 ?_);refine QV ?_;replace hB:=hB.tr0 (s25.trans s28);replace hbV:=hbV.tr0 (s25.trans s28);replace hbN:=hbN.tr0 s28;refine xv rfl fn77 (IH (t.args[0]'h0l) (List.getElem_mem h0l) A0 B0 c0 m0 (d + 1) (b + 1) (n + 1) _ ks0 kt0 om om om hB hbN hbV) rfl rfl (fun e' w30 hr=>?_);obtain⟨rfl,hC2,hbN2⟩:=hr;replace hC:=hC.trans hC2 (fun g hg=> .inl hg);replace hb8:=hb8.tr0 s28;replace hb8:=hb8.chG hC2 (fun hx=>by have hx:b8=bN:=hx;omega);replace hbN:=hbN2;refine⟨_,rfl,?_⟩;refine zk hb8 rfl rfl zz rfl zK (fun w31 hq s29=>?_);replace hC:=hC.st s29 (fun g hg=>by rw [List.mem_singleton.1 hg];first | exact .inl rfl | exact .inr or_hC_b8);replace hb8:=hq;refine zn5 ?_;refine xX (.inl rfl) rfl (zw U36 rfl rfl hb8.range0 zz) ?_;rw [hgo];replace hbN:=hbN.tr1 s29 om;exact⟨rfl,hC,hbN⟩
 refine zn6 ?_;refine zJ rfl (fun c119=>?_) (fun c119=>?_)
 ·refine xK (xK ?_);refine yz [121,122,123,124,125,126,127,128,129,130,131,132,133,134,135,136,137,138,139,140] (fun g w'=>(g 140= .bool (decide (¬(t.name=⟨#[]⟩∧t.index=0∧IW t.type∧t.args.length=2))))∧Same [] w5 w') ?_ (fun g27 w32 hI=>?_)
  ·have hZ:SameQ [] w5 w5:=Same.refl _ _;refine zn5 ?_;refine zV 124 rfl (fun g124=>?_) (fun g124=>?_)
   ·refine Bx ?_;refine e_R ⟨agA,?_⟩;refine⟨?_,hZ⟩
    first | exact congrArg Value.bool (decide_eq_true (by exact fun h=>g124 h.1)).symm | exact congrArg Value.bool (decide_eq_true (by exact fun h=>g129 h.2.1)).symm | exact congrArg Value.bool (decide_eq_true (by exact fun h=>g135 h.2.2.1)).symm | exact congrArg Value.bool (decide_eq_decide.2 (by exact⟨fun k h=>k (by have:=h.2.2.2;omega),fun k e=>k ⟨Classical.not_not.1 g124,Classical.not_not.1 g129,Classical.not_not.1 g135,by omega⟩⟩))
   refine zn8 ?_;refine zV 129 rfl (fun g129=>?_) (fun g129=>?_)
   ·refine vQ ?_;refine e_R ⟨agA,?_⟩;refine⟨?_,hZ⟩
    first | exact congrArg Value.bool (decide_eq_true (by exact fun h=>g124 h.1)).symm | exact congrArg Value.bool (decide_eq_true (by exact fun h=>g129 h.2.1)).symm | exact congrArg Value.bool (decide_eq_true (by exact fun h=>g135 h.2.2.1)).symm | exact congrArg Value.bool (decide_eq_decide.2 (by exact⟨fun k h=>k (by have:=h.2.2.2;omega),fun k e=>k ⟨Classical.not_not.1 g124,Classical.not_not.1 g129,Classical.not_not.1 g135,by omega⟩⟩))
   refine zn3 ?_;refine wl (qW U41 rfl rfl (hb5.sub (n:=2) (xs:=[_,_]) rfl) kZ) (zn1 ?_);refine zX fn80 (T4 A c t.type _) rfl (fun e' w33 hr=>?_);obtain⟨rfl,s30⟩:=hr;replace s30:=sB s30;replace hC:=hC.st s30 (by simp);replace hZ:=SameQ.trans hZ s30 (by simp);refine⟨_,rfl,?_⟩;refine zn4 ?_;refine zV 135 rfl (fun g135=>?_) (fun g135=>?_)
   ·refine zn6 ?_;refine e_R ⟨agA,?_⟩;refine⟨?_,hZ⟩
    first | exact congrArg Value.bool (decide_eq_true (by exact fun h=>g124 h.1)).symm | exact congrArg Value.bool (decide_eq_true (by exact fun h=>g129 h.2.1)).symm | exact congrArg Value.bool (decide_eq_true (by exact fun h=>g135 h.2.2.1)).symm | exact congrArg Value.bool (decide_eq_decide.2 (by exact⟨fun k h=>k (by have:=h.2.2.2;omega),fun k e=>k ⟨Classical.not_not.1 g124,Classical.not_not.1 g129,Classical.not_not.1 g135,by omega⟩⟩))
   refine jy ?_;refine e_R ⟨agA,?_⟩;refine⟨?_,hZ⟩
   first | exact congrArg Value.bool (decide_eq_true (by exact fun h=>g124 h.1)).symm | exact congrArg Value.bool (decide_eq_true (by exact fun h=>g129 h.2.1)).symm | exact congrArg Value.bool (decide_eq_true (by exact fun h=>g135 h.2.2.1)).symm | exact congrArg Value.bool (decide_eq_decide.2 (by exact⟨fun k h=>k (by have:=h.2.2.2;omega),fun k e=>k ⟨Classical.not_not.1 g124,Classical.not_not.1 g129,Classical.not_not.1 g135,by omega⟩⟩))
  obtain⟨h140,s31⟩:=hI;replace hC:=hC.st s31 (by simp);refine oz 140 _ h140 nu (e_S ?_);replace hbN:=hbN.tr0 s31;replace hb8:=hb8.tr0 s31;replace hb9:=hb9.tr0 s31;refine zJ rfl (fun c140=>?_) (fun c140=>?_)
  ·have hcd:ndC b t=5:=by unfold ndC;rw [if_neg c28,if_neg c54,if_neg c84,if_pos c119,if_neg c140]
   refine zn3 ?_;refine xv rfl P9 (uX b9 _ _ _ hb9) rfl rfl (fun e' w34 hr=>?_);obtain⟨rfl,s32⟩:=hr;replace s32:=sB s32;replace hC:=hC.st s32 (by simp);refine⟨_,rfl,?_⟩;replace hb8:=hb8.tr0 s32;refine zk hb8 rfl rfl zz rfl zK (fun w35 hq s33=>?_);replace hC:=hC.st s33 (fun g hg=>by rw [List.mem_singleton.1 hg];first | exact .inl rfl | exact .inr or_hC_b8);replace hb8:=hq;refine zn6 ?_;refine xX (.inl rfl) rfl (zw U36 rfl rfl hb8.range0 zz) ?_;rw [Zv c21 (show ndC b t=5 from hcd) dE];replace hbN:=(hbN.tr0 s32).tr1 s33 om;exact⟨rfl,hC,hbN⟩
  have c140:=Classical.not_not.1 c140;have h0l:0 < t.args.length:=by omega
  have h1l:1 < t.args.length:=by omega
  have hcd:ndC b t=0:=by unfold ndC;rw [if_neg c28,if_neg c54,if_neg c84,if_pos c119,if_pos c140]
  obtain⟨tb,to,A0,c0,B0,m0,rfl,htb,htr,ks0,kt0⟩:=hT.at_ h0l;obtain⟨_,_,A1,c1,B1,m1,e1,_,htr1,ks1,kt1⟩:=hT.at_ h1l;cases e1;have hgo:=twk_two c21 hcd (by rw [inB,if_neg c84]:inB t b=b) c140.2.2.2 h0l h1l;refine zn4 ?_;have ltNW:=hbN.lt;replace hB:=hB.tr0 s31;have hsz0:=Bel.size hB;replace hb5:=hb5.tr0 s31;have lt5W:=hb5.lt;have lt8W:=hb8.lt;have lt9W:=hb9.lt;replace hbV:=hbV.tr0 s31;have ltVW:=hbV.lt;have szCW:=hC.size;refine Qq 10 [143,144,145,146,147,148,149,150,151,11] [bN] 8 (fun ix v wv=>match ix with | 0=>v= .func (.func 77) #[] #[.pointer (some ⟨bN,0,none⟩),.pointer (some ⟨bV,0,none⟩)] | 1=>v= .pointer (some ⟨b5,0 + 5,none⟩) | 2=>v= .slice (some ⟨tb,to,none⟩) t.args.length m | 3=>v= .pointer (some ⟨tb,to + 0 * 6,none⟩) | 4=>v= .agg #[.int .i64 ((t.args[0]'h0l)).kind,.string ((t.args[0]'h0l)).name,.int .i64 ((t.args[0]'h0l)).index,.string ((t.args[0]'h0l)).type.base,.slice A0 ((t.args[0]'h0l)).type.args.length c0,.slice B0 ((t.args[0]'h0l)).args.length m0] | 5=>v= .int .i64 d | 6=>v= .int .i64 ((d:Nat) + 1:Int) | 7=>v= .int .i64 b | 8=>v= .agg #[.int .i64 (twk (t.args[0]'h0l) (d + 1) b (n + 1)).2.1,.int .i64 (twk (t.args[0]'h0l) (d + 1) b (n + 1)).2.2] | 9=>∃ bq,v= .pointer (some ⟨bq,0,none⟩)∧w32.heap.size≤bq∧Blk wv bq 36 #[.int .i64 0,.int .i64 0] | _=>True) (fun wq=>Blk wq bN 3 #[.int .i64 (((twk (t.args[0]'h0l) (d + 1) b (n + 1)).1:Nat):Int)]) kR kR ?_ (fun _ _ h hs=>Blk.tr0 h hs) ?_ ?_ dE ?_
  ·intro ix v wv wv2 h s34
   match ix,h with
   | 0,h=>exact h
   | 1,h=>exact h
   | 2,h=>exact h
   | 3,h=>exact h
   | 4,h=>exact h
   | 5,h=>exact h
   | 6,h=>exact h
   | 7,h=>exact h
   | 8,h=>exact h
   | 9,h=>
    obtain⟨b11,e11,lo11,hb11⟩:=h;exact⟨b11,e11,lo11,hb11.tr0 s34⟩
   | _ + 10,h=>exact trivial
  ·intro ix o hix hne hoq gg wx s35 hd
   match ix,hix,hne,hoq with
   | 0,_,_,hoq=>
    cases sI hoq;replace hbV:=hbV.tr1 s35 om;refine qQ (qK (v:= .func _ _ _) Tryd.underlying143 rfl rfl (hbV.cell rfl)) ⟨Same.refl _ _,?_⟩;exact rfl
   | 1,_,_,hoq=>
    cases sI hoq;refine qQ (o7 U44 sz42 dE rfl rfl rfl) ⟨Same.refl _ _,?_⟩;exact rfl
   | 2,_,_,hoq=>
    cases sI hoq;refine zq 144 _ (hd 1 (zj kR)) nu ?_;replace hb5:=hb5.tr1 s35 om;refine qQ (qK (v:= .slice _ _ _) U42 rfl rfl (hb5.cell rfl)) ⟨Same.refl _ _,?_⟩;exact rfl
   | 3,_,_,hoq=>
    cases sI hoq;refine zq 145 _ (hd 2 (zj kR)) nu ?_;refine qQ (yJ (i:=0) U42 N9 rfl rfl h0l rfl) ⟨Same.refl _ _,?_⟩;exact rfl
   | 4,_,_,hoq=>
    cases sI hoq;replace hB:=hB.tr1 s35 l0N;refine zq 146 _ (hd 3 (zj kR)) nu ?_;refine qQ (qW U44 rfl rfl (hB.range htb htr) N9) ⟨Same.refl _ _,?_⟩;exact rfl
   | 5,_,_,hoq=>
    cases sI hoq;refine qQ (x5 (v:= .int _ _) rfl) ⟨Same.refl _ _,?_⟩;exact rfl
   | 6,_,_,hoq=>
    cases sI hoq;refine zq 148 _ (hd 5 (zj kR)) nu ?_;refine qQ (Q5 rfl rfl rfl om) ⟨Same.refl _ _,?_⟩;exact rfl
   | 7,_,_,hoq=>
    cases sI hoq;refine qQ (x5 (v:= .int _ _) rfl) ⟨Same.refl _ _,?_⟩;exact rfl
   | 8,_,hne,_=>exact absurd rfl hne
   | 9,_,_,hoq=>
    cases sI hoq;have hs0:=s35;refine vK (fun ops Q K=>?_);refine qw (cs:=#[.int .i64 0,.int .i64 0]) zY rfl (fun b11 w36 hb11 s36 hr=>?_);exact K _ _ ⟨s36,⟨_,rfl,nLT hs0.size hr,hb11⟩⟩
   | _ + 10,hix,_,_=>exact absurd hix om
  ·intro o hoq gg wx s37 hd;cases sI hoq;replace hC:=hC.st s37 (by simp);refine zq 143 _ (hd 0 (zj kR)) nu (zq 147 _ (hd 4 (zj kR)) nu (zq 149 _ (hd 6 (zj kR)) nu (zq 150 _ (hd 7 (zj kR)) nu ?_)));refine vK (fun ops Q K=>?_);replace hB:=hB.tr0 s37;replace hbN:=hbN.tr0 s37;replace hbV:=hbV.tr0 s37;refine xv rfl fn77 (IH (t.args[0]'h0l) (List.getElem_mem h0l) A0 B0 c0 m0 (d + 1) b (n + 1) _ ks0 kt0 om om om hB hbN hbV) rfl rfl (fun e' w2 hr=>?_);obtain⟨rfl,hC2,hP2⟩:=hr;have hs2:=hC2.one;refine⟨_,rfl,K _ _ ⟨hs2,rfl,hP2,fun kx v hne h=>?_⟩⟩
   match kx,hne,h with
   | 0,_,h=>exact h
   | 1,_,h=>exact h
   | 2,_,h=>exact h
   | 3,_,h=>exact h
   | 4,_,h=>exact h
   | 5,_,h=>exact h
   | 6,_,h=>exact h
   | 7,_,h=>exact h
   | 8,hne,_=>exact absurd rfl hne
   | 9,_,h=>
    obtain⟨b11,e11,lo11,hb11⟩:=h;exact⟨b11,e11,lo11,hb11.tr1 hs2 om⟩
   | _ + 10,_,_=>exact trivial
  intro gg w37 s38 hP2 hR;replace hB:=hB.tr1 s38 l0N;replace hC:=hC.st s38 (fun g hg=>by rw [List.mem_singleton.1 hg];first | exact .inl rfl | exact .inr or_hC_bN);replace hbN:=hP2;obtain⟨b11,e11,lo11,hb11⟩:=hR 9 dE;have or_hC_b11:w.heap.size≤b11:=by omega
  refine qY 151 _ (hR 8 dE) nu (qY 11 _ e11 nu ?_);refine zk hb11 rfl rfl zz rfl zK (fun w38 hq s39=>?_);replace hB:=hB.tr1 s39 (nLT hsz0 lo11);replace hC:=hC.st s39 (fun g hg=>by rw [List.mem_singleton.1 hg];first | exact .inl rfl | exact .inr or_hC_b11);replace hb11:=hq;refine zn9 ?_;replace hb8:=(hb8.tr1 s38 om).tr1 s39 om;replace hbN:=hbN.tr1 s39 om;refine zJ rfl (fun c154=>?_) (fun c154=>?_)
  ·rw [if_neg c154] at hgo;refine zn3 ?_;refine zk hb8 rfl rfl zz rfl zK (fun w39 hq s40=>?_);replace hC:=hC.st s40 (fun g hg=>by rw [List.mem_singleton.1 hg];first | exact .inl rfl | exact .inr or_hC_b8);replace hb8:=hq;refine zn6 ?_;refine xX (.inl rfl) rfl (zw U36 rfl rfl hb8.range0 zz) ?_;rw [hgo];replace hbN:=hbN.tr1 s40 om;exact⟨rfl,hC,hbN⟩
  have c154:(twk (t.args[0]'h0l) (d + 1) b (n + 1)).2.1=0:=Classical.not_not.1 c154;rw [if_pos c154] at hgo;obtain⟨_,_,_,q1,q2⟩:=F1 _ _ _ _ c154;have hn3:(twk (t.args[0]'h0l) (d + 1) b (n + 1)).1≤200:=by rw [q1];exact q2
  refine zn3 ?_;refine X1 8 kR kR (fun w40 s41=>?_);replace hC:=hC.st s41 (by simp);refine zn3 ?_;refine ws (yJ (i:=1) U42 N9 rfl rfl h1l rfl) (zn4 ?_);refine QV ?_;replace hbV:=((hbV.tr1 s38 om).tr1 s39 om).tr0 s41;replace hB:=hB.tr0 s41;replace hbN:=hbN.tr0 s41;refine xv rfl fn77 (IH (t.args[1]'h1l) (List.getElem_mem h1l) A1 B1 c1 m1 (d + 1) (b) ((twk (t.args[0]'h0l) (d + 1) b (n + 1)).1) _ ks1 kt1 hn3 om om hB hbN hbV) rfl rfl (fun e' w41 hr=>?_);obtain⟨rfl,hC2,hbN2⟩:=hr;replace hC:=hC.trans hC2 (fun g hg=> .inl hg);replace hb8:=hb8.tr0 s41;replace hb8:=hb8.chG hC2 (fun hx=>by have hx:b8=bN:=hx;omega);replace hbN:=hbN2;refine⟨_,rfl,?_⟩;refine zk hb8 rfl rfl zz rfl zK (fun w42 hq s42=>?_);replace hC:=hC.st s42 (fun g hg=>by rw [List.mem_singleton.1 hg];first | exact .inl rfl | exact .inr or_hC_b8);replace hb8:=hq;refine zn5 ?_;refine xX (.inl rfl) rfl (zw U36 rfl rfl hb8.range0 zz) ?_;rw [hgo];replace hbN:=hbN.tr1 s42 om;exact⟨rfl,hC,hbN⟩
 have hcd:ndC b t=4:=by unfold ndC;rw [if_neg c28,if_neg c54,if_neg c84,if_neg c119]
 refine zn3 ?_;refine xv rfl P9 (uX b9 _ _ _ hb9) rfl rfl (fun e' w43 hr=>?_);obtain⟨rfl,s43⟩:=hr;replace s43:=sB s43;replace hC:=hC.st s43 (by simp);refine⟨_,rfl,?_⟩;replace hb8:=hb8.tr0 s43;refine zk hb8 rfl rfl zz rfl zK (fun w44 hq s44=>?_);replace hC:=hC.st s44 (fun g hg=>by rw [List.mem_singleton.1 hg];first | exact .inl rfl | exact .inr or_hC_b8);replace hb8:=hq;refine zn5 ?_;refine xX (.inl rfl) rfl (zw U36 rfl rfl hb8.range0 zz) ?_;rw [Zv c21 (show ndC b t=4 from hcd) dE];replace hbN:=(hbN.tr0 s43).tr1 s44 om;exact⟨rfl,hC,hbN⟩
theorem twk_anyK {w0:World} {bN bV:Nat} (l0N:w0.heap.size≤bN) (_l0V:w0.heap.size≤bV) (nVN:bV≠bN):∀ (k:Nat) (t:Tm),SizeOf.sizeOf t < k→∀ (A B:Option Addr) (c m d b n:Nat) (w:World),SimsIn w0 A t.type.args→TmsIn w0 B t.args→n≤200→d≤41→b≤d→Bel w0 w→Blk w bN 3 #[.int .i64 ((n:Nat):Int)]→Blk w bV 143 #[.func (.func 77) #[] #[.pointer (some ⟨bN,0,none⟩),.pointer (some ⟨bV,0,none⟩)]]→Calls Tryd.prog 77 #[.agg #[.int .i64 (t).kind,.string (t).name,.int .i64 (t).index,.string (t).type.base,.slice A (t).type.args.length c,.slice B (t).args.length m],.int .i64 ((d:Nat):Int),.int .i64 ((b:Nat):Int),.pointer (some ⟨bN,0,none⟩),.pointer (some ⟨bV,0,none⟩)] w fun e w'=>e= .returned (flV (twk t d b n).2)∧ChG (fun g=>g=bN) w w'∧Blk w' bN 3 #[.int .i64 (((twk t d b n).1:Nat):Int)]:=by
  intro k
  induction k with
  | zero=>intro t h;omega
  | succ k ih=>
    intro t h A B c m d b n w hS hT hn hd hbd hB hbN hbV;refine twk_step l0N _l0V nVN hS hT (fun x hx A2 B2 c2 m2 d2 b2 n2 w2 h1 h2 h3 h4 h5 h6 h7 h8=>ih x ?_ A2 B2 c2 m2 d2 b2 n2 w2 h1 h2 h3 h4 h5 h6 h7 h8) hn hd hbd hB hbN hbV;have:=List.sizeOf_lt_of_mem hx;cases t with
    | mk k nm i s l=>simp only [Tm.mk.sizeOf_spec,Tm.args] at h this;omega
theorem twk_any {w0:World} {bN bV:Nat} (l0N:w0.heap.size≤bN) (_l0V:w0.heap.size≤bV) (nVN:bV≠bN)  (t:Tm) (A B:Option Addr) (c m d b n:Nat) (w:World):SimsIn w0 A t.type.args→TmsIn w0 B t.args→n≤200→d≤41→b≤d→Bel w0 w→Blk w bN 3 #[.int .i64 ((n:Nat):Int)]→Blk w bV 143 #[.func (.func 77) #[] #[.pointer (some ⟨bN,0,none⟩),.pointer (some ⟨bV,0,none⟩)]]→Calls Tryd.prog 77 #[.agg #[.int .i64 (t).kind,.string (t).name,.int .i64 (t).index,.string (t).type.base,.slice A (t).type.args.length c,.slice B (t).args.length m],.int .i64 ((d:Nat):Int),.int .i64 ((b:Nat):Int),.pointer (some ⟨bN,0,none⟩),.pointer (some ⟨bV,0,none⟩)] w fun e w'=>e= .returned (flV (twk t d b n).2)∧ChG (fun g=>g=bN) w w'∧Blk w' bN 3 #[.int .i64 (((twk t d b n).1:Nat):Int)]:=twk_anyK l0N _l0V nVN (SizeOf.sizeOf t + 1) t (Nat.lt_succ_self _) A B c m d b n w
end Go.Proofs.YtdgnllfbooklcaaDoor
namespace Go.Proofs.YtdgnllfbooklcaaDoor
open Go.RowKit
theorem tv_con {v:Tv} (h:v.tm.kind=1):∃ nm τ,v= .con nm τ:=by cases v <;> first | exact⟨_,_,rfl⟩ | (exfalso;revert h;simp [Tv.tm,Tm.kind])
theorem tv_var {v:Tv} (h:v.tm.kind=2):∃ i,v= .var i:=by cases v <;> first | exact⟨_,rfl⟩ | (exfalso;revert h;simp [Tv.tm,Tm.kind])
theorem tv_abs {v:Tv} (h:v.tm.kind=3):∃ τ x,v= .abs τ x:=by cases v <;> first | exact⟨_,_,rfl⟩ | (exfalso;revert h;simp [Tv.tm,Tm.kind])
theorem tv_app {v:Tv} (h1:¬v.tm.kind=1) (h2:¬v.tm.kind=2) (h3:¬v.tm.kind=3):∃ x y,v= .app x y:=by
  cases v with
  | con nm τ=>exact absurd rfl h1
  | var i=>exact absurd rfl h2
  | abs τ x=>exact absurd rfl h3
  | app x y=>exact⟨_,_,rfl⟩
theorem ts_two {τ:Ts} (h:τ.sm.args.length=2):∃ x y,τ= .f x y:=by
  cases τ with
  | b t=>cases h
  | f x y=>exact⟨x,y,rfl⟩
section app
variable {Γ:List Ts} {x y:Tv}
theorem app_no1 (h:(tyv Γ x).isSome=false):tyv Γ (.app x y)=none:=by
  simp only [tyv];cases e:tyv Γ x with
  | none=>rfl
  | some σ=>rw [e] at h;cases h
theorem app_no2 (h:(tyv Γ y).isSome=false):tyv Γ (.app x y)=none:=by
  simp only [tyv];cases e:tyv Γ y with
  | none=>
    cases tyv Γ x with
    | none=>rfl
    | some σ=>cases σ <;> rfl
  | some σ=>rw [e] at h;cases h
theorem app_no3 {σ:Ts} (h:tyv Γ x=some σ) (hn:¬σ.sm.args.length=2):tyv Γ (.app x y)=none:=by
  simp only [tyv,h];cases σ with
  | b t=>rfl
  | f a r=>exact absurd rfl hn
theorem app_no4 {a r ζ:Ts} (h:tyv Γ x=some (.f a r)) (k:tyv Γ y=some ζ) (e:a.eqb ζ=false):tyv Γ (.app x y)=none:=by
  simp only [tyv,h,k,e];rfl
theorem app_yes {a r ζ:Ts} (h:tyv Γ x=some (.f a r)) (k:tyv Γ y=some ζ) (e:a.eqb ζ=true):tyv Γ (.app x y)=some r:=by
  simp only [tyv,h,k,e];rfl
end app
theorem fn81:zZ Tryd.prog 81=true:=by kernel_rfl
theorem in41:(Tryd.prog.info? 41).map (fun i=>(i.zero,i.size,i.bytes))=some (some (.agg #[.string ⟨#[]⟩,.slice none 0 0]),2,40):=by kernel_rfl
set_option maxRecDepth 100000 in
set_option maxHeartbeats 4000000 in
theorem RW {v:Tv} {Γ:List Ts} {A B C:Option Addr} {c m cc:Nat} {w:World} (hS:SimsIn w A v.tm.type.args) (hT:TmsIn w B v.tm.args) (hG:CtxIn w C Γ) (hcc:Γ.length≤cc) (hlen:Γ.length + v.size≤1000) (hok:v.ok Γ.length) (IH:∀ (x:Tv),x.size < v.size→∀ (Γ:List Ts) (A2 B2 C2:Option Addr) (c2 m2 cc2:Nat) (w2:World),SimsIn w2 A2 (Tv.tm (x)).type.args→TmsIn w2 B2 (Tv.tm (x)).args→CtxIn w2 C2 Γ→List.length Γ≤cc2→List.length Γ + (x).size≤1000→Tv.ok (List.length Γ) (x)→Calls Tryd.prog 81 #[.agg #[.int .i64 (Tv.tm (x)).kind,.string (Tv.tm (x)).name,.int .i64 (Tv.tm (x)).index,.string (Tv.tm (x)).type.base,.slice A2 (Tv.tm (x)).type.args.length c2,.slice B2 (Tv.tm (x)).args.length m2],.slice C2 (List.length Γ) cc2] w2 fun e w'=>(∃ (s:ByteArray) (A':Option Addr) (n c':Nat),e= .returned (.tuple #[.agg #[.string s,.slice A' n c'],.bool (tyv (Γ) (x)).isSome])∧∀ τ,tyv (Γ) (x)=some τ→s=τ.sm.base∧n=τ.sm.args.length∧SimsIn w' A' τ.sm.args)∧Bel w2 w'):Calls Tryd.prog 81 #[.agg #[.int .i64 (Tv.tm (v)).kind,.string (Tv.tm (v)).name,.int .i64 (Tv.tm (v)).index,.string (Tv.tm (v)).type.base,.slice A (Tv.tm (v)).type.args.length c,.slice B (Tv.tm (v)).args.length m],.slice C (List.length Γ) cc] w fun e w'=>(∃ (s:ByteArray) (A':Option Addr) (n c':Nat),e= .returned (.tuple #[.agg #[.string s,.slice A' n c'],.bool (tyv (Γ) (v)).isSome])∧∀ τ,tyv (Γ) (v)=some τ→s=τ.sm.base∧n=τ.sm.args.length∧SimsIn w' A' τ.sm.args)∧Bel w w':=by
 refine enter Tryd.func81 Tryd.ntmps81 rfl (Nat.le_of_ble_eq_true rfl) ?_;have hB:Bel w w:=Below.refl _ _;refine zn2 ?_;refine xz (v:= .agg #[_,_,_,_,_,_]) (cs:=#[_,_,_,_,_,_]) rfl rfl (fun b2 w1 hb2 t1 hr=>?_);refine qw (cs:=#[.string ⟨#[]⟩,.slice none 0 0]) Bw rfl (fun b4 w2 hb4 t2 hr=>?_);replace hB:=hB.tr0 t1;have lo4:=nLT (Bel.size hB) hr;refine Bx ?_;replace hB:=hB.tr0 t2;replace hb2:=hb2.tr0 t2;refine zJ rfl (fun c15=>?_) (fun c15=>?_)
 ·obtain⟨nm,τ,rfl⟩:=tv_con c15;refine zn3 ?_;refine wl (qW U41 rfl rfl (hb2.sub (n:=2) (xs:=[_,_]) rfl) kZ) ?_;refine zk hb4 rfl rfl kZ rfl zK (fun w3 hq t3=>?_);replace hb4:=hq;refine zn6 ?_;refine ZK (.inl rfl) rfl (zw U41 rfl rfl hb4.range0 kZ) rfl ?_;replace hB:=hB.tr1 t3 lo4;exact⟨⟨_,_,_,_,rfl,fun σ e=>by obtain rfl:τ=σ:=Option.some.inj e;exact⟨rfl,rfl,hS.mono hB⟩⟩,hB⟩
 refine zn6 ?_;refine zJ rfl (fun c19=>?_) (fun c19=>?_)
 ·obtain⟨i,rfl⟩:=tv_var c19;have hil:i < Γ.length:=hok;obtain⟨cb,co,A7,c7,rfl,hcb,hcr,hcs⟩:=hG.at_ (List.getElem?_eq_getElem hil);refine zn5 ?_;refine wl (J7 (c:=((Γ.length - 1:Nat):Int)) rfl rfl om om) (zn1 ?_);refine wl (qK (v:= .int .i64 ((i:Nat):Int)) U3 rfl rfl (hb2.cell rfl)) (wl (J7 (c:=((Γ.length - 1 - i:Nat):Int)) rfl rfl om om) (wl (yJ (i:=(Γ.length - 1 - i)) U39 kZ rfl rfl om rfl) (wl (qW U41 rfl rfl (hB.range hcb hcr) kZ) ?_)));refine zk hb4 rfl rfl kZ rfl zK (fun w4 hq t4=>?_);replace hb4:=hq;refine zn6 ?_;refine ZK (.inl rfl) rfl (zw U41 rfl rfl hb4.range0 kZ) rfl ?_;have hty:tyv Γ (.var i)=some Γ[i]:=List.getElem?_eq_getElem hil;replace hB:=hB.tr1 t4 lo4;exact⟨⟨_,_,_,_,by rw [hty];rfl,fun σ e=>by rw [hty] at e;obtain rfl:=Option.some.inj e;exact⟨rfl,rfl,hcs.mono hB⟩⟩,hB⟩
 refine zn6 ?_;refine zJ rfl (fun c30=>?_) (fun c30=>?_)
 ·obtain⟨τ,x,rfl⟩:=tv_abs c30;have hlx:Γ.length + (x.size + 1)≤1000:=hlen;obtain⟨tb,to,A0,c0,B0,m0,rfl,htb,htr0,ks0,kt0⟩:=hT.at_ (k:=0) (by simp [Tv.tm,Tm.args])
  change w.rangeAt tb (to + 0 * 6) [.int .i64 (x).tm.kind,.string (x).tm.name,.int .i64 (x).tm.index,.string (x).tm.type.base,.slice A0 (x).tm.type.args.length c0,.slice B0 (x).tm.args.length m0] at htr0
  change SimsIn w A0 (x).tm.type.args at ks0
  change TmsIn w B0 (x).tm.args at kt0
  refine xK ?_;refine c_monoUO 11 [32,33,34,35,36,37,38,39,40,41,6] [] (fun ix=>false) (fun st ix v la ha wv=>match ix with | 0=>v= .slice C (List.length Γ) cc | 1=>v= .slice C (List.length Γ) cc | 2=>v= .int .i64 ((Γ.length:Nat):Int) | 3=>v= .slice C (List.length Γ) cc | 4=>v= .int .i64 ((Γ.length:Nat):Int) | 5=>v= .slice C (List.length Γ) (List.length Γ) | 6=>v= .pointer (some ⟨b2,0 + 3,none⟩) | 7=>v= .agg #[.string τ.sm.base,.slice A τ.sm.args.length c] | 8=>∃ b,v= .slice (some ⟨b,0,none⟩) 1 1∧Blk wv b 41 #[.string τ.sm.base,.slice A τ.sm.args.length c] | 9=>∃ g cap,v= .slice (some ⟨g,0,none⟩) (Γ.length + 1) cap∧CtxIn wv (some ⟨g,0,none⟩) (τ :: Γ)∧Γ.length + 1≤cap | 10=>∃ g cap,v= .slice (some ⟨g,0,none⟩) (Γ.length + 1) cap∧CtxIn wv (some ⟨g,0,none⟩) (τ :: Γ)∧Γ.length + 1≤cap | _=>True) kR kR kR ?_ ?_ ?_
  ·intro st ix v la ha wv wv2 h t5
   match ix,h with
   | 0,h=>exact h
   | 1,h=>exact h
   | 2,h=>exact h
   | 3,h=>exact h
   | 4,h=>exact h
   | 5,h=>exact h
   | 6,h=>exact h
   | 7,h=>exact h
   | 8,h=>
    obtain⟨b40,e40,hb40⟩:=h;exact⟨b40,e40,hb40.tr0 t5⟩
   | 9,h=>
    obtain⟨g41,cap41,e41,hG41,hcap41⟩:=h;exact⟨g41,cap41,e41,hG41.mono t5.bel,hcap41⟩
   | 10,h=>
    obtain⟨gx,capx,e6,hGx,hcapx⟩:=h;exact⟨gx,capx,e6,hGx.mono t5.bel,hcapx⟩
   | _ + 11,h=>exact trivial
  ·intro st ix o hix hoq hns gg wx la ha t6 hd
   match ix,hix,hoq,hns with
   | 0,_,hoq,hns=>
    cases sI hoq;show OS _ _ _ _ _ _;refine qQ (x5 (v:= .slice _ _ _) rfl) ⟨Same.refl _ _,?_⟩;exact rfl
   | 1,_,hoq,hns=>
    cases sI hoq;show OS _ _ _ _ _ _;refine qQ (x5 (v:= .slice _ _ _) rfl) ⟨Same.refl _ _,?_⟩;exact rfl
   | 2,_,hoq,hns=>
    cases sI hoq;show OS _ _ _ _ _ _;refine zq 33 _ (hd 1 _ (zj kR) rfl) nu ?_;refine qQ (MW U39 rfl) ⟨Same.refl _ _,?_⟩;exact rfl
   | 3,_,hoq,hns=>
    cases sI hoq;show OS _ _ _ _ _ _;refine qQ (x5 (v:= .slice _ _ _) rfl) ⟨Same.refl _ _,?_⟩;exact rfl
   | 4,_,hoq,hns=>
    cases sI hoq;show OS _ _ _ _ _ _;refine zq 35 _ (hd 3 _ (zj kR) rfl) nu ?_;refine qQ (MW U39 rfl) ⟨Same.refl _ _,?_⟩;exact rfl
   | 5,_,hoq,hns=>
    cases sI hoq;show OS _ _ _ _ _ _;refine zq 32 _ (hd 0 _ (zj kR) rfl) nu (zq 34 _ (hd 2 _ (zj kR) rfl) nu (zq 36 _ (hd 4 _ (zj kR) rfl) nu ?_));refine qQ (r_slF U39 kZ rfl rfl rfl hcc) ⟨Same.refl _ _,?_⟩;exact rfl
   | 6,_,hoq,hns=>
    cases sI hoq;show OS _ _ _ _ _ _;refine qQ (o7 U44 kZ dE rfl rfl rfl) ⟨Same.refl _ _,?_⟩;exact rfl
   | 7,_,hoq,hns=>
    cases sI hoq;show OS _ _ _ _ _ _;refine zq 38 _ (hd 6 _ (zj kR) rfl) nu ?_;replace hb2:=hb2.tr0 t6;refine qQ (qW U41 rfl rfl (hb2.sub (n:=2) (xs:=[_,_]) rfl) kZ) ⟨Same.refl _ _,?_⟩;exact rfl
   | 8,_,hoq,hns=>
    cases sI hoq;show OS _ _ _ _ _ _;refine zq 39 _ (hd 7 _ (zj kR) rfl) nu ?_;refine vK (fun ops Q K=>?_);refine qZ (cs:=#[_,_]) [(0,.agg _)] rfl U39 kZ Bw dE dE kR rfl (fun b40 w5 hb40 t7 hr=>?_);exact K _ _ ⟨t7,⟨_,rfl,hb40⟩⟩
   | 9,_,hoq,hns=>
    cases sI hoq;show OS _ _ _ _ _ _;obtain⟨b40,e40,hb40⟩:=hd 8 _ (zj kR) rfl;refine zq 37 _ (hd 5 _ (zj kR) rfl) nu (zq 40 _ e40 nu ?_);refine vK (fun ops Q K=>?_);replace hB:=hB.tr0 t6;obtain⟨vs,hv1,hv2,hv3,hv4⟩:=(hG.mono hB).row;refine wl_appFl U39 in41 rfl dE hv2 hv3 hv4 hb40 rfl rfl rfl rfl dE om om (fun g41 cap41 w1 ho41 t8 hg=>?_);exact K _ _ ⟨t8,_,_,rfl,ctx_app ho41 (hv1.mono t8.bel) ((hS.mono hB).mono t8.bel) rfl,ho41.cap_le⟩
   | 10,_,hoq,hns=>
    cases sI hoq;show OS _ _ _ _ _ _;obtain⟨g41,cap41,e41,hG41,hcap41⟩:=hd 9 _ (zj kR) rfl;refine zq 41 _ e41 nu ?_;refine qQ (kQ (v:= .slice _ _ _) rfl) ⟨Same.refl _ _,?_⟩;exact⟨_,_,rfl,hG41,hcap41⟩
   | _ + 11,hix,_,_=>exact absurd hix om
  intro st gg w6 la ha hall t9 hR hI;obtain⟨gx,capx,e6,hGx,hcapx⟩:=hR 10 _ rfl;refine qY 6 _ e6 nu (zn6 ?_);refine wl (yJ (i:=0) U42 N9 rfl rfl (by show 0 < 1;decide) rfl) ?_;replace hB:=hB.tr0 t9;refine wl (qW U44 rfl rfl (hB.range htb htr0) N9) (wl (x5 (v:= .slice _ _ _) rfl) ?_);refine zX fn81 (IH x (by simp only [Tv.size];omega) (τ :: Γ) A0 B0 (some ⟨gx,0,none⟩) c0 m0 capx _ (ks0.mono hB) (kt0.mono hB) hGx hcapx (by simp only [List.length_cons];omega) hok.2) rfl (fun e' w7 hr=>?_);obtain⟨⟨s3,A3,n3,c3,rfl,h3⟩,t10⟩:=hr;replace t10:=sB t10;have hBx:Bel w7 w7:=Below.refl _ _;refine⟨_,rfl,?_⟩;refine wmT rfl (wl (yk (v:= .agg _) rfl rfl) (wl (yk (v:= .bool _) rfl rfl) ?_));refine yj (cs:=#[.string ⟨#[]⟩,.slice none 0 0]) Bw rfl (fun _=>rfl) (fun _=>rfl) kZ rfl zK (fun b7 w9 hb7 t11 hr=>?_);refine zn4 ?_;have hZ:SameQ [b4] w9 w9:=Same.refl _ _;replace hb4:=hb4.tr0 (t9.trans (t10.trans t11));have hb4z:=hb4;replace hBx:=hBx.tr0 t11;have hBxz:=hBx;refine zn2 ?_;replace hb2:=hb2.tr0 (t9.trans (t10.trans t11));refine wl (qW U41 rfl rfl (hb2.sub (n:=2) (xs:=[_,_]) rfl) kZ) (zn1 ?_);refine qZ (cs:=#[_,_,_,_]) [(0,.agg _),(1,.agg _)] rfl U39 kZ Bw dE dE kR rfl (fun b54 w10 hb54 t12 hr=>?_);have:=nLL hb4.lt hr;replace hZ:=SameQ.trans hZ t12 (by simp);refine wl (KV (v0:= .slice _ _ _) (fun v0=>#[.string ⟨#[]⟩,v0]) rfl kR) (wl (x5 (v:= .bool _) rfl) ?_);replace hb4:=hb4.tr0 t12;refine zk hb4 rfl rfl kZ rfl zK (fun w11 hq t13=>?_);replace hZ:=SameQ.trans hZ t13 (by simp);replace hb4:=hq;refine zn6 ?_;refine ZK (.inl rfl) rfl (zw U41 rfl rfl hb4.range0 kZ) rfl ?_;have e1:(tyv Γ (.abs τ x)).isSome=(tyv (τ :: Γ) x).isSome:=by simp only [tyv,Option.isSome_map]
  replace hB:=(hB.tr0 (t10.trans (t11.trans t12))).tr1 t13 lo4;refine⟨⟨_,_,_,_,by rw [e1];rfl,fun σ hσ=>?_⟩,hB⟩;obtain⟨ρ,h5,rfl⟩:=Option.map_eq_some_iff.1 hσ;obtain⟨rfl,rfl,h6⟩:=h3 ρ h5;replace hb54:=hb54.tr1 t13 om;exact⟨rfl,rfl,sm2_two hb54 (hS.mono hB) (KQ hb4z hZ ρ (h6.mono hBxz))⟩
 obtain⟨x,y,rfl⟩:=tv_app c15 c19 c30;have hlx:Γ.length + (x.size + y.size + 1)≤1000:=hlen;have px:=x.pos;have py:=y.pos;obtain⟨tb,to,A0,c0,B0,m0,rfl,htb,htr0,ks0,kt0⟩:=hT.at_ (k:=0) (by simp [Tv.tm,Tm.args])
 change w.rangeAt tb (to + 0 * 6) [.int .i64 (x).tm.kind,.string (x).tm.name,.int .i64 (x).tm.index,.string (x).tm.type.base,.slice A0 (x).tm.type.args.length c0,.slice B0 (x).tm.args.length m0] at htr0
 change SimsIn w A0 (x).tm.type.args at ks0
 change TmsIn w B0 (x).tm.args at kt0
 obtain⟨_,_,A1,c1,B1,m1,e1,_,htr1,ks1,kt1⟩:=hT.at_ (k:=1) (by simp [Tv.tm,Tm.args]);cases e1
 change w.rangeAt tb (to + 1 * 6) [.int .i64 (y).tm.kind,.string (y).tm.name,.int .i64 (y).tm.index,.string (y).tm.type.base,.slice A1 (y).tm.type.args.length c1,.slice B1 (y).tm.args.length m1] at htr1
 change SimsIn w A1 (y).tm.type.args at ks1
 change TmsIn w B1 (y).tm.args at kt1
 refine zn7 ?_;refine wl (yJ (i:=0) U42 N9 rfl rfl (by show 0 < 2;decide) rfl) (wl (qW U44 rfl rfl (hB.range htb htr0) N9) (wl (x5 (v:= .slice _ _ _) rfl) ?_));refine zX fn81 (IH x (by simp only [Tv.size];omega) Γ A0 B0 C c0 m0 cc _ (ks0.mono hB) (kt0.mono hB) (hG.mono hB) hcc om hok.1) rfl (fun e' w12 hr=>?_);obtain⟨⟨s3,A3,n3,c3,rfl,h3⟩,t14⟩:=hr;replace t14:=sB t14;have hBx:Bel w12 w12:=Below.refl _ _;refine⟨_,rfl,?_⟩;refine wmT rfl (wl (yk (v:= .agg _) rfl rfl) (wl (yk (v:= .bool _) rfl rfl) ?_));refine yj (cs:=#[.string ⟨#[]⟩,.slice none 0 0]) Bw rfl (fun _=>rfl) (fun _=>rfl) kZ rfl zK (fun b9 w14 hb9 t15 hr=>?_);refine zn7 ?_;refine wl (yJ (i:=1) U42 N9 rfl rfl (by show 1 < 2;decide) rfl) ?_;replace hB:=hB.tr0 (t14.trans t15);refine wl (qW U44 rfl rfl (hB.range htb htr1) N9) (wl (x5 (v:= .slice _ _ _) rfl) ?_);refine zX fn81 (IH y (by simp only [Tv.size];omega) Γ A1 B1 C c1 m1 cc _ (ks1.mono hB) (kt1.mono hB) (hG.mono hB) hcc om hok.2) rfl (fun e' w15 hr=>?_);obtain⟨⟨s4,A4,n4,c4,rfl,h4⟩,t16⟩:=hr;replace t16:=sB t16;have hBy:Bel w15 w15:=Below.refl _ _;refine⟨_,rfl,?_⟩;refine wmT rfl (wl (yk (v:= .agg _) rfl rfl) (wl (yk (v:= .bool _) rfl rfl) ?_));refine yj (cs:=#[.string ⟨#[]⟩,.slice none 0 0]) Bw rfl (fun _=>rfl) (fun _=>rfl) kZ rfl zK (fun b11 w17 hb11 t17 hr=>?_);refine zn5 ?_;replace hb4:=hb4.tr0 (t14.trans (t15.trans (t16.trans t17)));replace hB:=hB.tr0 (t16.trans t17);rcases Bool.eq_false_or_eq_true ((tyv Γ x).isSome) with hk1 | hk1
 ·refine zQ 10 _ (congrArg Value.bool hk1) nu ?_;rcases Bool.eq_false_or_eq_true ((tyv Γ y).isSome) with hk2 | hk2
  ·refine zQ 12 _ (congrArg Value.bool hk2) nu ?_;by_cases q2:n3=2
   ·obtain⟨σ,hσ⟩:=Option.isSome_iff_exists.1 hk1;obtain⟨ζ,hζ⟩:=Option.isSome_iff_exists.1 hk2;obtain⟨rfl,e3,hs3⟩:=h3 σ hσ;obtain⟨rfl,rfl,hs4⟩:=h4 ζ hζ;obtain⟨a,r,rfl⟩:=ts_two (e3.symm.trans q2);subst q2;obtain⟨ub,uo,A5,c5,rfl,hub,hur,hus⟩:=hs3.at_ (k:=0) (by simp [Ts.sm,Sm.args]);obtain⟨_,_,A6,c6,e6,_,hur2,hus2⟩:=hs3.at_ (k:=1) (by simp [Ts.sm,Sm.args]);cases e6
    change SimsIn _ A5 a.sm.args at hus
    change SimsIn _ A6 r.sm.args at hus2
    change World.rangeAt _ ub (uo + 0 * 2) [.string a.sm.base,.slice A5 a.sm.args.length c5] at hur
    change World.rangeAt _ ub (uo + 1 * 2) [.string r.sm.base,.slice A6 r.sm.args.length c6] at hur2
    refine uQ [] [0,1,2,3,4,5,6,7,8,9,10,11,12,13,14,15,16,17,18,19,20] rfl (fun w18 t18=>?_);refine jy ?_;refine hge 81 rfl rfl rfl (fun _ _=>r_neq rfl rfl) (congrArg Value.bool (decide_eq_false om)) (zn4 ?_);refine hg 87 rfl rfl rfl (fun _ _=>yJ (i:=0) U39 kZ rfl rfl dE rfl) ?_;replace hBx:=hBx.tr0 (t15.trans (t16.trans (t17.trans t18)));refine hgS 87 rfl rfl rfl U41 rfl rfl (hBx.range hub hur) kZ (zn1 ?_);refine h1 rfl (zn1 ?_);replace hBy:=hBy.tr0 (t17.trans t18);refine zX fn88 (samE_any A5 A4 c5 c4 a ζ w18 (hus.mono hBx) (hs4.mono hBy)) rfl (fun e' w19 hr=>?_);obtain⟨rfl,t19⟩:=hr;replace t19:=sB t19;have hsH18:=t19;refine⟨_,rfl,?_⟩;refine zW (Px hsH18 (zn4 ?_));replace hB:=hB.tr0 (t18.trans t19);replace hb4:=hb4.tr0 (t18.trans t19);refine kv rfl (fun c95=>?_) (fun c95=>?_)
    ·have hnone:tyv Γ (.app x y)=none:=app_no4 hσ hζ (by simpa using c95);refine zn2 ?_;refine wl (uJ (vs:=#[]) (cs:=#[.string ⟨#[]⟩,.slice none 0 0]) (by simp) kR) ?_;refine zk hb4 rfl rfl kZ rfl zK (fun w20 hq t20=>?_);replace hb4:=hq;refine zn5 ?_;refine ZK (.inl rfl) rfl (zw U41 rfl rfl hb4.range0 kZ) rfl ?_;replace hB:=hB.tr1 t20 lo4;exact⟨⟨_,_,_,_,(by rw [hnone];rfl),fun σ e=>by rw [hnone] at e;cases e⟩,hB⟩
    have hsome:tyv Γ (.app x y)=some r:=app_yes hσ hζ (by simpa using c95);refine zn3 ?_;have hZ:SameQ [b4] w19 w19:=Same.refl _ _;have hb4z:=hb4;replace hBx:=hBx.tr0 t19;have hBxz:=hBx;refine zn3 ?_;refine wl (yJ (i:=1) U39 kZ rfl rfl dE rfl) (wl (qW U41 rfl rfl (hBxz.range hub hur2) kZ) ?_);refine zk hb4 rfl rfl kZ rfl zK (fun w21 hq t21=>?_);replace hZ:=SameQ.trans hZ t21 (by simp);replace hb4:=hq;refine zn4 ?_;refine ZK (.inl rfl) rfl (zw U41 rfl rfl hb4.range0 kZ) rfl ?_;replace hB:=hB.tr1 t21 lo4;exact⟨⟨_,_,_,_,(by rw [hsome];rfl),fun σ e=>by rw [hsome] at e;obtain rfl:=Option.some.inj e;exact⟨rfl,rfl,KQ hb4z hZ r (hus2.mono hBxz)⟩⟩,hB⟩
   obtain⟨σ,hσ⟩:=Option.isSome_iff_exists.1 hk1;obtain⟨ζ,hζ⟩:=Option.isSome_iff_exists.1 hk2;obtain⟨rfl,e3,hs3⟩:=h3 σ hσ;obtain⟨rfl,rfl,hs4⟩:=h4 ζ hζ;have hnone:tyv Γ (.app x y)=none:=app_no3 hσ (fun h=>q2 (e3.trans h));refine uQ [] [0,1,2,3,4,5,6,7,8,9,10,11,12,13,14,15,16,17,18,19,20] rfl (fun w22 t22=>?_);refine jy ?_;refine hge 81 rfl rfl rfl (fun _ _=>r_neq rfl rfl) (congrArg Value.bool (decide_eq_true om)) (Ow ?_);refine wl (uJ (vs:=#[]) (cs:=#[.string ⟨#[]⟩,.slice none 0 0]) (by simp) kR) ?_;replace hb4:=hb4.tr0 t22;refine zk hb4 rfl rfl kZ rfl zK (fun w23 hq t23=>?_);replace hb4:=hq;refine zn5 ?_;refine ZK (.inl rfl) rfl (zw U41 rfl rfl hb4.range0 kZ) rfl ?_;replace hB:=(hB.tr0 t22).tr1 t23 lo4;exact⟨⟨_,_,_,_,(by rw [hnone];rfl),fun σ e=>by rw [hnone] at e;cases e⟩,hB⟩
  refine zQ 12 _ (congrArg Value.bool hk2) nu ?_;have hnone:tyv Γ (.app x y)=none:=app_no2 hk2;refine uQ [] [0,1,2,3,4,5,6,7,8,9,10,11,12,13,14,15,16,17,18,19,20] rfl (fun w24 t24=>?_);refine zn26 ?_;refine wl (uJ (vs:=#[]) (cs:=#[.string ⟨#[]⟩,.slice none 0 0]) (by simp) kR) ?_;replace hb4:=hb4.tr0 t24;refine zk hb4 rfl rfl kZ rfl zK (fun w25 hq t25=>?_);replace hb4:=hq;refine zn5 ?_;refine ZK (.inl rfl) rfl (zw U41 rfl rfl hb4.range0 kZ) rfl ?_;replace hB:=(hB.tr0 t24).tr1 t25 lo4;exact⟨⟨_,_,_,_,(by rw [hnone];rfl),fun σ e=>by rw [hnone] at e;cases e⟩,hB⟩
 refine zQ 10 _ (congrArg Value.bool hk1) nu ?_;have hnone:tyv Γ (.app x y)=none:=app_no1 hk1;refine uQ [] [0,1,2,3,4,5,6,7,8,9,10,11,12,13,14,15,16,17,18,19,20] rfl (fun w26 t26=>?_);refine zn26 ?_;refine wl (uJ (vs:=#[]) (cs:=#[.string ⟨#[]⟩,.slice none 0 0]) (by simp) kR) ?_;replace hb4:=hb4.tr0 t26;refine zk hb4 rfl rfl kZ rfl zK (fun w27 hq t27=>?_);replace hb4:=hq;refine zn5 ?_;refine ZK (.inl rfl) rfl (zw U41 rfl rfl hb4.range0 kZ) rfl ?_;replace hB:=(hB.tr0 t26).tr1 t27 lo4;exact⟨⟨_,_,_,_,(by rw [hnone];rfl),fun σ e=>by rw [hnone] at e;cases e⟩,hB⟩
theorem Gx:∀ (k:Nat) (v:Tv),v.size < k→∀ (Γ:List Ts) (A B C:Option Addr) (c m cc:Nat) (w:World),SimsIn w A (Tv.tm (v)).type.args→TmsIn w B (Tv.tm (v)).args→CtxIn w C Γ→List.length Γ≤cc→List.length Γ + (v).size≤1000→Tv.ok (List.length Γ) (v)→Calls Tryd.prog 81 #[.agg #[.int .i64 (Tv.tm (v)).kind,.string (Tv.tm (v)).name,.int .i64 (Tv.tm (v)).index,.string (Tv.tm (v)).type.base,.slice A (Tv.tm (v)).type.args.length c,.slice B (Tv.tm (v)).args.length m],.slice C (List.length Γ) cc] w fun e w'=>(∃ (s:ByteArray) (A':Option Addr) (n c':Nat),e= .returned (.tuple #[.agg #[.string s,.slice A' n c'],.bool (tyv (Γ) (v)).isSome])∧∀ τ,tyv (Γ) (v)=some τ→s=τ.sm.base∧n=τ.sm.args.length∧SimsIn w' A' τ.sm.args)∧Bel w w':=by
  intro k
  induction k with
  | zero=>intro v h;omega
  | succ k ih=>exact fun v h Γ A B C c m cc w h1 h2 h3 h4 h5 h6=>RW h1 h2 h3 h4 h5 h6 (fun x hx=>ih x om)
end Go.Proofs.YtdgnllfbooklcaaDoor
namespace Go.Proofs.YtdgnllfbooklcaaDoor
open Go.RowKit
theorem sz143:(Tryd.prog.info? 143).map (·.size)=some 1:=by kernel_rfl
theorem ze143:(Tryd.prog.info? 143).map (·.zero)=some (some (.nilFunc)):=by kernel_rfl
set_option maxHeartbeats 1000000 in
theorem BV (A B:Option Addr) (c m:Nat) (t:Tm) (w:World) (hS:SimsIn w A t.type.args) (hT:TmsIn w B t.args):Calls Tryd.prog 66 #[.agg #[.int .i64 (t).kind,.string (t).name,.int .i64 (t).index,.string (t).type.base,.slice A (t).type.args.length c,.slice B (t).args.length m]] w fun e w'=>e= .returned (flV (tmF t))∧Bel w w':=by
 refine enter Tryd.func66 Tryd.ntmps66 rfl (Nat.le_of_ble_eq_true rfl) ?_;have hB:Bel w w:=Below.refl _ _;refine zn2 ?_;refine xz (v:= .agg #[_,_,_,_,_,_]) (cs:=#[_,_,_,_,_,_]) rfl rfl (fun b1 w1 hb1 t1 hr=>?_);refine qw (cs:=#[.int .i64 0,.int .i64 0]) zY rfl (fun b2 w2 hb2 t2 hr=>?_);have:=nLL hb1.lt hr;replace hB:=hB.tr0 t1;have lo2:=nLT (Bel.size hB) hr;refine zn4 ?_;refine qw (cs:=#[.int .i64 0]) gk rfl (fun b3 w3 hb3 t3 hr=>?_);replace hb1:=hb1.tr0 t2;have:=nLL hb1.lt hr;have:=nLL hb2.lt hr;replace hB:=hB.tr0 t2;have lo3:=nLT (Bel.size hB) hr;refine xZ (v:= .int _ _) hb3 rfl rfl xy (by first | decide | simp) rfl rfl (fun w4 hq t4=>?_);replace hb3:=hq;refine zn4 ?_;refine qw (cs:=#[.nilFunc]) ze143 rfl (fun b4 w5 hb4 t5 hr=>?_);replace hb1:=(hb1.tr0 t3).tr1 t4 om;have:=nLL hb1.lt hr;replace hb2:=(hb2.tr0 t3).tr1 t4 om;have:=nLL hb2.lt hr;have:=nLL hb3.lt hr;replace hB:=(hB.tr0 t3).tr1 t4 lo3;have lo4:=nLT (Bel.size hB) hr;refine zn4 ?_;refine wl (Fw rfl) ?_;refine xZ (v:= .func _ _ _) hb4 rfl rfl sz143 (by first | decide | simp) rfl rfl (fun w6 hq t6=>?_);replace hb4:=hq;refine zn7 ?_;replace hB:=(hB.tr0 t5).tr1 t6 lo4;replace hb3:=(hb3.tr0 t5).tr1 t6 om;refine xv rfl fn77 (twk_any (w0:=w) (bN:=b3) (bV:=b4) lo3 lo4 om t A B c m 1 0 0 _ hS hT om om om hB hb3 hb4) rfl rfl (fun e' w7 hr=>?_);obtain⟨rfl,hC2,hb32⟩:=hr;replace hB:=hB.chG hC2 (fun g hg=>by rw [show g=b3 from hg];exact lo3);replace hb1:=(hb1.tr0 t5).tr1 t6 om;replace hb1:=hb1.chG hC2 (fun hx=>by have hx:b1=b3:=hx;omega);replace hb2:=(hb2.tr0 t5).tr1 t6 om;replace hb2:=hb2.chG hC2 (fun hx=>by have hx:b2=b3:=hx;omega);replace hb4:=hb4.chG hC2 (fun hx=>by have hx:b4=b3:=hx;omega);replace hb3:=hb32;refine⟨_,rfl,?_⟩;refine yj (cs:=#[.int .i64 0,.int .i64 0]) zY rfl (fun _=>rfl) (fun _=>rfl) zz rfl zK (fun b5 w9 hb5 t7 hr=>?_);refine zn9 ?_;replace hB:=hB.tr0 t7;replace hb2:=hb2.tr0 t7;refine zJ rfl (fun c14=>?_) (fun c14=>?_)
 ·have hF:=tmF_bad c14;refine zn3 ?_;refine zk hb2 rfl rfl zz rfl zK (fun w10 hq t8=>?_);replace hb2:=hq;refine zn4 ?_;refine xX (.inl rfl) rfl (zw U36 rfl rfl hb2.range0 zz) ?_;replace hB:=hB.tr1 t8 lo2;exact⟨by rw [hF];rfl,hB⟩
 have c14:(twk t 1 0 0).2.1=0:=Classical.not_not.1 c14;obtain⟨v,rfl,hok,_,hv2⟩:=F1 t 1 0 0 c14;have hF:=tmF_ok c14;refine zn6 ?_;refine zX fn81 (Gx _ v (Nat.lt_succ_self _) [] A B none c m 0 _ (hS.mono hB) (hT.mono hB) (CtxIn.nil _) (Nat.le_refl _) (by simp only [List.length_nil];omega) hok) rfl (fun e' w11 hr=>?_);obtain⟨⟨s3,A3,n3,c3,rfl,_⟩,t9⟩:=hr;replace t9:=sB t9;refine⟨_,rfl,?_⟩;refine wmT rfl (wl (yk (v:= .agg _) rfl rfl) (wl (yk (v:= .bool _) rfl rfl) ?_));refine yj (cs:=#[.string ⟨#[]⟩,.slice none 0 0]) Bw rfl (fun _=>rfl) (fun _=>rfl) kZ rfl zK (fun b6 w13 hb6 t10 hr=>?_);refine zn9 ?_;replace hB:=hB.tr0 (t9.trans t10);replace hb2:=hb2.tr0 (t9.trans t10);refine kv rfl (fun c22=>?_) (fun c22=>?_)
 ·rw [if_neg (by simpa using c22)] at hF;refine zn2 ?_;refine wl (Z9 (v0:= .int _ _) (v1:= .int _ _) (fun v0 v1=>#[v0,v1]) rfl rfl kR) ?_;refine zk hb2 rfl rfl zz rfl zK (fun w14 hq t11=>?_);replace hb2:=hq;refine zn4 ?_;refine xX (.inl rfl) rfl (zw U36 rfl rfl hb2.range0 zz) ?_;replace hB:=hB.tr1 t11 lo2;exact⟨by rw [hF];rfl,hB⟩
 rw [if_pos (by simpa using c22)] at hF;refine zn4 ?_;refine wl (uJ (vs:=#[]) (cs:=#[.int .i64 0,.int .i64 0]) (by simp) kR) ?_;refine zk hb2 rfl rfl zz rfl zK (fun w15 hq t12=>?_);replace hb2:=hq;refine zn3 ?_;refine xX (.inl rfl) rfl (zw U36 rfl rfl hb2.range0 zz) ?_;replace hB:=hB.tr1 t12 lo2;exact⟨by rw [hF];rfl,hB⟩
end Go.Proofs.YtdgnllfbooklcaaDoor
