/- What these functions of the program compute, at every world: glosswright/term.Validate$1$1, glosswright/term.Validate$1. What these functions of the program compute, at every world: glosswright/glosswrightref1.rows. What these functions of the program compute, at every world: glosswright/glosswrightref1.binder. -/
import Derived.Test.YtbcpgfnfiekbiaaGreatDoorU
import Derived.Test.YtbcpgfnfiekbiaaGreatDoorTrm
import Derived.Test.YtbcpgfnfiekbiaaGreatDoorNSv
import Derived.Test.YtbcpgfnfiekbiaaGreatDoorRws
import Derived.Test.YtbcpgfnfiekbiaaGreatDoorEng4
import Derived.Test.YtbcpgfnfiekbiaaGreatDoorStk
namespace Go.Proofs.YtbcpgfnfiekbiaaGreatDoor
open Go.RowKit
theorem twk_out {t:Tm} {d b n:Nat} (h:200 < n + 1∨40 < d):twk t d b n=(n + 1,(1,(n:Int))):=by rw [Xk,if_pos h]
theorem Zk {t:Tm} {d b n:Nat} {c:Int} (h:¬(200 < n + 1∨40 < d)) (hc:ndC b t=c) (h0:c≠0):twk t d b n=(n + 1,(c,(n:Int))):=by rw [Xk,if_neg h,if_neg (by rw [hc];exact h0),hc]
theorem twk_nil {t:Tm} {d b n:Nat} (h:¬(200 < n + 1∨40 < d)) (hc:ndC b t=0) (ha:t.args= []):twk t d b n=(n + 1,(0,0)):=by rw [Xk,if_neg h,if_pos hc,ha,Qx]
theorem twk_end (x:Tm) (d b n:Nat):Qx [x] d b n=twk x d b n:=by
  rw [Qx];by_cases h:(twk x d b n).2.1=0
  · rw [if_pos h,Qx,← twk_z h]
  · rw [if_neg h]
theorem twks_one {l:List Tm} (hl:l.length=1) (h0:0 < l.length) (d b n:Nat):Qx l d b n=twk (l[0]'h0) d b n:=by
  match l,hl with
  | [x],_=>exact twk_end x d b n
theorem twks_two {l:List Tm} (hl:l.length=2) (h0:0 < l.length) (h1:1 < l.length) (d b n:Nat):Qx l d b n=if (twk (l[0]'h0) d b n).2.1=0 then twk (l[1]'h1) d b (twk (l[0]'h0) d b n).1 else twk (l[0]'h0) d b n:=by
  match l,hl with
  | [x,y],_=>rw [Qx,twk_end];rfl
theorem twk_one {t:Tm} {d b b' n:Nat} (h:¬(200 < n + 1∨40 < d)) (hc:ndC b t=0) (hi:inB t b=b') (hl:t.args.length=1) (h0:0 < t.args.length):twk t d b n=twk (t.args[0]'h0) (d + 1) b' (n + 1):=by
  rw [Xk,if_neg h,if_pos hc,hi,twks_one hl h0]
theorem twk_two {t:Tm} {d b b' n:Nat} (h:¬(200 < n + 1∨40 < d)) (hc:ndC b t=0) (hi:inB t b=b') (hl:t.args.length=2) (h0:0 < t.args.length) (h1:1 < t.args.length):twk t d b n=if (twk (t.args[0]'h0) (d + 1) b' (n + 1)).2.1=0 then twk (t.args[1]'h1) (d + 1) b' (twk (t.args[0]'h0) (d + 1) b' (n + 1)).1 else twk (t.args[0]'h0) (d + 1) b' (n + 1):=by
  rw [Xk,if_neg h,if_pos hc,hi,twks_two hl h0 h1]
theorem fn107:zZ Tryz.prog 107=true:=by kernel_rfl
theorem J9:zZ Tryz.prog 108=true:=by kernel_rfl
theorem fn109:zZ Tryz.prog 109=true:=by kernel_rfl
theorem fn110:zZ Tryz.prog 110=true:=by kernel_rfl
theorem FY:zZ Tryz.prog 44=true:=by kernel_rfl
theorem sz42:(Tryz.prog.info? 42).map (·.size)=some 1:=by kernel_rfl
theorem Yy:(Tryz.prog.info? 44).map (·.size)=some 6:=by kernel_rfl
theorem uV (b9:Nat) (cd n:Int) (w:World) (hb9:Blk w b9 3 #[.int .i64 n]):Calls Tryz.prog 108 #[.int .i64 cd,.pointer (some ⟨b9,0,none⟩)] w fun e w'=>e= .returned (flV (cd,n))∧Bel w w':=by
 refine enT Tryz.func108 Tryz.ntmps108 rfl rfl fun hB=>?_;refine zn2 ?_;refine zY (cs:=#[.int .i64 0,.int .i64 0]) qk rfl (fun b3 w1 hb3 s1 hr=>?_);have lo3:=nLT (Bel.size hB) hr;refine zn6 ?_;refine wl (yv (v0:= .int _ _) (v1:= .int _ _) (fun v0 v1=>#[v0,v1]) rfl rfl kR) ?_;refine zj hb3 rfl rfl z4 rfl zX (fun w2 hq s2=>?_);replace hb3:=hq;refine zn3 ?_;refine x8 (.inl rfl) rfl (zk U36 rfl rfl hb3.range0 z4) ?_;exact⟨rfl,hB.u⟩
set_option maxRecDepth 100000 in
set_option maxHeartbeats 8000000 in
theorem twk_step {w0:World} {bN bV:Nat} (l0N:w0.heap.size≤bN) (_l0V:w0.heap.size≤bV) (nVN:bV≠bN) {t:Tm} {A B:Option Addr} {c m d b n:Nat} {w:World} (hS:SimsIn w0 A t.type.args) (hT:TmsIn w0 B t.args) (IH:∀ x ∈ t.args,∀ (A2 B2:Option Addr) (c2 m2 d2 b2 n2:Nat) (w2:World),SimsIn w0 A2 x.type.args→TmsIn w0 B2 x.args→n2≤200→d2≤41→b2≤d2→Bel w0 w2→Blk w2 bN 3 #[.int .i64 ((n2:Nat):Int)]→Blk w2 bV 167 #[.func (.func 107) #[] #[.pointer (some ⟨bN,0,none⟩),.pointer (some ⟨bV,0,none⟩)]]→Calls Tryz.prog 107 #[.agg #[.int .i64 (x).kind,.string (x).name,.int .i64 (x).index,.string (x).type.base,.slice A2 (x).type.args.length c2,.slice B2 (x).args.length m2],.int .i64 ((d2:Nat):Int),.int .i64 ((b2:Nat):Int),.pointer (some ⟨bN,0,none⟩),.pointer (some ⟨bV,0,none⟩)] w2 fun e w'=>e= .returned (flV (twk x d2 b2 n2).2)∧ChG (fun g=>g=bN) w2 w'∧Blk w' bN 3 #[.int .i64 (((twk x d2 b2 n2).1:Nat):Int)]) (hn:n≤200) (hd:d≤41) (hbd:b≤d) (hB:Bel w0 w) (hbN:Blk w bN 3 #[.int .i64 ((n:Nat):Int)]) (hbV:Blk w bV 167 #[.func (.func 107) #[] #[.pointer (some ⟨bN,0,none⟩),.pointer (some ⟨bV,0,none⟩)]]):Calls Tryz.prog 107 #[.agg #[.int .i64 (t).kind,.string (t).name,.int .i64 (t).index,.string (t).type.base,.slice A (t).type.args.length c,.slice B (t).args.length m],.int .i64 ((d:Nat):Int),.int .i64 ((b:Nat):Int),.pointer (some ⟨bN,0,none⟩),.pointer (some ⟨bV,0,none⟩)] w fun e w'=>e= .returned (flV (twk t d b n).2)∧ChG (fun g=>g=bN) w w'∧Blk w' bN 3 #[.int .i64 (((twk t d b n).1:Nat):Int)]:=by
 have hmx:=hT.le;unfold vQ at hmx;have ltN:=hbN.lt;have ltV:=hbV.lt;have hC:ChG (fun g=>g=bN) w w:=ChG.refl _ _;refine enter Tryz.func107 Tryz.ntmps107 rfl (Nat.le_of_ble_eq_true rfl) (zn2 ?_);refine qK (v:= .agg #[_,_,_,_,_,_]) (cs:=#[_,_,_,_,_,_]) rfl rfl (fun b5 w1 hb5 s1 hr=>?_);have:=nLL hbN.lt hr;replace hC:=hC.st s1 (by simp);refine zY (cs:=#[.int .i64 0,.int .i64 0]) qk rfl (fun b8 w2 hb8 s2 hr=>?_);have:=nLL hbN.u.lt hr;have:=nLL hbV.u.lt hr;have or_hC_b8:=(nLT hC.size hr)
 have:=nLL hb5.lt hr;replace hC:=hC.st s2 (by simp);refine zn5 ?_;refine zY (cs:=#[.int .i64 0]) uJ rfl (fun b9 w3 hb9 s3 hr=>?_);have:=nLL hbN.u.lt hr;have:=nLL hbV.u.lt hr;have or_hC_b9:=(nLT hC.size hr)
 have:=nLL hb5.u.lt hr;have:=nLL hb8.lt hr;have lo9:=nLT (Bel.size hB.u) hr;replace hC:=hC.st s3 (by simp);refine x9 (v:= .int _ _) hb9 rfl rfl qX (by first | decide | simp) rfl rfl (fun w4 hq s4=>?_);replace hC:=hC.st s4 (fun g hg=>by rw [List.mem_singleton.1 hg];first | exact .inl rfl | exact .inr or_hC_b9);replace hb9:=hq;refine zn6 ?_;replace hbN:=(hbN.tr0 (s1.trans (s2.trans s3))).tr1 s4 om;refine x9 (v:= .int _ _) hbN rfl rfl qX (by first | decide | simp) rfl rfl (fun w5 hq s5=>?_);replace hB:=hB.u.tr1 s5 l0N;replace hC:=hC.st s5 (fun g hg=>by rw [List.mem_singleton.1 hg];first | exact .inl rfl | exact .inr or_hC_bN);replace hbN:=hq;refine zn4 ?_;refine wl (r_mf rfl) (zn5 ?_);replace hb8:=((hb8.tr0 s3).tr1 s4 om).tr1 s5 om;replace hb9:=hb9.tr1 s5 om;refine x6 [16,17,18,19,20,21] 21 (.bool (decide (200 < n + 1∨40 < d))) nu ?_ (fun gq=>?_)
 ·refine zn4 ?_;refine zx 18 rfl (fun g18=>?_) (fun g18=>?_)
  ·refine zn3 ?_;refine zw (e_R ⟨rfl,agA,?_⟩);exact clA
  refine zn5 ?_;refine zw (e_R ⟨rfl,agA,?_⟩);exact clA
 refine e_S ?_;refine zy rfl (fun c21=>?_) (fun c21=>?_)
 ·refine zn3 ?_;refine xX rfl J9 (uV b9 _ _ _ hb9) rfl rfl (fun e' w6 hr=>?_);obtain⟨rfl,s6⟩:=hr;replace s6:=sB s6;replace hC:=hC.st s6 (by simp);refine⟨_,rfl,?_⟩;refine zj hb8.u rfl rfl z4 rfl zX (fun w7 hq s7=>?_);replace hC:=hC.st s7 (fun g hg=>by rw [List.mem_singleton.1 hg];first | exact .inl rfl | exact .inr or_hC_b8);replace hb8:=hq;refine zn4 ?_;refine x8 (.inl rfl) rfl (zk U36 rfl rfl hb8.range0 z4) ?_;rw [twk_out c21];exact⟨rfl,hC,hbN.u⟩
 refine IK ?_;refine zy rfl (fun c28=>?_) (fun c28=>?_)
 ·refine xv (xv ?_);refine x6 (rg [] 30 9) 38 (.bool (decide (¬(t.index=0∧t.args.length=0)))) nu ?_ (fun gq=>?_)
  ·refine zn5 ?_;refine zx 33 rfl (fun g33=>?_) (fun g33=>?_)
   ·refine zn5 ?_;refine zw (e_R ⟨rfl,agA,?_⟩);show Value.bool _=Value.bool _
    first | exact congrArg Value.bool (decide_eq_true (by exact fun h=>g33 h.1)).symm | exact congrArg Value.bool (decide_eq_decide.2 (by exact⟨fun k h=>k (by have:=h.2;omega),fun k e=>k ⟨Classical.not_not.1 g33,by omega⟩⟩))
   refine zn9 ?_;refine zw (e_R ⟨rfl,agA,?_⟩);show Value.bool _=Value.bool _
   first | exact congrArg Value.bool (decide_eq_true (by exact fun h=>g33 h.1)).symm | exact congrArg Value.bool (decide_eq_decide.2 (by exact⟨fun k h=>k (by have:=h.2;omega),fun k e=>k ⟨Classical.not_not.1 g33,by omega⟩⟩))
  refine e_S ?_;refine zy rfl (fun c38=>?_) (fun c38=>?_)
  ·have hcd:ndC b t=5:=by unfold ndC;rw [if_pos c28,if_neg c38]
   refine zn3 ?_;refine xX rfl J9 (uV b9 _ _ _ hb9) rfl rfl (fun e' w8 hr=>?_);obtain⟨rfl,s8⟩:=hr;replace s8:=sB s8;replace hC:=hC.st s8 (by simp);refine⟨_,rfl,?_⟩;refine zj hb8.u rfl rfl z4 rfl zX (fun w9 hq s9=>?_);replace hC:=hC.st s9 (fun g hg=>by rw [List.mem_singleton.1 hg];first | exact .inl rfl | exact .inr or_hC_b8);replace hb8:=hq;refine zn6 ?_;refine x8 (.inl rfl) rfl (zk U36 rfl rfl hb8.range0 z4) ?_;rw [Zk c21 (show ndC b t=5 from hcd) dE];exact⟨rfl,hC,hbN.u⟩
  have c38:=Classical.not_not.1 c38;refine zn7 ?_;refine zJ FY (I9 _ _) rfl (fun e' w10 hr=>?_);obtain⟨rfl,rfl⟩:=hr;refine⟨_,rfl,?_⟩;refine zn3 ?_;refine vw rfl (fun c44=>?_) (fun c44=>?_)
  ·have hcd:ndC b t=10:=by unfold ndC;rw [if_pos c28,if_pos c38,if_neg (by simpa using c44)]
   refine zn3 ?_;refine xX rfl J9 (uV b9 _ _ _ hb9) rfl rfl (fun e' w11 hr=>?_);obtain⟨rfl,s10⟩:=hr;replace s10:=sB s10;replace hC:=hC.st s10 (by simp);refine⟨_,rfl,?_⟩;refine zj hb8.u rfl rfl z4 rfl zX (fun w12 hq s11=>?_);replace hC:=hC.st s11 (fun g hg=>by rw [List.mem_singleton.1 hg];first | exact .inl rfl | exact .inr or_hC_b8);replace hb8:=hq;refine zn6 ?_;refine x8 (.inl rfl) rfl (zk U36 rfl rfl hb8.range0 z4) ?_;rw [Zk c21 (show ndC b t=10 from hcd) dE];exact⟨rfl,hC,hbN.u⟩
  have c44:xK t.name=true:=by simpa using c44
  refine zn5 ?_;refine wl (zV U41 rfl rfl (hb5.u.sub (n:=2) (xs:=[_,_]) rfl) xJ) ?_;refine zJ fn109 (R5 A c t.type _ (hS.mono hB)) rfl (fun e' w13 hr=>?_);obtain⟨rfl,s12⟩:=hr;replace s12:=sB s12;replace hC:=hC.st s12 (by simp);refine⟨_,rfl,?_⟩;refine wl (Dk (v:= .int _ _) U36 rfl U3 rfl rfl rfl) (zn3 ?_);refine zy rfl (fun c51=>?_) (fun c51=>?_)
  ·have hcd:ndC b t=12:=by unfold ndC;rw [if_pos c28,if_pos c38,if_pos c44,if_neg c51]
   refine zn3 ?_;refine xX rfl J9 (uV b9 _ _ _ hb9.u) rfl rfl (fun e' w14 hr=>?_);obtain⟨rfl,s13⟩:=hr;replace s13:=sB s13;replace hC:=hC.st s13 (by simp);refine⟨_,rfl,?_⟩;refine zj hb8.u rfl rfl z4 rfl zX (fun w15 hq s14=>?_);replace hC:=hC.st s14 (fun g hg=>by rw [List.mem_singleton.1 hg];first | exact .inl rfl | exact .inr or_hC_b8);replace hb8:=hq;refine zn5 ?_;refine x8 (.inl rfl) rfl (zk U36 rfl rfl hb8.range0 z4) ?_;rw [Zk c21 (show ndC b t=12 from hcd) dE];exact⟨rfl,hC,hbN.u⟩
  have c51:=Classical.not_not.1 c51;have hcd:ndC b t=0:=by unfold ndC;rw [if_pos c28,if_pos c38,if_pos c44,if_pos c51]
  have hl0:t.args= []:=List.length_eq_zero_iff.1 c38.2;refine zn5 ?_;refine wl (uv (vs:=#[]) (cs:=#[.int .i64 0,.int .i64 0]) (by simp) kR) ?_;refine zj hb8.u rfl rfl z4 rfl zX (fun w16 hq s15=>?_);replace hC:=hC.st s15 (fun g hg=>by rw [List.mem_singleton.1 hg];first | exact .inl rfl | exact .inr or_hC_b8);replace hb8:=hq;refine zn3 ?_;refine x8 (.inl rfl) rfl (zk U36 rfl rfl hb8.range0 z4) ?_;rw [twk_nil c21 hcd hl0];exact⟨rfl,hC,hbN.u⟩
 refine zn6 ?_;refine zy rfl (fun c54=>?_) (fun c54=>?_)
 ·refine xv (xv ?_);refine y7 (rg [] 56 15) (fun g w'=>(g 70= .bool (decide (¬(t.name=⟨#[]⟩∧J4 t.type∧t.args.length=0))))∧Same [] w5 w') ?_ (fun g16 w17 hI=>?_)
  ·have hZ:SameQ [] w5 w5:=Same.refl _ _;refine zn5 ?_;refine zx 59 rfl (fun g59=>?_) (fun g59=>?_)
   ·refine y8 ?_;refine e_R ⟨agA,?_⟩;refine⟨?_,hZ⟩
    first | exact congrArg Value.bool (decide_eq_true (by exact fun h=>g59 h.1)).symm | exact congrArg Value.bool (decide_eq_true (by exact fun h=>g65 h.2.1)).symm | exact congrArg Value.bool (decide_eq_decide.2 (by exact⟨fun k h=>k (by have:=h.2.2;omega),fun k e=>k ⟨Classical.not_not.1 g59,Classical.not_not.1 g65,by omega⟩⟩))
   refine zn3 ?_;refine wl (zV U41 rfl rfl (hb5.u.sub (n:=2) (xs:=[_,_]) rfl) xJ) (zn1 ?_);refine zJ fn110 (F5 A c t.type _) rfl (fun e' w18 hr=>?_);obtain⟨rfl,s16⟩:=hr;replace s16:=sB s16;replace hC:=hC.st s16 (by simp);replace hZ:=SameQ.trans hZ s16 (by simp);refine⟨_,rfl,?_⟩;refine zn4 ?_;refine zx 65 rfl (fun g65=>?_) (fun g65=>?_)
   ·refine zn6 ?_;refine e_R ⟨agA,?_⟩;refine⟨?_,hZ⟩
    first | exact congrArg Value.bool (decide_eq_true (by exact fun h=>g59 h.1)).symm | exact congrArg Value.bool (decide_eq_true (by exact fun h=>g65 h.2.1)).symm | exact congrArg Value.bool (decide_eq_decide.2 (by exact⟨fun k h=>k (by have:=h.2.2;omega),fun k e=>k ⟨Classical.not_not.1 g59,Classical.not_not.1 g65,by omega⟩⟩))
   refine yw ?_;refine e_R ⟨agA,?_⟩;refine⟨?_,hZ⟩
   first | exact congrArg Value.bool (decide_eq_true (by exact fun h=>g59 h.1)).symm | exact congrArg Value.bool (decide_eq_true (by exact fun h=>g65 h.2.1)).symm | exact congrArg Value.bool (decide_eq_decide.2 (by exact⟨fun k h=>k (by have:=h.2.2;omega),fun k e=>k ⟨Classical.not_not.1 g59,Classical.not_not.1 g65,by omega⟩⟩))
  obtain⟨h70,s17⟩:=hI;replace hC:=hC.st s17 (by simp);refine ky 70 _ h70 nu (e_S ?_);refine zy rfl (fun c70=>?_) (fun c70=>?_)
  ·have hcd:ndC b t=5:=by unfold ndC;rw [if_neg c28,if_pos c54,if_neg c70]
   refine zn3 ?_;refine xX rfl J9 (uV b9 _ _ _ hb9.u) rfl rfl (fun e' w19 hr=>?_);obtain⟨rfl,s18⟩:=hr;replace s18:=sB s18;replace hC:=hC.st s18 (by simp);refine⟨_,rfl,?_⟩;refine zj hb8.u rfl rfl z4 rfl zX (fun w20 hq s19=>?_);replace hC:=hC.st s19 (fun g hg=>by rw [List.mem_singleton.1 hg];first | exact .inl rfl | exact .inr or_hC_b8);replace hb8:=hq;refine zn6 ?_;refine x8 (.inl rfl) rfl (zk U36 rfl rfl hb8.range0 z4) ?_;rw [Zk c21 (show ndC b t=5 from hcd) dE];exact⟨rfl,hC,hbN.u⟩
  have c70:=Classical.not_not.1 c70;refine zn3 ?_;replace hbN:=hbN.tr0 s17;replace hb8:=hb8.tr0 s17;refine x6 (rg [] 73 9) 81 (.bool (decide (t.index < 0∨(b:Int)≤t.index))) nu ?_ (fun gq=>?_)
  ·refine zn5 ?_;refine zx 76 rfl (fun g76=>?_) (fun g76=>?_)
   ·refine zn5 ?_;refine zw (e_R ⟨rfl,agA,?_⟩);exact clA
   refine zn9 ?_;refine zw (e_R ⟨rfl,agA,?_⟩);exact clA
  refine e_S ?_;refine zy rfl (fun c81=>?_) (fun c81=>?_)
  ·have hcd:ndC b t=15:=by unfold ndC;rw [if_neg c28,if_pos c54,if_pos c70,if_pos c81]
   refine zn3 ?_;refine xX rfl J9 (uV b9 _ _ _ hb9.u) rfl rfl (fun e' w21 hr=>?_);obtain⟨rfl,s20⟩:=hr;replace s20:=sB s20;replace hC:=hC.st s20 (by simp);refine⟨_,rfl,?_⟩;refine zj hb8.u rfl rfl z4 rfl zX (fun w22 hq s21=>?_);replace hC:=hC.st s21 (fun g hg=>by rw [List.mem_singleton.1 hg];first | exact .inl rfl | exact .inr or_hC_b8);replace hb8:=hq;refine zn5 ?_;refine x8 (.inl rfl) rfl (zk U36 rfl rfl hb8.range0 z4) ?_;rw [Zk c21 (show ndC b t=15 from hcd) dE];exact⟨rfl,hC,hbN.u⟩
  have hcd:ndC b t=0:=by unfold ndC;rw [if_neg c28,if_pos c54,if_pos c70,if_neg c81]
  have hl0:t.args= []:=List.length_eq_zero_iff.1 c70.2.2;refine zn5 ?_;refine wl (uv (vs:=#[]) (cs:=#[.int .i64 0,.int .i64 0]) (by simp) kR) ?_;refine zj hb8 rfl rfl z4 rfl zX (fun w23 hq s22=>?_);replace hC:=hC.st s22 (fun g hg=>by rw [List.mem_singleton.1 hg];first | exact .inl rfl | exact .inr or_hC_b8);replace hb8:=hq;refine zn3 ?_;refine x8 (.inl rfl) rfl (zk U36 rfl rfl hb8.range0 z4) ?_;rw [twk_nil c21 hcd hl0];exact⟨rfl,hC,hbN.u⟩
 refine zn6 ?_;refine zy rfl (fun c84=>?_) (fun c84=>?_)
 ·refine xv (xv ?_);refine x6 (rg [] 86 14) 99 (.bool (decide (¬(t.name=⟨#[]⟩∧t.index=0∧t.args.length=1)))) nu ?_ (fun gq=>?_)
  ·refine zn5 ?_;refine zx 89 rfl (fun g89=>?_) (fun g89=>?_)
   ·refine yw ?_;refine zw (e_R ⟨rfl,agA,?_⟩);show Value.bool _=Value.bool _
    first | exact congrArg Value.bool (decide_eq_true (by exact fun h=>g89 h.1)).symm | exact congrArg Value.bool (decide_eq_true (by exact fun h=>g94 h.2.1)).symm | exact congrArg Value.bool (decide_eq_decide.2 (by exact⟨fun k h=>k (by have:=h.2.2;omega),fun k e=>k ⟨Classical.not_not.1 g89,Classical.not_not.1 g94,by omega⟩⟩))
   refine zn8 ?_;refine zx 94 rfl (fun g94=>?_) (fun g94=>?_)
   ·refine zn5 ?_;refine zw (e_R ⟨rfl,agA,?_⟩);show Value.bool _=Value.bool _
    first | exact congrArg Value.bool (decide_eq_true (by exact fun h=>g89 h.1)).symm | exact congrArg Value.bool (decide_eq_true (by exact fun h=>g94 h.2.1)).symm | exact congrArg Value.bool (decide_eq_decide.2 (by exact⟨fun k h=>k (by have:=h.2.2;omega),fun k e=>k ⟨Classical.not_not.1 g89,Classical.not_not.1 g94,by omega⟩⟩))
   refine zn9 ?_;refine zw (e_R ⟨rfl,agA,?_⟩);show Value.bool _=Value.bool _
   first | exact congrArg Value.bool (decide_eq_true (by exact fun h=>g89 h.1)).symm | exact congrArg Value.bool (decide_eq_true (by exact fun h=>g94 h.2.1)).symm | exact congrArg Value.bool (decide_eq_decide.2 (by exact⟨fun k h=>k (by have:=h.2.2;omega),fun k e=>k ⟨Classical.not_not.1 g89,Classical.not_not.1 g94,by omega⟩⟩))
  refine e_S ?_;refine zy rfl (fun c99=>?_) (fun c99=>?_)
  ·have hcd:ndC b t=5:=by unfold ndC;rw [if_neg c28,if_neg c54,if_pos c84,if_neg c99]
   refine zn3 ?_;refine xX rfl J9 (uV b9 _ _ _ hb9) rfl rfl (fun e' w24 hr=>?_);obtain⟨rfl,s23⟩:=hr;replace s23:=sB s23;replace hC:=hC.st s23 (by simp);refine⟨_,rfl,?_⟩;refine zj hb8.u rfl rfl z4 rfl zX (fun w25 hq s24=>?_);replace hC:=hC.st s24 (fun g hg=>by rw [List.mem_singleton.1 hg];first | exact .inl rfl | exact .inr or_hC_b8);replace hb8:=hq;refine zn6 ?_;refine x8 (.inl rfl) rfl (zk U36 rfl rfl hb8.range0 z4) ?_;rw [Zk c21 (show ndC b t=5 from hcd) dE];exact⟨rfl,hC,hbN.u⟩
  have c99:=Classical.not_not.1 c99;have h0l:0 < t.args.length:=by omega
  refine zn6 ?_;refine wl (zV U41 rfl rfl (hb5.u.sub (n:=2) (xs:=[_,_]) rfl) xJ) ?_;refine zJ fn109 (R5 A c t.type _ (hS.mono hB)) rfl (fun e' w26 hr=>?_);obtain⟨rfl,s25⟩:=hr;replace s25:=sB s25;replace hC:=hC.st s25 (by simp);refine⟨_,rfl,?_⟩;refine wl (Dk (v:= .int _ _) U36 rfl U3 rfl rfl rfl) (zn3 ?_);refine zy rfl (fun c106=>?_) (fun c106=>?_)
  ·have hcd:ndC b t=12:=by unfold ndC;rw [if_neg c28,if_neg c54,if_pos c84,if_pos c99,if_neg c106]
   refine zn3 ?_;refine xX rfl J9 (uV b9 _ _ _ hb9.u) rfl rfl (fun e' w27 hr=>?_);obtain⟨rfl,s26⟩:=hr;replace s26:=sB s26;replace hC:=hC.st s26 (by simp);refine⟨_,rfl,?_⟩;refine zj hb8.u rfl rfl z4 rfl zX (fun w28 hq s27=>?_);replace hC:=hC.st s27 (fun g hg=>by rw [List.mem_singleton.1 hg];first | exact .inl rfl | exact .inr or_hC_b8);replace hb8:=hq;refine zn6 ?_;refine x8 (.inl rfl) rfl (zk U36 rfl rfl hb8.range0 z4) ?_;rw [Zk c21 (show ndC b t=12 from hcd) dE];exact⟨rfl,hC,hbN.u⟩
  have c106:=Classical.not_not.1 c106;have hcd:ndC b t=0:=by unfold ndC;rw [if_neg c28,if_neg c54,if_pos c84,if_pos c99,if_pos c106]
  obtain⟨tb,to,A0,c0,B0,m0,rfl,htb,htr,ks0,kt0⟩:=hT.at_ h0l;have hgo:=twk_one c21 hcd (by rw [inB,if_pos c84]:inB t b=b + 1) c99.2.2 h0l;refine zn3 ?_;refine QJ 9 kR kR (fun w29 s28=>?_);replace hC:=hC.st s28 (by simp);refine zn3 ?_;refine ws (xw (i:=0) U42 Yy rfl rfl h0l rfl) (zn5 ?_);refine Qk ?_;refine xX rfl fn107 (IH (t.args[0]'h0l) (List.getElem_mem h0l) A0 B0 c0 m0 (d + 1) (b + 1) (n + 1) _ ks0 kt0 om om om hB.u hbN.u hbV.u) rfl rfl (fun e' w30 hr=>?_);obtain⟨rfl,hC2,hbN2⟩:=hr;replace hC:=hC.trans hC2 (fun g hg=> .inl hg);replace hb8:=hb8.tr0 (s25.trans s28);replace hb8:=hb8.chG hC2 (fun hx=>by have hx:b8=bN:=hx;omega);replace hbN:=hbN2;refine⟨_,rfl,?_⟩;refine zj hb8 rfl rfl z4 rfl zX (fun w31 hq s29=>?_);replace hC:=hC.st s29 (fun g hg=>by rw [List.mem_singleton.1 hg];first | exact .inl rfl | exact .inr or_hC_b8);replace hb8:=hq;refine zn5 ?_;refine x8 (.inl rfl) rfl (zk U36 rfl rfl hb8.range0 z4) ?_;rw [hgo];exact⟨rfl,hC,hbN.u⟩
 refine zn6 ?_;refine zy rfl (fun c119=>?_) (fun c119=>?_)
 ·refine xv (xv ?_);refine y7 (rg [] 121 20) (fun g w'=>(g 140= .bool (decide (¬(t.name=⟨#[]⟩∧t.index=0∧J4 t.type∧t.args.length=2))))∧Same [] w5 w') ?_ (fun g27 w32 hI=>?_)
  ·have hZ:SameQ [] w5 w5:=Same.refl _ _;refine zn5 ?_;refine zx 124 rfl (fun g124=>?_) (fun g124=>?_)
   ·refine N9 ?_;refine e_R ⟨agA,?_⟩;refine⟨?_,hZ⟩
    first | exact congrArg Value.bool (decide_eq_true (by exact fun h=>g124 h.1)).symm | exact congrArg Value.bool (decide_eq_true (by exact fun h=>g129 h.2.1)).symm | exact congrArg Value.bool (decide_eq_true (by exact fun h=>g135 h.2.2.1)).symm | exact congrArg Value.bool (decide_eq_decide.2 (by exact⟨fun k h=>k (by have:=h.2.2.2;omega),fun k e=>k ⟨Classical.not_not.1 g124,Classical.not_not.1 g129,Classical.not_not.1 g135,by omega⟩⟩))
   refine zn8 ?_;refine zx 129 rfl (fun g129=>?_) (fun g129=>?_)
   ·refine y8 ?_;refine e_R ⟨agA,?_⟩;refine⟨?_,hZ⟩
    first | exact congrArg Value.bool (decide_eq_true (by exact fun h=>g124 h.1)).symm | exact congrArg Value.bool (decide_eq_true (by exact fun h=>g129 h.2.1)).symm | exact congrArg Value.bool (decide_eq_true (by exact fun h=>g135 h.2.2.1)).symm | exact congrArg Value.bool (decide_eq_decide.2 (by exact⟨fun k h=>k (by have:=h.2.2.2;omega),fun k e=>k ⟨Classical.not_not.1 g124,Classical.not_not.1 g129,Classical.not_not.1 g135,by omega⟩⟩))
   refine zn3 ?_;refine wl (zV U41 rfl rfl (hb5.u.sub (n:=2) (xs:=[_,_]) rfl) xJ) (zn1 ?_);refine zJ fn110 (F5 A c t.type _) rfl (fun e' w33 hr=>?_);obtain⟨rfl,s30⟩:=hr;replace s30:=sB s30;replace hC:=hC.st s30 (by simp);replace hZ:=SameQ.trans hZ s30 (by simp);refine⟨_,rfl,?_⟩;refine zn4 ?_;refine zx 135 rfl (fun g135=>?_) (fun g135=>?_)
   ·refine zn6 ?_;refine e_R ⟨agA,?_⟩;refine⟨?_,hZ⟩
    first | exact congrArg Value.bool (decide_eq_true (by exact fun h=>g124 h.1)).symm | exact congrArg Value.bool (decide_eq_true (by exact fun h=>g129 h.2.1)).symm | exact congrArg Value.bool (decide_eq_true (by exact fun h=>g135 h.2.2.1)).symm | exact congrArg Value.bool (decide_eq_decide.2 (by exact⟨fun k h=>k (by have:=h.2.2.2;omega),fun k e=>k ⟨Classical.not_not.1 g124,Classical.not_not.1 g129,Classical.not_not.1 g135,by omega⟩⟩))
   refine yw ?_;refine e_R ⟨agA,?_⟩;refine⟨?_,hZ⟩
   first | exact congrArg Value.bool (decide_eq_true (by exact fun h=>g124 h.1)).symm | exact congrArg Value.bool (decide_eq_true (by exact fun h=>g129 h.2.1)).symm | exact congrArg Value.bool (decide_eq_true (by exact fun h=>g135 h.2.2.1)).symm | exact congrArg Value.bool (decide_eq_decide.2 (by exact⟨fun k h=>k (by have:=h.2.2.2;omega),fun k e=>k ⟨Classical.not_not.1 g124,Classical.not_not.1 g129,Classical.not_not.1 g135,by omega⟩⟩))
  obtain⟨h140,s31⟩:=hI;replace hC:=hC.st s31 (by simp);refine ky 140 _ h140 nu (e_S ?_);refine zy rfl (fun c140=>?_) (fun c140=>?_)
  ·have hcd:ndC b t=5:=by unfold ndC;rw [if_neg c28,if_neg c54,if_neg c84,if_pos c119,if_neg c140]
   refine zn3 ?_;refine xX rfl J9 (uV b9 _ _ _ hb9.u) rfl rfl (fun e' w34 hr=>?_);obtain⟨rfl,s32⟩:=hr;replace s32:=sB s32;replace hC:=hC.st s32 (by simp);refine⟨_,rfl,?_⟩;refine zj hb8.u rfl rfl z4 rfl zX (fun w35 hq s33=>?_);replace hC:=hC.st s33 (fun g hg=>by rw [List.mem_singleton.1 hg];first | exact .inl rfl | exact .inr or_hC_b8);replace hb8:=hq;refine zn6 ?_;refine x8 (.inl rfl) rfl (zk U36 rfl rfl hb8.range0 z4) ?_;rw [Zk c21 (show ndC b t=5 from hcd) dE];exact⟨rfl,hC,hbN.u⟩
  have c140:=Classical.not_not.1 c140;have h0l:0 < t.args.length:=by omega
  have h1l:1 < t.args.length:=by omega
  have hcd:ndC b t=0:=by unfold ndC;rw [if_neg c28,if_neg c54,if_neg c84,if_pos c119,if_pos c140]
  obtain⟨tb,to,A0,c0,B0,m0,rfl,htb,htr,ks0,kt0⟩:=hT.at_ h0l;obtain⟨_,_,A1,c1,B1,m1,e1,_,htr1,ks1,kt1⟩:=hT.at_ h1l;cases e1;have hgo:=twk_two c21 hcd (by rw [inB,if_neg c84]:inB t b=b) c140.2.2.2 h0l h1l;refine zn4 ?_;replace hbN:=hbN.tr0 s31;have ltNW:=hbN.lt;replace hB:=hB.tr0 s31;have hsz0:=Bel.size hB;replace hb5:=(((hb5.tr0 (s2.trans s3)).tr1 s4 om).tr1 s5 om).tr0 s31;have lt5W:=hb5.lt;replace hb8:=hb8.tr0 s31;have lt8W:=hb8.lt;replace hb9:=hb9.tr0 s31;have lt9W:=hb9.lt;replace hbV:=(((hbV.tr0 (s1.trans (s2.trans s3))).tr1 s4 om).tr1 s5 om).tr0 s31;have ltVW:=hbV.lt;have szCW:=hC.size;refine W7 10 [143,144,145,146,147,148,149,150,151,11] [bN] 8 (fun ix v wv=>match ix with | 0=>v= .func (.func 107) #[] #[.pointer (some ⟨bN,0,none⟩),.pointer (some ⟨bV,0,none⟩)] | 1=>v= .pointer (some ⟨b5,0 + 5,none⟩) | 2=>v= .slice (some ⟨tb,to,none⟩) t.args.length m | 3=>v= .pointer (some ⟨tb,to + 0 * 6,none⟩) | 4=>v= .agg #[.int .i64 ((t.args[0]'h0l)).kind,.string ((t.args[0]'h0l)).name,.int .i64 ((t.args[0]'h0l)).index,.string ((t.args[0]'h0l)).type.base,.slice A0 ((t.args[0]'h0l)).type.args.length c0,.slice B0 ((t.args[0]'h0l)).args.length m0] | 5=>v= .int .i64 d | 6=>v= .int .i64 ((d:Nat) + 1:Int) | 7=>v= .int .i64 b | 8=>v= .agg #[.int .i64 (twk (t.args[0]'h0l) (d + 1) b (n + 1)).2.1,.int .i64 (twk (t.args[0]'h0l) (d + 1) b (n + 1)).2.2] | 9=>∃ bq,v= .pointer (some ⟨bq,0,none⟩)∧w32.heap.size≤bq∧Blk wv bq 36 #[.int .i64 0,.int .i64 0] | _=>True) (fun wq=>Blk wq bN 3 #[.int .i64 (((twk (t.args[0]'h0l) (d + 1) b (n + 1)).1:Nat):Int)]) kR kR ?_ (fun _ _ h hs=>Blk.tr0 h hs) ?_ ?_ dE ?_
  ·intro ix v wv wv2 h s34
   match ix,h with
   | 0,h=>exact h
   | 1,h=>exact h
   | 2,h=>exact h
   | 3,h=>exact h
   | 4,h=>exact h
   | 5,h=>exact h
   | 6,h=>exact h
   | 7,h=>exact h
   | 8,h=>exact h
   | 9,h=>
    obtain⟨b11,e11,lo11,hb11⟩:=h;exact⟨b11,e11,lo11,hb11.tr0 s34⟩
   | _ + 10,h=>exact trivial
  ·intro ix o hix hne hoq gg wx s35 hd
   match ix,hix,hne,hoq with
   | 0,_,_,hoq=>
    cases sI hoq;refine xk (qZ (v:= .func _ _ _) Tryz.underlying167 rfl rfl (hbV.u.cell rfl)) ⟨Same.refl _ _,?_⟩;exact rfl
   | 1,_,_,hoq=>
    cases sI hoq;refine xk (uk U44 sz42 dE rfl rfl rfl) ⟨Same.refl _ _,?_⟩;exact rfl
   | 2,_,_,hoq=>
    cases sI hoq;refine zz 144 _ (hd 1 (zq kR)) nu ?_;refine xk (qZ (v:= .slice _ _ _) U42 rfl rfl (hb5.u.cell rfl)) ⟨Same.refl _ _,?_⟩;exact rfl
   | 3,_,_,hoq=>
    cases sI hoq;refine zz 145 _ (hd 2 (zq kR)) nu ?_;refine xk (xw (i:=0) U42 Yy rfl rfl h0l rfl) ⟨Same.refl _ _,?_⟩;exact rfl
   | 4,_,_,hoq=>
    cases sI hoq;replace hB:=hB.tr1 s35 l0N;refine zz 146 _ (hd 3 (zq kR)) nu ?_;refine xk (zV U44 rfl rfl (hB.range htb htr) Yy) ⟨Same.refl _ _,?_⟩;exact rfl
   | 5,_,_,hoq=>
    cases sI hoq;refine xk (xZ (v:= .int _ _) rfl) ⟨Same.refl _ _,?_⟩;exact rfl
   | 6,_,_,hoq=>
    cases sI hoq;refine zz 148 _ (hd 5 (zq kR)) nu ?_;refine xk (I6 rfl rfl rfl om) ⟨Same.refl _ _,?_⟩;exact rfl
   | 7,_,_,hoq=>
    cases sI hoq;refine xk (xZ (v:= .int _ _) rfl) ⟨Same.refl _ _,?_⟩;exact rfl
   | 8,_,hne,_=>exact absurd rfl hne
   | 9,_,_,hoq=>
    cases sI hoq;have hs0:=s35;refine vK (fun ops Q K=>?_);refine zY (cs:=#[.int .i64 0,.int .i64 0]) qk rfl (fun b11 w36 hb11 s36 hr=>?_);exact K _ _ ⟨s36,⟨_,rfl,nLT hs0.size hr,hb11⟩⟩
   | _ + 10,hix,_,_=>exact absurd hix om
  ·intro o hoq gg wx s37 hd;cases sI hoq;replace hC:=hC.st s37 (by simp);refine zz 143 _ (hd 0 (zq kR)) nu (zz 147 _ (hd 4 (zq kR)) nu (zz 149 _ (hd 6 (zq kR)) nu (zz 150 _ (hd 7 (zq kR)) nu ?_)));refine vK (fun ops Q K=>?_);refine xX rfl fn107 (IH (t.args[0]'h0l) (List.getElem_mem h0l) A0 B0 c0 m0 (d + 1) b (n + 1) _ ks0 kt0 om om om hB.u hbN.u hbV.u) rfl rfl (fun e' w2 hr=>?_);obtain⟨rfl,hC2,hP2⟩:=hr;have hs2:=hC2.one;refine⟨_,rfl,K _ _ ⟨hs2,rfl,hP2,fun kx v hne h=>?_⟩⟩
   match kx,hne,h with
   | 0,_,h=>exact h
   | 1,_,h=>exact h
   | 2,_,h=>exact h
   | 3,_,h=>exact h
   | 4,_,h=>exact h
   | 5,_,h=>exact h
   | 6,_,h=>exact h
   | 7,_,h=>exact h
   | 8,hne,_=>exact absurd rfl hne
   | 9,_,h=>
    obtain⟨b11,e11,lo11,hb11⟩:=h;exact⟨b11,e11,lo11,hb11.tr1 hs2 om⟩
   | _ + 10,_,_=>exact trivial
  intro gg w37 s38 hP2 hR;replace hB:=hB.tr1 s38 l0N;replace hC:=hC.st s38 (fun g hg=>by rw [List.mem_singleton.1 hg];first | exact .inl rfl | exact .inr or_hC_bN);replace hbN:=hP2;obtain⟨b11,e11,lo11,hb11⟩:=hR 9 dE;have or_hC_b11:w.heap.size≤b11:=by omega
  refine x7 151 _ (hR 8 dE) nu (x7 11 _ e11 nu ?_);refine zj hb11 rfl rfl z4 rfl zX (fun w38 hq s39=>?_);replace hB:=hB.tr1 s39 (nLT hsz0 lo11);replace hC:=hC.st s39 (fun g hg=>by rw [List.mem_singleton.1 hg];first | exact .inl rfl | exact .inr or_hC_b11);replace hb11:=hq;refine zn9 ?_;refine zy rfl (fun c154=>?_) (fun c154=>?_)
  ·rw [if_neg c154] at hgo;refine zn3 ?_;refine zj hb8.u rfl rfl z4 rfl zX (fun w39 hq s40=>?_);replace hC:=hC.st s40 (fun g hg=>by rw [List.mem_singleton.1 hg];first | exact .inl rfl | exact .inr or_hC_b8);replace hb8:=hq;refine zn6 ?_;refine x8 (.inl rfl) rfl (zk U36 rfl rfl hb8.range0 z4) ?_;rw [hgo];exact⟨rfl,hC,hbN.u⟩
  have c154:(twk (t.args[0]'h0l) (d + 1) b (n + 1)).2.1=0:=Classical.not_not.1 c154;rw [if_pos c154] at hgo;obtain⟨_,_,_,q1,q2⟩:=Ew _ _ _ _ c154;have hn3:(twk (t.args[0]'h0l) (d + 1) b (n + 1)).1≤200:=by rw [q1];exact q2
  refine zn3 ?_;refine QJ 8 kR kR (fun w40 s41=>?_);replace hC:=hC.st s41 (by simp);refine zn3 ?_;refine ws (xw (i:=1) U42 Yy rfl rfl h1l rfl) (zn4 ?_);refine Qk ?_;refine xX rfl fn107 (IH (t.args[1]'h1l) (List.getElem_mem h1l) A1 B1 c1 m1 (d + 1) (b) ((twk (t.args[0]'h0l) (d + 1) b (n + 1)).1) _ ks1 kt1 hn3 om om hB.u hbN.u hbV.u) rfl rfl (fun e' w41 hr=>?_);obtain⟨rfl,hC2,hbN2⟩:=hr;replace hC:=hC.trans hC2 (fun g hg=> .inl hg);replace hb8:=((hb8.tr1 s38 om).tr1 s39 om).tr0 s41;replace hb8:=hb8.chG hC2 (fun hx=>by have hx:b8=bN:=hx;omega);replace hbN:=hbN2;refine⟨_,rfl,?_⟩;refine zj hb8 rfl rfl z4 rfl zX (fun w42 hq s42=>?_);replace hC:=hC.st s42 (fun g hg=>by rw [List.mem_singleton.1 hg];first | exact .inl rfl | exact .inr or_hC_b8);replace hb8:=hq;refine zn5 ?_;refine x8 (.inl rfl) rfl (zk U36 rfl rfl hb8.range0 z4) ?_;rw [hgo];exact⟨rfl,hC,hbN.u⟩
 have hcd:ndC b t=4:=by unfold ndC;rw [if_neg c28,if_neg c54,if_neg c84,if_neg c119]
 refine zn3 ?_;refine xX rfl J9 (uV b9 _ _ _ hb9) rfl rfl (fun e' w43 hr=>?_);obtain⟨rfl,s43⟩:=hr;replace s43:=sB s43;replace hC:=hC.st s43 (by simp);refine⟨_,rfl,?_⟩;refine zj hb8.u rfl rfl z4 rfl zX (fun w44 hq s44=>?_);replace hC:=hC.st s44 (fun g hg=>by rw [List.mem_singleton.1 hg];first | exact .inl rfl | exact .inr or_hC_b8);replace hb8:=hq;refine zn5 ?_;refine x8 (.inl rfl) rfl (zk U36 rfl rfl hb8.range0 z4) ?_;rw [Zk c21 (show ndC b t=4 from hcd) dE];exact⟨rfl,hC,hbN.u⟩
theorem twk_anyK {w0:World} {bN bV:Nat} (l0N:w0.heap.size≤bN) (_l0V:w0.heap.size≤bV) (nVN:bV≠bN):∀ (k:Nat) (t:Tm),SizeOf.sizeOf t < k→∀ (A B:Option Addr) (c m d b n:Nat) (w:World),SimsIn w0 A t.type.args→TmsIn w0 B t.args→n≤200→d≤41→b≤d→Bel w0 w→Blk w bN 3 #[.int .i64 ((n:Nat):Int)]→Blk w bV 167 #[.func (.func 107) #[] #[.pointer (some ⟨bN,0,none⟩),.pointer (some ⟨bV,0,none⟩)]]→Calls Tryz.prog 107 #[.agg #[.int .i64 (t).kind,.string (t).name,.int .i64 (t).index,.string (t).type.base,.slice A (t).type.args.length c,.slice B (t).args.length m],.int .i64 ((d:Nat):Int),.int .i64 ((b:Nat):Int),.pointer (some ⟨bN,0,none⟩),.pointer (some ⟨bV,0,none⟩)] w fun e w'=>e= .returned (flV (twk t d b n).2)∧ChG (fun g=>g=bN) w w'∧Blk w' bN 3 #[.int .i64 (((twk t d b n).1:Nat):Int)]:=by
  intro k
  induction k with
  | zero=>intro t h;omega
  | succ k ih=>
    intro t h A B c m d b n w hS hT hn hd hbd hB hbN hbV;refine twk_step l0N _l0V nVN hS hT (fun x hx A2 B2 c2 m2 d2 b2 n2 w2 h1 h2 h3 h4 h5 h6 h7 h8=>ih x ?_ A2 B2 c2 m2 d2 b2 n2 w2 h1 h2 h3 h4 h5 h6 h7 h8) hn hd hbd hB hbN hbV;have:=List.sizeOf_lt_of_mem hx;cases t with
    | mk k nm i s l=>simp only [Tm.mk.sizeOf_spec,Tm.args] at h this;omega
theorem twk_any {w0:World} {bN bV:Nat} (l0N:w0.heap.size≤bN) (_l0V:w0.heap.size≤bV) (nVN:bV≠bN)  (t:Tm) (A B:Option Addr) (c m d b n:Nat) (w:World):SimsIn w0 A t.type.args→TmsIn w0 B t.args→n≤200→d≤41→b≤d→Bel w0 w→Blk w bN 3 #[.int .i64 ((n:Nat):Int)]→Blk w bV 167 #[.func (.func 107) #[] #[.pointer (some ⟨bN,0,none⟩),.pointer (some ⟨bV,0,none⟩)]]→Calls Tryz.prog 107 #[.agg #[.int .i64 (t).kind,.string (t).name,.int .i64 (t).index,.string (t).type.base,.slice A (t).type.args.length c,.slice B (t).args.length m],.int .i64 ((d:Nat):Int),.int .i64 ((b:Nat):Int),.pointer (some ⟨bN,0,none⟩),.pointer (some ⟨bV,0,none⟩)] w fun e w'=>e= .returned (flV (twk t d b n).2)∧ChG (fun g=>g=bN) w w'∧Blk w' bN 3 #[.int .i64 (((twk t d b n).1:Nat):Int)]:=twk_anyK l0N _l0V nVN (SizeOf.sizeOf t + 1) t (Nat.lt_succ_self _) A B c m d b n w
end Go.Proofs.YtbcpgfnfiekbiaaGreatDoor
namespace Go.Proofs.YtbcpgfnfiekbiaaGreatDoor
open Go.RowKit
theorem fn89:zZ Tryz.prog 89=true:=by kernel_rfl
theorem in153:(Tryz.prog.info? 153).map (fun i=>(i.zero,i.size,i.bytes))=some (some (.agg #[.int .i64 0,.string ⟨#[]⟩,.string ⟨#[]⟩,.slice none 0 0,.int .i64 0,.slice none 0 0,.int .i64 0]),7,104):=by kernel_rfl
theorem TV:(Tryz.prog.info? 153).map (·.size)=some 7:=by kernel_rfl
theorem K6:(Tryz.prog.info? 66).map (·.size)=some 1:=by kernel_rfl
theorem ze153:(Tryz.prog.info? 153).map (·.zero)=some (some (.agg #[.int .i64 0,.string ⟨#[]⟩,.string ⟨#[]⟩,.slice none 0 0,.int .i64 0,.slice none 0 0,.int .i64 0])):=by kernel_rfl
set_option maxRecDepth 100000 in
set_option maxHeartbeats 4000000 in
theorem rows_step {w0:World} {v:Tv} {up:Int} {n:Nat} {vs:List Value} {A B R:Option Addr} {c m cap:Nat} {w:World} (hS:SimsIn w0 A v.tm.type.args) (hT:TmsIn w0 B v.tm.args) (hB:Bel w0 w) (ho:Own w w0.heap.size 153 7 R (n) cap (vs)) (hlen:n + v.size≤1000) (IH:∀ (x:Tv),x.size < v.size→∀ (up2:Int) (n2:Nat) (vs2:List Value) (A2 B2 R2:Option Addr) (c2 m2 cap2:Nat) (w2:World),SimsIn w0 A2 x.tm.type.args→TmsIn w0 B2 x.tm.args→Bel w0 w2→Own w2 w0.heap.size 153 7 R2 (n2) cap2 (vs2)→n2 + x.size≤1000→Calls Tryz.prog 89 #[.agg #[.int .i64 (Tv.tm (x)).kind,.string (Tv.tm (x)).name,.int .i64 (Tv.tm (x)).index,.string (Tv.tm (x)).type.base,.slice A2 (Tv.tm (x)).type.args.length c2,.slice B2 (Tv.tm (x)).args.length m2],.int .i64 (up2),.slice R2 (n2) cap2] w2 fun e w'=>∃ (R':Option Addr) (cap':Nat) (zs:List Value),e= .returned (.slice R' (n2 + Tv.size (x)) cap')∧Own w' w0.heap.size 153 7 R' (n2 + Tv.size (x)) cap' (vs2 ++ zs)∧RwsIn w0 w' (fun g=>w2.heap.size≤g) (rws (up2) (n2) (x)) zs∧ChG (fun g=>g ∈ aL R2) w2 w'∧∀ g ∈ aL R',g ∈ aL R2∨w2.heap.size≤g):Calls Tryz.prog 89 #[.agg #[.int .i64 (Tv.tm (v)).kind,.string (Tv.tm (v)).name,.int .i64 (Tv.tm (v)).index,.string (Tv.tm (v)).type.base,.slice A (Tv.tm (v)).type.args.length c,.slice B (Tv.tm (v)).args.length m],.int .i64 (up),.slice R (n) cap] w fun e w'=>∃ (R':Option Addr) (cap':Nat) (zs:List Value),e= .returned (.slice R' (n + Tv.size (v)) cap')∧Own w' w0.heap.size 153 7 R' (n + Tv.size (v)) cap' (vs ++ zs)∧RwsIn w0 w' (fun g=>w.heap.size≤g) (rws (up) (n) (v)) zs∧ChG (fun g=>g ∈ aL R) w w'∧∀ g ∈ aL R',g ∈ aL R∨w.heap.size≤g:=by
 have hw0:w0.heap.size≤w.heap.size:=Bel.size hB;have hC:ChG (fun g=>g ∈ aL R) w w:=ChG.refl _ _;have hA:∀ g ∈ aL R,g ∈ aL R∨w.heap.size≤g:=fun g hg=> .inl hg
 have hvl:=ho.len;have hps:=parts_sum v;have hpl:=parts_len v;have hvp:=v.pos;have hnk:v.tm.args.length=v.parts.length:=by rw [O7,List.length_map]
 refine enter Tryz.func89 Tryz.ntmps89 rfl (Nat.le_of_ble_eq_true rfl) (zn2 ?_);refine qK (v:= .agg #[_,_,_,_,_,_]) (cs:=#[_,_,_,_,_,_]) rfl rfl (fun b3 w1 hb3 s1 hr=>?_);have or_ho_b3:=(fun g hg=>nLL (ho.lt g hg).2 hr)
 have or_hC_b3:=(nLT hC.size hr)
 have lo3:=nLT (Bel.size hB) hr;replace hC:=hC.st s1 (by simp);refine yx ?_;have hCs:=hC.size;refine zn7 ?_;refine wl (zV U41 rfl rfl (hb3.sub (n:=2) (xs:=[_,_]) rfl) xJ) (zn3 ?_);refine wl (RQ (v0:= .int _ _) (v1:= .string _) (v2:= .agg _) (v3:= .int _ _) (v4:= .int _ _) (fun v0 v1 v2 v3 v4=>#[v0,v1,(qy v2 0),(qy v2 1),v3,.slice none 0 0,v4]) rfl rfl rfl rfl rfl kR) ?_;refine qv (cs:=#[_,_,_,_,_,_,_]) [(0,.agg _)] rfl U150 TV ze153 dE dE kR rfl (fun b22 w2 hb22 s2 hr=>?_);replace ho:=ho.tr0 s1;have or_ho_b22:=(fun g hg=>nLL (ho.lt g hg).2 hr)
 have or_hC_b22:=(nLT hC.size hr)
 have:=nLL hb3.lt hr;have lo22:=nLT (Bel.size hB.u) hr;replace hC:=hC.st s2 (by simp);replace ho:=ho.tr0 s2;refine vW U150 in153 rfl dE ho hb22 rfl rfl rfl zX dE om om (Bel.size hB.u) (fun g23 cap23 w3 ho23 s3 hg=>?_);have ne_ho23_b3:g23≠b3:=neB hb3.u.lt hg (fun g hg=>by have:=or_ho_b3 g hg;omega)
 replace hB:=hB.u.tr s3 (fun g hg=>nLT (Nat.le_refl _) (ho.lt g hg).1);replace hC:=hC.st s3 (fun g hg=>by first | exact hA g hg | exact .inr (ho.lt g hg).1);replace hb3:=hb3.tr0 s2;replace hb3:=hb3.tb s3 (fun g hg=>by have:=or_ho_b3 g hg;omega);have hA:∀ g ∈ aL (some (⟨g23,0,none⟩:Addr)),g ∈ aL R∨w.heap.size≤g:=fun g hm=>by
   rw [List.mem_singleton.1 hm];rcases hg with h | h
   · exact .inl (by rw [h];exact List.mem_singleton.2 rfl)
   · exact .inr (by show w.heap.size≤g23;have:=hb22.lt;omega)
 have ho:=ho23;refine kJ ?_;refine zK (rg [2,8] 27 25) (fun mm g w'=>∃ (j:Nat) (ks:List Int) (t:List Rw) (R2:Option Addr) (cap2:Nat) (ys:List Value) (K:Option Addr) (ck:Nat),j≤v.parts.length∧mm=v.parts.length - j∧g 27= .int .i64 j∧g 2= .slice R2 (n + 1 + t.length) cap2∧ks.length=j∧n + 1 + t.length + ((v.parts.drop j).map Tv.size).sum=n + v.size∧Fq n v.parts [] []=Fq n (v.parts.drop j) ks t∧Bel w0 w'∧Blk w' b3 44 #[.int .i64 (Tv.tm v).kind,.string (Tv.tm v).name,.int .i64 (Tv.tm v).index,.string (Tv.tm v).type.base,.slice A (Tv.tm v).type.args.length c,.slice B (Tv.tm v).args.length m]∧Own w' w0.heap.size 153 7 R2 (n + 1 + t.length) cap2 (vs ++ rwV (hd v up ks) A c K ck ++ ys)∧Own w' w.heap.size 3 1 K ks.length ck (iV ks)∧RwsIn w0 w' (fun g=>w.heap.size≤g∧g ∉ aL K) t ys∧ChG (fun g=>g ∈ aL R) w w'∧∀ g ∈ aL R2,g ∈ aL R∨w.heap.size≤g) (v.parts.length) ?_ (fun m g4 w4 hI=>?_)
 ·exact⟨0,[],[],_,_,[],none,0,Nat.zero_le _,rfl,rfl,rfl,rfl,by simp only [List.length_nil,List.drop_zero];omega,rfl,hB,hb3,(by rw [List.append_nil];exact ho),Own.nil _ _ _ _,.nil,hC,hA⟩
 obtain⟨j,ks,t,R2,cap2,ys,K,ck,hj,hmj,h27,h2,hkl,hsum,hacc,hB,hb3,ho,hoK,hRt,hC,hA⟩:=hI;refine zQ 27 _ h27 nu (zQ 2 _ h2 nu (zn6 ?_));refine zy rfl (fun c28=>?_) (fun c28=>?_)
 ·have hjl:j < v.parts.length:=by omega
  obtain⟨tb,to,A0,c0,B0,m0,rfl,htb,htr,ks0,kt0⟩:=tms_part hT hjl;rw [List.drop_eq_getElem_cons hjl] at hacc hsum;simp only [List.map_cons,List.sum_cons] at hsum;simp only [Fq] at hacc;have hxp:=Tv.pos (v.parts[j]'hjl);refine yx ?_;obtain⟨q,cur,rfl,hqb,hbq,hcs,hget,hset⟩:=ho.open_ om;have or_hoK_q:∀ g ∈ aL K,g≠q:=Zy hoK hbq dE;have or_hoK_b3:∀ g ∈ aL K,g≠b3:=Zy hoK hb3 dE;have or_b3_q:b3≠q:=fun e=>absurd (jQ (e ▸ hb3) hbq) dE
  have hk5:cur[0 + n * 7 + 5]? =some (.slice K ks.length ck):=(hget _ om).trans (rw_kid hvl);obtain⟨z6,hz6e⟩:∃ z,z=w4.heap.size:=⟨_,rfl⟩
  have hz6:z6≤w4.heap.size:=Nat.le_of_eq hz6e;replace hRt:RwsIn w0 w4 (fun g=>w.heap.size≤g∧g ∉ aL K∧g < z6) t ys:=hRt.weak (fun g h1 h2=>⟨h2.1,h2.2,by omega⟩);have hCs:=hC.size;refine zn7 ?_;refine wl (qZ (v:= .slice _ _ _) U66 rfl rfl (hbq.cell hk5)) (zn2 ?_);refine qv (cs:=#[_]) [(0,.int _ _)] rfl U66 qX uJ dE dE kR rfl (fun b39 w5 hb39 s4 hr=>?_);have:=nLL hb3.lt hr;have or_hoK_b39:=(fun g hg=>nLL (hoK.lt g hg).2 hr)
  have or_hC_b39:=(nLT hC.size hr)
  have:=nLL hbq.lt hr;have or_hz6_b39:=(nLT hz6 hr)
  have lo39:=nLT (Bel.size hB) hr;replace hC:=hC.st s4 (by simp);replace hRt:=hRt.tr s4 (by simp);replace hz6:=nLT hz6 (Same.size s4);replace hoK:=hoK.tr0 s4;refine vW U66 in3 rfl dE hoK hb39 rfl rfl rfl zX dE om om hC.size (fun g40 cap40 w6 ho40 s5 hg=>?_);replace hbq:=hbq.tr0 s4;have ne_ho40_b3:g40≠b3:=neB hb3.u.lt hg (fun g hg=>by have:=or_hoK_b3 g hg;omega)
  have ne_ho40_q:g40≠q:=neB hbq.lt hg (fun g hg=>by have:=or_hoK_q g hg;omega)
  replace hB:=hB.u.tr s5 (fun g hg=>nLT hw0 (hoK.lt g hg).1);replace hb3:=hb3.tr0 s4;replace hb3:=hb3.tb s5 (fun g hg=>by have:=or_hoK_b3 g hg;omega);replace hC:=hC.st s5 (fun g hg=>by first | exact hA g hg | exact .inr (hoK.lt g hg).1);replace hRt:=hRt.tr s5 (fun g hg=>by first | exact .inl (fun h=>h.2.1 hg) | (obtain⟨cs,hc⟩:=(hoK).typ g hg;exact .inr ⟨cs,_,hc,by decide⟩));replace hbq:=hbq.tb s5 (fun g hg=>by have:=or_hoK_q g hg;omega);replace hz6:=nLT hz6 (Same.size s5)
  have hRt:RwsIn w0 w6 (fun g=>w.heap.size≤g∧g ∉ aL (some (⟨g40,0,none⟩:Addr))) t ys:=hRt.weak (fun g _ hd=>⟨hd.1,fun hm=>by
    have e:g=g40:=List.mem_singleton.1 hm;rcases hg with h | h
    · exact hd.2.1 (by rw [h,e];exact List.mem_singleton.2 rfl)
    · have:=hb39.lt
      have:=hd.2.2
      omega⟩)
  have hoK:Own w6 w.heap.size 3 1 (some ⟨g40,0,none⟩) (ks ++ [((n + 1 + t.length:Nat):Int)]).length cap40 (iV (ks ++ [((n + 1 + t.length:Nat):Int)])):=by
    have e1:(ks ++ [((n + 1 + t.length:Nat):Int)]).length=ks.length + 1:=by simp
    have e2:iV (ks ++ [((n + 1 + t.length:Nat):Int)])=iV ks ++ [.int .i64 ((n + 1 + t.length:Nat):Int)]:=by simp [iV]
    rw [e1,e2];exact ho40
  refine zn2 ?_;refine x9 (v:= .slice _ _ _) hbq rfl rfl K6 (by show 0 + n * 7 + 5 < cur.size;omega) rfl rfl (fun w7 hq s6=>?_);replace hB:=hB.tr1 s6 hqb;replace hC:=hC.st s6 (fun g hg=>by rw [List.mem_singleton.1 hg];first | exact .inr or_hC_q | exact hA _ (List.mem_singleton.2 rfl));replace hRt:=hRt.tr s6 (fun g hg=>by rw [List.mem_singleton.1 hg];exact .inr ⟨_,_,hbq,by decide⟩);replace hz6:=nLT hz6 (Same.size s6);replace hoK:=hoK.tr1 s6 (Zy hoK hbq dE);replace hbq:=hq;have ho:Own w7 w0.heap.size 153 7 (some ⟨q,0,none⟩) (n + 1 + t.length) cap2 (vs ++ rwV (hd v up (ks ++ [((n + 1 + t.length:Nat):Int)])) A c (some ⟨g40,0,none⟩) cap40 ++ ys):=by
    have h:=hset _ (0 + n * 7 + 5) _ hbq;rw [show ks.length + 1=(ks ++ [((n + 1 + t.length:Nat):Int)]).length by simp,rw_set hvl] at h;exact h
  have hA:∀ g ∈ aL (some (⟨q,0,none⟩:Addr)),g ∈ aL R∨w.heap.size≤g:=hA;refine yw ?_;refine zJ fn89 (IH (v.parts[j]'hjl) (parts_lt (List.getElem_mem hjl)) n (n + 1 + t.length) _ A0 B0 _ c0 m0 _ _ ks0 kt0 hB ho om) rfl (fun e' w8 hr=>?_);obtain⟨R3,cap3,zs,rfl,ho3,hR3,hC3,hA3⟩:=hr;have hKl:=fun g hg=>(hoK.lt g hg).2
  have hs3:=hC3.same;have hCz:=hC.size;replace hR3:=hR3.weak (D':=fun g=>w.heap.size≤g∧g ∉ aL (some (⟨g40,0,none⟩:Addr))) (fun g _ hd=>⟨nLT hCz hd,fun hm=>by have:=hKl g hm;omega⟩);replace hB:=hB.tr hs3 (fun g hg=>(ho.lt g hg).1);replace hb3:=hb3.tr1 s6 om;replace hb3:=hb3.tr hs3 (fun hx=>Zy ho hb3 dE _ hx rfl);replace hoK:=hoK.tr hs3 (own_ne hoK ho dE);replace hRt:=hRt.tr hs3 (fun g hg=>by obtain⟨cs,hc⟩:=ho.typ g hg;exact .inr ⟨cs,_,hc,by decide⟩);replace hC:=hC.st hs3 hA;replace hA:∀ g ∈ aL R3,g ∈ aL R∨w.heap.size≤g:=fun g hg=>(hA3 g hg).elim (fun h=>hA g h) (fun h=> .inr (nLT hCz h))
  replace ho:=ho3;have e3:n + 1 + (t ++ rws n (n + 1 + t.length) (v.parts[j]'hjl)).length=n + 1 + t.length + Tv.size (v.parts[j]'hjl):=by rw [List.length_append,XX];omega
  have hsum3:n + 1 + (t ++ rws n (n + 1 + t.length) (v.parts[j]'hjl)).length + ((v.parts.drop (j + 1)).map Tv.size).sum=n + v.size:=by omega

  refine⟨_,rfl,?_⟩;refine zn8 ?_;refine qV (v.parts.length - (j + 1)) om agA ?_;exact⟨j + 1,(ks ++ [((n + 1 + t.length:Nat):Int)]),t ++ rws n (n + 1 + t.length) (v.parts[j]'hjl),R3,cap3,ys ++ zs,_,_,by omega,rfl,rfl,(by rw [e3];rfl),(by simp [hkl]),hsum3,hacc,hB,hb3,(by rw [e3,← List.append_assoc];exact ho),hoK,hRt.app hR3,hC,hA⟩
 have hje:j=v.parts.length:=by omega
 rw [hje,List.drop_length] at hacc hsum;simp only [List.map_nil,List.sum_nil,Nat.add_zero] at hsum;have hrw:rws up n v=hd v up ks :: t:=by rw [rws_acc,hacc];rfl
 refine kJ ?_;rw [hrw];exact⟨R2,cap2,rwV (hd v up ks) A c K ck ++ ys,(by rw [← hsum];rfl),(by rw [← hsum,← List.append_assoc];exact ho),.cons hS (KidIn.own hoK rfl) (hRt.weak (fun g _ h=>h.1)),hC,hA⟩
theorem rows_any {w0:World}:∀ (k:Nat) (v:Tv),v.size < k→∀ (up:Int) (n:Nat) (vs:List Value) (A B R:Option Addr) (c m cap:Nat) (w:World),SimsIn w0 A v.tm.type.args→TmsIn w0 B v.tm.args→Bel w0 w→Own w w0.heap.size 153 7 R (n) cap (vs)→n + v.size≤1000→Calls Tryz.prog 89 #[.agg #[.int .i64 (Tv.tm (v)).kind,.string (Tv.tm (v)).name,.int .i64 (Tv.tm (v)).index,.string (Tv.tm (v)).type.base,.slice A (Tv.tm (v)).type.args.length c,.slice B (Tv.tm (v)).args.length m],.int .i64 (up),.slice R (n) cap] w fun e w'=>∃ (R':Option Addr) (cap':Nat) (zs:List Value),e= .returned (.slice R' (n + Tv.size (v)) cap')∧Own w' w0.heap.size 153 7 R' (n + Tv.size (v)) cap' (vs ++ zs)∧RwsIn w0 w' (fun g=>w.heap.size≤g) (rws (up) (n) (v)) zs∧ChG (fun g=>g ∈ aL R) w w'∧∀ g ∈ aL R',g ∈ aL R∨w.heap.size≤g:=by
  intro k
  induction k with
  | zero=>intro v h;omega
  | succ k ih=>exact fun v h up n vs A B R c m cap w h1 h2 h3 h4 h5=>rows_step h1 h2 h3 h4 h5 (fun x hx=>ih x om)
theorem rows0_any (v:Tv) (A B:Option Addr) (c m:Nat) (w:World) (hS:SimsIn w A v.tm.type.args) (hT:TmsIn w B v.tm.args) (hl:v.size≤1000) (w1:World) (hB:Bel w w1):Calls Tryz.prog 89 #[.agg #[.int .i64 (Tv.tm (v)).kind,.string (Tv.tm (v)).name,.int .i64 (Tv.tm (v)).index,.string (Tv.tm (v)).type.base,.slice A (Tv.tm (v)).type.args.length c,.slice B (Tv.tm (v)).args.length m],.int .i64 (-1),.slice none (0) 0] w1 fun e w'=>(∃ (q cap:Nat) (zs:List Value),e= .returned (.slice (some ⟨q,0,none⟩) v.size cap)∧Own w' w.heap.size 153 7 (some ⟨q,0,none⟩) v.size cap zs∧RwsIn w w' (fun g=>w1.heap.size≤g) (rws (-1) 0 v) zs)∧Bel w1 w':=by
  refine(rows_any (w0:=w) _ v (Nat.lt_succ_self _) (-1) 0 [] A B none c m 0 w1 hS hT hB (Own.nil _ _ _ _) om).mono ?_
  rintro e w' ⟨R,cap,zs,rfl,ho,hr,hc,_⟩
  rw [Nat.zero_add,List.nil_append] at ho;have hp:=v.pos;obtain⟨q,rfl,_,_⟩:=ho.cell (by intro e;have:=ho.len;rw [e] at this;simp at this;omega);exact⟨⟨q,cap,zs,by rw [Nat.zero_add],ho,hr⟩,Same.bel hc.same⟩
end Go.Proofs.YtbcpgfnfiekbiaaGreatDoor
namespace Go.Proofs.YtbcpgfnfiekbiaaGreatDoor
open Go.RowKit
set_option maxHeartbeats 1000000 in
theorem G4 {w0 wr w:World} {q n cap p i:Nat} {ls:List Rw} {r:Rw} {Γ:List Ts} {τ:Ts} (hrd:RdT w0 wr q ls) (hn:ls.length=n) (hBr:Bel wr w) (hql:q < wr.heap.size) (hr:ls[p]? =some r) (hri:r.index=(i:Int)) (_hup:r.up < (p:Int)) (hch:Chn ls r.up Γ) (hti:Γ[i]? =some τ) (hi1:i≤1000):Calls Tryz.prog 90 #[.slice (some ⟨q,0,none⟩) n cap,.int .i64 ((p:Nat):Int)] w fun e w'=>(∃ (u:Nat) (ru:Rw),e= .returned (.int .i64 ((u:Nat):Int))∧ls[u]? =some ru∧ru.typ=τ.sm)∧Bel w w':=by
 have hpl:=(List.getElem?_eq_some_iff.1 hr).1;obtain⟨A7,c7,K7,ck7,hrr,_,_,_⟩:=hrd p r hr;rw [hri] at hrr;refine enter Tryz.func90 Tryz.ntmps90 rfl (Nat.le_of_ble_eq_true rfl) (yx ?_);refine wl (qZ (v:= .int _ _) U3 rfl rfl (hBr.cell hql (hrr 4 _ rfl))) (yw ?_);refine wl (qZ (v:= .int _ _) U3 rfl rfl (hBr.cell hql (hrr 6 _ rfl))) (zn4 ?_);refine zK (rg [4,5,6] 17 18) (fun m g w'=>∃ (k:Nat) (z:Int) (Δ:List Ts),m=(z + 1).toNat∧k≤i∧g 5= .int .i64 k∧g 6= .int .i64 z∧w=w'∧Chn ls z Δ∧Δ[k]? =some τ) ((r.up + 1).toNat) ?_ (fun m g3 w1 hI=>?_)
 ·exact⟨i,r.up,Γ,rfl,Nat.le_refl _,rfl,rfl,rfl,hch,hti⟩
 obtain⟨k,z,Δ,hm,hki,h5,h6,rfl,hcz,hkz⟩:=hI;refine zQ 5 _ h5 nu (zQ 6 _ h6 nu (zn7 ?_));refine zy rfl (fun c18=>?_) (fun c18=>?_)
 ·obtain⟨u,rz,rfl,hru,hup2,hlow,hcase⟩:=chn_row hcz hkz;have hul:=(List.getElem?_eq_some_iff.1 hru).1;obtain⟨A8,c8,K8,ck8,hr8,_,_,_⟩:=hrd u rz hru;refine yw ?_;refine wl (qZ (v:= .int _ _) U3 rfl rfl (hBr.cell hql (hr8 0 _ rfl))) (zn3 ?_);refine zy rfl (fun c29=>?_) (fun c29=>?_)
  ·have hq3:=hcase.resolve_right (fun h=>h.1 c29);clear hcase;obtain⟨_,hcase⟩:=hq3;refine zn7 ?_;refine zy rfl (fun c31=>?_) (fun c31=>?_)
   ·have hty:rz.typ=τ.sm:=by
      rcases hcase with ⟨_,h⟩ | ⟨k',hk',_⟩
      · exact h
      · omega
    refine gV ?_;exact⟨⟨u,rz,rfl,hru,hty⟩,Below.refl _ _⟩
   obtain⟨k2,rfl,Δ2,hk2,hc2⟩:=hcase.resolve_left (fun h=>c31 (by rw [h.1];rfl));clear hcase;refine zn4 ?_;refine wl (kW (c:=((k2:Nat):Int)) rfl rfl (show ((k2:Int) + 1) - 1=k2 from Int.add_sub_cancel _ _) om) (zn9 ?_);refine wl (qZ (v:= .int _ _) U3 rfl rfl (hBr.cell hql (hr8 6 _ rfl))) (zn2 ?_);refine qV ((rz.up + 1).toNat) om agA ?_
   first
     | exact⟨k2,rz.up,Δ2,rfl,by omega,rfl,rfl,rfl,hc2,hk2⟩
     | exact⟨k,rz.up,Δ2,rfl,hki,rfl,rfl,rfl,hc2,hk2⟩
  obtain⟨_,Δ2,hk2,hc2⟩:=hcase.resolve_left (fun h=>c29 h.1);clear hcase;refine zn8 ?_;refine wl (qZ (v:= .int _ _) U3 rfl rfl (hBr.cell hql (hr8 6 _ rfl))) (zn2 ?_);refine qV ((rz.up + 1).toNat) om agA ?_
  first
    | exact⟨k2,rz.up,Δ2,rfl,by omega,rfl,rfl,rfl,hc2,hk2⟩
    | exact⟨k,rz.up,Δ2,rfl,hki,rfl,rfl,rfl,hc2,hk2⟩
 obtain⟨u,rz,rfl,_⟩:=chn_row hcz hkz;exact absurd (Int.natCast_nonneg u) c18
end Go.Proofs.YtbcpgfnfiekbiaaGreatDoor
