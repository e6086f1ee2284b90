/- What these functions of the program compute, at every world: glosswright/glosswrightref1.SimpleFault. What these functions of the program compute, at every world: glosswright/simple.Validate. What these functions of the program compute, at every world: glosswright/term.Validate$1$1, glosswright/term.Validate$1. -/
import Derived.Test.YtbcpgfnfiekbiaaGreatDoorU
import Derived.Test.YtbcpgfnfiekbiaaGreatDoorTrm
import Derived.Test.YtbcpgfnfiekbiaaGreatDoorEng7
namespace Go.Proofs.YtbcpgfnfiekbiaaGreatDoor
open Go.RowKit
theorem map_two {α β:Type} {l:List α} (h:l.length=2) (f:α→β):l.map f= [f (l[0]'oM),f (l[1]'oM)]:=by
  match l,h with
  | [a,b],_=>rfl
theorem okR1 {s:Sm} (h:¬s.base=⟨#[]⟩) (k:s.base≠⟨#[101]⟩) (l:s.base≠⟨#[116]⟩):¬QW s:=by
  rintro (⟨h1 | h1,_⟩ | ⟨h1,_⟩)
  · exact k h1
  · exact l h1
  · exact h h1
theorem okR2 {s:Sm} (h:s.base=smE∨s.base=smT):((s.args.length:Nat):Int)≠0 ↔ ¬QW s:=
  ⟨fun k h2=>by
    rcases h2 with ⟨_,h2⟩ | ⟨h2,_⟩
    · omega
    · exact okX h h2,fun k h2=>k (.inl ⟨h,by omega⟩)⟩
theorem in175:(Tryz.prog.info? 175).map (fun i=>(i.zero,i.size,i.bytes))=some (some (.agg #[.string ⟨#[]⟩,.slice none 0 0,.int .i64 0]),3,48):=by kernel_rfl
theorem PK:(Tryz.prog.info? 175).map (·.size)=some 3:=by kernel_rfl
theorem ze175:(Tryz.prog.info? 175).map (·.zero)=some (some (.agg #[.string ⟨#[]⟩,.slice none 0 0,.int .i64 0])):=by kernel_rfl
set_option maxRecDepth 100000 in
set_option maxHeartbeats 4000000 in
theorem Ev (A:Option Addr) (c:Nat) (s:Sm) (w:World) (hS:SimsIn w A s.args):Calls Tryz.prog 88 #[.agg #[.string s.base,.slice A s.args.length c]] w fun e w'=>e= .returned (.int .i64 (smF s))∧Bel w w':=by
 have hR0:smF s=(sst [(s,1)] 0).2:=by rw [sst_one];rfl
 refine enT Tryz.func88 Tryz.ntmps88 rfl rfl fun hB=>?_;refine zn2 ?_;refine x6 (v:= .agg #[_,_]) (cs:=#[_,_]) rfl rfl (fun b1 w1 hb1 t1 hr=>?_);refine zn6 ?_;refine wl (xY (v0:= .agg _) (v1:= .int _ _) (fun v0 v1=>#[(qx v0 0),(qx v0 1),v1]) rfl rfl kR) ?_;refine qw (cs:=#[_,_,_]) [(0,.agg _)] rfl G7 PK ze175 dE dE kR rfl (fun b8 w2 hb8 t2 hr=>?_);have lo8:=nLT (Bel.size hB.u) hr;refine yv ?_;refine zW (rg [2,3,4,5] 9 70) (fun m g w'=>∃ (st:List (Sm×Nat)) (vs:List Value) (A3:Option Addr) (cap3 n:Nat),m=201 - n∧n≤200∧st.length≤2 * n + 1∧g 3= .slice A3 st.length cap3∧g 4= .int .i64 n∧Bel w w'∧Own w' w.heap.size 175 3 A3 st.length cap3 vs∧StkS w st vs∧smF s=(sst st.reverse n).2) (201) ?_ (fun m g3 w3 hI=>?_)
 ·replace hB:=hB.tr0 (t1.trans t2);exact⟨[(s,1)],_,_,_,0,rfl,by omega,by simp,rfl,rfl,hB,KX (m:=1) hb8 lo8 rfl dE,.snoc .nil hS,hR0⟩
 obtain⟨st,vs,A3,cap3,n,hm,hn,hsl,h3,h4,hB,ho,hstk,hR⟩:=hI;refine zZ 3 _ h3 nu (zZ 4 _ h4 nu (zn8 ?_));refine zX rfl (fun c11=>?_) (fun c11=>?_)
 ·obtain⟨st1,vs1,s1,d1,A1,c1,rfl,rfl,hst1,hs1⟩:=hstk.pop oM;have hlen:(st1 ++ [(s1,d1)]).length=st1.length + 1:=by simp
  rw [YZ] at hR;obtain⟨q,rfl,hqb,hql,hqc⟩:=ho.cell (by simp);refine zn8 ?_;refine wl (j8 (c:=(st1.length:Int)) rfl rfl (by rw [hlen];omega) oM) (wl (xk (i:=st1.length) G7 PK rfl rfl (by rw [hlen];omega) rfl) (wl (zY U175 rfl rfl (own_top ho hst1.len) PK) ?_));refine xV (cs:=#[.string ⟨#[]⟩,.slice none 0 0,.int .i64 0]) ze175 rfl (fun _=>rfl) (fun _=>rfl) PK rfl zQ (fun b5 w5 hb5 t3 hr=>?_);refine zn7 ?_;refine wl (j8 (c:=(st1.length:Int)) rfl rfl (by rw [hlen];omega) oM) ?_;replace ho:=ho.tr0 t3;refine wl (RW (h:=st1.length) G7 PK rfl rfl (by have:=ho.cap_le;omega)) (zn4 ?_);replace hB:=hB.tr0 t3;replace ho:Own w5 w.heap.size 175 3 (some ⟨q,0,none⟩) st1.length cap3 vs1:=by
    have h:=ho.take (k':=st1.length) oM oM
    rwa [List.take_append_of_le_length (by rw [hst1.len];exact Nat.le_refl _),List.take_of_length_le (by rw [hst1.len];exact Nat.le_refl _)] at h
  refine zn8 ?_;refine xJ [25,26,27,28,29,30,31] 31 (.bool (decide (200 < n + 1∨40 < d1))) nu ?_ (fun gq=>?_)
  ·refine zn4 ?_;refine zw 27 rfl (fun g27=>?_) (fun g27=>?_)
   ·refine zn4 ?_;refine zJ (e_R ⟨rfl,agA,?_⟩);exact clA
   refine zn7 ?_;refine zJ (e_R ⟨rfl,agA,?_⟩);exact clA
  refine e_S ?_;refine zX rfl (fun c31=>?_) (fun c31=>?_)
  ·rw [sst_out c31] at hR;refine yZ ?_;exact⟨by rw [hR];rfl,hB⟩
  refine yv ?_;refine zX rfl (fun c35=>?_) (fun c35=>?_)
  ·refine yv ?_;refine zX rfl (fun c40=>?_) (fun c40=>?_)
   ·have hno:¬QW s1:=fun h=>by
      rcases h with ⟨h,_⟩ | ⟨_,h⟩
      · exact okX h c35
      · omega
    rw [sst_bad c31 hno] at hR;refine yZ ?_;exact⟨by rw [hR];rfl,hB⟩
   have h2l:s1.args.length=2:=by omega
   have h1l:1 < s1.args.length:=by omega
   have h0l:0 < s1.args.length:=by omega
   have hok:QW s1:= .inr ⟨c35,h2l⟩;rw [sst_go c31 hok] at hR;obtain⟨sb,so,B0,e0,rfl,hsb,hr0,hs10⟩:=hs1.at_ h0l;obtain⟨_,_,B1,e1,ez,_,hr1,hs11⟩:=hs1.at_ h1l;cases ez;have hR2:smF s=(sst (st1 ++ [((s1.args[1]'h1l),d1 + 1)] ++ [((s1.args[0]'h0l),d1 + 1)]).reverse (n + 1)).2:=by
     rw [hR,YZ,YZ,map_two h2l];rfl
   refine M7 (e_S ?_);have zo:=fun g hg=>(ho.lt g hg).2
   refine kz [] [20] [0,1,2,3,4,5,6,7,8,9,10,11,12,13,14,15,16,17,18,19,20,21] rfl (fun w6 t4=>?_);refine zn4 ?_;refine hl rfl (fun _=>xk (i:=1) U39 x9 rfl rfl h1l rfl) (zn4 ?_);refine hl rfl (fun _=>xY (v0:= .agg _) (v1:= .int _ _) (fun v0 v1=>#[(qx v0 0),(qx v0 1),v1]) rfl rfl kR) (zn3 ?_);refine hl rfl (fun _=>xk (i:=0) U39 x9 rfl rfl h0l rfl) (zn4 ?_);refine hl rfl (fun _=>xY (v0:= .agg _) (v1:= .int _ _) (fun v0 v1=>#[(qx v0 0),(qx v0 1),v1]) rfl rfl kR) (h1 rfl ?_);refine qw (cs:=#[_,_,_,_,_,_]) [(0,.agg _),(1,.agg _)] rfl G7 PK ze175 dE dE kR rfl (fun b60 w7 hb60 t5 hr=>?_);have hsH19:=t5;refine zJ (M5 hsH19 (h1 rfl ?_));replace ho:=ho.tr0 (t4.trans t5);refine vX G7 in175 rfl dE ho hb60 rfl rfl rfl zQ dE oM oM (Bel.size hB.u) (fun g61 cap61 w8 ho61 hs2 hg61=>?_);replace hB:=hB.tr0 (t4.trans t5);replace hB:=hB.tr hs2 (fun g hg=>nLT (Nat.le_refl _) (ho.lt g hg).1);obtain⟨g61,cap61,e61,ho61⟩:∃ g cap,(.slice (some ⟨g61,0,none⟩) (st1.length + 2) cap61:Value)= .slice (some ⟨g,0,none⟩) (st1.length + 2) cap∧Own w8 w.heap.size 175 3 (some ⟨g,0,none⟩) (st1.length + 2) cap (vs1 ++ [.string (s1.args[1]'h1l).base,.slice B1 (s1.args[1]'h1l).args.length e1,.int .i64 ((d1:Nat) + 1:Int),.string (s1.args[0]'h0l).base,.slice B0 (s1.args[0]'h0l).args.length e0,.int .i64 ((d1:Nat) + 1:Int)]):=⟨_,_,rfl,ho61⟩
   cases e61;refine zJ (V0 [] ?_);have q1:(st1 ++ [((s1.args[1]'h1l),d1 + 1)] ++ [((s1.args[0]'h0l),d1 + 1)]).length=st1.length + 2:=by simp
   have q2:vs1 ++ [.string (s1.args[1]'h1l).base,.slice B1 (s1.args[1]'h1l).args.length e1,.int .i64 ((d1:Nat) + 1:Int)] ++ [.string (s1.args[0]'h0l).base,.slice B0 (s1.args[0]'h0l).args.length e0,.int .i64 ((d1:Nat) + 1:Int)]=vs1 ++ [.string (s1.args[1]'h1l).base,.slice B1 (s1.args[1]'h1l).args.length e1,.int .i64 ((d1:Nat) + 1:Int),.string (s1.args[0]'h0l).base,.slice B0 (s1.args[0]'h0l).args.length e0,.int .i64 ((d1:Nat) + 1:Int)]:=by simp
   have ho:Own w8 w.heap.size 175 3 (some ⟨g61,0,none⟩) (st1 ++ [((s1.args[1]'h1l),d1 + 1)] ++ [((s1.args[0]'h0l),d1 + 1)]).length cap61 (vs1 ++ [.string (s1.args[1]'h1l).base,.slice B1 (s1.args[1]'h1l).args.length e1,.int .i64 ((d1:Nat) + 1:Int)] ++ [.string (s1.args[0]'h0l).base,.slice B0 (s1.args[0]'h0l).args.length e0,.int .i64 ((d1:Nat) + 1:Int)]):=by rw [q1,q2];exact ho61
   refine zn3 ?_;refine xv (201 - (n + 1)) oM agA ?_
   first
     | exact⟨st1 ++ [((s1.args[1]'h1l),d1 + 1)] ++ [((s1.args[0]'h0l),d1 + 1)],_,_,_,n + 1,rfl,by omega,by rw [q1];omega,(by rw [q1];rfl),rfl,hB,ho,.snoc (.snoc hst1 hs11) hs10,hR2⟩
     | exact⟨st1,vs1,_,_,n + 1,rfl,by omega,by omega,rfl,rfl,hB,ho,hst1,hR2⟩
  refine yj ?_;refine xJ (rg [] 62 17) 78 (.bool (decide (¬QW s1))) nu ?_ (fun gq=>?_)
  ·refine zn6 ?_;refine zw 66 rfl (fun g66=>?_) (fun g66=>?_)
   ·refine yv ?_;refine zw 72 rfl (fun g72=>?_) (fun g72=>?_)
    ·refine zn6 ?_;refine zJ (e_R ⟨rfl,agA,?_⟩);show Value.bool _=Value.bool _
     first | exact congrArg Value.bool (decide_eq_true (by exact okR1 c35 g66 g72)).symm | exact congrArg Value.bool (decide_eq_decide.2 (by exact okR2 (.inr (Classical.not_not.1 g72)))) | exact congrArg Value.bool (decide_eq_decide.2 (by exact okR2 (.inl (Classical.not_not.1 g66))))
    refine vq ?_;refine zJ (e_R ⟨rfl,agA,?_⟩);show Value.bool _=Value.bool _
    first | exact congrArg Value.bool (decide_eq_true (by exact okR1 c35 g66 g72)).symm | exact congrArg Value.bool (decide_eq_decide.2 (by exact okR2 (.inr (Classical.not_not.1 g72)))) | exact congrArg Value.bool (decide_eq_decide.2 (by exact okR2 (.inl (Classical.not_not.1 g66))))
   refine J9 ?_;refine zJ (e_R ⟨rfl,agA,?_⟩);show Value.bool _=Value.bool _
   first | exact congrArg Value.bool (decide_eq_true (by exact okR1 c35 g66 g72)).symm | exact congrArg Value.bool (decide_eq_decide.2 (by exact okR2 (.inr (Classical.not_not.1 g72)))) | exact congrArg Value.bool (decide_eq_decide.2 (by exact okR2 (.inl (Classical.not_not.1 g66))))
  refine e_S ?_;refine zX rfl (fun c78=>?_) (fun c78=>?_)
  ·rw [sst_bad c31 c78] at hR;refine vq ?_;exact⟨by rw [hR];rfl,hB⟩
  have hok:QW s1:=Classical.not_not.1 c78;have ha0:s1.args= []:=by
    rcases hok with ⟨_,h⟩ | ⟨h,_⟩
    · exact List.length_eq_zero_iff.1 h
    · exact absurd h c35
  have hR2:smF s=(sst st1.reverse (n + 1)).2:=by rw [hR,sst_go c31 hok,ha0];rfl
  refine M7 (e_B (xv (201 - (n + 1)) oM agA ?_))
  first
    | exact⟨st1 ++ [((s1.args[1]'h1l),d1 + 1)] ++ [((s1.args[0]'h0l),d1 + 1)],_,_,_,n + 1,rfl,by omega,by rw [q1];omega,(by rw [q1];rfl),rfl,hB,ho,.snoc (.snoc hst1 hs11) hs10,hR2⟩
    | exact⟨st1,vs1,_,_,n + 1,rfl,by omega,by omega,rfl,rfl,hB,ho,hst1,hR2⟩
 have hst:st= []:=List.length_eq_zero_iff.1 oM;subst hst;have hR3:smF s=0:=hR;refine yZ ?_;exact⟨by rw [hR3];rfl,hB⟩
end Go.Proofs.YtbcpgfnfiekbiaaGreatDoor
namespace Go.Proofs.YtbcpgfnfiekbiaaGreatDoor
open Go.RowKit
theorem sz185:(Tryz.prog.info? 185).map (·.size)=some 1:=by kernel_rfl
theorem ze185:(Tryz.prog.info? 185).map (·.zero)=some (some (.nilFunc)):=by kernel_rfl
set_option maxHeartbeats 1000000 in
theorem R1 (A:Option Addr) (c:Nat) (s:Sm) (w:World) (hS:SimsIn w A s.args):Calls Tryz.prog 109 #[.agg #[.string s.base,.slice A s.args.length c]] w fun e w'=>e= .returned (flV (smF s,0))∧Bel w w':=by
 refine enT Tryz.func109 Tryz.ntmps109 rfl rfl fun hB=>?_;refine zn2 ?_;refine x6 (v:= .agg #[_,_]) (cs:=#[_,_]) rfl rfl (fun b1 w1 hb1 s1 hr=>?_);refine qq (cs:=#[.int .i64 0,.int .i64 0]) qv rfl (fun b2 w2 hb2 s2 hr=>?_);have:=nLL hb1.lt hr;have lo2:=nLT (Bel.size hB.u) hr;refine zn4 ?_;refine qq (cs:=#[.int .i64 0]) ow rfl (fun b3 w3 hb3 s3 hr=>?_);have:=nLL hb1.u.lt hr;have:=nLL hb2.lt hr;have lo3:=nLT (Bel.size hB.u) hr;refine xz (v:= .int _ _) hb3 rfl rfl qX (by first | decide | simp) rfl rfl (fun w4 hq s4=>?_);replace hb3:=hq;refine zn4 ?_;refine qq (cs:=#[.nilFunc]) ze185 rfl (fun b4 w5 hb4 s5 hr=>?_);have:=nLL hb1.u.lt hr;have:=nLL hb2.u.lt hr;have:=nLL hb3.lt hr;have lo4:=nLT (Bel.size hB.u) hr;refine zn4 ?_;refine wl (r_mf rfl) ?_;refine xz (v:= .func _ _ _) hb4 rfl rfl sz185 (by first | decide | simp) rfl rfl (fun w6 hq s6=>?_);replace hb4:=hq;refine zn6 ?_;refine y6 rfl fn123 (swk_any (w0:=w) (bN:=b3) (bV:=b4) lo3 lo4 oM s A c 1 0 _ hS oM oM hB.u hb3.u hb4) rfl rfl (fun e' w7 hr=>?_);obtain⟨rfl,hC2,hb32⟩:=hr;replace hB:=(((hB.tr0 (s1.trans (s2.trans s3))).tr1 s4 lo3).tr0 s5).tr1 s6 lo4;replace hB:=hB.chG hC2 (fun g hg=>by rw [show g=b3 from hg];exact lo3);replace hb2:=(((hb2.tr0 s3).tr1 s4 oM).tr0 s5).tr1 s6 oM;replace hb2:=hb2.chG hC2 (fun hx=>by have hx:b2=b3:=hx;omega);replace hb3:=hb32;refine⟨_,rfl,?_⟩;refine wl (ZY (v0:= .int _ _) (fun v0=>#[v0,.int .i64 0]) rfl kR) ?_;refine zk hb2 rfl rfl zq rfl zQ (fun w8 hq s7=>?_);replace hb2:=hq;refine zn3 ?_;refine x7 (.inl rfl) rfl (zy U36 rfl rfl hb2.range0 zq) ?_;exact⟨rfl,hB.u⟩
end Go.Proofs.YtbcpgfnfiekbiaaGreatDoor
namespace Go.Proofs.YtbcpgfnfiekbiaaGreatDoor
open Go.RowKit
theorem twk_out {t:Tm} {d b n:Nat} (h:200 < n + 1∨40 < d):twk t d b n=(n + 1,(1,(n:Int))):=by rw [X5,if_pos h]
theorem Zz {t:Tm} {d b n:Nat} {c:Int} (h:¬(200 < n + 1∨40 < d)) (hc:ndC b t=c) (h0:c≠0):twk t d b n=(n + 1,(c,(n:Int))):=by rw [X5,if_neg h,if_neg (by rw [hc];exact h0),hc]
theorem GK {t:Tm} {d b n:Nat} (h:¬(200 < n + 1∨40 < d)) (hc:ndC b t=0) (ha:t.args= []):twk t d b n=(n + 1,(0,0)):=by rw [X5,if_neg h,if_pos hc,ha,Qv]
theorem GW (x:Tm) (d b n:Nat):Qv [x] d b n=twk x d b n:=by
  rw [Qv];by_cases h:(twk x d b n).2.1=0
  · rw [if_pos h,Qv,← twk_z h]
  · rw [if_neg h]
theorem twks_one {l:List Tm} (hl:l.length=1) (h0:0 < l.length) (d b n:Nat):Qv l d b n=twk (l[0]'h0) d b n:=by
  match l,hl with
  | [x],_=>exact GW x d b n
theorem twks_two {l:List Tm} (hl:l.length=2) (h0:0 < l.length) (h1:1 < l.length) (d b n:Nat):Qv l d b n=if (twk (l[0]'h0) d b n).2.1=0 then twk (l[1]'h1) d b (twk (l[0]'h0) d b n).1 else twk (l[0]'h0) d b n:=by
  match l,hl with
  | [x,y],_=>rw [Qv,GW];rfl
theorem twk_one {t:Tm} {d b b' n:Nat} (h:¬(200 < n + 1∨40 < d)) (hc:ndC b t=0) (hi:inB t b=b') (hl:t.args.length=1) (h0:0 < t.args.length):twk t d b n=twk (t.args[0]'h0) (d + 1) b' (n + 1):=by
  rw [X5,if_neg h,if_pos hc,hi,twks_one hl h0]
theorem twk_two {t:Tm} {d b b' n:Nat} (h:¬(200 < n + 1∨40 < d)) (hc:ndC b t=0) (hi:inB t b=b') (hl:t.args.length=2) (h0:0 < t.args.length) (h1:1 < t.args.length):twk t d b n=if (twk (t.args[0]'h0) (d + 1) b' (n + 1)).2.1=0 then twk (t.args[1]'h1) (d + 1) b' (twk (t.args[0]'h0) (d + 1) b' (n + 1)).1 else twk (t.args[0]'h0) (d + 1) b' (n + 1):=by
  rw [X5,if_neg h,if_pos hc,hi,twks_two hl h0 h1]
theorem fn107:zK Tryz.prog 107=true:=by kernel_rfl
theorem VX:zK Tryz.prog 108=true:=by kernel_rfl
theorem fn109:zK Tryz.prog 109=true:=by kernel_rfl
theorem fn110:zK Tryz.prog 110=true:=by kernel_rfl
theorem W4:zK Tryz.prog 44=true:=by kernel_rfl
theorem sz42:(Tryz.prog.info? 42).map (·.size)=some 1:=by kernel_rfl
theorem VY:(Tryz.prog.info? 44).map (·.size)=some 6:=by kernel_rfl
theorem uk (b9:Nat) (cd n:Int) (w:World) (hb9:Blk w b9 3 #[.int .i64 n]):Calls Tryz.prog 108 #[.int .i64 cd,.pointer (some ⟨b9,0,none⟩)] w fun e w'=>e= .returned (flV (cd,n))∧Bel w w':=by
 refine enT Tryz.func108 Tryz.ntmps108 rfl rfl fun hB=>?_;refine zn2 ?_;refine qq (cs:=#[.int .i64 0,.int .i64 0]) qv rfl (fun b3 w1 hb3 s1 hr=>?_);have lo3:=nLT (Bel.size hB) hr;refine zn6 ?_;refine wl (xY (v0:= .int _ _) (v1:= .int _ _) (fun v0 v1=>#[v0,v1]) rfl rfl kR) ?_;refine zk hb3 rfl rfl zq rfl zQ (fun w2 hq s2=>?_);replace hb3:=hq;refine zn3 ?_;refine x7 (.inl rfl) rfl (zy U36 rfl rfl hb3.range0 zq) ?_;exact⟨rfl,hB.u⟩
set_option maxRecDepth 100000 in
set_option maxHeartbeats 8000000 in
theorem twk_step {w0:World} {bN bV:Nat} (l0N:w0.heap.size≤bN) (_l0V:w0.heap.size≤bV) (nVN:bV≠bN) {t:Tm} {A B:Option Addr} {c m d b n:Nat} {w:World} (hS:SimsIn w0 A t.type.args) (hT:TmsIn w0 B t.args) (IH:∀ x ∈ t.args,∀ (A2 B2:Option Addr) (c2 m2 d2 b2 n2:Nat) (w2:World),SimsIn w0 A2 x.type.args→TmsIn w0 B2 x.args→n2≤200→d2≤41→b2≤d2→Bel w0 w2→Blk w2 bN 3 #[.int .i64 ((n2:Nat):Int)]→Blk w2 bV 167 #[.func (.func 107) #[] #[.pointer (some ⟨bN,0,none⟩),.pointer (some ⟨bV,0,none⟩)]]→Calls Tryz.prog 107 #[.agg #[.int .i64 (x).kind,.string (x).name,.int .i64 (x).index,.string (x).type.base,.slice A2 (x).type.args.length c2,.slice B2 (x).args.length m2],.int .i64 ((d2:Nat):Int),.int .i64 ((b2:Nat):Int),.pointer (some ⟨bN,0,none⟩),.pointer (some ⟨bV,0,none⟩)] w2 fun e w'=>e= .returned (flV (twk x d2 b2 n2).2)∧ChG (fun g=>g=bN) w2 w'∧Blk w' bN 3 #[.int .i64 (((twk x d2 b2 n2).1:Nat):Int)]) (hn:n≤200) (hd:d≤41) (hbd:b≤d) (hB:Bel w0 w) (hbN:Blk w bN 3 #[.int .i64 ((n:Nat):Int)]) (hbV:Blk w bV 167 #[.func (.func 107) #[] #[.pointer (some ⟨bN,0,none⟩),.pointer (some ⟨bV,0,none⟩)]]):Calls Tryz.prog 107 #[.agg #[.int .i64 (t).kind,.string (t).name,.int .i64 (t).index,.string (t).type.base,.slice A (t).type.args.length c,.slice B (t).args.length m],.int .i64 ((d:Nat):Int),.int .i64 ((b:Nat):Int),.pointer (some ⟨bN,0,none⟩),.pointer (some ⟨bV,0,none⟩)] w fun e w'=>e= .returned (flV (twk t d b n).2)∧ChG (fun g=>g=bN) w w'∧Blk w' bN 3 #[.int .i64 (((twk t d b n).1:Nat):Int)]:=by
 have hmx:=hT.le;unfold yJ at hmx;have ltN:=hbN.lt;have ltV:=hbV.lt;have hC:ChG (fun g=>g=bN) w w:=ChG.refl _ _;refine enter Tryz.func107 Tryz.ntmps107 rfl (Nat.le_of_ble_eq_true rfl) (zn2 ?_);refine x6 (v:= .agg #[_,_,_,_,_,_]) (cs:=#[_,_,_,_,_,_]) rfl rfl (fun b5 w1 hb5 s1 hr=>?_);have:=nLL hbN.lt hr;replace hC:=hC.st s1 (by simp);refine qq (cs:=#[.int .i64 0,.int .i64 0]) qv rfl (fun b8 w2 hb8 s2 hr=>?_);have:=nLL hbN.u.lt hr;have:=nLL hbV.u.lt hr;have or_hC_b8:=(nLT hC.size hr)
 have:=nLL hb5.lt hr;replace hC:=hC.st s2 (by simp);refine zn5 ?_;refine qq (cs:=#[.int .i64 0]) ow rfl (fun b9 w3 hb9 s3 hr=>?_);have:=nLL hbN.u.lt hr;have:=nLL hbV.u.lt hr;have or_hC_b9:=(nLT hC.size hr)
 have:=nLL hb5.u.lt hr;have:=nLL hb8.lt hr;have lo9:=nLT (Bel.size hB.u) hr;replace hC:=hC.st s3 (by simp);refine xz (v:= .int _ _) hb9 rfl rfl qX (by first | decide | simp) rfl rfl (fun w4 hq s4=>?_);replace hC:=hC.st s4 (fun g hg=>by rw [List.mem_singleton.1 hg];first | exact .inl rfl | exact .inr or_hC_b9);replace hb9:=hq;refine zn6 ?_;replace hbN:=(hbN.tr0 (s1.trans (s2.trans s3))).tr1 s4 oM;refine xz (v:= .int _ _) hbN rfl rfl qX (by first | decide | simp) rfl rfl (fun w5 hq s5=>?_);replace hB:=hB.u.tr1 s5 l0N;replace hC:=hC.st s5 (fun g hg=>by rw [List.mem_singleton.1 hg];first | exact .inl rfl | exact .inr or_hC_bN);replace hbN:=hq;refine zn4 ?_;refine wl (r_mf rfl) (zn5 ?_);replace hb8:=((hb8.tr0 s3).tr1 s4 oM).tr1 s5 oM;replace hb9:=hb9.tr1 s5 oM;refine xJ [16,17,18,19,20,21] 21 (.bool (decide (200 < n + 1∨40 < d))) nu ?_ (fun gq=>?_)
 ·refine zn4 ?_;refine zw 18 rfl (fun g18=>?_) (fun g18=>?_)
  ·refine zn3 ?_;refine zJ (e_R ⟨rfl,agA,?_⟩);exact clA
  refine zn5 ?_;refine zJ (e_R ⟨rfl,agA,?_⟩);exact clA
 refine e_S ?_;refine zX rfl (fun c21=>?_) (fun c21=>?_)
 ·refine zn3 ?_;refine y6 rfl VX (uk b9 _ _ _ hb9) rfl rfl (fun e' w6 hr=>?_);obtain⟨rfl,s6⟩:=hr;replace s6:=sB s6;replace hC:=hC.st s6 (by simp);refine⟨_,rfl,?_⟩;refine zk hb8.u rfl rfl zq rfl zQ (fun w7 hq s7=>?_);replace hC:=hC.st s7 (fun g hg=>by rw [List.mem_singleton.1 hg];first | exact .inl rfl | exact .inr or_hC_b8);replace hb8:=hq;refine zn4 ?_;refine x7 (.inl rfl) rfl (zy U36 rfl rfl hb8.range0 zq) ?_;rw [twk_out c21];exact⟨rfl,hC,hbN.u⟩
 refine Nk ?_;refine zX rfl (fun c28=>?_) (fun c28=>?_)
 ·refine yj (yj ?_);refine xJ (rg [] 30 9) 38 (.bool (decide (¬(t.index=0∧t.args.length=0)))) nu ?_ (fun gq=>?_)
  ·refine zn5 ?_;refine zw 33 rfl (fun g33=>?_) (fun g33=>?_)
   ·refine zn5 ?_;refine zJ (e_R ⟨rfl,agA,?_⟩);show Value.bool _=Value.bool _
    first | exact congrArg Value.bool (decide_eq_true (by exact fun h=>g33 h.1)).symm | exact congrArg Value.bool (decide_eq_decide.2 (by exact⟨fun k h=>k (by have:=h.2;omega),fun k e=>k ⟨Classical.not_not.1 g33,by omega⟩⟩))
   refine zn9 ?_;refine zJ (e_R ⟨rfl,agA,?_⟩);show Value.bool _=Value.bool _
   first | exact congrArg Value.bool (decide_eq_true (by exact fun h=>g33 h.1)).symm | exact congrArg Value.bool (decide_eq_decide.2 (by exact⟨fun k h=>k (by have:=h.2;omega),fun k e=>k ⟨Classical.not_not.1 g33,by omega⟩⟩))
  refine e_S ?_;refine zX rfl (fun c38=>?_) (fun c38=>?_)
  ·have hcd:ndC b t=5:=by unfold ndC;rw [if_pos c28,if_neg c38]
   refine zn3 ?_;refine y6 rfl VX (uk b9 _ _ _ hb9) rfl rfl (fun e' w8 hr=>?_);obtain⟨rfl,s8⟩:=hr;replace s8:=sB s8;replace hC:=hC.st s8 (by simp);refine⟨_,rfl,?_⟩;refine zk hb8.u rfl rfl zq rfl zQ (fun w9 hq s9=>?_);replace hC:=hC.st s9 (fun g hg=>by rw [List.mem_singleton.1 hg];first | exact .inl rfl | exact .inr or_hC_b8);replace hb8:=hq;refine zn6 ?_;refine x7 (.inl rfl) rfl (zy U36 rfl rfl hb8.range0 zq) ?_;rw [Zz c21 (show ndC b t=5 from hcd) dE];exact⟨rfl,hC,hbN.u⟩
  have c38:=Classical.not_not.1 c38;refine zn7 ?_;refine zV W4 (YV _ _) rfl (fun e' w10 hr=>?_);obtain⟨rfl,rfl⟩:=hr;refine⟨_,rfl,?_⟩;refine zn3 ?_;refine vK rfl (fun c44=>?_) (fun c44=>?_)
  ·have hcd:ndC b t=10:=by unfold ndC;rw [if_pos c28,if_pos c38,if_neg (by simpa using c44)]
   refine zn3 ?_;refine y6 rfl VX (uk b9 _ _ _ hb9) rfl rfl (fun e' w11 hr=>?_);obtain⟨rfl,s10⟩:=hr;replace s10:=sB s10;replace hC:=hC.st s10 (by simp);refine⟨_,rfl,?_⟩;refine zk hb8.u rfl rfl zq rfl zQ (fun w12 hq s11=>?_);replace hC:=hC.st s11 (fun g hg=>by rw [List.mem_singleton.1 hg];first | exact .inl rfl | exact .inr or_hC_b8);replace hb8:=hq;refine zn6 ?_;refine x7 (.inl rfl) rfl (zy U36 rfl rfl hb8.range0 zq) ?_;rw [Zz c21 (show ndC b t=10 from hcd) dE];exact⟨rfl,hC,hbN.u⟩
  have c44:xj t.name=true:=by simpa using c44
  refine zn5 ?_;refine wl (zY U41 rfl rfl (hb5.u.sub (n:=2) (xs:=[_,_]) rfl) x9) ?_;refine zV fn109 (R1 A c t.type _ (hS.mono hB)) rfl (fun e' w13 hr=>?_);obtain⟨rfl,s12⟩:=hr;replace s12:=sB s12;replace hC:=hC.st s12 (by simp);refine⟨_,rfl,?_⟩;refine wl (F1 (v:= .int _ _) U36 rfl U3 rfl rfl rfl) (zn3 ?_);refine zX rfl (fun c51=>?_) (fun c51=>?_)
  ·have hcd:ndC b t=12:=by unfold ndC;rw [if_pos c28,if_pos c38,if_pos c44,if_neg c51]
   refine zn3 ?_;refine y6 rfl VX (uk b9 _ _ _ hb9.u) rfl rfl (fun e' w14 hr=>?_);obtain⟨rfl,s13⟩:=hr;replace s13:=sB s13;replace hC:=hC.st s13 (by simp);refine⟨_,rfl,?_⟩;refine zk hb8.u rfl rfl zq rfl zQ (fun w15 hq s14=>?_);replace hC:=hC.st s14 (fun g hg=>by rw [List.mem_singleton.1 hg];first | exact .inl rfl | exact .inr or_hC_b8);replace hb8:=hq;refine zn5 ?_;refine x7 (.inl rfl) rfl (zy U36 rfl rfl hb8.range0 zq) ?_;rw [Zz c21 (show ndC b t=12 from hcd) dE];exact⟨rfl,hC,hbN.u⟩
  have c51:=Classical.not_not.1 c51;have hcd:ndC b t=0:=by unfold ndC;rw [if_pos c28,if_pos c38,if_pos c44,if_pos c51]
  have hl0:t.args= []:=List.length_eq_zero_iff.1 c38.2;refine zn5 ?_;refine wl (uW (vs:=#[]) (cs:=#[.int .i64 0,.int .i64 0]) (by simp) kR) ?_;refine zk hb8.u rfl rfl zq rfl zQ (fun w16 hq s15=>?_);replace hC:=hC.st s15 (fun g hg=>by rw [List.mem_singleton.1 hg];first | exact .inl rfl | exact .inr or_hC_b8);replace hb8:=hq;refine zn3 ?_;refine x7 (.inl rfl) rfl (zy U36 rfl rfl hb8.range0 zq) ?_;rw [GK c21 hcd hl0];exact⟨rfl,hC,hbN.u⟩
 refine zn6 ?_;refine zX rfl (fun c54=>?_) (fun c54=>?_)
 ·refine yj (yj ?_);refine yy (rg [] 56 15) (fun g w'=>(g 70= .bool (decide (¬(t.name=⟨#[]⟩∧Vj t.type∧t.args.length=0))))∧Same [] w5 w') ?_ (fun g16 w17 hI=>?_)
  ·have hZ:SameQ [] w5 w5:=Same.refl _ _;refine zn5 ?_;refine zw 59 rfl (fun g59=>?_) (fun g59=>?_)
   ·refine yZ ?_;refine e_R ⟨agA,?_⟩;refine⟨?_,hZ⟩
    first | exact congrArg Value.bool (decide_eq_true (by exact fun h=>g59 h.1)).symm | exact congrArg Value.bool (decide_eq_true (by exact fun h=>g65 h.2.1)).symm | exact congrArg Value.bool (decide_eq_decide.2 (by exact⟨fun k h=>k (by have:=h.2.2;omega),fun k e=>k ⟨Classical.not_not.1 g59,Classical.not_not.1 g65,by omega⟩⟩))
   refine zn3 ?_;refine wl (zY U41 rfl rfl (hb5.u.sub (n:=2) (xs:=[_,_]) rfl) x9) (zn1 ?_);refine zV fn110 (Fk A c t.type _) rfl (fun e' w18 hr=>?_);obtain⟨rfl,s16⟩:=hr;replace s16:=sB s16;replace hC:=hC.st s16 (by simp);replace hZ:=SameQ.trans hZ s16 (by simp);refine⟨_,rfl,?_⟩;refine zn4 ?_;refine zw 65 rfl (fun g65=>?_) (fun g65=>?_)
   ·refine zn6 ?_;refine e_R ⟨agA,?_⟩;refine⟨?_,hZ⟩
    first | exact congrArg Value.bool (decide_eq_true (by exact fun h=>g59 h.1)).symm | exact congrArg Value.bool (decide_eq_true (by exact fun h=>g65 h.2.1)).symm | exact congrArg Value.bool (decide_eq_decide.2 (by exact⟨fun k h=>k (by have:=h.2.2;omega),fun k e=>k ⟨Classical.not_not.1 g59,Classical.not_not.1 g65,by omega⟩⟩))
   refine yv ?_;refine e_R ⟨agA,?_⟩;refine⟨?_,hZ⟩
   first | exact congrArg Value.bool (decide_eq_true (by exact fun h=>g59 h.1)).symm | exact congrArg Value.bool (decide_eq_true (by exact fun h=>g65 h.2.1)).symm | exact congrArg Value.bool (decide_eq_decide.2 (by exact⟨fun k h=>k (by have:=h.2.2;omega),fun k e=>k ⟨Classical.not_not.1 g59,Classical.not_not.1 g65,by omega⟩⟩))
  obtain⟨h70,s17⟩:=hI;replace hC:=hC.st s17 (by simp);refine gV 70 _ h70 nu (e_S ?_);refine zX rfl (fun c70=>?_) (fun c70=>?_)
  ·have hcd:ndC b t=5:=by unfold ndC;rw [if_neg c28,if_pos c54,if_neg c70]
   refine zn3 ?_;refine y6 rfl VX (uk b9 _ _ _ hb9.u) rfl rfl (fun e' w19 hr=>?_);obtain⟨rfl,s18⟩:=hr;replace s18:=sB s18;replace hC:=hC.st s18 (by simp);refine⟨_,rfl,?_⟩;refine zk hb8.u rfl rfl zq rfl zQ (fun w20 hq s19=>?_);replace hC:=hC.st s19 (fun g hg=>by rw [List.mem_singleton.1 hg];first | exact .inl rfl | exact .inr or_hC_b8);replace hb8:=hq;refine zn6 ?_;refine x7 (.inl rfl) rfl (zy U36 rfl rfl hb8.range0 zq) ?_;rw [Zz c21 (show ndC b t=5 from hcd) dE];exact⟨rfl,hC,hbN.u⟩
  have c70:=Classical.not_not.1 c70;refine zn3 ?_;replace hbN:=hbN.tr0 s17;replace hb8:=hb8.tr0 s17;refine xJ (rg [] 73 9) 81 (.bool (decide (t.index < 0∨(b:Int)≤t.index))) nu ?_ (fun gq=>?_)
  ·refine zn5 ?_;refine zw 76 rfl (fun g76=>?_) (fun g76=>?_)
   ·refine zn5 ?_;refine zJ (e_R ⟨rfl,agA,?_⟩);exact clA
   refine zn9 ?_;refine zJ (e_R ⟨rfl,agA,?_⟩);exact clA
  refine e_S ?_;refine zX rfl (fun c81=>?_) (fun c81=>?_)
  ·have hcd:ndC b t=15:=by unfold ndC;rw [if_neg c28,if_pos c54,if_pos c70,if_pos c81]
   refine zn3 ?_;refine y6 rfl VX (uk b9 _ _ _ hb9.u) rfl rfl (fun e' w21 hr=>?_);obtain⟨rfl,s20⟩:=hr;replace s20:=sB s20;replace hC:=hC.st s20 (by simp);refine⟨_,rfl,?_⟩;refine zk hb8.u rfl rfl zq rfl zQ (fun w22 hq s21=>?_);replace hC:=hC.st s21 (fun g hg=>by rw [List.mem_singleton.1 hg];first | exact .inl rfl | exact .inr or_hC_b8);replace hb8:=hq;refine zn5 ?_;refine x7 (.inl rfl) rfl (zy U36 rfl rfl hb8.range0 zq) ?_;rw [Zz c21 (show ndC b t=15 from hcd) dE];exact⟨rfl,hC,hbN.u⟩
  have hcd:ndC b t=0:=by unfold ndC;rw [if_neg c28,if_pos c54,if_pos c70,if_neg c81]
  have hl0:t.args= []:=List.length_eq_zero_iff.1 c70.2.2;refine zn5 ?_;refine wl (uW (vs:=#[]) (cs:=#[.int .i64 0,.int .i64 0]) (by simp) kR) ?_;refine zk hb8 rfl rfl zq rfl zQ (fun w23 hq s22=>?_);replace hC:=hC.st s22 (fun g hg=>by rw [List.mem_singleton.1 hg];first | exact .inl rfl | exact .inr or_hC_b8);replace hb8:=hq;refine zn3 ?_;refine x7 (.inl rfl) rfl (zy U36 rfl rfl hb8.range0 zq) ?_;rw [GK c21 hcd hl0];exact⟨rfl,hC,hbN.u⟩
 refine zn6 ?_;refine zX rfl (fun c84=>?_) (fun c84=>?_)
 ·refine yj (yj ?_);refine xJ (rg [] 86 14) 99 (.bool (decide (¬(t.name=⟨#[]⟩∧t.index=0∧t.args.length=1)))) nu ?_ (fun gq=>?_)
  ·refine zn5 ?_;refine zw 89 rfl (fun g89=>?_) (fun g89=>?_)
   ·refine yv ?_;refine zJ (e_R ⟨rfl,agA,?_⟩);show Value.bool _=Value.bool _
    first | exact congrArg Value.bool (decide_eq_true (by exact fun h=>g89 h.1)).symm | exact congrArg Value.bool (decide_eq_true (by exact fun h=>g94 h.2.1)).symm | exact congrArg Value.bool (decide_eq_decide.2 (by exact⟨fun k h=>k (by have:=h.2.2;omega),fun k e=>k ⟨Classical.not_not.1 g89,Classical.not_not.1 g94,by omega⟩⟩))
   refine zn8 ?_;refine zw 94 rfl (fun g94=>?_) (fun g94=>?_)
   ·refine zn5 ?_;refine zJ (e_R ⟨rfl,agA,?_⟩);show Value.bool _=Value.bool _
    first | exact congrArg Value.bool (decide_eq_true (by exact fun h=>g89 h.1)).symm | exact congrArg Value.bool (decide_eq_true (by exact fun h=>g94 h.2.1)).symm | exact congrArg Value.bool (decide_eq_decide.2 (by exact⟨fun k h=>k (by have:=h.2.2;omega),fun k e=>k ⟨Classical.not_not.1 g89,Classical.not_not.1 g94,by omega⟩⟩))
   refine zn9 ?_;refine zJ (e_R ⟨rfl,agA,?_⟩);show Value.bool _=Value.bool _
   first | exact congrArg Value.bool (decide_eq_true (by exact fun h=>g89 h.1)).symm | exact congrArg Value.bool (decide_eq_true (by exact fun h=>g94 h.2.1)).symm | exact congrArg Value.bool (decide_eq_decide.2 (by exact⟨fun k h=>k (by have:=h.2.2;omega),fun k e=>k ⟨Classical.not_not.1 g89,Classical.not_not.1 g94,by omega⟩⟩))
  refine e_S ?_;refine zX rfl (fun c99=>?_) (fun c99=>?_)
  ·have hcd:ndC b t=5:=by unfold ndC;rw [if_neg c28,if_neg c54,if_pos c84,if_neg c99]
   refine zn3 ?_;refine y6 rfl VX (uk b9 _ _ _ hb9) rfl rfl (fun e' w24 hr=>?_);obtain⟨rfl,s23⟩:=hr;replace s23:=sB s23;replace hC:=hC.st s23 (by simp);refine⟨_,rfl,?_⟩;refine zk hb8.u rfl rfl zq rfl zQ (fun w25 hq s24=>?_);replace hC:=hC.st s24 (fun g hg=>by rw [List.mem_singleton.1 hg];first | exact .inl rfl | exact .inr or_hC_b8);replace hb8:=hq;refine zn6 ?_;refine x7 (.inl rfl) rfl (zy U36 rfl rfl hb8.range0 zq) ?_;rw [Zz c21 (show ndC b t=5 from hcd) dE];exact⟨rfl,hC,hbN.u⟩
  have c99:=Classical.not_not.1 c99;have h0l:0 < t.args.length:=by omega
  refine zn6 ?_;refine wl (zY U41 rfl rfl (hb5.u.sub (n:=2) (xs:=[_,_]) rfl) x9) ?_;refine zV fn109 (R1 A c t.type _ (hS.mono hB)) rfl (fun e' w26 hr=>?_);obtain⟨rfl,s25⟩:=hr;replace s25:=sB s25;replace hC:=hC.st s25 (by simp);refine⟨_,rfl,?_⟩;refine wl (F1 (v:= .int _ _) U36 rfl U3 rfl rfl rfl) (zn3 ?_);refine zX rfl (fun c106=>?_) (fun c106=>?_)
  ·have hcd:ndC b t=12:=by unfold ndC;rw [if_neg c28,if_neg c54,if_pos c84,if_pos c99,if_neg c106]
   refine zn3 ?_;refine y6 rfl VX (uk b9 _ _ _ hb9.u) rfl rfl (fun e' w27 hr=>?_);obtain⟨rfl,s26⟩:=hr;replace s26:=sB s26;replace hC:=hC.st s26 (by simp);refine⟨_,rfl,?_⟩;refine zk hb8.u rfl rfl zq rfl zQ (fun w28 hq s27=>?_);replace hC:=hC.st s27 (fun g hg=>by rw [List.mem_singleton.1 hg];first | exact .inl rfl | exact .inr or_hC_b8);replace hb8:=hq;refine zn6 ?_;refine x7 (.inl rfl) rfl (zy U36 rfl rfl hb8.range0 zq) ?_;rw [Zz c21 (show ndC b t=12 from hcd) dE];exact⟨rfl,hC,hbN.u⟩
  have c106:=Classical.not_not.1 c106;have hcd:ndC b t=0:=by unfold ndC;rw [if_neg c28,if_neg c54,if_pos c84,if_pos c99,if_pos c106]
  obtain⟨tb,to,A0,c0,B0,m0,rfl,htb,htr,ks0,kt0⟩:=hT.at_ h0l;have hgo:=twk_one c21 hcd (by rw [inB,if_pos c84]:inB t b=b + 1) c99.2.2 h0l;refine zn3 ?_;refine XQ 9 kR kR (fun w29 s28=>?_);replace hC:=hC.st s28 (by simp);refine zn3 ?_;refine ws (xk (i:=0) U42 VY rfl rfl h0l rfl) (zn5 ?_);refine X8 ?_;refine y6 rfl fn107 (IH (t.args[0]'h0l) (List.getElem_mem h0l) A0 B0 c0 m0 (d + 1) (b + 1) (n + 1) _ ks0 kt0 oM oM oM hB.u hbN.u hbV.u) rfl rfl (fun e' w30 hr=>?_);obtain⟨rfl,hC2,hbN2⟩:=hr;replace hC:=hC.trans hC2 (fun g hg=> .inl hg);replace hb8:=hb8.tr0 (s25.trans s28);replace hb8:=hb8.chG hC2 (fun hx=>by have hx:b8=bN:=hx;omega);replace hbN:=hbN2;refine⟨_,rfl,?_⟩;refine zk hb8 rfl rfl zq rfl zQ (fun w31 hq s29=>?_);replace hC:=hC.st s29 (fun g hg=>by rw [List.mem_singleton.1 hg];first | exact .inl rfl | exact .inr or_hC_b8);replace hb8:=hq;refine zn5 ?_;refine x7 (.inl rfl) rfl (zy U36 rfl rfl hb8.range0 zq) ?_;rw [hgo];exact⟨rfl,hC,hbN.u⟩
 refine zn6 ?_;refine zX rfl (fun c119=>?_) (fun c119=>?_)
 ·refine yj (yj ?_);refine yy (rg [] 121 20) (fun g w'=>(g 140= .bool (decide (¬(t.name=⟨#[]⟩∧t.index=0∧Vj t.type∧t.args.length=2))))∧Same [] w5 w') ?_ (fun g27 w32 hI=>?_)
  ·have hZ:SameQ [] w5 w5:=Same.refl _ _;refine zn5 ?_;refine zw 124 rfl (fun g124=>?_) (fun g124=>?_)
   ·refine J9 ?_;refine e_R ⟨agA,?_⟩;refine⟨?_,hZ⟩
    first | exact congrArg Value.bool (decide_eq_true (by exact fun h=>g124 h.1)).symm | exact congrArg Value.bool (decide_eq_true (by exact fun h=>g129 h.2.1)).symm | exact congrArg Value.bool (decide_eq_true (by exact fun h=>g135 h.2.2.1)).symm | exact congrArg Value.bool (decide_eq_decide.2 (by exact⟨fun k h=>k (by have:=h.2.2.2;omega),fun k e=>k ⟨Classical.not_not.1 g124,Classical.not_not.1 g129,Classical.not_not.1 g135,by omega⟩⟩))
   refine zn8 ?_;refine zw 129 rfl (fun g129=>?_) (fun g129=>?_)
   ·refine yZ ?_;refine e_R ⟨agA,?_⟩;refine⟨?_,hZ⟩
    first | exact congrArg Value.bool (decide_eq_true (by exact fun h=>g124 h.1)).symm | exact congrArg Value.bool (decide_eq_true (by exact fun h=>g129 h.2.1)).symm | exact congrArg Value.bool (decide_eq_true (by exact fun h=>g135 h.2.2.1)).symm | exact congrArg Value.bool (decide_eq_decide.2 (by exact⟨fun k h=>k (by have:=h.2.2.2;omega),fun k e=>k ⟨Classical.not_not.1 g124,Classical.not_not.1 g129,Classical.not_not.1 g135,by omega⟩⟩))
   refine zn3 ?_;refine wl (zY U41 rfl rfl (hb5.u.sub (n:=2) (xs:=[_,_]) rfl) x9) (zn1 ?_);refine zV fn110 (Fk A c t.type _) rfl (fun e' w33 hr=>?_);obtain⟨rfl,s30⟩:=hr;replace s30:=sB s30;replace hC:=hC.st s30 (by simp);replace hZ:=SameQ.trans hZ s30 (by simp);refine⟨_,rfl,?_⟩;refine zn4 ?_;refine zw 135 rfl (fun g135=>?_) (fun g135=>?_)
   ·refine zn6 ?_;refine e_R ⟨agA,?_⟩;refine⟨?_,hZ⟩
    first | exact congrArg Value.bool (decide_eq_true (by exact fun h=>g124 h.1)).symm | exact congrArg Value.bool (decide_eq_true (by exact fun h=>g129 h.2.1)).symm | exact congrArg Value.bool (decide_eq_true (by exact fun h=>g135 h.2.2.1)).symm | exact congrArg Value.bool (decide_eq_decide.2 (by exact⟨fun k h=>k (by have:=h.2.2.2;omega),fun k e=>k ⟨Classical.not_not.1 g124,Classical.not_not.1 g129,Classical.not_not.1 g135,by omega⟩⟩))
   refine yv ?_;refine e_R ⟨agA,?_⟩;refine⟨?_,hZ⟩
   first | exact congrArg Value.bool (decide_eq_true (by exact fun h=>g124 h.1)).symm | exact congrArg Value.bool (decide_eq_true (by exact fun h=>g129 h.2.1)).symm | exact congrArg Value.bool (decide_eq_true (by exact fun h=>g135 h.2.2.1)).symm | exact congrArg Value.bool (decide_eq_decide.2 (by exact⟨fun k h=>k (by have:=h.2.2.2;omega),fun k e=>k ⟨Classical.not_not.1 g124,Classical.not_not.1 g129,Classical.not_not.1 g135,by omega⟩⟩))
  obtain⟨h140,s31⟩:=hI;replace hC:=hC.st s31 (by simp);refine gV 140 _ h140 nu (e_S ?_);refine zX rfl (fun c140=>?_) (fun c140=>?_)
  ·have hcd:ndC b t=5:=by unfold ndC;rw [if_neg c28,if_neg c54,if_neg c84,if_pos c119,if_neg c140]
   refine zn3 ?_;refine y6 rfl VX (uk b9 _ _ _ hb9.u) rfl rfl (fun e' w34 hr=>?_);obtain⟨rfl,s32⟩:=hr;replace s32:=sB s32;replace hC:=hC.st s32 (by simp);refine⟨_,rfl,?_⟩;refine zk hb8.u rfl rfl zq rfl zQ (fun w35 hq s33=>?_);replace hC:=hC.st s33 (fun g hg=>by rw [List.mem_singleton.1 hg];first | exact .inl rfl | exact .inr or_hC_b8);replace hb8:=hq;refine zn6 ?_;refine x7 (.inl rfl) rfl (zy U36 rfl rfl hb8.range0 zq) ?_;rw [Zz c21 (show ndC b t=5 from hcd) dE];exact⟨rfl,hC,hbN.u⟩
  have c140:=Classical.not_not.1 c140;have h0l:0 < t.args.length:=by omega
  have h1l:1 < t.args.length:=by omega
  have hcd:ndC b t=0:=by unfold ndC;rw [if_neg c28,if_neg c54,if_neg c84,if_pos c119,if_pos c140]
  obtain⟨tb,to,A0,c0,B0,m0,rfl,htb,htr,ks0,kt0⟩:=hT.at_ h0l;obtain⟨_,_,A1,c1,B1,m1,e1,_,htr1,ks1,kt1⟩:=hT.at_ h1l;cases e1;have hgo:=twk_two c21 hcd (by rw [inB,if_neg c84]:inB t b=b) c140.2.2.2 h0l h1l;refine zn4 ?_;replace hbN:=hbN.tr0 s31;have ltNW:=hbN.lt;replace hB:=hB.tr0 s31;have hsz0:=Bel.size hB;replace hb5:=(((hb5.tr0 (s2.trans s3)).tr1 s4 oM).tr1 s5 oM).tr0 s31;have lt5W:=hb5.lt;replace hb8:=hb8.tr0 s31;have lt8W:=hb8.lt;replace hb9:=hb9.tr0 s31;have lt9W:=hb9.lt;replace hbV:=(((hbV.tr0 (s1.trans (s2.trans s3))).tr1 s4 oM).tr1 s5 oM).tr0 s31;have ltVW:=hbV.lt;have szCW:=hC.size;refine Wk 10 [143,144,145,146,147,148,149,150,151,11] [bN] 8 (fun ix v wv=>match ix with | 0=>v= .func (.func 107) #[] #[.pointer (some ⟨bN,0,none⟩),.pointer (some ⟨bV,0,none⟩)] | 1=>v= .pointer (some ⟨b5,0 + 5,none⟩) | 2=>v= .slice (some ⟨tb,to,none⟩) t.args.length m | 3=>v= .pointer (some ⟨tb,to + 0 * 6,none⟩) | 4=>v= .agg #[.int .i64 ((t.args[0]'h0l)).kind,.string ((t.args[0]'h0l)).name,.int .i64 ((t.args[0]'h0l)).index,.string ((t.args[0]'h0l)).type.base,.slice A0 ((t.args[0]'h0l)).type.args.length c0,.slice B0 ((t.args[0]'h0l)).args.length m0] | 5=>v= .int .i64 d | 6=>v= .int .i64 ((d:Nat) + 1:Int) | 7=>v= .int .i64 b | 8=>v= .agg #[.int .i64 (twk (t.args[0]'h0l) (d + 1) b (n + 1)).2.1,.int .i64 (twk (t.args[0]'h0l) (d + 1) b (n + 1)).2.2] | 9=>∃ bq,v= .pointer (some ⟨bq,0,none⟩)∧w32.heap.size≤bq∧Blk wv bq 36 #[.int .i64 0,.int .i64 0] | _=>True) (fun wq=>Blk wq bN 3 #[.int .i64 (((twk (t.args[0]'h0l) (d + 1) b (n + 1)).1:Nat):Int)]) kR kR ?_ (fun _ _ h hs=>Blk.tr0 h hs) ?_ ?_ dE ?_
  ·intro ix v wv wv2 h s34
   match ix,h with
   | 0,h=>exact h
   | 1,h=>exact h
   | 2,h=>exact h
   | 3,h=>exact h
   | 4,h=>exact h
   | 5,h=>exact h
   | 6,h=>exact h
   | 7,h=>exact h
   | 8,h=>exact h
   | 9,h=>
    obtain⟨b11,e11,lo11,hb11⟩:=h;exact⟨b11,e11,lo11,hb11.tr0 s34⟩
   | _ + 10,h=>exact trivial
  ·intro ix o hix hne hoq gg wx s35 hd
   match ix,hix,hne,hoq with
   | 0,_,_,hoq=>
    cases sI hoq;refine xW (qV (v:= .func _ _ _) Tryz.underlying167 rfl rfl (hbV.u.cell rfl)) ⟨Same.refl _ _,?_⟩;exact rfl
   | 1,_,_,hoq=>
    cases sI hoq;refine xW (X2 U44 sz42 dE rfl rfl rfl) ⟨Same.refl _ _,?_⟩;exact rfl
   | 2,_,_,hoq=>
    cases sI hoq;refine zx 144 _ (hd 1 (zj kR)) nu ?_;refine xW (qV (v:= .slice _ _ _) U42 rfl rfl (hb5.u.cell rfl)) ⟨Same.refl _ _,?_⟩;exact rfl
   | 3,_,_,hoq=>
    cases sI hoq;refine zx 145 _ (hd 2 (zj kR)) nu ?_;refine xW (xk (i:=0) U42 VY rfl rfl h0l rfl) ⟨Same.refl _ _,?_⟩;exact rfl
   | 4,_,_,hoq=>
    cases sI hoq;replace hB:=hB.tr1 s35 l0N;refine zx 146 _ (hd 3 (zj kR)) nu ?_;refine xW (zY U44 rfl rfl (hB.range htb htr) VY) ⟨Same.refl _ _,?_⟩;exact rfl
   | 5,_,_,hoq=>
    cases sI hoq;refine xW (yq (v:= .int _ _) rfl) ⟨Same.refl _ _,?_⟩;exact rfl
   | 6,_,_,hoq=>
    cases sI hoq;refine zx 148 _ (hd 5 (zj kR)) nu ?_;refine xW (Z9 rfl rfl rfl oM) ⟨Same.refl _ _,?_⟩;exact rfl
   | 7,_,_,hoq=>
    cases sI hoq;refine xW (yq (v:= .int _ _) rfl) ⟨Same.refl _ _,?_⟩;exact rfl
   | 8,_,hne,_=>exact absurd rfl hne
   | 9,_,_,hoq=>
    cases sI hoq;have hs0:=s35;refine jk (fun ops Q K=>?_);refine qq (cs:=#[.int .i64 0,.int .i64 0]) qv rfl (fun b11 w36 hb11 s36 hr=>?_);exact K _ _ ⟨s36,⟨_,rfl,nLT hs0.size hr,hb11⟩⟩
   | _ + 10,hix,_,_=>exact absurd hix oM
  ·intro o hoq gg wx s37 hd;cases sI hoq;replace hC:=hC.st s37 (by simp);refine zx 143 _ (hd 0 (zj kR)) nu (zx 147 _ (hd 4 (zj kR)) nu (zx 149 _ (hd 6 (zj kR)) nu (zx 150 _ (hd 7 (zj kR)) nu ?_)));refine jk (fun ops Q K=>?_);refine y6 rfl fn107 (IH (t.args[0]'h0l) (List.getElem_mem h0l) A0 B0 c0 m0 (d + 1) b (n + 1) _ ks0 kt0 oM oM oM hB.u hbN.u hbV.u) rfl rfl (fun e' w2 hr=>?_);obtain⟨rfl,hC2,hP2⟩:=hr;have hs2:=hC2.one;refine⟨_,rfl,K _ _ ⟨hs2,rfl,hP2,fun kx v hne h=>?_⟩⟩
   match kx,hne,h with
   | 0,_,h=>exact h
   | 1,_,h=>exact h
   | 2,_,h=>exact h
   | 3,_,h=>exact h
   | 4,_,h=>exact h
   | 5,_,h=>exact h
   | 6,_,h=>exact h
   | 7,_,h=>exact h
   | 8,hne,_=>exact absurd rfl hne
   | 9,_,h=>
    obtain⟨b11,e11,lo11,hb11⟩:=h;exact⟨b11,e11,lo11,hb11.tr1 hs2 oM⟩
   | _ + 10,_,_=>exact trivial
  intro gg w37 s38 hP2 hR;replace hB:=hB.tr1 s38 l0N;replace hC:=hC.st s38 (fun g hg=>by rw [List.mem_singleton.1 hg];first | exact .inl rfl | exact .inr or_hC_bN);replace hbN:=hP2;obtain⟨b11,e11,lo11,hb11⟩:=hR 9 dE;have or_hC_b11:w.heap.size≤b11:=by omega
  refine xK 151 _ (hR 8 dE) nu (xK 11 _ e11 nu ?_);refine zk hb11 rfl rfl zq rfl zQ (fun w38 hq s39=>?_);replace hB:=hB.tr1 s39 (nLT hsz0 lo11);replace hC:=hC.st s39 (fun g hg=>by rw [List.mem_singleton.1 hg];first | exact .inl rfl | exact .inr or_hC_b11);replace hb11:=hq;refine zn9 ?_;refine zX rfl (fun c154=>?_) (fun c154=>?_)
  ·rw [if_neg c154] at hgo;refine zn3 ?_;refine zk hb8.u rfl rfl zq rfl zQ (fun w39 hq s40=>?_);replace hC:=hC.st s40 (fun g hg=>by rw [List.mem_singleton.1 hg];first | exact .inl rfl | exact .inr or_hC_b8);replace hb8:=hq;refine zn6 ?_;refine x7 (.inl rfl) rfl (zy U36 rfl rfl hb8.range0 zq) ?_;rw [hgo];exact⟨rfl,hC,hbN.u⟩
  have c154:(twk (t.args[0]'h0l) (d + 1) b (n + 1)).2.1=0:=Classical.not_not.1 c154;rw [if_pos c154] at hgo;obtain⟨_,_,_,q1,q2⟩:=Ij _ _ _ _ c154;have hn3:(twk (t.args[0]'h0l) (d + 1) b (n + 1)).1≤200:=by rw [q1];exact q2
  refine zn3 ?_;refine XQ 8 kR kR (fun w40 s41=>?_);replace hC:=hC.st s41 (by simp);refine zn3 ?_;refine ws (xk (i:=1) U42 VY rfl rfl h1l rfl) (zn4 ?_);refine X8 ?_;refine y6 rfl fn107 (IH (t.args[1]'h1l) (List.getElem_mem h1l) A1 B1 c1 m1 (d + 1) (b) ((twk (t.args[0]'h0l) (d + 1) b (n + 1)).1) _ ks1 kt1 hn3 oM oM hB.u hbN.u hbV.u) rfl rfl (fun e' w41 hr=>?_);obtain⟨rfl,hC2,hbN2⟩:=hr;replace hC:=hC.trans hC2 (fun g hg=> .inl hg);replace hb8:=((hb8.tr1 s38 oM).tr1 s39 oM).tr0 s41;replace hb8:=hb8.chG hC2 (fun hx=>by have hx:b8=bN:=hx;omega);replace hbN:=hbN2;refine⟨_,rfl,?_⟩;refine zk hb8 rfl rfl zq rfl zQ (fun w42 hq s42=>?_);replace hC:=hC.st s42 (fun g hg=>by rw [List.mem_singleton.1 hg];first | exact .inl rfl | exact .inr or_hC_b8);replace hb8:=hq;refine zn5 ?_;refine x7 (.inl rfl) rfl (zy U36 rfl rfl hb8.range0 zq) ?_;rw [hgo];exact⟨rfl,hC,hbN.u⟩
 have hcd:ndC b t=4:=by unfold ndC;rw [if_neg c28,if_neg c54,if_neg c84,if_neg c119]
 refine zn3 ?_;refine y6 rfl VX (uk b9 _ _ _ hb9) rfl rfl (fun e' w43 hr=>?_);obtain⟨rfl,s43⟩:=hr;replace s43:=sB s43;replace hC:=hC.st s43 (by simp);refine⟨_,rfl,?_⟩;refine zk hb8.u rfl rfl zq rfl zQ (fun w44 hq s44=>?_);replace hC:=hC.st s44 (fun g hg=>by rw [List.mem_singleton.1 hg];first | exact .inl rfl | exact .inr or_hC_b8);replace hb8:=hq;refine zn5 ?_;refine x7 (.inl rfl) rfl (zy U36 rfl rfl hb8.range0 zq) ?_;rw [Zz c21 (show ndC b t=4 from hcd) dE];exact⟨rfl,hC,hbN.u⟩
theorem twk_anyK {w0:World} {bN bV:Nat} (l0N:w0.heap.size≤bN) (_l0V:w0.heap.size≤bV) (nVN:bV≠bN):∀ (k:Nat) (t:Tm),SizeOf.sizeOf t < k→∀ (A B:Option Addr) (c m d b n:Nat) (w:World),SimsIn w0 A t.type.args→TmsIn w0 B t.args→n≤200→d≤41→b≤d→Bel w0 w→Blk w bN 3 #[.int .i64 ((n:Nat):Int)]→Blk w bV 167 #[.func (.func 107) #[] #[.pointer (some ⟨bN,0,none⟩),.pointer (some ⟨bV,0,none⟩)]]→Calls Tryz.prog 107 #[.agg #[.int .i64 (t).kind,.string (t).name,.int .i64 (t).index,.string (t).type.base,.slice A (t).type.args.length c,.slice B (t).args.length m],.int .i64 ((d:Nat):Int),.int .i64 ((b:Nat):Int),.pointer (some ⟨bN,0,none⟩),.pointer (some ⟨bV,0,none⟩)] w fun e w'=>e= .returned (flV (twk t d b n).2)∧ChG (fun g=>g=bN) w w'∧Blk w' bN 3 #[.int .i64 (((twk t d b n).1:Nat):Int)]:=by
  intro k
  induction k with
  | zero=>intro t h;omega
  | succ k ih=>
    intro t h A B c m d b n w hS hT hn hd hbd hB hbN hbV;refine twk_step l0N _l0V nVN hS hT (fun x hx A2 B2 c2 m2 d2 b2 n2 w2 h1 h2 h3 h4 h5 h6 h7 h8=>ih x ?_ A2 B2 c2 m2 d2 b2 n2 w2 h1 h2 h3 h4 h5 h6 h7 h8) hn hd hbd hB hbN hbV;have:=List.sizeOf_lt_of_mem hx;cases t with
    | mk k nm i s l=>simp only [Tm.mk.sizeOf_spec,Tm.args] at h this;omega
theorem twk_any {w0:World} {bN bV:Nat} (l0N:w0.heap.size≤bN) (_l0V:w0.heap.size≤bV) (nVN:bV≠bN)  (t:Tm) (A B:Option Addr) (c m d b n:Nat) (w:World):SimsIn w0 A t.type.args→TmsIn w0 B t.args→n≤200→d≤41→b≤d→Bel w0 w→Blk w bN 3 #[.int .i64 ((n:Nat):Int)]→Blk w bV 167 #[.func (.func 107) #[] #[.pointer (some ⟨bN,0,none⟩),.pointer (some ⟨bV,0,none⟩)]]→Calls Tryz.prog 107 #[.agg #[.int .i64 (t).kind,.string (t).name,.int .i64 (t).index,.string (t).type.base,.slice A (t).type.args.length c,.slice B (t).args.length m],.int .i64 ((d:Nat):Int),.int .i64 ((b:Nat):Int),.pointer (some ⟨bN,0,none⟩),.pointer (some ⟨bV,0,none⟩)] w fun e w'=>e= .returned (flV (twk t d b n).2)∧ChG (fun g=>g=bN) w w'∧Blk w' bN 3 #[.int .i64 (((twk t d b n).1:Nat):Int)]:=twk_anyK l0N _l0V nVN (SizeOf.sizeOf t + 1) t (Nat.lt_succ_self _) A B c m d b n w
end Go.Proofs.YtbcpgfnfiekbiaaGreatDoor
