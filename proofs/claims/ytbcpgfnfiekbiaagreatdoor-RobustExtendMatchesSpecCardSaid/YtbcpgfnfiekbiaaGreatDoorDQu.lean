/- What these functions of the program compute, at every world: glosswright/glosswrightequal.graphOf. What these functions of the program compute, at every world: glosswright/glosswrightequal.Small$1. What these functions of the program compute, at every world: glosswright/glosswrightequal.hierarchyOf. What these functions of the program compute, at every world: glosswright/glosswrightequal.base, glosswright/glosswrightequal.fun, glosswright/glosswrightequal.con, glosswright/glosswrightequal.bound, glosswright/glosswrightequal.abs, glosswright/glosswrightequal.app. What these functions of the program compute, at every world: glosswright/glosswrightequal.quantified, glosswright/glosswrightequal.quantified. -/
import Derived.Test.YtbcpgfnfiekbiaaGreatDoorU
import Derived.Test.YtbcpgfnfiekbiaaGreatDoorTrm
import Derived.Test.YtbcpgfnfiekbiaaGreatDoorLxd
import Derived.Test.YtbcpgfnfiekbiaaGreatDoorStk
import Derived.Test.YtbcpgfnfiekbiaaGreatDoorSml
namespace Go.Proofs.YtbcpgfnfiekbiaaGreatDoor
open Go.RowKit
theorem in113_DGo:(Tryz.prog.info? 113).map (fun i=>(i.zero,i.size,i.bytes))=some (some (.agg #[.int .i64 0,.slice none 0 0]),2,32):=by kernel_rfl
theorem in115_DGo:(Tryz.prog.info? 115).map (fun i=>(i.zero,i.size,i.bytes))=some (some (.agg #[.int .i64 0,.int .i64 0]),2,16):=by kernel_rfl
theorem D6:(Tryz.prog.info? 111).map (·.size)=some 1:=by kernel_rfl
theorem D5:(Tryz.prog.info? 113).map (·.size)=some 2:=by kernel_rfl
theorem sz115_DGo:(Tryz.prog.info? 115).map (·.size)=some 2:=by kernel_rfl
theorem sz28_DGo:(Tryz.prog.info? 28).map (·.size)=some 1:=by kernel_rfl
theorem qq:(Tryz.prog.info? 3).map (·.size)=some 1:=by kernel_rfl
theorem EV:(Tryz.prog.info? 30).map (·.size)=some 1:=by kernel_rfl
theorem xY:(Tryz.prog.info? 66).map (·.size)=some 1:=by kernel_rfl
theorem PV:(Tryz.prog.info? 113).map (·.zero)=some (some (.agg #[.int .i64 0,.slice none 0 0])):=by kernel_rfl
theorem ze115_DGo:(Tryz.prog.info? 115).map (·.zero)=some (some (.agg #[.int .i64 0,.int .i64 0])):=by kernel_rfl
theorem SW:(Tryz.prog.info? 30).map (·.zero)=some (some (.agg #[.slice none 0 0])):=by kernel_rfl
set_option maxHeartbeats 2000000 in
theorem oZ (A:Option Addr) (c:Nat) (rs:List (List Int)) (w:World) (hR:RowsIn w A rs):Calls Tryz.prog 21 #[.slice A rs.length c] w fun e w'=>(∃ A' cap,e= .returned (.agg #[.slice A' rs.length cap])∧Fz [] w'.heap.size TS w' (fun w=>NodesIn w A' (rs.map Yq)))∧Bel w w':=by
 have hrl:=hR.1;have hrr:=hR.2.1;refine enT Tryz.func21 Tryz.ntmps21 rfl rfl fun hB=>?_;refine zn2 ?_;refine zY (cs:=#[.slice none 0 0]) SW rfl (fun b2 w1 hb2 s1 hr=>?_);have lo2:=nLT (Bel.size hB) hr;refine zn4 ?_;refine zY (cs:=#[.slice none 0 0]) SW rfl (fun b3 w2 hb3 s2 hr=>?_);have:=nLL hb2.lt hr;have lo3:=nLT (Bel.size hB.u) hr;refine yx ?_;refine zK (rg [5,6,7] 10 37) (fun m g w'=>∃ (k:Nat) (A3:Option Addr) (cap3:Nat) (xs3:List Value) (n3:Nat),k≤rs.length∧m=rs.length - k∧g 10= .int .i64 k∧Bel w w'∧Blk w' b2 30 #[.slice none 0 0]∧Blk w' b3 30 #[.slice A3 k cap3]∧Own w' (b3 + 1) 113 2 A3 k cap3 xs3∧Fz [] n3 TS1 w' (fun w=>NdData w ((rs.take k).map Yq) xs3)) (rs.length) ?_ (fun m g3 w3 hI=>?_)
 ·exact⟨0,none,0,[],_,Nat.zero_le _,rfl,rfl,hB.u,hb2.u,hb3,Own.nil _ _ _ _,Fz.triv [] _ TS1 (fun _=>NdData.nil)⟩
 obtain⟨k,A3,cap3,xs3,n3,hk,hm,h10,hB,hb2,hb3,ho3,hnd⟩:=hI;refine zQ 10 _ h10 nu (zn6 ?_);refine zy rfl (fun c11=>?_) (fun c11=>?_)
 ·have hlt:k < rs.length:=by omega
  have hrk:=hrr _ (List.getElem_mem hlt);obtain⟨rb,ro,Ar,cr,rfl,hrc,hri⟩:=hR.at_ hB hlt;refine zn7 ?_;refine wl (qZ (v:= .slice _ _ _) U66 rfl rfl hrc) (zn4 ?_);obtain⟨pb,po,rfl,hpb,hpc⟩:=hri.2 (by intro h;rw [h] at hrk;simp at hrk);have hc0:=hB.cell hpb (hpc 0 hrk.1);obtain⟨z0,hz0⟩:∃ z,z=(rs[k]'hlt)[0]'hrk.1:=⟨_,rfl⟩
  rw [← hz0] at hc0;refine zn2 ?_;refine wl (xw (i:=0) U66 qq rfl rfl om rfl) (wl (qZ (v:= .int _ _) U3 rfl rfl hc0) (wl (V8 (v0:= .int _ _) (fun v0=>#[v0,.slice none 0 0]) rfl kR) ?_));refine xW (cs:=#[.int .i64 0,.slice none 0 0]) PV rfl (fun _=>rfl) (fun _=>rfl) D5 rfl zX (fun b6 w5 hb6 s3 hr=>?_);have:=nLL hb2.lt hr;have:=nLL hb3.lt hr;have or_ho3_b6:=fun g hg=>nLL (ho3.lt g hg).2 hr
  have or_hnd_b6:=nLT hnd.le hr;have lo6:=nLT (Bel.size hB) hr;refine zn9 ?_;replace ho3:=ho3.tr0 s3;replace hnd:=hnd.tr0 s3;refine zK (rg [7] 18 22) (fun m g w'=>∃ (i j:Nat) (A6:Option Addr) (cap6:Nat) (ls6:List (Int×Int)),1≤i∧j≤i∧i≤(rs[k]'hlt).length + 1∧m=(rs[k]'hlt).length + 2 - i∧g 7= .int .i64 i∧Qw ((rs[k]'hlt).drop 1)=ls6 ++ Qw ((rs[k]'hlt).drop i)∧Bel w w'∧Blk w' b2 30 #[.slice none 0 0]∧Blk w' b3 30 #[.slice A3 k cap3]∧Own w' (b3 + 1) 113 2 A3 k cap3 xs3∧Blk w' b6 113 #[.int .i64 z0,.slice A6 j cap6]∧Own w' (b6 + 1) 115 2 A6 j cap6 (lnC ls6)∧Fz [] n3 TS1 w' (fun w=>NdData w ((rs.take k).map Yq) xs3)) ((rs[k]'hlt).length + 1) ?_ (fun m g7 w6 hI=>?_)
  ·exact⟨1,0,none,0,[],Nat.le_refl _,Nat.zero_le _,by omega,rfl,rfl,rfl,hB.u,hb2.u,hb3.u,ho3,hb6,Own.nil _ _ _ _,hnd⟩
  obtain⟨i,j,A6,cap6,ls6,hi1,hji,hil,hm7,h7,hpr,hB,hb2,hb3,ho3,hb6,ho6,hnd⟩:=hI;refine zQ 7 _ h7 nu (zn4 ?_);refine wl (I6 (c:=((i + 1:Nat):Int)) rfl rfl rfl om) (zn5 ?_);refine zy rfl (fun c22=>?_) (fun c22=>?_)
  ·have hi0:i < (rs[k]'hlt).length:=by omega
   have hi2:i + 1 < (rs[k]'hlt).length:=by omega
   have hca:=hB.cell hpb (hpc i hi0);have hcb:=hB.cell hpb (hpc (i + 1) hi2);obtain⟨za,hza⟩:∃ z,z=(rs[k]'hlt)[i]'hi0:=⟨_,rfl⟩
   obtain⟨zb,hzb⟩:∃ z,z=(rs[k]'hlt)[i + 1]'hi2:=⟨_,rfl⟩
   rw [← hza] at hca;rw [← hzb] at hcb;have hpr2:Qw ((rs[k]'hlt).drop 1)=(ls6 ++ [(za,zb)]) ++ Qw ((rs[k]'hlt).drop (i + 2)):=by rw [hpr,L2 hi2,← hza,← hzb,List.append_assoc];rfl
   refine zn4 ?_;have z2:=hb2.lt;have z3:=hb3.lt;have z6:=hb6.lt;have zo3:=fun g hg=>(ho3.lt g hg).2
   have zo6:=fun g hg=>(ho6.lt g hg).2
   have hsz:=Bel.size hB;replace hca:=fun(w1:World) (h:Bel w6 w1)=>h.cell (nLL hpb hsz) hca
   replace hcb:=fun(w1:World) (h:Bel w6 w1)=>h.cell (nLL hpb hsz) hcb
   refine jZ 13 (rg [] 25 13) (fun ix=>Nat.beq ix 12) (fun ix v wv=>match ix with | 0=>v= .pointer (some ⟨b6,1,none⟩) | 1=>v= .slice A6 j cap6 | 2=>v= .slice (some ⟨pb,po,none⟩) (rs[k]'hlt).length cr | 3=>v= .int .i64 i | 4=>v= .pointer (some ⟨pb,po + i * 1,none⟩) | 5=>v= .int .i64 za | 6=>v= .slice (some ⟨pb,po,none⟩) (rs[k]'hlt).length cr | 7=>v= .int .i64 i | 8=>v= .int .i64 ((i + 1:Nat):Int) | 9=>v= .pointer (some ⟨pb,po + (i + 1) * 1,none⟩) | 10=>v= .int .i64 zb | 11=>v= .agg #[.int .i64 za,.int .i64 zb] | 12=>∃ b,v= .slice (some ⟨b,0,none⟩) 1 1∧w6.heap.size≤b∧Blk wv b 115 #[.int .i64 za,.int .i64 zb] | _=>True) kR kR ?_ ?_ ?_
   ·intro ix v wv wv2 h s4
    match ix,h with
    | 0,h=>exact h
    | 1,h=>exact h
    | 2,h=>exact h
    | 3,h=>exact h
    | 4,h=>exact h
    | 5,h=>exact h
    | 6,h=>exact h
    | 7,h=>exact h
    | 8,h=>exact h
    | 9,h=>exact h
    | 10,h=>exact h
    | 11,h=>exact h
    | 12,h=>
     obtain⟨b37,e37,lo37,hb37⟩:=h;exact⟨b37,e37,lo37,hb37.tr0 s4⟩
    | _ + 13,h=>exact trivial
   ·intro ix o hix hoq gg wx s5 hd hdis
    match ix,hix,hoq with
    | 0,_,hoq=>
     cases sI hoq;exact oVq (uk IJ D6 dE rfl rfl rfl) rfl
    | 1,_,hoq=>
     cases sI hoq;refine zz 25 _ (hd 0 (zq kR)) nu ?_;exact oVq (qZ (v:= .slice _ _ _) Q4 rfl rfl (hb6.u.cell rfl)) rfl
    | 2,_,hoq=>
     cases sI hoq;exact oVq (xZ (v:= .slice _ _ _) rfl) rfl
    | 3,_,hoq=>
     cases sI hoq;exact oVq (xZ (v:= .int _ _) rfl) rfl
    | 4,_,hoq=>
     cases sI hoq;refine zz 27 _ (hd 2 (zq kR)) nu (zz 28 _ (hd 3 (zq kR)) nu ?_);exact oVq (xw (i:=i) U66 qq rfl rfl om rfl) rfl
    | 5,_,hoq=>
     cases sI hoq;have hs0:=s5;refine zz 29 _ (hd 4 (zq kR)) nu ?_;exact oVq (qZ (v:= .int _ _) U3 rfl rfl (hca _ hs0.bel)) rfl
    | 6,_,hoq=>
     cases sI hoq;exact oVq (xZ (v:= .slice _ _ _) rfl) rfl
    | 7,_,hoq=>
     cases sI hoq;exact oVq (xZ (v:= .int _ _) rfl) rfl
    | 8,_,hoq=>
     cases sI hoq;refine zz 32 _ (hd 7 (zq kR)) nu ?_;exact oVq (I6 (c:=((i + 1:Nat):Int)) rfl rfl rfl om) rfl
    | 9,_,hoq=>
     cases sI hoq;refine zz 31 _ (hd 6 (zq kR)) nu (zz 33 _ (hd 8 (zq kR)) nu ?_);exact oVq (xw (i:=i + 1) U66 qq rfl rfl om rfl) rfl
    | 10,_,hoq=>
     cases sI hoq;have hs0:=s5;refine zz 34 _ (hd 9 (zq kR)) nu ?_;exact oVq (qZ (v:= .int _ _) U3 rfl rfl (hcb _ hs0.bel)) rfl
    | 11,_,hoq=>
     cases sI hoq;refine zz 30 _ (hd 5 (zq kR)) nu (zz 35 _ (hd 10 (zq kR)) nu ?_);exact oVq (yv (v0:= .int _ _) (v1:= .int _ _) (fun v0 v1=>#[v0,v1]) rfl rfl kR) rfl
    | 12,_,hoq=>
     cases sI hoq;have hs0:=s5;refine zz 36 _ (hd 11 (zq kR)) nu ?_;refine vK (fun ops Q K=>?_);refine qv (cs:=#[_,_]) [(0,.agg _)] rfl Q4 sz115_DGo ze115_DGo dE dE kR rfl (fun b37 w7 hb37 s6 hr=>?_);exact K _ _ ⟨s6,⟨_,rfl,nLT hs0.size hr,hb37⟩,fRq hr hb37.lt⟩
    | _ + 13,hix,_=>exact absurd hix om
   intro gg w8 s7 hR hdis;have hs0:=s7;obtain⟨b37,e37,lo37,hb37⟩:=hR 12 dE;have hsm:_≤w8.heap.size:=hs0.size;refine x7 26 _ (hR 1 dE) nu (x7 37 _ e37 nu ?_);replace ho6:=ho6.tr0 s7;refine vW Q4 in115_DGo rfl dE ho6 hb37 rfl rfl rfl zX dE om om (nLT z6 hsm) (fun g38 cap38 w9 ho38 s8 hg=>?_);have ne_ho38_b2:g38≠b2:=neA ho6 hb2.u.lt hg
   have ne_ho38_b3:g38≠b3:=neA ho6 hb3.u.lt hg
   have ne_ho38_b6:g38≠b6:=neA ho6 hb6.u.lt hg
   replace hB:=hB.u.tr s8 (fun g hg=>nLT (Nat.le_succ_of_le lo6) (ho6.lt g hg).1);replace hb2:=hb2.tr0 s7;replace hb2:=hb2.ta s8 ho6;replace hb3:=hb3.tr0 s7;replace hb3:=hb3.ta s8 ho6;replace ho3:=ho3.tr0 s7;replace ho3:=ho3.tr s8 (fun g hg hx=>by have:=(ho6.lt _ hx).1;have:=(ho3.lt _ hg).1;(try have:=or_ho3_b2 _ hg);(try have:=or_ho6_b2 _ hx);(try have:=or_ho3_b3 _ hg);(try have:=or_ho6_b3 _ hx);(try have:=or_ho3_b6 _ hg);(try have:=or_ho6_b6 _ hx);(try have:=or_ho3_b37 _ hg);(try have:=or_ho6_b37 _ hx);omega);replace hnd:=hnd.tr0 s7;replace hnd:=hnd.trX s8 (fun g hg=> .inl (by have:=(ho6.lt g hg).1;omega));replace hb6:=hb6.tr0 s7;replace hb6:=hb6.ta s8 ho6;refine zn1 ?_;refine x9 (v:= .slice _ _ _) hb6 rfl rfl D6 (by first | decide | simp) rfl rfl (fun w10 hq s9=>?_);replace ho3:=ho3.tr1 s9 (neL or_ho3_b6);replace hnd:=hnd.sp1 s9 hb6 (.inl dE);replace ho38:=ho38.tr1 s9 (neS ne_ho38_b6);replace hb6:=hq;refine zn5 ?_;refine wl (I6 (c:=((i + 2:Nat):Int)) rfl rfl rfl om) (zn2 ?_);refine qV ((rs[k]'hlt).length + 2 - (i + 2)) om agA ?_;replace hB:=hB.tr1 s9 lo6;replace hb2:=hb2.tr1 s9 om;replace hb3:=hb3.tr1 s9 om;exact⟨i + 2,j + 1,_,_,ls6 ++ [(za,zb)],by omega,by omega,by omega,rfl,rfl,hpr2,hB,hb2,hb3,ho3,hb6,by rw [← lnC_snoc];exact ho38,hnd⟩
  have hls:Qw ((rs[k]'hlt).drop 1)=ls6:=by rw [hpr,pairs_end om,List.append_nil]
  have hrow:Yq (rs[k]'hlt)=⟨z0,ls6⟩:=by
    unfold Yq;rw [hls,hz0];simp [List.getD,hrk.1]
  have htk:(rs.take (k + 1)).map Yq=(rs.take k).map Yq ++ [⟨z0,ls6⟩]:=by rw [ux rs hlt,List.map_append,List.map_cons,List.map_nil,hrow]
  refine zn9 ?_;refine qv (cs:=#[_,_]) [(0,.agg _)] rfl U28 D5 PV dE dE kR rfl (fun b43 w11 hb43 s10 hr=>?_);have:=nLL hb2.lt hr;have:=nLL hb3.lt hr;have or_ho3_b43:=fun g hg=>nLL (ho3.lt g hg).2 hr
  have or_hnd_b43:=nLT hnd.le hr;have:=nLL hb6.lt hr;have or_ho6_b43:=fun g hg=>nLL (ho6.lt g hg).2 hr
  have lo43:=nLT (Bel.size hB) hr;replace ho3:=ho3.tr0 s10;refine vW U28 in113_DGo rfl dE ho3 hb43 rfl rfl rfl zX dE om om hb3.u.lt (fun g44 cap44 w12 ho44 s11 hg=>?_);have ne_ho44_b2:g44≠b2:=neA ho3 hb2.u.lt hg
  have ne_ho44_b3:g44≠b3:=neA ho3 hb3.u.lt hg
  have ne_ho44_b6:g44≠b6:=neB hb6.u.lt hg (neL or_ho3_b6)
  replace hB:=hB.u.tr s11 (fun g hg=>nLT (Nat.le_succ_of_le lo3) (ho3.lt g hg).1);replace hb2:=hb2.tr0 s10;replace hb2:=hb2.ta s11 ho3;replace hb3:=hb3.tr0 s10;replace hb3:=hb3.ta s11 ho3;replace hnd:=hnd.tr0 s10;replace hnd:=hnd.trX s11 (fun g hg=>by obtain⟨cs,h⟩:=Q9 ho3 g hg;exact .inr (.inr ⟨_,_,h,.inl dE⟩));replace ho6:=ho6.tr0 s10;replace ho6:=ho6.tr s11 (fun g hg hx=>by have:=(ho3.lt _ hx).1;have:=(ho6.lt _ hg).1;(try have:=or_ho6_b2 _ hg);(try have:=or_ho3_b2 _ hx);(try have:=or_ho6_b3 _ hg);(try have:=or_ho3_b3 _ hx);(try have:=or_ho6_b6 _ hg);(try have:=or_ho3_b6 _ hx);(try have:=or_ho6_b43 _ hg);(try have:=or_ho3_b43 _ hx);omega);have hnd2:=gof_more (z:=z0) ho6 hnd;refine zn1 ?_;refine x9 (v:= .slice _ _ _) hb3 rfl rfl sz28_DGo (by first | decide | simp) rfl rfl (fun w13 hq s12=>?_);replace ho44:=ho44.tr1 s12 (neS ne_ho44_b3);replace hnd2:=hnd2.sp1 s12 hb3 (.inl dE);replace hb3:=hq;refine zn7 ?_;refine qV (rs.length - (k + 1)) om agA ?_;replace hB:=hB.tr1 s12 lo3;replace hb2:=hb2.tr1 s12 om;exact⟨k + 1,_,_,_,_,by omega,rfl,rfl,hB,hb2,hb3,ho44,by rw [htk];exact hnd2⟩
 have hkl:k=rs.length:=by omega
 subst hkl;rw [List.take_length] at hnd;refine zn8 ?_;refine zj hb2 rfl rfl EV rfl zX (fun w14 hq s13=>?_);replace ho3:=ho3.tq s13;replace hnd:=hnd.sp1 s13 hb2 (.inl dE);replace hb2:=hq;refine zn3 ?_;refine x8 (.inl rfl) rfl (zk U30 rfl rfl hb2.range0 EV) ?_;exact⟨⟨_,_,rfl,gof_end ho3 hnd⟩,hB.u⟩
end Go.Proofs.YtbcpgfnfiekbiaaGreatDoor
namespace Go.Proofs.YtbcpgfnfiekbiaaGreatDoor
open Go.RowKit
theorem W0:zZ Tryz.prog 21=true:=by kernel_rfl
theorem in46:(Tryz.prog.info? 46).map (fun i=>(i.zero,i.size,i.bytes))=some (some (.agg #[.string ⟨#[]⟩,.slice none 0 0,.int .i64 0,.int .i64 0,.string ⟨#[]⟩,.int .i64 0,.string ⟨#[]⟩,.slice none 0 0,.slice none 0 0]),9,144):=by kernel_rfl
theorem TQ:(Tryz.prog.info? 27).map (·.size)=some 1:=by kernel_rfl
theorem jY:(Tryz.prog.info? 44).map (·.size)=some 6:=by kernel_rfl
theorem sz46_DAd:(Tryz.prog.info? 46).map (·.size)=some 9:=by kernel_rfl
theorem ze46_DAd:(Tryz.prog.info? 46).map (·.zero)=some (some (.agg #[.string ⟨#[]⟩,.slice none 0 0,.int .i64 0,.int .i64 0,.string ⟨#[]⟩,.int .i64 0,.string ⟨#[]⟩,.slice none 0 0,.slice none 0 0])):=by kernel_rfl
set_option maxHeartbeats 1000000 in
theorem o7 (s:ByteArray) (z:Int) (x:Tv) (SA BA R A:Option Addr) (cs cb:Nat) (rs:List (List Int)) (c bG base k cap nT nL:Nat) (c0 c1 c2 c4:Value) (xs:List Value) (lx:List Lx) (w:World) (hs9:s.size < 9223372036854775807) (hR:RowsIn w R rs) (hT:Fz [] nT TS w (fun w=>SimsIn w SA x.tm.type.args∧TmsIn w BA x.tm.args)) (hbG:Blk w bG 32 #[c0,c1,c2,.slice A k cap,c4]) (ho:Own w base 46 9 A k cap xs) (hL:Fz [] nL TS w (fun w=>LxData w lx xs)) (hbase:base≤w.heap.size) (hbl:bG < base) (hk:k≤1000):Calls Tryz.prog 22 #[.string s,.int .i64 z,.agg #[.int .i64 (x).tm.kind,.string (x).tm.name,.int .i64 (x).tm.index,.string (x).tm.type.base,.slice SA (x).tm.type.args.length cs,.slice BA (x).tm.args.length cb],.slice R rs.length c,.pointer (some ⟨bG,0,none⟩)] w (fun e w'=>e= .returned (.tuple #[])∧∃ A' cap' xs',Blk w' bG 32 #[c0,c1,c2,.slice A' (k + 1) cap',c4]∧Own w' base 46 9 A' (k + 1) cap' xs'∧Fz [] w'.heap.size TS w' (fun w=>LxData w (lx ++ [⟨s,rs.map Yq,z,x.tm⟩]) xs')∧Same (bG :: aL A) w w'∧(aL A'=aL A∨∀ g ∈ aL A',w.heap.size≤g)):=by
 refine enT Tryz.func22 Tryz.ntmps22 rfl rfl fun hB=>?_;refine zn2 ?_;refine qK (v:= .agg #[_,_,_,_,_,_]) (cs:=#[_,_,_,_,_,_]) rfl rfl (fun b7 w1 hb7 s1 hr=>?_);have or_ho_b7:=fun g hg=>nLL (ho.lt g hg).2 hr
 refine zw (e_S ?_);replace hbG:=hbG.tr0 s1;have zG:=hbG.lt;replace ho:=ho.tr0 s1;have zo:=fun g hg=>(ho.lt g hg).2
 replace hB:=hB.tr0 s1;have hsz:=Bel.size hB;have hrs:=hR.1;refine jZ 9 (rg [] 9 9) (fun ix=>Nat.beq ix 8) (fun ix v wv=>match ix with | 0=>v= .pointer (some ⟨bG,3,none⟩) | 1=>v= .slice A k cap | 2=>v= .string s | 3=>v= .int .i64 z | 4=>v= .agg #[.int .i64 (x).tm.kind,.string (x).tm.name,.int .i64 (x).tm.index,.string (x).tm.type.base,.slice SA (x).tm.type.args.length cs,.slice BA (x).tm.args.length cb] | 5=>v= .slice R rs.length c | 6=>∃ G g n,v= .agg #[.slice G rs.length g]∧Fz [] n TS wv (fun w=>NodesIn w G (rs.map Yq)) | 7=>∃ G g n,v= .agg #[.string s,.slice G rs.length g,.int .i64 z,.int .i64 (x).tm.kind,.string (x).tm.name,.int .i64 (x).tm.index,.string (x).tm.type.base,.slice SA (x).tm.type.args.length cs,.slice BA (x).tm.args.length cb]∧Fz [] n TS wv (fun w=>NodesIn w G (rs.map Yq)) | 8=>∃ b G g n,v= .slice (some ⟨b,0,none⟩) 1 1∧w1.heap.size≤b∧Blk wv b 46 #[.string s,.slice G rs.length g,.int .i64 z,.int .i64 (x).tm.kind,.string (x).tm.name,.int .i64 (x).tm.index,.string (x).tm.type.base,.slice SA (x).tm.type.args.length cs,.slice BA (x).tm.args.length cb]∧Fz [] n TS wv (fun w=>NodesIn w G (rs.map Yq)) | _=>True) kR kR ?_ ?_ ?_
 ·intro ix v wv wv2 h s2
  match ix,h with
  | 0,h=>exact h
  | 1,h=>exact h
  | 2,h=>exact h
  | 3,h=>exact h
  | 4,h=>exact h
  | 5,h=>exact h
  | 6,h=>
   obtain⟨G15,g15,n15,e15,hz15⟩:=h;exact⟨G15,g15,n15,e15,hz15.tr0 s2⟩
  | 7,h=>
   obtain⟨G16,g16,n16,e16,hz16⟩:=h;exact⟨G16,g16,n16,e16,hz16.tr0 s2⟩
  | 8,h=>
   obtain⟨b17,G17,g17,n17,e17,lo17,hb17,hz17⟩:=h;exact⟨b17,G17,g17,n17,e17,lo17,hb17.tr0 s2,hz17.tr0 s2⟩
  | _ + 9,h=>exact trivial
 ·intro ix o hix hoq gg wx s3 hd hdis
  match ix,hix,hoq with
  | 0,_,hoq=>
   cases sI hoq;exact oVq (uk U32 TQ dE rfl rfl rfl) rfl
  | 1,_,hoq=>
   cases sI hoq;refine zz 9 _ (hd 0 (zq kR)) nu ?_;exact oVq (qZ (v:= .slice _ _ _) U27 rfl rfl (hbG.u.cell rfl)) rfl
  | 2,_,hoq=>
   cases sI hoq;exact oVq (xZ (v:= .string _) rfl) rfl
  | 3,_,hoq=>
   cases sI hoq;exact oVq (xZ (v:= .int _ _) rfl) rfl
  | 4,_,hoq=>
   cases sI hoq;exact oVq (zV U44 rfl rfl hb7.u.range0 jY) rfl
  | 5,_,hoq=>
   cases sI hoq;exact oVq (xZ (v:= .slice _ _ _) rfl) rfl
  | 6,_,hoq=>
   cases sI hoq;refine zz 14 _ (hd 5 (zq kR)) nu ?_;refine yK W0 (oZ _ _ _ wx (hR.mono hB.u)) rfl (fun e' w2 hr=>?_);obtain⟨⟨G9,g9,rfl,hz9⟩,s4⟩:=hr;exact⟨_,rfl,sB s4,⟨G9,g9,_,rfl,hz9⟩,xq⟩
  | 7,_,hoq=>
   cases sI hoq;obtain⟨G15,g15,n15,e15,hz15⟩:=hd 6 (zq kR);refine zz 11 _ (hd 2 (zq kR)) nu (zz 12 _ (hd 3 (zq kR)) nu (zz 13 _ (hd 4 (zq kR)) nu (zz 15 _ e15 nu ?_)));exact oVq (r_bd4 (v0:= .string _) (v1:= .int _ _) (v2:= .agg _) (v3:= .agg _) (fun v0 v1 v2 v3=>#[v0,(qy v3 0),v1,(qy v2 0),(qy v2 1),(qy v2 2),(qy v2 3),(qy v2 4),(qy v2 5)]) rfl rfl rfl rfl kR) ⟨G15,g15,n15,rfl,hz15⟩
  | 8,_,hoq=>
   cases sI hoq;have hs0:=s3;obtain⟨G16,g16,n16,e16,hz16⟩:=hd 7 (zq kR);refine zz 16 _ e16 nu ?_;refine vK (fun ops Q K=>?_);refine qv (cs:=#[_,_,_,_,_,_,_,_,_]) [(0,.agg _)] rfl U27 sz46_DAd ze46_DAd dE dE kR rfl (fun b17 w2 hb17 s5 hr=>?_);exact K _ _ ⟨s5,⟨_,G16,g16,n16,rfl,nLT hs0.size hr,hb17,hz16.tr0 s5⟩,fRq hr hb17.lt⟩
  | _ + 9,hix,_=>exact absurd hix om
 intro gg w3 s6 hR hdis;obtain⟨b17,G17,g17,n17,e17,lo17,hb17,hz17⟩:=hR 8 dE;have hbs:base≤w3.heap.size:=nLT hbase (Bel.size hB.u);replace hB:=hB.tr0 s6;have hS0:=(sB hB).weak (Y:=bG :: aL A) (by simp);have hsz2:=Bel.size hB;refine x7 10 _ (hR 1 dE) nu (x7 17 _ e17 nu ?_);replace ho:=ho.tr0 s6;refine vW U27 in46 rfl dE ho hb17 rfl rfl rfl zX dE om om hbs (fun g18 cap18 w4 ho18 s7 hg=>?_);have ne_ho18_bG:g18≠bG:=neA ho hbG.u.lt hg
 have ne_ho18_b7:g18≠b7:=neB hb7.u.lt hg (neL or_ho_b7)
 replace hbG:=hbG.tr0 s6;replace hbG:=hbG.ta s7 ho;replace hT:=hT.tr0 (s1.trans s6);replace hT:=hT.trX s7 (fun g hg=>by obtain⟨cs,h⟩:=Q9 ho g hg;exact .inr (.inr ⟨_,_,h,.inl dE⟩));replace hL:=hL.tr0 (s1.trans s6);replace hL:=hL.trX s7 (fun g hg=>by obtain⟨cs,h⟩:=Q9 ho g hg;exact .inr (.inr ⟨_,_,h,.inl dE⟩));replace hz17:=hz17.trX s7 (fun g hg=>by obtain⟨cs,h⟩:=Q9 ho g hg;exact .inr (.inr ⟨_,_,h,.inl dE⟩));have hS:=hS0.trans (s7.weak (fun x hx=>List.mem_cons_of_mem _ hx));refine zn1 ?_;refine x9 (v:= .slice _ _ _) hbG rfl rfl TQ (by first | decide | simp) rfl rfl (fun w5 hq s8=>?_);replace hT:=hT.sp1 s8 hbG (.inl dE);replace hL:=hL.sp1 s8 hbG (.inl dE);replace hz17:=hz17.sp1 s8 hbG (.inl dE);replace ho18:=ho18.tr1 s8 (neS ne_ho18_bG);replace hS:=hS.trans (s8.weak (by simp));replace hbG:=hq;refine zw (fin0 (.inr rfl) rfl  ?_);refine⟨rfl,_,_,_,hbG,ho18,(hL.and (hT.and hz17)).imp (fun _ h=>LxData.snoc (x:=⟨s,rs.map Yq,z,x.tm⟩) h.1 hs9 (List.length_map _).symm h.2.2 h.2.1.1 h.2.1.2),hS,?_⟩;rcases hg with hg | hg
 · left;rw [hg];rfl
 · right;intro g hgm;cases List.mem_singleton.1 hgm;exact nLT hsz2 hg
end Go.Proofs.YtbcpgfnfiekbiaaGreatDoor
namespace Go.Proofs.YtbcpgfnfiekbiaaGreatDoor
open Go.RowKit
theorem in110:(Tryz.prog.info? 110).map (fun i=>(i.zero,i.size,i.bytes))=some (some (.agg #[.string ⟨#[]⟩,.slice none 0 0]),2,40):=by kernel_rfl
theorem M0:(Tryz.prog.info? 110).map (·.size)=some 2:=by kernel_rfl
theorem TK:(Tryz.prog.info? 22).map (·.size)=some 1:=by kernel_rfl
theorem sz23_DHo:(Tryz.prog.info? 23).map (·.size)=some 1:=by kernel_rfl
theorem EW:(Tryz.prog.info? 25).map (·.size)=some 2:=by kernel_rfl
theorem Cv:(Tryz.prog.info? 3).map (·.size)=some 1:=by kernel_rfl
theorem Tk:(Tryz.prog.info? 66).map (·.size)=some 1:=by kernel_rfl
theorem sz9_DHo:(Tryz.prog.info? 9).map (·.size)=some 1:=by kernel_rfl
theorem IV:(Tryz.prog.info? 110).map (·.zero)=some (some (.agg #[.string ⟨#[]⟩,.slice none 0 0])):=by kernel_rfl
theorem SY:(Tryz.prog.info? 25).map (·.zero)=some (some (.agg #[.slice none 0 0,.slice none 0 0])):=by kernel_rfl
theorem qz:(Tryz.prog.info? 3).map (·.zero)=some (some (.int .i64 0)):=by kernel_rfl
set_option maxHeartbeats 1000000 in
theorem Py (A B C:Option Addr) (c d mC f:Nat) (ns:List ByteArray) (ps:List Int) (w:World) (hN:StrsD w A ns) (hP:IntsIn w B ps) (hl:ns.length≤1000) (hpl:ps.length=ns.length):Calls Tryz.prog 19 #[.slice A ns.length c,.slice B ps.length d,.slice C mC f] w fun e w'=>(∃ A' cap,e= .returned (.agg #[.slice A' ns.length cap,.slice C mC f])∧Fz [] w'.heap.size TS w' (fun w=>TypesIn w A' (Yz ns ps ns.length)))∧Bel w w':=by
 refine enT Tryz.func19 Tryz.ntmps19 rfl rfl fun hB=>?_;refine zn2 ?_;refine zY (cs:=#[.slice none 0 0,.slice none 0 0]) SY rfl (fun b6 w1 hb6 s1 hr=>?_);have lo6:=nLT (Bel.size hB) hr;refine zn4 ?_;refine zY (cs:=#[.slice none 0 0,.slice none 0 0]) SY rfl (fun b7 w2 hb7 s2 hr=>?_);have:=nLL hb6.lt hr;have lo7:=nLT (Bel.size hB.u) hr;refine yx ?_;refine zK (rg [8,9,10] 13 22) (fun m g w'=>∃ (k:Nat) (A7:Option Addr) (cap7:Nat) (cs:List Value) (n7:Nat),k≤ns.length∧m=ns.length - k∧g 13= .int .i64 k∧Bel w w'∧Blk w' b6 25 #[.slice none 0 0,.slice none 0 0]∧Blk w' b7 25 #[.slice A7 k cap7,.slice none 0 0]∧Own w' (b7 + 1) 110 2 A7 k cap7 cs∧Fz [] n7 TS2 w' (fun w=>TyData w (Yz ns ps k) cs)) (ns.length) ?_ (fun m g3 w3 hI=>?_)
 ·exact⟨0,none,0,[],_,Nat.zero_le _,rfl,rfl,hB.u,hb6.u,hb7,Own.nil _ _ _ _,Fz.triv [] _ TS2 (fun _=>TyData.nil)⟩
 obtain⟨k,A7,cap7,cs,n7,hk,hm,h13,hB,hb6,hb7,ho7,hty⟩:=hI;refine zQ 13 _ h13 nu (zn6 ?_);refine zy rfl (fun c14=>?_) (fun c14=>?_)
 ·have hlt:k < ns.length:=by omega
  have hlp:k < ps.length:=by omega
  obtain⟨nb,no,rfl,hnc⟩:=hN.at_ hB hlt;obtain⟨pb,po,rfl,hpb,hpc⟩:=hP.at_ hlp;refine zn8 ?_;refine wl (qZ (v:= .string _) U9 rfl rfl hnc) (zn7 ?_);refine wl (V8 (v0:= .string _) (fun v0=>#[v0,.slice none 0 0]) rfl kR) ?_;refine xW (cs:=#[.string ⟨#[]⟩,.slice none 0 0]) IV rfl (fun _=>rfl) (fun _=>rfl) M0 rfl zX (fun b10 w5 hb10 s3 hr=>?_);have:=nLL hb6.lt hr;have:=nLL hb7.lt hr;have or_ho7_b10:=fun g hg=>nLL (ho7.lt g hg).2 hr
  have lo10:=nLT (Bel.size hB) hr;refine zn9 ?_;replace ho7:=ho7.tr0 s3;replace hty:=hty.tr0 s3;refine zy rfl (fun c21=>?_) (fun c21=>?_)
  ·refine zn4 ?_;refine wl (qZ (v:= .int _ _) U3 rfl rfl (hB.u.cell hpb hpc)) ?_;refine qv (cs:=#[_]) [(0,.int _ _)] rfl U66 Cv qz dE dE kR rfl (fun b26 w6 hb26 s4 hr=>?_);have:=nLL hb7.u.lt hr;have or_ho7_b26:=fun g hg=>nLL (ho7.lt g hg).2 hr
   have:=nLL hb10.lt hr;refine zn1 ?_;replace hb10:=hb10.tr0 s4;refine x9 (v:= .slice _ _ _) hb10 rfl rfl Tk (by first | decide | simp) rfl rfl (fun w7 hq s5=>?_);replace ho7:=ho7.tr0 s4;replace ho7:=ho7.tr1 s5 (neL or_ho7_b10);replace hty:=hty.tr0 s4;replace hty:=hty.sp1 s5 hb10 (.inl dE);replace hb10:=hq;refine zn6 ?_;refine qv (cs:=#[_,_]) [(0,.agg _)] rfl U22 M0 IV dE dE kR rfl (fun b31 w8 hb31 s6 hr=>?_);have:=nLL hb6.u.lt hr;have:=nLL hb7.u.lt hr;have:=nLL hb26.u.lt hr;replace ho7:=ho7.tr0 s6;refine vW U22 in110 rfl dE ho7 hb31 rfl rfl rfl zX dE om om hb7.u.lt (fun g32 cap32 w9 ho32 s7 hg=>?_);have ne_ho32_b6:g32≠b6:=neA ho7 hb6.u.lt hg
   have ne_ho32_b7:g32≠b7:=neA ho7 hb7.u.lt hg
   have ne_ho32_b10:g32≠b10:=neB hb10.u.lt hg (neL or_ho7_b10)
   have ne_ho32_b26:g32≠b26:=neB hb26.u.lt hg (neL or_ho7_b26)
   replace hB:=hB.u.tr s7 (fun g hg=>nLT (Nat.le_succ_of_le lo7) (ho7.lt g hg).1);replace hb6:=((hb6.tr0 (s3.trans s4)).tr1 s5 om).tr0 s6;replace hb6:=hb6.ta s7 ho7;replace hb7:=((hb7.tr0 (s3.trans s4)).tr1 s5 om).tr0 s6;replace hb7:=hb7.ta s7 ho7;replace hty:=hty.tr0 s6;replace hty:=hty.trX s7 (fun g hg=>by obtain⟨cs,h⟩:=Q9 ho7 g hg;exact .inr (.inr ⟨_,_,h,.inl dE⟩));replace hb26:=(hb26.tr1 s5 om).tr0 s6;replace hb26:=hb26.tb s7 (neL or_ho7_b26);have hty2:=(by first | exact hof_pos hty hlt hlp om hb26 | exact Fk hty hlt om:Fz [] (w9).heap.size TS2 w9 (fun w=>TyData w (Yz ns ps (k + 1)) (cs ++ _)))
   refine zn1 ?_;refine x9 (v:= .slice _ _ _) hb7 rfl rfl TK (by first | decide | simp) rfl rfl (fun w10 hq s8=>?_);replace ho32:=ho32.tr1 s8 (neS ne_ho32_b7);replace hty2:=hty2.sp1 s8 hb7 (.inl dE);replace hb7:=hq;refine zn7 ?_;refine qV (ns.length - (k + 1)) om agA ?_;exact⟨k + 1,_,_,_,_,by omega,rfl,rfl,hB.u,hb6.u,hb7,ho32,hty2⟩
  refine zn6 ?_;refine qv (cs:=#[_,_]) [(0,.agg _)] rfl U22 M0 IV dE dE kR rfl (fun b31 w11 hb31 s9 hr=>?_);have:=nLL hb6.u.lt hr;have:=nLL hb7.u.lt hr;replace ho7:=ho7.tr0 s9;refine vW U22 in110 rfl dE ho7 hb31 rfl rfl rfl zX dE om om hb7.u.lt (fun g32 cap32 w12 ho32 s10 hg=>?_);have ne_ho32_b6:g32≠b6:=neA ho7 hb6.u.lt hg
  have ne_ho32_b7:g32≠b7:=neA ho7 hb7.u.lt hg
  have ne_ho32_b10:g32≠b10:=neB hb10.u.lt hg (neL or_ho7_b10)
  replace hB:=hB.u.tr s10 (fun g hg=>nLT (Nat.le_succ_of_le lo7) (ho7.lt g hg).1);replace hb6:=hb6.tr0 (s3.trans s9);replace hb6:=hb6.ta s10 ho7;replace hb7:=hb7.tr0 (s3.trans s9);replace hb7:=hb7.ta s10 ho7;replace hty:=hty.tr0 s9;replace hty:=hty.trX s10 (fun g hg=>by obtain⟨cs,h⟩:=Q9 ho7 g hg;exact .inr (.inr ⟨_,_,h,.inl dE⟩));have hty2:=(by first | exact hof_pos hty hlt hlp om hb26 | exact Fk hty hlt om:Fz [] (w12).heap.size TS2 w12 (fun w=>TyData w (Yz ns ps (k + 1)) (cs ++ _)))
  refine zn1 ?_;refine x9 (v:= .slice _ _ _) hb7 rfl rfl TK (by first | decide | simp) rfl rfl (fun w13 hq s11=>?_);replace ho32:=ho32.tr1 s11 (neS ne_ho32_b7);replace hty2:=hty2.sp1 s11 hb7 (.inl dE);replace hb7:=hq;refine zn7 ?_;refine qV (ns.length - (k + 1)) om agA ?_;exact⟨k + 1,_,_,_,_,by omega,rfl,rfl,hB.u,hb6.u,hb7,ho32,hty2⟩
 have hkl:k=ns.length:=by omega
 subst hkl;refine zn9 ?_;refine x9 (v:= .slice _ _ _) hb7 rfl rfl sz23_DHo (by first | decide | simp) rfl rfl (fun w14 hq s12=>?_);replace ho7:=ho7.tq s12;replace hty:=hty.sp1 s12 hb7 (.inl dE);replace hb7:=hq;refine zn5 ?_;refine zj hb6.u rfl rfl EW rfl zX (fun w15 hq s13=>?_);replace ho7:=ho7.tq s13;replace hb6:=hb6.tr1 s12 om;replace hty:=hty.sp1 s13 hb6 (.inl dE);replace hb6:=hq;refine zn3 ?_;refine x8 (.inl rfl) rfl (zk U25 rfl rfl hb6.range0 EW) ?_;exact⟨⟨_,_,rfl,hof_end ho7 hty⟩,hB.u⟩
end Go.Proofs.YtbcpgfnfiekbiaaGreatDoor
namespace Go.Proofs.YtbcpgfnfiekbiaaGreatDoor
open Go.RowKit
theorem xz:(Tryz.prog.info? 41).map (·.size)=some 2:=by kernel_rfl
theorem vJ:(Tryz.prog.info? 44).map (·.size)=some 6:=by kernel_rfl
theorem yW:(Tryz.prog.info? 41).map (·.zero)=some (some (.agg #[.string ⟨#[]⟩,.slice none 0 0])):=by kernel_rfl
theorem uX:(Tryz.prog.info? 44).map (·.zero)=some (some (.agg #[.int .i64 0,.string ⟨#[]⟩,.int .i64 0,.string ⟨#[]⟩,.slice none 0 0,.slice none 0 0])):=by kernel_rfl
theorem oX (s:ByteArray) (w:World):Calls Tryz.prog 17 #[.string s] w fun e w'=>e= .returned (.agg #[.string s,.slice none 0 0])∧Bel w w':=by
 refine enT Tryz.func17 Tryz.ntmps17 rfl rfl fun hB=>?_;refine zn2 ?_;refine zY (cs:=#[.string ⟨#[]⟩,.slice none 0 0]) yW rfl (fun b2 w1 hb2 s1 hr=>?_);have lo2:=nLT (Bel.size hB) hr;refine zn5 ?_;refine wl (V8 (v0:= .string _) (fun v0=>#[v0,.slice none 0 0]) rfl kR) ?_;refine zj hb2 rfl rfl xz rfl zX (fun w2 hq s2=>?_);replace hb2:=hq;refine zn3 ?_;refine x8 (.inl rfl) rfl (zk U41 rfl rfl hb2.range0 xz) ?_;exact⟨rfl,hB.u⟩
theorem gK (X:List Nat) (a b:Ts) (A1 A2:Option Addr) (c1 c2 n1 n2:Nat) (w:World) (hX:∀ x ∈ X,x < w.heap.size) (h1:Fz X n1 TS w (fun w=>SimsIn w A1 (a).sm.args)) (h2:Fz X n2 TS w (fun w=>SimsIn w A2 (b).sm.args)):Calls Tryz.prog 18 #[.agg #[.string (a).sm.base,.slice A1 (a).sm.args.length c1],.agg #[.string (b).sm.base,.slice A2 (b).sm.args.length c2]] w fun e w'=>(∃ z,e= .returned z∧SmD X (.f a b) w' z)∧Bel w w':=by
 refine enT Tryz.func18 Tryz.ntmps18 rfl rfl fun hB=>?_;refine zn2 ?_;refine qK (v:= .agg #[_,_]) (cs:=#[_,_]) rfl rfl (fun b2 w1 hb2 s1 hr=>?_);refine qK (v:= .agg #[_,_]) (cs:=#[_,_]) rfl rfl (fun b3 w2 hb3 s2 hr=>?_);refine zY (cs:=#[.string ⟨#[]⟩,.slice none 0 0]) yW rfl (fun b4 w3 hb4 s3 hr=>?_);have lo4:=nLT (Bel.size hB.u) hr;refine zn6 ?_;refine qv (cs:=#[_,_,_,_]) [(0,.agg _),(1,.agg _)] rfl U39 xz yW dE dE kR rfl (fun b7 w4 hb7 s4 hr=>?_);have:=nLL hb4.lt hr;refine wl (V8 (v0:= .slice _ _ _) (fun v0=>#[.string ⟨#[]⟩,v0]) rfl kR) ?_;refine zj hb4.u rfl rfl xz rfl zX (fun w5 hq s5=>?_);replace hb4:=hq;refine zn3 ?_;refine x8 (.inl rfl) rfl (zk U41 rfl rfl hb4.range0 xz) ?_;replace hB:=(hB.tr0 (s1.trans (s2.trans (s3.trans s4)))).tr1 s5 lo4;replace hb7:=hb7.tr1 s5 om;exact⟨⟨_,rfl,SmD.two hb7 (fun hm=>by have:=hX _ hm;omega) (h1.bel hB) (h2.bel hB)⟩,hB⟩
theorem o6 (X:List Nat) (nm:ByteArray) (a:Ts) (A1:Option Addr) (c1 n1:Nat) (w:World) (h1:Fz X n1 TS w (fun w=>SimsIn w A1 (a).sm.args)):Calls Tryz.prog 24 #[.string nm,.agg #[.string (a).sm.base,.slice A1 (a).sm.args.length c1]] w fun e w'=>(∃ z,e= .returned z∧TmD X (.con nm a) w' z)∧Bel w w':=by
 refine enT Tryz.func24 Tryz.ntmps24 rfl rfl fun hB=>?_;refine zn2 ?_;refine qK (v:= .agg #[_,_]) (cs:=#[_,_]) rfl rfl (fun b3 w1 hb3 s1 hr=>?_);refine zY (cs:=#[.int .i64 0,.string ⟨#[]⟩,.int .i64 0,.string ⟨#[]⟩,.slice none 0 0,.slice none 0 0]) uX rfl (fun b4 w2 hb4 s2 hr=>?_);have lo4:=nLT (Bel.size hB.u) hr;refine zn6 ?_;refine wl (I5 (v0:= .int _ _) (v1:= .string _) (v2:= .agg _) (fun v0 v1 v2=>#[v0,v1,.int .i64 0,(qy v2 0),(qy v2 1),.slice none 0 0]) rfl rfl rfl kR) ?_;refine zj hb4 rfl rfl vJ rfl zX (fun w3 hq s3=>?_);replace hb4:=hq;refine zn3 ?_;refine x8 (.inl rfl) rfl (zk U44 rfl rfl hb4.range0 vJ) ?_;exact⟨⟨_,rfl,TmD.con nm (h1.bel hB.u)⟩,hB.u⟩
theorem vy (X:List Nat) (i:Nat) (w:World):Calls Tryz.prog 27 #[.int .i64 ((i:Nat):Int)] w fun e w'=>(∃ z,e= .returned z∧TmD X (.var i) w' z)∧Bel w w':=by
 refine enT Tryz.func27 Tryz.ntmps27 rfl rfl fun hB=>?_;refine zn2 ?_;refine zY (cs:=#[.int .i64 0,.string ⟨#[]⟩,.int .i64 0,.string ⟨#[]⟩,.slice none 0 0,.slice none 0 0]) uX rfl (fun b2 w1 hb2 s1 hr=>?_);have lo2:=nLT (Bel.size hB) hr;refine zn5 ?_;refine wl (yv (v0:= .int _ _) (v1:= .int _ _) (fun v0 v1=>#[v0,.string ⟨#[]⟩,v1,.string ⟨#[]⟩,.slice none 0 0,.slice none 0 0]) rfl rfl kR) ?_;refine zj hb2 rfl rfl vJ rfl zX (fun w2 hq s2=>?_);replace hb2:=hq;refine zn3 ?_;refine x8 (.inl rfl) rfl (zk U44 rfl rfl hb2.range0 vJ) ?_;exact⟨⟨_,rfl,TmD.var i⟩,hB.u⟩
theorem uq (X:List Nat) (a:Ts) (x:Tv) (A1 S2 B2:Option Addr) (c1 n1 c2 m2 n2:Nat) (w:World) (hX:∀ x ∈ X,x < w.heap.size) (h1:Fz X n1 TS w (fun w=>SimsIn w A1 (a).sm.args)) (h2:Fz X n2 TS w (fun w=>SimsIn w S2 (x).tm.type.args∧TmsIn w B2 (x).tm.args)):Calls Tryz.prog 25 #[.agg #[.string (a).sm.base,.slice A1 (a).sm.args.length c1],.agg #[.int .i64 (x).tm.kind,.string (x).tm.name,.int .i64 (x).tm.index,.string (x).tm.type.base,.slice S2 (x).tm.type.args.length c2,.slice B2 (x).tm.args.length m2]] w fun e w'=>(∃ z,e= .returned z∧TmD X (.abs a x) w' z)∧Bel w w':=by
 refine enT Tryz.func25 Tryz.ntmps25 rfl rfl fun hB=>?_;refine zn2 ?_;refine qK (v:= .agg #[_,_]) (cs:=#[_,_]) rfl rfl (fun b2 w1 hb2 s1 hr=>?_);refine qK (v:= .agg #[_,_,_,_,_,_]) (cs:=#[_,_,_,_,_,_]) rfl rfl (fun b3 w2 hb3 s2 hr=>?_);refine zY (cs:=#[.int .i64 0,.string ⟨#[]⟩,.int .i64 0,.string ⟨#[]⟩,.slice none 0 0,.slice none 0 0]) uX rfl (fun b4 w3 hb4 s3 hr=>?_);have lo4:=nLT (Bel.size hB.u) hr;refine zn6 ?_;refine qv (cs:=#[_,_,_,_,_,_]) [(0,.agg _)] rfl U42 vJ uX dE dE kR rfl (fun b7 w4 hb7 s4 hr=>?_);have:=nLL hb4.lt hr;refine wl (I5 (v0:= .int _ _) (v1:= .agg _) (v2:= .slice _ _ _) (fun v0 v1 v2=>#[v0,.string ⟨#[]⟩,.int .i64 0,(qy v1 0),(qy v1 1),v2]) rfl rfl rfl kR) ?_;refine zj hb4.u rfl rfl vJ rfl zX (fun w5 hq s5=>?_);replace hb4:=hq;refine zn3 ?_;refine x8 (.inl rfl) rfl (zk U44 rfl rfl hb4.range0 vJ) ?_;replace hB:=(hB.tr0 (s1.trans (s2.trans (s3.trans s4)))).tr1 s5 lo4;replace hb7:=hb7.tr1 s5 om;exact⟨⟨_,rfl,TmD.abs (h1.bel hB) hb7 (fun hm=>by have:=hX _ hm;omega) (h2.bel hB)⟩,hB⟩
theorem gX (X:List Nat) (x y:Tv) (S1 B1 S2 B2:Option Addr) (c1 m1 n1 c2 m2 n2:Nat) (w:World) (hX:∀ x ∈ X,x < w.heap.size) (h1:Fz X n1 TS w (fun w=>SimsIn w S1 (x).tm.type.args∧TmsIn w B1 (x).tm.args)) (h2:Fz X n2 TS w (fun w=>SimsIn w S2 (y).tm.type.args∧TmsIn w B2 (y).tm.args)):Calls Tryz.prog 26 #[.agg #[.int .i64 (x).tm.kind,.string (x).tm.name,.int .i64 (x).tm.index,.string (x).tm.type.base,.slice S1 (x).tm.type.args.length c1,.slice B1 (x).tm.args.length m1],.agg #[.int .i64 (y).tm.kind,.string (y).tm.name,.int .i64 (y).tm.index,.string (y).tm.type.base,.slice S2 (y).tm.type.args.length c2,.slice B2 (y).tm.args.length m2]] w fun e w'=>(∃ z,e= .returned z∧TmD X (.app x y) w' z)∧Bel w w':=by
 refine enT Tryz.func26 Tryz.ntmps26 rfl rfl fun hB=>?_;refine zn2 ?_;refine qK (v:= .agg #[_,_,_,_,_,_]) (cs:=#[_,_,_,_,_,_]) rfl rfl (fun b2 w1 hb2 s1 hr=>?_);refine qK (v:= .agg #[_,_,_,_,_,_]) (cs:=#[_,_,_,_,_,_]) rfl rfl (fun b3 w2 hb3 s2 hr=>?_);refine zY (cs:=#[.int .i64 0,.string ⟨#[]⟩,.int .i64 0,.string ⟨#[]⟩,.slice none 0 0,.slice none 0 0]) uX rfl (fun b4 w3 hb4 s3 hr=>?_);have lo4:=nLT (Bel.size hB.u) hr;refine zn6 ?_;refine qv (cs:=#[_,_,_,_,_,_,_,_,_,_,_,_]) [(0,.agg _),(1,.agg _)] rfl U42 vJ uX dE dE kR rfl (fun b7 w4 hb7 s4 hr=>?_);have:=nLL hb4.lt hr;refine wl (yv (v0:= .int _ _) (v1:= .slice _ _ _) (fun v0 v1=>#[v0,.string ⟨#[]⟩,.int .i64 0,.string ⟨#[]⟩,.slice none 0 0,v1]) rfl rfl kR) ?_;refine zj hb4.u rfl rfl vJ rfl zX (fun w5 hq s5=>?_);replace hb4:=hq;refine zn3 ?_;refine x8 (.inl rfl) rfl (zk U44 rfl rfl hb4.range0 vJ) ?_;replace hB:=(hB.tr0 (s1.trans (s2.trans (s3.trans s4)))).tr1 s5 lo4;replace hb7:=hb7.tr1 s5 om;exact⟨⟨_,rfl,TmD.app hb7 (fun hm=>by have:=hX _ hm;omega) (h1.bel hB) (h2.bel hB)⟩,hB⟩
end Go.Proofs.YtbcpgfnfiekbiaaGreatDoor
namespace Go.Proofs.YtbcpgfnfiekbiaaGreatDoor
open Go.RowKit
def qN19 (s1 s2:ByteArray):Ts:=(fun _=>(Ts.f (Ts.f (Ts.b false) (Ts.b true)) (Ts.b true))) (s1,s2)
def qN20 (s1 s2:ByteArray):Tv:=(Tv.con s1 (qN19 s1 s2))
def qN26 (s1 s2:ByteArray):Ts:=(fun _=>(Ts.f (Ts.b true) (Ts.b true))) (s1,s2)
def qN27 (s1 s2:ByteArray):Ts:=(Ts.f (Ts.b true) (qN26 s1 s2))
def qN28 (s1 s2:ByteArray):Tv:=(Tv.con s2 (qN27 s1 s2))
def qN29 (s1 s2:ByteArray):Tv:=(fun _=>(Tv.var 2)) (s1,s2)
def qN30 (s1 s2:ByteArray):Tv:=(fun _=>(Tv.var 0)) (s1,s2)
def qN31 (s1 s2:ByteArray):Tv:=(Tv.app (qN29 s1 s2) (qN30 s1 s2))
def qN32 (s1 s2:ByteArray):Tv:=(Tv.app (qN28 s1 s2) (qN31 s1 s2))
def qN33 (s1 s2:ByteArray):Tv:=(fun _=>(Tv.var 1)) (s1,s2)
def qN34 (s1 s2:ByteArray):Tv:=(fun _=>(Tv.var 0)) (s1,s2)
def qN35 (s1 s2:ByteArray):Tv:=(Tv.app (qN33 s1 s2) (qN34 s1 s2))
def qN36 (s1 s2:ByteArray):Tv:=(Tv.app (qN32 s1 s2) (qN35 s1 s2))
def qN37 (s1 s2:ByteArray):Tv:=(Tv.abs (Ts.b false) (qN36 s1 s2))
def Mz (s1 s2:ByteArray):Tv:=(Tv.app (qN20 s1 s2) (qN37 s1 s2))
def qM49 (s1 s2:ByteArray):Tv:=(Tv.abs (Ts.f (Ts.b false) (Ts.b true)) (Mz s1 s2))
def qM50 (s1 s2:ByteArray):Tv:=(Tv.abs (Ts.f (Ts.b false) (Ts.b true)) (qM49 s1 s2))
def qY42 (s1 s2:ByteArray):Ts:=(fun _=>(Ts.f (Ts.b true) (Ts.b true))) (s1,s2)
def qY43 (s1 s2:ByteArray):Tv:=(Tv.con ⟨#[110,111,116]⟩ (qY42 s1 s2))
def qY45 (s1 s2:ByteArray):Tv:=(Tv.app (qY43 s1 s2) (Mz s1 s2))
def qY49 (s1 s2:ByteArray):Tv:=(Tv.abs (Ts.f (Ts.b false) (Ts.b true)) (qY45 s1 s2))
def qY50 (s1 s2:ByteArray):Tv:=(Tv.abs (Ts.f (Ts.b false) (Ts.b true)) (qY49 s1 s2))
def quN (s1 s2:ByteArray):Tv:=(qM50 s1 s2)
def quY (s1 s2:ByteArray):Tv:=(qY50 s1 s2)
def QuR (s1 s2:ByteArray) (wc:World) (v:Value) (w':World):Prop:=∃ b10 S38 c38 B38 m38 n38,v= .pointer (some ⟨b10,0,none⟩)∧wc.heap.size≤b10∧Blk w' b10 44 #[.int .i64 ((Mz s1 s2)).tm.kind,.string ((Mz s1 s2)).tm.name,.int .i64 ((Mz s1 s2)).tm.index,.string ((Mz s1 s2)).tm.type.base,.slice S38 ((Mz s1 s2)).tm.type.args.length c38,.slice B38 ((Mz s1 s2)).tm.args.length m38]∧Fz [b10] n38 TS w' (fun w=>SimsIn w S38 ((Mz s1 s2)).tm.type.args∧TmsIn w B38 ((Mz s1 s2)).tm.args)
theorem Same.new10 {b:Nat} {w w1 w2:World} (h:Same [] w w1) (hs:Same [b] w1 w2) (hb:w.heap.size≤b):Same [] w w2:=
  ⟨hs.os.trans h.os,hs.tape.trans h.tape,hs.output.trans h.output,nLT h.size hs.size,fun k hk _=>by
    rw [hs.blk k (nLL hk h.size) (by simp;omega)];exact h.blk k hk (by simp)⟩
theorem W1:zZ Tryz.prog 17=true:=by kernel_rfl
theorem Yx:zZ Tryz.prog 18=true:=by kernel_rfl
theorem QZ:zZ Tryz.prog 24=true:=by kernel_rfl
theorem Q2:zZ Tryz.prog 25=true:=by kernel_rfl
theorem Y1:zZ Tryz.prog 26=true:=by kernel_rfl
theorem Q1:zZ Tryz.prog 27=true:=by kernel_rfl
set_option maxHeartbeats 2000000 in
theorem qu_r3 {wc:World} {b7 b8 b9 c15 n15:Nat} {A15:Option Addr} (s1 s2:ByteArray) (hb7:Blk wc b7 41 #[.string ⟨#[101]⟩,.slice none 0 0]) (hb8:Blk wc b8 41 #[.string ⟨#[116]⟩,.slice none 0 0]) (hb9:Blk wc b9 41 #[.string ((Ts.f (Ts.b false) (Ts.b true))).sm.base,.slice A15 ((Ts.f (Ts.b false) (Ts.b true))).sm.args.length c15]) (hz15:Fz [] n15 TS wc (fun w=>SimsIn w A15 ((Ts.f (Ts.b false) (Ts.b true))).sm.args)) (f:Fr) (Q:Exit→Act→World→Prop) (k0:f 0= .string s1) (k1:f 1= .string s2) (k7:f 7= .pointer (some ⟨b7,0,none⟩)) (k8:f 8= .pointer (some ⟨b8,0,none⟩)) (k9:f 9= .pointer (some ⟨b9,0,none⟩)) (hPQ:PQ Q):WC Tryz.prog (sl (sr (sr (sr (ob Tryz.f23.body))))) (QRS 51 [10,16,17,18,19,20,21,22,23,24,25,26,27,28,29,30,31,32,33,34,35,36,37,38] f (fun g w'=>Same [] wc w'∧QuR s1 s2 wc (g 10) w') Q) 51 f wc:=by
 have hZ:Same [] wc wc:=Same.refl _ _;refine zQ 0 _ k0 nu (zQ 1 _ k1 nu (zQ 7 _ k7 nu (zQ 8 _ k8 nu (zQ 9 _ k9 nu ?_))));have z7:=hb7.lt;have z8:=hb8.lt;have z9:=hb9.lt;refine jZ 24 [16,17,18,19,20,21,22,23,24,25,26,27,28,29,30,31,32,33,34,35,36,37,38,10] (fun ix=>Nat.beq ix 23) (fun ix v wv=>match ix with | 0=>v= .string s1 | 1=>v= .agg #[.string ((Ts.f (Ts.b false) (Ts.b true))).sm.base,.slice A15 ((Ts.f (Ts.b false) (Ts.b true))).sm.args.length c15] | 2=>v= .agg #[.string ((Ts.b true)).sm.base,.slice none ((Ts.b true)).sm.args.length 0] | 3=>SmD [] (qN19 s1 s2) wv (v) | 4=>TmD [] (qN20 s1 s2) wv (v) | 5=>v= .agg #[.string ((Ts.b false)).sm.base,.slice none ((Ts.b false)).sm.args.length 0] | 6=>v= .string s2 | 7=>v= .agg #[.string ((Ts.b true)).sm.base,.slice none ((Ts.b true)).sm.args.length 0] | 8=>v= .agg #[.string ((Ts.b true)).sm.base,.slice none ((Ts.b true)).sm.args.length 0] | 9=>v= .agg #[.string ((Ts.b true)).sm.base,.slice none ((Ts.b true)).sm.args.length 0] | 10=>SmD [] (qN26 s1 s2) wv (v) | 11=>SmD [] (qN27 s1 s2) wv (v) | 12=>TmD [] (qN28 s1 s2) wv (v) | 13=>TmD [] (qN29 s1 s2) wv (v) | 14=>TmD [] (qN30 s1 s2) wv (v) | 15=>TmD [] (qN31 s1 s2) wv (v) | 16=>TmD [] (qN32 s1 s2) wv (v) | 17=>TmD [] (qN33 s1 s2) wv (v) | 18=>TmD [] (qN34 s1 s2) wv (v) | 19=>TmD [] (qN35 s1 s2) wv (v) | 20=>TmD [] (qN36 s1 s2) wv (v) | 21=>TmD [] (qN37 s1 s2) wv (v) | 22=>TmD [] (Mz s1 s2) wv (v) | 23=>∃ b,v= .pointer (some ⟨b,0,none⟩)∧wc.heap.size≤b∧Blk wv b 44 #[.int .i64 0,.string ⟨#[]⟩,.int .i64 0,.string ⟨#[]⟩,.slice none 0 0,.slice none 0 0] | _=>True) kR kR ?_ ?_ ?_
 ·intro ix v wv wv2 h t1
  match ix,h with
  | 0,h=>exact h
  | 1,h=>exact h
  | 2,h=>exact h
  | 3,h=>
   obtain⟨A19,c19,n19,e19,hz19⟩:=h;exact⟨A19,c19,n19,e19,hz19.tr0 t1⟩
  | 4,h=>
   obtain⟨S20,c20,B20,m20,n20,e20,hz20⟩:=h;exact⟨S20,c20,B20,m20,n20,e20,hz20.tr0 t1⟩
  | 5,h=>exact h
  | 6,h=>exact h
  | 7,h=>exact h
  | 8,h=>exact h
  | 9,h=>exact h
  | 10,h=>
   obtain⟨A26,c26,n26,e26,hz26⟩:=h;exact⟨A26,c26,n26,e26,hz26.tr0 t1⟩
  | 11,h=>
   obtain⟨A27,c27,n27,e27,hz27⟩:=h;exact⟨A27,c27,n27,e27,hz27.tr0 t1⟩
  | 12,h=>
   obtain⟨S28,c28,B28,m28,n28,e28,hz28⟩:=h;exact⟨S28,c28,B28,m28,n28,e28,hz28.tr0 t1⟩
  | 13,h=>
   obtain⟨S29,c29,B29,m29,n29,e29,hz29⟩:=h;exact⟨S29,c29,B29,m29,n29,e29,hz29.tr0 t1⟩
  | 14,h=>
   obtain⟨S30,c30,B30,m30,n30,e30,hz30⟩:=h;exact⟨S30,c30,B30,m30,n30,e30,hz30.tr0 t1⟩
  | 15,h=>
   obtain⟨S31,c31,B31,m31,n31,e31,hz31⟩:=h;exact⟨S31,c31,B31,m31,n31,e31,hz31.tr0 t1⟩
  | 16,h=>
   obtain⟨S32,c32,B32,m32,n32,e32,hz32⟩:=h;exact⟨S32,c32,B32,m32,n32,e32,hz32.tr0 t1⟩
  | 17,h=>
   obtain⟨S33,c33,B33,m33,n33,e33,hz33⟩:=h;exact⟨S33,c33,B33,m33,n33,e33,hz33.tr0 t1⟩
  | 18,h=>
   obtain⟨S34,c34,B34,m34,n34,e34,hz34⟩:=h;exact⟨S34,c34,B34,m34,n34,e34,hz34.tr0 t1⟩
  | 19,h=>
   obtain⟨S35,c35,B35,m35,n35,e35,hz35⟩:=h;exact⟨S35,c35,B35,m35,n35,e35,hz35.tr0 t1⟩
  | 20,h=>
   obtain⟨S36,c36,B36,m36,n36,e36,hz36⟩:=h;exact⟨S36,c36,B36,m36,n36,e36,hz36.tr0 t1⟩
  | 21,h=>
   obtain⟨S37,c37,B37,m37,n37,e37,hz37⟩:=h;exact⟨S37,c37,B37,m37,n37,e37,hz37.tr0 t1⟩
  | 22,h=>
   obtain⟨S38,c38,B38,m38,n38,e38,hz38⟩:=h;exact⟨S38,c38,B38,m38,n38,e38,hz38.tr0 t1⟩
  | 23,h=>
   obtain⟨b10,e10,lo10,hb10⟩:=h;exact⟨b10,e10,lo10,hb10.tr0 t1⟩
  | _ + 24,h=>exact trivial
 ·intro ix o hix hoq gg wx t2 hd hdis
  match ix,hix,hoq with
  | 0,_,hoq=>
   cases sI hoq;exact oVq (xZ (v:= .string _) rfl) rfl
  | 1,_,hoq=>
   cases sI hoq;exact oVq (zV U41 rfl rfl hb9.u.range0 xz) rfl
  | 2,_,hoq=>
   cases sI hoq;exact oVq (zV U41 rfl rfl hb8.u.range0 xz) rfl
  | 3,_,hoq=>
   cases sI hoq;refine zz 17 _ (hd 1 (zq kR)) nu (zz 18 _ (hd 2 (zq kR)) nu ?_);replace hz15:=hz15.tr0 t2;refine yK Yx (gK [] (Ts.f (Ts.b false) (Ts.b true)) (Ts.b true) _ _ _ _ _ _ wx (by simp) hz15 (Fz.triv _ _ TS (fun _=>SimsIn.nil))) rfl (fun e' w2 hr=>?_);obtain⟨⟨_,rfl,hd⟩,t3⟩:=hr;exact⟨_,rfl,sB t3,hd,xq⟩
  | 4,_,hoq=>
   cases sI hoq;obtain⟨A19,c19,n19,e19,hz19⟩:=hd 3 (zq kR);refine zz 16 _ (hd 0 (zq kR)) nu (zz 19 _ e19 nu ?_);refine yK QZ (o6 [] s1 (qN19 s1 s2) _ _ _ wx hz19) rfl (fun e' w2 hr=>?_);obtain⟨⟨_,rfl,hd⟩,t4⟩:=hr;exact⟨_,rfl,sB t4,hd,xq⟩
  | 5,_,hoq=>
   cases sI hoq;exact oVq (zV U41 rfl rfl hb7.u.range0 xz) rfl
  | 6,_,hoq=>
   cases sI hoq;exact oVq (xZ (v:= .string _) rfl) rfl
  | 7,_,hoq=>
   cases sI hoq;exact oVq (zV U41 rfl rfl hb8.u.range0 xz) rfl
  | 8,_,hoq=>
   cases sI hoq;exact oVq (zV U41 rfl rfl hb8.u.range0 xz) rfl
  | 9,_,hoq=>
   cases sI hoq;exact oVq (zV U41 rfl rfl hb8.u.range0 xz) rfl
  | 10,_,hoq=>
   cases sI hoq;refine zz 24 _ (hd 8 (zq kR)) nu (zz 25 _ (hd 9 (zq kR)) nu ?_);refine yK Yx (gK [] (Ts.b true) (Ts.b true) _ _ _ _ _ _ wx (by simp) (Fz.triv _ _ TS (fun _=>SimsIn.nil)) (Fz.triv _ _ TS (fun _=>SimsIn.nil))) rfl (fun e' w2 hr=>?_);obtain⟨⟨_,rfl,hd⟩,t5⟩:=hr;exact⟨_,rfl,sB t5,hd,xq⟩
  | 11,_,hoq=>
   cases sI hoq;obtain⟨A26,c26,n26,e26,hz26⟩:=hd 10 (zq kR);refine zz 23 _ (hd 7 (zq kR)) nu (zz 26 _ e26 nu ?_);refine yK Yx (gK [] (Ts.b true) (qN26 s1 s2) _ _ _ _ _ _ wx (by simp) (Fz.triv _ _ TS (fun _=>SimsIn.nil)) hz26) rfl (fun e' w2 hr=>?_);obtain⟨⟨_,rfl,hd⟩,t6⟩:=hr;exact⟨_,rfl,sB t6,hd,xq⟩
  | 12,_,hoq=>
   cases sI hoq;obtain⟨A27,c27,n27,e27,hz27⟩:=hd 11 (zq kR);refine zz 22 _ (hd 6 (zq kR)) nu (zz 27 _ e27 nu ?_);refine yK QZ (o6 [] s2 (qN27 s1 s2) _ _ _ wx hz27) rfl (fun e' w2 hr=>?_);obtain⟨⟨_,rfl,hd⟩,t7⟩:=hr;exact⟨_,rfl,sB t7,hd,xq⟩
  | 13,_,hoq=>
   cases sI hoq;refine yK Q1 (vy [] 2 wx) rfl (fun e' w2 hr=>?_);obtain⟨⟨_,rfl,hd⟩,t8⟩:=hr;exact⟨_,rfl,sB t8,hd,xq⟩
  | 14,_,hoq=>
   cases sI hoq;refine yK Q1 (vy [] 0 wx) rfl (fun e' w2 hr=>?_);obtain⟨⟨_,rfl,hd⟩,t9⟩:=hr;exact⟨_,rfl,sB t9,hd,xq⟩
  | 15,_,hoq=>
   cases sI hoq;obtain⟨S29,c29,B29,m29,n29,e29,hz29⟩:=hd 13 (zq kR);obtain⟨S30,c30,B30,m30,n30,e30,hz30⟩:=hd 14 (zq kR);refine zz 29 _ e29 nu (zz 30 _ e30 nu ?_);refine yK Y1 (gX [] (qN29 s1 s2) (qN30 s1 s2) _ _ _ _ _ _ _ _ _ _ wx (by simp) hz29 hz30) rfl (fun e' w2 hr=>?_);obtain⟨⟨_,rfl,hd⟩,t10⟩:=hr;exact⟨_,rfl,sB t10,hd,xq⟩
  | 16,_,hoq=>
   cases sI hoq;obtain⟨S28,c28,B28,m28,n28,e28,hz28⟩:=hd 12 (zq kR);obtain⟨S31,c31,B31,m31,n31,e31,hz31⟩:=hd 15 (zq kR);refine zz 28 _ e28 nu (zz 31 _ e31 nu ?_);refine yK Y1 (gX [] (qN28 s1 s2) (qN31 s1 s2) _ _ _ _ _ _ _ _ _ _ wx (by simp) hz28 hz31) rfl (fun e' w2 hr=>?_);obtain⟨⟨_,rfl,hd⟩,t11⟩:=hr;exact⟨_,rfl,sB t11,hd,xq⟩
  | 17,_,hoq=>
   cases sI hoq;refine yK Q1 (vy [] 1 wx) rfl (fun e' w2 hr=>?_);obtain⟨⟨_,rfl,hd⟩,t12⟩:=hr;exact⟨_,rfl,sB t12,hd,xq⟩
  | 18,_,hoq=>
   cases sI hoq;refine yK Q1 (vy [] 0 wx) rfl (fun e' w2 hr=>?_);obtain⟨⟨_,rfl,hd⟩,t13⟩:=hr;exact⟨_,rfl,sB t13,hd,xq⟩
  | 19,_,hoq=>
   cases sI hoq;obtain⟨S33,c33,B33,m33,n33,e33,hz33⟩:=hd 17 (zq kR);obtain⟨S34,c34,B34,m34,n34,e34,hz34⟩:=hd 18 (zq kR);refine zz 33 _ e33 nu (zz 34 _ e34 nu ?_);refine yK Y1 (gX [] (qN33 s1 s2) (qN34 s1 s2) _ _ _ _ _ _ _ _ _ _ wx (by simp) hz33 hz34) rfl (fun e' w2 hr=>?_);obtain⟨⟨_,rfl,hd⟩,t14⟩:=hr;exact⟨_,rfl,sB t14,hd,xq⟩
  | 20,_,hoq=>
   cases sI hoq;obtain⟨S32,c32,B32,m32,n32,e32,hz32⟩:=hd 16 (zq kR);obtain⟨S35,c35,B35,m35,n35,e35,hz35⟩:=hd 19 (zq kR);refine zz 32 _ e32 nu (zz 35 _ e35 nu ?_);refine yK Y1 (gX [] (qN32 s1 s2) (qN35 s1 s2) _ _ _ _ _ _ _ _ _ _ wx (by simp) hz32 hz35) rfl (fun e' w2 hr=>?_);obtain⟨⟨_,rfl,hd⟩,t15⟩:=hr;exact⟨_,rfl,sB t15,hd,xq⟩
  | 21,_,hoq=>
   cases sI hoq;obtain⟨S36,c36,B36,m36,n36,e36,hz36⟩:=hd 20 (zq kR);refine zz 21 _ (hd 5 (zq kR)) nu (zz 36 _ e36 nu ?_);refine yK Q2 (uq [] (Ts.b false) (qN36 s1 s2) _ _ _ _ _ _ _ _ wx (by simp) (Fz.triv _ _ TS (fun _=>SimsIn.nil)) hz36) rfl (fun e' w2 hr=>?_);obtain⟨⟨_,rfl,hd⟩,t16⟩:=hr;exact⟨_,rfl,sB t16,hd,xq⟩
  | 22,_,hoq=>
   cases sI hoq;obtain⟨S20,c20,B20,m20,n20,e20,hz20⟩:=hd 4 (zq kR);obtain⟨S37,c37,B37,m37,n37,e37,hz37⟩:=hd 21 (zq kR);refine zz 20 _ e20 nu (zz 37 _ e37 nu ?_);refine yK Y1 (gX [] (qN20 s1 s2) (qN37 s1 s2) _ _ _ _ _ _ _ _ _ _ wx (by simp) hz20 hz37) rfl (fun e' w2 hr=>?_);obtain⟨⟨_,rfl,hd⟩,t17⟩:=hr;exact⟨_,rfl,sB t17,hd,xq⟩
  | 23,_,hoq=>
   cases sI hoq;have hs0:=t2;refine vK (fun ops Q K=>?_);refine zY (cs:=#[.int .i64 0,.string ⟨#[]⟩,.int .i64 0,.string ⟨#[]⟩,.slice none 0 0,.slice none 0 0]) uX rfl (fun b10 w1 hb10 t18 hr=>?_);exact K _ _ ⟨t18,⟨_,rfl,nLT hs0.size hr,hb10⟩,fRq hr hb10.lt⟩
  | _ + 24,hix,_=>exact absurd hix om
 intro gg w2 t19 hR hdis;obtain⟨S38,c38,B38,m38,n38,e38,hz38⟩:=hR 22 dE;obtain⟨b10,e10,lo10,hb10⟩:=hR 23 dE;refine x7 38 _ e38 nu (x7 10 _ e10 nu ?_);refine zj hb10 rfl rfl vJ rfl zX (fun w3 hq t20=>?_);replace hZ:=hZ.trans t19;replace hZ:=hZ.new10 t20 lo10;replace hz38:=hz38.free t20 hb10 sp_tm;replace hb10:=hq;refine zw ?_;refine e_R ⟨agA,?_⟩;exact⟨hZ,b10,S38,c38,B38,m38,_,rfl,lo10,hb10,hz38⟩
set_option maxHeartbeats 2000000 in
theorem quN_d (s1 s2:ByteArray) (w:World):Calls Tryz.prog 23 #[.string s1,.string s2,.bool false] w fun e w'=>(∃ z,e= .returned z∧TmD [] (quN s1 s2) w' z)∧Bel w w':=by
 refine enT Tryz.func23 Tryz.ntmps23 rfl rfl fun hB=>?_;refine zn2 ?_;refine zY (cs:=#[.int .i64 0,.string ⟨#[]⟩,.int .i64 0,.string ⟨#[]⟩,.slice none 0 0,.slice none 0 0]) uX rfl (fun b6 w1 hb6 t1 hr=>?_);have lo6:=nLT (Bel.size hB) hr;refine zn4 ?_;refine zJ W1 (oX _ _) rfl (fun e' w2 hr=>?_);obtain⟨rfl,t2⟩:=hr;replace t2:=sB t2;refine⟨_,rfl,?_⟩;refine zJ W1 (oX _ _) rfl (fun e' w3 hr=>?_);obtain⟨rfl,t3⟩:=hr;replace t3:=sB t3;refine⟨_,rfl,?_⟩;refine zY (cs:=#[.string ⟨#[]⟩,.slice none 0 0]) yW rfl (fun b7 w4 hb7 t4 hr=>?_);have:=nLL hb6.u.lt hr;have lo7:=nLT (Bel.size hB.u) hr;refine zY (cs:=#[.string ⟨#[]⟩,.slice none 0 0]) yW rfl (fun b8 w5 hb8 t5 hr=>?_);have:=nLL hb6.u.lt hr;have:=nLL hb7.lt hr;have lo8:=nLT (Bel.size hB.u) hr;refine zj hb7.u rfl rfl xz rfl zX (fun w6 hq t6=>?_);replace hb7:=hq;refine zj hb8.u rfl rfl xz rfl zX (fun w7 hq t7=>?_);replace hb8:=hq;refine zn6 ?_;refine zJ Yx (gK [] (Ts.b false) (Ts.b true) none none 0 0 _ _ _ (by simp) (Fz.triv _ _ TS (fun _=>SimsIn.nil)) (Fz.triv _ _ TS (fun _=>SimsIn.nil))) rfl (fun e' w8 hr=>?_);obtain⟨⟨_,rfl,A15,c15,n15,rfl,hz15⟩,t8⟩:=hr;replace t8:=sB t8;refine⟨_,rfl,?_⟩;refine xW (cs:=#[.string ⟨#[]⟩,.slice none 0 0]) yW rfl (fun _=>rfl) (fun _=>rfl) xz rfl zX (fun b9 w10 hb9 t9 hr=>?_);refine zn3 ?_;replace hz15:=hz15.tr0 t9;refine y7 (rg [10] 16 23) (fun g w'=>Same [] w10 w'∧QuR s1 s2 w10 (g 10) w') ?_ (fun g3 w11 hI=>?_)
 ·replace hb7:=(hb7.tr1 t7 om).tr0 (t8.trans t9);replace hb8:=hb8.tr0 (t8.trans t9);have hh:=fun f Q k0 k1 k2 k3 k4 kq=>qu_r3 s1 s2 hb7 hb8 hb9 hz15 f Q k0 k1 k2 k3 k4 kq
  exact hh _ _ (by rfl) (by rfl) (by rfl) (by rfl) (by rfl) (by intro d;cases d <;> exact fun _ _ _ _ h=>h)
 obtain⟨t10,b10,S38,c38,B38,m38,n38,e10,lo10,hb10,hz38⟩:=hI;have q15:=hz15.le;replace hB:=(((hB.tr0 (t1.trans (t2.trans (t3.trans (t4.trans t5))))).tr1 t6 lo7).tr1 t7 lo8).tr0 (t8.trans t9);have lo10n:=nLT (Bel.size hB) lo10;replace hz15:=hz15.tr0 t10;replace hz15:=hz15.addX (Y:=[b10]) (fun y hy=> .inr (by rw [List.mem_singleton.1 hy];exact nLT q15 lo10));replace lo10:=lo10n;refine ky 10 _ e10 nu (zn7 ?_);refine vw rfl (fun c39=>?_) (fun c39=>?_)
 ·exact absurd c39 dE
 refine zn3 ?_;refine kX [] [5] [0,1,2,3,4,5] rfl (fun w12 t11=>?_);refine zn3 ?_;replace hz15:=hz15.tr0 t11;replace hb10:=hb10.tr0 t11;replace hz38:=hz38.tr0 t11;refine hcl (fun v wv=>TmD [b10] (qM49 s1 s2) wv (v)) rfl Q2 (uq [b10] (Ts.f (Ts.b false) (Ts.b true)) (Mz s1 s2) _ _ _ _ _ _ _ _ w12 (fun x hx=>by rw [List.mem_singleton.1 hx];exact hb10.lt) hz15 hz38) rfl (fun e' w2 hr=>?_) (fun v49 w13 t12 d49=>?_)
 ·obtain⟨⟨_,rfl,hd⟩,t13⟩:=hr;exact⟨_,rfl,sB t13,hd⟩
 obtain⟨S49,c49,B49,m49,n49,e49,hz49⟩:=d49;subst e49;replace hz15:=hz15.tr0 t12;replace hb10:=hb10.tr0 t12;refine hcl (fun v wv=>TmD [b10] (qM50 s1 s2) wv (v)) rfl Q2 (uq [b10] (Ts.f (Ts.b false) (Ts.b true)) (qM49 s1 s2) _ _ _ _ _ _ _ _ w13 (fun x hx=>by rw [List.mem_singleton.1 hx];exact hb10.lt) hz15 hz49) rfl (fun e' w2 hr=>?_) (fun v50 w14 t14 d50=>?_)
 ·obtain⟨⟨_,rfl,hd⟩,t15⟩:=hr;exact⟨_,rfl,sB t15,hd⟩
 obtain⟨S50,c50,B50,m50,n50,e50,hz50⟩:=d50;subst e50;refine h1 rfl ?_;refine zj hb6.u rfl rfl vJ rfl zX (fun w15 hq t16=>?_);have hsH5:=t16;replace hb6:=(((hb6.tr0 (t2.trans (t3.trans (t4.trans t5)))).tr1 t6 om).tr1 t7 om).tr0 (t8.trans (t9.trans (t10.trans (t11.trans (t12.trans t14)))));replace hz50:=hz50.sp1 t16 hb6 sp_tm;replace hb6:=hq;refine zw (Q5 [] (zn3 ?_));refine x8 (.inl rfl) rfl (zk U44 rfl rfl hb6.range0 vJ) ?_;exact⟨⟨_,rfl,_,_,_,_,_,rfl,hz50.nil⟩,hB.u⟩
set_option maxHeartbeats 2000000 in
theorem quY_d (s1 s2:ByteArray) (w:World):Calls Tryz.prog 23 #[.string s1,.string s2,.bool true] w fun e w'=>(∃ z,e= .returned z∧TmD [] (quY s1 s2) w' z)∧Bel w w':=by
 refine enT Tryz.func23 Tryz.ntmps23 rfl rfl fun hB=>?_;refine zn2 ?_;refine zY (cs:=#[.int .i64 0,.string ⟨#[]⟩,.int .i64 0,.string ⟨#[]⟩,.slice none 0 0,.slice none 0 0]) uX rfl (fun b6 w1 hb6 t1 hr=>?_);have lo6:=nLT (Bel.size hB) hr;refine zn4 ?_;refine zJ W1 (oX _ _) rfl (fun e' w2 hr=>?_);obtain⟨rfl,t2⟩:=hr;replace t2:=sB t2;refine⟨_,rfl,?_⟩;refine zJ W1 (oX _ _) rfl (fun e' w3 hr=>?_);obtain⟨rfl,t3⟩:=hr;replace t3:=sB t3;refine⟨_,rfl,?_⟩;refine zY (cs:=#[.string ⟨#[]⟩,.slice none 0 0]) yW rfl (fun b7 w4 hb7 t4 hr=>?_);have:=nLL hb6.u.lt hr;have lo7:=nLT (Bel.size hB.u) hr;refine zY (cs:=#[.string ⟨#[]⟩,.slice none 0 0]) yW rfl (fun b8 w5 hb8 t5 hr=>?_);have:=nLL hb6.u.lt hr;have:=nLL hb7.lt hr;have lo8:=nLT (Bel.size hB.u) hr;refine zj hb7.u rfl rfl xz rfl zX (fun w6 hq t6=>?_);replace hb7:=hq;refine zj hb8.u rfl rfl xz rfl zX (fun w7 hq t7=>?_);replace hb8:=hq;refine zn6 ?_;refine zJ Yx (gK [] (Ts.b false) (Ts.b true) none none 0 0 _ _ _ (by simp) (Fz.triv _ _ TS (fun _=>SimsIn.nil)) (Fz.triv _ _ TS (fun _=>SimsIn.nil))) rfl (fun e' w8 hr=>?_);obtain⟨⟨_,rfl,A15,c15,n15,rfl,hz15⟩,t8⟩:=hr;replace t8:=sB t8;refine⟨_,rfl,?_⟩;refine xW (cs:=#[.string ⟨#[]⟩,.slice none 0 0]) yW rfl (fun _=>rfl) (fun _=>rfl) xz rfl zX (fun b9 w10 hb9 t9 hr=>?_);refine zn3 ?_;replace hz15:=hz15.tr0 t9;refine y7 (rg [10] 16 23) (fun g w'=>Same [] w10 w'∧QuR s1 s2 w10 (g 10) w') ?_ (fun g3 w11 hI=>?_)
 ·replace hb7:=(hb7.tr1 t7 om).tr0 (t8.trans t9);replace hb8:=hb8.tr0 (t8.trans t9);have hh:=fun f Q k0 k1 k2 k3 k4 kq=>qu_r3 s1 s2 hb7 hb8 hb9 hz15 f Q k0 k1 k2 k3 k4 kq
  exact hh _ _ (by rfl) (by rfl) (by rfl) (by rfl) (by rfl) (by intro d;cases d <;> exact fun _ _ _ _ h=>h)
 obtain⟨t10,b10,S38,c38,B38,m38,n38,e10,lo10,hb10,hz38⟩:=hI;have:=nLL hb6.u.lt lo10;have:=nLL hb9.lt lo10;have q15:=hz15.le;replace hB:=(((hB.tr0 (t1.trans (t2.trans (t3.trans (t4.trans t5))))).tr1 t6 lo7).tr1 t7 lo8).tr0 (t8.trans t9);have lo10n:=nLT (Bel.size hB) lo10;replace hz15:=hz15.tr0 t10;replace hz15:=hz15.addX (Y:=[b10]) (fun y hy=> .inr (by rw [List.mem_singleton.1 hy];exact nLT q15 lo10));replace lo10:=lo10n;refine ky 10 _ e10 nu (zn7 ?_);refine vw rfl (fun c39=>?_) (fun c39=>?_)
 ·refine kX [] [6] [0,1,4,2,3,5,6] rfl (fun w12 t11=>?_);refine zn3 ?_;replace hb10:=hb10.tr0 t11;refine hcl (fun v wv=>SmD [b10] (qY42 s1 s2) wv (v)) rfl Yx (gK [b10] (Ts.b true) (Ts.b true) _ _ _ _ _ _ w12 (fun x hx=>by rw [List.mem_singleton.1 hx];exact hb10.lt) (Fz.triv _ _ TS (fun _=>SimsIn.nil)) (Fz.triv _ _ TS (fun _=>SimsIn.nil))) rfl (fun e' w2 hr=>?_) (fun v42 w13 t12 d42=>?_)
  ·obtain⟨⟨_,rfl,hd⟩,t13⟩:=hr;exact⟨_,rfl,sB t13,hd⟩
  obtain⟨A42,c42,n42,e42,hz42⟩:=d42;subst e42;refine hcl (fun v wv=>TmD [b10] (qY43 s1 s2) wv (v)) rfl QZ (o6 [b10] ⟨#[110,111,116]⟩ (qY42 s1 s2) _ _ _ w13 hz42) rfl (fun e' w2 hr=>?_) (fun v43 w14 t14 d43=>?_)
  ·obtain⟨⟨_,rfl,hd⟩,t15⟩:=hr;exact⟨_,rfl,sB t15,hd⟩
  obtain⟨S43,c43,B43,m43,n43,e43,hz43⟩:=d43;subst e43;replace hz38:=hz38.tr0 (t11.trans (t12.trans t14));replace hb10:=hb10.tr0 (t12.trans t14);refine hcl (fun v wv=>TmD [b10] (qY45 s1 s2) wv (v)) rfl Y1 (gX [b10] (qY43 s1 s2) (Mz s1 s2) _ _ _ _ _ _ _ _ _ _ w14 (fun x hx=>by rw [List.mem_singleton.1 hx];exact hb10.lt) hz43 hz38) rfl (fun e' w2 hr=>?_) (fun v45 w15 t16 d45=>?_)
  ·obtain⟨⟨_,rfl,hd⟩,t17⟩:=hr;exact⟨_,rfl,sB t17,hd⟩
  obtain⟨S45,c45,B45,m45,n45,e45,hz45⟩:=d45;subst e45;refine h1 rfl ?_;refine zj hb10.u rfl rfl vJ rfl zX (fun w16 hq t18=>?_);have hsH6:=t18;replace hz15:=hz15.tr0 (t11.trans (t12.trans (t14.trans t16)));replace hz15:=hz15.in1 t18 (by simp);replace hz45:=hz45.in1 t18 (by simp);replace hb10:=hq;refine zw (Q5 [] (zn3 ?_));refine kX [] [5] [0,1,2,3,4,5] rfl (fun w17 t19=>?_);refine zn3 ?_;replace hz15:=hz15.tr0 t19;replace hb10:=hb10.tr0 t19;replace hz45:=hz45.tr0 t19;refine hcl (fun v wv=>TmD [b10] (qY49 s1 s2) wv (v)) rfl Q2 (uq [b10] (Ts.f (Ts.b false) (Ts.b true)) (qY45 s1 s2) _ _ _ _ _ _ _ _ w17 (fun x hx=>by rw [List.mem_singleton.1 hx];exact hb10.lt) hz15 hz45) rfl (fun e' w2 hr=>?_) (fun v49 w18 t20 d49=>?_)
  ·obtain⟨⟨_,rfl,hd⟩,t21⟩:=hr;exact⟨_,rfl,sB t21,hd⟩
  obtain⟨S49,c49,B49,m49,n49,e49,hz49⟩:=d49;subst e49;replace hz15:=hz15.tr0 t20;replace hb10:=hb10.tr0 t20;refine hcl (fun v wv=>TmD [b10] (qY50 s1 s2) wv (v)) rfl Q2 (uq [b10] (Ts.f (Ts.b false) (Ts.b true)) (qY49 s1 s2) _ _ _ _ _ _ _ _ w18 (fun x hx=>by rw [List.mem_singleton.1 hx];exact hb10.lt) hz15 hz49) rfl (fun e' w2 hr=>?_) (fun v50 w19 t22 d50=>?_)
  ·obtain⟨⟨_,rfl,hd⟩,t23⟩:=hr;exact⟨_,rfl,sB t23,hd⟩
  obtain⟨S50,c50,B50,m50,n50,e50,hz50⟩:=d50;subst e50;refine h1 rfl ?_;refine zj hb6.u rfl rfl vJ rfl zX (fun w20 hq t24=>?_);have hsH5:=t24;replace hb6:=(((((hb6.tr0 (t2.trans (t3.trans (t4.trans t5)))).tr1 t6 om).tr1 t7 om).tr0 (t8.trans (t9.trans (t10.trans (t11.trans (t12.trans (t14.trans t16))))))).tr1 t18 om).tr0 (t19.trans (t20.trans t22));replace hz50:=hz50.sp1 t24 hb6 sp_tm;replace hb6:=hq;refine zw (Q5 [] (zn3 ?_));refine x8 (.inl rfl) rfl (zk U44 rfl rfl hb6.range0 vJ) ?_;exact⟨⟨_,rfl,_,_,_,_,_,rfl,hz50.nil⟩,hB.u⟩
 exact absurd c39 dE
end Go.Proofs.YtbcpgfnfiekbiaaGreatDoor
