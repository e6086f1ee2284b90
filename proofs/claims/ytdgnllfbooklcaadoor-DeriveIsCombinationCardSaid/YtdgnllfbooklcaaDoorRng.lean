/- What these functions of the program compute, at every world: glosswright/graph.From. The canonical form of a valid graph is valid, and its own canonical form. No program in sight. What these functions of the program compute, at every world: slices.Equal[[]glosswright/api.Link,glosswright/api.Link], glosswright/glosswrightequal.Nodes. What these functions of the program compute, at every world: . Targets of links, walks along paths, what At answers. No program in sight. The engine's sixth part: copy, zeros appended to a slice, functions that the model has itself, a drawn region in which an operation changes what another one has made. Bytes of strings; sums of strings: rules for them. No program in sight. Strings cut at places and at bytes. No program in sight. Rules: a range over a string; scopes; numbers of a few bits. No program in sight. -/
import Derived.Test.YtdgnllfbooklcaaDoorU
import Derived.Test.YtdgnllfbooklcaaDoorSim
import Derived.Test.YtdgnllfbooklcaaDoorGro
import Derived.Test.YtdgnllfbooklcaaDoorGUnr
import Derived.Laws.CopyRow
import Derived.Laws.Externs
import Derived.Lib.Overlaps
import Derived.Lib.Builder
import Derived.Lib.AppendStr
import Derived.Lib.UnsafeStr
import Derived.Lib.Bytealg
import Derived.Laws.RangeAny
import Derived.Scope
namespace Go.Proofs.YtdgnllfbooklcaaDoor
open Go.RowKit
theorem in93:(Tryd.prog.info? 93).map (fun i=>(i.zero,i.size,i.bytes))=some (some (.agg #[.int .i64 0,.slice none 0 0]),2,32):=by kernel_rfl
theorem in95:(Tryd.prog.info? 95).map (fun i=>(i.zero,i.size,i.bytes))=some (some (.agg #[.int .i64 0,.int .i64 0]),2,16):=by kernel_rfl
theorem sz107:(Tryd.prog.info? 107).map (·.size)=some 1:=by kernel_rfl
theorem ze107:(Tryd.prog.info? 107).map (·.zero)=some (some (.nilFunc)):=by kernel_rfl
theorem E1:(Tryd.prog.info? 30).map (·.zero)=some (some (.agg #[.slice none 0 0])):=by kernel_rfl
theorem ze70:(Tryd.prog.info? 70).map (·.zero)=some (some (.slice none 0 0)):=by kernel_rfl
set_option maxHeartbeats 4000000 in
theorem from4_any (G:Option Addr) (cg nf:Nat) (gr:List Nd) (r:Nat) (w:World) (hG:NodesIn w G gr) (hk:Py nf gr) (hnf:nf≤1000) (hr:r < gr.length):Calls Tryd.prog 61 #[.agg #[.slice G gr.length cg],.int .i64 r] w fun e w'=>(∃ o A,DL gr [r] [] o∧OOk gr.length o∧e= .returned (.agg #[.slice A o.length o.length])∧GrD w' w.heap.size w'.heap.size A o.length (y5 gr o) (fun x=>(nd (y5 gr o) x).ty))∧Bel w w':=by
 have hn6:=hk.le;have hrg:=PW hk;refine enter Tryd.func61 Tryd.ntmps61 rfl (Nat.le_of_ble_eq_true rfl) ?_;have hB:Bel w w:=Below.refl _ _;refine zn2 ?_;refine xz (v:= .agg #[_]) (cs:=#[_]) rfl rfl (fun b2 w1 hb2 s1 hr=>?_);have lo2:=nLT (Bel.size hB) hr;clear hr;refine qw (cs:=#[.slice none 0 0]) E1 rfl (fun b4 w2 hb4 s2 hr=>?_);have:=nLL hb2.lt hr;replace hB:=hB.tr0 s1;have lo4:=nLT (Bel.size hB) hr;clear hr;refine zn7 ?_;refine DJ (m:=gr.length) U70 in3 rfl rfl rfl om om (fun b17 w3 hb17 s3 hr=>?_);replace hb2:=hb2.tr0 s2;have:=nLL hb2.lt hr;have:=nLL hb4.lt hr;replace hB:=hB.tr0 s2;have lo17:=nLT (Bel.size hB) hr;clear hr;refine qw (cs:=#[.slice none 0 0]) ze70 rfl (fun b5 w4 hb5 s4 hr=>?_);replace hb2:=hb2.tr0 s3;have:=nLL hb2.lt hr;replace hb4:=hb4.tr0 s3;have:=nLL hb4.lt hr;have:=nLL hb17.lt hr;replace hB:=hB.tr0 s3;have lo5:=nLT (Bel.size hB) hr;clear hr;refine xZ (v:= .slice _ _ _) hb5 rfl rfl MJ (by first | decide | simp) rfl rfl (fun w5 hq s5=>?_);replace hb5:=hq;refine gj ?_;replace hB:=(hB.tr0 s4).tr1 s5 lo5;replace hb2:=(hb2.tr0 s4).tr1 s5 om;replace hb4:=(hb4.tr0 s4).tr1 s5 om;replace hb17:=(hb17.tr0 s4).tr1 s5 om;refine qJ [6,20,21,22,23,24,25,26] (fun m g w'=>∃ k:Nat,k≤gr.length∧m=gr.length - k∧g 20= .int .i64 k∧Bel w w'∧Blk w' b2 30 #[.slice G gr.length cg]∧Blk w' b4 30 #[.slice none 0 0]∧Blk w' b5 70 #[.slice (some ⟨b17,0,none⟩) gr.length gr.length]∧Blk w' b17 3 (row gr.length (fun x=> .int .i64 (if x < k then -1 else 0)))) (gr.length) ?_ (fun m g3 w6 hI=>?_)
 ·refine⟨0,Nat.zero_le _,rfl,rfl,hB,hb2,hb4,hb5,?_⟩;rw [kX (g':=fun _=> .int .i64 0) (fun x _=>by simp)];exact hb17
 obtain⟨k,hkk,hm,h20,hB,hb2,hb4,hb5,hb17⟩:=hI;refine zQ 20 _ h20 nu (zn6 ?_);refine zJ rfl (fun c21=>?_) (fun c21=>?_)
 ·have hlt:k < gr.length:=by omega
  refine Yq ?_;refine xZ (v:= .int _ _) hb17 rfl rfl xy (by rw [row_size];omega) rfl Qj (fun w7 hq s6=>?_);replace hb17:=hq
  rw [kX (g':=fun x=> .int .i64 (if x < k + 1 then -1 else 0)) (fun x _=>by
    by_cases e:x=k
    · subst e;simp
    · have e1:(x < k + 1) ↔ (x < k):=by omega
      simp [e,e1])] at hb17
  refine zn7 ?_;refine yq (gr.length - (k + 1)) om agA ?_;replace hB:=hB.tr1 s6 lo17;replace hb2:=hb2.tr1 s6 om;replace hb4:=hb4.tr1 s6 om;replace hb5:=hb5.tr1 s6 om;exact⟨k + 1,by omega,rfl,rfl,hB,hb2,hb4,hb5,hb17⟩
 have hke:k=gr.length:=by omega
 rw [hke,kX (g':=fun x=> .int .i64 (u7 [] x)) (fun x hx=>by simp [hx,numO_nil])] at hb17;refine zn7 ?_;refine qw (cs:=#[.slice none 0 0]) ze70 rfl (fun b7 w8 hb7 s7 hr=>?_);have:=nLL hb2.lt hr;have:=nLL hb4.lt hr;have:=nLL hb17.lt hr;have:=nLL hb5.lt hr;have lo7:=nLT (Bel.size hB) hr;clear hr;refine zn4 ?_;refine qw (cs:=#[.nilFunc]) ze107 rfl (fun b8 w9 hb8 s8 hr=>?_);replace hb2:=hb2.tr0 s7;have:=nLL hb2.lt hr;replace hb4:=hb4.tr0 s7;have:=nLL hb4.lt hr;replace hb17:=hb17.tr0 s7;have:=nLL hb17.lt hr;replace hb5:=hb5.tr0 s7;have:=nLL hb5.lt hr;have:=nLL hb7.lt hr;replace hB:=hB.tr0 s7;have lo8:=nLT (Bel.size hB) hr;clear hr;refine zn4 ?_;refine wl (Fw rfl) ?_;refine xZ (v:= .func _ _ _) hb8 rfl rfl sz107 (by first | decide | simp) rfl rfl (fun w10 hq s9=>?_);replace hb8:=hq;refine zn3 ?_;obtain⟨base,hbase⟩:∃ b,b=w10.heap.size:=⟨_,rfl⟩
 replace hB:=(hB.tr0 s8).tr1 s9 lo8;have hlo:w.heap.size≤base:=by rw [hbase];exact Bel.size hB
 have hbs:base≤w10.heap.size:=Nat.le_of_eq hbase;replace hb5:=(hb5.tr0 s8).tr1 s9 om;have lt5:b5 < base:=by rw [hbase];exact hb5.lt
 replace hb7:=(hb7.tr0 s8).tr1 s9 om;have lt7:b7 < base:=by rw [hbase];exact hb7.lt
 replace hb2:=(hb2.tr0 s8).tr1 s9 om;have lt2:b2 < base:=by rw [hbase];exact hb2.lt
 replace hb4:=(hb4.tr0 s8).tr1 s9 om;have lt4:b4 < base:=by rw [hbase];exact hb4.lt
 have lt8:b8 < base:=by rw [hbase];exact hb8.lt
 replace hb17:=(hb17.tr0 s8).tr1 s9 om;have lt17:b17 < base:=by rw [hbase];exact hb17.lt
 refine zn3 ?_;refine xv rfl fn75 (G8 (w0:=w) (G:=G) (cg:=cg) (bP:=b5) (bQ:=b7) (bG:=b2) (bV:=b8) (bn:=b17) (base:=base) hG hk hlo lo5 lo7 lo2 lo8 lo17 lt5 lt7 lt2 lt8 lt17 om om om om om om om gr.length [] none 0 _ r (CV _ _) hr hB hbs (OOk.nil _) hb5 hb7 hb2 hb8 hb17 (Own.nil _ _ _ _)) rfl rfl (fun e' w11 hr=>?_);obtain⟨rfl,o,AO,capO,hD,hb7n,hoo,hb17n,hC⟩:=hr;replace hB:=hB.chg hC hlo (by simp [lo7,lo17])
 replace hb2 := hb2.chg hC lt2 (by have : b2 ≠ b7 := by omega
                                   have:b2≠b17:=by omega
                                   simp [*])
 replace hb4 := hb4.chg hC lt4 (by have : b4 ≠ b7 := by omega
                                   have:b4≠b17:=by omega
                                   simp [*])
 replace hb5 := hb5.chg hC lt5 (by have : b5 ≠ b7 := by omega
                                   have:b5≠b17:=by omega
                                   simp [*])
 replace hb7:=hb7n;replace hb17:=hb17n;obtain⟨hok,_,_⟩:=hD.ok hrg (fun i hi=>by rw [List.mem_singleton.1 hi];exact hr) (OOk.nil _);have hol:=hok.cnt;refine⟨_,rfl,?_⟩;refine zn6 ?_;refine wl_mk (m:=o.length) U28 in93 rfl rfl om om (fun b33 w12 hb33 s10 hr=>?_);have:=nLL hb2.lt hr;have:=nLL hb4.lt hr;have:=nLL hb17.lt hr;have:=nLL hb5.lt hr;have:=nLL hb7.lt hr;have or_hoo_b33:=fun g hg=>nLL (hoo.lt g hg).2 hr
 have lo33:=nLT (Bel.size hB) hr;clear hr;refine wl (KV (v0:= .slice _ _ _) (fun v0=>#[v0]) rfl kR) ?_;refine yj (cs:=#[.slice none 0 0]) E1 rfl (fun _=>rfl) (fun _=>rfl) Z8 rfl zK (fun b9 w14 hb9 s11 hr=>?_);have:=nLL hb33.lt hr;clear hr;refine zn4 ?_;replace hB:=hB.tr0 (s10.trans s11);replace hb2:=hb2.tr0 (s10.trans s11);replace hb4:=hb4.tr0 (s10.trans s11);replace hb17:=hb17.tr0 (s10.trans s11);replace hb5:=hb5.tr0 (s10.trans s11);replace hb7:=hb7.tr0 (s10.trans s11);replace hoo:=hoo.tr0 (s10.trans s11);replace hb33:=hb33.tr0 s11;replace hb33:Blk w14 b33 93 (jJ o.length (fun _=> .int .i64 0) (fun _=> .slice none 0 0)):=by
   have h:=hb33;rw [show (Value.agg #[.int .i64 0,.slice none 0 0]).cells= #[.int .i64 0,.slice none 0 0] from rfl,D4] at h;exact h
 refine zn7 ?_;refine qJ [10,11,13,37,38,39,40,41,42,43,44,45,46,47,48,49,50,51,52,53,54,55,56,57,58,59,60,61,62,63,64,65,66,67,68,69,70,71,72,73,74,75,76,77,78,79,80,81,82,83,84,85,86] (fun m g w'=>∃ (k:Nat) (V:Nat→Value),k≤o.length∧m=o.length - k∧g 37= .int .i64 k∧Bel w w'∧Blk w' b2 30 #[.slice G gr.length cg]∧Blk w' b4 30 #[.slice none 0 0]∧Blk w' b5 70 #[.slice (some ⟨b17,0,none⟩) gr.length gr.length]∧Blk w' b7 70 #[.slice AO o.length capO]∧Blk w' b17 3 (row gr.length (fun x=> .int .i64 (u7 o x)))∧Blk w' b9 30 #[.slice (some ⟨b33,0,none⟩) o.length o.length]∧Own w' base 3 1 AO o.length capO (oV o)∧Blk w' b33 93 (jJ o.length (fun x=>if x < k then .int .i64 (nd gr (o.getD x 0)).ty else .int .i64 0) (fun x=>if x < k then V x else .slice none 0 0))∧(∀ x,x < k→RowO w' w.heap.size w'.heap.size (V x) ((nd gr (o.getD x 0)).ln.map (JK o)))∧Dis V k) (o.length) ?_ (fun m g13 w15 hI=>?_)
 ·refine⟨0,fun _=> .slice none 0 0,Nat.zero_le _,rfl,rfl,hB,hb2,hb4,hb5,hb7,hb17,hb9,hoo,?_,fun x hx=>by omega,fun x y hx=>by omega⟩;rw [Z3 (f':=fun _=> .int .i64 0) (h':=fun _=> .slice none 0 0) (fun x _=>by simp) (fun x _=>by simp)];exact hb33
 obtain⟨k,V,hkk,hm,h37,hB,hb2,hb4,hb5,hb7,hb17,hb9,hoo,hb33,hrows,hdis⟩:=hI;obtain⟨bs,hbsz⟩:∃ b,b=w15.heap.size:=⟨_,rfl⟩
 rw [← hbsz] at hrows;have hbz:bs≤w15.heap.size:=Nat.le_of_eq hbsz;have hlb5:w.heap.size≤bs:=by rw [hbsz];exact Bel.size hB
 have lu2:b2 < bs:=by rw [hbsz];exact hb2.lt
 have lu4:b4 < bs:=by rw [hbsz];exact hb4.lt
 have lu5:b5 < bs:=by rw [hbsz];exact hb5.lt
 have lu7:b7 < bs:=by rw [hbsz];exact hb7.lt
 have lu17:b17 < bs:=by rw [hbsz];exact hb17.lt
 have lu9:b9 < bs:=by rw [hbsz];exact hb9.lt
 have lu33:b33 < bs:=by rw [hbsz];exact hb33.lt
 have luo:∀ g ∈ aL AO,g < bs:=fun g hg=>by rw [hbsz];exact(hoo.lt g hg).2
 refine zQ 37 _ h37 nu (zn6 ?_);refine zJ rfl (fun c38=>?_) (fun c38=>?_)
 ·have hlt:k < o.length:=by omega
  obtain⟨i,hoi,hin⟩:∃ i:Nat,o[k]'hlt=i∧i < gr.length:=⟨_,rfl,hok.lt _ (List.getElem_mem hlt)⟩
  have hgd:o.getD k 0=i:=by simp [List.getD,hlt,hoi]
  have hnd:=yy hin
  obtain⟨q,rfl,hqb,hql,hqc⟩:=hoo.cell (by
    intro h0;have:=congrArg List.length h0;simp [oV] at this;rw [this] at hlt
    simp at hlt)
  have hz:w15.cell? ⟨q,0 + k * 1,none⟩=some (.int .i64 (i:Int)):=by
    have:=hqc k (.int .i64 (i:Int)) (by simp [oV,hlt,hoi])
    simpa using this
  obtain⟨nb,no,LA,lc,rfl,hnb,hnr,hln⟩:=hG.at_ (Below.refl _ _:Bel w w) hin;have hmx:=hln.1;unfold vz at hmx;have hfw:=hk.few i hin;refine zn8 ?_;refine wl (qK (v:= .int _ _) U3 rfl rfl hz) (zn5 ?_);refine X1 11 kR kR (fun w16 s12=>?_);replace hrows:=fun x hx=>(hrows x hx).tr s12 (by simp)
  replace hbz:=nLT hbz (Same.size s12);refine zn6 ?_;refine ws (yJ (i:=i) U28 OX rfl rfl hin rfl) (zn1 ?_);replace hB:=hB.tr0 s12;refine ws (qK (v:= .int _ _) U3 rfl rfl (hB.cell hnb (hnr 0 _ rfl))) (zn2 ?_);refine QV ?_;replace hb33:=hb33.tr0 s12;refine xZ (v:= .int _ _) hb33 rfl rfl xy (by rw [X7];show 0 + k * 2 + 0 < o.length * 2;omega) rfl D3 (fun w17 hq s13=>?_);replace hoo:=hoo.tr0 s12;replace hoo:=hoo.tr1 s13 (fun g hg=>by have:=(hoo.lt g hg).1;(try have:=or_hoo_b33 g hg);(try simp only [aL] at hg);(try simp only [List.mem_singleton] at hg);omega);replace hrows:=fun x hx=>(hrows x hx).tr s13 (fun g hg=>by rw [List.mem_singleton.1 hg];first | exact .inr ⟨_,_,hb33,by decide⟩ | exact .inl om)
  replace hbz:=nLT hbz (Same.size s13);replace hb33:=hq
  rw [Z3 (f':=(fun x=>if x < k + 1 then .int .i64 (nd gr (o.getD x 0)).ty else .int .i64 0)) (h':=fun x=>if x=k then .slice none 0 0 else if x < k then V x else .slice none 0 0) (fun x _=>by
    by_cases e:x=k
    · subst e;simp [List.getD,hlt,hoi,hnd]
    · have e1:(x < k + 1) ↔ (x < k):=by omega
      simp [e,e1]) (fun x _=>by
    by_cases e:x=k
    · subst e;simp
    · simp [e])] at hb33
  refine zn7 ?_;refine wl (yJ (i:=i) U28 OX rfl rfl hin rfl) (zn1 ?_);replace hB:=hB.tr1 s13 lo33;refine wl (qK (v:= .slice _ _ _) U91 rfl rfl (hB.cell hnb (hnr 1 _ rfl))) (zn5 ?_);replace hb2:=(hb2.tr0 s12).tr1 s13 om;replace hb4:=(hb4.tr0 s12).tr1 s13 om;replace hb17:=(hb17.tr0 s12).tr1 s13 om;replace hb5:=(hb5.tr0 s12).tr1 s13 om;replace hb7:=(hb7.tr0 s12).tr1 s13 om;replace hb9:=(hb9.tr0 s12).tr1 s13 om;refine qJ [13,60,61,62,63,64,65,66,67,68,69,70,71,72,73,74,75,76,77,78,79,80,81,82,83,84,85] (fun m g w'=>∃ (j:Nat) (A5:Option Addr) (cap5:Nat),j≤(gr[i]'hin).ln.length∧m=(gr[i]'hin).ln.length - j∧g 60= .int .i64 j∧Bel w w'∧Blk w' b2 30 #[.slice (some ⟨nb,no,none⟩) gr.length cg]∧Blk w' b4 30 #[.slice none 0 0]∧Blk w' b5 70 #[.slice (some ⟨b17,0,none⟩) gr.length gr.length]∧Blk w' b7 70 #[.slice (some ⟨q,0,none⟩) o.length capO]∧Blk w' b17 3 (row gr.length (fun x=> .int .i64 (u7 o x)))∧Blk w' b9 30 #[.slice (some ⟨b33,0,none⟩) o.length o.length]∧Own w' base 3 1 (some ⟨q,0,none⟩) o.length capO (oV o)∧Blk w' b33 93 (jJ o.length (fun x=>if x < k + 1 then .int .i64 (nd gr (o.getD x 0)).ty else .int .i64 0) (fun x=>if x=k then .slice A5 j cap5 else if x < k then V x else .slice none 0 0))∧(∀ x,x < k→RowO w' w.heap.size bs (V x) ((nd gr (o.getD x 0)).ln.map (JK o)))∧bs≤w'.heap.size∧Own w' bs 95 2 A5 j cap5 (lnV (((gr[i]'hin).ln.take j).map (JK o)))) ((gr[i]'hin).ln.length) ?_ (fun m g17 w18 hI=>?_)
  ·exact⟨0,none,0,Nat.zero_le _,rfl,rfl,hB,hb2,hb4,hb5,hb7,hb17,hb9,hoo,hb33,hrows,hbz,Own.nil _ _ _ _⟩
  obtain⟨j,A5,cap5,hj,hmj,h60,hB,hb2,hb4,hb5,hb7,hb17,hb9,hoo,hb33,hrows,hbz,ho5⟩:=hI;refine zQ 60 _ h60 nu (zn6 ?_);refine zJ rfl (fun c61=>?_) (fun c61=>?_)
  ·have hjl:j < (gr[i]'hin).ln.length:=by omega
   obtain⟨lb,lof,rfl,hlb,hlr⟩:=hln.at_ hB hjl;obtain⟨t,ht,htl⟩:∃ t:Nat,((gr[i]'hin).ln[j]'hjl).2=(t:Int)∧t < gr.length:=by
     have h1:=hk.ln i hin _ (List.getElem_mem hjl);exact⟨(((gr[i]'hin).ln[j]'hjl).2).toNat,by omega,by omega⟩
   refine zn7 ?_;refine wl (qW U95 rfl rfl hlr Ez) ?_;refine qw (cs:=#[.int .i64 0,.int .i64 0]) LY rfl (fun b13 w19 hb13 s14 hr=>?_);have:=nLL hb2.lt hr;have:=nLL hb4.lt hr;have:=nLL hb17.lt hr;have:=nLL hb5.lt hr;have:=nLL hb7.lt hr;have:=nLL hb33.lt hr;have:=nLL hb9.lt hr;have or_hbz_b13:=(nLT hbz hr)
   have or_hoo_b13:=fun g hg=>nLL (hoo.lt g hg).2 hr
   have or_ho5_b13:=fun g hg=>nLL (ho5.lt g hg).2 hr
   have lo13:=nLT (Bel.size hB) hr;replace hrows:=fun x hx=>(hrows x hx).tr s14 (by simp)
   replace hbz:=nLT hbz (Same.size s14);clear hr;refine zk hb13 rfl rfl Ez rfl zK (fun w20 hq s15=>?_);replace hrows:=fun x hx=>(hrows x hx).tr s15 (fun g hg=>by rw [List.mem_singleton.1 hg];first | exact .inr ⟨_,_,hb13,by decide⟩ | exact .inl om)
   replace hbz:=nLT hbz (Same.size s15);replace hoo:=hoo.tr0 s14;replace hoo:=hoo.tr1 s15 (fun g hg=>by have:=(hoo.lt g hg).1;(try have:=or_hoo_b13 g hg);(try simp only [aL] at hg);(try simp only [List.mem_singleton] at hg);omega);replace ho5:=ho5.tr0 s14;replace ho5:=ho5.tr1 s15 (fun g hg=>by have:=(ho5.lt g hg).1;(try have:=or_ho5_b13 g hg);(try simp only [aL] at hg);(try simp only [List.mem_singleton] at hg);omega);replace hb13:=hq;refine zW (e_S ?_);rw [ht] at hb13;have zo:=fun g hg=>(ho5.lt g hg).2
   have hcell:(jJ o.length (fun x=>if x < k + 1 then .int .i64 (nd gr (o.getD x 0)).ty else .int .i64 0) (fun x=>if x=k then .slice A5 j cap5 else if x < k then V x else .slice none 0 0))[0 + k * 2 + 1]? =some (.slice A5 j cap5):=by rw [M6 hlt];simp
   replace hB:=(hB.tr0 s14).tr1 s15 lo13;have hsz:=Bel.size hB;replace hb17:=(hb17.tr0 s14).tr1 s15 om;replace hb5:=(hb5.tr0 s14).tr1 s15 om;replace hb33:=(hb33.tr0 s14).tr1 s15 om;replace hb9:=(hb9.tr0 s14).tr1 s15 om;refine Qq 21 [64,65,66,67,68,69,70,71,72,73,74,75,76,77,78,79,80,81,82,83,84] (aL A5) 18 (fun ix v wv=>match ix with | 0=>v= .pointer (some ⟨b9,0,none⟩) | 1=>v= .slice (some ⟨b33,0,none⟩) o.length o.length | 2=>v= .int .i64 k | 3=>v= .pointer (some ⟨b9,0,none⟩) | 4=>v= .slice (some ⟨b33,0,none⟩) o.length o.length | 5=>v= .int .i64 k | 6=>v= .pointer (some ⟨b33,0 + k * 2,none⟩) | 7=>v= .pointer (some ⟨b33,0 + k * 2 + 1,none⟩) | 8=>v= .slice A5 j cap5 | 9=>v= .pointer (some ⟨b13,0,none⟩) | 10=>v= .int .i64 ((gr[i]'hin).ln[j]'hjl).1 | 11=>v= .slice (some ⟨b17,0,none⟩) gr.length gr.length | 12=>v= .pointer (some ⟨b13,1,none⟩) | 13=>v= .int .i64 (t:Nat) | 14=>v= .pointer (some ⟨b17,0 + t * 1,none⟩) | 15=>v= .int .i64 (u7 o t) | 16=>v= .agg #[.int .i64 ((gr[i]'hin).ln[j]'hjl).1,.int .i64 (u7 o t)] | 17=>∃ b,v= .slice (some ⟨b,0,none⟩) 1 1∧w20.heap.size≤b∧Blk wv b 95 #[.int .i64 ((gr[i]'hin).ln[j]'hjl).1,.int .i64 (u7 o t)] | 18=>∃ g cap,v= .slice (some ⟨g,0,none⟩) (j + 1) cap∧Own wv bs 95 2 (some ⟨g,0,none⟩) (j + 1) cap (lnV (((gr[i]'hin).ln.take j).map (JK o)) ++ [.int .i64 ((gr[i]'hin).ln[j]'hjl).1,.int .i64 (u7 o t)]) | 19=>v= .pointer (some ⟨b33,0 + k * 2,none⟩) | 20=>v= .pointer (some ⟨b33,0 + k * 2 + 1,none⟩) | _=>True) (fun _=>True) kR kR ?_ (fun _ _ _ _=>trivial) ?_ ?_ dE ?_
   ·intro ix v wv wv2 h s16
    match ix,h with
    | 0,h=>exact h
    | 1,h=>exact h
    | 2,h=>exact h
    | 3,h=>exact h
    | 4,h=>exact h
    | 5,h=>exact h
    | 6,h=>exact h
    | 7,h=>exact h
    | 8,h=>exact h
    | 9,h=>exact h
    | 10,h=>exact h
    | 11,h=>exact h
    | 12,h=>exact h
    | 13,h=>exact h
    | 14,h=>exact h
    | 15,h=>exact h
    | 16,h=>exact h
    | 17,h=>
     obtain⟨b81,e81,lo81,hb81⟩:=h;exact⟨b81,e81,lo81,hb81.tr0 s16⟩
    | 18,h=>
     obtain⟨g82,cap82,e82,ho82⟩:=h;exact⟨g82,cap82,e82,ho82.tr0 s16⟩
    | 19,h=>exact h
    | 20,h=>exact h
    | _ + 21,h=>exact trivial
   ·intro ix o hix hne hoq gg wx s17 hd
    match ix,hix,hne,hoq with
    | 0,_,_,hoq=>
     cases sI hoq;refine qQ (o7 U30 sz28 dE rfl rfl rfl) ⟨Same.refl _ _,?_⟩;exact rfl
    | 1,_,_,hoq=>
     cases sI hoq;replace hb9:=hb9.tr s17 (fun hx=>by have:=(ho5.lt _ hx).1;(try have:=or_ho5_b9 _ hx);omega);refine zq 64 _ (hd 0 (zj kR)) nu ?_;refine qQ (qK (v:= .slice _ _ _) U28 rfl rfl (hb9.cell rfl)) ⟨Same.refl _ _,?_⟩;exact rfl
    | 2,_,_,hoq=>
     cases sI hoq;refine qQ (x5 (v:= .int _ _) rfl) ⟨Same.refl _ _,?_⟩;exact rfl
    | 3,_,_,hoq=>
     cases sI hoq;refine qQ (o7 U30 sz28 dE rfl rfl rfl) ⟨Same.refl _ _,?_⟩;exact rfl
    | 4,_,_,hoq=>
     cases sI hoq;replace hb9:=hb9.tr s17 (fun hx=>by have:=(ho5.lt _ hx).1;(try have:=or_ho5_b9 _ hx);omega);refine zq 67 _ (hd 3 (zj kR)) nu ?_;refine qQ (qK (v:= .slice _ _ _) U28 rfl rfl (hb9.cell rfl)) ⟨Same.refl _ _,?_⟩;exact rfl
    | 5,_,_,hoq=>
     cases sI hoq;refine qQ (x5 (v:= .int _ _) rfl) ⟨Same.refl _ _,?_⟩;exact rfl
    | 6,_,_,hoq=>
     cases sI hoq;refine zq 68 _ (hd 4 (zj kR)) nu (zq 69 _ (hd 5 (zj kR)) nu ?_);refine qQ (yJ (i:=k) U28 OX rfl rfl om rfl) ⟨Same.refl _ _,?_⟩;exact rfl
    | 7,_,_,hoq=>
     cases sI hoq;refine zq 70 _ (hd 6 (zj kR)) nu ?_;refine qQ (o7 U93 sz91 dE rfl rfl rfl) ⟨Same.refl _ _,?_⟩;exact rfl
    | 8,_,_,hoq=>
     cases sI hoq;replace hb33:=hb33.tr s17 (fun hx=>by have:=(ho5.lt _ hx).1;(try have:=or_ho5_b33 _ hx);omega);refine zq 71 _ (hd 7 (zj kR)) nu ?_;refine qQ (qK (v:= .slice _ _ _) U91 rfl rfl (hb33.cell hcell)) ⟨Same.refl _ _,?_⟩;exact rfl
    | 9,_,_,hoq=>
     cases sI hoq;refine qQ (o7 U95 xy dE rfl rfl rfl) ⟨Same.refl _ _,?_⟩;exact rfl
    | 10,_,_,hoq=>
     cases sI hoq;replace hb13:=hb13.tr s17 (fun hx=>by have:=(ho5.lt _ hx).1;(try have:=or_ho5_b13 _ hx);omega);refine zq 73 _ (hd 9 (zj kR)) nu ?_;refine qQ (qK (v:= .int _ _) U3 rfl rfl (hb13.cell rfl)) ⟨Same.refl _ _,?_⟩;exact rfl
    | 11,_,_,hoq=>
     cases sI hoq;replace hb5:=hb5.tr s17 (fun hx=>by have:=(ho5.lt _ hx).1;(try have:=or_ho5_b5 _ hx);omega);refine qQ (qK (v:= .slice _ _ _) U70 rfl rfl (hb5.cell rfl)) ⟨Same.refl _ _,?_⟩;exact rfl
    | 12,_,_,hoq=>
     cases sI hoq;refine qQ (o7 U95 xy dE rfl rfl rfl) ⟨Same.refl _ _,?_⟩;exact rfl
    | 13,_,_,hoq=>
     cases sI hoq;replace hb13:=hb13.tr s17 (fun hx=>by have:=(ho5.lt _ hx).1;(try have:=or_ho5_b13 _ hx);omega);refine zq 76 _ (hd 12 (zj kR)) nu ?_;refine qQ (qK (v:= .int _ _) U3 rfl rfl (hb13.cell rfl)) ⟨Same.refl _ _,?_⟩;exact rfl
    | 14,_,_,hoq=>
     cases sI hoq;refine zq 75 _ (hd 11 (zj kR)) nu (zq 77 _ (hd 13 (zj kR)) nu ?_);refine qQ (yJ (i:=t) U70 xy rfl rfl htl rfl) ⟨Same.refl _ _,?_⟩;exact rfl
    | 15,_,_,hoq=>
     cases sI hoq;replace hb17:=hb17.tr s17 (fun hx=>by have:=(ho5.lt _ hx).1;(try have:=or_ho5_b17 _ hx);omega);refine zq 78 _ (hd 14 (zj kR)) nu ?_;refine qQ (qK (v:= .int _ _) U3 rfl rfl (hb17.cell (gZ htl))) ⟨Same.refl _ _,?_⟩;exact rfl
    | 16,_,_,hoq=>
     cases sI hoq;refine zq 74 _ (hd 10 (zj kR)) nu (zq 79 _ (hd 15 (zj kR)) nu ?_);refine qQ (Z9 (v0:= .int _ _) (v1:= .int _ _) (fun v0 v1=>#[v0,v1]) rfl rfl kR) ⟨Same.refl _ _,?_⟩;exact rfl
    | 17,_,_,hoq=>
     cases sI hoq;have hs0:=s17;refine zq 80 _ (hd 16 (zj kR)) nu ?_;refine vK (fun ops Q K=>?_);refine qZ (cs:=#[_,_]) [(0,.agg _)] rfl U91 Ez LY dE dE kR rfl (fun b81 w21 hb81 s18 hr=>?_);exact K _ _ ⟨s18,⟨_,rfl,nLT hs0.size hr,hb81⟩⟩
    | 18,_,hne,_=>exact absurd rfl hne
    | 19,_,_,hoq=>
     cases sI hoq;refine zq 65 _ (hd 1 (zj kR)) nu (zq 66 _ (hd 2 (zj kR)) nu ?_);refine qQ (yJ (i:=k) U28 OX rfl rfl om rfl) ⟨Same.refl _ _,?_⟩;exact rfl
    | 20,_,_,hoq=>
     cases sI hoq;refine zq 83 _ (hd 19 (zj kR)) nu ?_;refine qQ (o7 U93 sz91 dE rfl rfl rfl) ⟨Same.refl _ _,?_⟩;exact rfl
    | _ + 21,hix,_,_=>exact absurd hix om
   ·intro o hoq gg wx s19 hd;cases sI hoq;replace hrows:=fun x hx=>(hrows x hx).tr s19 (by simp)
    replace hbz:=nLT hbz (Same.size s19);obtain⟨b81,e81,lo81,hb81⟩:=hd 17 (zj kR);refine zq 72 _ (hd 8 (zj kR)) nu (zq 81 _ e81 nu ?_);refine vK (fun ops Q K=>?_);replace ho5:=ho5.tr0 s19;refine j9 U91 in95 rfl dE ho5 hb81 rfl rfl rfl zK dE om om hbz (fun g82 cap82 w2 ho82 hs2 hg82=>?_);refine K _ _ ⟨hs2,⟨_,_,rfl,ho82⟩,trivial,fun kx v hne h=>?_⟩
    match kx,hne,h with
    | 0,_,h=>exact h
    | 1,_,h=>exact h
    | 2,_,h=>exact h
    | 3,_,h=>exact h
    | 4,_,h=>exact h
    | 5,_,h=>exact h
    | 6,_,h=>exact h
    | 7,_,h=>exact h
    | 8,_,h=>exact h
    | 9,_,h=>exact h
    | 10,_,h=>exact h
    | 11,_,h=>exact h
    | 12,_,h=>exact h
    | 13,_,h=>exact h
    | 14,_,h=>exact h
    | 15,_,h=>exact h
    | 16,_,h=>exact h
    | 17,_,h=>
     obtain⟨b81,e81,lo81,hb81⟩:=h;exact⟨b81,e81,lo81,hb81.tr hs2 (fun hx=>by have:=zo _ hx;omega)⟩
    | 18,hne,_=>exact absurd rfl hne
    | 19,_,h=>exact h
    | 20,_,h=>exact h
    | _ + 21,_,_=>exact trivial
   intro gg w22 s20 _ hR;replace hB:=hB.tr s20 (fun g hg=>nLT hlb5 (ho5.lt g hg).1);replace hb2:=(hb2.tr0 s14).tr1 s15 om;replace hb2:=hb2.tr s20 (fun hx=>by have:=(ho5.lt _ hx).1;(try have:=or_ho5_b2 _ hx);omega);replace hb4:=(hb4.tr0 s14).tr1 s15 om;replace hb4:=hb4.tr s20 (fun hx=>by have:=(ho5.lt _ hx).1;(try have:=or_ho5_b4 _ hx);omega);replace hb17:=hb17.tr s20 (fun hx=>by have:=(ho5.lt _ hx).1;(try have:=or_ho5_b17 _ hx);omega);replace hb5:=hb5.tr s20 (fun hx=>by have:=(ho5.lt _ hx).1;(try have:=or_ho5_b5 _ hx);omega);replace hb7:=(hb7.tr0 s14).tr1 s15 om;replace hb7:=hb7.tr s20 (fun hx=>by have:=(ho5.lt _ hx).1;(try have:=or_ho5_b7 _ hx);omega);replace hb33:=hb33.tr s20 (fun hx=>by have:=(ho5.lt _ hx).1;(try have:=or_ho5_b33 _ hx);omega);replace hb9:=hb9.tr s20 (fun hx=>by have:=(ho5.lt _ hx).1;(try have:=or_ho5_b9 _ hx);omega);replace hrows:=fun x hx=>(hrows x hx).tr s20 (fun g hg=> .inl ((ho5).lt g hg).1)
   replace hbz:=nLT hbz (Same.size s20);replace hoo:=hoo.tr s20 (fun g hg hx=>by have:=(ho5.lt _ hx).1;(try have:=luo g hg);omega);obtain⟨g82,cap82,e82,ho82⟩:=hR 18 dE;replace ho82:Own w22 bs 95 2 (some ⟨g82,0,none⟩) (j + 1) cap82 (lnV (((gr[i]'hin).ln.take (j + 1)).map (JK o))):=by
     rw [List.take_succ_eq_append_getElem hjl,List.map_append,List.map_cons,List.map_nil,← Tq];have e:JK o ((gr[i]'hin).ln[j]'hjl)=(((gr[i]'hin).ln[j]'hjl).1,u7 o t):=by simp [JK,ht]
     rw [e];exact ho82
   have ho5:=ho82;refine qY 82 _ e82 nu (qY 84 _ (hR 20 dE) nu ?_);refine xZ (v:= .slice _ _ _) hb33 rfl rfl sz91 (by rw [X7];show 0 + k * 2 + 1 < o.length * 2;omega) rfl D2 (fun w23 hq s21=>?_);replace hrows:=fun x hx=>(hrows x hx).tr s21 (fun g hg=>by rw [List.mem_singleton.1 hg];first | exact .inr ⟨_,_,hb33,by decide⟩ | exact .inl om)
   replace hbz:=nLT hbz (Same.size s21);replace hoo:=hoo.tr1 s21 (fun g hg=>by have:=(hoo.lt g hg).1;(try have:=or_hoo_b33 g hg);(try simp only [aL] at hg);(try simp only [List.mem_singleton] at hg);omega);replace ho5:=ho5.tr1 s21 (fun g hg=>by have:=(ho5.lt g hg).1;(try have:=or_ho5_b33 g hg);(try simp only [aL] at hg);(try simp only [List.mem_singleton] at hg);omega);replace hb33:=hq
   rw [Z3 (f':=(fun x=>if x < k + 1 then .int .i64 (nd gr (o.getD x 0)).ty else .int .i64 0)) (h':=fun x=>if x=k then .slice (some ⟨g82,0,none⟩) (j + 1) cap82 else if x < k then V x else .slice none 0 0) (fun x _=>rfl) (fun x _=>by
     by_cases e:x=k
     · subst e;simp
     · simp [e])] at hb33
   refine zn7 ?_;refine yq ((gr[i]'hin).ln.length - (j + 1)) om agA ?_;replace hB:=hB.tr1 s21 lo33;replace hb2:=hb2.tr1 s21 om;replace hb4:=hb4.tr1 s21 om;replace hb17:=hb17.tr1 s21 om;replace hb5:=hb5.tr1 s21 om;replace hb7:=hb7.tr1 s21 om;replace hb9:=hb9.tr1 s21 om;exact⟨j + 1,_,_,by omega,rfl,rfl,hB,hb2,hb4,hb5,hb7,hb17,hb9,hoo,hb33,hrows,hbz,ho5⟩
  have hjx:j=(gr[i]'hin).ln.length:=by omega
  subst hjx;refine jy ?_;refine yq (o.length - (k + 1)) om agA ?_;refine⟨k + 1,fun x=>if x=k then .slice A5 (gr[i]'hin).ln.length cap5 else V x,by omega,rfl,rfl,hB,hb2,hb4,hb5,hb7,hb17,hb9,hoo,?_,fun x hx=>?_,hdis.snoc hrows (fun g hg=>(ho5.lt g hg).1)⟩
  · rw [Z3 (f':=(fun x=>if x < k + 1 then .int .i64 (nd gr (o.getD x 0)).ty else .int .i64 0)) (h':=(fun x=>if x < k + 1 then (if x=k then .slice A5 (gr[i]'hin).ln.length cap5 else V x) else .slice none 0 0)) (fun x _=>rfl) (fun x _=>by
      by_cases e:x=k
      · subst e;simp
      · have e1:(x < k + 1) ↔ (x < k):=by omega
        simp [e,e1])] at hb33
    exact hb33
  · by_cases e:x=k
    · subst e
      simp only [if_true]
      have h:=RowO.of (lo:=w.heap.size) (xs:=(gr[i]'hin).ln.map (JK o)) hlb5 (by
        rw [List.take_length] at ho5
        rw [List.length_map];exact ho5)
      rw [List.length_map] at h;rw [hgd,hnd];exact h
    · simp only [if_neg e]
      exact(hrows x om).up hbz
 have hke:k=o.length:=by omega
 rw [hke] at hb33 hrows hdis;refine zn8 ?_;refine zk hb4 rfl rfl Z8 rfl zK (fun w24 hq s22=>?_);replace hrows:=fun x hx=>(hrows x hx).tr s22 (fun g hg=>by rw [List.mem_singleton.1 hg];first | exact .inr ⟨_,_,hb4,by decide⟩ | exact .inl om)
 replace hbz:=nLT hbz (Same.size s22);replace hb4:=hq;refine zn3 ?_;refine xX (.inl rfl) rfl (zw U30 rfl rfl hb4.range0 Z8) ?_;have hcl:(y5 gr o).length=o.length:=by simp [y5]
 replace hB:=hB.tr1 s22 lo4;replace hb33:=hb33.tr1 s22 om;refine⟨⟨o,_,hD,hok,rfl,GrD.mk (own_row2 hb33 lo33 om) hcl (Nat.le_refl _) (fun x hx=>?_) (fun g hg=>?_) hbz (fun x hx=>?_) (hdis.congr (fun x hx=>by simp [hx]))⟩,hB⟩
 · rw [HW hx];simp [hx]
 · rw [List.mem_singleton.1 hg];exact hb33.lt
 · rw [HW hx]
   have h:=hrows x hx
   simpa [hx] using h
theorem from3_any (G:Option Addr) (cg nf:Nat) (gr:List Nd) (r:Nat) (w:World) (hG:NodesIn w G gr) (hk:Py nf gr) (hnf:nf≤1000) (hr:r < gr.length):Calls Tryd.prog 61 #[.agg #[.slice G gr.length cg],.int .i64 r] w fun e w'=>(∃ o A,DL gr [r] [] o∧OOk gr.length o∧e= .returned (.agg #[.slice A o.length o.length])∧GrT w' w.heap.size w'.heap.size A o.length (y5 gr o) (fun x=>(nd (y5 gr o) x).ty))∧Bel w w':=(from4_any G cg nf gr r w hG hk hnf hr).mono fun e w' h=>by
  obtain⟨⟨o,A,h1,h2,h3,h4⟩,hs⟩:=h
  exact⟨⟨o,A,h1,h2,h3,h4.grt⟩,hs⟩
theorem Mw (G:Option Addr) (cg nf:Nat) (gr:List Nd) (r:Nat) (w:World) (hG:NodesIn w G gr) (hk:Py nf gr) (hnf:nf≤1000) (hr:r < gr.length):Calls Tryd.prog 61 #[.agg #[.slice G gr.length cg],.int .i64 r] w fun e w'=>(∃ o A,DL gr [r] [] o∧OOk gr.length o∧e= .returned (.agg #[.slice A o.length o.length])∧(∀ w2,FrSame w.heap.size w' w2→NodesIn w2 A (y5 gr o)))∧Bel w w':=(from3_any G cg nf gr r w hG hk hnf hr).mono fun e w' h=>by
  obtain⟨⟨o,A,h1,h2,h3,h4⟩,hs⟩:=h
  exact⟨⟨o,A,h1,h2,h3,fun w2 hf=>by have:=(h4.fr hf).nodes;rwa [rtG_self] at this⟩,hs⟩
theorem from_any (G:Option Addr) (cg nt nf:Nat) (gr:List Nd) (r:Nat) (w:World) (hG:NodesIn w G gr) (hk:GOk nt nf gr) (hnf:nf≤1000) (hr:r < gr.length):Calls Tryd.prog 61 #[.agg #[.slice G gr.length cg],.int .i64 r] w fun e w'=>(∃ o A,DL gr [r] [] o∧OOk gr.length o∧e= .returned (.agg #[.slice A o.length o.length])∧(∀ w2,FrSame w.heap.size w' w2→NodesIn w2 A (y5 gr o)))∧Bel w w':=Mw G cg nf gr r w hG hk.two hnf hr
end Go.Proofs.YtdgnllfbooklcaaDoor
namespace Go.Proofs.YtdgnllfbooklcaaDoor
open Go.RowKit
structure GV (l:List Ty) (fs:List Ft) (g:List Nd):Prop where
  h:(qj l fs).1=0
  s:Ok l
  few:fs.length≤40
  f:FOk l.length fs
  gok:GOk l.length fs.length g
  t:tyF l fs g=(0,0)
  u:¬0≤Jz g
  lo:(vw l.length fs.length g).1=0
theorem TK {l:List Ty} {fs:List Ft} {g:List Nd} (h:(kj l fs g).1=0):GV l fs g:=by
  by_cases h0:(qj l fs).1=0
  · rw [Dj h0] at h
    by_cases h1:(vw l.length fs.length g).1=0
    · by_cases h2:(tyF l fs g).1=0
      · have h2':tyF l fs g=(0,0):=Dk h2
        by_cases h3:0≤Jz g
        · rw [wi_unr h1 h2' h3] at h;cases h
        · refine⟨h0,K8 h0,?_,Wz h0,W9 h1,h2',h3,h1⟩
          unfold qj at h0;by_cases h4:40 < fs.length
          · rw [if_pos h4] at h0;cases h0
          · omega
      · unfold xj at h
        rw [if_neg (fun e=>e h1),if_pos h2] at h;exact absurd h h2
    · rw [E2 h1] at h;exact absurd h h1
  · rw [gf_hier h0] at h;exact absurd h h0
theorem DL.sub {g:List Nd} {is a b:List Nat} (h:DL g is a b):∀ x ∈ a,x ∈ b:=by
  induction h with
  | nil=>exact fun x h=>h
  | old h t ih=>exact ih
  | new h s t ihs iht=>exact fun x hx=>iht x (ihs x (List.mem_append_left _ hx))
theorem DL.has {g:List Nd} {is a b:List Nat} (h:DL g is a b):∀ i ∈ is,i ∈ b:=by
  induction h with
  | nil=>exact fun i h=>by cases h
  | old h t ih=>
    intro i hi;rcases List.mem_cons.1 hi with rfl | hi
    · exact t.sub _ h
    · exact ih i hi
  | new h s t ihs iht=>
    intro i hi;rcases List.mem_cons.1 hi with rfl | hi
    · exact t.sub _ (s.sub _ (by simp))
    · exact iht i hi
theorem DL.clo {g:List Nd} {is a b:List Nat} (h:DL g is a b):∀ x ∈ b,¬x ∈ a→∀ t ∈ yZ g x,t ∈ b:=by
  induction h with
  | nil=>exact fun x h1 h2=>absurd h1 h2
  | old h t ih=>exact ih
  | new h s t ihs iht=>
    rename_i i is o o1 o'
    intro x hx hn y hy;by_cases h1:x ∈ o1
    · by_cases h2:x=i
      · subst h2;exact t.sub _ (s.has y hy)
      · exact t.sub _ (ihs x h1 (fun h3=>by
          rcases List.mem_append.1 h3 with h3 | h3
          · exact hn h3
          · exact h2 (List.mem_singleton.1 h3)) y hy)
    · exact iht x hx h1 y hy
theorem DL.nodup {g:List Nd} {is a b:List Nat} (h:DL g is a b):a.Nodup→b.Nodup:=by
  induction h with
  | nil=>exact fun h=>h
  | old h t ih=>exact ih
  | new h s t ihs iht=>
    intro hd;refine iht (ihs (List.nodup_append.2 ⟨hd,by simp,fun x hx y hy=>?_⟩));rw [List.mem_singleton.1 hy];exact fun e=>h (e ▸ hx)
theorem DL.rch {g:List Nd} (hr:∀ i,i < g.length→∀ t ∈ yZ g i,t < g.length) {is a b:List Nat} (h:DL g is a b):(∀ i ∈ is,i < g.length)→(∀ i ∈ is,Rch g i)→(∀ x ∈ a,Rch g x)→∀ x ∈ b,Rch g x:=by
  induction h with
  | nil=>exact fun _ _ h=>h
  | old h t ih=>exact fun hi hR ha=>ih (fun i h=>hi i (List.mem_cons_of_mem _ h)) (fun i h=>hR i (List.mem_cons_of_mem _ h)) ha
  | new h s t ihs iht=>
    rename_i i is o o1 o'
    intro hi hR ha;have hlt:=hi i (List.mem_cons_self ..);have hRi:=hR i (List.mem_cons_self ..);refine iht (fun i h=>hi i (List.mem_cons_of_mem _ h)) (fun i h=>hR i (List.mem_cons_of_mem _ h)) (ihs (hr i hlt) (fun t ht=>?_) (fun x hx=>?_))
    · simp only [yZ,yy hlt,List.mem_map] at ht
      obtain⟨y,hy,rfl⟩:=ht;exact .step hRi hlt hy
    · rcases List.mem_append.1 hx with hx | hx
      · exact ha x hx
      · rw [List.mem_singleton.1 hx];exact hRi
structure Tr (g:List Nd) (o:List Nat):Prop where
  dl:DL g [0] [] o
  ok:OOk g.length o
  nd:o.Nodup
  pos:0 < o.length
  zero:o.idxOf 0=0
  clo:∀ x ∈ o,∀ t ∈ yZ g x,t ∈ o
theorem I4 {o:List Nat} (hn:o.Nodup) {k:Nat} (hk:k < o.length):o.idxOf o[k]=k:=by
  have h1:o.idxOf o[k] < o.length:=List.idxOf_lt_length_of_mem (List.getElem_mem hk);have h2:o[o.idxOf o[k]]=o[k]:=List.getElem_idxOf h1;exact(List.getElem_inj hn).1 h2
theorem jw {o:List Nat} {x:Nat} (hx:x ∈ o):∃ h:o.idxOf x < o.length,o[o.idxOf x]=x:=⟨List.idxOf_lt_length_of_mem hx,List.getElem_idxOf _⟩
theorem NV {o:List Nat} {x:Nat} (hx:x ∈ o):u7 o x=(o.idxOf x:Nat):=by simp [u7,hx]
theorem ux (g:List Nd) (o:List Nat):(y5 g o).length=o.length:=by simp [y5]
theorem Ix {g:List Nd} {o:List Nat} {x:Nat} (hx:x ∈ o):nd (y5 g o) (o.idxOf x)=Pj g o x:=by
  obtain⟨h1,h2⟩:=jw hx;rw [yy (by rw [ux];exact h1)];simp [y5,h2]
theorem Dw {g:List Nd} {o:List Nat} (h:∀ x ∈ o,∀ t ∈ yZ g x,t ∈ o) {x:Nat} (hx:x ∈ o):yZ (y5 g o) (o.idxOf x)=(yZ g x).map (o.idxOf ·):=by
  unfold yZ;rw [Ix hx];simp only [Pj,List.map_map];refine List.map_congr_left (fun y hy=>?_);have:y.2.toNat ∈ o:=h x hx _ (by simp only [yZ,List.mem_map];exact⟨y,hy,rfl⟩);simp [JK,NV this]
theorem DL.map {g:List Nd} {o:List Nat} (hc:∀ x ∈ o,∀ t ∈ yZ g x,t ∈ o) {is a b:List Nat} (h:DL g is a b):(∀ x ∈ b,x ∈ o)→DL (y5 g o) (is.map (o.idxOf ·)) (a.map (o.idxOf ·)) (b.map (o.idxOf ·)):=by
  have inj:∀ x y,x ∈ o→y ∈ o→o.idxOf x=o.idxOf y→x=y:=fun x y hx hy e=>by
    obtain⟨h1,h2⟩:=jw hx;obtain⟨h3,h4⟩:=jw hy;rw [← h2,← h4];simp only [e]
  induction h with
  | nil=>exact fun _=> .nil
  | old h t ih=>
    intro hb;exact .old (List.mem_map_of_mem h) (ih hb)
  | new h s t ihs iht=>
    rename_i i is o0 o1 o'
    intro hb;have hio:=hb i (t.sub _ (s.sub _ (by simp)));refine .new (fun hm=>?_) ?_ (iht hb)
    · obtain⟨y,hy,e⟩:=List.mem_map.1 hm
      have hyo:=hb y (t.sub _ (s.sub _ (List.mem_append_left _ hy)));exact h (inj y i hyo hio e ▸ hy)
    · have:=ihs (fun x hx=>hb x (t.sub _ hx))
      rw [List.map_append] at this;rw [Dw hc hio];exact this
theorem CX {o:List Nat} (hn:o.Nodup):o.map (o.idxOf ·)=List.range o.length:=by
  apply List.ext_getElem
  · simp
  · intro k h1 h2
    simp only [List.getElem_map,List.getElem_range];exact I4 hn (by simpa using h1)
theorem Tr.can {g:List Nd} {o:List Nat} (h:Tr g o):DL (y5 g o) [0] [] (List.range o.length):=by
  have:=h.dl.map h.clo (fun x hx=>hx);rw [CX h.nd] at this
  simpa [h.zero] using this
end Go.Proofs.YtdgnllfbooklcaaDoor
namespace Go.Proofs.YtdgnllfbooklcaaDoor
open Go.RowKit
theorem FrSame.then {B B0:Nat} {w0 w1 w2:World} (h:FrSame B w0 w1) (k:FrSame B0 w1 w2) (hb:B0≤B):FrSame B w0 w2:=
  ⟨nLT h.size k.size,fun i hi hl=>(k.blk i (nLT hb hi) (nLL hl h.size)).trans (h.blk i hi hl)⟩
theorem fd95:(Tryd.prog.fieldsOf 95).toList.map (fun f=>(f.name == "_",f.type,f.offset))= [(false,3,0),(false,3,1)]:=by kernel_rfl
theorem fn44:zZ Tryd.prog 44=true:=by kernel_rfl
theorem ft95:Tryd.prog.underlying 95=some (.struct (Tryd.prog.fieldsOf 95)):=by kernel_rfl
theorem leq_any (A B:Option Addr) (c d:Nat) (xs ys:List (Int×Int)) (w:World) (hX:LinksIn w A xs) (hY:LinksIn w B ys):Calls Tryd.prog 44 #[.slice A xs.length c,.slice B ys.length d] w fun e w'=>e= .returned (.bool (decide (xs=ys)))∧Bel w w':=by
 have hmx:=hX.1;unfold vz at hmx;refine enter Tryd.func44 Tryd.ntmps44 rfl (Nat.le_of_ble_eq_true rfl) ?_;have hB:Bel w w:=Below.refl _ _;refine Ow ?_;refine zJ rfl (fun c10=>?_) (fun c10=>?_)
 ·refine zn8 ?_;exact⟨jx (decide_eq_false (fun h=>c10 (by rw [h]))),hB⟩
 refine gj ?_;refine qJ [4,5,13,14,15,16,17,18,19,20,21,22,23,24,25] (fun m g w'=>∃ k:Nat,k≤xs.length∧m=xs.length - k∧g 13= .int .i64 k∧Bel w w'∧xs.take k=ys.take k) (xs.length) ?_ (fun m g4 w1 hI=>?_)
 ·exact⟨0,Nat.zero_le _,rfl,rfl,hB,rfl⟩
 obtain⟨k,hk,hm,h13,hB,hE⟩:=hI;refine zQ 13 _ h13 nu (zn6 ?_);refine zJ rfl (fun c14=>?_) (fun c14=>?_)
 ·have hlt:k < xs.length:=by omega
  have hly:k < ys.length:=by omega
  obtain⟨pb,po,rfl,hpb,hpc⟩:=hX.at_ (Below.refl _ _:Bel w w) hlt;obtain⟨qb,qo,rfl,hqb,hqc⟩:=hY.at_ (Below.refl _ _:Bel w w) hly;refine gj ?_;refine gK kR kR (fun w2 s1=>?_);refine zn8 ?_;refine ws (r_neF Tryd.eqGuardType95 ft95 Tryd.stoodInHeld95 fd95 U3 rfl rfl) (u4 (e_S ?_));replace hB:=hB.tr0 s1;refine zJ rfl (fun c24=>?_) (fun c24=>?_)
  ·refine vQ ?_;exact⟨jx (decide_eq_false (fun h=>c24 (by subst h;exact⟨rfl,rfl⟩))),hB⟩
  refine zn7 ?_;refine yq (xs.length - (k + 1)) om agA ?_;have hx:xs[k]'hlt=ys[k]'hly:=by
    have h:=Decidable.not_not.1 c24;exact Prod.ext h.1 h.2
  exact⟨k + 1,by omega,rfl,rfl,hB,by rw [List.take_succ_eq_append_getElem hlt,List.take_succ_eq_append_getElem hly,hE,hx]⟩
 have hek:k=xs.length:=by omega
 have hfin:xs=ys:=by
   rw [hek] at hE;have e2:ys.take xs.length=ys:=List.take_of_length_le om;rw [List.take_length,e2] at hE;exact hE
 refine vQ ?_;exact⟨jx (decide_eq_true hfin),hB⟩
set_option maxHeartbeats 1000000 in
theorem nodes_any (A B:Option Addr) (c d:Nat) (ga gb:List Nd) (w:World) (hA:NodesIn w A ga) (hBn:NodesIn w B gb):Calls Tryd.prog 15 #[.agg #[.slice A ga.length c],.agg #[.slice B gb.length d]] w fun e w'=>e= .returned (.bool (decide (ga=gb)))∧Bel w w':=by
 have hmx:=hA.1;unfold vz at hmx;refine enter Tryd.func15 Tryd.ntmps15 rfl (Nat.le_of_ble_eq_true rfl) ?_;have hB:Bel w w:=Below.refl _ _;refine zn2 ?_;refine xz (v:= .agg #[_]) (cs:=#[_]) rfl rfl (fun b2 w1 hb2 s1 hr=>?_);refine xz (v:= .agg #[_]) (cs:=#[_]) rfl rfl (fun b3 w2 hb3 s2 hr=>?_);refine Ow ?_;replace hB:=hB.tr0 (s1.trans s2);refine zJ rfl (fun c12=>?_) (fun c12=>?_)
 ·refine zn8 ?_;exact⟨jx (decide_eq_false (fun h=>c12 (by rw [h]))),hB⟩
 refine vQ ?_;replace hb2:=hb2.tr0 s2;refine qJ [4,5,16,17,18,19,20,21,22,23,24,25,26,27,28,29,30,31,32,33,34,35,36,37,38,39,40,41,42,43,44,45,46,47,48] (fun m g w'=>∃ k:Nat,k≤ga.length∧m=ga.length - k∧g 16= .int .i64 k∧Bel w w'∧Blk w' b2 30 #[.slice A ga.length c]∧Blk w' b3 30 #[.slice B gb.length d]∧ga.take k=gb.take k) (ga.length) ?_ (fun m g4 w3 hI=>?_)
 ·exact⟨0,Nat.zero_le _,rfl,rfl,hB,hb2,hb3,rfl⟩
 obtain⟨k,hk,hm,h16,hB,hb2,hb3,hE⟩:=hI;refine zQ 16 _ h16 nu (zn6 ?_);refine zJ rfl (fun c17=>?_) (fun c17=>?_)
 ·have hlt:k < ga.length:=by omega
  have hly:k < gb.length:=by omega
  obtain⟨ab,ao,LA,la,rfl,hab,har,haln⟩:=hA.at_ (Below.refl _ _:Bel w w) hlt;obtain⟨bb,bo,LB,lb,rfl,hbb,hbr,hbln⟩:=hBn.at_ (Below.refl _ _:Bel w w) hly;refine gj ?_;refine yz [19,20,21,22,23,24,25,26,27,28,29,30,31,32,33,34,35,36,37,38,39,40,41,42,43,44,45,46,47] (fun g w'=>g 47= .bool (decide (¬(ga[k]'hlt).ty=(gb[k]'hly).ty) || !decide ((ga[k]'hlt).ln=(gb[k]'hly).ln))∧Same [] w3 w') ?_ (fun g6 w4 hI=>?_)
  ·refine uQ [] [0,1,2,3,4,5,6,7,8,9,10,11,12,13,14,15,16,17,18,19,20,21,22,23,24,25,26,27,28] rfl (fun w5 s3=>?_);have hs0:=s3;refine zn5 ?_;replace hB:=hB.tr0 s3;refine hl1 (v:= .int _ _) rfl U3 rfl rfl (hB.cell hab (har 0 _ rfl)) (zn5 ?_);refine hl1 (v:= .int _ _) rfl U3 rfl rfl (hB.cell hbb (hbr 0 _ rfl)) (zn2 ?_);refine h_casesd 32 rfl (fun g32=>?_) (fun g32=>?_)
   ·refine NY ?_;refine e_R ⟨agA,?_,hs0⟩;show Value.bool _=Value.bool _;exact congrArg Value.bool (by simp [g32])
   refine zn5 ?_;refine hg1 (v:= .slice _ _ _) 32 rfl rfl rfl U91 rfl rfl (hB.cell hab (har 1 _ rfl)) (zn5 ?_);refine hg1 (v:= .slice _ _ _) 32 rfl rfl rfl U91 rfl rfl (hB.cell hbb (hbr 1 _ rfl)) (h1 rfl (zn1 ?_));refine zX fn44 (leq_any _ _ _ _ _ _ w5 (haln.mono hB) (hbln.mono hB)) rfl (fun e' w6 hr=>?_);obtain⟨rfl,s4⟩:=hr;replace s4:=sB s4;have hsH26:=s4;refine⟨_,rfl,?_⟩;refine zW (Px hsH26 (zn3 ?_));replace hs0:=hs0.trans s4;refine e_R ⟨agA,?_,hs0⟩;show Value.bool _=Value.bool _;exact congrArg Value.bool (by simp [g32])
  obtain⟨h47,s5⟩:=hI;refine oz 47 _ h47 nu (e_S ?_);replace hB:=hB.tr0 s5;refine kv rfl (fun c47=>?_) (fun c47=>?_)
  ·refine vQ ?_
   exact⟨jx (decide_eq_false (fun h=>by
     subst h
     simp at c47)),hB⟩
  have hx:ga[k]'hlt=gb[k]'hly:=by
    simp only [Bool.or_eq_false_iff,decide_eq_false_iff_not,Bool.not_eq_false',decide_eq_true_eq] at c47;exact Y0 (Decidable.not_not.1 c47.1) c47.2
  refine zn7 ?_;refine yq (ga.length - (k + 1)) om agA ?_;replace hb2:=hb2.tr0 s5;replace hb3:=hb3.tr0 s5;exact⟨k + 1,by omega,rfl,rfl,hB,hb2,hb3,by rw [List.take_succ_eq_append_getElem hlt,List.take_succ_eq_append_getElem hly,hE,hx]⟩
 have hek:k=ga.length:=by omega
 have hfin:ga=gb:=by
   rw [hek] at hE;have e2:gb.take ga.length=gb:=List.take_of_length_le om;rw [List.take_length,e2] at hE;exact hE
 refine vQ ?_;exact⟨jx (decide_eq_true hfin),hB⟩
end Go.Proofs.YtdgnllfbooklcaaDoor
namespace Go.Proofs.YtdgnllfbooklcaaDoor
open Go.RowKit
inductive NdVs (w:World):List Nd→List Value→Prop
  | nil:NdVs w [] []
  | cons {x:Nd} {l:List Nd} {vs:List Value} {A:Option Addr} {c:Nat} (h:LinksIn w A x.ln) (r:NdVs w l vs):NdVs w (x :: l) (.int .i64 x.ty :: .slice A x.ln.length c :: vs)
theorem NdVs.get {w:World} {l:List Nd} {vs:List Value} (h:NdVs w l vs):∀ k (hk:k < l.length),∃ A c,vs[k * 2]? =some (.int .i64 (l[k]).ty)∧vs[k * 2 + 1]? =some (.slice A (l[k]).ln.length c)∧LinksIn w A (l[k]).ln:=by
  induction h with
  | nil=>intro k hk;simp at hk
  | cons h r ih=>
    intro k hk
    match k,hk with
    | 0,_=>exact⟨_,_,rfl,rfl,h⟩
    | k + 1,hk=>
      obtain⟨A,c,h1,h2,h3⟩:=ih k (by simpa using hk);refine⟨A,c,?_,?_,h3⟩
      · rw [show (k + 1) * 2=k * 2 + 1 + 1 from by omega];simpa using h1
      · rw [show (k + 1) * 2 + 1=k * 2 + 1 + 1 + 1 from by omega];simpa using h2
end Go.Proofs.YtdgnllfbooklcaaDoor
namespace Go.Proofs.YtdgnllfbooklcaaDoor
open Go.RowKit
def tgt (xs:List (Int×Int)) (f:Int):Int:=match xs.find? (fun y=>decide (y.1=f)) with
  | some y=>y.2
  | none=>-1
theorem tgt_at {f:Int}:∀ {xs:List (Int×Int)} {i:Nat} (hi:i < xs.length),(xs[i]).1=f→(∀ j (hj:j < xs.length),j < i→¬(xs[j]).1=f)→tgt xs f=(xs[i]).2
  | [],_,hi,_,_=>absurd hi (by simp)
  | x :: xs,0,_,h,_=>by
    have h1:x.1=f:=h
    unfold tgt
    rw [List.find?_cons,decide_eq_true h1]
    rfl
  | x :: xs,i + 1,hi,h,hb=>by
    have h0:¬x.1=f:=hb 0 (by simp) om
    have ih:=tgt_at (xs:=xs) (i:=i) (by simpa using hi) h (fun j hj hji=>hb (j + 1) (by simpa using hj) om)
    unfold tgt at ih ⊢
    rw [List.find?_cons,decide_eq_false h0]
    exact ih
theorem tgt_no {f:Int}:∀ {xs:List (Int×Int)},(∀ j (hj:j < xs.length),¬(xs[j]).1=f)→tgt xs f= -1
  | [],_=>rfl
  | x :: xs,h=>by
    have h0:¬x.1=f:=h 0 (by simp)
    have ih:=tgt_no (xs:=xs) (f:=f) (fun j hj=>h (j + 1) (by simpa using hj))
    unfold tgt at ih ⊢
    rw [List.find?_cons,decide_eq_false h0]
    exact ih
theorem J1 {nf n:Nat}:∀ {xs:List (Int×Int)} {last:Int},y6 nf n last xs=0→(∀ j (hj:j < xs.length),last < (xs[j]).1)∧∀ i j (hi:i < xs.length) (hj:j < xs.length),i < j→(xs[i]).1 < (xs[j]).1
  | [],_,_=>⟨fun j hj=>absurd hj (by simp),fun i j hi=>absurd hi (by simp)⟩
  | y :: ys,last,h=>by
    unfold y6 at h
    by_cases h1:oJ nf n y
    · rw [if_pos h1] at h;cases h
    rw [if_neg h1] at h
    by_cases h2:y.1≤last
    · rw [if_pos h2] at h;cases h
    rw [if_neg h2] at h
    obtain⟨ih1,ih2⟩:=J1 h
    refine⟨fun j hj=>?_,fun i j hi hj hij=>?_⟩
    · match j,hj with
      | 0,_=>show last < y.1;omega
      | j + 1,hj=>
        have:=ih1 j (by simpa using hj)
        show last < (ys[j]'(by simpa using hj)).1
        omega
    · match i,j,hi,hj,hij with
      | 0,j + 1,_,hj,_=>exact ih1 j (by simpa using hj)
      | i + 1,j + 1,hi,hj,hij=>exact ih2 i j (by simpa using hi) (by simpa using hj) om
theorem tgt_bs {nf n:Nat} {xs:List (Int×Int)} {last f:Int} {i:Nat} (hs:y6 nf n last xs=0) (hlo:∀ j (hj:j < xs.length),j < i→(xs[j]).1 < f) (hhi:∀ j (hj:j < xs.length),i≤j→f≤(xs[j]).1):
    (∀ h:i < xs.length,(xs[i]).1=f→tgt xs f=(xs[i]).2)∧((¬∃ h:i < xs.length,(xs[i]).1=f)→tgt xs f= -1):=by
  refine⟨fun h e=>tgt_at h e (fun j hj hji=>by have:=hlo j hj hji;omega),fun hn=>tgt_no (fun j hj e=>?_)⟩;by_cases h1:j < i
  · have:=hlo j hj h1;omega
  · by_cases h2:j=i
    · subst h2;exact hn ⟨hj,e⟩
    · have h3:=(J1 hs).2 i j om hj om
      have h4:=hhi i om (Nat.le_refl _);omega
theorem H8 {xs:List (Int×Int)} {f:Int}:tgt xs f= -1∨∃ y ∈ xs,y.1=f∧tgt xs f=y.2:=by
  unfold tgt;cases h:xs.find? (fun y=>decide (y.1=f)) with
  | none=>exact .inl rfl
  | some y=>exact .inr ⟨y,List.mem_of_find?_eq_some h,by simpa using List.find?_some h,rfl⟩
def walkT (g:List Nd):List Int→Int→Int
  | [],a=>a
  | f :: p,a=>if a < 0 then a else walkT g p (tgt (nd g a.toNat).ln f)
def pF (nf:Nat) (p:List Int) (i:Nat):Int:=match p[i]? with
  | none=>0
  | some x=>if x < 0∨(nf:Int)≤x then 3 else 0
noncomputable def atF (l:List Ty) (fs:List Ft) (g:List Nd) (p:List Int):Fl:=if ¬(kj l fs g).1=0 then kj l fs g else if 300 < p.length then (2,-3) else qv (pF fs.length p) 0 p.length
def AtOk (l:List Ty) (fs:List Ft) (g:List Nd) (p:List Int):Prop:=(atF l fs g p).1=0∧0≤walkT g p 0
noncomputable instance (l:List Ty) (fs:List Ft) (g:List Nd) (p:List Int):Decidable (AtOk l fs g p):=Classical.propDecidable _
end Go.Proofs.YtdgnllfbooklcaaDoor
namespace Go.Proofs.YtdgnllfbooklcaaDoor
open Go.RowKit
section six
variable {P:Program} {Q:Exit→Act→World→Prop} {n:Nat} {f:Fr} {w:World} {ops:Array Oper} {rest:List Oper} {d:Tmp} {ty t e:TypeId} {pos:String} {af:Array Edge} {x y:Operand} {v:Value}
theorem r_ext {F:FuncId} {xs:Array Operand} {ats:Array TypeId} {args:List Value} {dst:Option Nat} {gd:Option (Nat×Bool)} (h:(callFunc F args.toArray).run P w= .ok (.value v) w) (hargs:xs.toList.map (ev n f)=args):
    RV P n f w ⟨dst,.call { callee:= .value (.func F),args:=xs,argTypes:=ats },ty,pos,af,gd⟩ v w:=by
  subst hargs;have hm:(xs.toList.map (ev n f)).toArray=xs.map (ev n f):=by rw [← Array.toList_map,Array.toArray_toList]
  rw [hm] at h;simp [RV,execOp,resolve,ev,Deferred.ofValue,invoke,h]
theorem Own.whole {base sz k cap:Nat} {A:Option Addr} {xs:List Value} (h:Own w base e sz A k cap xs) (hk:0 < k):∃ (g:Nat) (cur:Array Value),A=some ⟨g,0,none⟩∧base≤g∧Blk w g e cur∧cap≤9223372036854775807∧cur.size=cap * sz∧cur.toList.take (k * sz)=xs:=by
  rcases h.2 with ⟨_,h0⟩ | ⟨g,c,cur,hv,hb,hg,hkc,hm,hs,ht⟩
  · omega
  · cases hv
    exact⟨g,cur,rfl,hb,hg,by simpa [maxLen] using hm,hs,ht⟩
end six
end Go.Proofs.YtdgnllfbooklcaaDoor
namespace Go.Proofs.YtdgnllfbooklcaaDoor
open Go.RowKit
def bl (s:ByteArray):List UInt8:=s.data.toList
theorem B8 (p:ByteArray):(bl p).length=p.size:=by unfold bl;rw [Array.length_toList];rfl
theorem WZ {p q:ByteArray} (h:bl p=bl q):p=q:=by
  cases p;cases q;unfold bl at h;simp only [ByteArray.mk.injEq];exact Array.toList_inj.1 h
section rules
variable {P:Program} {Q:Exit→Act→World→Prop} {n:Nat} {f:Fr} {w w':World} {ops:Array Oper} {rest:List Oper} {d:Nat} {ty:TypeId} {pos:String} {af:Array Edge} {x y z:Operand} {t t' e:TypeId}
end rules
end Go.Proofs.YtdgnllfbooklcaaDoor
namespace Go.Proofs.YtdgnllfbooklcaaDoor
open Go.RowKit
def stk (h:Nat) (s:ByteArray):ByteArray:=⟨((bl s).take h).toArray⟩
def sdr (l:Nat) (s:ByteArray):ByteArray:=⟨((bl s).drop l).toArray⟩
theorem VQ (l:Nat) (s:ByteArray):bl (sdr l s)=(bl s).drop l:=rfl
theorem xV (l:Nat) (s:ByteArray):(sdr l s).size=s.size - l:=by rw [← B8,← B8,VQ,List.length_drop]
theorem ext_bl (s:ByteArray) (l h:Nat):bl (s.extract l h)=((bl s).drop l).take (h - l):=by
  unfold bl;rw [ByteArray.data_extract,Array.toList_extract,List.extract_eq_take_drop]
theorem ext_sdr {s:ByteArray} {l:Nat}:s.extract l s.size=sdr l s:=WZ (by
  rw [ext_bl,VQ,List.take_of_length_le]
  rw [List.length_drop,B8]
  exact Nat.le_refl _)
section rules
variable {P:Program} {Q:Exit→Act→World→Prop} {n:Nat} {f:Fr} {w w':World} {ops:Array Oper} {rest:List Oper} {d:Nat} {ty:TypeId} {pos:String} {af:Array Edge} {x y z:Operand} {t t' e:TypeId}
theorem Y9 {dst:Option Tmp} {gd:Option (Nat×Bool)} {s:ByteArray} {l:Nat} (hu:P.underlying t=some .string) (hx:ev n f x= .string s) (hy:ev n f y= .int .i64 (l:Int)) (hl:l≤s.size):
    RV P n f w ⟨dst,.slice t x (some y) none none,ty,pos,af,gd⟩ (.string (sdr l s)) w:=by
  have h1:(Instr.sliceBound (.int .i64 (l:Int)) s.size .sliceB).run P w= .ok l w:=by
    simp [Instr.sliceBound,asIntOf,hl]
  simp [RV,execOp,hx,hy,Instr.sliceAt,run_underlying hu,Instr.slice,Instr.sliceBounds,h1,ext_sdr]
end rules
def C5 (c:UInt8):List UInt8→List (List UInt8)
  | []=>[[]]
  | x :: xs=>if x=c then [] :: C5 c xs else (x :: (C5 c xs).headD []) :: (C5 c xs).tail
theorem L9 {c:UInt8}:∀ {l:List UInt8} {m:Nat},Lib.indexByte l c=(m:Int)→m < l.length∧¬c ∈ l.take m∧l=l.take m ++ c :: l.drop (m + 1)
  | [],m,h=>by simp [Lib.indexByte] at h
  | b :: l,m,h=>by
    unfold Lib.indexByte at h
    by_cases e:b=c
    · have e2:(b == c)=true:=by simpa using e
      simp only [e2,if_true] at h
      have:m=0:=by omega
      subst this
      exact⟨by simp,by simp,by simp [e]⟩
    · have e2:(b == c)=false:=by simpa using e
      simp only [e2,Bool.false_eq_true,if_false] at h
      by_cases q:Lib.indexByte l c= -1
      · simp [q] at h
      · have q2:(Lib.indexByte l c == -1)=false:=by simpa using q
        simp only [q2,Bool.false_eq_true,if_false] at h
        have h3:=Lib.indexByte_ge l c
        obtain⟨k,rfl⟩:∃ k,m=k + 1:=⟨m - 1,by omega⟩
        obtain⟨a1,a2,a3⟩:=L9 (c:=c) (l:=l) (m:=k) om
        refine⟨by simp;exact a1,?_,?_⟩
        · rw [List.take_succ_cons]
          intro hm
          rcases List.mem_cons.1 hm with q | q
          · exact e q.symm
          · exact a2 q
        · rw [List.take_succ_cons,List.drop_succ_cons,List.cons_append,← a3]
def sp (c:UInt8) (s:ByteArray):List ByteArray:=(C5 c (bl s)).map (fun p=>⟨p.toArray⟩)
def StrsIn (w:World) (A:Option Addr) (xs:List ByteArray):Prop:=
  xs.length≤vz∧(xs≠[]→∃ b o,A=some ⟨b,o,none⟩∧b < w.heap.size∧∀ k (h:k < xs.length),w.cell? ⟨b,o + k * 1,none⟩=some (.string xs[k]))
theorem StrsIn.mono {w w':World} {A:Option Addr} {xs:List ByteArray} (h:StrsIn w A xs) (hb:Bel w w'):StrsIn w' A xs:=
  ⟨h.1,fun hn=>by
    obtain⟨b,o,e,hl,hc⟩:=h.2 hn
    exact⟨b,o,e,nLL hl hb.size,fun k hk=>hb.cell hl (hc k hk)⟩⟩
theorem StrsIn.at_ {w:World} {A:Option Addr} {xs:List ByteArray} (h:StrsIn w A xs) {k:Nat} (hk:k < xs.length):
    ∃ b o,A=some ⟨b,o,none⟩∧b < w.heap.size∧w.cell? ⟨b,o + k * 1,none⟩=some (.string xs[k]):=by
  obtain⟨b,o,e,hl,hc⟩:=h.2 (by rintro rfl;simp at hk);exact⟨b,o,e,hl,hc k hk⟩
end Go.Proofs.YtdgnllfbooklcaaDoor
namespace Go.Proofs.YtdgnllfbooklcaaDoor
open Go.RowKit
def ItIn (w:World) (b:Nat) (s:ByteArray) (p:Nat):Prop:=w.heap[b]? =some (.stringIter s p)
section it
variable {w w':World} {b p:Nat} {s:ByteArray} {X:List Nat}
theorem ItIn.lt (h:ItIn w b s p):b < w.heap.size:=jv h
theorem ItIn.tr (h:ItIn w b s p) (hs:Same X w w') (hx:b ∉ X):ItIn w' b s p:=(hs.blk b h.lt hx).trans h
theorem ItIn.tr0 (h:ItIn w b s p) (hs:Same [] w w'):ItIn w' b s p:=h.tr hs (by simp)
theorem ItIn.tr1 {c:Nat} (h:ItIn w b s p) (hs:Same [c] w w') (hne:b≠c):ItIn w' b s p:=h.tr hs (by simpa using hne)
end it
section rules
variable {P:Program} {Q:Exit→Act→World→Prop} {n:Nat} {f:Fr} {w w':World} {ops:Array Oper} {rest:List Oper} {d:Nat} {ty:TypeId} {pos:String} {af:Array Edge} {x y z:Operand} {t t' e:TypeId}
theorem wl_rg {s:ByteArray} (hu:P.underlying t=some .string) (hx:ev n f x= .string s)
    (K:∀ b w1,ItIn w1 b s 0→Same [] w w1→w.heap.size≤b→WL P ops Q rest n (upd f d (.pointer (some ⟨b,0,none⟩))) w1):WL P ops Q (⟨some d,.range t x,ty,pos,af,none⟩ :: rest) n f w:=by
  refine wl (v:= .pointer (some ⟨w.heap.size,0,none⟩)) (w':=w.iter s 0) ?_ (K _ _ (World.iter_heap w s 0) (o6 w _) (Nat.le_refl _));simp only [RV,execOp,hx,run_range_string w t s hu,Sem.run_bind,Result.andThen_ok];simp
theorem run_nx {b p:Nat} {s:ByteArray} (h:ItIn w b s p) (hp:p < s.size):
    (Instr.next (.pointer (some ⟨b,0,none⟩)) true ty).run P w= .ok (.tuple #[.bool true,.int .i64 p,.int .i32 ((Utf8.decode s p).1:Nat)]) { w with heap:=w.heap.setIfInBounds b (.stringIter s (p + (Utf8.decode s p).2)) }:=by
  have h':w.heap[b]? =some (.stringIter s p):=h;simp only [Instr.next,getObj,setObj,Sem.run_bind,Sem.run,h',Result.andThen,hp,if_true];simp [goInt]
theorem same_setO (w:World) (b:Nat) (o:Obj):Same [b] w { w with heap:=w.heap.setIfInBounds b o }:=
  ⟨rfl,rfl,rfl,by simp,fun k _ hx=>by
    have:k≠b:=fun e=>hx (List.mem_singleton.2 e)
    simp [Ne.symm this]⟩
theorem wl_nx {b p:Nat} {s:ByteArray} (h:ItIn w b s p) (hx:ev n f x= .pointer (some ⟨b,0,none⟩)) (hp:p < s.size)
    (K:∀ w1,ItIn w1 b s (p + (Utf8.decode s p).2)→Same [b] w w1→WL P ops Q rest n (upd f d (.tuple #[.bool true,.int .i64 ((p:Nat):Int),.int .i32 (((Utf8.decode s p).1:Nat):Int)])) w1):WL P ops Q (⟨some d,.next x true,ty,pos,af,none⟩ :: rest) n f w:=by
  refine wl (v:= .tuple #[.bool true,.int .i64 p,.int .i32 ((Utf8.decode s p).1:Nat)]) (w':={ w with heap:=w.heap.setIfInBounds b (.stringIter s (p + (Utf8.decode s p).2)) }) ?_ (K _ ?_ (same_setO w b _))
  · simp only [RV,execOp,hx,run_nx h hp,Sem.run_bind,Result.andThen_ok]
    simp
  · show (w.heap.setIfInBounds b _)[b]? =_
    have:=h.lt;simp [this]
theorem r_ne {b p:Nat} {s:ByteArray} {dst:Option Tmp} {gd:Option (Nat×Bool)} (h:ItIn w b s p) (hx:ev n f x= .pointer (some ⟨b,0,none⟩)) (hp:¬p < s.size):RV P n f w ⟨dst,.next x true,ty,pos,af,gd⟩ (.tuple #[.bool false]) w:=by
  have h':w.heap[b]? =some (.stringIter s p):=h;have h2:(Instr.next (.pointer (some ⟨b,0,none⟩)) true ty).run P w= .ok (.tuple #[.bool false]) w:=by
    simp [Instr.next,getObj,Sem.run,h',hp]
  simp only [RV,execOp,hx,h2,Sem.run_bind,Result.andThen_ok];simp
theorem KK {k k':IntKind} {a:Int} {dd:TypeDesc} {dst:Option Tmp} {gd:Option (Nat×Bool)} (hs:P.underlying t=some dd) (hd:P.underlying t'=some (.int k')) (hx:ev n f x= .int k a) (ha:k'.wrap a=a):
    RV P n f w ⟨dst,.convert t t' x,ty,pos,af,gd⟩ (.int k' a) w:=by
  simp [RV,execOp,hx,convert,run_underlying hs,run_underlying hd,Conv.intToInt,ha]
theorem Jw {a b c:Nat} {kb:IntKind} {dst:Option Tmp} {gd:Option (Nat×Bool)} (hx:ev n f x= .int .u64 (a:Int)) (hy:ev n f y= .int kb (b:Int)) (hb:b < 64) (ha:a * 2 ^ b < 18446744073709551616) (hc:a * 2 ^ b=c):
    RV P n f w ⟨dst,.binOp .shl t x y t',ty,pos,af,gd⟩ (.int .u64 (c:Int)) w:=by
  subst hc;have h1:min b 64=b:=by omega
  have h2:IntKind.u64.wrap ((a:Int) * 2 ^ b)=((a * 2 ^ b:Nat):Int):=by
    rw [IntKind.wrap_u64];have:((a:Int) * 2 ^ b)=((a * 2 ^ b:Nat):Int):=by simp
    rw [this]
    generalize a * 2 ^ b=c at ha
    omega
  have h0:¬((b:Int) < 0):=by omega
  simp only [RV,execOp,hx,hy,eqGuard,binOp,Op.shift,IntKind.bits,if_neg h0,Int.toNat_natCast,h1,h2];rfl
theorem r_shr8 {a b c:Nat} {kb:IntKind} {dst:Option Tmp} {gd:Option (Nat×Bool)} (hx:ev n f x= .int .u8 (a:Int)) (hy:ev n f y= .int kb (b:Int)) (hb:b < 8) (hc:a / 2 ^ b=c):
    RV P n f w ⟨dst,.binOp .shr t x y t',ty,pos,af,gd⟩ (.int .u8 (c:Int)) w:=by
  subst hc;have h1:min b 8=b:=by omega
  have h2:(a:Int).fdiv (2 ^ b)=((a / 2 ^ b:Nat):Int):=by
    rw [Int.fdiv_eq_ediv_of_nonneg _ (by exact Int.le_of_lt (Int.pow_pos dE))];simp
  have h0:¬((b:Int) < 0):=by omega
  simp only [RV,execOp,hx,hy,eqGuard,binOp,Op.shift,IntKind.bits,if_neg h0];simp [h1,h2]
theorem u8_and7:∀ a:Nat,a < 256→bits .and .u8 (a:Int) 7=((a % 8:Nat):Int):=by decide +kernel
theorem r_and7 {a:Nat} {dst:Option Tmp} {gd:Option (Nat×Bool)} (hx:ev n f x= .int .u8 (a:Int)) (hy:ev n f y= .int .u8 7) (ha:a < 256):
    RV P n f w ⟨dst,.binOp .and t x y t',ty,pos,af,gd⟩ (.int .u8 ((a % 8:Nat):Int)) w:=by
  have:=u8_and7 a ha;simp only [RV,execOp,hx,hy,eqGuard,binOp];simp [go_sem,this]
theorem r_rstr {r:Int} {dst:Option Tmp} {gd:Option (Nat×Bool)} (hs:P.underlying t=some (.int .i32)) (hd:P.underlying t'=some .string) (hx:ev n f x= .int .i32 r):
    RV P n f w ⟨dst,.convert t t' x,ty,pos,af,gd⟩ (.string (Utf8.encode r)) w:=by
  simp [RV,execOp,hx,convert,run_underlying hs,run_underlying hd,Conv.intToString]
def QN (Q:Exit→Act→World→Prop):Exit→Act→World→Prop:=Exit.noGoto Q
theorem LK {c:Code} (h:WC P c (QN Q) n f w):WC P (.scope c) Q n f w:=by
  unfold WC at h ⊢;exact wp_scope_straight h
theorem e_Nr (h:EX Q .ret n f w):EX (QN Q) .ret n f w:=by unfold EX at h ⊢;exact h
end rules
end Go.Proofs.YtdgnllfbooklcaaDoor
