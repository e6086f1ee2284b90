/- What these functions of the program compute, at every world: glosswright/graph.From. The canonical form of a valid graph is valid, and its own canonical form. No program in sight. What these functions of the program compute, at every world: slices.Equal[[]glosswright/api.Link,glosswright/api.Link], glosswright/glosswrightequal.Nodes. What these functions of the program compute, at every world: . Targets of links, walks along paths, what At answers. No program in sight. What these functions of the program compute, at every world: cmp.isNaN[int], cmp.Compare[int], glosswright/graph.Target$1, slices.BinarySearchFunc[[]glosswright/api.Link,glosswright/api.Link,int]. What these functions of the program compute, at every world: glosswright/graph.Target. A graph whose nodes are numbered in another way: valid, and of the same canonical form. No program in sight. -/
import Derived.Test.YtdgnllfbooklcaaDoorU
import Derived.Test.YtdgnllfbooklcaaDoorName
import Derived.Test.YtdgnllfbooklcaaDoorGro
import Derived.Test.YtdgnllfbooklcaaDoorGUnr
namespace Go.Proofs.YtdgnllfbooklcaaDoor
open Go.RowKit
theorem in93:(Tryd.prog.info? 93).map (fun i=>(i.zero,i.size,i.bytes))=some (some (.agg #[.int .i64 0,.slice none 0 0]),2,32):=by kernel_rfl
theorem in95:(Tryd.prog.info? 95).map (fun i=>(i.zero,i.size,i.bytes))=some (some (.agg #[.int .i64 0,.int .i64 0]),2,16):=by kernel_rfl
theorem sz107:(Tryd.prog.info? 107).map (·.size)=some 1:=by kernel_rfl
theorem ze107:(Tryd.prog.info? 107).map (·.zero)=some (some (.nilFunc)):=by kernel_rfl
theorem ze30:(Tryd.prog.info? 30).map (·.zero)=some (some (.agg #[.slice none 0 0])):=by kernel_rfl
theorem ze70:(Tryd.prog.info? 70).map (·.zero)=some (some (.slice none 0 0)):=by kernel_rfl
set_option maxHeartbeats 4000000 in
theorem from4_any (G:Option Addr) (cg nf:Nat) (gr:List Nd) (r:Nat) (w:World) (hG:NodesIn w G gr) (hk:PV nf gr) (hnf:nf≤1000) (hr:r < gr.length):Calls Tryd.prog 61 #[.agg #[.slice G gr.length cg],.int .i64 r] w fun e w'=>(∃ o A,DL gr [r] [] o∧OOk gr.length o∧e= .returned (.agg #[.slice A o.length o.length])∧GrD w' w.heap.size w'.heap.size A o.length (yk gr o) (fun x=>(nd (yk gr o) x).ty))∧Bel w w':=by
 have hn6:=hk.le;have hrg:=D5 hk;refine enter Tryd.func61 Tryd.ntmps61 rfl (Nat.le_of_ble_eq_true rfl) ?_;have hB:Bel w w:=Below.refl _ _;refine zn2 ?_;refine xk (v:= .agg #[_]) (cs:=#[_]) rfl rfl (fun b2 w1 hb2 s1 hr=>?_);have lo2:=nLT (Bel.size hB) hr;clear hr;refine qV (cs:=#[.slice none 0 0]) ze30 rfl (fun b4 w2 hb4 s2 hr=>?_);have:=nLL hb2.lt hr;replace hB:=hB.tr0 s1;have lo4:=nLT (Bel.size hB) hr;clear hr;refine zn7 ?_;refine Kx (m:=gr.length) U70 in3 rfl rfl rfl om om (fun b17 w3 hb17 s3 hr=>?_);replace hb2:=hb2.tr0 s2;have:=nLL hb2.lt hr;have:=nLL hb4.lt hr;replace hB:=hB.tr0 s2;have lo17:=nLT (Bel.size hB) hr;clear hr;refine qV (cs:=#[.slice none 0 0]) ze70 rfl (fun b5 w4 hb5 s4 hr=>?_);replace hb2:=hb2.tr0 s3;have:=nLL hb2.lt hr;replace hb4:=hb4.tr0 s3;have:=nLL hb4.lt hr;have:=nLL hb17.lt hr;replace hB:=hB.tr0 s3;have lo5:=nLT (Bel.size hB) hr;clear hr;refine xQ (v:= .slice _ _ _) hb5 rfl rfl Nk (by first | decide | simp) rfl rfl (fun w5 hq s5=>?_);replace hb5:=hq;refine ZQ ?_;replace hB:=(hB.tr0 s4).tr1 s5 lo5;replace hb2:=(hb2.tr0 s4).tr1 s5 om;replace hb4:=(hb4.tr0 s4).tr1 s5 om;replace hb17:=(hb17.tr0 s4).tr1 s5 om;refine qQ [6,20,21,22,23,24,25,26] (fun m g w'=>∃ k:Nat,k≤gr.length∧m=gr.length - k∧g 20= .int .i64 k∧Bel w w'∧Blk w' b2 30 #[.slice G gr.length cg]∧Blk w' b4 30 #[.slice none 0 0]∧Blk w' b5 70 #[.slice (some ⟨b17,0,none⟩) gr.length gr.length]∧Blk w' b17 3 (row gr.length (fun x=> .int .i64 (if x < k then -1 else 0)))) (gr.length) ?_ (fun m g3 w6 hI=>?_)
 ·refine⟨0,Nat.zero_le _,rfl,rfl,hB,hb2,hb4,hb5,?_⟩;rw [yK (g':=fun _=> .int .i64 0) (fun x _=>by simp)];exact hb17
 obtain⟨k,hkk,hm,h20,hB,hb2,hb4,hb5,hb17⟩:=hI;refine zX 20 _ h20 nu (zn6 ?_);refine zW rfl (fun c21=>?_) (fun c21=>?_)
 ·have hlt:k < gr.length:=by omega
  refine V8 ?_;refine xQ (v:= .int _ _) hb17 rfl rfl y5 (by rw [row_size];omega) rfl u5 (fun w7 hq s6=>?_);replace hb17:=hq
  rw [yK (g':=fun x=> .int .i64 (if x < k + 1 then -1 else 0)) (fun x _=>by
    by_cases e:x=k
    · subst e;simp
    · have e1:(x < k + 1) ↔ (x < k):=by omega
      simp [e,e1])] at hb17
  refine zn7 ?_;refine y6 (gr.length - (k + 1)) om agA ?_;replace hB:=hB.tr1 s6 lo17;replace hb2:=hb2.tr1 s6 om;replace hb4:=hb4.tr1 s6 om;replace hb5:=hb5.tr1 s6 om;exact⟨k + 1,by omega,rfl,rfl,hB,hb2,hb4,hb5,hb17⟩
 have hke:k=gr.length:=by omega
 rw [hke,yK (g':=fun x=> .int .i64 (uW [] x)) (fun x hx=>by simp [hx,numO_nil])] at hb17;refine zn7 ?_;refine qV (cs:=#[.slice none 0 0]) ze70 rfl (fun b7 w8 hb7 s7 hr=>?_);have:=nLL hb2.lt hr;have:=nLL hb4.lt hr;have:=nLL hb17.lt hr;have:=nLL hb5.lt hr;have lo7:=nLT (Bel.size hB) hr;clear hr;refine zn4 ?_;refine qV (cs:=#[.nilFunc]) ze107 rfl (fun b8 w9 hb8 s8 hr=>?_);replace hb2:=hb2.tr0 s7;have:=nLL hb2.lt hr;replace hb4:=hb4.tr0 s7;have:=nLL hb4.lt hr;replace hb17:=hb17.tr0 s7;have:=nLL hb17.lt hr;replace hb5:=hb5.tr0 s7;have:=nLL hb5.lt hr;have:=nLL hb7.lt hr;replace hB:=hB.tr0 s7;have lo8:=nLT (Bel.size hB) hr;clear hr;refine zn4 ?_;refine wl (r_mf rfl) ?_;refine xQ (v:= .func _ _ _) hb8 rfl rfl sz107 (by first | decide | simp) rfl rfl (fun w10 hq s9=>?_);replace hb8:=hq;refine zn3 ?_;obtain⟨base,hbase⟩:∃ b,b=w10.heap.size:=⟨_,rfl⟩
 replace hB:=(hB.tr0 s8).tr1 s9 lo8;have hlo:w.heap.size≤base:=by rw [hbase];exact Bel.size hB
 have hbs:base≤w10.heap.size:=Nat.le_of_eq hbase;replace hb5:=(hb5.tr0 s8).tr1 s9 om;have lt5:b5 < base:=by rw [hbase];exact hb5.lt
 replace hb7:=(hb7.tr0 s8).tr1 s9 om;have lt7:b7 < base:=by rw [hbase];exact hb7.lt
 replace hb2:=(hb2.tr0 s8).tr1 s9 om;have lt2:b2 < base:=by rw [hbase];exact hb2.lt
 replace hb4:=(hb4.tr0 s8).tr1 s9 om;have lt4:b4 < base:=by rw [hbase];exact hb4.lt
 have lt8:b8 < base:=by rw [hbase];exact hb8.lt
 replace hb17:=(hb17.tr0 s8).tr1 s9 om;have lt17:b17 < base:=by rw [hbase];exact hb17.lt
 refine zn3 ?_;refine xV rfl fn75 (Gj (w0:=w) (G:=G) (cg:=cg) (bP:=b5) (bQ:=b7) (bG:=b2) (bV:=b8) (bn:=b17) (base:=base) hG hk hlo lo5 lo7 lo2 lo8 lo17 lt5 lt7 lt2 lt8 lt17 om om om om om om om gr.length [] none 0 _ r (Ey _ _) hr hB hbs (OOk.nil _) hb5 hb7 hb2 hb8 hb17 (Own.nil _ _ _ _)) rfl rfl (fun e' w11 hr=>?_);obtain⟨rfl,o,AO,capO,hD,hb7n,hoo,hb17n,hC⟩:=hr;replace hB:=hB.chg hC hlo (by simp [lo7,lo17])
 replace hb2 := hb2.chg hC lt2 (by have : b2 ≠ b7 := by omega
                                   have:b2≠b17:=by omega
                                   simp [*])
 replace hb4 := hb4.chg hC lt4 (by have : b4 ≠ b7 := by omega
                                   have:b4≠b17:=by omega
                                   simp [*])
 replace hb5 := hb5.chg hC lt5 (by have : b5 ≠ b7 := by omega
                                   have:b5≠b17:=by omega
                                   simp [*])
 replace hb7:=hb7n;replace hb17:=hb17n;obtain⟨hok,_,_⟩:=hD.ok hrg (fun i hi=>by rw [List.mem_singleton.1 hi];exact hr) (OOk.nil _);have hol:=hok.cnt;refine⟨_,rfl,?_⟩;refine zn6 ?_;refine wl_mk (m:=o.length) U28 in93 rfl rfl om om (fun b33 w12 hb33 s10 hr=>?_);have:=nLL hb2.lt hr;have:=nLL hb4.lt hr;have:=nLL hb17.lt hr;have:=nLL hb5.lt hr;have:=nLL hb7.lt hr;have or_hoo_b33:=fun g hg=>nLL (hoo.lt g hg).2 hr
 have lo33:=nLT (Bel.size hB) hr;clear hr;refine wl (IX (v0:= .slice _ _ _) (fun v0=>#[v0]) rfl kR) ?_;refine yv (cs:=#[.slice none 0 0]) ze30 rfl (fun _=>rfl) (fun _=>rfl) Z6 rfl zJ (fun b9 w14 hb9 s11 hr=>?_);have:=nLL hb33.lt hr;clear hr;refine zn4 ?_;replace hB:=hB.tr0 (s10.trans s11);replace hb2:=hb2.tr0 (s10.trans s11);replace hb4:=hb4.tr0 (s10.trans s11);replace hb17:=hb17.tr0 (s10.trans s11);replace hb5:=hb5.tr0 (s10.trans s11);replace hb7:=hb7.tr0 (s10.trans s11);replace hoo:=hoo.tr0 (s10.trans s11);replace hb33:=hb33.tr0 s11;replace hb33:Blk w14 b33 93 (kV o.length (fun _=> .int .i64 0) (fun _=> .slice none 0 0)):=by
   have h:=hb33;rw [show (Value.agg #[.int .i64 0,.slice none 0 0]).cells= #[.int .i64 0,.slice none 0 0] from rfl,Dq] at h;exact h
 refine zn7 ?_;refine qQ [10,11,13,37,38,39,40,41,42,43,44,45,46,47,48,49,50,51,52,53,54,55,56,57,58,59,60,61,62,63,64,65,66,67,68,69,70,71,72,73,74,75,76,77,78,79,80,81,82,83,84,85,86] (fun m g w'=>∃ (k:Nat) (V:Nat→Value),k≤o.length∧m=o.length - k∧g 37= .int .i64 k∧Bel w w'∧Blk w' b2 30 #[.slice G gr.length cg]∧Blk w' b4 30 #[.slice none 0 0]∧Blk w' b5 70 #[.slice (some ⟨b17,0,none⟩) gr.length gr.length]∧Blk w' b7 70 #[.slice AO o.length capO]∧Blk w' b17 3 (row gr.length (fun x=> .int .i64 (uW o x)))∧Blk w' b9 30 #[.slice (some ⟨b33,0,none⟩) o.length o.length]∧Own w' base 3 1 AO o.length capO (oV o)∧Blk w' b33 93 (kV o.length (fun x=>if x < k then .int .i64 (nd gr (o.getD x 0)).ty else .int .i64 0) (fun x=>if x < k then V x else .slice none 0 0))∧(∀ x,x < k→RowO w' w.heap.size w'.heap.size (V x) ((nd gr (o.getD x 0)).ln.map (KV o)))∧Dis V k) (o.length) ?_ (fun m g13 w15 hI=>?_)
 ·refine⟨0,fun _=> .slice none 0 0,Nat.zero_le _,rfl,rfl,hB,hb2,hb4,hb5,hb7,hb17,hb9,hoo,?_,fun x hx=>by omega,fun x y hx=>by omega⟩;rw [ZX (f':=fun _=> .int .i64 0) (h':=fun _=> .slice none 0 0) (fun x _=>by simp) (fun x _=>by simp)];exact hb33
 obtain⟨k,V,hkk,hm,h37,hB,hb2,hb4,hb5,hb7,hb17,hb9,hoo,hb33,hrows,hdis⟩:=hI;obtain⟨bs,hbsz⟩:∃ b,b=w15.heap.size:=⟨_,rfl⟩
 rw [← hbsz] at hrows;have hbz:bs≤w15.heap.size:=Nat.le_of_eq hbsz;have hlb5:w.heap.size≤bs:=by rw [hbsz];exact Bel.size hB
 have lu2:b2 < bs:=by rw [hbsz];exact hb2.lt
 have lu4:b4 < bs:=by rw [hbsz];exact hb4.lt
 have lu5:b5 < bs:=by rw [hbsz];exact hb5.lt
 have lu7:b7 < bs:=by rw [hbsz];exact hb7.lt
 have lu17:b17 < bs:=by rw [hbsz];exact hb17.lt
 have lu9:b9 < bs:=by rw [hbsz];exact hb9.lt
 have lu33:b33 < bs:=by rw [hbsz];exact hb33.lt
 have luo:∀ g ∈ aL AO,g < bs:=fun g hg=>by rw [hbsz];exact(hoo.lt g hg).2
 refine zX 37 _ h37 nu (zn6 ?_);refine zW rfl (fun c38=>?_) (fun c38=>?_)
 ·have hlt:k < o.length:=by omega
  obtain⟨i,hoi,hin⟩:∃ i:Nat,o[k]'hlt=i∧i < gr.length:=⟨_,rfl,hok.lt _ (List.getElem_mem hlt)⟩
  have hgd:o.getD k 0=i:=by simp [List.getD,hlt,hoi]
  have hnd:=yy hin
  obtain⟨q,rfl,hqb,hql,hqc⟩:=hoo.cell (by
    intro h0;have:=congrArg List.length h0;simp [oV] at this;rw [this] at hlt
    simp at hlt)
  have hz:w15.cell? ⟨q,0 + k * 1,none⟩=some (.int .i64 (i:Int)):=by
    have:=hqc k (.int .i64 (i:Int)) (by simp [oV,hlt,hoi])
    simpa using this
  obtain⟨nb,no,LA,lc,rfl,hnb,hnr,hln⟩:=hG.at_ (Below.refl _ _:Bel w w) hin;have hmx:=hln.1;unfold j7 at hmx;have hfw:=hk.few i hin;refine zn8 ?_;refine wl (qY (v:= .int _ _) U3 rfl rfl hz) (zn5 ?_);refine Jx 11 kR kR (fun w16 s12=>?_);replace hrows:=fun x hx=>(hrows x hx).tr s12 (by simp)
  replace hbz:=nLT hbz (Same.size s12);refine zn6 ?_;refine ws (yz (i:=i) U28 K5 rfl rfl hin rfl) (zn1 ?_);replace hB:=hB.tr0 s12;refine ws (qY (v:= .int _ _) U3 rfl rfl (hB.cell hnb (hnr 0 _ rfl))) (zn2 ?_);refine J3 ?_;replace hb33:=hb33.tr0 s12;refine xQ (v:= .int _ _) hb33 rfl rfl y5 (by rw [XW];show 0 + k * 2 + 0 < o.length * 2;omega) rfl Dz (fun w17 hq s13=>?_);replace hoo:=hoo.tr0 s12;replace hoo:=hoo.tr1 s13 (fun g hg=>by have:=(hoo.lt g hg).1;(try have:=or_hoo_b33 g hg);(try simp only [aL] at hg);(try simp only [List.mem_singleton] at hg);omega);replace hrows:=fun x hx=>(hrows x hx).tr s13 (fun g hg=>by rw [List.mem_singleton.1 hg];first | exact .inr ⟨_,_,hb33,by decide⟩ | exact .inl om)
  replace hbz:=nLT hbz (Same.size s13);replace hb33:=hq
  rw [ZX (f':=(fun x=>if x < k + 1 then .int .i64 (nd gr (o.getD x 0)).ty else .int .i64 0)) (h':=fun x=>if x=k then .slice none 0 0 else if x < k then V x else .slice none 0 0) (fun x _=>by
    by_cases e:x=k
    · subst e;simp [List.getD,hlt,hoi,hnd]
    · have e1:(x < k + 1) ↔ (x < k):=by omega
      simp [e,e1]) (fun x _=>by
    by_cases e:x=k
    · subst e;simp
    · simp [e])] at hb33
  refine zn7 ?_;refine wl (yz (i:=i) U28 K5 rfl rfl hin rfl) (zn1 ?_);replace hB:=hB.tr1 s13 lo33;refine wl (qY (v:= .slice _ _ _) U91 rfl rfl (hB.cell hnb (hnr 1 _ rfl))) (zn5 ?_);replace hb2:=(hb2.tr0 s12).tr1 s13 om;replace hb4:=(hb4.tr0 s12).tr1 s13 om;replace hb17:=(hb17.tr0 s12).tr1 s13 om;replace hb5:=(hb5.tr0 s12).tr1 s13 om;replace hb7:=(hb7.tr0 s12).tr1 s13 om;replace hb9:=(hb9.tr0 s12).tr1 s13 om;refine qQ [13,60,61,62,63,64,65,66,67,68,69,70,71,72,73,74,75,76,77,78,79,80,81,82,83,84,85] (fun m g w'=>∃ (j:Nat) (A5:Option Addr) (cap5:Nat),j≤(gr[i]'hin).ln.length∧m=(gr[i]'hin).ln.length - j∧g 60= .int .i64 j∧Bel w w'∧Blk w' b2 30 #[.slice (some ⟨nb,no,none⟩) gr.length cg]∧Blk w' b4 30 #[.slice none 0 0]∧Blk w' b5 70 #[.slice (some ⟨b17,0,none⟩) gr.length gr.length]∧Blk w' b7 70 #[.slice (some ⟨q,0,none⟩) o.length capO]∧Blk w' b17 3 (row gr.length (fun x=> .int .i64 (uW o x)))∧Blk w' b9 30 #[.slice (some ⟨b33,0,none⟩) o.length o.length]∧Own w' base 3 1 (some ⟨q,0,none⟩) o.length capO (oV o)∧Blk w' b33 93 (kV o.length (fun x=>if x < k + 1 then .int .i64 (nd gr (o.getD x 0)).ty else .int .i64 0) (fun x=>if x=k then .slice A5 j cap5 else if x < k then V x else .slice none 0 0))∧(∀ x,x < k→RowO w' w.heap.size bs (V x) ((nd gr (o.getD x 0)).ln.map (KV o)))∧bs≤w'.heap.size∧Own w' bs 95 2 A5 j cap5 (lnV (((gr[i]'hin).ln.take j).map (KV o)))) ((gr[i]'hin).ln.length) ?_ (fun m g17 w18 hI=>?_)
  ·exact⟨0,none,0,Nat.zero_le _,rfl,rfl,hB,hb2,hb4,hb5,hb7,hb17,hb9,hoo,hb33,hrows,hbz,Own.nil _ _ _ _⟩
  obtain⟨j,A5,cap5,hj,hmj,h60,hB,hb2,hb4,hb5,hb7,hb17,hb9,hoo,hb33,hrows,hbz,ho5⟩:=hI;refine zX 60 _ h60 nu (zn6 ?_);refine zW rfl (fun c61=>?_) (fun c61=>?_)
  ·have hjl:j < (gr[i]'hin).ln.length:=by omega
   obtain⟨lb,lof,rfl,hlb,hlr⟩:=hln.at_ hB hjl;obtain⟨t,ht,htl⟩:∃ t:Nat,((gr[i]'hin).ln[j]'hjl).2=(t:Int)∧t < gr.length:=by
     have h1:=hk.ln i hin _ (List.getElem_mem hjl);exact⟨(((gr[i]'hin).ln[j]'hjl).2).toNat,by omega,by omega⟩
   refine zn7 ?_;refine wl (qW U95 rfl rfl hlr Vz) ?_;refine qV (cs:=#[.int .i64 0,.int .i64 0]) C1 rfl (fun b13 w19 hb13 s14 hr=>?_);have:=nLL hb2.lt hr;have:=nLL hb4.lt hr;have:=nLL hb17.lt hr;have:=nLL hb5.lt hr;have:=nLL hb7.lt hr;have:=nLL hb33.lt hr;have:=nLL hb9.lt hr;have or_hbz_b13:=(nLT hbz hr)
   have or_hoo_b13:=fun g hg=>nLL (hoo.lt g hg).2 hr
   have or_ho5_b13:=fun g hg=>nLL (ho5.lt g hg).2 hr
   have lo13:=nLT (Bel.size hB) hr;replace hrows:=fun x hx=>(hrows x hx).tr s14 (by simp)
   replace hbz:=nLT hbz (Same.size s14);clear hr;refine zk hb13 rfl rfl Vz rfl zJ (fun w20 hq s15=>?_);replace hrows:=fun x hx=>(hrows x hx).tr s15 (fun g hg=>by rw [List.mem_singleton.1 hg];first | exact .inr ⟨_,_,hb13,by decide⟩ | exact .inl om)
   replace hbz:=nLT hbz (Same.size s15);replace hoo:=hoo.tr0 s14;replace hoo:=hoo.tr1 s15 (fun g hg=>by have:=(hoo.lt g hg).1;(try have:=or_hoo_b13 g hg);(try simp only [aL] at hg);(try simp only [List.mem_singleton] at hg);omega);replace ho5:=ho5.tr0 s14;replace ho5:=ho5.tr1 s15 (fun g hg=>by have:=(ho5.lt g hg).1;(try have:=or_ho5_b13 g hg);(try simp only [aL] at hg);(try simp only [List.mem_singleton] at hg);omega);replace hb13:=hq;refine zQ (e_S ?_);rw [ht] at hb13;have zo:=fun g hg=>(ho5.lt g hg).2
   have hcell:(kV o.length (fun x=>if x < k + 1 then .int .i64 (nd gr (o.getD x 0)).ty else .int .i64 0) (fun x=>if x=k then .slice A5 j cap5 else if x < k then V x else .slice none 0 0))[0 + k * 2 + 1]? =some (.slice A5 j cap5):=by rw [N1 hlt];simp
   replace hB:=(hB.tr0 s14).tr1 s15 lo13;have hsz:=Bel.size hB;replace hb17:=(hb17.tr0 s14).tr1 s15 om;replace hb5:=(hb5.tr0 s14).tr1 s15 om;replace hb33:=(hb33.tr0 s14).tr1 s15 om;replace hb9:=(hb9.tr0 s14).tr1 s15 om;refine X1 21 [64,65,66,67,68,69,70,71,72,73,74,75,76,77,78,79,80,81,82,83,84] (aL A5) 18 (fun ix v wv=>match ix with | 0=>v= .pointer (some ⟨b9,0,none⟩) | 1=>v= .slice (some ⟨b33,0,none⟩) o.length o.length | 2=>v= .int .i64 k | 3=>v= .pointer (some ⟨b9,0,none⟩) | 4=>v= .slice (some ⟨b33,0,none⟩) o.length o.length | 5=>v= .int .i64 k | 6=>v= .pointer (some ⟨b33,0 + k * 2,none⟩) | 7=>v= .pointer (some ⟨b33,0 + k * 2 + 1,none⟩) | 8=>v= .slice A5 j cap5 | 9=>v= .pointer (some ⟨b13,0,none⟩) | 10=>v= .int .i64 ((gr[i]'hin).ln[j]'hjl).1 | 11=>v= .slice (some ⟨b17,0,none⟩) gr.length gr.length | 12=>v= .pointer (some ⟨b13,1,none⟩) | 13=>v= .int .i64 (t:Nat) | 14=>v= .pointer (some ⟨b17,0 + t * 1,none⟩) | 15=>v= .int .i64 (uW o t) | 16=>v= .agg #[.int .i64 ((gr[i]'hin).ln[j]'hjl).1,.int .i64 (uW o t)] | 17=>∃ b,v= .slice (some ⟨b,0,none⟩) 1 1∧w20.heap.size≤b∧Blk wv b 95 #[.int .i64 ((gr[i]'hin).ln[j]'hjl).1,.int .i64 (uW o t)] | 18=>∃ g cap,v= .slice (some ⟨g,0,none⟩) (j + 1) cap∧Own wv bs 95 2 (some ⟨g,0,none⟩) (j + 1) cap (lnV (((gr[i]'hin).ln.take j).map (KV o)) ++ [.int .i64 ((gr[i]'hin).ln[j]'hjl).1,.int .i64 (uW o t)]) | 19=>v= .pointer (some ⟨b33,0 + k * 2,none⟩) | 20=>v= .pointer (some ⟨b33,0 + k * 2 + 1,none⟩) | _=>True) (fun _=>True) kR kR ?_ (fun _ _ _ _=>trivial) ?_ ?_ dE ?_
   ·intro ix v wv wv2 h s16
    match ix,h with
    | 0,h=>exact h
    | 1,h=>exact h
    | 2,h=>exact h
    | 3,h=>exact h
    | 4,h=>exact h
    | 5,h=>exact h
    | 6,h=>exact h
    | 7,h=>exact h
    | 8,h=>exact h
    | 9,h=>exact h
    | 10,h=>exact h
    | 11,h=>exact h
    | 12,h=>exact h
    | 13,h=>exact h
    | 14,h=>exact h
    | 15,h=>exact h
    | 16,h=>exact h
    | 17,h=>
     obtain⟨b81,e81,lo81,hb81⟩:=h;exact⟨b81,e81,lo81,hb81.tr0 s16⟩
    | 18,h=>
     obtain⟨g82,cap82,e82,ho82⟩:=h;exact⟨g82,cap82,e82,ho82.tr0 s16⟩
    | 19,h=>exact h
    | 20,h=>exact h
    | _ + 21,h=>exact trivial
   ·intro ix o hix hne hoq gg wx s17 hd
    match ix,hix,hne,hoq with
    | 0,_,_,hoq=>
     cases sI hoq;refine qk (uK U30 sz28 dE rfl rfl rfl) ⟨Same.refl _ _,?_⟩;exact rfl
    | 1,_,_,hoq=>
     cases sI hoq;replace hb9:=hb9.tr s17 (fun hx=>by have:=(ho5.lt _ hx).1;(try have:=or_ho5_b9 _ hx);omega);refine zz 64 _ (hd 0 (zj kR)) nu ?_;refine qk (qY (v:= .slice _ _ _) U28 rfl rfl (hb9.cell rfl)) ⟨Same.refl _ _,?_⟩;exact rfl
    | 2,_,_,hoq=>
     cases sI hoq;refine qk (x8 (v:= .int _ _) rfl) ⟨Same.refl _ _,?_⟩;exact rfl
    | 3,_,_,hoq=>
     cases sI hoq;refine qk (uK U30 sz28 dE rfl rfl rfl) ⟨Same.refl _ _,?_⟩;exact rfl
    | 4,_,_,hoq=>
     cases sI hoq;replace hb9:=hb9.tr s17 (fun hx=>by have:=(ho5.lt _ hx).1;(try have:=or_ho5_b9 _ hx);omega);refine zz 67 _ (hd 3 (zj kR)) nu ?_;refine qk (qY (v:= .slice _ _ _) U28 rfl rfl (hb9.cell rfl)) ⟨Same.refl _ _,?_⟩;exact rfl
    | 5,_,_,hoq=>
     cases sI hoq;refine qk (x8 (v:= .int _ _) rfl) ⟨Same.refl _ _,?_⟩;exact rfl
    | 6,_,_,hoq=>
     cases sI hoq;refine zz 68 _ (hd 4 (zj kR)) nu (zz 69 _ (hd 5 (zj kR)) nu ?_);refine qk (yz (i:=k) U28 K5 rfl rfl om rfl) ⟨Same.refl _ _,?_⟩;exact rfl
    | 7,_,_,hoq=>
     cases sI hoq;refine zz 70 _ (hd 6 (zj kR)) nu ?_;refine qk (uK U93 sz91 dE rfl rfl rfl) ⟨Same.refl _ _,?_⟩;exact rfl
    | 8,_,_,hoq=>
     cases sI hoq;replace hb33:=hb33.tr s17 (fun hx=>by have:=(ho5.lt _ hx).1;(try have:=or_ho5_b33 _ hx);omega);refine zz 71 _ (hd 7 (zj kR)) nu ?_;refine qk (qY (v:= .slice _ _ _) U91 rfl rfl (hb33.cell hcell)) ⟨Same.refl _ _,?_⟩;exact rfl
    | 9,_,_,hoq=>
     cases sI hoq;refine qk (uK U95 y5 dE rfl rfl rfl) ⟨Same.refl _ _,?_⟩;exact rfl
    | 10,_,_,hoq=>
     cases sI hoq;replace hb13:=hb13.tr s17 (fun hx=>by have:=(ho5.lt _ hx).1;(try have:=or_ho5_b13 _ hx);omega);refine zz 73 _ (hd 9 (zj kR)) nu ?_;refine qk (qY (v:= .int _ _) U3 rfl rfl (hb13.cell rfl)) ⟨Same.refl _ _,?_⟩;exact rfl
    | 11,_,_,hoq=>
     cases sI hoq;replace hb5:=hb5.tr s17 (fun hx=>by have:=(ho5.lt _ hx).1;(try have:=or_ho5_b5 _ hx);omega);refine qk (qY (v:= .slice _ _ _) U70 rfl rfl (hb5.cell rfl)) ⟨Same.refl _ _,?_⟩;exact rfl
    | 12,_,_,hoq=>
     cases sI hoq;refine qk (uK U95 y5 dE rfl rfl rfl) ⟨Same.refl _ _,?_⟩;exact rfl
    | 13,_,_,hoq=>
     cases sI hoq;replace hb13:=hb13.tr s17 (fun hx=>by have:=(ho5.lt _ hx).1;(try have:=or_ho5_b13 _ hx);omega);refine zz 76 _ (hd 12 (zj kR)) nu ?_;refine qk (qY (v:= .int _ _) U3 rfl rfl (hb13.cell rfl)) ⟨Same.refl _ _,?_⟩;exact rfl
    | 14,_,_,hoq=>
     cases sI hoq;refine zz 75 _ (hd 11 (zj kR)) nu (zz 77 _ (hd 13 (zj kR)) nu ?_);refine qk (yz (i:=t) U70 y5 rfl rfl htl rfl) ⟨Same.refl _ _,?_⟩;exact rfl
    | 15,_,_,hoq=>
     cases sI hoq;replace hb17:=hb17.tr s17 (fun hx=>by have:=(ho5.lt _ hx).1;(try have:=or_ho5_b17 _ hx);omega);refine zz 78 _ (hd 14 (zj kR)) nu ?_;refine qk (qY (v:= .int _ _) U3 rfl rfl (hb17.cell (j9 htl))) ⟨Same.refl _ _,?_⟩;exact rfl
    | 16,_,_,hoq=>
     cases sI hoq;refine zz 74 _ (hd 10 (zj kR)) nu (zz 79 _ (hd 15 (zj kR)) nu ?_);refine qk (oK (v0:= .int _ _) (v1:= .int _ _) (fun v0 v1=>#[v0,v1]) rfl rfl kR) ⟨Same.refl _ _,?_⟩;exact rfl
    | 17,_,_,hoq=>
     cases sI hoq;have hs0:=s17;refine zz 80 _ (hd 16 (zj kR)) nu ?_;refine j5 (fun ops Q K=>?_);refine qJ (cs:=#[_,_]) [(0,.agg _)] rfl U91 Vz C1 dE dE kR rfl (fun b81 w21 hb81 s18 hr=>?_);exact K _ _ ⟨s18,⟨_,rfl,nLT hs0.size hr,hb81⟩⟩
    | 18,_,hne,_=>exact absurd rfl hne
    | 19,_,_,hoq=>
     cases sI hoq;refine zz 65 _ (hd 1 (zj kR)) nu (zz 66 _ (hd 2 (zj kR)) nu ?_);refine qk (yz (i:=k) U28 K5 rfl rfl om rfl) ⟨Same.refl _ _,?_⟩;exact rfl
    | 20,_,_,hoq=>
     cases sI hoq;refine zz 83 _ (hd 19 (zj kR)) nu ?_;refine qk (uK U93 sz91 dE rfl rfl rfl) ⟨Same.refl _ _,?_⟩;exact rfl
    | _ + 21,hix,_,_=>exact absurd hix om
   ·intro o hoq gg wx s19 hd;cases sI hoq;replace hrows:=fun x hx=>(hrows x hx).tr s19 (by simp)
    replace hbz:=nLT hbz (Same.size s19);obtain⟨b81,e81,lo81,hb81⟩:=hd 17 (zj kR);refine zz 72 _ (hd 8 (zj kR)) nu (zz 81 _ e81 nu ?_);refine j5 (fun ops Q K=>?_);replace ho5:=ho5.tr0 s19;refine kQ U91 in95 rfl dE ho5 hb81 rfl rfl rfl zJ dE om om hbz (fun g82 cap82 w2 ho82 hs2 hg82=>?_);refine K _ _ ⟨hs2,⟨_,_,rfl,ho82⟩,trivial,fun kx v hne h=>?_⟩
    match kx,hne,h with
    | 0,_,h=>exact h
    | 1,_,h=>exact h
    | 2,_,h=>exact h
    | 3,_,h=>exact h
    | 4,_,h=>exact h
    | 5,_,h=>exact h
    | 6,_,h=>exact h
    | 7,_,h=>exact h
    | 8,_,h=>exact h
    | 9,_,h=>exact h
    | 10,_,h=>exact h
    | 11,_,h=>exact h
    | 12,_,h=>exact h
    | 13,_,h=>exact h
    | 14,_,h=>exact h
    | 15,_,h=>exact h
    | 16,_,h=>exact h
    | 17,_,h=>
     obtain⟨b81,e81,lo81,hb81⟩:=h;exact⟨b81,e81,lo81,hb81.tr hs2 (fun hx=>by have:=zo _ hx;omega)⟩
    | 18,hne,_=>exact absurd rfl hne
    | 19,_,h=>exact h
    | 20,_,h=>exact h
    | _ + 21,_,_=>exact trivial
   intro gg w22 s20 _ hR;replace hB:=hB.tr s20 (fun g hg=>nLT hlb5 (ho5.lt g hg).1);replace hb2:=(hb2.tr0 s14).tr1 s15 om;replace hb2:=hb2.tr s20 (fun hx=>by have:=(ho5.lt _ hx).1;(try have:=or_ho5_b2 _ hx);omega);replace hb4:=(hb4.tr0 s14).tr1 s15 om;replace hb4:=hb4.tr s20 (fun hx=>by have:=(ho5.lt _ hx).1;(try have:=or_ho5_b4 _ hx);omega);replace hb17:=hb17.tr s20 (fun hx=>by have:=(ho5.lt _ hx).1;(try have:=or_ho5_b17 _ hx);omega);replace hb5:=hb5.tr s20 (fun hx=>by have:=(ho5.lt _ hx).1;(try have:=or_ho5_b5 _ hx);omega);replace hb7:=(hb7.tr0 s14).tr1 s15 om;replace hb7:=hb7.tr s20 (fun hx=>by have:=(ho5.lt _ hx).1;(try have:=or_ho5_b7 _ hx);omega);replace hb33:=hb33.tr s20 (fun hx=>by have:=(ho5.lt _ hx).1;(try have:=or_ho5_b33 _ hx);omega);replace hb9:=hb9.tr s20 (fun hx=>by have:=(ho5.lt _ hx).1;(try have:=or_ho5_b9 _ hx);omega);replace hrows:=fun x hx=>(hrows x hx).tr s20 (fun g hg=> .inl ((ho5).lt g hg).1)
   replace hbz:=nLT hbz (Same.size s20);replace hoo:=hoo.tr s20 (fun g hg hx=>by have:=(ho5.lt _ hx).1;(try have:=luo g hg);omega);obtain⟨g82,cap82,e82,ho82⟩:=hR 18 dE;replace ho82:Own w22 bs 95 2 (some ⟨g82,0,none⟩) (j + 1) cap82 (lnV (((gr[i]'hin).ln.take (j + 1)).map (KV o))):=by
     rw [List.take_succ_eq_append_getElem hjl,List.map_append,List.map_cons,List.map_nil,← Tx];have e:KV o ((gr[i]'hin).ln[j]'hjl)=(((gr[i]'hin).ln[j]'hjl).1,uW o t):=by simp [KV,ht]
     rw [e];exact ho82
   have ho5:=ho82;refine x9 82 _ e82 nu (x9 84 _ (hR 20 dE) nu ?_);refine xQ (v:= .slice _ _ _) hb33 rfl rfl sz91 (by rw [XW];show 0 + k * 2 + 1 < o.length * 2;omega) rfl D9 (fun w23 hq s21=>?_);replace hrows:=fun x hx=>(hrows x hx).tr s21 (fun g hg=>by rw [List.mem_singleton.1 hg];first | exact .inr ⟨_,_,hb33,by decide⟩ | exact .inl om)
   replace hbz:=nLT hbz (Same.size s21);replace hoo:=hoo.tr1 s21 (fun g hg=>by have:=(hoo.lt g hg).1;(try have:=or_hoo_b33 g hg);(try simp only [aL] at hg);(try simp only [List.mem_singleton] at hg);omega);replace ho5:=ho5.tr1 s21 (fun g hg=>by have:=(ho5.lt g hg).1;(try have:=or_ho5_b33 g hg);(try simp only [aL] at hg);(try simp only [List.mem_singleton] at hg);omega);replace hb33:=hq
   rw [ZX (f':=(fun x=>if x < k + 1 then .int .i64 (nd gr (o.getD x 0)).ty else .int .i64 0)) (h':=fun x=>if x=k then .slice (some ⟨g82,0,none⟩) (j + 1) cap82 else if x < k then V x else .slice none 0 0) (fun x _=>rfl) (fun x _=>by
     by_cases e:x=k
     · subst e;simp
     · simp [e])] at hb33
   refine zn7 ?_;refine y6 ((gr[i]'hin).ln.length - (j + 1)) om agA ?_;replace hB:=hB.tr1 s21 lo33;replace hb2:=hb2.tr1 s21 om;replace hb4:=hb4.tr1 s21 om;replace hb17:=hb17.tr1 s21 om;replace hb5:=hb5.tr1 s21 om;replace hb7:=hb7.tr1 s21 om;replace hb9:=hb9.tr1 s21 om;exact⟨j + 1,_,_,by omega,rfl,rfl,hB,hb2,hb4,hb5,hb7,hb17,hb9,hoo,hb33,hrows,hbz,ho5⟩
  have hjx:j=(gr[i]'hin).ln.length:=by omega
  subst hjx;refine kv ?_;refine y6 (o.length - (k + 1)) om agA ?_;refine⟨k + 1,fun x=>if x=k then .slice A5 (gr[i]'hin).ln.length cap5 else V x,by omega,rfl,rfl,hB,hb2,hb4,hb5,hb7,hb17,hb9,hoo,?_,fun x hx=>?_,hdis.snoc hrows (fun g hg=>(ho5.lt g hg).1)⟩
  · rw [ZX (f':=(fun x=>if x < k + 1 then .int .i64 (nd gr (o.getD x 0)).ty else .int .i64 0)) (h':=(fun x=>if x < k + 1 then (if x=k then .slice A5 (gr[i]'hin).ln.length cap5 else V x) else .slice none 0 0)) (fun x _=>rfl) (fun x _=>by
      by_cases e:x=k
      · subst e;simp
      · have e1:(x < k + 1) ↔ (x < k):=by omega
        simp [e,e1])] at hb33
    exact hb33
  · by_cases e:x=k
    · subst e
      simp only [if_true]
      have h:=RowO.of (lo:=w.heap.size) (xs:=(gr[i]'hin).ln.map (KV o)) hlb5 (by
        rw [List.take_length] at ho5
        rw [List.length_map];exact ho5)
      rw [List.length_map] at h;rw [hgd,hnd];exact h
    · simp only [if_neg e]
      exact(hrows x om).up hbz
 have hke:k=o.length:=by omega
 rw [hke] at hb33 hrows hdis;refine zn8 ?_;refine zk hb4 rfl rfl Z6 rfl zJ (fun w24 hq s22=>?_);replace hrows:=fun x hx=>(hrows x hx).tr s22 (fun g hg=>by rw [List.mem_singleton.1 hg];first | exact .inr ⟨_,_,hb4,by decide⟩ | exact .inl om)
 replace hbz:=nLT hbz (Same.size s22);replace hb4:=hq;refine zn3 ?_;refine y7 (.inl rfl) rfl (zw U30 rfl rfl hb4.range0 Z6) ?_;have hcl:(yk gr o).length=o.length:=by simp [yk]
 replace hB:=hB.tr1 s22 lo4;replace hb33:=hb33.tr1 s22 om;refine⟨⟨o,_,hD,hok,rfl,GrD.mk (own_row2 hb33 lo33 om) hcl (Nat.le_refl _) (fun x hx=>?_) (fun g hg=>?_) hbz (fun x hx=>?_) (hdis.congr (fun x hx=>by simp [hx]))⟩,hB⟩
 · rw [L2 hx];simp [hx]
 · rw [List.mem_singleton.1 hg];exact hb33.lt
 · rw [L2 hx]
   have h:=hrows x hx
   simpa [hx] using h
theorem from3_any (G:Option Addr) (cg nf:Nat) (gr:List Nd) (r:Nat) (w:World) (hG:NodesIn w G gr) (hk:PV nf gr) (hnf:nf≤1000) (hr:r < gr.length):Calls Tryd.prog 61 #[.agg #[.slice G gr.length cg],.int .i64 r] w fun e w'=>(∃ o A,DL gr [r] [] o∧OOk gr.length o∧e= .returned (.agg #[.slice A o.length o.length])∧GrT w' w.heap.size w'.heap.size A o.length (yk gr o) (fun x=>(nd (yk gr o) x).ty))∧Bel w w':=(from4_any G cg nf gr r w hG hk hnf hr).mono fun e w' h=>by
  obtain⟨⟨o,A,h1,h2,h3,h4⟩,hs⟩:=h
  exact⟨⟨o,A,h1,h2,h3,h4.grt⟩,hs⟩
theorem DX (G:Option Addr) (cg nf:Nat) (gr:List Nd) (r:Nat) (w:World) (hG:NodesIn w G gr) (hk:PV nf gr) (hnf:nf≤1000) (hr:r < gr.length):Calls Tryd.prog 61 #[.agg #[.slice G gr.length cg],.int .i64 r] w fun e w'=>(∃ o A,DL gr [r] [] o∧OOk gr.length o∧e= .returned (.agg #[.slice A o.length o.length])∧(∀ w2,FrSame w.heap.size w' w2→NodesIn w2 A (yk gr o)))∧Bel w w':=(from3_any G cg nf gr r w hG hk hnf hr).mono fun e w' h=>by
  obtain⟨⟨o,A,h1,h2,h3,h4⟩,hs⟩:=h
  exact⟨⟨o,A,h1,h2,h3,fun w2 hf=>by have:=(h4.fr hf).nodes;rwa [rtG_self] at this⟩,hs⟩
theorem from_any (G:Option Addr) (cg nt nf:Nat) (gr:List Nd) (r:Nat) (w:World) (hG:NodesIn w G gr) (hk:GOk nt nf gr) (hnf:nf≤1000) (hr:r < gr.length):Calls Tryd.prog 61 #[.agg #[.slice G gr.length cg],.int .i64 r] w fun e w'=>(∃ o A,DL gr [r] [] o∧OOk gr.length o∧e= .returned (.agg #[.slice A o.length o.length])∧(∀ w2,FrSame w.heap.size w' w2→NodesIn w2 A (yk gr o)))∧Bel w w':=DX G cg nf gr r w hG hk.two hnf hr
end Go.Proofs.YtdgnllfbooklcaaDoor
namespace Go.Proofs.YtdgnllfbooklcaaDoor
open Go.RowKit
structure GV (l:List Ty) (fs:List Ft) (g:List Nd):Prop where
  h:(qq l fs).1=0
  s:Jv l
  few:fs.length≤40
  f:FOk l.length fs
  gok:GOk l.length fs.length g
  t:tyF l fs g=(0,0)
  u:¬0≤Vv g
  lo:(vk l.length fs.length g).1=0
theorem TW {l:List Ty} {fs:List Ft} {g:List Nd} (h:(vQ l fs g).1=0):GV l fs g:=by
  by_cases h0:(qq l fs).1=0
  · rw [Jq h0] at h
    by_cases h1:(vk l.length fs.length g).1=0
    · by_cases h2:(tyF l fs g).1=0
      · have h2':tyF l fs g=(0,0):=DJ h2
        by_cases h3:0≤Vv g
        · rw [Ry h1 h2' h3] at h;cases h
        · refine⟨h0,XK h0,?_,N9 h0,B5 h1,h2',h3,h1⟩
          unfold qq at h0;by_cases h4:40 < fs.length
          · rw [if_pos h4] at h0;cases h0
          · omega
      · unfold qK at h
        rw [if_neg (fun e=>e h1),if_pos h2] at h;exact absurd h h2
    · rw [I0 h1] at h;exact absurd h h1
  · rw [LX h0] at h;exact absurd h h0
theorem DL.sub {g:List Nd} {is a b:List Nat} (h:DL g is a b):∀ x ∈ a,x ∈ b:=by
  induction h with
  | nil=>exact fun x h=>h
  | old h t ih=>exact ih
  | new h s t ihs iht=>exact fun x hx=>iht x (ihs x (List.mem_append_left _ hx))
theorem DL.has {g:List Nd} {is a b:List Nat} (h:DL g is a b):∀ i ∈ is,i ∈ b:=by
  induction h with
  | nil=>exact fun i h=>by cases h
  | old h t ih=>
    intro i hi;rcases List.mem_cons.1 hi with rfl | hi
    · exact t.sub _ h
    · exact ih i hi
  | new h s t ihs iht=>
    intro i hi;rcases List.mem_cons.1 hi with rfl | hi
    · exact t.sub _ (s.sub _ (by simp))
    · exact iht i hi
theorem DL.clo {g:List Nd} {is a b:List Nat} (h:DL g is a b):∀ x ∈ b,¬x ∈ a→∀ t ∈ vz g x,t ∈ b:=by
  induction h with
  | nil=>exact fun x h1 h2=>absurd h1 h2
  | old h t ih=>exact ih
  | new h s t ihs iht=>
    rename_i i is o o1 o'
    intro x hx hn y hy;by_cases h1:x ∈ o1
    · by_cases h2:x=i
      · subst h2;exact t.sub _ (s.has y hy)
      · exact t.sub _ (ihs x h1 (fun h3=>by
          rcases List.mem_append.1 h3 with h3 | h3
          · exact hn h3
          · exact h2 (List.mem_singleton.1 h3)) y hy)
    · exact iht x hx h1 y hy
theorem DL.nodup {g:List Nd} {is a b:List Nat} (h:DL g is a b):a.Nodup→b.Nodup:=by
  induction h with
  | nil=>exact fun h=>h
  | old h t ih=>exact ih
  | new h s t ihs iht=>
    intro hd;refine iht (ihs (List.nodup_append.2 ⟨hd,by simp,fun x hx y hy=>?_⟩));rw [List.mem_singleton.1 hy];exact fun e=>h (e ▸ hx)
theorem DL.rch {g:List Nd} (hr:∀ i,i < g.length→∀ t ∈ vz g i,t < g.length) {is a b:List Nat} (h:DL g is a b):(∀ i ∈ is,i < g.length)→(∀ i ∈ is,Rch g i)→(∀ x ∈ a,Rch g x)→∀ x ∈ b,Rch g x:=by
  induction h with
  | nil=>exact fun _ _ h=>h
  | old h t ih=>exact fun hi hR ha=>ih (fun i h=>hi i (List.mem_cons_of_mem _ h)) (fun i h=>hR i (List.mem_cons_of_mem _ h)) ha
  | new h s t ihs iht=>
    rename_i i is o o1 o'
    intro hi hR ha;have hlt:=hi i (List.mem_cons_self ..);have hRi:=hR i (List.mem_cons_self ..);refine iht (fun i h=>hi i (List.mem_cons_of_mem _ h)) (fun i h=>hR i (List.mem_cons_of_mem _ h)) (ihs (hr i hlt) (fun t ht=>?_) (fun x hx=>?_))
    · simp only [vz,yy hlt,List.mem_map] at ht
      obtain⟨y,hy,rfl⟩:=ht;exact .step hRi hlt hy
    · rcases List.mem_append.1 hx with hx | hx
      · exact ha x hx
      · rw [List.mem_singleton.1 hx];exact hRi
structure Tr (g:List Nd) (o:List Nat):Prop where
  dl:DL g [0] [] o
  ok:OOk g.length o
  nd:o.Nodup
  pos:0 < o.length
  zero:o.idxOf 0=0
  clo:∀ x ∈ o,∀ t ∈ vz g x,t ∈ o
theorem M3 {o:List Nat} (hn:o.Nodup) {k:Nat} (hk:k < o.length):o.idxOf o[k]=k:=by
  have h1:o.idxOf o[k] < o.length:=List.idxOf_lt_length_of_mem (List.getElem_mem hk);have h2:o[o.idxOf o[k]]=o[k]:=List.getElem_idxOf h1;exact(List.getElem_inj hn).1 h2
theorem ky {o:List Nat} {x:Nat} (hx:x ∈ o):∃ h:o.idxOf x < o.length,o[o.idxOf x]=x:=⟨List.idxOf_lt_length_of_mem hx,List.getElem_idxOf _⟩
theorem Ev {o:List Nat} {x:Nat} (hx:x ∈ o):uW o x=(o.idxOf x:Nat):=by simp [uW,hx]
theorem o6 (g:List Nd) (o:List Nat):(yk g o).length=o.length:=by simp [yk]
theorem Mq {g:List Nd} {o:List Nat} {x:Nat} (hx:x ∈ o):nd (yk g o) (o.idxOf x)=PZ g o x:=by
  obtain⟨h1,h2⟩:=ky hx;rw [yy (by rw [o6];exact h1)];simp [yk,h2]
theorem DW {g:List Nd} {o:List Nat} (h:∀ x ∈ o,∀ t ∈ vz g x,t ∈ o) {x:Nat} (hx:x ∈ o):vz (yk g o) (o.idxOf x)=(vz g x).map (o.idxOf ·):=by
  unfold vz;rw [Mq hx];simp only [PZ,List.map_map];refine List.map_congr_left (fun y hy=>?_);have:y.2.toNat ∈ o:=h x hx _ (by simp only [vz,List.mem_map];exact⟨y,hy,rfl⟩);simp [KV,Ev this]
theorem DL.map {g:List Nd} {o:List Nat} (hc:∀ x ∈ o,∀ t ∈ vz g x,t ∈ o) {is a b:List Nat} (h:DL g is a b):(∀ x ∈ b,x ∈ o)→DL (yk g o) (is.map (o.idxOf ·)) (a.map (o.idxOf ·)) (b.map (o.idxOf ·)):=by
  have inj:∀ x y,x ∈ o→y ∈ o→o.idxOf x=o.idxOf y→x=y:=fun x y hx hy e=>by
    obtain⟨h1,h2⟩:=ky hx;obtain⟨h3,h4⟩:=ky hy;rw [← h2,← h4];simp only [e]
  induction h with
  | nil=>exact fun _=> .nil
  | old h t ih=>
    intro hb;exact .old (List.mem_map_of_mem h) (ih hb)
  | new h s t ihs iht=>
    rename_i i is o0 o1 o'
    intro hb;have hio:=hb i (t.sub _ (s.sub _ (by simp)));refine .new (fun hm=>?_) ?_ (iht hb)
    · obtain⟨y,hy,e⟩:=List.mem_map.1 hm
      have hyo:=hb y (t.sub _ (s.sub _ (List.mem_append_left _ hy)));exact h (inj y i hyo hio e ▸ hy)
    · have:=ihs (fun x hx=>hb x (t.sub _ hx))
      rw [List.map_append] at this;rw [DW hc hio];exact this
theorem CK {o:List Nat} (hn:o.Nodup):o.map (o.idxOf ·)=List.range o.length:=by
  apply List.ext_getElem
  · simp
  · intro k h1 h2
    simp only [List.getElem_map,List.getElem_range];exact M3 hn (by simpa using h1)
theorem Tr.can {g:List Nd} {o:List Nat} (h:Tr g o):DL (yk g o) [0] [] (List.range o.length):=by
  have:=h.dl.map h.clo (fun x hx=>hx);rw [CK h.nd] at this
  simpa [h.zero] using this
end Go.Proofs.YtdgnllfbooklcaaDoor
namespace Go.Proofs.YtdgnllfbooklcaaDoor
open Go.RowKit
theorem FrSame.then {B B0:Nat} {w0 w1 w2:World} (h:FrSame B w0 w1) (k:FrSame B0 w1 w2) (hb:B0≤B):FrSame B w0 w2:=
  ⟨nLT h.size k.size,fun i hi hl=>(k.blk i (nLT hb hi) (nLL hl h.size)).trans (h.blk i hi hl)⟩
end Go.Proofs.YtdgnllfbooklcaaDoor
namespace Go.Proofs.YtdgnllfbooklcaaDoor
open Go.RowKit
inductive NdVs (w:World):List Nd→List Value→Prop
  | nil:NdVs w [] []
  | cons {x:Nd} {l:List Nd} {vs:List Value} {A:Option Addr} {c:Nat} (h:LinksIn w A x.ln) (r:NdVs w l vs):NdVs w (x :: l) (.int .i64 x.ty :: .slice A x.ln.length c :: vs)
theorem NdVs.get {w:World} {l:List Nd} {vs:List Value} (h:NdVs w l vs):∀ k (hk:k < l.length),∃ A c,vs[k * 2]? =some (.int .i64 (l[k]).ty)∧vs[k * 2 + 1]? =some (.slice A (l[k]).ln.length c)∧LinksIn w A (l[k]).ln:=by
  induction h with
  | nil=>intro k hk;simp at hk
  | cons h r ih=>
    intro k hk
    match k,hk with
    | 0,_=>exact⟨_,_,rfl,rfl,h⟩
    | k + 1,hk=>
      obtain⟨A,c,h1,h2,h3⟩:=ih k (by simpa using hk);refine⟨A,c,?_,?_,h3⟩
      · rw [show (k + 1) * 2=k * 2 + 1 + 1 from by omega];simpa using h1
      · rw [show (k + 1) * 2 + 1=k * 2 + 1 + 1 + 1 from by omega];simpa using h2
end Go.Proofs.YtdgnllfbooklcaaDoor
namespace Go.Proofs.YtdgnllfbooklcaaDoor
open Go.RowKit
def tgt (xs:List (Int×Int)) (f:Int):Int:=match xs.find? (fun y=>decide (y.1=f)) with
  | some y=>y.2
  | none=>-1
theorem tgt_at {f:Int}:∀ {xs:List (Int×Int)} {i:Nat} (hi:i < xs.length),(xs[i]).1=f→(∀ j (hj:j < xs.length),j < i→¬(xs[j]).1=f)→tgt xs f=(xs[i]).2
  | [],_,hi,_,_=>absurd hi (by simp)
  | x :: xs,0,_,h,_=>by
    have h1:x.1=f:=h
    unfold tgt
    rw [List.find?_cons,decide_eq_true h1]
    rfl
  | x :: xs,i + 1,hi,h,hb=>by
    have h0:¬x.1=f:=hb 0 (by simp) om
    have ih:=tgt_at (xs:=xs) (i:=i) (by simpa using hi) h (fun j hj hji=>hb (j + 1) (by simpa using hj) om)
    unfold tgt at ih ⊢
    rw [List.find?_cons,decide_eq_false h0]
    exact ih
theorem tgt_no {f:Int}:∀ {xs:List (Int×Int)},(∀ j (hj:j < xs.length),¬(xs[j]).1=f)→tgt xs f= -1
  | [],_=>rfl
  | x :: xs,h=>by
    have h0:¬x.1=f:=h 0 (by simp)
    have ih:=tgt_no (xs:=xs) (f:=f) (fun j hj=>h (j + 1) (by simpa using hj))
    unfold tgt at ih ⊢
    rw [List.find?_cons,decide_eq_false h0]
    exact ih
theorem K0 {nf n:Nat}:∀ {xs:List (Int×Int)} {last:Int},y9 nf n last xs=0→(∀ j (hj:j < xs.length),last < (xs[j]).1)∧∀ i j (hi:i < xs.length) (hj:j < xs.length),i < j→(xs[i]).1 < (xs[j]).1
  | [],_,_=>⟨fun j hj=>absurd hj (by simp),fun i j hi=>absurd hi (by simp)⟩
  | y :: ys,last,h=>by
    unfold y9 at h
    by_cases h1:uy nf n y
    · rw [if_pos h1] at h;cases h
    rw [if_neg h1] at h
    by_cases h2:y.1≤last
    · rw [if_pos h2] at h;cases h
    rw [if_neg h2] at h
    obtain⟨ih1,ih2⟩:=K0 h
    refine⟨fun j hj=>?_,fun i j hi hj hij=>?_⟩
    · match j,hj with
      | 0,_=>show last < y.1;omega
      | j + 1,hj=>
        have:=ih1 j (by simpa using hj)
        show last < (ys[j]'(by simpa using hj)).1
        omega
    · match i,j,hi,hj,hij with
      | 0,j + 1,_,hj,_=>exact ih1 j (by simpa using hj)
      | i + 1,j + 1,hi,hj,hij=>exact ih2 i j (by simpa using hi) (by simpa using hj) om
theorem tgt_bs {nf n:Nat} {xs:List (Int×Int)} {last f:Int} {i:Nat} (hs:y9 nf n last xs=0) (hlo:∀ j (hj:j < xs.length),j < i→(xs[j]).1 < f) (hhi:∀ j (hj:j < xs.length),i≤j→f≤(xs[j]).1):
    (∀ h:i < xs.length,(xs[i]).1=f→tgt xs f=(xs[i]).2)∧((¬∃ h:i < xs.length,(xs[i]).1=f)→tgt xs f= -1):=by
  refine⟨fun h e=>tgt_at h e (fun j hj hji=>by have:=hlo j hj hji;omega),fun hn=>tgt_no (fun j hj e=>?_)⟩;by_cases h1:j < i
  · have:=hlo j hj h1;omega
  · by_cases h2:j=i
    · subst h2;exact hn ⟨hj,e⟩
    · have h3:=(K0 hs).2 i j om hj om
      have h4:=hhi i om (Nat.le_refl _);omega
theorem C7 {xs:List (Int×Int)} {f:Int}:tgt xs f= -1∨∃ y ∈ xs,y.1=f∧tgt xs f=y.2:=by
  unfold tgt;cases h:xs.find? (fun y=>decide (y.1=f)) with
  | none=>exact .inl rfl
  | some y=>exact .inr ⟨y,List.mem_of_find?_eq_some h,by simpa using List.find?_some h,rfl⟩
theorem tgt_rng {nt nf:Nat} {g:List Nd} (hk:GOk nt nf g) {i:Nat} (hi:i < g.length) (f:Int):-1≤tgt (g[i]).ln f∧tgt (g[i]).ln f < g.length:=by
  rcases C7 (xs:=(g[i]).ln) (f:=f) with h | ⟨y,hy,_,h⟩
  · rw [h];omega
  · have:=hk.ln i hi y hy
    rw [h];omega
def walkT (g:List Nd):List Int→Int→Int
  | [],a=>a
  | f :: p,a=>if a < 0 then a else walkT g p (tgt (nd g a.toNat).ln f)
def pF (nf:Nat) (p:List Int) (i:Nat):Int:=match p[i]? with
  | none=>0
  | some x=>if x < 0∨(nf:Int)≤x then 3 else 0
noncomputable def atF (l:List Ty) (fs:List Ft) (g:List Nd) (p:List Int):Fl:=if ¬(vQ l fs g).1=0 then vQ l fs g else if 300 < p.length then (2,-3) else qZ (pF fs.length p) 0 p.length
def AtOk (l:List Ty) (fs:List Ft) (g:List Nd) (p:List Int):Prop:=(atF l fs g p).1=0∧0≤walkT g p 0
noncomputable instance (l:List Ty) (fs:List Ft) (g:List Nd) (p:List Int):Decidable (AtOk l fs g p):=Classical.propDecidable _
end Go.Proofs.YtdgnllfbooklcaaDoor
namespace Go.Proofs.YtdgnllfbooklcaaDoor
open Go.RowKit
theorem r_cvU {P:Program} {n:Nat} {f:Fr} {w:World} {dst:Option Tmp} {gd:Option (Nat×Bool)} {ty:TypeId} {pos:String} {af:Array Edge} {x:Operand} {k':IntKind} {a:Int} {t t':TypeId} {dd:TypeDesc} (hs:P.underlying t=some dd) (hd:P.underlying t'=some (.int .u64)) (hx:ev n f x= .int k' a) (ha:0≤a∧a≤18446744073709551615):
    RV P n f w ⟨dst,.convert t t' x,ty,pos,af,gd⟩ (.int .u64 a) w:=by
  have:=IntWalk.u64_in a ha;simp [RV,execOp,hx,convert,run_underlying hs,run_underlying hd,Conv.intToInt,this]
def Mz (a b:Int):Int:=if a < b then -1 else if b < a then 1 else 0
theorem cmpI_lt {a b:Int}:Mz a b < 0 ↔ a < b:=by unfold Mz;split <;> (try split) <;> omega
theorem cmpI_eq {a b:Int}:Mz a b=0 ↔ a=b:=by unfold Mz;split <;> (try split) <;> omega
theorem fn69:zZ Tryd.prog 69=true:=by kernel_rfl
theorem fn72:zZ Tryd.prog 72=true:=by kernel_rfl
theorem fn85:zZ Tryd.prog 85=true:=by kernel_rfl
theorem qy:(Tryd.prog.info? 3).map (·.size)=some 1:=by kernel_rfl
theorem qX:(Tryd.prog.info? 95).map (·.size)=some 2:=by kernel_rfl
theorem L4 (a:Int) (w:World):Calls Tryd.prog 85 #[.int .i64 a] w fun e w'=>e= .returned (.bool false)∧Bel w w':=by
 refine enter Tryd.func85 Tryd.ntmps85 rfl (Nat.le_of_ble_eq_true rfl) ?_;have hB:Bel w w:=Below.refl _ _;refine G7 ?_;exact⟨XY (decide_eq_false (fun h=>h rfl)).symm,hB⟩
theorem E0 (a b:Int) (w:World):Calls Tryd.prog 69 #[.int .i64 a,.int .i64 b] w fun e w'=>e= .returned (.int .i64 (Mz a b))∧Bel w w':=by
 refine enter Tryd.func69 Tryd.ntmps69 rfl (Nat.le_of_ble_eq_true rfl) ?_;have hB:Bel w w:=Below.refl _ _;refine zn8 ?_;refine qz fn85 (L4 _ _) rfl (fun e' w1 hr=>?_);obtain⟨rfl,s1⟩:=hr;replace s1:=sB s1;refine⟨_,rfl,?_⟩;refine zn6 ?_;refine qz fn85 (L4 _ _) rfl (fun e' w2 hr=>?_);obtain⟨rfl,s2⟩:=hr;replace s2:=sB s2;refine⟨_,rfl,?_⟩;refine zn9 ?_;refine kw rfl (fun c11=>?_) (fun c11=>?_)
 ·exact absurd c11 dE
 refine zn8 ?_;refine kw rfl (fun c13=>?_) (fun c13=>?_)
 ·exact absurd c13 dE
 refine kv ?_;replace hB:=hB.tr0 (s1.trans s2);refine zW rfl (fun c16=>?_) (fun c16=>?_)
 ·refine zn8 ?_;exact⟨X5 (by unfold Mz;rw [if_pos c16]),hB⟩
 refine kv ?_;refine zW rfl (fun c19=>?_) (fun c19=>?_)
 ·refine zn8 ?_;exact⟨X5 (by unfold Mz;rw [if_neg c16];exact if_pos c19),hB⟩
 refine zn9 ?_;exact⟨X5 (by unfold Mz;rw [if_neg c16];exact if_neg c19),hB⟩
theorem Hx (a b f:Int) (w:World):Calls Tryd.prog 72 #[.agg #[.int .i64 a,.int .i64 b],.int .i64 f] w fun e w'=>e= .returned (.int .i64 (Mz a f))∧Bel w w':=by
 refine enter Tryd.func72 Tryd.ntmps72 rfl (Nat.le_of_ble_eq_true rfl) ?_;have hB:Bel w w:=Below.refl _ _;refine zn2 ?_;refine xk (v:= .agg #[_,_]) (cs:=#[_,_]) rfl rfl (fun b2 w1 hb2 s1 hr=>?_);refine zn8 ?_;refine qz fn69 (E0 _ _ _) rfl (fun e' w2 hr=>?_);obtain⟨rfl,s2⟩:=hr;replace s2:=sB s2;refine⟨_,rfl,?_⟩;refine zn5 ?_;replace hB:=hB.tr0 (s1.trans s2);exact⟨rfl,hB⟩
theorem bsf_any (A:Option Addr) (c:Nat) (xs:List (Int×Int)) (f:Int) (w:World) (hX:LinksIn w A xs) (hl:xs.length≤1000) (hmono:∀ i j (hi:i < xs.length) (hj:j < xs.length),i≤j→(xs[i]).1≤(xs[j]).1):Calls Tryd.prog 71 #[.slice A xs.length c,.int .i64 f,.func (.func 72) #[] #[]] w fun e w'=>(∃ (i:Nat) (b:Bool),i≤xs.length∧e= .returned (.tuple #[.int .i64 i,.bool b])∧(∀ j (hj:j < xs.length),j < i→(xs[j]).1 < f)∧(∀ j (hj:j < xs.length),i≤j→f≤(xs[j]).1)∧(b=true ↔ ∃ h:i < xs.length,(xs[i]).1=f))∧Bel w w':=by
 refine enter Tryd.func71 Tryd.ntmps71 rfl (Nat.le_of_ble_eq_true rfl) ?_;have hB:Bel w w:=Below.refl _ _;refine zn22 ?_;refine qQ [9,10,11,15,16,17,18,19,20,21,22,23,24,25,26,27,28,29,30,31,32,33,34] (fun m g w'=>∃ i j:Nat,i≤j∧j≤xs.length∧m=j - i∧g 9= .int .i64 i∧g 10= .int .i64 j∧Bel w w'∧(∀ x (hx:x < xs.length),x < i→(xs[x]).1 < f)∧(∀ x (hx:x < xs.length),j≤x→f≤(xs[x]).1)) (xs.length) ?_ (fun m g3 w1 hI=>?_)
 ·exact⟨0,xs.length,Nat.zero_le _,Nat.le_refl _,rfl,rfl,rfl,hB,fun x _ h=>by omega,fun x h1 h2=>by omega⟩
 obtain⟨i,j,hij,hj,hm,h9,h10,hB,hlo,hhi⟩:=hI;refine zX 9 _ h9 nu (zX 10 _ h10 nu (zn8 ?_));refine zW rfl (fun c17=>?_) (fun c17=>?_)
 ·obtain⟨h,hh⟩:∃ h,h=(i + j) / 2:=⟨_,rfl⟩
  have hhl:h < xs.length:=by omega
  obtain⟨lb,lof,rfl,hlb,hlr⟩:=hX.at_ hB hhl;refine zn7 ?_;refine wl (J7 (c:=((i + j:Nat):Int)) rfl rfl om om) (wl (r_cvU U3 Tryd.underlying153 rfl om) (wl (HV (b:=1) (c:=h) rfl rfl om (by rw [hh,Nat.shiftRight_eq_div_pow])) (wl (r_cvI Tryd.underlying153 U3 rfl om) (zn9 ?_))));refine wl (qW U95 rfl rfl hlr qX) (wmI rfl ?_);refine xV rfl fn72 (Hx _ _ f _) rfl rfl (fun e' w2 hr=>?_);obtain⟨rfl,hs⟩:=hr;replace hB:=hB.tr0 (sB hs);refine⟨_,rfl,?_⟩;refine zn3 ?_;refine zW rfl (fun c31=>?_) (fun c31=>?_)
  ·have hlt:=cmpI_lt.1 c31;obtain⟨i2,hi2⟩:∃ i2,i2=h + 1:=⟨_,rfl⟩
   obtain⟨j2,hj2⟩:∃ j2,j2=j:=⟨_,rfl⟩
   have hlo2:∀ x (hx:x < xs.length),x < i2→(xs[x]).1 < f:=fun x hx hxi=>by
     by_cases e:x=h
     · subst e;exact hlt
     · have hsx:(xs[x]).1≤(xs[h]).1:=hmono x h hx hhl om
       omega
   have hhi2:∀ x (hx:x < xs.length),j2≤x→f≤(xs[x]).1:=fun x hx hxj=>hhi x hx om
   refine zn6 ?_;refine y6 (j2 - i2) om agA ?_;exact⟨i2,j2,by omega,by omega,rfl,by subst hi2;rfl,by subst hj2;rfl,hB,hlo2,hhi2⟩
  have hge:¬(xs[h]).1 < f:=fun h=>c31 (cmpI_lt.2 h)
  obtain⟨i2,hi2⟩:∃ i2,i2=i:=⟨_,rfl⟩
  obtain⟨j2,hj2⟩:∃ j2,j2=h:=⟨_,rfl⟩
  have hlo2:∀ x (hx:x < xs.length),x < i2→(xs[x]).1 < f:=fun x hx hxi=>hlo x hx om
  have hhi2:∀ x (hx:x < xs.length),j2≤x→f≤(xs[x]).1:=fun x hx hxj=>by
    have hsx:(xs[h]).1≤(xs[x]).1:=hmono h x hhl hx om;omega
  refine zn5 ?_;refine y6 (j2 - i2) om agA ?_;exact⟨i2,j2,by omega,by omega,rfl,by subst hi2;rfl,by subst hj2;rfl,hB,hlo2,hhi2⟩
 have hije:i=j:=by omega
 subst hije;refine jw ?_;refine zY 39 rfl (fun g39=>?_) (fun g39=>?_)
 ·refine zn6 ?_;have hiN:i < xs.length:=by omega
  obtain⟨lb,lof,rfl,hlb,hlr⟩:=hX.at_ hB hiN;refine zn3 ?_;refine wl (qW U95 rfl rfl hlr qX) (zn3 ?_);refine xV rfl fn72 (Hx _ _ f _) rfl rfl (fun e' w3 hr=>?_);obtain⟨rfl,hs⟩:=hr;replace hB:=hB.tr0 (sB hs);refine⟨_,rfl,?_⟩;refine zn8 ?_;refine ZW (.inl rfl) rfl rfl rfl ?_
  first
    | exact⟨⟨i,false,by omega,rfl,hlo,hhi,⟨fun h=>(Bool.noConfusion h),fun hh=>absurd hh.1 om⟩⟩,hB⟩
    | exact⟨⟨i,decide (Mz (xs[i]'hiN).1 f=0),by omega,rfl,hlo,hhi,by rw [decide_eq_true_iff,cmpI_eq];exact⟨fun h=>⟨hiN,h⟩,fun⟨_,h⟩=>h⟩⟩,hB⟩
 refine V8 ?_;refine ZW (.inl rfl) rfl rfl rfl ?_
 first
   | exact⟨⟨i,false,by omega,rfl,hlo,hhi,⟨fun h=>(Bool.noConfusion h),fun hh=>absurd hh.1 om⟩⟩,hB⟩
   | exact⟨⟨i,decide (Mz (xs[i]'hiN).1 f=0),by omega,rfl,hlo,hhi,by rw [decide_eq_true_iff,cmpI_eq];exact⟨fun h=>⟨hiN,h⟩,fun⟨_,h⟩=>h⟩⟩,hB⟩
end Go.Proofs.YtdgnllfbooklcaaDoor
namespace Go.Proofs.YtdgnllfbooklcaaDoor
open Go.RowKit
theorem fn71:zZ Tryd.prog 71=true:=by kernel_rfl
theorem MQ:(Tryd.prog.info? 28).map (·.size)=some 1:=by kernel_rfl
theorem oj:(Tryd.prog.info? 91).map (·.size)=some 1:=by kernel_rfl
theorem oq:(Tryd.prog.info? 93).map (·.size)=some 2:=by kernel_rfl
theorem Y9 (G:Option Addr) (cg nf:Nat) (gr:List Nd) (i:Nat) (f:Int) (w:World) (hG:NodesIn w G gr) (hi:i < gr.length) (hl:y9 nf gr.length (-1) (gr[i]'hi).ln=0) (hw:(gr[i]'hi).ln.length≤1000):Calls Tryd.prog 59 #[.agg #[.slice G gr.length cg],.int .i64 i,.int .i64 f] w fun e w'=>e= .returned (.int .i64 (tgt (gr[i]'hi).ln f))∧Bel w w':=by
 obtain⟨nb,no,LA,lc,rfl,hnb,hnr,hln⟩:=hG.at_ (Below.refl _ _:Bel w w) hi;have hso:=(K0 hl).2;refine enter Tryd.func59 Tryd.ntmps59 rfl (Nat.le_of_ble_eq_true rfl) ?_;have hB:Bel w w:=Below.refl _ _;refine zn2 ?_;refine xk (v:= .agg #[_]) (cs:=#[_]) rfl rfl (fun b3 w1 hb3 s1 hr=>?_);refine zn8 ?_;refine wl (yz (i:=i) U28 oq rfl rfl hi rfl) (zn1 ?_);replace hB:=hB.tr0 s1;refine wl (qY (v:= .slice _ _ _) U91 rfl rfl (hB.cell hnb (hnr 1 _ rfl))) (wmI rfl ?_)
 refine qz fn71 (bsf_any LA lc (gr[i]'hi).ln f _ (hln.mono hB) hw (fun x y hx hy hxy=>by
       by_cases e:x=y
       · subst e;exact Int.le_refl _
       · exact Int.le_of_lt (hso x y hx hy om))) rfl (fun e' w2 hr=>?_)
 obtain⟨⟨ix,b,hix,rfl,hlo,hhi,hbt⟩,s2⟩:=hr;replace s2:=sB s2;obtain⟨hy,hn⟩:=tgt_bs hl hlo hhi;refine⟨_,rfl,?_⟩;refine wmT rfl (wl (yZ (v:= .int _ _) rfl rfl) (wl (yZ (v:= .bool _) rfl rfl) (ZQ ?_)));replace hB:=hB.tr0 s2;refine kw rfl (fun c21=>?_) (fun c21=>?_)
 ·have hbf:¬b=true:=by simpa using c21
  have hno:=hn (fun h=>hbf (hbt.2 h));refine zn8 ?_;exact⟨X5 hno,hB⟩
 have hbt2:b=true:=by simpa using c21
 obtain⟨hxl,hxe⟩:=hbt.1 hbt2;have hyes:=hy hxl hxe;obtain⟨lb,lof,rfl,hlb,hlr⟩:=hln.at_ hB hxl;refine zn7 ?_;refine wl (yz (i:=i) U28 oq rfl rfl hi rfl) (zn1 ?_);refine wl (qY (v:= .slice _ _ _) U91 rfl rfl (hB.cell hnb (hnr 1 _ rfl))) (zn3 ?_);refine wl (qY (v:= .int _ _) U3 rfl rfl (hlr 1 _ rfl)) (zn5 ?_);exact⟨X5 hyes,hB⟩
end Go.Proofs.YtdgnllfbooklcaaDoor
namespace Go.Proofs.YtdgnllfbooklcaaDoor
open Go.RowKit
def trN (σ:Nat→Nat) (x:Nd):Nd:=⟨x.ty,x.ln.map (fun y=>(y.1,(σ y.2.toNat:Int)))⟩
theorem NJ {nf n m:Nat} {σ:Nat→Nat}:∀ {xs:List (Int×Int)} {last:Int},y9 nf n last xs=0→(∀ x ∈ xs,σ x.2.toNat < m)→y9 nf m last (xs.map (fun y=>(y.1,(σ y.2.toNat:Int))))=0
  | [],_,_,_=>rfl
  | y :: ys,last,h,hm=>by
    unfold y9 at h
    by_cases h1:uy nf n y
    · rw [if_pos h1] at h;cases h
    rw [if_neg h1] at h
    by_cases h2:y.1≤last
    · rw [if_pos h2] at h;cases h
    rw [if_neg h2] at h
    have h3:=hm y (by simp)
    have h4:¬uy nf m (y.1,(σ y.2.toNat:Int)):=by
      unfold uy at h1 ⊢;omega
    rw [List.map_cons];unfold y9;rw [if_neg h4,if_neg h2];exact NJ h (fun x hx=>hm x (List.mem_cons_of_mem _ hx))
theorem gv_img {l:List Ty} {fs:List Ft} {g gt:List Nd} {σ τ:Nat→Nat} (h:GV l fs g) (hp:0 < gt.length) (hle:gt.length≤60)
    (hτ:∀ j,j < gt.length→τ j < g.length∧nd gt j=trN σ (nd g (τ j))∧∀ x ∈ (nd g (τ j)).ln,σ x.2.toNat < gt.length∧(nd gt (σ x.2.toNat)).ty=(nd g x.2.toNat).ty)
    (hR:∀ j,j < gt.length→Rch gt j):(vQ l fs gt).1=0:=by
  have hl:vk l.length fs.length gt=(0,0):=by
    unfold vk;rw [if_neg om];refine gW (fun k _ hk=>?_);have hk':k < gt.length:=by omega
    obtain⟨hτ1,hτ2,hτ3⟩:=hτ k hk';rw [yy hk',yy hτ1] at hτ2;rw [yy hτ1] at hτ3;have hty:=h.gok.ty _ hτ1;have hln:=Y6 h.lo _ hτ1;have e:¬((gt[k]).ty < 0∨(l.length:Int)≤(gt[k]).ty):=by rw [hτ2];simp only [trN];omega
    rw [Qk hk' e,List.drop_zero,hτ2];exact NJ hln (fun x hx=>(hτ3 x hx).1)
  have ht:tyF l fs gt=(0,0):=by
    refine gW (fun k _ hk=>?_);have hk':k < gt.length:=by omega
    obtain⟨hτ1,hτ2,hτ3⟩:=hτ k hk';refine C5 hk' (fun j hj=>?_);have h0:tyN l fs g (τ k)=0:=u4 (by rw [show qZ (tyN l fs g) 0 g.length=tyF l fs g from rfl,h.t]) _ (Nat.zero_le _) om;rw [yy hk',yy hτ1] at hτ2;rw [yy hτ1] at hτ3;have hex:∃ y ∈ (g[τ k]).ln,(gt[k]).ln[j]=(y.1,(σ y.2.toNat:Int)):=by
      have hm:(gt[k]).ln[j] ∈ (trN σ (g[τ k])).ln:=by rw [← hτ2];exact List.getElem_mem hj
      simp only [trN,List.mem_map] at hm;obtain⟨y,hy,e⟩:=hm;exact⟨y,hy,e.symm⟩
    obtain⟨y,hy,ey⟩:=hex;have h1:M1 l fs g (g[τ k]).ty y=false:=by
      simp only [tyN,List.getElem?_eq_getElem hτ1] at h0;cases hb:M1 l fs g (g[τ k]).ty y with
      | false=>rfl
      | true=>rw [if_pos (List.any_eq_true.2 ⟨y,hy,hb⟩)] at h0;cases h0
    have e3:=(hτ3 y hy).2;have e2:(gt[k]).ty=(g[τ k]).ty:=by rw [hτ2];rfl
    rw [ey,e2];unfold M1 at h1 ⊢;have e4:(IV gt ((σ y.2.toNat:Nat):Int)).ty=(IV g y.2).ty:=by
      unfold nd at e3;unfold IV;rw [Int.toNat_natCast];exact e3
    rw [e4];exact h1
  have hu:(-1:Int)=Vv gt:=Mw (.inl ⟨rfl,hR⟩);rw [Jq h.h,X4 (by rw [hl]) ht om]
theorem unr_ex (g:List Nd):∃ r,UnrIs g r:=by
  have h:∀ n:Nat,(∀ i,i < n→Rch g i)∨∃ k,k < n∧¬Rch g k∧∀ i,i < k→Rch g i:=by
    intro n
    induction n with
    | zero=>exact .inl (fun i hi=>absurd hi om)
    | succ n ih=>
      rcases ih with h | ⟨k,h1,h2,h3⟩
      · by_cases hn:Rch g n
        · refine .inl (fun i hi=>?_)
          by_cases e:i=n
          · rw [e];exact hn
          · exact h i om
        · exact .inr ⟨n,by omega,hn,h⟩
      · exact .inr ⟨k,by omega,h2,h3⟩
  rcases h g.length with h | ⟨k,h1,h2,h3⟩
  · exact⟨-1,.inl ⟨rfl,h⟩⟩
  · exact⟨k,.inr ⟨k,rfl,h1,h2,h3⟩⟩
theorem GV.rch {l:List Ty} {fs:List Ft} {g:List Nd} (h:GV l fs g):∀ i,i < g.length→Rch g i:=by
  obtain⟨r,hr⟩:=unr_ex g;have hu:=h.u;rw [← Mw hr] at hu;rcases hr with ⟨_,h3⟩ | ⟨k,h3,_⟩
  · exact h3
  · exact absurd (show 0≤r by omega) hu
structure Turn (g gt:List Nd) (σ ρ:Nat→Nat):Prop where
  len:gt.length=g.length
  z:σ 0=0
  lt:∀ i,i < g.length→σ i < g.length
  rl:∀ j,j < g.length→ρ j < g.length∧σ (ρ j)=j
  lr:∀ i,i < g.length→ρ (σ i)=i
  nd:∀ i,i < g.length→nd gt (σ i)=trN σ (nd g i)
section turn
variable {g gt:List Nd} {σ ρ:Nat→Nat}
theorem Turn.inj (t:Turn g gt σ ρ) {x y:Nat} (hx:x < g.length) (hy:y < g.length) (h:σ x=σ y):x=y:=by rw [← t.lr x hx,← t.lr y hy,h]
theorem Turn.succ (t:Turn g gt σ ρ) {i:Nat} (hi:i < g.length):vz gt (σ i)=(vz g i).map σ:=by
  unfold vz;rw [t.nd i hi];simp [trN]
theorem Turn.dl (t:Turn g gt σ ρ) (hr:∀ i,i < g.length→∀ y ∈ vz g i,y < g.length) {is a b:List Nat} (h:DL g is a b):(∀ i ∈ is,i < g.length)→(∀ x ∈ b,x < g.length)→DL gt (is.map σ) (a.map σ) (b.map σ):=by
  induction h with
  | nil=>exact fun _ _=> .nil
  | old h _ ih=>exact fun hi hb=> .old (List.mem_map_of_mem h) (ih (fun i h=>hi i (List.mem_cons_of_mem _ h)) hb)
  | new h s u ihs iht=>
    intro hi hb
    rename_i i is o o1 o'
    have hil:=hi i (List.mem_cons_self ..);have ho1:∀ x ∈ o1,x < g.length:=fun x hx=>hb x (u.sub _ hx)
    refine .new (fun hm=>?_) ?_ (iht (fun i h=>hi i (List.mem_cons_of_mem _ h)) hb)
    · obtain⟨y,hy,e⟩:=List.mem_map.1 hm
      have hyl:=ho1 y (s.sub _ (List.mem_append_left _ hy));exact h (t.inj hyl hil e ▸ hy)
    · have:=ihs (hr i hil) ho1
      rw [List.map_append] at this;rw [t.succ hil];exact this
theorem Turn.rch (t:Turn g gt σ ρ) (hr:∀ i,i < g.length→∀ y ∈ vz g i,y < g.length) (hp:0 < g.length) {i:Nat} (h:Rch g i):i < g.length∧Rch gt (σ i):=by
  induction h with
  | zero=>exact⟨hp,by rw [t.z];exact .zero⟩
  | step h hi hx ih=>
    rename_i i x
    refine⟨hr i hi _ (by simp only [vz,yy hi,List.mem_map];exact⟨x,hx,rfl⟩),?_⟩;have hlt:σ i < gt.length:=by rw [t.len];exact t.lt i hi
    have e:=t.nd i hi;rw [yy hlt,yy hi] at e;have:=Rch.step (x:=(x.1,((σ x.2.toNat:Nat):Int))) ih.2 hlt (by rw [e];exact List.mem_map.2 ⟨x,hx,rfl⟩)
    simpa using this
theorem Lk {g:List Nd} {σ:Nat→Nat} {x:Nat} (hx:x < g.length) (inj:∀ y,y < g.length→σ y=σ x→y=x):∀ {o:List Nat},(∀ y ∈ o,y < g.length)→(o.map σ).idxOf (σ x)=o.idxOf x
  | [],_=>rfl
  | y :: o,h=>by
    rw [List.map_cons,List.idxOf_cons,List.idxOf_cons,Lk hx inj (fun z hz=>h z (List.mem_cons_of_mem _ hz))]
    by_cases e:y=x
    · subst e;simp
    · have e2:¬σ y=σ x:=fun h2=>e (inj y (h y (List.mem_cons_self ..)) h2)
      have b1:(y == x)=false:=by simp [e]
      have b2:(σ y == σ x)=false:=by simp [e2]
      rw [b1,b2]
theorem Turn.num (t:Turn g gt σ ρ) {x:Nat} (hx:x < g.length) {o:List Nat} (ho:∀ y ∈ o,y < g.length):uW (o.map σ) (σ x)=uW o x:=by
  unfold uW
  have e:σ x ∈ o.map σ ↔ x ∈ o:=⟨fun h=>by
    obtain⟨y,hy,e⟩:=List.mem_map.1 h
    exact t.inj (ho y hy) hx e ▸ hy,fun h=>List.mem_map_of_mem h⟩
  by_cases h:x ∈ o
  · rw [if_pos (e.2 h),if_pos h,Lk hx (fun y hy h=>t.inj hy hx h) ho]
  · rw [if_neg (fun k=>h (e.1 k)),if_neg h]
theorem Turn.can (t:Turn g gt σ ρ) (hr:∀ i,i < g.length→∀ y ∈ vz g i,y < g.length) {o:List Nat} (ho:∀ y ∈ o,y < g.length):yk gt (o.map σ)=yk g o:=by
  unfold yk;rw [List.map_map];refine List.map_congr_left (fun x hx=>?_);have hxl:=ho x hx;simp only [Function.comp];unfold PZ;rw [t.nd x hxl];refine YZ rfl ?_;simp only [trN,List.map_map];refine List.map_congr_left (fun y hy=>?_);have hyl:=hr x hxl y.2.toNat (by simp only [vz,List.mem_map];exact⟨y,hy,rfl⟩);simp only [Function.comp,KV,Int.toNat_natCast];rw [t.num hyl ho]
end turn
theorem SZ {m i:Nat} {f h:Nat→Value} {a b:Value}:Cq (kV m f h) (0 + i * 2) [a,b]=kV m (fun j=>if j=i then a else f j) (fun j=>if j=i then b else h j):=by
  show ((kV m f h).setIfInBounds (0 + i * 2 + 0) a).setIfInBounds (0 + i * 2 + 1) b=_;rw [Dz,D9]
end Go.Proofs.YtdgnllfbooklcaaDoor
