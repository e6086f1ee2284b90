/- What these functions of the program compute, at every world: slices.Clone[[]int,int], glosswright/glosswrightref3.visit. What these functions of the program compute, at every world: glosswright/glosswrightref3.From. What these functions of the program compute, at every world: glosswright/glosswrightref3.Canon. What these functions of the program compute, at every world: . Targets of links, walks along paths, what At answers. No program in sight. The engine's sixth part: copy, zeros appended to a slice, functions that the model has itself, a drawn region in which an operation changes what another one has made. Bytes of strings; sums of strings: rules for them. No program in sight. Strings cut at places and at bytes. No program in sight. Rules: a range over a string; scopes; numbers of a few bits. No program in sight. -/
import Derived.Test.YtbcpgfnfiekbiaaGreatDoorU
import Derived.Test.YtbcpgfnfiekbiaaGreatDoorTrm
import Derived.Test.YtbcpgfnfiekbiaaGreatDoorGNodes
import Derived.Test.YtbcpgfnfiekbiaaGreatDoorEng4
import Derived.Laws.CopyRow
import Derived.Laws.Externs
import Derived.Lib.Overlaps
import Derived.Lib.Builder
import Derived.Lib.AppendStr
import Derived.Lib.UnsafeStr
import Derived.Lib.Bytealg
import Derived.Laws.RangeAny
import Derived.Scope
namespace Go.Proofs.YtbcpgfnfiekbiaaGreatDoor
open Go.RowKit
theorem fn102:zZ Tryz.prog 102=true:=by kernel_rfl
theorem fn98:zZ Tryz.prog 98=true:=by kernel_rfl
theorem clone_any (A:Option Addr) (c bn bd:Nat) (o:List Nat) (w:World) (hO:OrdF w bn bd A o) (hl:o.length≤1000000):Calls Tryz.prog 98 #[.slice A o.length c] w fun e w'=>(∃ A' cap',e= .returned (.slice A' o.length cap')∧Own w' w.heap.size 3 1 A' o.length cap' (oV o))∧Bel w w':=by
 refine enT Tryz.func98 Tryz.ntmps98 rfl rfl fun hB=>?_;refine zn9 ?_;refine wl (O5 U66 rfl rfl) (zw (e_S ?_));refine vw rfl (fun c4=>?_) (fun c4=>?_)
 ·have hn:o= []:=by
    rcases hO with h | ⟨_,b,h,_⟩
    · exact h.1
    · rw [h] at c4;cases c4
  subst hn;refine zn8 ?_;exact⟨⟨none,0,rfl,Own.nil _ _ _ _⟩,hB⟩
 obtain⟨hne,b,rfl,hbn,hbd,hbl,hc⟩:o≠[]∧∃ b,A=some ⟨b,0,none⟩∧b≠bn∧b < bd∧b < w.heap.size∧∀ k (hk:k < o.length),w.cell? ⟨b,0 + k,none⟩=some (.int .i64 (o[k]:Nat)):=by
   rcases hO with h | h
   · rw [h.2] at c4;cases c4
   · exact h
 have hpos:=List.length_pos_iff.2 hne;refine zn4 ?_;refine Wk U66 qX (fun b5 w1 hb5 s1 hr=>?_);have lo5:=nLT (Bel.size hB) hr;refine wmS rfl ?_;have hown:=VW (sz:=1) (m:=0) hb5 (Nat.le_refl b5) rfl dE;replace hB:=hB.tr0 s1;refine Gw (b:=b) (o':=0) (news:=oV o) U66 in3 rfl dE hown rfl rfl (fun j u hj=>?_) (by simp [oV]) (by simp [oV,List.all_eq_true];intros;rfl) hpos om om (Nat.le_of_lt hb5.lt) (fun g7 cap7 w9 ho7 s2 hg=>?_)
 · simp only [oV,List.getElem?_map,Option.map_eq_some_iff] at hj
   obtain⟨x,hx,rfl⟩:=hj;obtain⟨hk,rfl⟩:=List.getElem?_eq_some_iff.1 hx;exact hB.cell hbl (hc j hk)
 have hB9:Bel w w9:=hB.tr s2 (fun g hg=>by cases List.mem_singleton.1 hg;exact lo5);refine zn5 ?_;refine⟨⟨some ⟨g7,0,none⟩,cap7,?_,?_⟩,hB9⟩
 · show Ending.returned (.slice _ (0 + o.length) _)=_
   rw [Nat.zero_add]
 · have h:=ho7.low lo5
   rw [Nat.zero_add] at h;exact h
set_option maxHeartbeats 2000000 in
theorem MV {w0:World} {G:Option Addr} {cg nf bn:Nat} {gr:List Nd} (hG:NodesIn w0 G gr) (hk:P6 nf gr) (l0n:w0.heap.size≤bn) {o:List Nat} {A:Option Addr} {cap:Nat} {w:World} (hB:Bel w0 w) (hok:OOk gr.length o) (hbn:Blk w bn 3 (row gr.length (fun x=> .int .i64 (kj o x)))) (hO:OrdF w bn w.heap.size A o) {i:Nat} (hin:i < gr.length) (IH:∀ (t:Nat) (o2:List Nat) (A2:Option Addr) (cap2:Nat) (w2:World),jy gr.length (ZZ o2) < jy gr.length (ZZ o)→t < gr.length→Bel w0 w2→OOk gr.length o2→Blk w2 bn 3 (row gr.length (fun x=> .int .i64 (kj o2 x)))→OrdF w2 bn w2.heap.size A2 o2→Calls Tryz.prog 102 #[.agg #[.slice G gr.length cg],.int .i64 (t:Nat),.slice (some ⟨bn,0,none⟩) gr.length gr.length,.slice A2 (o2).length cap2] w2 fun e w'=>∃ o' A' cap',DL gr [t] o2 o'∧e= .returned (.slice A' o'.length cap')∧Blk w' bn 3 (row gr.length (fun x=> .int .i64 (kj o' x)))∧OrdF w' bn w'.heap.size A' o'∧Same [bn] w2 w'):Calls Tryz.prog 102 #[.agg #[.slice G gr.length cg],.int .i64 (i:Nat),.slice (some ⟨bn,0,none⟩) gr.length gr.length,.slice A (o).length cap] w fun e w'=>∃ o' A' cap',DL gr [i] o o'∧e= .returned (.slice A' o'.length cap')∧Blk w' bn 3 (row gr.length (fun x=> .int .i64 (kj o' x)))∧OrdF w' bn w'.heap.size A' o'∧Same [bn] w w':=by
 have hSm:Same [bn] w w∧w.heap.size≤w.heap.size:=⟨Same.refl _ _,Nat.le_refl _⟩
 obtain⟨bd,hbde⟩:∃ b,b=w.heap.size:=⟨_,rfl⟩
 rw [← hbde] at hO;have hbd:bd≤w.heap.size:=Nat.le_of_eq hbde;have hn6:=hk.le;have hrg:=VK hk;have hol:=hok.cnt;have hnl:=hbn.lt;refine enter Tryz.func102 Tryz.ntmps102 rfl (Nat.le_of_ble_eq_true rfl) (zn2 ?_);refine qK (v:= .agg #[_]) (cs:=#[_]) rfl rfl (fun b4 w1 hb4 t1 hr=>?_);have:=nLL hbn.lt hr;have or_hSm_b4:=(nLT hSm.2 hr)
 have or_hbd_b4:=(nLT hbd hr)
 replace hO:=hO.tr t1 (by simp);replace hSm:=And.intro (hSm.1.freshL t1 (by simp)) (nLT hSm.2 (Same.size t1));replace hbd:=nLT hbd (Same.size t1);refine zn8 ?_;refine wl (xw (i:=i) U66 qX rfl rfl hin rfl) ?_;replace hbn:=hbn.tr0 t1;refine wl (qZ (v:= .int _ _) U3 rfl rfl (hbn.cell (yY hin))) (zn3 ?_);refine zy rfl (fun c15=>?_) (fun c15=>?_)
 ·refine zn9 ?_;exact⟨o,A,cap,.old (RY c15) .nil,rfl,hbn,hO.up hbd,hSm.1⟩
 have hni:=F4 c15;have hok2:=hok.snoc hin hni;have hol2:=hok2.cnt;refine zn8 ?_;refine wl (xw (i:=i) U66 qX rfl rfl hin rfl) ?_;refine x9 (v:= .int _ _) hbn rfl rfl qX (by rw [row_size];omega) rfl jV (fun w2 hq t2=>?_);replace hB:=hB.u.tr1 t2 l0n;replace hO:=hO.tr t2 (fun g hg=>by have h1:=List.mem_singleton.1 hg;omega);replace hSm:=And.intro (hSm.1.freshL t2 (fun g hg=>by have h1:=List.mem_singleton.1 hg;first | (left;rw [h1];simp;done) | (right;omega))) (nLT hSm.2 (Same.size t2));replace hbd:=nLT hbd (Same.size t2);replace hbn:=hq;rw [row_num hni] at hbn;refine zn3 ?_;obtain⟨bq,hbq⟩:∃ b,b=w2.heap.size:=⟨_,rfl⟩
 have hqz:bq≤w2.heap.size:=Nat.le_of_eq hbq;replace hb4:=hb4.tr1 t2 om;have lq4:b4 < bq:=by rw [hbq];exact hb4.lt
 have lqn:bn < bq:=by rw [hbq];exact hbn.lt
 have hbd0:bd≤bq:=by rw [hbq];exact hbd
 have hSz:w.heap.size≤bq:=by rw [hbq];exact hSm.2
 have hB0:w0.heap.size≤bq:=by rw [hbq];exact Bel.size hB
 refine zn2 ?_;refine zJ fn98 (clone_any _ _ _ _ o _ hO om) rfl (fun e' w3 hr=>?_);obtain⟨⟨AC,capC,rfl,hoC⟩,t3⟩:=hr;replace t3:=sB t3;replace hO:=hO.tr t3 (by simp);replace hSm:=And.intro (hSm.1.freshL t3 (by simp)) (nLT hSm.2 (Same.size t3));replace hbd:=nLT hbd (Same.size t3);replace hqz:=nLT hqz (Same.size t3);rw [← hbq] at hoC;refine⟨_,rfl,?_⟩;refine wmI rfl ?_;refine qv (cs:=#[_]) [(0,.int _ _)] rfl U66 qX uJ dE dE kR rfl (fun b25 w4 hb25 t4 hr=>?_);replace hbn:=hbn.tr0 t3;have:=nLL hbn.lt hr;have or_hSm_b25:=(nLT hSm.2 hr)
 have or_hbd_b25:=(nLT hbd hr)
 have:=nLL hb4.u.lt hr;have or_hoC_b25:=fun g hg=>nLL (hoC.lt g hg).2 hr
 replace hO:=hO.tr t4 (by simp);replace hSm:=And.intro (hSm.1.freshL t4 (by simp)) (nLT hSm.2 (Same.size t4));replace hbd:=nLT hbd (Same.size t4);replace hqz:=nLT hqz (Same.size t4);replace hoC:=hoC.tr0 t4;refine vW U66 in3 rfl dE hoC hb25 rfl rfl rfl zX dE om om hqz (fun g26 cap26 w5 ho26 t5 hg=>?_);replace hbn:=hbn.tr0 t4;have ne_ho26_bn:g26≠bn:=neA hoC hbn.lt hg
 have ne_ho26_b4:g26≠b4:=neA hoC hb4.u.lt hg
 replace hB:=hB.u.tr t5 (fun g hg=>nLT hB0 (hoC.lt g hg).1);replace hbn:=hbn.ta t5 hoC;replace hSm:=And.intro (hSm.1.freshL t5 (fun g hg=> .inr (by have:=((hoC).lt g hg).1;omega))) (nLT hSm.2 (Same.size t5));replace hb4:=hb4.tr0 (t3.trans t4);replace hb4:=hb4.ta t5 hoC;have hO2:=ord_own ho26 lqn;obtain⟨be,hbe⟩:∃ b,b=w5.heap.size:=⟨_,rfl⟩
 rw [← hbe] at hO2;have hbe2:be≤w5.heap.size:=Nat.le_of_eq hbe;refine zn5 ?_;obtain⟨nb,no,LA,lc,rfl,hnb,hnr,hln⟩:=hG.at_ hB hin;have hmx:=hln.1;unfold vQ at hmx;refine zn4 ?_;refine wl (xw (i:=i) U28 uY rfl rfl hin rfl) (zn1 ?_);refine wl (qZ (v:= .slice _ _ _) Q4 rfl rfl (hnr 1 _ rfl)) (zn5 ?_);refine zK (rg [3,10] 34 11) (fun m g w'=>∃ (j:Nat) (o2:List Nat) (A2:Option Addr) (cap2:Nat),j≤(gr[i]'hin).ln.length∧m=(gr[i]'hin).ln.length - j∧g 34= .int .i64 j∧g 3= .slice A2 o2.length cap2∧DL gr ((yy gr i).take j) (o ++ [i]) o2∧Bel w0 w'∧Blk w' b4 30 #[.slice (some ⟨nb,no,none⟩) gr.length cg]∧Blk w' bn 3 (row gr.length (fun x=> .int .i64 (kj o2 x)))∧OrdF w' bn w'.heap.size A2 o2∧(Same [bn] w w'∧w.heap.size≤w'.heap.size)) ((gr[i]'hin).ln.length) ?_ (fun m g6 w6 hI=>?_)
 ·exact⟨0,_,_,_,Nat.zero_le _,rfl,rfl,sl_oV _ _ _ _,.nil,hB,hb4,hbn,hO2.up hbe2,hSm⟩
 obtain⟨j,o2,A2,cap2,hj,hm,h34,h3,hD,hB,hb4,hbn,hO,hSm⟩:=hI;obtain⟨bd,hbde⟩:∃ b,b=w6.heap.size:=⟨_,rfl⟩
 rw [← hbde] at hO;have hbd:bd≤w6.heap.size:=Nat.le_of_eq hbde;have hnl:=hbn.lt;refine zQ 34 _ h34 nu (zQ 3 _ h3 nu (zn6 ?_));refine zy rfl (fun c35=>?_) (fun c35=>?_)
 ·have hjl:j < (gr[i]'hin).ln.length:=by omega
  obtain⟨lb,lof,rfl,hlb,hlr⟩:=hln.at_ hB hjl;obtain⟨t,ht,htl⟩:∃ t:Nat,((gr[i]'hin).ln[j]'hjl).2=(t:Int)∧t < gr.length:=by
    have h1:=hk.ln i hin _ (List.getElem_mem hjl);exact⟨(((gr[i]'hin).ln[j]'hjl).2).toNat,by omega,by omega⟩
  obtain⟨hok3,s3,hs3⟩:=hD.ok hrg (fun x hx=>hrg i hin x (List.mem_of_mem_take hx)) hok2;have hlk:jy gr.length (ZZ o2) < jy gr.length (ZZ o):=by
    rw [hs3];exact Nat.lt_of_le_of_lt (DQ _ _ _) (J1 hin hni)
  refine zn7 ?_;refine wl (zV Q6 rfl rfl hlr u9) ?_;refine zY (cs:=#[.int .i64 0,.int .i64 0]) Y8 rfl (fun b10 w7 hb10 t6 hr=>?_);have:=nLL hbn.lt hr;have or_hSm_b10:=(nLT hSm.2 hr)
  have:=nLL hb4.lt hr;have or_hbd_b10:=(nLT hbd hr)
  have lo10:=nLT (Bel.size hB) hr;replace hSm:=And.intro (hSm.1.freshL t6 (by simp)) (nLT hSm.2 (Same.size t6));replace hO:=hO.tr t6 (by simp);replace hbd:=nLT hbd (Same.size t6);refine zj hb10 rfl rfl u9 rfl zX (fun w8 hq t7=>?_);replace hSm:=And.intro (hSm.1.freshL t7 (fun g hg=>by have h1:=List.mem_singleton.1 hg;first | (left;rw [h1];simp;done) | (right;omega))) (nLT hSm.2 (Same.size t7));replace hO:=hO.tr t7 (fun g hg=>by have h1:=List.mem_singleton.1 hg;omega);replace hbd:=nLT hbd (Same.size t7);replace hb10:=hq;refine zw (e_S ?_);rw [ht] at hb10;refine zn6 ?_;replace hb4:=(hb4.tr0 t6).tr1 t7 om;have lb4:=hb4.lt;have hO4:=hO.up hbd;replace hbn:=(hbn.tr0 t6).tr1 t7 om;have or_b4:b4≠bn:=fun e=>absurd (jQ (e ▸ hb4) hbn) dE
  refine zJ fn102 (IH t o2 A2 cap2 _ hlk htl hB.u hok3 hbn hO4) rfl (fun e' w9 hr=>?_);obtain⟨o3,A3,cap3,hD3,rfl,hbn3,hO3,hS3⟩:=hr;replace hB:=(hB.tr0 t6).tr1 t7 lo10;replace hB:=hB.tr hS3 (by simpa using l0n);replace hb4:=hb4.tr hS3 (by simpa using or_b4);replace hbn:=hbn3;replace hO:=hO3;replace hSm:=And.intro (hSm.1.trans hS3) (nLT hSm.2 hS3.size);refine⟨_,rfl,?_⟩;refine zn8 ?_;refine qV ((gr[i]'hin).ln.length - (j + 1)) om agA ?_;exact⟨j + 1,o3,A3,cap3,by omega,rfl,rfl,rfl,by rw [EZ hin hjl ht];exact hD.append hD3,hB,hb4,hbn,hO,hSm⟩
 have hjx:j=(gr[i]'hin).ln.length:=by omega
 have hfin:DL gr (yy gr i) (o ++ [i]) o2:=by
   have e:(yy gr i).take j=yy gr i:=List.take_of_length_le (by simp [yy,j8 hin,hjx]);rw [e] at hD;exact hD
 refine kJ ?_;exact⟨o2,A2,cap2,.new hni hfin .nil,rfl,hbn,hO.up hbd,hSm.1⟩
theorem Ww {w0:World} {G:Option Addr} {cg nf bn:Nat} {gr:List Nd} (hG:NodesIn w0 G gr) (hk:P6 nf gr) (l0n:w0.heap.size≤bn):∀ (m:Nat) (o:List Nat) (A:Option Addr) (cap:Nat) (w:World) (i:Nat),jy gr.length (ZZ o)≤m→i < gr.length→Bel w0 w→OOk gr.length o→Blk w bn 3 (row gr.length (fun x=> .int .i64 (kj o x)))→OrdF w bn w.heap.size A o→Calls Tryz.prog 102 #[.agg #[.slice G gr.length cg],.int .i64 (i:Nat),.slice (some ⟨bn,0,none⟩) gr.length gr.length,.slice A (o).length cap] w fun e w'=>∃ o' A' cap',DL gr [i] o o'∧e= .returned (.slice A' o'.length cap')∧Blk w' bn 3 (row gr.length (fun x=> .int .i64 (kj o' x)))∧OrdF w' bn w'.heap.size A' o'∧Same [bn] w w':=by
  intro m
  induction m with
  | zero=>intro o A cap w i hm hin hB hok h1 h2;exact MV hG hk l0n hB hok h1 h2 hin (fun t o2 A2 cap2 w2 hl=>by omega)
  | succ m ih=>intro o A cap w i hm hin hB hok h1 h2;exact MV hG hk l0n hB hok h1 h2 hin (fun t o2 A2 cap2 w2 hl=>ih o2 A2 cap2 w2 t om)
end Go.Proofs.YtbcpgfnfiekbiaaGreatDoor
namespace Go.Proofs.YtbcpgfnfiekbiaaGreatDoor
open Go.RowKit
set_option maxHeartbeats 4000000 in
theorem HQ (G:Option Addr) (cg nf:Nat) (gr:List Nd) (r:Nat) (w:World) (hG:NodesIn w G gr) (hk:P6 nf gr) (hnf:nf≤1000) (hr:r < gr.length):Calls Tryz.prog 69 #[.agg #[.slice G gr.length cg],.int .i64 r] w fun e w'=>(∃ o A c,DL gr [r] [] o∧OOk gr.length o∧e= .returned (.agg #[.slice A o.length c])∧GrT w' w.heap.size w'.heap.size A c (jK gr o) (fun x=>(nd (jK gr o) x).ty))∧Bel w w':=by
 have hn6:=hk.le;have hrg:=VK hk;refine enT Tryz.func69 Tryz.ntmps69 rfl rfl fun hB=>?_;refine zn2 ?_;refine qK (v:= .agg #[_]) (cs:=#[_]) rfl rfl (fun b2 w1 hb2 t1 hr=>?_);clear hr;refine zY (cs:=#[.slice none 0 0]) ze30 rfl (fun b4 w2 hb4 t2 hr=>?_);have:=nLL hb2.lt hr;have lo4:=nLT (Bel.size hB.u) hr;clear hr;refine zn7 ?_;refine Xj (m:=gr.length) U66 in3 rfl rfl rfl om om (fun b17 w3 hb17 t3 hr=>?_);have:=nLL hb2.u.lt hr;have:=nLL hb4.lt hr;have lo17:=nLT (Bel.size hB.u) hr;clear hr;refine y8 ?_;refine zK (rg [6] 20 7) (fun m g w'=>∃ k:Nat,k≤gr.length∧m=gr.length - k∧g 20= .int .i64 k∧Bel w w'∧Blk w' b2 30 #[.slice G gr.length cg]∧Blk w' b4 30 #[.slice none 0 0]∧Blk w' b17 3 (row gr.length (fun x=> .int .i64 (if x < k then -1 else 0)))) (gr.length) ?_ (fun m g3 w4 hI=>?_)
 ·refine⟨0,Nat.zero_le _,rfl,rfl,hB.u,hb2.u,hb4.u,?_⟩;rw [xQ (g':=fun _=> .int .i64 0) (fun x _=>by simp)];exact hb17
 obtain⟨k,hkk,hm,h20,hB,hb2,hb4,hb17⟩:=hI;refine zQ 20 _ h20 nu (zn6 ?_);refine zy rfl (fun c21=>?_) (fun c21=>?_)
 ·have hlt:k < gr.length:=by omega
  refine gV ?_;refine x9 (v:= .int _ _) hb17 rfl rfl qX (by rw [row_size];omega) rfl jV (fun w5 hq t4=>?_);replace hb17:=hq
  rw [xQ (g':=fun x=> .int .i64 (if x < k + 1 then -1 else 0)) (fun x _=>by
    by_cases e:x=k
    · subst e;simp
    · have e1:(x < k + 1) ↔ (x < k):=by omega
      simp [e,e1])] at hb17
  refine zn7 ?_;refine qV (gr.length - (k + 1)) om agA ?_;exact⟨k + 1,by omega,rfl,rfl,hB.u,hb2.u,hb4.u,hb17⟩
 have hke:k=gr.length:=by omega
 rw [hke,xQ (g':=fun x=> .int .i64 (kj [] x)) (fun x hx=>by simp [hx,F0])] at hb17;refine IK ?_;have ne2:b2≠b17:=by omega
 have ne4:b4≠b17:=by omega
 refine zJ fn102 (Ww (w0:=w) (G:=G) (cg:=cg) (bn:=b17) hG hk lo17 gr.length [] none 0 _ r (NW _ _) hr hB (OOk.nil _) hb17 (OrdF.nil _ _ _)) rfl (fun e' w6 hr=>?_);obtain⟨o,AO,capO,hD,rfl,hb17n,hO,hS3⟩:=hr;replace hB:=hB.tr hS3 (by simpa using lo17);replace hb2:=hb2.tr hS3 (by simpa using ne2);replace hb4:=hb4.tr hS3 (by simpa using ne4);replace hb17:=hb17n;obtain⟨hok,_,_⟩:=hD.ok hrg (fun i hi=>by rw [List.mem_singleton.1 hi];exact hr) (OOk.nil _);have hol:=hok.cnt;obtain⟨bd,hbde⟩:∃ b,b=w6.heap.size:=⟨_,rfl⟩
 rw [← hbde] at hO;have hbd:bd≤w6.heap.size:=Nat.le_of_eq hbde;refine⟨_,rfl,?_⟩;refine zn5 ?_;refine zY (cs:=#[.slice none 0 0]) ze30 rfl (fun b8 w7 hb8 t5 hr=>?_);have:=nLL hb2.lt hr;have:=nLL hb4.lt hr;have:=nLL hb17.lt hr;have or_hbd_b8:=(nLT hbd hr)
 have lo8:=nLT (Bel.size hB) hr;replace hO:=hO.tr t5 (by simp);replace hbd:=nLT hbd (Same.size t5);clear hr;refine zn4 ?_;replace hO:=hO.up or_hbd_b8;have hlo8:w.heap.size≤b8 + 1:=Nat.le_succ_of_le lo8;refine zn7 ?_;refine zK (rg [10,11,13] 34 43) (fun m g w'=>∃ (k:Nat) (AN:Option Addr) (capN:Nat) (V:Nat→Value),k≤o.length∧m=o.length - k∧g 34= .int .i64 k∧Bel w w'∧Blk w' b2 30 #[.slice G gr.length cg]∧Blk w' b4 30 #[.slice none 0 0]∧Blk w' b17 3 (row gr.length (fun x=> .int .i64 (kj o x)))∧Blk w' b8 30 #[.slice AN k capN]∧OrdF w' b17 b8 AO o∧Own w' (b8 + 1) 113 2 AN k capN (ndV (fun x=> .int .i64 (nd gr (o.getD x 0)).ty) V k)∧(∀ x,x < k→RowO w' w.heap.size w'.heap.size (V x) ((nd gr (o.getD x 0)).ln.map (QX o)))) (o.length) ?_ (fun m g11 w8 hI=>?_)
 ·exact⟨0,none,0,fun _=> .slice none 0 0,Nat.zero_le _,rfl,rfl,hB.u,hb2.u,hb4.u,hb17.u,hb8,hO,Own.nil _ _ _ _,fun x hx=>by omega⟩
 obtain⟨k,AN,capN,V,hkk,hm,h34,hB,hb2,hb4,hb17,hb8,hO,hoN,hrows⟩:=hI;obtain⟨bs,hbsz⟩:∃ b,b=w8.heap.size:=⟨_,rfl⟩
 rw [← hbsz] at hrows;have hbz:bs≤w8.heap.size:=Nat.le_of_eq hbsz;have lu8:b8 < bs:=by rw [hbsz];exact hb8.lt
 have luN:∀ g ∈ aL AN,g < bs:=fun g hg=>by rw [hbsz];exact(hoN.lt g hg).2
 refine zQ 34 _ h34 nu (zn6 ?_);refine zy rfl (fun c35=>?_) (fun c35=>?_)
 ·have hlt:k < o.length:=by omega
  obtain⟨i,hoi,hin⟩:∃ i:Nat,o[k]'hlt=i∧i < gr.length:=⟨_,rfl,hok.lt _ (List.getElem_mem hlt)⟩
  have hgd:o.getD k 0=i:=by simp [List.getD,hlt,hoi]
  have hnd:=j8 hin;obtain⟨q,rfl,hqn,hqd,hql,hqc⟩:∃ q,AO=some ⟨q,0,none⟩∧q≠b17∧q < b8∧q < w8.heap.size∧∀ k (hk:k < o.length),w8.cell? ⟨q,0 + k,none⟩=some (.int .i64 (o[k]:Nat)):=by
    rcases hO with h | ⟨_,h⟩
    · rw [h.1] at hlt;simp at hlt
    · exact h
  have hz:w8.cell? ⟨q,0 + k * 1,none⟩=some (.int .i64 (i:Int)):=by
    have:=hqc k hlt;rw [hoi] at this
    simpa using this
  obtain⟨nb,no,LA,lc,rfl,hnb,hnr,hln⟩:=hG.at_ (Below.refl _ _:Bel w w) hin;have hmx:=hln.1;unfold vQ at hmx;have hfw:=hk.few i hin;refine zn7 ?_;refine wl (qZ (v:= .int _ _) U3 rfl rfl hz) (zn8 ?_);refine wl (xw (i:=i) U28 uY rfl rfl hin rfl) (zn1 ?_);refine wl (qZ (v:= .int _ _) U3 rfl rfl (hB.cell hnb (hnr 0 _ rfl))) (wl (V8 (v0:= .int _ _) (fun v0=>#[v0,.slice none 0 0]) rfl kR) ?_);refine zY (cs:=#[.int .i64 0,.slice none 0 0]) E4 rfl (fun b11 w9 hb11 t6 hr=>?_);have:=nLL hb2.lt hr;have:=nLL hb4.lt hr;have:=nLL hb17.lt hr;have:=nLL hb8.lt hr;have or_hoN_b11:=fun g hg=>nLL (hoN.lt g hg).2 hr
  have or_hbz_b11:=(nLT hbz hr)
  have lo11:=nLT (Bel.size hB) hr;replace hO:=hO.tr t6 (by simp);replace hrows:=fun x hx=>(hrows x hx).tr t6 (by simp)
  replace hbz:=nLT hbz (Same.size t6);clear hr;refine zj hb11 rfl rfl uY rfl zX (fun w10 hq t7=>?_);replace hO:=hO.tr t7 (fun g hg=>by have h1:=List.mem_singleton.1 hg;omega);replace hoN:=hoN.tr0 t6;replace hoN:=hoN.tr1 t7 (neL or_hoN_b11);replace hrows:=fun x hx=>(hrows x hx).tr t7 (fun g hg=>by rw [List.mem_singleton.1 hg];first | exact .inr ⟨_,_,hb11,by decide⟩ | exact .inl om)
  replace hbz:=nLT hbz (Same.size t7);replace hb11:=hq;refine zn4 ?_;have lb11:bs≤b11:=or_hbz_b11;have hlb5:w.heap.size≤b11 + 1:=Nat.le_succ_of_le lo11;refine zn4 ?_;refine wl (xw (i:=i) U28 uY rfl rfl hin rfl) (zn1 ?_);refine wl (qZ (v:= .slice _ _ _) Q4 rfl rfl (hB.u.cell hnb (hnr 1 _ rfl))) (zn5 ?_);refine zK (rg [13] 52 18) (fun m g w'=>∃ (j:Nat) (A5:Option Addr) (cap5:Nat),j≤(gr[i]'hin).ln.length∧m=(gr[i]'hin).ln.length - j∧g 52= .int .i64 j∧Bel w w'∧Blk w' b2 30 #[.slice (some ⟨nb,no,none⟩) gr.length cg]∧Blk w' b4 30 #[.slice none 0 0]∧Blk w' b17 3 (row gr.length (fun x=> .int .i64 (kj o x)))∧Blk w' b8 30 #[.slice AN k capN]∧Blk w' b11 113 #[.int .i64 (gr[i]'hin).ty,.slice A5 j cap5]∧OrdF w' b17 b8 (some ⟨q,0,none⟩) o∧Own w' (b8 + 1) 113 2 AN k capN (ndV (fun x=> .int .i64 (nd gr (o.getD x 0)).ty) V k)∧(∀ x,x < k→RowO w' w.heap.size bs (V x) ((nd gr (o.getD x 0)).ln.map (QX o)))∧bs≤w'.heap.size∧Own w' (b11 + 1) 115 2 A5 j cap5 (lnV (((gr[i]'hin).ln.take j).map (QX o)))) ((gr[i]'hin).ln.length) ?_ (fun m g15 w11 hI=>?_)
  ·exact⟨0,none,0,Nat.zero_le _,rfl,rfl,hB.u,hb2.u,hb4.u,hb17.u,hb8.u,hb11,hO,hoN,hrows,hbz,Own.nil _ _ _ _⟩
  obtain⟨j,A5,cap5,hj,hmj,h52,hB,hb2,hb4,hb17,hb8,hb11,hO,hoN,hrows,hbz,ho5⟩:=hI;refine zQ 52 _ h52 nu (zn6 ?_);refine zy rfl (fun c53=>?_) (fun c53=>?_)
  ·have hjl:j < (gr[i]'hin).ln.length:=by omega
   obtain⟨lb,lof,rfl,hlb,hlr⟩:=hln.at_ hB hjl;obtain⟨t,ht,htl⟩:∃ t:Nat,((gr[i]'hin).ln[j]'hjl).2=(t:Int)∧t < gr.length:=by
     have h1:=hk.ln i hin _ (List.getElem_mem hjl);exact⟨(((gr[i]'hin).ln[j]'hjl).2).toNat,by omega,by omega⟩
   refine zn7 ?_;refine wl (zV Q6 rfl rfl hlr u9) ?_;refine zY (cs:=#[.int .i64 0,.int .i64 0]) Y8 rfl (fun b13 w12 hb13 t8 hr=>?_);have:=nLL hb2.lt hr;have:=nLL hb4.lt hr;have:=nLL hb17.lt hr;have:=nLL hb8.lt hr;have or_hbz_b13:=(nLT hbz hr)
   have:=nLL hb11.lt hr;have or_hoN_b13:=fun g hg=>nLL (hoN.lt g hg).2 hr
   have or_ho5_b13:=fun g hg=>nLL (ho5.lt g hg).2 hr
   have lo13:=nLT (Bel.size hB) hr;replace hO:=hO.tr t8 (by simp);replace hrows:=fun x hx=>(hrows x hx).tr t8 (by simp)
   replace hbz:=nLT hbz (Same.size t8);clear hr;refine zj hb13 rfl rfl u9 rfl zX (fun w13 hq t9=>?_);replace hO:=hO.tr t9 (fun g hg=>by have h1:=List.mem_singleton.1 hg;omega);replace hrows:=fun x hx=>(hrows x hx).tr t9 (fun g hg=>by rw [List.mem_singleton.1 hg];first | exact .inr ⟨_,_,hb13,by decide⟩ | exact .inl om)
   replace hbz:=nLT hbz (Same.size t9);replace hoN:=hoN.tr0 t8;replace hoN:=hoN.tr1 t9 (neL or_hoN_b13);replace ho5:=ho5.tr0 t8;replace ho5:=ho5.tr1 t9 (neL or_ho5_b13);replace hb13:=hq;refine zw (e_S ?_);rw [ht] at hb13;have zo:=fun g hg=>(ho5.lt g hg).2
   replace hB:=(hB.tr0 t8).tr1 t9 lo13;have hsz:=Bel.size hB;refine kX [] [11,13] [0,1,2,3,4,5,6,7,8,9,10,11,12,13] rfl (fun w14 t10=>?_);replace hO:=hO.tr t10 (by simp);replace hrows:=fun x hx=>(hrows x hx).tr t10 (by simp)
   replace hbz:=nLT hbz (Same.size t10);refine zn7 ?_;refine hl rfl (fun _=>xw (i:=t) U66 qX rfl rfl htl rfl) (hl1 (v:= .int _ _) rfl U3 rfl rfl (hb17.u.cell (yY htl)) (hl rfl (fun _=>yv (v0:= .int _ _) (v1:= .int _ _) (fun v0 v1=>#[v0,v1]) rfl rfl kR) (h1 rfl ?_)));refine qv (cs:=#[_,_]) [(0,.agg _)] rfl Q4 u9 Y8 dE dE kR rfl (fun b66 w15 hb66 t11 hr=>?_);have:=nLL hb2.u.lt hr;have:=nLL hb4.u.lt hr;have:=nLL hb17.u.lt hr;have:=nLL hb8.u.lt hr;have or_hbz_b66:=(nLT hbz hr)
   have:=nLL hb11.u.lt hr;replace hoN:=hoN.tr0 t10;have or_hoN_b66:=fun g hg=>nLL (hoN.lt g hg).2 hr
   replace ho5:=ho5.tr0 t10;have or_ho5_b66:=fun g hg=>nLL (ho5.lt g hg).2 hr
   have hsH10:=t11;replace hO:=hO.tr t11 (by simp);replace hrows:=fun x hx=>(hrows x hx).tr t11 (by simp)
   replace hbz:=nLT hbz (Same.size t11);clear hr;refine zw (J5 hsH10 (h1 rfl ?_));replace ho5:=ho5.tr0 t11;refine vW Q4 in115 rfl dE ho5 hb66 rfl rfl rfl zX dE om om hb11.u.lt (fun g67 cap67 w16 ho67 hs2 hg67=>?_);replace hB:=hB.tr0 (t10.trans t11);replace hB:=hB.tr hs2 (fun g hg=>nLT hlb5 (ho5.lt g hg).1);replace hb2:=((hb2.tr0 t8).tr1 t9 om).tr0 (t10.trans t11);replace hb2:=hb2.ta hs2 ho5;replace hb4:=((hb4.tr0 t8).tr1 t9 om).tr0 (t10.trans t11);replace hb4:=hb4.ta hs2 ho5;replace hb17:=((hb17.tr0 t8).tr1 t9 om).tr0 (t10.trans t11);replace hb17:=hb17.ta hs2 ho5;replace hO:=hO.tr hs2 (fun g hg=> .inr (by have:=((ho5).lt g hg).1;omega));replace hb8:=((hb8.tr0 t8).tr1 t9 om).tr0 (t10.trans t11);replace hb8:=hb8.ta hs2 ho5;replace hrows:=fun x hx=>(hrows x hx).tr hs2 (fun g hg=>by first | exact .inl (by have:=((ho5).lt g hg).1;omega) | (obtain⟨cs,h⟩:=(ho5).typ g hg;exact .inr ⟨_,_,h,by decide⟩))
   replace hbz:=nLT hbz (Same.size hs2);replace hb11:=((hb11.tr0 t8).tr1 t9 om).tr0 (t10.trans t11);replace hb11:=hb11.ta hs2 ho5;replace hoN:=hoN.tr0 t11;replace hoN:=hoN.tr hs2 (fun g hg hx=>by have:=(ho5.lt _ hx).1;(try have:=luN g hg);omega);obtain⟨g67,cap67,e67,ho67⟩:∃ g cap,(.slice (some ⟨g67,0,none⟩) (j + 1) cap67:Value)= .slice (some ⟨g,0,none⟩) (j + 1) cap∧Own w16 (b11 + 1) 115 2 (some ⟨g,0,none⟩) (j + 1) cap (lnV (((gr[i]'hin).ln.take j).map (QX o)) ++ [.int .i64 ((gr[i]'hin).ln[j]'hjl).1,.int .i64 (kj o t)]):=⟨_,_,rfl,ho67⟩
   cases e67;refine zw (Q5 [13] (zn1 ?_));replace ho67:Own w16 (b11 + 1) 115 2 (some ⟨g67,0,none⟩) (j + 1) cap67 (lnV (((gr[i]'hin).ln.take (j + 1)).map (QX o))):=by
     rw [List.take_succ_eq_append_getElem hjl,List.map_append,List.map_cons,List.map_nil,← F7];have e:QX o ((gr[i]'hin).ln[j]'hjl)=(((gr[i]'hin).ln[j]'hjl).1,kj o t):=by simp [QX,ht]
     rw [e];exact ho67
   have ho5:=ho67;refine h1 rfl ?_;refine x9 (v:= .slice _ _ _) hb11 rfl rfl TW (by first | decide | simp) rfl rfl (fun w17 hq t12=>?_);have hsH13:=t12;replace hO:=hO.tr t12 (fun g hg=>by have h1:=List.mem_singleton.1 hg;omega);replace hrows:=fun x hx=>(hrows x hx).tr t12 (fun g hg=>by rw [List.mem_singleton.1 hg];first | exact .inr ⟨_,_,hb11,by decide⟩ | exact .inl om)
   replace hbz:=nLT hbz (Same.size t12);replace hoN:=hoN.tr1 t12 (neL or_hoN_b11);replace ho5:=ho5.tq t12;replace hb11:=hq;refine zw (Q5 [] (zn7 ?_));refine qV ((gr[i]'hin).ln.length - (j + 1)) om agA ?_;exact⟨j + 1,_,_,by omega,rfl,rfl,hB.u,hb2.u,hb4.u,hb17.u,hb8.u,hb11,hO,hoN,hrows,hbz,ho5⟩
  have hjx:j=(gr[i]'hin).ln.length:=by omega
  subst hjx;refine zn5 ?_
  have hrow5:=RowO.of (lo:=w.heap.size) (xs:=(gr[i]'hin).ln.map (QX o)) hlb5 (by
    rw [List.take_length] at ho5
    rw [List.length_map];exact ho5)
  rw [List.length_map] at hrow5;obtain⟨s5,hs5⟩:∃ b,b=w11.heap.size:=⟨_,rfl⟩
  rw [← hs5] at hrow5;have hz5:s5≤w11.heap.size:=Nat.le_of_eq hs5;refine zn4 ?_;refine qv (cs:=#[_,_]) [(0,.agg _)] rfl U28 uY E4 dE dE kR rfl (fun b73 w18 hb73 t13 hr=>?_);have:=nLL hb2.lt hr;have:=nLL hb4.lt hr;have:=nLL hb17.lt hr;have:=nLL hb8.lt hr;have or_hbz_b73:=(nLT hbz hr)
  have or_hoN_b73:=fun g hg=>nLL (hoN.lt g hg).2 hr
  have or_ho5_b73:=fun g hg=>nLL (ho5.lt g hg).2 hr
  have or_hz5_b73:=(nLT hz5 hr)
  replace hO:=hO.tr t13 (by simp);replace hrows:=fun x hx=>(hrows x hx).tr t13 (by simp)
  replace hbz:=nLT hbz (Same.size t13);replace hrow5:=hrow5.tr t13 (by simp);replace hz5:=nLT hz5 (Same.size t13);clear hr;replace hoN:=hoN.tr0 t13;refine vW U28 in113 rfl dE hoN hb73 rfl rfl rfl zX dE om om hb8.u.lt (fun g74 cap74 w19 ho74 t14 hg=>?_);have ne_ho74_b2:g74≠b2:=neA hoN hb2.u.lt hg
  have ne_ho74_b4:g74≠b4:=neA hoN hb4.u.lt hg
  have ne_ho74_b17:g74≠b17:=neA hoN hb17.u.lt hg
  have ne_ho74_b8:g74≠b8:=neA hoN hb8.u.lt hg
  have ne_ho74_b11:g74≠b11:=neB hb11.u.lt hg (neL or_hoN_b11)
  replace hB:=hB.u.tr t14 (fun g hg=>nLT hlo8 (hoN.lt g hg).1);replace hb2:=hb2.tr0 t13;replace hb2:=hb2.ta t14 hoN;replace hb4:=hb4.tr0 t13;replace hb4:=hb4.ta t14 hoN;replace hb17:=hb17.tr0 t13;replace hb17:=hb17.ta t14 hoN;replace hO:=hO.tr t14 (fun g hg=> .inr (by have:=((hoN).lt g hg).1;omega));replace hb8:=hb8.tr0 t13;replace hb8:=hb8.ta t14 hoN;replace hrows:=fun x hx=>(hrows x hx).tr t14 (fun g hg=>by first | exact .inl (by have:=((hoN).lt g hg).1;omega) | (obtain⟨cs,h⟩:=(hoN).typ g hg;exact .inr ⟨_,_,h,by decide⟩))
  replace hbz:=nLT hbz (Same.size t14);replace hrow5:=hrow5.tr t14 (fun g hg=>by first | exact .inl (by have:=((hoN).lt g hg).1;omega) | (obtain⟨cs,h⟩:=(hoN).typ g hg;exact .inr ⟨_,_,h,by decide⟩));replace hz5:=nLT hz5 (Same.size t14);have hoN2:Own w19 (b8 + 1) 113 2 (some ⟨g74,0,none⟩) (k + 1) cap74 (ndV (fun x=> .int .i64 (nd gr (o.getD x 0)).ty) (fun x=>if x=k then .slice A5 (gr[i]'hin).ln.length cap5 else V x) (k + 1)):=by
    rw [Vq,ZX (f':=(fun x=> .int .i64 (nd gr (o.getD x 0)).ty)) (h':=V) (fun x _=>rfl) (fun x hx=>by rw [if_neg (show ¬x=k from by omega)])];simp only [if_true];rw [hgd,hnd];exact ho74
  refine zn1 ?_;refine x9 (v:= .slice _ _ _) hb8 rfl rfl sz28 (by first | decide | simp) rfl rfl (fun w20 hq t15=>?_);replace hO:=hO.tr t15 (fun g hg=>by have h1:=List.mem_singleton.1 hg;omega);replace hrows:=fun x hx=>(hrows x hx).tr t15 (fun g hg=>by rw [List.mem_singleton.1 hg];first | exact .inr ⟨_,_,hb8,by decide⟩ | exact .inl om)
  replace hbz:=nLT hbz (Same.size t15);replace hrow5:=hrow5.tr t15 (fun g hg=>by rw [List.mem_singleton.1 hg];first | exact .inr ⟨_,_,hb8,by decide⟩ | exact .inl om);replace hz5:=nLT hz5 (Same.size t15);replace hoN2:=hoN2.tq t15;replace hb8:=hq;refine zn7 ?_;refine qV (o.length - (k + 1)) om agA ?_;replace hB:=hB.tr1 t15 lo8;replace hb2:=hb2.tr1 t15 om;replace hb4:=hb4.tr1 t15 om;replace hb17:=hb17.tr1 t15 om
  exact⟨k + 1,_,_,fun x=>if x=k then .slice A5 (gr[i]'hin).ln.length cap5 else V x,by omega,rfl,rfl,hB,hb2,hb4,hb17,hb8,hO,hoN2,fun x hx=>by
    by_cases e:x=k
    · subst e
      simp only [if_true];rw [hgd,hnd];exact hrow5.up hz5
    · simp only [if_neg e]
      exact(hrows x om).up hbz⟩
 have hke:k=o.length:=by omega
 subst hke;refine zn8 ?_;refine zj hb4 rfl rfl uj rfl zX (fun w21 hq t16=>?_);replace hoN:=hoN.tq t16;replace hrows:=fun x hx=>(hrows x hx).tr t16 (fun g hg=>by rw [List.mem_singleton.1 hg];first | exact .inr ⟨_,_,hb4,by decide⟩ | exact .inl om)
 replace hbz:=nLT hbz (Same.size t16);replace hb4:=hq;refine zn3 ?_;refine x8 (.inl rfl) rfl (zk U30 rfl rfl hb4.range0 uj) ?_;have hcl:(jK gr o).length=o.length:=by simp [jK]
 refine⟨⟨o,_,_,hD,hok,rfl,GrT.mk hoN hcl hlo8 (fun x hx=>?_) (fun g hg=>(hoN.lt g hg).2) hbz (fun x hx=>?_)⟩,hB.u⟩
 · rw [NV hx]
 · rw [NV hx]
   exact hrows x hx
theorem HX (G:Option Addr) (cg nf:Nat) (gr:List Nd) (r:Nat) (w:World) (hG:NodesIn w G gr) (hk:P6 nf gr) (hnf:nf≤1000) (hr:r < gr.length):Calls Tryz.prog 69 #[.agg #[.slice G gr.length cg],.int .i64 r] w fun e w'=>(∃ o A c,DL gr [r] [] o∧OOk gr.length o∧e= .returned (.agg #[.slice A o.length c])∧(∀ w2,FrSame w.heap.size w' w2→NodesIn w2 A (jK gr o)))∧Bel w w':=(HQ G cg nf gr r w hG hk hnf hr).mono fun e w' h=>by
  obtain⟨⟨o,A,c,h1,h2,h3,h4⟩,hs⟩:=h
  exact⟨⟨o,A,c,h1,h2,h3,fun w2 hf=>by have:=(h4.fr hf).nodes;rwa [Rz] at this⟩,hs⟩
end Go.Proofs.YtbcpgfnfiekbiaaGreatDoor
namespace Go.Proofs.YtbcpgfnfiekbiaaGreatDoor
open Go.RowKit
theorem fn69:zZ Tryz.prog 69=true:=by kernel_rfl
theorem HJ (G:Option Addr) (cg nt nf:Nat) (gr:List Nd) (w:World) (hG:NodesIn w G gr) (hk:GOk nt nf gr) (hnf:nf≤1000):Calls Tryz.prog 36 #[.agg #[.slice G gr.length cg]] w fun e w'=>(∃ o A c,DL gr [0] [] o∧e= .returned (.agg #[.slice A o.length c])∧(∀ w2,FrSame w.heap.size w' w2→NodesIn w2 A (jK gr o)))∧Bel w w':=by
 refine enT Tryz.func36 Tryz.ntmps36 rfl rfl fun hB=>?_;refine zn2 ?_;refine qK (v:= .agg #[_]) (cs:=#[_]) rfl rfl (fun b1 w1 hb1 s1 hr=>?_);refine zY (cs:=#[.slice none 0 0]) ze30 rfl (fun b2 w2 hb2 s2 hr=>?_);have lo2:=nLT (Bel.size hB.u) hr;refine zn5 ?_;have z2:=hb2.lt;replace hB:=hB.tr0 (s1.trans s2);have hszv:=Bel.size hB;refine zJ fn69 (HX G cg nf gr 0 _ (hG.mono hB) hk.two hnf hk.pos) rfl (fun e' w3 hr=>?_);obtain⟨⟨o,AN,cn,hD,hok,rfl,hN⟩,s3⟩:=hr;replace s3:=sB s3;have hFr:FrSame (w2).heap.size w3 w3:=FrSame.refl _ _;obtain⟨Z0,hZ0⟩:∃ z,z=(w2).heap.size:=⟨_,rfl⟩
 rw [← hZ0] at hN hFr z2;obtain⟨wZ,hwZ⟩:∃ z,z=w3:=⟨_,rfl⟩
 have hz0:w.heap.size≤Z0:=by rw [hZ0];exact hszv
 replace hFr:FrSame Z0 wZ w3:=by rw [hwZ];exact FrSame.refl _ _
 rw [← hwZ] at hN;refine⟨_,rfl,?_⟩;refine zj hb2.u rfl rfl uj rfl zX (fun w4 hq s4=>?_);replace hFr:=hFr.of s4 (fun g hg=>by rw [List.mem_singleton.1 hg];omega);replace hb2:=hq;refine zn3 ?_;refine x8 (.inl rfl) rfl (zk U30 rfl rfl hb2.range0 uj) ?_;exact⟨⟨o,_,_,hD,rfl,fun w2 hf=>hN w2 (hFr.then hf hz0)⟩,hB.u⟩
end Go.Proofs.YtbcpgfnfiekbiaaGreatDoor
namespace Go.Proofs.YtbcpgfnfiekbiaaGreatDoor
open Go.RowKit
inductive NdVs (w:World):List Nd→List Value→Prop
  | nil:NdVs w [] []
  | cons {x:Nd} {l:List Nd} {vs:List Value} {A:Option Addr} {c:Nat} (h:LinksIn w A x.ln) (r:NdVs w l vs):NdVs w (x :: l) (.int .i64 x.ty :: .slice A x.ln.length c :: vs)
theorem NdVs.get {w:World} {l:List Nd} {vs:List Value} (h:NdVs w l vs):∀ k (hk:k < l.length),∃ A c,vs[k * 2]? =some (.int .i64 (l[k]).ty)∧vs[k * 2 + 1]? =some (.slice A (l[k]).ln.length c)∧LinksIn w A (l[k]).ln:=by
  induction h with
  | nil=>intro k hk;simp at hk
  | cons h r ih=>
    intro k hk
    match k,hk with
    | 0,_=>exact⟨_,_,rfl,rfl,h⟩
    | k + 1,hk=>
      obtain⟨A,c,h1,h2,h3⟩:=ih k (by simpa using hk);refine⟨A,c,?_,?_,h3⟩
      · rw [show (k + 1) * 2=k * 2 + 1 + 1 from by omega];simpa using h1
      · rw [show (k + 1) * 2 + 1=k * 2 + 1 + 1 + 1 from by omega];simpa using h2
noncomputable def ordI (g:List Nd):List Nat:=@Classical.epsilon (List Nat) ⟨[]⟩ (fun o=>DL g [0] [] o)
theorem ord_is {g:List Nd} {o:List Nat} (h:DL g [0] [] o):ordI g=o:=(@Classical.epsilon_spec (List Nat) (fun o=>DL g [0] [] o) ⟨o,h⟩).det h
noncomputable def yk (l:List Ty) (fs:List Ft) (g:List Nd):List Nd:=if (jJ l fs g).1=0 then jK g (ordI g) else []
theorem E1 {l:List Ty} {fs:List Ft} {g:List Nd} {o:List Nat} (h:(jJ l fs g).1=0) (hd:DL g [0] [] o):yk l fs g=jK g o:=by unfold yk;rw [if_pos h,ord_is hd]
theorem rcan_any (G:Option Addr) (n cg:Nat) (l:List Ty) (fs:List Ft) (gr:List Nd) (w:World) (hG:NodesIn w G gr) (hn:gr.length=n) (h0:(jJ l fs gr).1=0):Calls Tryz.prog 36 #[.agg #[.slice G n cg]] w fun e w'=>(∃ A c,e= .returned (.agg #[.slice A (yk l fs gr).length c])∧(∀ w2,FrSame w.heap.size w' w2→NodesIn w2 A (yk l fs gr)))∧Bel w w':=by
  subst hn;have hgv:=gv_of h0;refine(HJ G cg l.length fs.length gr w hG hgv.gok (by have:=hgv.few;omega)).mono fun e w' h=>?_
  obtain⟨⟨o,A,c,hD,he,hN⟩,hs⟩:=h;refine⟨⟨A,c,?_,?_⟩,hs⟩
  · rw [he,E1 h0 hD,Zq]
  · rw [E1 h0 hD];exact hN
end Go.Proofs.YtbcpgfnfiekbiaaGreatDoor
namespace Go.Proofs.YtbcpgfnfiekbiaaGreatDoor
open Go.RowKit
def tgt (xs:List (Int×Int)) (f:Int):Int:=match xs.find? (fun y=>decide (y.1=f)) with
  | some y=>y.2
  | none=>-1
theorem WW {f:Int}:∀ {xs:List (Int×Int)} {i:Nat} (hi:i < xs.length),(xs[i]).1=f→(∀ j (hj:j < xs.length),j < i→¬(xs[j]).1=f)→tgt xs f=(xs[i]).2
  | [],_,hi,_,_=>absurd hi (by simp)
  | x :: xs,0,_,h,_=>by
    have h1:x.1=f:=h
    unfold tgt
    rw [List.find?_cons,decide_eq_true h1]
    rfl
  | x :: xs,i + 1,hi,h,hb=>by
    have h0:¬x.1=f:=hb 0 (by simp) om
    have ih:=WW (xs:=xs) (i:=i) (by simpa using hi) h (fun j hj hji=>hb (j + 1) (by simpa using hj) om)
    unfold tgt at ih ⊢
    rw [List.find?_cons,decide_eq_false h0]
    exact ih
theorem WV {f:Int}:∀ {xs:List (Int×Int)},(∀ j (hj:j < xs.length),¬(xs[j]).1=f)→tgt xs f= -1
  | [],_=>rfl
  | x :: xs,h=>by
    have h0:¬x.1=f:=h 0 (by simp)
    have ih:=WV (xs:=xs) (f:=f) (fun j hj=>h (j + 1) (by simpa using hj))
    unfold tgt at ih ⊢
    rw [List.find?_cons,decide_eq_false h0]
    exact ih
theorem J0 {nf n:Nat}:∀ {xs:List (Int×Int)} {last:Int},yj nf n last xs=0→(∀ j (hj:j < xs.length),last < (xs[j]).1)∧∀ i j (hi:i < xs.length) (hj:j < xs.length),i < j→(xs[i]).1 < (xs[j]).1
  | [],_,_=>⟨fun j hj=>absurd hj (by simp),fun i j hi=>absurd hi (by simp)⟩
  | y :: ys,last,h=>by
    unfold yj at h
    by_cases h1:uy nf n y
    · rw [if_pos h1] at h;cases h
    rw [if_neg h1] at h
    by_cases h2:y.1≤last
    · rw [if_pos h2] at h;cases h
    rw [if_neg h2] at h
    obtain⟨ih1,ih2⟩:=J0 h
    refine⟨fun j hj=>?_,fun i j hi hj hij=>?_⟩
    · match j,hj with
      | 0,_=>show last < y.1;omega
      | j + 1,hj=>
        have:=ih1 j (by simpa using hj)
        show last < (ys[j]'(by simpa using hj)).1
        omega
    · match i,j,hi,hj,hij with
      | 0,j + 1,_,hj,_=>exact ih1 j (by simpa using hj)
      | i + 1,j + 1,hi,hj,hij=>exact ih2 i j (by simpa using hi) (by simpa using hj) om
theorem tgt_bs {nf n:Nat} {xs:List (Int×Int)} {last f:Int} {i:Nat} (hs:yj nf n last xs=0) (hlo:∀ j (hj:j < xs.length),j < i→(xs[j]).1 < f) (hhi:∀ j (hj:j < xs.length),i≤j→f≤(xs[j]).1):
    (∀ h:i < xs.length,(xs[i]).1=f→tgt xs f=(xs[i]).2)∧((¬∃ h:i < xs.length,(xs[i]).1=f)→tgt xs f= -1):=by
  refine⟨fun h e=>WW h e (fun j hj hji=>by have:=hlo j hj hji;omega),fun hn=>WV (fun j hj e=>?_)⟩;by_cases h1:j < i
  · have:=hlo j hj h1;omega
  · by_cases h2:j=i
    · subst h2;exact hn ⟨hj,e⟩
    · have h3:=(J0 hs).2 i j om hj om
      have h4:=hhi i om (Nat.le_refl _);omega
def walkT (g:List Nd):List Int→Int→Int
  | [],a=>a
  | f :: p,a=>if a < 0 then a else walkT g p (tgt (nd g a.toNat).ln f)
def pF (nf:Nat) (p:List Int) (i:Nat):Int:=match p[i]? with
  | none=>0
  | some x=>if x < 0∨(nf:Int)≤x then 3 else 0
noncomputable def atF (l:List Ty) (fs:List Ft) (g:List Nd) (p:List Int):Fl:=if ¬(jJ l fs g).1=0 then jJ l fs g else if 300 < p.length then (2,-3) else zW (pF fs.length p) 0 p.length
def AtOk (l:List Ty) (fs:List Ft) (g:List Nd) (p:List Int):Prop:=(atF l fs g p).1=0∧0≤walkT g p 0
noncomputable instance (l:List Ty) (fs:List Ft) (g:List Nd) (p:List Int):Decidable (AtOk l fs g p):=Classical.propDecidable _
end Go.Proofs.YtbcpgfnfiekbiaaGreatDoor
namespace Go.Proofs.YtbcpgfnfiekbiaaGreatDoor
open Go.RowKit
section six
variable {P:Program} {Q:Exit→Act→World→Prop} {n:Nat} {f:Fr} {w:World} {ops:Array Oper} {rest:List Oper} {d:Tmp} {ty t e:TypeId} {pos:String} {af:Array Edge} {x y:Operand} {v:Value}
theorem r_ext {F:FuncId} {xs:Array Operand} {ats:Array TypeId} {args:List Value} {dst:Option Nat} {gd:Option (Nat×Bool)} (h:(callFunc F args.toArray).run P w= .ok (.value v) w) (hargs:xs.toList.map (ev n f)=args):
    RV P n f w ⟨dst,.call { callee:= .value (.func F),args:=xs,argTypes:=ats },ty,pos,af,gd⟩ v w:=by
  subst hargs;have hm:(xs.toList.map (ev n f)).toArray=xs.map (ev n f):=by rw [← Array.toList_map,Array.toArray_toList]
  rw [hm] at h;simp [RV,execOp,resolve,ev,Deferred.ofValue,invoke,h]
theorem Own.whole {base sz k cap:Nat} {A:Option Addr} {xs:List Value} (h:Own w base e sz A k cap xs) (hk:0 < k):∃ (g:Nat) (cur:Array Value),A=some ⟨g,0,none⟩∧base≤g∧Blk w g e cur∧cap≤9223372036854775807∧cur.size=cap * sz∧cur.toList.take (k * sz)=xs:=by
  rcases h.2 with ⟨_,h0⟩ | ⟨g,c,cur,hv,hb,hg,hkc,hm,hs,ht⟩
  · omega
  · cases hv
    exact⟨g,cur,rfl,hb,hg,by simpa [maxLen] using hm,hs,ht⟩
end six
end Go.Proofs.YtbcpgfnfiekbiaaGreatDoor
namespace Go.Proofs.YtbcpgfnfiekbiaaGreatDoor
open Go.RowKit
def bl (s:ByteArray):List UInt8:=s.data.toList
theorem bl_app (p q:ByteArray):bl (p ++ q)=bl p ++ bl q:=by
  unfold bl;rw [ByteArray.data_append,Array.toList_append]
theorem E3 (p:ByteArray):(bl p).length=p.size:=by unfold bl;rw [Array.length_toList];rfl
theorem SQ {p q:ByteArray} (h:bl p=bl q):p=q:=by
  cases p;cases q;unfold bl at h;simp only [ByteArray.mk.injEq];exact Array.toList_inj.1 h
section rules
variable {P:Program} {Q:Exit→Act→World→Prop} {n:Nat} {f:Fr} {w w':World} {ops:Array Oper} {rest:List Oper} {d:Nat} {ty:TypeId} {pos:String} {af:Array Edge} {x y z:Operand} {t t' e:TypeId}
theorem Bv {dst:Option Tmp} {gd:Option (Nat×Bool)} {p q:ByteArray} (hx:ev n f x= .string p) (hy:ev n f y= .string q) (hb:p.size + q.size≤9223372036854775807):
    RV P n f w ⟨dst,.binOp .add t x y t',ty,pos,af,gd⟩ (.string (p ++ q)) w:=by
  have h:¬((p.size + q.size:Nat):Int) > IntKind.i64.max:=by
    have e:IntKind.i64.max=9223372036854775807:=by decide
    rw [e];omega
  simp only [RV,execOp,hx,hy,eqGuard,binOp,Op.stringOp,if_neg h];rfl
end rules
end Go.Proofs.YtbcpgfnfiekbiaaGreatDoor
namespace Go.Proofs.YtbcpgfnfiekbiaaGreatDoor
open Go.RowKit
def stk (h:Nat) (s:ByteArray):ByteArray:=⟨((bl s).take h).toArray⟩
def sdr (l:Nat) (s:ByteArray):ByteArray:=⟨((bl s).drop l).toArray⟩
theorem Vw (l:Nat) (s:ByteArray):bl (sdr l s)=(bl s).drop l:=rfl
theorem y5 (l:Nat) (s:ByteArray):(sdr l s).size=s.size - l:=by rw [← E3,← E3,Vw,List.length_drop]
theorem ext_bl (s:ByteArray) (l h:Nat):bl (s.extract l h)=((bl s).drop l).take (h - l):=by
  unfold bl;rw [ByteArray.data_extract,Array.toList_extract,List.extract_eq_take_drop]
theorem ext_sdr {s:ByteArray} {l:Nat}:s.extract l s.size=sdr l s:=SQ (by
  rw [ext_bl,Vw,List.take_of_length_le]
  rw [List.length_drop,E3]
  exact Nat.le_refl _)
section rules
variable {P:Program} {Q:Exit→Act→World→Prop} {n:Nat} {f:Fr} {w w':World} {ops:Array Oper} {rest:List Oper} {d:Nat} {ty:TypeId} {pos:String} {af:Array Edge} {x y z:Operand} {t t' e:TypeId}
theorem X8 {dst:Option Tmp} {gd:Option (Nat×Bool)} {s:ByteArray} {l:Nat} (hu:P.underlying t=some .string) (hx:ev n f x= .string s) (hy:ev n f y= .int .i64 (l:Int)) (hl:l≤s.size):
    RV P n f w ⟨dst,.slice t x (some y) none none,ty,pos,af,gd⟩ (.string (sdr l s)) w:=by
  have h1:(Instr.sliceBound (.int .i64 (l:Int)) s.size .sliceB).run P w= .ok l w:=by
    simp [Instr.sliceBound,asIntOf,hl]
  simp [RV,execOp,hx,hy,Instr.sliceAt,run_underlying hu,Instr.slice,Instr.sliceBounds,h1,ext_sdr]
end rules
def Cy (c:UInt8):List UInt8→List (List UInt8)
  | []=>[[]]
  | x :: xs=>if x=c then [] :: Cy c xs else (x :: (Cy c xs).headD []) :: (Cy c xs).tail
theorem ixb_pos {c:UInt8}:∀ {l:List UInt8} {m:Nat},Lib.indexByte l c=(m:Int)→m < l.length∧¬c ∈ l.take m∧l=l.take m ++ c :: l.drop (m + 1)
  | [],m,h=>by simp [Lib.indexByte] at h
  | b :: l,m,h=>by
    unfold Lib.indexByte at h
    by_cases e:b=c
    · have e2:(b == c)=true:=by simpa using e
      simp only [e2,if_true] at h
      have:m=0:=by omega
      subst this
      exact⟨by simp,by simp,by simp [e]⟩
    · have e2:(b == c)=false:=by simpa using e
      simp only [e2,Bool.false_eq_true,if_false] at h
      by_cases q:Lib.indexByte l c= -1
      · simp [q] at h
      · have q2:(Lib.indexByte l c == -1)=false:=by simpa using q
        simp only [q2,Bool.false_eq_true,if_false] at h
        have h3:=Lib.indexByte_ge l c
        obtain⟨k,rfl⟩:∃ k,m=k + 1:=⟨m - 1,by omega⟩
        obtain⟨a1,a2,a3⟩:=ixb_pos (c:=c) (l:=l) (m:=k) om
        refine⟨by simp;exact a1,?_,?_⟩
        · rw [List.take_succ_cons]
          intro hm
          rcases List.mem_cons.1 hm with q | q
          · exact e q.symm
          · exact a2 q
        · rw [List.take_succ_cons,List.drop_succ_cons,List.cons_append,← a3]
def sp (c:UInt8) (s:ByteArray):List ByteArray:=(Cy c (bl s)).map (fun p=>⟨p.toArray⟩)
def pc (c:UInt8) (s:ByteArray) (k:Nat):ByteArray:=(sp c s).getD k ⟨#[]⟩
def StrsIn (w:World) (A:Option Addr) (xs:List ByteArray):Prop:=
  xs.length≤vQ∧(xs≠[]→∃ b o,A=some ⟨b,o,none⟩∧b < w.heap.size∧∀ k (h:k < xs.length),w.cell? ⟨b,o + k * 1,none⟩=some (.string xs[k]))
theorem StrsIn.mono {w w':World} {A:Option Addr} {xs:List ByteArray} (h:StrsIn w A xs) (hb:Bel w w'):StrsIn w' A xs:=
  ⟨h.1,fun hn=>by
    obtain⟨b,o,e,hl,hc⟩:=h.2 hn
    exact⟨b,o,e,nLL hl hb.size,fun k hk=>hb.cell hl (hc k hk)⟩⟩
theorem StrsIn.at_ {w:World} {A:Option Addr} {xs:List ByteArray} (h:StrsIn w A xs) {k:Nat} (hk:k < xs.length):
    ∃ b o,A=some ⟨b,o,none⟩∧b < w.heap.size∧w.cell? ⟨b,o + k * 1,none⟩=some (.string xs[k]):=by
  obtain⟨b,o,e,hl,hc⟩:=h.2 (by rintro rfl;simp at hk);exact⟨b,o,e,hl,hc k hk⟩
end Go.Proofs.YtbcpgfnfiekbiaaGreatDoor
namespace Go.Proofs.YtbcpgfnfiekbiaaGreatDoor
open Go.RowKit
def ItIn (w:World) (b:Nat) (s:ByteArray) (p:Nat):Prop:=w.heap[b]? =some (.stringIter s p)
section it
variable {w w':World} {b p:Nat} {s:ByteArray} {X:List Nat}
theorem ItIn.lt (h:ItIn w b s p):b < w.heap.size:=jX h
theorem ItIn.tr (h:ItIn w b s p) (hs:Same X w w') (hx:b ∉ X):ItIn w' b s p:=(hs.blk b h.lt hx).trans h
theorem ItIn.tr0 (h:ItIn w b s p) (hs:Same [] w w'):ItIn w' b s p:=h.tr hs (by simp)
theorem ItIn.tr1 {c:Nat} (h:ItIn w b s p) (hs:Same [c] w w') (hne:b≠c):ItIn w' b s p:=h.tr hs (by simpa using hne)
end it
section rules
variable {P:Program} {Q:Exit→Act→World→Prop} {n:Nat} {f:Fr} {w w':World} {ops:Array Oper} {rest:List Oper} {d:Nat} {ty:TypeId} {pos:String} {af:Array Edge} {x y z:Operand} {t t' e:TypeId}
theorem Gz {s:ByteArray} (hu:P.underlying t=some .string) (hx:ev n f x= .string s)
    (K:∀ b w1,ItIn w1 b s 0→Same [] w w1→w.heap.size≤b→WL P ops Q rest n (upd f d (.pointer (some ⟨b,0,none⟩))) w1):WL P ops Q (⟨some d,.range t x,ty,pos,af,none⟩ :: rest) n f w:=by
  refine wl (v:= .pointer (some ⟨w.heap.size,0,none⟩)) (w':=w.iter s 0) ?_ (K _ _ (World.iter_heap w s 0) (ov w _) (Nat.le_refl _));simp only [RV,execOp,hx,run_range_string w t s hu,Sem.run_bind,Result.andThen_ok];simp
theorem run_nx {b p:Nat} {s:ByteArray} (h:ItIn w b s p) (hp:p < s.size):
    (Instr.next (.pointer (some ⟨b,0,none⟩)) true ty).run P w= .ok (.tuple #[.bool true,.int .i64 p,.int .i32 ((Utf8.decode s p).1:Nat)]) { w with heap:=w.heap.setIfInBounds b (.stringIter s (p + (Utf8.decode s p).2)) }:=by
  have h':w.heap[b]? =some (.stringIter s p):=h;simp only [Instr.next,getObj,setObj,Sem.run_bind,Sem.run,h',Result.andThen,hp,if_true];simp [goInt]
theorem same_setO (w:World) (b:Nat) (o:Obj):Same [b] w { w with heap:=w.heap.setIfInBounds b o }:=
  ⟨rfl,rfl,rfl,by simp,fun k _ hx=>by
    have:k≠b:=fun e=>hx (List.mem_singleton.2 e)
    simp [Ne.symm this]⟩
theorem Gq {b p:Nat} {s:ByteArray} (h:ItIn w b s p) (hx:ev n f x= .pointer (some ⟨b,0,none⟩)) (hp:p < s.size)
    (K:∀ w1,ItIn w1 b s (p + (Utf8.decode s p).2)→Same [b] w w1→WL P ops Q rest n (upd f d (.tuple #[.bool true,.int .i64 ((p:Nat):Int),.int .i32 (((Utf8.decode s p).1:Nat):Int)])) w1):WL P ops Q (⟨some d,.next x true,ty,pos,af,none⟩ :: rest) n f w:=by
  refine wl (v:= .tuple #[.bool true,.int .i64 p,.int .i32 ((Utf8.decode s p).1:Nat)]) (w':={ w with heap:=w.heap.setIfInBounds b (.stringIter s (p + (Utf8.decode s p).2)) }) ?_ (K _ ?_ (same_setO w b _))
  · simp only [RV,execOp,hx,run_nx h hp,Sem.run_bind,Result.andThen_ok]
    simp
  · show (w.heap.setIfInBounds b _)[b]? =_
    have:=h.lt;simp [this]
theorem r_ne {b p:Nat} {s:ByteArray} {dst:Option Tmp} {gd:Option (Nat×Bool)} (h:ItIn w b s p) (hx:ev n f x= .pointer (some ⟨b,0,none⟩)) (hp:¬p < s.size):RV P n f w ⟨dst,.next x true,ty,pos,af,gd⟩ (.tuple #[.bool false]) w:=by
  have h':w.heap[b]? =some (.stringIter s p):=h;have h2:(Instr.next (.pointer (some ⟨b,0,none⟩)) true ty).run P w= .ok (.tuple #[.bool false]) w:=by
    simp [Instr.next,getObj,Sem.run,h',hp]
  simp only [RV,execOp,hx,h2,Sem.run_bind,Result.andThen_ok];simp
theorem I4 {k k':IntKind} {a:Int} {dd:TypeDesc} {dst:Option Tmp} {gd:Option (Nat×Bool)} (hs:P.underlying t=some dd) (hd:P.underlying t'=some (.int k')) (hx:ev n f x= .int k a) (ha:k'.wrap a=a):
    RV P n f w ⟨dst,.convert t t' x,ty,pos,af,gd⟩ (.int k' a) w:=by
  simp [RV,execOp,hx,convert,run_underlying hs,run_underlying hd,Conv.intToInt,ha]
theorem Jv {a b c:Nat} {kb:IntKind} {dst:Option Tmp} {gd:Option (Nat×Bool)} (hx:ev n f x= .int .u64 (a:Int)) (hy:ev n f y= .int kb (b:Int)) (hb:b < 64) (ha:a * 2 ^ b < 18446744073709551616) (hc:a * 2 ^ b=c):
    RV P n f w ⟨dst,.binOp .shl t x y t',ty,pos,af,gd⟩ (.int .u64 (c:Int)) w:=by
  subst hc;have h1:min b 64=b:=by omega
  have h2:IntKind.u64.wrap ((a:Int) * 2 ^ b)=((a * 2 ^ b:Nat):Int):=by
    rw [IntKind.wrap_u64];have:((a:Int) * 2 ^ b)=((a * 2 ^ b:Nat):Int):=by simp
    rw [this]
    generalize a * 2 ^ b=c at ha
    omega
  have h0:¬((b:Int) < 0):=by omega
  simp only [RV,execOp,hx,hy,eqGuard,binOp,Op.shift,IntKind.bits,if_neg h0,Int.toNat_natCast,h1,h2];rfl
theorem r_shr8 {a b c:Nat} {kb:IntKind} {dst:Option Tmp} {gd:Option (Nat×Bool)} (hx:ev n f x= .int .u8 (a:Int)) (hy:ev n f y= .int kb (b:Int)) (hb:b < 8) (hc:a / 2 ^ b=c):
    RV P n f w ⟨dst,.binOp .shr t x y t',ty,pos,af,gd⟩ (.int .u8 (c:Int)) w:=by
  subst hc;have h1:min b 8=b:=by omega
  have h2:(a:Int).fdiv (2 ^ b)=((a / 2 ^ b:Nat):Int):=by
    rw [Int.fdiv_eq_ediv_of_nonneg _ (by exact Int.le_of_lt (Int.pow_pos dE))];simp
  have h0:¬((b:Int) < 0):=by omega
  simp only [RV,execOp,hx,hy,eqGuard,binOp,Op.shift,IntKind.bits,if_neg h0];simp [h1,h2]
theorem u8_and7:∀ a:Nat,a < 256→bits .and .u8 (a:Int) 7=((a % 8:Nat):Int):=by decide +kernel
theorem r_and7 {a:Nat} {dst:Option Tmp} {gd:Option (Nat×Bool)} (hx:ev n f x= .int .u8 (a:Int)) (hy:ev n f y= .int .u8 7) (ha:a < 256):
    RV P n f w ⟨dst,.binOp .and t x y t',ty,pos,af,gd⟩ (.int .u8 ((a % 8:Nat):Int)) w:=by
  have:=u8_and7 a ha;simp only [RV,execOp,hx,hy,eqGuard,binOp];simp [go_sem,this]
theorem r_rstr {r:Int} {dst:Option Tmp} {gd:Option (Nat×Bool)} (hs:P.underlying t=some (.int .i32)) (hd:P.underlying t'=some .string) (hx:ev n f x= .int .i32 r):
    RV P n f w ⟨dst,.convert t t' x,ty,pos,af,gd⟩ (.string (Utf8.encode r)) w:=by
  simp [RV,execOp,hx,convert,run_underlying hs,run_underlying hd,Conv.intToString]
def QN (Q:Exit→Act→World→Prop):Exit→Act→World→Prop:=Exit.noGoto Q
theorem c_scope {c:Code} (h:WC P c (QN Q) n f w):WC P (.scope c) Q n f w:=by
  unfold WC at h ⊢;exact wp_scope_straight h
theorem e_Nr (h:EX Q .ret n f w):EX (QN Q) .ret n f w:=by unfold EX at h ⊢;exact h
end rules
end Go.Proofs.YtbcpgfnfiekbiaaGreatDoor
