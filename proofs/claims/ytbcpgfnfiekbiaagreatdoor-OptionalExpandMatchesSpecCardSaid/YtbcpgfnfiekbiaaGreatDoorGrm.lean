/- What these functions of the program compute, at every world: slices.Clone[[]int,int], glosswright/glosswrightref3.visit. What these functions of the program compute, at every world: glosswright/glosswrightref3.From. What these functions of the program compute, at every world: glosswright/glosswrightref3.Canon. What these functions of the program compute, at every world: . Targets of links, walks along paths, what At answers. No program in sight. The engine's sixth part: copy, zeros appended to a slice, functions that the model has itself, a drawn region in which an operation changes what another one has made. Bytes of strings; sums of strings: rules for them. No program in sight. Strings cut at places and at bytes. No program in sight. Rules: a range over a string; scopes; numbers of a few bits. No program in sight. Words: the places of a string's runes, which of them are right, which bytes are barred. No program in sight. Rules, words and grammars as plain values, how a world holds them, and what is wrong with them. No program in sight. -/
import Derived.Test.YtbcpgfnfiekbiaaGreatDoorU
import Derived.Test.YtbcpgfnfiekbiaaGreatDoorTrm
import Derived.Test.YtbcpgfnfiekbiaaGreatDoorGNodes
import Derived.Test.YtbcpgfnfiekbiaaGreatDoorEng4
import Derived.Laws.CopyRow
import Derived.Laws.Externs
import Derived.Lib.Overlaps
import Derived.Lib.Builder
import Derived.Lib.AppendStr
import Derived.Lib.UnsafeStr
import Derived.Lib.Bytealg
import Derived.Laws.RangeAny
import Derived.Scope
import Derived.Lib.RuneCount
import Derived.Lib.DecodeNEq
namespace Go.Proofs.YtbcpgfnfiekbiaaGreatDoor
open Go.RowKit
theorem fn102:zK Tryz.prog 102=true:=by kernel_rfl
theorem fn98:zK Tryz.prog 98=true:=by kernel_rfl
theorem clone_any (A:Option Addr) (c bn bd:Nat) (o:List Nat) (w:World) (hO:OrdF w bn bd A o) (hl:o.length≤1000000):Calls Tryz.prog 98 #[.slice A o.length c] w fun e w'=>(∃ A' cap',e= .returned (.slice A' o.length cap')∧Own w' w.heap.size 3 1 A' o.length cap' (oV o))∧Bel w w':=by
 refine enT Tryz.func98 Tryz.ntmps98 rfl rfl fun hB=>?_;refine zn9 ?_;refine wl (KZ U66 rfl rfl) (zJ (e_S ?_));refine vK rfl (fun c4=>?_) (fun c4=>?_)
 ·have hn:o= []:=by
    rcases hO with h | ⟨_,b,h,_⟩
    · exact h.1
    · rw [h] at c4;cases c4
  subst hn;refine zn8 ?_;exact⟨⟨none,0,rfl,Own.nil _ _ _ _⟩,hB⟩
 obtain⟨hne,b,rfl,hbn,hbd,hbl,hc⟩:o≠[]∧∃ b,A=some ⟨b,0,none⟩∧b≠bn∧b < bd∧b < w.heap.size∧∀ k (hk:k < o.length),w.cell? ⟨b,0 + k,none⟩=some (.int .i64 (o[k]:Nat)):=by
   rcases hO with h | h
   · rw [h.2] at c4;cases c4
   · exact h
 have hpos:=List.length_pos_iff.2 hne;refine zn4 ?_;refine wl_bs0 U66 qX (fun b5 w1 hb5 s1 hr=>?_);have lo5:=nLT (Bel.size hB) hr;refine wl (yq (v:= .slice _ _ _) rfl) ?_;have hown:=KX (sz:=1) (m:=0) hb5 (Nat.le_refl b5) rfl dE;replace hB:=hB.tr0 s1;refine Gk (b:=b) (o':=0) (news:=oV o) U66 in3 rfl dE hown rfl rfl (fun j u hj=>?_) (by simp [oV]) (by simp [oV,List.all_eq_true];intros;rfl) hpos oM oM (Nat.le_of_lt hb5.lt) (fun g7 cap7 w9 ho7 s2 hg=>?_)
 · simp only [oV,List.getElem?_map,Option.map_eq_some_iff] at hj
   obtain⟨x,hx,rfl⟩:=hj;obtain⟨hk,rfl⟩:=List.getElem?_eq_some_iff.1 hx;exact hB.cell hbl (hc j hk)
 have hB9:Bel w w9:=hB.tr s2 (fun g hg=>by cases List.mem_singleton.1 hg;exact lo5);refine zn5 ?_;refine⟨⟨some ⟨g7,0,none⟩,cap7,?_,?_⟩,hB9⟩
 · show Ending.returned (.slice _ (0 + o.length) _)=_
   rw [Nat.zero_add]
 · have h:=ho7.low lo5
   rw [Nat.zero_add] at h;exact h
set_option maxHeartbeats 2000000 in
theorem Mq {w0:World} {G:Option Addr} {cg nf bn:Nat} {gr:List Nd} (hG:NodesIn w0 G gr) (hk:Vv nf gr) (l0n:w0.heap.size≤bn) {o:List Nat} {A:Option Addr} {cap:Nat} {w:World} (hB:Bel w0 w) (hok:OOk gr.length o) (hbn:Blk w bn 3 (row gr.length (fun x=> .int .i64 (kv o x)))) (hO:OrdF w bn w.heap.size A o) {i:Nat} (hin:i < gr.length) (IH:∀ (t:Nat) (o2:List Nat) (A2:Option Addr) (cap2:Nat) (w2:World),jK gr.length (Zj o2) < jK gr.length (Zj o)→t < gr.length→Bel w0 w2→OOk gr.length o2→Blk w2 bn 3 (row gr.length (fun x=> .int .i64 (kv o2 x)))→OrdF w2 bn w2.heap.size A2 o2→Calls Tryz.prog 102 #[.agg #[.slice G gr.length cg],.int .i64 (t:Nat),.slice (some ⟨bn,0,none⟩) gr.length gr.length,.slice A2 (o2).length cap2] w2 fun e w'=>∃ o' A' cap',DL gr [t] o2 o'∧e= .returned (.slice A' o'.length cap')∧Blk w' bn 3 (row gr.length (fun x=> .int .i64 (kv o' x)))∧OrdF w' bn w'.heap.size A' o'∧Same [bn] w2 w'):Calls Tryz.prog 102 #[.agg #[.slice G gr.length cg],.int .i64 (i:Nat),.slice (some ⟨bn,0,none⟩) gr.length gr.length,.slice A (o).length cap] w fun e w'=>∃ o' A' cap',DL gr [i] o o'∧e= .returned (.slice A' o'.length cap')∧Blk w' bn 3 (row gr.length (fun x=> .int .i64 (kv o' x)))∧OrdF w' bn w'.heap.size A' o'∧Same [bn] w w':=by
 have hSm:Same [bn] w w∧w.heap.size≤w.heap.size:=⟨Same.refl _ _,Nat.le_refl _⟩
 obtain⟨bd,hbde⟩:∃ b,b=w.heap.size:=⟨_,rfl⟩
 rw [← hbde] at hO;have hbd:bd≤w.heap.size:=Nat.le_of_eq hbde;have hn6:=hk.le;have hrg:=V7 hk;have hol:=hok.cnt;have hnl:=hbn.lt;refine enter Tryz.func102 Tryz.ntmps102 rfl (Nat.le_of_ble_eq_true rfl) (zn2 ?_);refine x6 (v:= .agg #[_]) (cs:=#[_]) rfl rfl (fun b4 w1 hb4 t1 hr=>?_);have:=nLL hbn.lt hr;have or_hSm_b4:=(nLT hSm.2 hr)
 have or_hbd_b4:=(nLT hbd hr)
 replace hO:=hO.tr t1 (by simp);replace hSm:=And.intro (hSm.1.freshL t1 (by simp)) (nLT hSm.2 (Same.size t1));replace hbd:=nLT hbd (Same.size t1);refine zn8 ?_;refine wl (xk (i:=i) U66 qX rfl rfl hin rfl) ?_;replace hbn:=hbn.tr0 t1;refine wl (qV (v:= .int _ _) U3 rfl rfl (hbn.cell (yk hin))) (zn3 ?_);refine zX rfl (fun c15=>?_) (fun c15=>?_)
 ·refine zn9 ?_;exact⟨o,A,cap,.old (Fq c15) .nil,rfl,hbn,hO.up hbd,hSm.1⟩
 have hni:=Fj c15;have hok2:=hok.snoc hin hni;have hol2:=hok2.cnt;refine zn8 ?_;refine wl (xk (i:=i) U66 qX rfl rfl hin rfl) ?_;refine xz (v:= .int _ _) hbn rfl rfl qX (by rw [row_size];omega) rfl jQ (fun w2 hq t2=>?_);replace hB:=hB.u.tr1 t2 l0n;replace hO:=hO.tr t2 (fun g hg=>by have h1:=List.mem_singleton.1 hg;omega);replace hSm:=And.intro (hSm.1.freshL t2 (fun g hg=>by have h1:=List.mem_singleton.1 hg;first | (left;rw [h1];simp;done) | (right;omega))) (nLT hSm.2 (Same.size t2));replace hbd:=nLT hbd (Same.size t2);replace hbn:=hq;rw [row_num hni] at hbn;refine zn3 ?_;obtain⟨bq,hbq⟩:∃ b,b=w2.heap.size:=⟨_,rfl⟩
 have hqz:bq≤w2.heap.size:=Nat.le_of_eq hbq;replace hb4:=hb4.tr1 t2 oM;have lq4:b4 < bq:=by rw [hbq];exact hb4.lt
 have lqn:bn < bq:=by rw [hbq];exact hbn.lt
 have hbd0:bd≤bq:=by rw [hbq];exact hbd
 have hSz:w.heap.size≤bq:=by rw [hbq];exact hSm.2
 have hB0:w0.heap.size≤bq:=by rw [hbq];exact Bel.size hB
 refine zn2 ?_;refine zV fn98 (clone_any _ _ _ _ o _ hO oM) rfl (fun e' w3 hr=>?_);obtain⟨⟨AC,capC,rfl,hoC⟩,t3⟩:=hr;replace t3:=sB t3;replace hO:=hO.tr t3 (by simp);replace hSm:=And.intro (hSm.1.freshL t3 (by simp)) (nLT hSm.2 (Same.size t3));replace hbd:=nLT hbd (Same.size t3);replace hqz:=nLT hqz (Same.size t3);rw [← hbq] at hoC;refine⟨_,rfl,?_⟩;refine wl (yq (v:= .int _ _) rfl) ?_;refine qw (cs:=#[_]) [(0,.int _ _)] rfl U66 qX ow dE dE kR rfl (fun b25 w4 hb25 t4 hr=>?_);replace hbn:=hbn.tr0 t3;have:=nLL hbn.lt hr;have or_hSm_b25:=(nLT hSm.2 hr)
 have or_hbd_b25:=(nLT hbd hr)
 have:=nLL hb4.u.lt hr;have or_hoC_b25:=fun g hg=>nLL (hoC.lt g hg).2 hr
 replace hO:=hO.tr t4 (by simp);replace hSm:=And.intro (hSm.1.freshL t4 (by simp)) (nLT hSm.2 (Same.size t4));replace hbd:=nLT hbd (Same.size t4);replace hqz:=nLT hqz (Same.size t4);replace hoC:=hoC.tr0 t4;refine vX U66 in3 rfl dE hoC hb25 rfl rfl rfl zQ dE oM oM hqz (fun g26 cap26 w5 ho26 t5 hg=>?_);replace hbn:=hbn.tr0 t4;have ne_ho26_bn:g26≠bn:=neA hoC hbn.lt hg
 have ne_ho26_b4:g26≠b4:=neA hoC hb4.u.lt hg
 replace hB:=hB.u.tr t5 (fun g hg=>nLT hB0 (hoC.lt g hg).1);replace hbn:=hbn.ta t5 hoC;replace hSm:=And.intro (hSm.1.freshL t5 (fun g hg=> .inr (by have:=((hoC).lt g hg).1;omega))) (nLT hSm.2 (Same.size t5));replace hb4:=hb4.tr0 (t3.trans t4);replace hb4:=hb4.ta t5 hoC;have hO2:=ord_own ho26 lqn;obtain⟨be,hbe⟩:∃ b,b=w5.heap.size:=⟨_,rfl⟩
 rw [← hbe] at hO2;have hbe2:be≤w5.heap.size:=Nat.le_of_eq hbe;refine zn5 ?_;obtain⟨nb,no,LA,lc,rfl,hnb,hnr,hln⟩:=hG.at_ hB hin;have hmx:=hln.1;unfold yJ at hmx;refine zn4 ?_;refine wl (xk (i:=i) U28 kQ rfl rfl hin rfl) (zn1 ?_);refine wl (qV (v:= .slice _ _ _) u7 rfl rfl (hnr 1 _ rfl)) (zn5 ?_);refine zW (rg [3,10] 34 11) (fun m g w'=>∃ (j:Nat) (o2:List Nat) (A2:Option Addr) (cap2:Nat),j≤(gr[i]'hin).ln.length∧m=(gr[i]'hin).ln.length - j∧g 34= .int .i64 j∧g 3= .slice A2 o2.length cap2∧DL gr ((yK gr i).take j) (o ++ [i]) o2∧Bel w0 w'∧Blk w' b4 30 #[.slice (some ⟨nb,no,none⟩) gr.length cg]∧Blk w' bn 3 (row gr.length (fun x=> .int .i64 (kv o2 x)))∧OrdF w' bn w'.heap.size A2 o2∧(Same [bn] w w'∧w.heap.size≤w'.heap.size)) ((gr[i]'hin).ln.length) ?_ (fun m g6 w6 hI=>?_)
 ·exact⟨0,_,_,_,Nat.zero_le _,rfl,rfl,sl_oV _ _ _ _,.nil,hB,hb4,hbn,hO2.up hbe2,hSm⟩
 obtain⟨j,o2,A2,cap2,hj,hm,h34,h3,hD,hB,hb4,hbn,hO,hSm⟩:=hI;obtain⟨bd,hbde⟩:∃ b,b=w6.heap.size:=⟨_,rfl⟩
 rw [← hbde] at hO;have hbd:bd≤w6.heap.size:=Nat.le_of_eq hbde;have hnl:=hbn.lt;refine zZ 34 _ h34 nu (zZ 3 _ h3 nu (zn6 ?_));refine zX rfl (fun c35=>?_) (fun c35=>?_)
 ·have hjl:j < (gr[i]'hin).ln.length:=by omega
  obtain⟨lb,lof,rfl,hlb,hlr⟩:=hln.at_ hB hjl;obtain⟨t,ht,htl⟩:∃ t:Nat,((gr[i]'hin).ln[j]'hjl).2=(t:Int)∧t < gr.length:=by
    have h1:=hk.ln i hin _ (List.getElem_mem hjl);exact⟨(((gr[i]'hin).ln[j]'hjl).2).toNat,by omega,by omega⟩
  obtain⟨hok3,s3,hs3⟩:=hD.ok hrg (fun x hx=>hrg i hin x (List.mem_of_mem_take hx)) hok2;have hlk:jK gr.length (Zj o2) < jK gr.length (Zj o):=by
    rw [hs3];exact Nat.lt_of_le_of_lt (Dw _ _ _) (Vx hin hni)
  refine zn7 ?_;refine wl (zY Zk rfl rfl hlr j7) ?_;refine qq (cs:=#[.int .i64 0,.int .i64 0]) gz rfl (fun b10 w7 hb10 t6 hr=>?_);have:=nLL hbn.lt hr;have or_hSm_b10:=(nLT hSm.2 hr)
  have:=nLL hb4.lt hr;have or_hbd_b10:=(nLT hbd hr)
  have lo10:=nLT (Bel.size hB) hr;replace hSm:=And.intro (hSm.1.freshL t6 (by simp)) (nLT hSm.2 (Same.size t6));replace hO:=hO.tr t6 (by simp);replace hbd:=nLT hbd (Same.size t6);refine zk hb10 rfl rfl j7 rfl zQ (fun w8 hq t7=>?_);replace hSm:=And.intro (hSm.1.freshL t7 (fun g hg=>by have h1:=List.mem_singleton.1 hg;first | (left;rw [h1];simp;done) | (right;omega))) (nLT hSm.2 (Same.size t7));replace hO:=hO.tr t7 (fun g hg=>by have h1:=List.mem_singleton.1 hg;omega);replace hbd:=nLT hbd (Same.size t7);replace hb10:=hq;refine zJ (e_S ?_);rw [ht] at hb10;refine zn6 ?_;replace hb4:=(hb4.tr0 t6).tr1 t7 oM;have lb4:=hb4.lt;have hO4:=hO.up hbd;replace hbn:=(hbn.tr0 t6).tr1 t7 oM;have or_b4:b4≠bn:=fun e=>absurd (jW (e ▸ hb4) hbn) dE
  refine zV fn102 (IH t o2 A2 cap2 _ hlk htl hB.u hok3 hbn hO4) rfl (fun e' w9 hr=>?_);obtain⟨o3,A3,cap3,hD3,rfl,hbn3,hO3,hS3⟩:=hr;replace hB:=(hB.tr0 t6).tr1 t7 lo10;replace hB:=hB.tr hS3 (by simpa using l0n);replace hb4:=hb4.tr hS3 (by simpa using or_b4);replace hbn:=hbn3;replace hO:=hO3;replace hSm:=And.intro (hSm.1.trans hS3) (nLT hSm.2 hS3.size);refine⟨_,rfl,?_⟩;refine zn8 ?_;refine xv ((gr[i]'hin).ln.length - (j + 1)) oM agA ?_;exact⟨j + 1,o3,A3,cap3,by omega,rfl,rfl,rfl,by rw [E3 hin hjl ht];exact hD.append hD3,hB,hb4,hbn,hO,hSm⟩
 have hjx:j=(gr[i]'hin).ln.length:=by omega
 have hfin:DL gr (yK gr i) (o ++ [i]) o2:=by
   have e:(yK gr i).take j=yK gr i:=List.take_of_length_le (by simp [yK,kJ hin,hjx]);rw [e] at hD;exact hD
 refine ky ?_;exact⟨o2,A2,cap2,.new hni hfin .nil,rfl,hbn,hO.up hbd,hSm.1⟩
theorem WW {w0:World} {G:Option Addr} {cg nf bn:Nat} {gr:List Nd} (hG:NodesIn w0 G gr) (hk:Vv nf gr) (l0n:w0.heap.size≤bn):∀ (m:Nat) (o:List Nat) (A:Option Addr) (cap:Nat) (w:World) (i:Nat),jK gr.length (Zj o)≤m→i < gr.length→Bel w0 w→OOk gr.length o→Blk w bn 3 (row gr.length (fun x=> .int .i64 (kv o x)))→OrdF w bn w.heap.size A o→Calls Tryz.prog 102 #[.agg #[.slice G gr.length cg],.int .i64 (i:Nat),.slice (some ⟨bn,0,none⟩) gr.length gr.length,.slice A (o).length cap] w fun e w'=>∃ o' A' cap',DL gr [i] o o'∧e= .returned (.slice A' o'.length cap')∧Blk w' bn 3 (row gr.length (fun x=> .int .i64 (kv o' x)))∧OrdF w' bn w'.heap.size A' o'∧Same [bn] w w':=by
  intro m
  induction m with
  | zero=>intro o A cap w i hm hin hB hok h1 h2;exact Mq hG hk l0n hB hok h1 h2 hin (fun t o2 A2 cap2 w2 hl=>by omega)
  | succ m ih=>intro o A cap w i hm hin hB hok h1 h2;exact Mq hG hk l0n hB hok h1 h2 hin (fun t o2 A2 cap2 w2 hl=>ih o2 A2 cap2 w2 t oM)
end Go.Proofs.YtbcpgfnfiekbiaaGreatDoor
namespace Go.Proofs.YtbcpgfnfiekbiaaGreatDoor
open Go.RowKit
set_option maxHeartbeats 4000000 in
theorem HJ (G:Option Addr) (cg nf:Nat) (gr:List Nd) (r:Nat) (w:World) (hG:NodesIn w G gr) (hk:Vv nf gr) (hnf:nf≤1000) (hr:r < gr.length):Calls Tryz.prog 69 #[.agg #[.slice G gr.length cg],.int .i64 r] w fun e w'=>(∃ o A c,DL gr [r] [] o∧OOk gr.length o∧e= .returned (.agg #[.slice A o.length c])∧GrT w' w.heap.size w'.heap.size A c (jY gr o) (fun x=>(nd (jY gr o) x).ty))∧Bel w w':=by
 have hn6:=hk.le;have hrg:=V7 hk;refine enT Tryz.func69 Tryz.ntmps69 rfl rfl fun hB=>?_;refine zn2 ?_;refine x6 (v:= .agg #[_]) (cs:=#[_]) rfl rfl (fun b2 w1 hb2 t1 hr=>?_);clear hr;refine qq (cs:=#[.slice none 0 0]) T4 rfl (fun b4 w2 hb4 t2 hr=>?_);have:=nLL hb2.lt hr;have lo4:=nLT (Bel.size hB.u) hr;clear hr;refine zn7 ?_;refine gv (m:=gr.length) U66 in3 rfl rfl rfl oM oM (fun b17 w3 hb17 t3 hr=>?_);have:=nLL hb2.u.lt hr;have:=nLL hb4.lt hr;have lo17:=nLT (Bel.size hB.u) hr;clear hr;refine yZ ?_;refine zW (rg [6] 20 7) (fun m g w'=>∃ k:Nat,k≤gr.length∧m=gr.length - k∧g 20= .int .i64 k∧Bel w w'∧Blk w' b2 30 #[.slice G gr.length cg]∧Blk w' b4 30 #[.slice none 0 0]∧Blk w' b17 3 (row gr.length (fun x=> .int .i64 (if x < k then -1 else 0)))) (gr.length) ?_ (fun m g3 w4 hI=>?_)
 ·refine⟨0,Nat.zero_le _,rfl,rfl,hB.u,hb2.u,hb4.u,?_⟩;rw [yz (g':=fun _=> .int .i64 0) (fun x _=>by simp)];exact hb17
 obtain⟨k,hkk,hm,h20,hB,hb2,hb4,hb17⟩:=hI;refine zZ 20 _ h20 nu (zn6 ?_);refine zX rfl (fun c21=>?_) (fun c21=>?_)
 ·have hlt:k < gr.length:=by omega
  refine ZX ?_;refine xz (v:= .int _ _) hb17 rfl rfl qX (by rw [row_size];omega) rfl jQ (fun w5 hq t4=>?_);replace hb17:=hq
  rw [yz (g':=fun x=> .int .i64 (if x < k + 1 then -1 else 0)) (fun x _=>by
    by_cases e:x=k
    · subst e;simp
    · have e1:(x < k + 1) ↔ (x < k):=by omega
      simp [e,e1])] at hb17
  refine zn7 ?_;refine xv (gr.length - (k + 1)) oM agA ?_;exact⟨k + 1,by omega,rfl,rfl,hB.u,hb2.u,hb4.u,hb17⟩
 have hke:k=gr.length:=by omega
 rw [hke,yz (g':=fun x=> .int .i64 (kv [] x)) (fun x hx=>by simp [hx,Fx])] at hb17;refine Nk ?_;have ne2:b2≠b17:=by omega
 have ne4:b4≠b17:=by omega
 refine zV fn102 (WW (w0:=w) (G:=G) (cg:=cg) (bn:=b17) hG hk lo17 gr.length [] none 0 _ r (Nz _ _) hr hB (OOk.nil _) hb17 (OrdF.nil _ _ _)) rfl (fun e' w6 hr=>?_);obtain⟨o,AO,capO,hD,rfl,hb17n,hO,hS3⟩:=hr;replace hB:=hB.tr hS3 (by simpa using lo17);replace hb2:=hb2.tr hS3 (by simpa using ne2);replace hb4:=hb4.tr hS3 (by simpa using ne4);replace hb17:=hb17n;obtain⟨hok,_,_⟩:=hD.ok hrg (fun i hi=>by rw [List.mem_singleton.1 hi];exact hr) (OOk.nil _);have hol:=hok.cnt;obtain⟨bd,hbde⟩:∃ b,b=w6.heap.size:=⟨_,rfl⟩
 rw [← hbde] at hO;have hbd:bd≤w6.heap.size:=Nat.le_of_eq hbde;refine⟨_,rfl,?_⟩;refine zn5 ?_;refine qq (cs:=#[.slice none 0 0]) T4 rfl (fun b8 w7 hb8 t5 hr=>?_);have:=nLL hb2.lt hr;have:=nLL hb4.lt hr;have:=nLL hb17.lt hr;have or_hbd_b8:=(nLT hbd hr)
 have lo8:=nLT (Bel.size hB) hr;replace hO:=hO.tr t5 (by simp);replace hbd:=nLT hbd (Same.size t5);clear hr;refine zn4 ?_;replace hO:=hO.up or_hbd_b8;have hlo8:w.heap.size≤b8 + 1:=Nat.le_succ_of_le lo8;refine zn7 ?_;refine zW (rg [10,11,13] 34 43) (fun m g w'=>∃ (k:Nat) (AN:Option Addr) (capN:Nat) (V:Nat→Value),k≤o.length∧m=o.length - k∧g 34= .int .i64 k∧Bel w w'∧Blk w' b2 30 #[.slice G gr.length cg]∧Blk w' b4 30 #[.slice none 0 0]∧Blk w' b17 3 (row gr.length (fun x=> .int .i64 (kv o x)))∧Blk w' b8 30 #[.slice AN k capN]∧OrdF w' b17 b8 AO o∧Own w' (b8 + 1) 113 2 AN k capN (ndV (fun x=> .int .i64 (nd gr (o.getD x 0)).ty) V k)∧(∀ x,x < k→RowO w' w.heap.size w'.heap.size (V x) ((nd gr (o.getD x 0)).ln.map (X3 o)))) (o.length) ?_ (fun m g11 w8 hI=>?_)
 ·exact⟨0,none,0,fun _=> .slice none 0 0,Nat.zero_le _,rfl,rfl,hB.u,hb2.u,hb4.u,hb17.u,hb8,hO,Own.nil _ _ _ _,fun x hx=>by omega⟩
 obtain⟨k,AN,capN,V,hkk,hm,h34,hB,hb2,hb4,hb17,hb8,hO,hoN,hrows⟩:=hI;obtain⟨bs,hbsz⟩:∃ b,b=w8.heap.size:=⟨_,rfl⟩
 rw [← hbsz] at hrows;have hbz:bs≤w8.heap.size:=Nat.le_of_eq hbsz;have lu8:b8 < bs:=by rw [hbsz];exact hb8.lt
 have luN:∀ g ∈ aL AN,g < bs:=fun g hg=>by rw [hbsz];exact(hoN.lt g hg).2
 refine zZ 34 _ h34 nu (zn6 ?_);refine zX rfl (fun c35=>?_) (fun c35=>?_)
 ·have hlt:k < o.length:=by omega
  obtain⟨i,hoi,hin⟩:∃ i:Nat,o[k]'hlt=i∧i < gr.length:=⟨_,rfl,hok.lt _ (List.getElem_mem hlt)⟩
  have hgd:o.getD k 0=i:=by simp [List.getD,hlt,hoi]
  have hnd:=kJ hin;obtain⟨q,rfl,hqn,hqd,hql,hqc⟩:∃ q,AO=some ⟨q,0,none⟩∧q≠b17∧q < b8∧q < w8.heap.size∧∀ k (hk:k < o.length),w8.cell? ⟨q,0 + k,none⟩=some (.int .i64 (o[k]:Nat)):=by
    rcases hO with h | ⟨_,h⟩
    · rw [h.1] at hlt;simp at hlt
    · exact h
  have hz:w8.cell? ⟨q,0 + k * 1,none⟩=some (.int .i64 (i:Int)):=by
    have:=hqc k hlt;rw [hoi] at this
    simpa using this
  obtain⟨nb,no,LA,lc,rfl,hnb,hnr,hln⟩:=hG.at_ (Below.refl _ _:Bel w w) hin;have hmx:=hln.1;unfold yJ at hmx;have hfw:=hk.few i hin;refine zn7 ?_;refine wl (qV (v:= .int _ _) U3 rfl rfl hz) (zn8 ?_);refine wl (xk (i:=i) U28 kQ rfl rfl hin rfl) (zn1 ?_);refine wl (qV (v:= .int _ _) U3 rfl rfl (hB.cell hnb (hnr 0 _ rfl))) (wl (ZY (v0:= .int _ _) (fun v0=>#[v0,.slice none 0 0]) rfl kR) ?_);refine qq (cs:=#[.int .i64 0,.slice none 0 0]) NQ rfl (fun b11 w9 hb11 t6 hr=>?_);have:=nLL hb2.lt hr;have:=nLL hb4.lt hr;have:=nLL hb17.lt hr;have:=nLL hb8.lt hr;have or_hoN_b11:=fun g hg=>nLL (hoN.lt g hg).2 hr
  have or_hbz_b11:=(nLT hbz hr)
  have lo11:=nLT (Bel.size hB) hr;replace hO:=hO.tr t6 (by simp);replace hrows:=fun x hx=>(hrows x hx).tr t6 (by simp)
  replace hbz:=nLT hbz (Same.size t6);clear hr;refine zk hb11 rfl rfl kQ rfl zQ (fun w10 hq t7=>?_);replace hO:=hO.tr t7 (fun g hg=>by have h1:=List.mem_singleton.1 hg;omega);replace hoN:=hoN.tr0 t6;replace hoN:=hoN.tr1 t7 (neL or_hoN_b11);replace hrows:=fun x hx=>(hrows x hx).tr t7 (fun g hg=>by rw [List.mem_singleton.1 hg];first | exact .inr ⟨_,_,hb11,by decide⟩ | exact .inl oM)
  replace hbz:=nLT hbz (Same.size t7);replace hb11:=hq;refine zn4 ?_;have lb11:bs≤b11:=or_hbz_b11;have hlb5:w.heap.size≤b11 + 1:=Nat.le_succ_of_le lo11;refine zn4 ?_;refine wl (xk (i:=i) U28 kQ rfl rfl hin rfl) (zn1 ?_);refine wl (qV (v:= .slice _ _ _) u7 rfl rfl (hB.u.cell hnb (hnr 1 _ rfl))) (zn5 ?_);refine zW (rg [13] 52 18) (fun m g w'=>∃ (j:Nat) (A5:Option Addr) (cap5:Nat),j≤(gr[i]'hin).ln.length∧m=(gr[i]'hin).ln.length - j∧g 52= .int .i64 j∧Bel w w'∧Blk w' b2 30 #[.slice (some ⟨nb,no,none⟩) gr.length cg]∧Blk w' b4 30 #[.slice none 0 0]∧Blk w' b17 3 (row gr.length (fun x=> .int .i64 (kv o x)))∧Blk w' b8 30 #[.slice AN k capN]∧Blk w' b11 113 #[.int .i64 (gr[i]'hin).ty,.slice A5 j cap5]∧OrdF w' b17 b8 (some ⟨q,0,none⟩) o∧Own w' (b8 + 1) 113 2 AN k capN (ndV (fun x=> .int .i64 (nd gr (o.getD x 0)).ty) V k)∧(∀ x,x < k→RowO w' w.heap.size bs (V x) ((nd gr (o.getD x 0)).ln.map (X3 o)))∧bs≤w'.heap.size∧Own w' (b11 + 1) 115 2 A5 j cap5 (lnV (((gr[i]'hin).ln.take j).map (X3 o)))) ((gr[i]'hin).ln.length) ?_ (fun m g15 w11 hI=>?_)
  ·exact⟨0,none,0,Nat.zero_le _,rfl,rfl,hB.u,hb2.u,hb4.u,hb17.u,hb8.u,hb11,hO,hoN,hrows,hbz,Own.nil _ _ _ _⟩
  obtain⟨j,A5,cap5,hj,hmj,h52,hB,hb2,hb4,hb17,hb8,hb11,hO,hoN,hrows,hbz,ho5⟩:=hI;refine zZ 52 _ h52 nu (zn6 ?_);refine zX rfl (fun c53=>?_) (fun c53=>?_)
  ·have hjl:j < (gr[i]'hin).ln.length:=by omega
   obtain⟨lb,lof,rfl,hlb,hlr⟩:=hln.at_ hB hjl;obtain⟨t,ht,htl⟩:∃ t:Nat,((gr[i]'hin).ln[j]'hjl).2=(t:Int)∧t < gr.length:=by
     have h1:=hk.ln i hin _ (List.getElem_mem hjl);exact⟨(((gr[i]'hin).ln[j]'hjl).2).toNat,by omega,by omega⟩
   refine zn7 ?_;refine wl (zY Zk rfl rfl hlr j7) ?_;refine qq (cs:=#[.int .i64 0,.int .i64 0]) gz rfl (fun b13 w12 hb13 t8 hr=>?_);have:=nLL hb2.lt hr;have:=nLL hb4.lt hr;have:=nLL hb17.lt hr;have:=nLL hb8.lt hr;have or_hbz_b13:=(nLT hbz hr)
   have:=nLL hb11.lt hr;have or_hoN_b13:=fun g hg=>nLL (hoN.lt g hg).2 hr
   have or_ho5_b13:=fun g hg=>nLL (ho5.lt g hg).2 hr
   have lo13:=nLT (Bel.size hB) hr;replace hO:=hO.tr t8 (by simp);replace hrows:=fun x hx=>(hrows x hx).tr t8 (by simp)
   replace hbz:=nLT hbz (Same.size t8);clear hr;refine zk hb13 rfl rfl j7 rfl zQ (fun w13 hq t9=>?_);replace hO:=hO.tr t9 (fun g hg=>by have h1:=List.mem_singleton.1 hg;omega);replace hrows:=fun x hx=>(hrows x hx).tr t9 (fun g hg=>by rw [List.mem_singleton.1 hg];first | exact .inr ⟨_,_,hb13,by decide⟩ | exact .inl oM)
   replace hbz:=nLT hbz (Same.size t9);replace hoN:=hoN.tr0 t8;replace hoN:=hoN.tr1 t9 (neL or_hoN_b13);replace ho5:=ho5.tr0 t8;replace ho5:=ho5.tr1 t9 (neL or_ho5_b13);replace hb13:=hq;refine zJ (e_S ?_);rw [ht] at hb13;have zo:=fun g hg=>(ho5.lt g hg).2
   replace hB:=(hB.tr0 t8).tr1 t9 lo13;have hsz:=Bel.size hB;refine kz [] [11,13] [0,1,2,3,4,5,6,7,8,9,10,11,12,13] rfl (fun w14 t10=>?_);replace hO:=hO.tr t10 (by simp);replace hrows:=fun x hx=>(hrows x hx).tr t10 (by simp)
   replace hbz:=nLT hbz (Same.size t10);refine zn7 ?_;refine hl rfl (fun _=>xk (i:=t) U66 qX rfl rfl htl rfl) (hl1 (v:= .int _ _) rfl U3 rfl rfl (hb17.u.cell (yk htl)) (hl rfl (fun _=>xY (v0:= .int _ _) (v1:= .int _ _) (fun v0 v1=>#[v0,v1]) rfl rfl kR) (h1 rfl ?_)));refine qw (cs:=#[_,_]) [(0,.agg _)] rfl u7 j7 gz dE dE kR rfl (fun b66 w15 hb66 t11 hr=>?_);have:=nLL hb2.u.lt hr;have:=nLL hb4.u.lt hr;have:=nLL hb17.u.lt hr;have:=nLL hb8.u.lt hr;have or_hbz_b66:=(nLT hbz hr)
   have:=nLL hb11.u.lt hr;replace hoN:=hoN.tr0 t10;have or_hoN_b66:=fun g hg=>nLL (hoN.lt g hg).2 hr
   replace ho5:=ho5.tr0 t10;have or_ho5_b66:=fun g hg=>nLL (ho5.lt g hg).2 hr
   have hsH10:=t11;replace hO:=hO.tr t11 (by simp);replace hrows:=fun x hx=>(hrows x hx).tr t11 (by simp)
   replace hbz:=nLT hbz (Same.size t11);clear hr;refine zJ (M5 hsH10 (h1 rfl ?_));replace ho5:=ho5.tr0 t11;refine vX u7 DQ rfl dE ho5 hb66 rfl rfl rfl zQ dE oM oM hb11.u.lt (fun g67 cap67 w16 ho67 hs2 hg67=>?_);replace hB:=hB.tr0 (t10.trans t11);replace hB:=hB.tr hs2 (fun g hg=>nLT hlb5 (ho5.lt g hg).1);replace hb2:=((hb2.tr0 t8).tr1 t9 oM).tr0 (t10.trans t11);replace hb2:=hb2.ta hs2 ho5;replace hb4:=((hb4.tr0 t8).tr1 t9 oM).tr0 (t10.trans t11);replace hb4:=hb4.ta hs2 ho5;replace hb17:=((hb17.tr0 t8).tr1 t9 oM).tr0 (t10.trans t11);replace hb17:=hb17.ta hs2 ho5;replace hO:=hO.tr hs2 (fun g hg=> .inr (by have:=((ho5).lt g hg).1;omega));replace hb8:=((hb8.tr0 t8).tr1 t9 oM).tr0 (t10.trans t11);replace hb8:=hb8.ta hs2 ho5;replace hrows:=fun x hx=>(hrows x hx).tr hs2 (fun g hg=>by first | exact .inl (by have:=((ho5).lt g hg).1;omega) | (obtain⟨cs,h⟩:=(ho5).typ g hg;exact .inr ⟨_,_,h,by decide⟩))
   replace hbz:=nLT hbz (Same.size hs2);replace hb11:=((hb11.tr0 t8).tr1 t9 oM).tr0 (t10.trans t11);replace hb11:=hb11.ta hs2 ho5;replace hoN:=hoN.tr0 t11;replace hoN:=hoN.tr hs2 (fun g hg hx=>by have:=(ho5.lt _ hx).1;(try have:=luN g hg);omega);obtain⟨g67,cap67,e67,ho67⟩:∃ g cap,(.slice (some ⟨g67,0,none⟩) (j + 1) cap67:Value)= .slice (some ⟨g,0,none⟩) (j + 1) cap∧Own w16 (b11 + 1) 115 2 (some ⟨g,0,none⟩) (j + 1) cap (lnV (((gr[i]'hin).ln.take j).map (X3 o)) ++ [.int .i64 ((gr[i]'hin).ln[j]'hjl).1,.int .i64 (kv o t)]):=⟨_,_,rfl,ho67⟩
   cases e67;refine zJ (V0 [13] (zn1 ?_));replace ho67:Own w16 (b11 + 1) 115 2 (some ⟨g67,0,none⟩) (j + 1) cap67 (lnV (((gr[i]'hin).ln.take (j + 1)).map (X3 o))):=by
     rw [List.take_succ_eq_append_getElem hjl,List.map_append,List.map_cons,List.map_nil,← u4];have e:X3 o ((gr[i]'hin).ln[j]'hjl)=(((gr[i]'hin).ln[j]'hjl).1,kv o t):=by simp [X3,ht]
     rw [e];exact ho67
   have ho5:=ho67;refine h1 rfl ?_;refine xz (v:= .slice _ _ _) hb11 rfl rfl Ez (by first | decide | simp) rfl rfl (fun w17 hq t12=>?_);have hsH13:=t12;replace hO:=hO.tr t12 (fun g hg=>by have h1:=List.mem_singleton.1 hg;omega);replace hrows:=fun x hx=>(hrows x hx).tr t12 (fun g hg=>by rw [List.mem_singleton.1 hg];first | exact .inr ⟨_,_,hb11,by decide⟩ | exact .inl oM)
   replace hbz:=nLT hbz (Same.size t12);replace hoN:=hoN.tr1 t12 (neL or_hoN_b11);replace ho5:=ho5.tq t12;replace hb11:=hq;refine zJ (V0 [] (zn7 ?_));refine xv ((gr[i]'hin).ln.length - (j + 1)) oM agA ?_;exact⟨j + 1,_,_,by omega,rfl,rfl,hB.u,hb2.u,hb4.u,hb17.u,hb8.u,hb11,hO,hoN,hrows,hbz,ho5⟩
  have hjx:j=(gr[i]'hin).ln.length:=by omega
  subst hjx;refine zn5 ?_
  have hrow5:=RowO.of (lo:=w.heap.size) (xs:=(gr[i]'hin).ln.map (X3 o)) hlb5 (by
    rw [List.take_length] at ho5
    rw [List.length_map];exact ho5)
  rw [List.length_map] at hrow5;obtain⟨s5,hs5⟩:∃ b,b=w11.heap.size:=⟨_,rfl⟩
  rw [← hs5] at hrow5;have hz5:s5≤w11.heap.size:=Nat.le_of_eq hs5;refine zn4 ?_;refine qw (cs:=#[_,_]) [(0,.agg _)] rfl U28 kQ NQ dE dE kR rfl (fun b73 w18 hb73 t13 hr=>?_);have:=nLL hb2.lt hr;have:=nLL hb4.lt hr;have:=nLL hb17.lt hr;have:=nLL hb8.lt hr;have or_hbz_b73:=(nLT hbz hr)
  have or_hoN_b73:=fun g hg=>nLL (hoN.lt g hg).2 hr
  have or_ho5_b73:=fun g hg=>nLL (ho5.lt g hg).2 hr
  have or_hz5_b73:=(nLT hz5 hr)
  replace hO:=hO.tr t13 (by simp);replace hrows:=fun x hx=>(hrows x hx).tr t13 (by simp)
  replace hbz:=nLT hbz (Same.size t13);replace hrow5:=hrow5.tr t13 (by simp);replace hz5:=nLT hz5 (Same.size t13);clear hr;replace hoN:=hoN.tr0 t13;refine vX U28 in113 rfl dE hoN hb73 rfl rfl rfl zQ dE oM oM hb8.u.lt (fun g74 cap74 w19 ho74 t14 hg=>?_);have ne_ho74_b2:g74≠b2:=neA hoN hb2.u.lt hg
  have ne_ho74_b4:g74≠b4:=neA hoN hb4.u.lt hg
  have ne_ho74_b17:g74≠b17:=neA hoN hb17.u.lt hg
  have ne_ho74_b8:g74≠b8:=neA hoN hb8.u.lt hg
  have ne_ho74_b11:g74≠b11:=neB hb11.u.lt hg (neL or_hoN_b11)
  replace hB:=hB.u.tr t14 (fun g hg=>nLT hlo8 (hoN.lt g hg).1);replace hb2:=hb2.tr0 t13;replace hb2:=hb2.ta t14 hoN;replace hb4:=hb4.tr0 t13;replace hb4:=hb4.ta t14 hoN;replace hb17:=hb17.tr0 t13;replace hb17:=hb17.ta t14 hoN;replace hO:=hO.tr t14 (fun g hg=> .inr (by have:=((hoN).lt g hg).1;omega));replace hb8:=hb8.tr0 t13;replace hb8:=hb8.ta t14 hoN;replace hrows:=fun x hx=>(hrows x hx).tr t14 (fun g hg=>by first | exact .inl (by have:=((hoN).lt g hg).1;omega) | (obtain⟨cs,h⟩:=(hoN).typ g hg;exact .inr ⟨_,_,h,by decide⟩))
  replace hbz:=nLT hbz (Same.size t14);replace hrow5:=hrow5.tr t14 (fun g hg=>by first | exact .inl (by have:=((hoN).lt g hg).1;omega) | (obtain⟨cs,h⟩:=(hoN).typ g hg;exact .inr ⟨_,_,h,by decide⟩));replace hz5:=nLT hz5 (Same.size t14);have hoN2:Own w19 (b8 + 1) 113 2 (some ⟨g74,0,none⟩) (k + 1) cap74 (ndV (fun x=> .int .i64 (nd gr (o.getD x 0)).ty) (fun x=>if x=k then .slice A5 (gr[i]'hin).ln.length cap5 else V x) (k + 1)):=by
    rw [YK,Zy (f':=(fun x=> .int .i64 (nd gr (o.getD x 0)).ty)) (h':=V) (fun x _=>rfl) (fun x hx=>by rw [if_neg (show ¬x=k from by omega)])];simp only [if_true];rw [hgd,hnd];exact ho74
  refine zn1 ?_;refine xz (v:= .slice _ _ _) hb8 rfl rfl sz28 (by first | decide | simp) rfl rfl (fun w20 hq t15=>?_);replace hO:=hO.tr t15 (fun g hg=>by have h1:=List.mem_singleton.1 hg;omega);replace hrows:=fun x hx=>(hrows x hx).tr t15 (fun g hg=>by rw [List.mem_singleton.1 hg];first | exact .inr ⟨_,_,hb8,by decide⟩ | exact .inl oM)
  replace hbz:=nLT hbz (Same.size t15);replace hrow5:=hrow5.tr t15 (fun g hg=>by rw [List.mem_singleton.1 hg];first | exact .inr ⟨_,_,hb8,by decide⟩ | exact .inl oM);replace hz5:=nLT hz5 (Same.size t15);replace hoN2:=hoN2.tq t15;replace hb8:=hq;refine zn7 ?_;refine xv (o.length - (k + 1)) oM agA ?_;replace hB:=hB.tr1 t15 lo8;replace hb2:=hb2.tr1 t15 oM;replace hb4:=hb4.tr1 t15 oM;replace hb17:=hb17.tr1 t15 oM
  exact⟨k + 1,_,_,fun x=>if x=k then .slice A5 (gr[i]'hin).ln.length cap5 else V x,by omega,rfl,rfl,hB,hb2,hb4,hb17,hb8,hO,hoN2,fun x hx=>by
    by_cases e:x=k
    · subst e
      simp only [if_true];rw [hgd,hnd];exact hrow5.up hz5
    · simp only [if_neg e]
      exact(hrows x oM).up hbz⟩
 have hke:k=o.length:=by omega
 subst hke;refine zn8 ?_;refine zk hb4 rfl rfl ZK rfl zQ (fun w21 hq t16=>?_);replace hoN:=hoN.tq t16;replace hrows:=fun x hx=>(hrows x hx).tr t16 (fun g hg=>by rw [List.mem_singleton.1 hg];first | exact .inr ⟨_,_,hb4,by decide⟩ | exact .inl oM)
 replace hbz:=nLT hbz (Same.size t16);replace hb4:=hq;refine zn3 ?_;refine x7 (.inl rfl) rfl (zy U30 rfl rfl hb4.range0 ZK) ?_;have hcl:(jY gr o).length=o.length:=by simp [jY]
 refine⟨⟨o,_,_,hD,hok,rfl,GrT.mk hoN hcl hlo8 (fun x hx=>?_) (fun g hg=>(hoN.lt g hg).2) hbz (fun x hx=>?_)⟩,hB.u⟩
 · rw [N8 hx]
 · rw [N8 hx]
   exact hrows x hx
theorem Ey (G:Option Addr) (cg nf:Nat) (gr:List Nd) (r:Nat) (w:World) (hG:NodesIn w G gr) (hk:Vv nf gr) (hnf:nf≤1000) (hr:r < gr.length):Calls Tryz.prog 69 #[.agg #[.slice G gr.length cg],.int .i64 r] w fun e w'=>(∃ o A c,DL gr [r] [] o∧OOk gr.length o∧e= .returned (.agg #[.slice A o.length c])∧(∀ w2,FrSame w.heap.size w' w2→NodesIn w2 A (jY gr o)))∧Bel w w':=(HJ G cg nf gr r w hG hk hnf hr).mono fun e w' h=>by
  obtain⟨⟨o,A,c,h1,h2,h3,h4⟩,hs⟩:=h
  exact⟨⟨o,A,c,h1,h2,h3,fun w2 hf=>by have:=(h4.fr hf).nodes;rwa [Rz] at this⟩,hs⟩
end Go.Proofs.YtbcpgfnfiekbiaaGreatDoor
namespace Go.Proofs.YtbcpgfnfiekbiaaGreatDoor
open Go.RowKit
theorem fn69:zK Tryz.prog 69=true:=by kernel_rfl
theorem HW (G:Option Addr) (cg nt nf:Nat) (gr:List Nd) (w:World) (hG:NodesIn w G gr) (hk:GOk nt nf gr) (hnf:nf≤1000):Calls Tryz.prog 36 #[.agg #[.slice G gr.length cg]] w fun e w'=>(∃ o A c,DL gr [0] [] o∧e= .returned (.agg #[.slice A o.length c])∧(∀ w2,FrSame w.heap.size w' w2→NodesIn w2 A (jY gr o)))∧Bel w w':=by
 refine enT Tryz.func36 Tryz.ntmps36 rfl rfl fun hB=>?_;refine zn2 ?_;refine x6 (v:= .agg #[_]) (cs:=#[_]) rfl rfl (fun b1 w1 hb1 s1 hr=>?_);refine qq (cs:=#[.slice none 0 0]) T4 rfl (fun b2 w2 hb2 s2 hr=>?_);have lo2:=nLT (Bel.size hB.u) hr;refine zn5 ?_;have z2:=hb2.lt;replace hB:=hB.tr0 (s1.trans s2);have hszv:=Bel.size hB;refine zV fn69 (Ey G cg nf gr 0 _ (hG.mono hB) hk.two hnf hk.pos) rfl (fun e' w3 hr=>?_);obtain⟨⟨o,AN,cn,hD,hok,rfl,hN⟩,s3⟩:=hr;replace s3:=sB s3;have hFr:FrSame (w2).heap.size w3 w3:=FrSame.refl _ _;obtain⟨Z0,hZ0⟩:∃ z,z=(w2).heap.size:=⟨_,rfl⟩
 rw [← hZ0] at hN hFr z2;obtain⟨wZ,hwZ⟩:∃ z,z=w3:=⟨_,rfl⟩
 have hz0:w.heap.size≤Z0:=by rw [hZ0];exact hszv
 replace hFr:FrSame Z0 wZ w3:=by rw [hwZ];exact FrSame.refl _ _
 rw [← hwZ] at hN;refine⟨_,rfl,?_⟩;refine zk hb2.u rfl rfl ZK rfl zQ (fun w4 hq s4=>?_);replace hFr:=hFr.of s4 (fun g hg=>by rw [List.mem_singleton.1 hg];omega);replace hb2:=hq;refine zn3 ?_;refine x7 (.inl rfl) rfl (zy U30 rfl rfl hb2.range0 ZK) ?_;exact⟨⟨o,_,_,hD,rfl,fun w2 hf=>hN w2 (hFr.then hf hz0)⟩,hB.u⟩
end Go.Proofs.YtbcpgfnfiekbiaaGreatDoor
namespace Go.Proofs.YtbcpgfnfiekbiaaGreatDoor
open Go.RowKit
inductive NdVs (w:World):List Nd→List Value→Prop
  | nil:NdVs w [] []
  | cons {x:Nd} {l:List Nd} {vs:List Value} {A:Option Addr} {c:Nat} (h:LinksIn w A x.ln) (r:NdVs w l vs):NdVs w (x :: l) (.int .i64 x.ty :: .slice A x.ln.length c :: vs)
theorem NdVs.get {w:World} {l:List Nd} {vs:List Value} (h:NdVs w l vs):∀ k (hk:k < l.length),∃ A c,vs[k * 2]? =some (.int .i64 (l[k]).ty)∧vs[k * 2 + 1]? =some (.slice A (l[k]).ln.length c)∧LinksIn w A (l[k]).ln:=by
  induction h with
  | nil=>intro k hk;simp at hk
  | cons h r ih=>
    intro k hk
    match k,hk with
    | 0,_=>exact⟨_,_,rfl,rfl,h⟩
    | k + 1,hk=>
      obtain⟨A,c,h1,h2,h3⟩:=ih k (by simpa using hk);refine⟨A,c,?_,?_,h3⟩
      · rw [show (k + 1) * 2=k * 2 + 1 + 1 from by omega];simpa using h1
      · rw [show (k + 1) * 2 + 1=k * 2 + 1 + 1 + 1 from by omega];simpa using h2
noncomputable def ordI (g:List Nd):List Nat:=@Classical.epsilon (List Nat) ⟨[]⟩ (fun o=>DL g [0] [] o)
theorem BZ {g:List Nd} {o:List Nat} (h:DL g [0] [] o):ordI g=o:=(@Classical.epsilon_spec (List Nat) (fun o=>DL g [0] [] o) ⟨o,h⟩).det h
noncomputable def J8 (l:List Ty) (fs:List Ft) (g:List Nd):List Nd:=if (uq l fs g).1=0 then jY g (ordI g) else []
theorem I6 {l:List Ty} {fs:List Ft} {g:List Nd} {o:List Nat} (h:(uq l fs g).1=0) (hd:DL g [0] [] o):J8 l fs g=jY g o:=by unfold J8;rw [if_pos h,BZ hd]
theorem rcan_any (G:Option Addr) (n cg:Nat) (l:List Ty) (fs:List Ft) (gr:List Nd) (w:World) (hG:NodesIn w G gr) (hn:gr.length=n) (h0:(uq l fs gr).1=0):Calls Tryz.prog 36 #[.agg #[.slice G n cg]] w fun e w'=>(∃ A c,e= .returned (.agg #[.slice A (J8 l fs gr).length c])∧(∀ w2,FrSame w.heap.size w' w2→NodesIn w2 A (J8 l fs gr)))∧Bel w w':=by
  subst hn;have hgv:=gv_of h0;refine(HW G cg l.length fs.length gr w hG hgv.gok (by have:=hgv.few;omega)).mono fun e w' h=>?_
  obtain⟨⟨o,A,c,hD,he,hN⟩,hs⟩:=h;refine⟨⟨A,c,?_,?_⟩,hs⟩
  · rw [he,I6 h0 hD,oK]
  · rw [I6 h0 hD];exact hN
end Go.Proofs.YtbcpgfnfiekbiaaGreatDoor
namespace Go.Proofs.YtbcpgfnfiekbiaaGreatDoor
open Go.RowKit
def tgt (xs:List (Int×Int)) (f:Int):Int:=match xs.find? (fun y=>decide (y.1=f)) with
  | some y=>y.2
  | none=>-1
theorem H7 {f:Int}:∀ {xs:List (Int×Int)} {i:Nat} (hi:i < xs.length),(xs[i]).1=f→(∀ j (hj:j < xs.length),j < i→¬(xs[j]).1=f)→tgt xs f=(xs[i]).2
  | [],_,hi,_,_=>absurd hi (by simp)
  | x :: xs,0,_,h,_=>by
    have h1:x.1=f:=h
    unfold tgt
    rw [List.find?_cons,decide_eq_true h1]
    rfl
  | x :: xs,i + 1,hi,h,hb=>by
    have h0:¬x.1=f:=hb 0 (by simp) oM
    have ih:=H7 (xs:=xs) (i:=i) (by simpa using hi) h (fun j hj hji=>hb (j + 1) (by simpa using hj) oM)
    unfold tgt at ih ⊢
    rw [List.find?_cons,decide_eq_false h0]
    exact ih
theorem H6 {f:Int}:∀ {xs:List (Int×Int)},(∀ j (hj:j < xs.length),¬(xs[j]).1=f)→tgt xs f= -1
  | [],_=>rfl
  | x :: xs,h=>by
    have h0:¬x.1=f:=h 0 (by simp)
    have ih:=H6 (xs:=xs) (f:=f) (fun j hj=>h (j + 1) (by simpa using hj))
    unfold tgt at ih ⊢
    rw [List.find?_cons,decide_eq_false h0]
    exact ih
theorem ZQ {nf n:Nat}:∀ {xs:List (Int×Int)} {last:Int},yY nf n last xs=0→(∀ j (hj:j < xs.length),last < (xs[j]).1)∧∀ i j (hi:i < xs.length) (hj:j < xs.length),i < j→(xs[i]).1 < (xs[j]).1
  | [],_,_=>⟨fun j hj=>absurd hj (by simp),fun i j hi=>absurd hi (by simp)⟩
  | y :: ys,last,h=>by
    unfold yY at h
    by_cases h1:oJ nf n y
    · rw [if_pos h1] at h;cases h
    rw [if_neg h1] at h
    by_cases h2:y.1≤last
    · rw [if_pos h2] at h;cases h
    rw [if_neg h2] at h
    obtain⟨ih1,ih2⟩:=ZQ h
    refine⟨fun j hj=>?_,fun i j hi hj hij=>?_⟩
    · match j,hj with
      | 0,_=>show last < y.1;omega
      | j + 1,hj=>
        have:=ih1 j (by simpa using hj)
        show last < (ys[j]'(by simpa using hj)).1
        omega
    · match i,j,hi,hj,hij with
      | 0,j + 1,_,hj,_=>exact ih1 j (by simpa using hj)
      | i + 1,j + 1,hi,hj,hij=>exact ih2 i j (by simpa using hi) (by simpa using hj) oM
theorem tgt_bs {nf n:Nat} {xs:List (Int×Int)} {last f:Int} {i:Nat} (hs:yY nf n last xs=0) (hlo:∀ j (hj:j < xs.length),j < i→(xs[j]).1 < f) (hhi:∀ j (hj:j < xs.length),i≤j→f≤(xs[j]).1):
    (∀ h:i < xs.length,(xs[i]).1=f→tgt xs f=(xs[i]).2)∧((¬∃ h:i < xs.length,(xs[i]).1=f)→tgt xs f= -1):=by
  refine⟨fun h e=>H7 h e (fun j hj hji=>by have:=hlo j hj hji;omega),fun hn=>H6 (fun j hj e=>?_)⟩;by_cases h1:j < i
  · have:=hlo j hj h1;omega
  · by_cases h2:j=i
    · subst h2;exact hn ⟨hj,e⟩
    · have h3:=(ZQ hs).2 i j oM hj oM
      have h4:=hhi i oM (Nat.le_refl _);omega
theorem tgt_mem {xs:List (Int×Int)} {f:Int}:tgt xs f= -1∨∃ y ∈ xs,y.1=f∧tgt xs f=y.2:=by
  unfold tgt;cases h:xs.find? (fun y=>decide (y.1=f)) with
  | none=>exact .inl rfl
  | some y=>exact .inr ⟨y,List.mem_of_find?_eq_some h,by simpa using List.find?_some h,rfl⟩
def walkT (g:List Nd):List Int→Int→Int
  | [],a=>a
  | f :: p,a=>if a < 0 then a else walkT g p (tgt (nd g a.toNat).ln f)
def pF (nf:Nat) (p:List Int) (i:Nat):Int:=match p[i]? with
  | none=>0
  | some x=>if x < 0∨(nf:Int)≤x then 3 else 0
noncomputable def atF (l:List Ty) (fs:List Ft) (g:List Nd) (p:List Int):Fl:=if ¬(uq l fs g).1=0 then uq l fs g else if 300 < p.length then (2,-3) else x8 (pF fs.length p) 0 p.length
def AtOk (l:List Ty) (fs:List Ft) (g:List Nd) (p:List Int):Prop:=(atF l fs g p).1=0∧0≤walkT g p 0
noncomputable instance (l:List Ty) (fs:List Ft) (g:List Nd) (p:List Int):Decidable (AtOk l fs g p):=Classical.propDecidable _
end Go.Proofs.YtbcpgfnfiekbiaaGreatDoor
namespace Go.Proofs.YtbcpgfnfiekbiaaGreatDoor
open Go.RowKit
section six
variable {P:Program} {Q:Exit→Act→World→Prop} {n:Nw} {f:Fr} {w:World} {ops:Array Oper} {rest:List Oper} {d:Tmp} {ty t e:TypeId} {pos:String} {af:Array Edge} {x y:Operand} {v:Value}
theorem Own.whole {base sz k cap:Nat} {A:Option Addr} {xs:List Value} (h:Own w base e sz A k cap xs) (hk:0 < k):∃ (g:Nat) (cur:Array Value),A=some ⟨g,0,none⟩∧base≤g∧Blk w g e cur∧cap≤9223372036854775807∧cur.size=cap * sz∧cur.toList.take (k * sz)=xs:=by
  rcases h.2 with ⟨_,h0⟩ | ⟨g,c,cur,hv,hb,hg,hkc,hm,hs,ht⟩
  · omega
  · cases hv
    exact⟨g,cur,rfl,hb,hg,by simpa [maxLen] using hm,hs,ht⟩
end six
end Go.Proofs.YtbcpgfnfiekbiaaGreatDoor
namespace Go.Proofs.YtbcpgfnfiekbiaaGreatDoor
open Go.RowKit
def bl (s:ByteArray):List UInt8:=s.data.toList
theorem bl_app (p q:ByteArray):bl (p ++ q)=bl p ++ bl q:=by
  unfold bl;rw [ByteArray.data_append,Array.toList_append]
theorem bl_size (p:ByteArray):(bl p).length=p.size:=by unfold bl;rw [Array.length_toList];rfl
theorem bl_ext {p q:ByteArray} (h:bl p=bl q):p=q:=by
  cases p;cases q;unfold bl at h;simp only [ByteArray.mk.injEq];exact Array.toList_inj.1 h
section rules
variable {P:Program} {Q:Exit→Act→World→Prop} {n:Nw} {f:Fr} {w w':World} {ops:Array Oper} {rest:List Oper} {d:Nat} {ty:TypeId} {pos:String} {af:Array Edge} {x y z:Operand} {t t' e:TypeId}
theorem YX {dst:Option Tmp} {gd:Option (Nat×Bool)} {p q:ByteArray} (hx:ev n f x= .string p) (hy:ev n f y= .string q) (hb:p.size + q.size≤9223372036854775807):
    RV P n f w ⟨dst,.binOp .add t x y t',ty,pos,af,gd⟩ (.string (p ++ q)) w:=by
  have h:¬((p.size + q.size:Nat):Int) > IntKind.i64.max:=by
    have e:IntKind.i64.max=9223372036854775807:=by decide
    rw [e];omega
  simp only [RV,execOp,hx,hy,eqGuard,binOp,Op.stringOp,if_neg h];rfl
end rules
end Go.Proofs.YtbcpgfnfiekbiaaGreatDoor
namespace Go.Proofs.YtbcpgfnfiekbiaaGreatDoor
open Go.RowKit
def stk (h:Nat) (s:ByteArray):ByteArray:=⟨((bl s).take h).toArray⟩
theorem ext_bl (s:ByteArray) (l h:Nat):bl (s.extract l h)=((bl s).drop l).take (h - l):=by
  unfold bl;rw [ByteArray.data_extract,Array.toList_extract,List.extract_eq_take_drop]
theorem bl_byte {s:ByteArray} {i:Nat} (hi:i < s.size):(bl s)[i]? =some (s[i]'hi):=by
  unfold bl;rw [Array.getElem?_toList,Array.getElem?_eq_getElem (by exact hi)];rfl
theorem ext_one {s:ByteArray} {i:Nat} (hi:i < s.size):s.extract i (i + 1)=⟨#[s[i]'hi]⟩:=bl_ext (by
  rw [ext_bl,show i + 1 - i=1 by omega,List.take_one,List.head?_drop,bl_byte hi]
  rfl)
section rules
variable {P:Program} {Q:Exit→Act→World→Prop} {n:Nw} {f:Fr} {w w':World} {ops:Array Oper} {rest:List Oper} {d:Nat} {ty:TypeId} {pos:String} {af:Array Edge} {x y z:Operand} {t t' e:TypeId}
theorem r_onS {dst:Option Tmp} {gd:Option (Nat×Bool)} {s:ByteArray} {i:Nat} (hu:P.underlying t=some .string) (hx:ev n f x= .string s) (hy:ev n f y= .int .i64 (i:Int)) (hz:ev n f z= .int .i64 ((i + 1:Nat):Int)) (hi:i < s.size):
    RV P n f w ⟨dst,.slice t x (some y) (some z) none,ty,pos,af,gd⟩ (.string ⟨#[s[i]'hi]⟩) w:=by
  have h1:(Instr.sliceBound (.int .i64 ((i + 1:Nat):Int)) s.size .sliceAlen).run P w= .ok (i + 1) w:=by
    simp [Instr.sliceBound,asIntOf];omega
  have h2:(Instr.sliceBound (.int .i64 (i:Int)) (i + 1) .sliceB).run P w= .ok i w:=by
    simp [Instr.sliceBound,asIntOf];omega
  simp only [Int.natCast_add,Int.cast_ofNat_Int] at h1;simp [RV,execOp,hx,hy,hz,Instr.sliceAt,run_underlying hu,Instr.slice,Instr.sliceBounds,h1,h2,ext_one hi]
end rules
def CZ (c:UInt8):List UInt8→List (List UInt8)
  | []=>[[]]
  | x :: xs=>if x=c then [] :: CZ c xs else (x :: (CZ c xs).headD []) :: (CZ c xs).tail
def sp (c:UInt8) (s:ByteArray):List ByteArray:=(CZ c (bl s)).map (fun p=>⟨p.toArray⟩)
def pc (c:UInt8) (s:ByteArray) (k:Nat):ByteArray:=(sp c s).getD k ⟨#[]⟩
def StrsIn (w:World) (A:Option Addr) (xs:List ByteArray):Prop:=
  xs.length≤yJ∧(xs≠[]→∃ b o,A=some ⟨b,o,none⟩∧b < w.heap.size∧∀ k (h:k < xs.length),w.cell? ⟨b,o + k * 1,none⟩=some (.string xs[k]))
theorem StrsIn.mono {w w':World} {A:Option Addr} {xs:List ByteArray} (h:StrsIn w A xs) (hb:Bel w w'):StrsIn w' A xs:=
  ⟨h.1,fun hn=>by
    obtain⟨b,o,e,hl,hc⟩:=h.2 hn
    exact⟨b,o,e,nLL hl hb.size,fun k hk=>hb.cell hl (hc k hk)⟩⟩
theorem StrsIn.at_ {w:World} {A:Option Addr} {xs:List ByteArray} (h:StrsIn w A xs) {k:Nat} (hk:k < xs.length):
    ∃ b o,A=some ⟨b,o,none⟩∧b < w.heap.size∧w.cell? ⟨b,o + k * 1,none⟩=some (.string xs[k]):=by
  obtain⟨b,o,e,hl,hc⟩:=h.2 (by rintro rfl;simp at hk);exact⟨b,o,e,hl,hc k hk⟩
end Go.Proofs.YtbcpgfnfiekbiaaGreatDoor
namespace Go.Proofs.YtbcpgfnfiekbiaaGreatDoor
open Go.RowKit
def ItIn (w:World) (b:Nat) (s:ByteArray) (p:Nat):Prop:=w.heap[b]? =some (.stringIter s p)
section it
variable {w w':World} {b p:Nat} {s:ByteArray} {X:List Nat}
theorem ItIn.lt (h:ItIn w b s p):b < w.heap.size:=y5 h
theorem ItIn.tr (h:ItIn w b s p) (hs:Same X w w') (hx:b ∉ X):ItIn w' b s p:=(hs.blk b h.lt hx).trans h
theorem ItIn.tr0 (h:ItIn w b s p) (hs:Same [] w w'):ItIn w' b s p:=h.tr hs (by simp)
theorem ItIn.tr1 {c:Nat} (h:ItIn w b s p) (hs:Same [c] w w') (hne:b≠c):ItIn w' b s p:=h.tr hs (by simpa using hne)
end it
section rules
variable {P:Program} {Q:Exit→Act→World→Prop} {n:Nw} {f:Fr} {w w':World} {ops:Array Oper} {rest:List Oper} {d:Nat} {ty:TypeId} {pos:String} {af:Array Edge} {x y z:Operand} {t t' e:TypeId}
end rules
end Go.Proofs.YtbcpgfnfiekbiaaGreatDoor
namespace Go.Proofs.YtbcpgfnfiekbiaaGreatDoor
open Go.RowKit
def gb (s:ByteArray) (k:Nat):Nat:=(s.get! k).toNat
def wdt (s:ByteArray) (p:Nat):Nat:=(Utf8.decode s p).2
def chF (s:ByteArray):Nat→Nat→List Nat
  | 0,_=>[]
  | f + 1,p=>if p < s.size then p :: chF s f (p + wdt s p) else []
def ch (s:ByteArray) (p:Nat):List Nat:=chF s (s.size - p) p
def badN (s:ByteArray) (p n:Nat):Prop:=s.size - p < n∨gb s (p + 1) < Lib.accLo (Lib.firstT (gb s p) / 16)∨Lib.accHi (Lib.firstT (gb s p) / 16) < gb s (p + 1)∨(3≤n∧(gb s (p + 2) < 128∨191 < gb s (p + 2)))∨(4≤n∧(gb s (p + 3) < 128∨191 < gb s (p + 3)))
instance (s:ByteArray) (p n:Nat):Decidable (badN s p n):=by unfold badN;infer_instance
def U8In (w:World):Prop:=(0 < w.heap.size∧∀ k,k < 256→w.cell? ⟨0,0 + k * 1,none⟩=some (.int .u8 ((Lib.firstT k:Nat):Int)))∧1 < w.heap.size∧∀ k,k < 16→w.rangeAt 1 (0 + k * 2) [.int .u8 ((Lib.accLo k:Nat):Int),.int .u8 ((Lib.accHi k:Nat):Int)]
theorem U8In.mono {w w':World} (h:U8In w) (hb:Bel w w'):U8In w':=⟨⟨nLL h.1.1 hb.size,fun k hk=>hb.cell h.1.1 (h.1.2 k hk)⟩,nLL h.2.1 hb.size,fun k hk=>hb.range h.2.1 (h.2.2 k hk)⟩
end Go.Proofs.YtbcpgfnfiekbiaaGreatDoor
namespace Go.Proofs.YtbcpgfnfiekbiaaGreatDoor
open Go.RowKit
structure Rl where
  name:ByteArray
  gr:List Nd
  kids:Int
  wt:Int
  mean:Tm
structure Lx where
  word:ByteArray
  gr:List Nd
  wt:Int
  mean:Tm
def RlIn (w:World) (b o:Nat) (r:Rl):Prop:=∃ G cg S cs B m,w.rangeAt b o [.string r.name,.slice G r.gr.length cg,.int .i64 r.kids,.int .i64 r.wt,.int .i64 r.mean.kind,.string r.mean.name,.int .i64 r.mean.index,.string r.mean.type.base,.slice S r.mean.type.args.length cs,.slice B r.mean.args.length m]∧NodesIn w G r.gr∧SimsIn w S r.mean.type.args∧TmsIn w B r.mean.args
def RulesIn (w:World) (A:Option Addr) (l:List Rl):Prop:=
  l.length≤yJ∧(l≠[]→∃ b o,A=some ⟨b,o,none⟩∧b < w.heap.size∧∀ k (h:k < l.length),RlIn w b (o + k * 10) l[k])
def LxIn (w:World) (b o:Nat) (r:Lx):Prop:=r.word.size < 9223372036854775807∧∃ G cg S cs B m,w.rangeAt b o [.string r.word,.slice G r.gr.length cg,.int .i64 r.wt,.int .i64 r.mean.kind,.string r.mean.name,.int .i64 r.mean.index,.string r.mean.type.base,.slice S r.mean.type.args.length cs,.slice B r.mean.args.length m]∧NodesIn w G r.gr∧SimsIn w S r.mean.type.args∧TmsIn w B r.mean.args
def LexesIn (w:World) (A:Option Addr) (l:List Lx):Prop:=
  l.length≤yJ∧(l≠[]→∃ b o,A=some ⟨b,o,none⟩∧b < w.heap.size∧∀ k (h:k < l.length),LxIn w b (o + k * 9) l[k])
theorem RlIn.mono {w w':World} {b o:Nat} {r:Rl} (h:RlIn w b o r) (hb:Bel w w') (hl:b < w.heap.size):RlIn w' b o r:=by
  obtain⟨G,cg,S,cs,B,m,h1,h2,h3,h4⟩:=h;exact⟨G,cg,S,cs,B,m,hb.range hl h1,h2.mono hb,h3.mono hb,h4.mono hb⟩
theorem LxIn.mono {w w':World} {b o:Nat} {r:Lx} (h:LxIn w b o r) (hb:Bel w w') (hl:b < w.heap.size):LxIn w' b o r:=by
  obtain⟨h0,G,cg,S,cs,B,m,h1,h2,h3,h4⟩:=h;exact⟨h0,G,cg,S,cs,B,m,hb.range hl h1,h2.mono hb,h3.mono hb,h4.mono hb⟩
theorem RulesIn.mono {w w':World} {A:Option Addr} {l:List Rl} (h:RulesIn w A l) (hb:Bel w w'):RulesIn w' A l:=
  ⟨h.1,fun hn=>by
    obtain⟨b,o,e,hl,hc⟩:=h.2 hn
    exact⟨b,o,e,nLL hl hb.size,fun k hk=>(hc k hk).mono hb hl⟩⟩
theorem LexesIn.mono {w w':World} {A:Option Addr} {l:List Lx} (h:LexesIn w A l) (hb:Bel w w'):LexesIn w' A l:=
  ⟨h.1,fun hn=>by
    obtain⟨b,o,e,hl,hc⟩:=h.2 hn
    exact⟨b,o,e,nLL hl hb.size,fun k hk=>(hc k hk).mono hb hl⟩⟩
theorem RulesIn.at_ {w w':World} {A:Option Addr} {l:List Rl} (h:RulesIn w A l) (hb:Bel w w') {k:Nat} (hk:k < l.length):
    ∃ b o G cg S cs B m,A=some ⟨b,o,none⟩∧b < w.heap.size∧w'.rangeAt b (o + k * 10) [Value.string (l[k]).name,.slice G (l[k]).gr.length cg,.int .i64 (l[k]).kids,.int .i64 (l[k]).wt,.int .i64 (l[k]).mean.kind,.string (l[k]).mean.name,.int .i64 (l[k]).mean.index,.string (l[k]).mean.type.base,.slice S (l[k]).mean.type.args.length cs,.slice B (l[k]).mean.args.length m]∧NodesIn w G (l[k]).gr∧SimsIn w S (l[k]).mean.type.args∧TmsIn w B (l[k]).mean.args:=by
  obtain⟨b,o,e,hl,hc⟩:=h.2 (by rintro rfl;simp at hk);obtain⟨G,cg,S,cs,B,m,h1,h2,h3,h4⟩:=hc k hk;exact⟨b,o,G,cg,S,cs,B,m,e,hl,hb.range hl h1,h2,h3,h4⟩
theorem LexesIn.at_ {w w':World} {A:Option Addr} {l:List Lx} (h:LexesIn w A l) (hb:Bel w w') {k:Nat} (hk:k < l.length):
    ∃ b o G cg S cs B m,A=some ⟨b,o,none⟩∧b < w.heap.size∧(l[k]).word.size < 9223372036854775807∧w'.rangeAt b (o + k * 9) [Value.string (l[k]).word,.slice G (l[k]).gr.length cg,.int .i64 (l[k]).wt,.int .i64 (l[k]).mean.kind,.string (l[k]).mean.name,.int .i64 (l[k]).mean.index,.string (l[k]).mean.type.base,.slice S (l[k]).mean.type.args.length cs,.slice B (l[k]).mean.args.length m]∧NodesIn w G (l[k]).gr∧SimsIn w S (l[k]).mean.type.args∧TmsIn w B (l[k]).mean.args:=by
  obtain⟨b,o,e,hl,hc⟩:=h.2 (by rintro rfl;simp at hk);obtain⟨h0,G,cg,S,cs,B,m,h1,h2,h3,h4⟩:=hc k hk;exact⟨b,o,G,cg,S,cs,B,m,e,hl,h0,hb.range hl h1,h2,h3,h4⟩
def plN (g:List Nd) (k:Int) (f:Nat):Bool:=decide ((0:Int)≤tgt (BY g 0).ln (f:Int)) == decide ((f:Int)≤k)
def u3 (g:List Nd) (k:Int):Bool:=(List.range 4).all (plN g k)
theorem nd_zero {g:List Nd} (h:0 < g.length):BY g 0=g[0]:=by simp [BY,List.getD,h]
theorem pl_yes {g:List Nd} {k:Int} (h:∀ f,f < 4→plN g k f=true):u3 g k=true:=List.all_eq_true.2 fun f hf=>h f (List.mem_range.1 hf)
theorem pl_no {g:List Nd} {k:Int} {f:Nat} (hf:f < 4) (h:plN g k f=false):u3 g k=false:=by
  cases e:u3 g k with
  | false=>rfl
  | true=>rw [List.all_eq_true.1 e f (List.mem_range.2 hf)] at h;cases h
theorem Bk {g:List Nd} {k:Int} {f:Nat} (h:0 < g.length):plN g k f=(decide ((0:Int)≤tgt (g[0]).ln (f:Int)) == decide ((f:Int)≤k)):=by unfold plN;rw [nd_zero h]
def Q9 (r:Rl):Prop:=r.kids < 1∨3 < r.kids∨r.wt < 0∨1000000 < r.wt
instance (r:Rl):Decidable (Q9 r):=by unfold Q9;infer_instance
noncomputable def vy (l:List Ty) (fs:List Ft) (r:Rl):Int:=if Q9 r then 3 else if (yV l fs r.gr).1≠0 then (yV l fs r.gr).1 else if u3 r.gr r.kids=true then (tmF r.mean).1 else 5
theorem IJ {l:List Ty} {fs:List Ft} {r:Rl} (h:Q9 r):vy l fs r=3:=if_pos h
theorem Rv {l:List Ty} {fs:List Ft} {r:Rl} (h:¬Q9 r) (h2:¬(yV l fs r.gr).1=0):vy l fs r=(yV l fs r.gr).1:=by unfold vy;rw [if_neg h,if_pos h2]
theorem Rx {l:List Ty} {fs:List Ft} {r:Rl} (h:¬Q9 r) (h2:(yV l fs r.gr).1=0) (h3:u3 r.gr r.kids=false):vy l fs r=5:=by unfold vy;rw [if_neg h,if_neg (fun e=>e h2),h3];rfl
theorem Rj {l:List Ty} {fs:List Ft} {r:Rl} (h:¬Q9 r) (h2:(yV l fs r.gr).1=0) (h3:u3 r.gr r.kids=true):vy l fs r=(tmF r.mean).1:=by unfold vy;rw [if_neg h,if_neg (fun e=>e h2),if_pos h3]
def lxBad (r:Lx):Prop:=r.wt < 0∨1000000 < r.wt
instance (r:Lx):Decidable (lxBad r):=by unfold lxBad;infer_instance
theorem NK {l:List Ty} {fs:List Ft} {g:List Nd} (h:(yV l fs g).1=0):(vJ l.length fs.length g).1=0:=by
  by_cases h1:(vJ l.length fs.length g).1=0
  · exact h1
  · rw [Jq h1] at h;exact h
variable {l:List Ty} {fs:List Ft} {rs:List Rl} {xs:List Lx} {st:List Nd}
theorem C0 (h:(qZ l fs).1=0):fs.length≤40:=by
  unfold qZ at h;by_cases h4:40 < fs.length
  · rw [if_pos h4] at h;cases h
  · omega
end Go.Proofs.YtbcpgfnfiekbiaaGreatDoor
