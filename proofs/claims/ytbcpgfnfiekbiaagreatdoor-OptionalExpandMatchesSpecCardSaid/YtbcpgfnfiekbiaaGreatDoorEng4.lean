/- What these functions of the program compute, at every world: glosswright/graph.Unreached, glosswright/glosswrightref3.Unreached. What these functions of the program compute, at every world: glosswright/graph.Within, glosswright/glosswrightref3.InHierarchy. What these functions of the program compute, at every world: . What these functions of the program compute, at every world: glosswright/graph.From$1. The engine's third part: cap, append of nothing, append of zeros to the nil slice. The engine's fourth part: a check of a pointer, a slice that owns its cells opened and closed again, rows of cells told by a list. -/
import Derived.Test.YtbcpgfnfiekbiaaGreatDoorU
import Derived.Test.YtbcpgfnfiekbiaaGreatDoorTrm
import Derived.Test.YtbcpgfnfiekbiaaGreatDoorGLoose
import Derived.Test.YtbcpgfnfiekbiaaGreatDoorEng2
import Derived.Lib.AppendZerosOnto
namespace Go.Proofs.YtbcpgfnfiekbiaaGreatDoor
open Go.RowKit
theorem fn101:zK Tryz.prog 101=true:=by kernel_rfl
theorem in3:(Tryz.prog.info? 3).map (fun i=>(i.zero,i.size,i.bytes))=some (some (.int .i64 0),1,8):=by kernel_rfl
theorem I0:(Tryz.prog.info? 4).map (fun i=>(i.zero,i.size,i.bytes))=some (some (.bool false),1,1):=by kernel_rfl
theorem ow:(Tryz.prog.info? 3).map (·.zero)=some (some (.int .i64 0)):=by kernel_rfl
set_option maxHeartbeats 1000000 in
theorem unr_any (G:Option Addr) (cg nt nf:Nat) (gr:List Nd) (w:World) (hG:NodesIn w G gr) (hk:GOk nt nf gr):Calls Tryz.prog 118 #[.agg #[.slice G gr.length cg]] w fun e w'=>e= .returned (.int .i64 (VK gr))∧Bel w w':=by
 have hn6:=hk.le;have hn0:=hk.pos;refine enT Tryz.func118 Tryz.ntmps118 rfl rfl fun hB=>?_;refine zn2 ?_;refine x6 (v:= .agg #[_]) (cs:=#[_]) rfl rfl (fun b1 w1 hb1 s1 hr=>?_);refine zn8 ?_;refine gv (m:=gr.length) QX I0 rfl rfl rfl oM oM (fun b11 w2 hb11 s2 hr=>?_);have:=nLL hb1.lt hr;have lo11:=nLT (Bel.size hB.u) hr;refine zn6 ?_;refine wl (xk (i:=0) QX vj rfl rfl hn0 rfl) ?_;refine xz (v:= .bool _) hb11 rfl rfl vj (by rw [row_size];omega) rfl jQ (fun w3 hq s3=>?_);replace hb11:=hq;rw [yz (g':=fun x=> .bool (oz (fun _=>false) 0 x)) (fun x _=>by by_cases e:x=0 <;> simp [oz,e])] at hb11;refine zn5 ?_;refine qw (cs:=#[_]) [(0,.int _ _)] rfl U66 qX ow dE dE kR rfl (fun b14 w4 hb14 s4 hr=>?_);have or_b11_b14:b11 < b14:=nLL hb11.lt hr;refine zn4 ?_;refine zW (rg [4,5,7] 15 41) (fun m g w'=>∃ (st:List Int) (A4:Option Addr) (cap4:Nat) (mk:Nat→Bool),m=2 * jK gr.length mk + st.length∧2 * jK gr.length mk + st.length≤200∧g 4= .slice A4 st.length cap4∧Bel w w'∧Blk w' b1 30 #[.slice G gr.length cg]∧Blk w' b11 4 (row gr.length (fun x=> .bool (mk x)))∧Own w' (b11 + 1) 3 1 A4 (st).length cap4 ((st).map (Value.int .i64))∧DS gr mk st gr.length 0) (2 * jK gr.length (oz (fun _=>false) 0) + 1) ?_ (fun m g4 w5 hI=>?_)
 ·replace hB:=((hB.tr0 (s1.trans s2)).tr1 s3 lo11).tr0 s4;replace hb1:=((hb1.tr0 s2).tr1 s3 oM).tr0 s4;replace hb11:=hb11.tr0 s4;exact⟨[0],_,_,oz (fun _=>false) 0,rfl,by have:=Nz gr.length (oz (fun _=>false) 0);simp only [List.length_cons,List.length_nil];omega,rfl,hB,hb1,hb11,KX hb14 or_b11_b14 rfl dE,DS.start hn0⟩
 obtain⟨st,A4,cap4,mk,hm,hbd,h4,hB,hb1,hb11,ho,hds⟩:=hI;refine zZ 4 _ h4 nu (zn8 ?_);refine zX rfl (fun c17=>?_) (fun c17=>?_)
 ·obtain⟨st1,z,rfl⟩:=snoc_of (show 0 < st.length by omega);obtain⟨i,rfl,hin,hds1⟩:=hds.pop;have hlen:(st1 ++ [(i:Int)]).length=st1.length + 1:=by simp
  obtain⟨q,rfl,hqb,hql,hqc⟩:=ho.cell (by simp);have hz:w5.cell? ⟨q,0 + st1.length * 1,none⟩=some (.int .i64 (i:Int)):=by
    have:=hqc st1.length (.int .i64 (i:Int)) (by simp)
    simpa using this
  obtain⟨nb,no,LA,lc,rfl,hnb,hnr,hln⟩:=hG.at_ hB hin;have hmx:=hln.1;unfold yJ at hmx;refine zn8 ?_;refine wl (j8 (c:=(st1.length:Int)) rfl rfl (by rw [hlen];omega) oM) (wl (xk (i:=st1.length) U66 qX rfl rfl (by rw [hlen];omega) rfl) (wl (qV (v:= .int _ _) U3 rfl rfl hz) (zn8 ?_)));refine wl (j8 (c:=(st1.length:Int)) rfl rfl (by rw [hlen];omega) oM) (wl (RW (h:=st1.length) U66 qX rfl rfl (by have:=ho.cap_le;omega)) (zn4 ?_));replace ho:Own w5 (b11 + 1) 3 1 (some ⟨q,0,none⟩) st1.length cap4 (st1.map (Value.int .i64)):=by
    have h:=ho.take (k':=st1.length) oM oM
    simpa using h
  refine zn4 ?_;refine wl (xk (i:=i) U28 kQ rfl rfl hin rfl) (zn1 ?_);refine wl (qV (v:= .slice _ _ _) u7 rfl rfl (hnr 1 _ rfl)) (zn5 ?_);refine zW (rg [4,7] 36 20) (fun m g w'=>∃ (j:Nat) (st2:List Int) (A5:Option Addr) (cap5:Nat) (mk2:Nat→Bool),j≤(gr[i]'hin).ln.length∧m=(gr[i]'hin).ln.length - j∧g 36= .int .i64 j∧g 4= .slice A5 st2.length cap5∧2 * jK gr.length mk2 + st2.length≤2 * jK gr.length mk + st1.length∧Bel w w'∧Blk w' b1 30 #[.slice (some ⟨nb,no,none⟩) gr.length cg]∧Blk w' b11 4 (row gr.length (fun x=> .bool (mk2 x)))∧Own w' (b11 + 1) 3 1 A5 (st2).length cap5 ((st2).map (Value.int .i64))∧DS gr mk2 st2 i j) ((gr[i]'hin).ln.length) ?_ (fun m g8 w6 hI=>?_)
  ·exact⟨0,st1,_,_,mk,Nat.zero_le _,rfl,rfl,rfl,Nat.le_refl _,hB,hb1,hb11,ho,hds1⟩
  obtain⟨j,st2,A5,cap5,mk2,hj,hmj,h36,h4,hms,hB,hb1,hb11,ho,hds2⟩:=hI;refine zZ 36 _ h36 nu (zZ 4 _ h4 nu (zn6 ?_));refine zX rfl (fun c37=>?_) (fun c37=>?_)
  ·have hjl:j < (gr[i]'hin).ln.length:=by omega
   obtain⟨lb,lof,rfl,hlb,hlr⟩:=hln.at_ hB hjl;obtain⟨t,ht,htl⟩:∃ t:Nat,((gr[i]'hin).ln[j]'hjl).2=(t:Int)∧t < gr.length:=by
     have h1:=hk.ln i hin _ (List.getElem_mem hjl);exact⟨(((gr[i]'hin).ln[j]'hjl).2).toNat,by omega,by omega⟩
   refine zn7 ?_;refine wl (zY Zk rfl rfl hlr j7) ?_;refine xV (cs:=#[.int .i64 0,.int .i64 0]) gz rfl (fun _=>rfl) (fun _=>rfl) j7 rfl zQ (fun b7 w8 hb7 s5 hr=>?_);have:=nLL hb11.lt hr;have or_ho_b7:=fun g hg=>nLL (ho.lt g hg).2 hr
   refine zn3 ?_;rw [ht] at hb7;refine zn4 ?_;refine wl (xk (i:=t) QX vj rfl rfl htl rfl) (wl (qV (v:= .bool _) U4 rfl rfl (hb11.u.cell (yk htl))) (zn3 ?_));replace ho:=ho.tr0 s5;refine vK rfl (fun c45=>?_) (fun c45=>?_)
   ·have hmt:mk2 t=false:=by simpa using c45
    refine zn5 ?_;refine wl (xk (i:=t) QX vj rfl rfl htl rfl) ?_;replace hb11:=hb11.tr0 s5;refine xz (v:= .bool _) hb11 rfl rfl vj (by rw [row_size];omega) rfl jQ (fun w9 hq s6=>?_);replace ho:=ho.tq s6;replace hb11:=hq;rw [Rq] at hb11;refine zn6 ?_;refine qw (cs:=#[_]) [(0,.int _ _)] rfl U66 qX ow dE dE kR rfl (fun b53 w10 hb53 s7 hr=>?_);have:=nLL hb1.u.lt hr;have:=nLL hb11.lt hr;replace ho:=ho.tr0 s7;refine vX U66 in3 rfl dE ho hb53 rfl rfl rfl zQ dE oM oM hb11.u.lt (fun g54 cap54 w11 ho54 s8 hg=>?_);have ne_ho54_b1:g54≠b1:=neA ho hb1.u.lt hg
    have ne_ho54_b11:g54≠b11:=neA ho hb11.u.lt hg
    have ne_ho54_b7:g54≠b7:=neB hb7.u.lt hg (neL or_ho_b7)
    replace hB:=hB.u.tr s8 (fun g hg=>nLT (Nat.le_succ_of_le lo11) (ho.lt g hg).1);replace hb1:=((hb1.tr0 s5).tr1 s6 oM).tr0 s7;replace hb1:=hb1.ta s8 ho;replace hb11:=hb11.tr0 s7;replace hb11:=hb11.ta s8 ho;refine zn8 ?_;refine xv ((gr[i]'hin).ln.length - (j + 1)) oM agA ?_
    first
      | exact⟨j + 1,st2 ++ [(t:Int)],_,_,oz mk2 t,by omega,rfl,rfl,sl_snoc _ _ _ _,by have:=FZ htl hmt;simp only [List.length_append,List.length_cons,List.length_nil];omega,hB,hb1,hb11,F5 ho54,hds2.new hin hjl ht htl⟩
      | exact⟨j + 1,st2,_,_,mk2,by omega,rfl,rfl,rfl,hms,hB,hb1,hb11,ho,hds2.old hin hjl (by rw [ht];exact hmt)⟩
   have hmt:mk2 t=true:=by simpa using c45
   refine zn7 ?_;refine xv ((gr[i]'hin).ln.length - (j + 1)) oM agA ?_;replace hB:=hB.tr0 s5;replace hb1:=hb1.tr0 s5;replace hb11:=hb11.tr0 s5
   first
     | exact⟨j + 1,st2 ++ [(t:Int)],_,_,oz mk2 t,by omega,rfl,rfl,sl_snoc _ _ _ _,by have:=FZ htl hmt;simp only [List.length_append,List.length_cons,List.length_nil];omega,hB,hb1,hb11,F5 ho54,hds2.new hin hjl ht htl⟩
     | exact⟨j + 1,st2,_,_,mk2,by omega,rfl,rfl,rfl,hms,hB,hb1,hb11,ho,hds2.old hin hjl (by rw [ht];exact hmt)⟩
  have hjx:j=(gr[i]'hin).ln.length:=by omega
  refine zn5 ?_;refine xv (2 * jK gr.length mk2 + st2.length) oM agA ?_;exact⟨st2,_,_,mk2,rfl,by omega,rfl,hB,hb1,hb11,ho,hds2.done hin hjx⟩
 have hst:st= []:=List.length_eq_zero_iff.1 oM;subst hst;have hall:=hds.end_;refine zn8 ?_;refine zV fn101 (DZ b11 gr.length mk _ hb11 oM) rfl (fun e' w12 hr=>?_);obtain⟨⟨r,rfl,hr⟩,s9⟩:=hr;replace s9:=sB s9;refine⟨_,rfl,?_⟩;refine zn5 ?_;have hun:r=VK gr:=by
   rcases hr with ⟨h1,h2⟩ | ⟨k,h1,h2,h3,h4⟩
   · rw [h1];exact hall.yes h2
   · rw [h1];exact hall.no h2 h3 h4
 exact⟨oy hun.symm,hB.u⟩
set_option maxHeartbeats 1000000 in
theorem runr_any (G:Option Addr) (cg nt nf:Nat) (gr:List Nd) (w:World) (hG:NodesIn w G gr) (hk:GOk nt nf gr):Calls Tryz.prog 67 #[.agg #[.slice G gr.length cg]] w fun e w'=>e= .returned (.int .i64 (VK gr))∧Bel w w':=by
 have hn6:=hk.le;have hn0:=hk.pos;have hrg:=gok_rng hk;refine enT Tryz.func67 Tryz.ntmps67 rfl rfl fun hB=>?_;refine zn2 ?_;refine x6 (v:= .agg #[_]) (cs:=#[_]) rfl rfl (fun b1 w1 hb1 s1 hr=>?_);refine zn8 ?_;refine gv (m:=gr.length) QX I0 rfl rfl rfl oM oM (fun b11 w2 hb11 s2 hr=>?_);have:=nLL hb1.lt hr;have lo11:=nLT (Bel.size hB.u) hr;refine zn6 ?_;refine wl (xk (i:=0) QX vj rfl rfl hn0 rfl) ?_;refine xz (v:= .bool _) hb11 rfl rfl vj (by rw [row_size];omega) rfl jQ (fun w3 hq s3=>?_);replace hb11:=hq;rw [yz (g':=fun x=> .bool (oz (fun _=>false) 0 x)) (fun x _=>by by_cases e:x=0 <;> simp [oz,e])] at hb11;refine yZ ?_;refine zW (rg [4,5,7] 17 28) (fun m g w'=>∃ (p:Nat) (mk:Nat→Bool),p≤gr.length∧m=gr.length - p∧g 17= .int .i64 p∧Bel w w'∧Blk w' b1 30 #[.slice G gr.length cg]∧Blk w' b11 4 (row gr.length (fun x=> .bool (mk x)))∧PS gr mk p) (gr.length) ?_ (fun m g4 w4 hI=>?_)
 ·exact⟨0,oz (fun _=>false) 0,Nat.zero_le _,rfl,rfl,hB.u,hb1.u,hb11,PS.start hn0⟩
 obtain⟨p,mk,hp,hm,h17,hB,hb1,hb11,hps⟩:=hI;refine zZ 17 _ h17 nu (zn6 ?_);refine zX rfl (fun c18=>?_) (fun c18=>?_)
 ·refine ky ?_;refine zW (rg [4,5,7] 22 22) (fun m g w'=>∃ (i:Nat) (mk2:Nat→Bool),i≤gr.length∧m=gr.length - i∧g 22= .int .i64 i∧Bel w w'∧Blk w' b1 30 #[.slice G gr.length cg]∧Blk w' b11 4 (row gr.length (fun x=> .bool (mk2 x)))∧PP gr mk mk2 i 0) (gr.length) ?_ (fun m g6 w5 hI=>?_)
  ·exact⟨0,mk,Nat.zero_le _,rfl,rfl,hB,hb1,hb11,PP.start hps⟩
  obtain⟨i,mk2,hi,hmi,h22,hB,hb1,hb11,hpp⟩:=hI;refine zZ 22 _ h22 nu (zn6 ?_);refine zX rfl (fun c23=>?_) (fun c23=>?_)
  ·have hin:i < gr.length:=by omega
   obtain⟨nb,no,LA,lc,rfl,hnb,hnr,hln⟩:=hG.at_ hB hin;have hmx:=hln.1;unfold yJ at hmx;refine zn8 ?_;refine wl (zY I9 rfl rfl hnr kQ) ?_;refine qq (cs:=#[.int .i64 0,.slice none 0 0]) NQ rfl (fun b5 w6 hb5 s4 hr=>?_);have:=nLL hb1.lt hr;have:=nLL hb11.lt hr;have lo5:=nLT (Bel.size hB) hr;refine waI rfl ?_;refine zk hb5 rfl rfl kQ rfl zQ (fun w7 hq s5=>?_);replace hb5:=hq;refine vq ?_;refine zW (rg [7] 30 13) (fun m g w'=>∃ (j:Nat) (mk3:Nat→Bool),j≤(gr[i]'hin).ln.length∧m=(gr[i]'hin).ln.length - j∧g 30= .int .i64 j∧Bel w w'∧Blk w' b1 30 #[.slice (some ⟨nb,no,none⟩) gr.length cg]∧Blk w' b11 4 (row gr.length (fun x=> .bool (mk3 x)))∧Blk w' b5 113 #[.int .i64 (gr[i]'hin).ty,.slice LA (gr[i]'hin).ln.length lc]∧PP gr mk mk3 i j) ((gr[i]'hin).ln.length) ?_ (fun m g9 w8 hI=>?_)
   ·exact⟨0,mk2,Nat.zero_le _,rfl,rfl,hB.u,hb1.u,hb11.u,hb5,hpp⟩
   obtain⟨j,mk3,hj,hmj,h30,hB,hb1,hb11,hb5,hpp3⟩:=hI;refine zZ 30 _ h30 nu (zn6 ?_);refine zX rfl (fun c31=>?_) (fun c31=>?_)
   ·have hjl:j < (gr[i]'hin).ln.length:=by omega
    obtain⟨lb,lof,rfl,hlb,hlr⟩:=hln.at_ hB hjl;obtain⟨t,ht,htl⟩:∃ t:Nat,((gr[i]'hin).ln[j]'hjl).2=(t:Int)∧t < gr.length:=by
      have h1:=hk.ln i hin _ (List.getElem_mem hjl);exact⟨(((gr[i]'hin).ln[j]'hjl).2).toNat,by omega,by omega⟩
    refine zn7 ?_;refine wl (zY Zk rfl rfl hlr j7) ?_;refine xV (cs:=#[.int .i64 0,.int .i64 0]) gz rfl (fun _=>rfl) (fun _=>rfl) j7 rfl zQ (fun b7 w10 hb7 s6 hr=>?_);refine zn7 ?_;refine wl (qV (v:= .bool _) U4 rfl rfl (hb11.u.cell (yk hin))) (zJ (e_S ?_));refine vK rfl (fun c37=>?_) (fun c37=>?_)
    ·rw [ht] at hb7;refine zn4 ?_;refine wl (xk (i:=t) QX vj rfl rfl htl rfl) ?_;replace hb11:=hb11.tr0 s6;refine xz (v:= .bool _) hb11 rfl rfl vj (by rw [row_size];omega) rfl jQ (fun w11 hq s7=>?_);replace hb11:=hq;rw [Rq] at hb11;refine zn7 ?_;refine xv ((gr[i]'hin).ln.length - (j + 1)) oM agA ?_;replace hB:=(hB.tr0 s6).tr1 s7 lo11;replace hb1:=(hb1.tr0 s6).tr1 s7 oM;replace hb5:=(hb5.tr0 s6).tr1 s7 oM
     first
       | exact⟨j + 1,oz mk3 t,by omega,rfl,rfl,hB,hb1,hb11,hb5,hpp3.mark hin hjl ht c37⟩
       | exact⟨j + 1,mk3,by omega,rfl,rfl,hB,hb1,hb11,hb5,hpp3.skip c37⟩
    refine zn7 ?_;refine xv ((gr[i]'hin).ln.length - (j + 1)) oM agA ?_;replace hB:=hB.tr0 s6;replace hb1:=hb1.tr0 s6;replace hb11:=hb11.tr0 s6;replace hb5:=hb5.tr0 s6
    first
      | exact⟨j + 1,oz mk3 t,by omega,rfl,rfl,hB,hb1,hb11,hb5,hpp3.mark hin hjl ht c37⟩
      | exact⟨j + 1,mk3,by omega,rfl,rfl,hB,hb1,hb11,hb5,hpp3.skip c37⟩
   have hjx:j=(gr[i]'hin).ln.length:=by omega
   refine yv ?_;refine xv (gr.length - (i + 1)) oM agA ?_;exact⟨i + 1,mk3,by omega,rfl,rfl,hB,hb1,hb11,hpp3.next hin hjx⟩
  have hie:i=gr.length:=by omega
  rw [hie] at hpp;refine yv ?_;refine xv (gr.length - (p + 1)) oM agA ?_;exact⟨p + 1,mk2,by omega,rfl,rfl,hB,hb1,hb11,PP.end_ hrg hps hpp⟩
 have hpe:p=gr.length:=by omega
 rw [hpe] at hps;have hall:=hps.end_;refine zn8 ?_;refine zV fn101 (DZ b11 gr.length mk _ hb11 oM) rfl (fun e' w12 hr=>?_);obtain⟨⟨r,rfl,hr⟩,s8⟩:=hr;replace s8:=sB s8;refine⟨_,rfl,?_⟩;refine zn5 ?_;have hun:r=VK gr:=by
   rcases hr with ⟨h1,h2⟩ | ⟨k,h1,h2,h3,h4⟩
   · rw [h1];exact hall.yes h2
   · rw [h1];exact hall.no h2 h3 h4
 exact⟨oy hun.symm,hB.u⟩
end Go.Proofs.YtbcpgfnfiekbiaaGreatDoor
namespace Go.Proofs.YtbcpgfnfiekbiaaGreatDoor
open Go.RowKit
theorem fn115:zK Tryz.prog 115=true:=by kernel_rfl
theorem fn116:zK Tryz.prog 116=true:=by kernel_rfl
theorem fn118:zK Tryz.prog 118=true:=by kernel_rfl
theorem fn65:zK Tryz.prog 65=true:=by kernel_rfl
theorem DK:zK Tryz.prog 66=true:=by kernel_rfl
theorem fn67:zK Tryz.prog 67=true:=by kernel_rfl
theorem sz25:(Tryz.prog.info? 25).map (·.size)=some 2:=by kernel_rfl
theorem ZK:(Tryz.prog.info? 30).map (·.size)=some 1:=by kernel_rfl
theorem PJ:(Tryz.prog.info? 68).map (·.size)=some 3:=by kernel_rfl
theorem uY:(Tryz.prog.info? 89).map (·.size)=some 2:=by kernel_rfl
theorem Pk:(Tryz.prog.info? 68).map (·.zero)=some (some (.agg #[.string ⟨#[]⟩,.int .i64 0,.int .i64 0])):=by kernel_rfl
set_option maxHeartbeats 1000000 in
theorem WK (A B G:Option Addr) (c d cg bu bd:Nat) (l:List Ty) (fs:List Ft) (gr:List Nd) (w:World) (hI:TableIn w l bu bd) (h60:l.length≤60) (hF:FeatsIn w B fs) (hG:NodesIn w G gr) (hfo:FOk l.length fs):Calls Tryz.prog 84 #[.agg #[.slice A l.length c,.slice B fs.length d],tabV l.length bu bd,.agg #[.slice G gr.length cg]] w fun e w'=>e= .returned (flV (yV l fs gr))∧Bel w w':=by
 refine enT Tryz.func84 Tryz.ntmps84 rfl rfl fun hB=>?_;refine zn2 ?_;refine x6 (v:= .agg #[_,_]) (cs:=#[_,_]) rfl rfl (fun b3 w1 hb3 s1 hr=>?_);refine x6 (v:= .agg #[_,_]) (cs:=#[_,_]) rfl rfl (fun b4 w2 hb4 s2 hr=>?_);refine x6 (v:= .agg #[_]) (cs:=#[_]) rfl rfl (fun b5 w3 hb5 s3 hr=>?_);refine qq (cs:=#[.int .i64 0,.int .i64 0]) qv rfl (fun b6 w4 hb6 s4 hr=>?_);have lo6:=nLT (Bel.size hB.u) hr;refine zn7 ?_;refine zV fn115 (loose_any A B G c d cg l fs gr _ (hG.mono hB.u)) rfl (fun e' w5 hr=>?_);obtain⟨rfl,s5⟩:=hr;replace s5:=sB s5;refine⟨_,rfl,?_⟩;refine xV (cs:=#[.int .i64 0,.int .i64 0]) qv rfl (fun _=>rfl) (fun _=>rfl) zq rfl zQ (fun b7 w7 hb7 s6 hr=>?_);refine zn9 ?_;refine zX rfl (fun c19=>?_) (fun c19=>?_)
 ·refine zn3 ?_;refine zk hb6.u rfl rfl zq rfl zQ (fun w8 hq s7=>?_);replace hb6:=hq;refine zn4 ?_;refine x7 (.inl rfl) rfl (zy U36 rfl rfl hb6.range0 zq) ?_;exact⟨qK (Jq c19),hB.u⟩
 have hl0:=Decidable.not_not.1 c19;have hk0:=O7 hl0;have hk6:=hk0.le;refine yZ ?_;refine zW (rg [8,9,11,12] 24 43) (fun m g w'=>∃ k:Nat,k≤gr.length∧m=gr.length - k∧g 24= .int .i64 k∧Bel w w'∧Blk w' b3 25 #[.slice A l.length c,.slice B fs.length d]∧Blk w' b4 89 #[.slice (some ⟨bu,0,none⟩) l.length l.length,.slice (some ⟨bd,0,none⟩) l.length l.length]∧Blk w' b5 30 #[.slice G gr.length cg]∧Blk w' b6 36 #[.int .i64 0,.int .i64 0]∧tyF l fs gr=x8 (tyN l fs gr) k (gr.length - k)) (gr.length) ?_ (fun m g5 w9 hI=>?_)
 ·exact⟨0,Nat.zero_le _,rfl,rfl,hB.u,hb3.u,hb4.u,hb5.u,hb6.u,rfl⟩
 obtain⟨k,hk,hm,hkk,hB,hb3,hb4,hb5,hb6,hU⟩:=hI;refine zZ 24 _ hkk nu (zn6 ?_);refine zX rfl (fun c25=>?_) (fun c25=>?_)
 ·have hlt:k < gr.length:=by omega
  obtain⟨nb,no,LA,lc,rfl,hnb,hnr,hln⟩:=hG.at_ hB hlt;have hmx:=hln.1;unfold yJ at hmx;refine zn8 ?_;refine wl (zY I9 rfl rfl hnr kQ) ?_;refine qq (cs:=#[.int .i64 0,.slice none 0 0]) NQ rfl (fun b9 w10 hb9 s8 hr=>?_);have:=nLL hb3.lt hr;have:=nLL hb4.lt hr;have:=nLL hb5.lt hr;have:=nLL hb6.lt hr;have lo9:=nLT (Bel.size hB) hr;refine waI rfl ?_;refine zk hb9 rfl rfl kQ rfl zQ (fun w11 hq s9=>?_);replace hb9:=hq;refine vq ?_;refine zW (rg [11,12] 32 34) (fun m g w'=>∃ j:Nat,j≤(gr[k]'hlt).ln.length∧m=(gr[k]'hlt).ln.length - j∧g 32= .int .i64 j∧Bel w w'∧Blk w' b3 25 #[.slice A l.length c,.slice B fs.length d]∧Blk w' b4 89 #[.slice (some ⟨bu,0,none⟩) l.length l.length,.slice (some ⟨bd,0,none⟩) l.length l.length]∧Blk w' b5 30 #[.slice (some ⟨nb,no,none⟩) gr.length cg]∧Blk w' b6 36 #[.int .i64 0,.int .i64 0]∧Blk w' b9 113 #[.int .i64 (gr[k]'hlt).ty,.slice LA (gr[k]'hlt).ln.length lc]∧(∀ j' (hj':j' < (gr[k]'hlt).ln.length),j' < j→P8 l fs gr (gr[k]'hlt).ty ((gr[k]'hlt).ln[j'])=false)) ((gr[k]'hlt).ln.length) ?_ (fun m g8 w12 hI=>?_)
  ·exact⟨0,Nat.zero_le _,rfl,rfl,hB.u,hb3.u,hb4.u,hb5.u,hb6.u,hb9,fun j' _ h=>by omega⟩
  obtain⟨j,hj,hmj,hjj,hB,hb3,hb4,hb5,hb6,hb9,hN⟩:=hI;refine zZ 32 _ hjj nu (zn6 ?_);refine zX rfl (fun c33=>?_) (fun c33=>?_)
  ·have hlj:j < (gr[k]'hlt).ln.length:=by omega
   obtain⟨lb,lof,rfl,hlb,hlr⟩:=hln.at_ hB hlj;have hxr:=hk0.ln k hlt _ (List.getElem_mem hlj);obtain⟨fi,hfi,hfl⟩:∃ t:Nat,((gr[k]'hlt).ln[j]'hlj).1=(t:Int)∧t < fs.length:=⟨(((gr[k]'hlt).ln[j]'hlj).1).toNat,by omega,by omega⟩
   obtain⟨ti,hti,htl⟩:∃ t:Nat,((gr[k]'hlt).ln[j]'hlj).2=(t:Int)∧t < gr.length:=⟨(((gr[k]'hlt).ln[j]'hlj).2).toNat,by omega,by omega⟩
   obtain⟨yn,hyn,hynl⟩:∃ t:Nat,(gr[k]'hlt).ty=(t:Int)∧t < l.length:=by
     have h:=hk0.ty k hlt;exact⟨(gr[k]'hlt).ty.toNat,by omega,by omega⟩
   obtain⟨zn,hzn,hznl⟩:∃ t:Nat,(gr[ti]'htl).ty=(t:Int)∧t < l.length:=by
     have h:=hk0.ty ti htl;exact⟨(gr[ti]'htl).ty.toNat,by omega,by omega⟩
   have hff:=hfo.at_ fi hfl;obtain⟨on,hon,honl⟩:∃ t:Nat,(fs[fi]'hfl).of=(t:Int)∧t < l.length:=⟨(fs[fi]'hfl).of.toNat,by omega,by omega⟩
   obtain⟨vn,hvn,hvnl⟩:∃ t:Nat,(fs[fi]'hfl).val=(t:Int)∧t < l.length:=⟨(fs[fi]'hfl).val.toNat,by omega,by omega⟩
   obtain⟨fb,fo,rfl,hfb,hfr⟩:=hF.at_ (Below.refl _ _:Bel w w) hfl;obtain⟨nb2,no2,LA2,lc2,he2,hnb2,hnr2,_⟩:=hG.at_ (Below.refl _ _:Bel w w) htl;cases he2;rw [hzn] at hnr2;have hlty:=lnTy_at (l:=l) hfi hfl hti htl hyn hon hvn hzn;refine zn7 ?_;refine wl (zY Zk rfl rfl hlr j7) ?_;refine xV (cs:=#[.int .i64 0,.int .i64 0]) gz rfl (fun _=>rfl) (fun _=>rfl) j7 rfl zQ (fun b11 w14 hb11 s10 hr=>?_);refine zn3 ?_;rw [hfi,hti] at hb11;refine zn7 ?_;refine xV (cs:=#[.string ⟨#[]⟩,.int .i64 0,.int .i64 0]) Pk rfl (fun _=>rfl) (fun _=>rfl) PJ rfl zQ (fun b12 w16 hb12 s11 hr=>?_);refine zn3 ?_;rw [hon,hvn] at hb12;replace hb9:=hb9.tr0 (s10.trans s11);rw [hyn] at hb9;refine yy (rg [] 42 21) (fun g w'=>g 62= .bool (!sub l yn on || !sub l zn vn)∧Same [] w16 w') ?_ (fun g11 w17 hI=>?_)
   ·refine jx [] [0,1,2,3,4,5,6,7,8,9,10,11,12,13,14,15,16,17,18,19,20] rfl (fun w18 s12=>?_);have hs0:=s12;refine zn5 ?_;refine hcl (fun v wv=>v= .bool (sub l yn on)) rfl fn116 (Tq l bu bd yn on w18 (hI.mono hB.u) h60 hynl honl) rfl (fun e' w2 hr=>?_) (fun v47 w19 s13 d47=>?_)
    ·obtain⟨rfl,s14⟩:=hr;exact⟨_,rfl,sB s14,rfl⟩
    have e47:=d47;subst e47;refine zn2 ?_;replace hs0:=hs0.trans s13;refine Sw 49 rfl (fun g49=>?_) (fun g49=>?_)
    ·refine ZX ?_;refine e_R ⟨agA,?_,hs0⟩;show Value.bool _=Value.bool _;exact congrArg Value.bool (by simp [g49])
    refine zn7 ?_;refine hg1 (v:= .int _ _) 49 rfl rfl rfl U3 rfl rfl (hB.u.cell hnb2 (hnr2 0 _ rfl)) (zn2 ?_);refine h1 rfl (zn1 ?_);refine zV fn116 (Tq l bu bd zn vn w19 (hI.mono hB.u) h60 hznl hvnl) rfl (fun e' w20 hr=>?_);obtain⟨rfl,s15⟩:=hr;replace s15:=sB s15;have hsH18:=s15;refine⟨_,rfl,?_⟩;refine zJ (M5 hsH18 (zn3 ?_));replace hs0:=hs0.trans s15;refine e_R ⟨agA,?_,hs0⟩;show Value.bool _=Value.bool _;exact congrArg Value.bool (by simp [g49])
   obtain⟨h62,s16⟩:=hI;refine gV 62 _ h62 nu (e_S ?_);refine vK rfl (fun c62=>?_) (fun c62=>?_)
   ·have hty:=GZ hlt hlj (hlty.trans c62);refine zn3 ?_;refine zV DV (gK _ _ _) rfl (fun e' w21 hr=>?_);obtain⟨rfl,s17⟩:=hr;replace s17:=sB s17;refine⟨_,rfl,?_⟩;refine zk hb6.u rfl rfl zq rfl zQ (fun w22 hq s18=>?_);replace hb6:=hq;refine yZ ?_;refine x7 (.inl rfl) rfl (zy U36 rfl rfl hb6.range0 zq) ?_;exact⟨qK (wi_ty hl0 (hU.trans (qQ (c:=12) oM hty dE))),hB.u⟩
   refine zn7 ?_;refine xv ((gr[k]'hlt).ln.length - (j + 1)) oM agA ?_;replace hb9:=hb9.tr0 s16;rw [← hyn] at hb9;replace hB:=hB.tr0 (s10.trans (s11.trans s16));replace hb3:=hb3.tr0 (s10.trans (s11.trans s16));replace hb4:=hb4.tr0 (s10.trans (s11.trans s16));replace hb5:=hb5.tr0 (s10.trans (s11.trans s16));replace hb6:=hb6.tr0 (s10.trans (s11.trans s16))
   exact⟨j + 1,by omega,rfl,rfl,hB,hb3,hb4,hb5,hb6,hb9,fun j' hj' h=>by
     by_cases e:j'=j
     · subst e;rw [hlty];simpa using c62
     · exact hN j' hj' oM⟩
  have hun:=tyN_no hlt (fun j' hj'=>hN j' hj' oM);refine yv ?_;refine xv (gr.length - (k + 1)) oM agA ?_;exact⟨k + 1,by omega,rfl,rfl,hB,hb3,hb4,hb5,hb6,hU.trans (yw hlt hun)⟩
 have hT0:=hU.trans (vk oM);refine zn9 ?_;refine zV fn118 (unr_any G cg l.length fs.length gr _ (hG.mono hB) hk0) rfl (fun e' w23 hr=>?_);obtain⟨rfl,s19⟩:=hr;replace s19:=sB s19;refine⟨_,rfl,?_⟩;refine zn9 ?_;refine zX rfl (fun c70=>?_) (fun c70=>?_)
 ·refine zn3 ?_;refine zV DV (gK _ _ _) rfl (fun e' w24 hr=>?_);obtain⟨rfl,s20⟩:=hr;replace s20:=sB s20;refine⟨_,rfl,?_⟩;refine zk hb6.u rfl rfl zq rfl zQ (fun w25 hq s21=>?_);replace hb6:=hq;refine zn4 ?_;refine x7 (.inl rfl) rfl (zy U36 rfl rfl hb6.range0 zq) ?_;exact⟨qK (WV hl0 hT0 oM),hB.u⟩
 refine zn4 ?_;refine wl (uW (vs:=#[]) (cs:=#[.int .i64 0,.int .i64 0]) (by simp) kR) ?_;refine zk hb6.u rfl rfl zq rfl zQ (fun w26 hq s22=>?_);replace hb6:=hq;refine zn3 ?_;refine x7 (.inl rfl) rfl (zy U36 rfl rfl hb6.range0 zq) ?_;exact⟨qK (C9 hl0 hT0 oM),hB.u⟩
set_option maxHeartbeats 1000000 in
theorem inh_any (A B G:Option Addr) (c d cg:Nat) (l:List Ty) (fs:List Ft) (gr:List Nd) (w:World) (hT:TypesIn w A l) (hv:VT l) (h60:l.length≤60) (hF:FeatsIn w B fs) (hG:NodesIn w G gr) (hfo:FOk l.length fs):Calls Tryz.prog 33 #[.agg #[.slice A l.length c,.slice B fs.length d],.agg #[.slice G gr.length cg]] w fun e w'=>e= .returned (flV (yV l fs gr))∧Bel w w':=by
 refine enT Tryz.func33 Tryz.ntmps33 rfl rfl fun hB=>?_;refine zn2 ?_;refine x6 (v:= .agg #[_,_]) (cs:=#[_,_]) rfl rfl (fun b2 w1 hb2 s1 hr=>?_);refine x6 (v:= .agg #[_]) (cs:=#[_]) rfl rfl (fun b3 w2 hb3 s2 hr=>?_);refine qq (cs:=#[.int .i64 0,.int .i64 0]) qv rfl (fun b4 w3 hb4 s3 hr=>?_);have lo4:=nLT (Bel.size hB.u) hr;refine zn7 ?_;refine zV fn65 (HX A B G c d cg l fs gr _ (hG.mono hB.u)) rfl (fun e' w4 hr=>?_);obtain⟨rfl,s4⟩:=hr;replace s4:=sB s4;refine⟨_,rfl,?_⟩;refine xV (cs:=#[.int .i64 0,.int .i64 0]) qv rfl (fun _=>rfl) (fun _=>rfl) zq rfl zQ (fun b5 w6 hb5 s5 hr=>?_);refine zn9 ?_;refine zX rfl (fun c17=>?_) (fun c17=>?_)
 ·refine zn3 ?_;refine zk hb4.u rfl rfl zq rfl zQ (fun w7 hq s6=>?_);replace hb4:=hq;refine zn4 ?_;refine x7 (.inl rfl) rfl (zy U36 rfl rfl hb4.range0 zq) ?_;exact⟨qK (Jq c17),hB.u⟩
 have hl0:=Decidable.not_not.1 c17;have hk0:=O7 hl0;have hk6:=hk0.le;refine yZ ?_;refine zW (rg [6,7,9,10] 22 45) (fun m g w'=>∃ k:Nat,k≤gr.length∧m=gr.length - k∧g 22= .int .i64 k∧Bel w w'∧Blk w' b2 25 #[.slice A l.length c,.slice B fs.length d]∧Blk w' b3 30 #[.slice G gr.length cg]∧Blk w' b4 36 #[.int .i64 0,.int .i64 0]∧tyF l fs gr=x8 (tyN l fs gr) k (gr.length - k)) (gr.length) ?_ (fun m g5 w8 hI=>?_)
 ·exact⟨0,Nat.zero_le _,rfl,rfl,hB.u,hb2.u,hb3.u,hb4.u,rfl⟩
 obtain⟨k,hk,hm,hkk,hB,hb2,hb3,hb4,hU⟩:=hI;refine zZ 22 _ hkk nu (zn6 ?_);refine zX rfl (fun c23=>?_) (fun c23=>?_)
 ·have hlt:k < gr.length:=by omega
  obtain⟨nb,no,LA,lc,rfl,hnb,hnr,hln⟩:=hG.at_ hB hlt;have hmx:=hln.1;unfold yJ at hmx;refine zn8 ?_;refine wl (zY I9 rfl rfl hnr kQ) ?_;refine qq (cs:=#[.int .i64 0,.slice none 0 0]) NQ rfl (fun b7 w9 hb7 s7 hr=>?_);have:=nLL hb2.lt hr;have:=nLL hb3.lt hr;have:=nLL hb4.lt hr;have lo7:=nLT (Bel.size hB) hr;refine waI rfl ?_;refine zk hb7 rfl rfl kQ rfl zQ (fun w10 hq s8=>?_);replace hb7:=hq;refine vq ?_;refine zW (rg [9,10] 30 36) (fun m g w'=>∃ j:Nat,j≤(gr[k]'hlt).ln.length∧m=(gr[k]'hlt).ln.length - j∧g 30= .int .i64 j∧Bel w w'∧Blk w' b2 25 #[.slice A l.length c,.slice B fs.length d]∧Blk w' b3 30 #[.slice (some ⟨nb,no,none⟩) gr.length cg]∧Blk w' b4 36 #[.int .i64 0,.int .i64 0]∧Blk w' b7 113 #[.int .i64 (gr[k]'hlt).ty,.slice LA (gr[k]'hlt).ln.length lc]∧(∀ j' (hj':j' < (gr[k]'hlt).ln.length),j' < j→P8 l fs gr (gr[k]'hlt).ty ((gr[k]'hlt).ln[j'])=false)) ((gr[k]'hlt).ln.length) ?_ (fun m g8 w11 hI=>?_)
  ·exact⟨0,Nat.zero_le _,rfl,rfl,hB.u,hb2.u,hb3.u,hb4.u,hb7,fun j' _ h=>by omega⟩
  obtain⟨j,hj,hmj,hjj,hB,hb2,hb3,hb4,hb7,hN⟩:=hI;refine zZ 30 _ hjj nu (zn6 ?_);refine zX rfl (fun c31=>?_) (fun c31=>?_)
  ·have hlj:j < (gr[k]'hlt).ln.length:=by omega
   obtain⟨lb,lof,rfl,hlb,hlr⟩:=hln.at_ hB hlj;have hxr:=hk0.ln k hlt _ (List.getElem_mem hlj);obtain⟨fi,hfi,hfl⟩:∃ t:Nat,((gr[k]'hlt).ln[j]'hlj).1=(t:Int)∧t < fs.length:=⟨(((gr[k]'hlt).ln[j]'hlj).1).toNat,by omega,by omega⟩
   obtain⟨ti,hti,htl⟩:∃ t:Nat,((gr[k]'hlt).ln[j]'hlj).2=(t:Int)∧t < gr.length:=⟨(((gr[k]'hlt).ln[j]'hlj).2).toNat,by omega,by omega⟩
   obtain⟨yn,hyn,hynl⟩:∃ t:Nat,(gr[k]'hlt).ty=(t:Int)∧t < l.length:=by
     have h:=hk0.ty k hlt;exact⟨(gr[k]'hlt).ty.toNat,by omega,by omega⟩
   obtain⟨zn,hzn,hznl⟩:∃ t:Nat,(gr[ti]'htl).ty=(t:Int)∧t < l.length:=by
     have h:=hk0.ty ti htl;exact⟨(gr[ti]'htl).ty.toNat,by omega,by omega⟩
   have hff:=hfo.at_ fi hfl;obtain⟨on,hon,honl⟩:∃ t:Nat,(fs[fi]'hfl).of=(t:Int)∧t < l.length:=⟨(fs[fi]'hfl).of.toNat,by omega,by omega⟩
   obtain⟨vn,hvn,hvnl⟩:∃ t:Nat,(fs[fi]'hfl).val=(t:Int)∧t < l.length:=⟨(fs[fi]'hfl).val.toNat,by omega,by omega⟩
   obtain⟨fb,fo,rfl,hfb,hfr⟩:=hF.at_ (Below.refl _ _:Bel w w) hfl;obtain⟨nb2,no2,LA2,lc2,he2,hnb2,hnr2,_⟩:=hG.at_ (Below.refl _ _:Bel w w) htl;cases he2;rw [hzn] at hnr2;have hlty:=lnTy_at (l:=l) hfi hfl hti htl hyn hon hvn hzn;refine zn7 ?_;refine wl (zY Zk rfl rfl hlr j7) ?_;refine xV (cs:=#[.int .i64 0,.int .i64 0]) gz rfl (fun _=>rfl) (fun _=>rfl) j7 rfl zQ (fun b9 w13 hb9 s9 hr=>?_);refine zn3 ?_;rw [hfi,hti] at hb9;refine zn7 ?_;refine xV (cs:=#[.string ⟨#[]⟩,.int .i64 0,.int .i64 0]) Pk rfl (fun _=>rfl) (fun _=>rfl) PJ rfl zQ (fun b10 w15 hb10 s10 hr=>?_);refine zn3 ?_;rw [hon,hvn] at hb10;replace hb7:=hb7.tr0 (s9.trans s10);rw [hyn] at hb7;refine yy (rg [] 40 23) (fun g w'=>g 62= .bool (!sub l yn on || !sub l zn vn)∧Same [] w15 w') ?_ (fun g11 w16 hI=>?_)
   ·refine jx [] [0,1,2,3,4,5,6,7,8,9,10,11,12,13,14,15,16,17,18,19,20,21,22] rfl (fun w17 s11=>?_);have hs0:=s11;refine zn6 ?_;refine hcl (fun v wv=>v= .bool (sub l yn on)) rfl DK (Cy A c l yn on w17 (hT.mono hB.u) hv h60 hynl honl) rfl (fun e' w2 hr=>?_) (fun v46 w18 s12 d46=>?_)
    ·obtain⟨rfl,s13⟩:=hr;exact⟨_,rfl,sB s13,rfl⟩
    have e46:=d46;subst e46;refine zn2 ?_;replace hs0:=hs0.trans s12;refine Sw 48 rfl (fun g48=>?_) (fun g48=>?_)
    ·refine QJ ?_;refine e_R ⟨agA,?_,hs0⟩;show Value.bool _=Value.bool _;exact congrArg Value.bool (by simp [g48])
    refine zn8 ?_;refine hg1 (v:= .int _ _) 48 rfl rfl rfl U3 rfl rfl (hB.u.cell hnb2 (hnr2 0 _ rfl)) (zn2 ?_);refine h1 rfl (zn1 ?_);refine zV DK (Cy A c l zn vn w18 (hT.mono hB.u) hv h60 hznl hvnl) rfl (fun e' w19 hr=>?_);obtain⟨rfl,s14⟩:=hr;replace s14:=sB s14;have hsH20:=s14;refine⟨_,rfl,?_⟩;refine zJ (M5 hsH20 (zn3 ?_));replace hs0:=hs0.trans s14;refine e_R ⟨agA,?_,hs0⟩;show Value.bool _=Value.bool _;exact congrArg Value.bool (by simp [g48])
   obtain⟨h62,s15⟩:=hI;refine gV 62 _ h62 nu (e_S ?_);refine vK rfl (fun c62=>?_) (fun c62=>?_)
   ·have hty:=GZ hlt hlj (hlty.trans c62);refine zn3 ?_;refine wl (xY (v0:= .int _ _) (v1:= .int _ _) (fun v0 v1=>#[v0,v1]) rfl rfl kR) ?_;refine zk hb4.u rfl rfl zq rfl zQ (fun w20 hq s16=>?_);replace hb4:=hq;refine yZ ?_;refine x7 (.inl rfl) rfl (zy U36 rfl rfl hb4.range0 zq) ?_;exact⟨qK (wi_ty hl0 (hU.trans (qQ (c:=12) oM hty dE))),hB.u⟩
   refine zn7 ?_;refine xv ((gr[k]'hlt).ln.length - (j + 1)) oM agA ?_;replace hb7:=hb7.tr0 s15;rw [← hyn] at hb7;replace hB:=hB.tr0 (s9.trans (s10.trans s15));replace hb2:=hb2.tr0 (s9.trans (s10.trans s15));replace hb3:=hb3.tr0 (s9.trans (s10.trans s15));replace hb4:=hb4.tr0 (s9.trans (s10.trans s15))
   exact⟨j + 1,by omega,rfl,rfl,hB,hb2,hb3,hb4,hb7,fun j' hj' h=>by
     by_cases e:j'=j
     · subst e;rw [hlty];simpa using c62
     · exact hN j' hj' oM⟩
  have hun:=tyN_no hlt (fun j' hj'=>hN j' hj' oM);refine yv ?_;refine xv (gr.length - (k + 1)) oM agA ?_;exact⟨k + 1,by omega,rfl,rfl,hB,hb2,hb3,hb4,hU.trans (yw hlt hun)⟩
 have hT0:=hU.trans (vk oM);refine zn9 ?_;refine zV fn67 (runr_any G cg l.length fs.length gr _ (hG.mono hB) hk0) rfl (fun e' w21 hr=>?_);obtain⟨rfl,s17⟩:=hr;replace s17:=sB s17;refine⟨_,rfl,?_⟩;refine zn9 ?_;refine zX rfl (fun c70=>?_) (fun c70=>?_)
 ·refine zn3 ?_;refine wl (xY (v0:= .int _ _) (v1:= .int _ _) (fun v0 v1=>#[v0,v1]) rfl rfl kR) ?_;refine zk hb4.u rfl rfl zq rfl zQ (fun w22 hq s18=>?_);replace hb4:=hq;refine zn4 ?_;refine x7 (.inl rfl) rfl (zy U36 rfl rfl hb4.range0 zq) ?_;exact⟨qK (WV hl0 hT0 oM),hB.u⟩
 refine zn4 ?_;refine wl (uW (vs:=#[]) (cs:=#[.int .i64 0,.int .i64 0]) (by simp) kR) ?_;refine zk hb4.u rfl rfl zq rfl zQ (fun w23 hq s19=>?_);replace hb4:=hq;refine zn3 ?_;refine x7 (.inl rfl) rfl (zy U36 rfl rfl hb4.range0 zq) ?_;exact⟨qK (C9 hl0 hT0 oM),hB.u⟩
end Go.Proofs.YtbcpgfnfiekbiaaGreatDoor
namespace Go.Proofs.YtbcpgfnfiekbiaaGreatDoor
open Go.RowKit
theorem qy {w:World} {b t:Nat} (xs:List Int) (h:Blk w b t (xs.map (Value.int .i64)).toArray) (hl:xs.length≤yJ):IntsIn w (some ⟨b,0,none⟩) xs:=
  ⟨hl,fun _=>⟨b,0,rfl,h.lt,fun k hk=>h.cell (by simp [hk])⟩⟩
theorem SZ {w:World} {b t:Nat} (fs:List Ft) (h:Blk w b t (fs.flatMap (fun f=>[Value.string f.name,.int .i64 f.of,.int .i64 f.val])).toArray) (hl:fs.length≤yJ):FeatsIn w (some ⟨b,0,none⟩) fs:=by
  refine⟨hl,fun _=>⟨b,0,rfl,h.lt,fun k hk=>?_⟩⟩;have key:∀ (l:List Ft) (k:Nat) (hk:k < l.length) (j:Nat) (v:Value),[Value.string (l[k]).name,.int .i64 (l[k]).of,.int .i64 (l[k]).val][j]? =some v→(l.flatMap (fun f=>[Value.string f.name,.int .i64 f.of,.int .i64 f.val]))[k * 3 + j]? =some v:=by
    intro l
    induction l with
    | nil=>intro k hk;simp at hk
    | cons a r ih=>
      intro k hk j v hj
      match k,hk with
      | 0,_=>
        have hj3:j < 3:=(List.getElem?_eq_some_iff.1 hj).1;rw [List.flatMap_cons,List.getElem?_append_left (by simpa using hj3)]
        simpa using hj
      | k + 1,hk=>
        rw [List.flatMap_cons,List.getElem?_append_right (by simp;omega)];have:=ih k (by simpa using hk) j v hj;have e:(k + 1) * 3 + j - [Value.string a.name,.int .i64 a.of,.int .i64 a.val].length=k * 3 + j:=by simp;omega
        rw [e];exact this
  intro j v hj;have:=key fs k hk j v hj;exact h.cell (by simpa using this)
inductive TyVs (w:World):List Ty→List Value→Prop
  | nil:TyVs w [] []
  | cons {t:Ty} {l:List Ty} {vs:List Value} {A:Option Addr} {c:Nat} (h:IntsIn w A t.par) (r:TyVs w l vs):TyVs w (t :: l) (.string t.name :: .slice A t.par.length c :: vs)
theorem TyVs.get {w:World} {l:List Ty} {vs:List Value} (h:TyVs w l vs):∀ k (hk:k < l.length),∃ A c,vs[k * 2]? =some (.string (l[k]).name)∧vs[k * 2 + 1]? =some (.slice A (l[k]).par.length c)∧IntsIn w A (l[k]).par:=by
  induction h with
  | nil=>intro k hk;simp at hk
  | cons h r ih=>
    intro k hk
    match k,hk with
    | 0,_=>exact⟨_,_,rfl,rfl,h⟩
    | k + 1,hk=>
      obtain⟨A,c,h1,h2,h3⟩:=ih k (by simpa using hk);refine⟨A,c,?_,?_,h3⟩
      · rw [show (k + 1) * 2=k * 2 + 1 + 1 from by omega];simpa using h1
      · rw [show (k + 1) * 2 + 1=k * 2 + 1 + 1 + 1 from by omega];simpa using h2
end Go.Proofs.YtbcpgfnfiekbiaaGreatDoor
namespace Go.Proofs.YtbcpgfnfiekbiaaGreatDoor
open Go.RowKit
theorem fn111:zK Tryz.prog 111=true:=by kernel_rfl
theorem Mx:(Tryz.prog.info? 66).map (·.size)=some 1:=by kernel_rfl
set_option maxHeartbeats 2000000 in
theorem NV {w0:World} {G:Option Addr} {cg nf bP bQ bG bV bn base:Nat} {gr:List Nd} (hG:NodesIn w0 G gr) (hk:Vv nf gr) (hlo:w0.heap.size≤base) (_l0P:w0.heap.size≤bP) (l0Q:w0.heap.size≤bQ) (_l0G:w0.heap.size≤bG) (_l0V:w0.heap.size≤bV) (l0n:w0.heap.size≤bn) (lP:bP < base) (lQ:bQ < base) (lG:bG < base) (lV:bV < base) (ln:bn < base) (nPQ:bP≠bQ) (nPn:bP≠bn) (nQn:bQ≠bn) (nGQ:bG≠bQ) (nGn:bG≠bn) (nVQ:bV≠bQ) (nVn:bV≠bn) {o:List Nat} {A:Option Addr} {cap:Nat} {w:World} (hB:Bel w0 w) (hbs:base≤w.heap.size) (hok:OOk gr.length o) (hbP:Blk w bP 66 #[.slice (some ⟨bn,0,none⟩) gr.length gr.length]) (hbQ:Blk w bQ 66 #[.slice A (o).length cap]) (hbG:Blk w bG 30 #[.slice G gr.length cg]) (hbV:Blk w bV 170 #[.func (.func 111) #[] #[.pointer (some ⟨bP,0,none⟩),.pointer (some ⟨bQ,0,none⟩),.pointer (some ⟨bG,0,none⟩),.pointer (some ⟨bV,0,none⟩)]]) (hbn:Blk w bn 3 (row gr.length (fun x=> .int .i64 (kv o x)))) (ho:Own w base 3 1 A (o).length cap (oV (o))) {i:Nat} (hin:i < gr.length) (IH:∀ (t:Nat) (o2:List Nat) (A2:Option Addr) (cap2:Nat) (w2:World),jK gr.length (Zj o2) < jK gr.length (Zj o)→t < gr.length→Bel w0 w2→base≤w2.heap.size→OOk gr.length o2→Blk w2 bP 66 #[.slice (some ⟨bn,0,none⟩) gr.length gr.length]→Blk w2 bQ 66 #[.slice A2 (o2).length cap2]→Blk w2 bG 30 #[.slice G gr.length cg]→Blk w2 bV 170 #[.func (.func 111) #[] #[.pointer (some ⟨bP,0,none⟩),.pointer (some ⟨bQ,0,none⟩),.pointer (some ⟨bG,0,none⟩),.pointer (some ⟨bV,0,none⟩)]]→Blk w2 bn 3 (row gr.length (fun x=> .int .i64 (kv o2 x)))→Own w2 base 3 1 A2 (o2).length cap2 (oV (o2))→Calls Tryz.prog 111 #[.int .i64 (t:Nat),.pointer (some ⟨bP,0,none⟩),.pointer (some ⟨bQ,0,none⟩),.pointer (some ⟨bG,0,none⟩),.pointer (some ⟨bV,0,none⟩)] w2 fun e w'=>e= .returned (.tuple #[])∧∃ o' A' cap',DL gr [t] o2 o'∧Blk w' bQ 66 #[.slice A' o'.length cap']∧Own w' base 3 1 A' o'.length cap' (oV o')∧Blk w' bn 3 (row gr.length (fun x=> .int .i64 (kv o' x)))∧Chg base [bQ,bn] w2 w'):Calls Tryz.prog 111 #[.int .i64 (i:Nat),.pointer (some ⟨bP,0,none⟩),.pointer (some ⟨bQ,0,none⟩),.pointer (some ⟨bG,0,none⟩),.pointer (some ⟨bV,0,none⟩)] w fun e w'=>e= .returned (.tuple #[])∧∃ o' A' cap',DL gr [i] o o'∧Blk w' bQ 66 #[.slice A' o'.length cap']∧Own w' base 3 1 A' o'.length cap' (oV o')∧Blk w' bn 3 (row gr.length (fun x=> .int .i64 (kv o' x)))∧Chg base [bQ,bn] w w':=by
 have hCS:Chg base [bQ,bn] w w∧base≤w.heap.size:=⟨Chg.refl _ _ _,hbs⟩
 have hn6:=hk.le;have hrg:=V7 hk;have hol:=hok.cnt;refine enter Tryz.func111 Tryz.ntmps111 rfl (Nat.le_of_ble_eq_true rfl) (zn5 ?_);refine wl (xk (i:=i) U66 qX rfl rfl hin rfl) (wl (qV (v:= .int _ _) U3 rfl rfl (hbn.cell (yk hin))) (zn3 ?_));refine zX rfl (fun c12=>?_) (fun c12=>?_)
 ·refine c_ret (e_Sr (fin0 (.inl rfl) rfl  ?_));exact⟨rfl,o,A,cap,.old (Fq c12) .nil,hbQ,ho,hbn,hCS.1⟩
 have hni:=Fj c12;have hok2:=hok.snoc hin hni;have hol2:=hok2.cnt;refine zn8 ?_;refine wl (xk (i:=i) U66 qX rfl rfl hin rfl) ?_;refine xz (v:= .int _ _) hbn rfl rfl qX (by rw [row_size];omega) rfl jQ (fun w1 hq t1=>?_);replace hB:=hB.tr1 t1 l0n;replace ho:=ho.tq t1;replace hCS:=And.intro (hCS.1.st t1 hCS.2 (fun g hg=>by have h1:=List.mem_singleton.1 hg;first | (left;rw [h1];simp;done) | (right;omega))) (nLT hCS.2 (Same.size t1));replace hbn:=hq;rw [row_num hni] at hbn;refine zn6 ?_;refine qw (cs:=#[_]) [(0,.int _ _)] rfl U66 qX ow dE dE kR rfl (fun b20 w2 hb20 t2 hr=>?_);have:=nLL hbP.u.lt hr;have:=nLL hbQ.u.lt hr;have:=nLL hbG.u.lt hr;have:=nLL hbV.u.lt hr;have:=nLL hbn.lt hr;have or_ho_b20:=fun g hg=>nLL (ho.lt g hg).2 hr
 have or_hCS_b20:=(nLT hCS.2 hr)
 replace hCS:=And.intro (hCS.1.st t2 hCS.2 (by simp)) (nLT hCS.2 (Same.size t2));replace ho:=ho.tr0 t2;refine vX U66 in3 rfl dE ho hb20 rfl rfl rfl zQ dE oM oM hCS.2 (fun g21 cap21 w3 ho21 t3 hg=>?_);replace hbn:=hbn.tr0 t2;have ne_ho21_bP:g21≠bP:=neA ho hbP.u.lt hg
 have ne_ho21_bQ:g21≠bQ:=neA ho hbQ.u.lt hg
 have ne_ho21_bG:g21≠bG:=neA ho hbG.u.lt hg
 have ne_ho21_bV:g21≠bV:=neA ho hbV.u.lt hg
 have ne_ho21_bn:g21≠bn:=neA ho hbn.lt hg
 replace hB:=hB.u.tr t3 (fun g hg=>nLT hlo (ho.lt g hg).1);replace hbP:=(hbP.tr1 t1 oM).tr0 t2;replace hbP:=hbP.ta t3 ho;replace hbQ:=(hbQ.tr1 t1 oM).tr0 t2;replace hbQ:=hbQ.ta t3 ho;replace hbG:=(hbG.tr1 t1 oM).tr0 t2;replace hbG:=hbG.ta t3 ho;replace hbV:=(hbV.tr1 t1 oM).tr0 t2;replace hbV:=hbV.ta t3 ho;replace hbn:=hbn.ta t3 ho;replace hCS:=And.intro (hCS.1.st t3 hCS.2 (fun g hg=> .inr ((ho).lt g hg).1)) (nLT hCS.2 (Same.size t3));refine xz (v:= .slice _ _ _) hbQ rfl rfl Mx (by first | decide | simp) rfl rfl (fun w4 hq t4=>?_);replace hB:=hB.tr1 t4 l0Q;replace hCS:=And.intro (hCS.1.st t4 hCS.2 (fun g hg=>by have h1:=List.mem_singleton.1 hg;first | (left;rw [h1];simp;done) | (right;omega))) (nLT hCS.2 (Same.size t4));replace ho21:=ho21.tr1 t4 (neS ne_ho21_bQ);replace hbQ:=hq;replace hbQ:Blk w4 bQ 66 #[.slice (some ⟨g21,0,none⟩) (o ++ [i]).length cap21]:=by rw [← sl_oV];exact hbQ
 replace ho21:=own_oV ho21;refine zn3 ?_;obtain⟨nb,no,LA,lc,rfl,hnb,hnr,hln⟩:=hG.at_ hB hin;have hmx:=hln.1;unfold yJ at hmx;refine zn4 ?_;refine wl (xk (i:=i) U28 kQ rfl rfl hin rfl) (zn1 ?_);refine wl (qV (v:= .slice _ _ _) u7 rfl rfl (hnr 1 _ rfl)) (zn5 ?_);replace hbn:=hbn.tr1 t4 oM;refine zW (rg [7] 29 9) (fun m g w'=>∃ (j:Nat) (o2:List Nat) (A2:Option Addr) (cap2:Nat),j≤(gr[i]'hin).ln.length∧m=(gr[i]'hin).ln.length - j∧g 29= .int .i64 j∧DL gr ((yK gr i).take j) (o ++ [i]) o2∧Bel w0 w'∧Blk w' bP 66 #[.slice (some ⟨bn,0,none⟩) gr.length gr.length]∧Blk w' bQ 66 #[.slice A2 (o2).length cap2]∧Blk w' bG 30 #[.slice (some ⟨nb,no,none⟩) gr.length cg]∧Blk w' bV 170 #[.func (.func 111) #[] #[.pointer (some ⟨bP,0,none⟩),.pointer (some ⟨bQ,0,none⟩),.pointer (some ⟨bG,0,none⟩),.pointer (some ⟨bV,0,none⟩)]]∧Blk w' bn 3 (row gr.length (fun x=> .int .i64 (kv o2 x)))∧Own w' base 3 1 A2 (o2).length cap2 (oV (o2))∧(Chg base [bQ,bn] w w'∧base≤w'.heap.size)) ((gr[i]'hin).ln.length) ?_ (fun m g4 w5 hI=>?_)
 ·exact⟨0,_,_,_,Nat.zero_le _,rfl,rfl,.nil,hB,hbP.u,hbQ,hbG.u,hbV.u,hbn,ho21,hCS⟩
 obtain⟨j,o2,A2,cap2,hj,hm,h29,hD,hB,hbP,hbQ,hbG,hbV,hbn,ho,hCS⟩:=hI;refine zZ 29 _ h29 nu (zn6 ?_);refine zX rfl (fun c30=>?_) (fun c30=>?_)
 ·have hjl:j < (gr[i]'hin).ln.length:=by omega
  obtain⟨lb,lof,rfl,hlb,hlr⟩:=hln.at_ hB hjl;obtain⟨t,ht,htl⟩:∃ t:Nat,((gr[i]'hin).ln[j]'hjl).2=(t:Int)∧t < gr.length:=by
    have h1:=hk.ln i hin _ (List.getElem_mem hjl);exact⟨(((gr[i]'hin).ln[j]'hjl).2).toNat,by omega,by omega⟩
  obtain⟨hok3,s3,hs3⟩:=hD.ok hrg (fun x hx=>hrg i hin x (List.mem_of_mem_take hx)) hok2;have hlk:jK gr.length (Zj o2) < jK gr.length (Zj o):=by
    rw [hs3];exact Nat.lt_of_le_of_lt (Dw _ _ _) (Vx hin hni)
  refine zn7 ?_;refine wl (zY Zk rfl rfl hlr j7) ?_;refine qq (cs:=#[.int .i64 0,.int .i64 0]) gz rfl (fun b7 w6 hb7 t5 hr=>?_);have:=nLL hbP.lt hr;have:=nLL hbQ.lt hr;have:=nLL hbG.lt hr;have:=nLL hbV.lt hr;have:=nLL hbn.lt hr;have or_hCS_b7:=(nLT hCS.2 hr)
  have or_ho_b7:=fun g hg=>nLL (ho.lt g hg).2 hr
  have lo7:=nLT (Bel.size hB) hr;replace hCS:=And.intro (hCS.1.st t5 hCS.2 (by simp)) (nLT hCS.2 (Same.size t5));refine zk hb7 rfl rfl j7 rfl zQ (fun w7 hq t6=>?_);replace hCS:=And.intro (hCS.1.st t6 hCS.2 (fun g hg=>by have h1:=List.mem_singleton.1 hg;first | (left;rw [h1];simp;done) | (right;omega))) (nLT hCS.2 (Same.size t6));replace ho:=ho.tr0 t5;replace ho:=ho.tr1 t6 (neL or_ho_b7);replace hb7:=hq;refine zJ (e_S ?_);rw [ht] at hb7;refine zn4 ?_;replace hbn:=(hbn.tr0 t5).tr1 t6 oM;refine y6 rfl fn111 (IH t o2 A2 cap2 _ hlk htl hB.u hCS.2 hok3 hbP.u hbQ.u hbG.u hbV.u hbn ho) rfl rfl (fun e' w8 hr=>?_);obtain⟨rfl,o3,A3,cap3,hD3,hbQ3,ho3,hbn3,hC3⟩:=hr;replace hB:=(hB.tr0 t5).tr1 t6 lo7;replace hB:=hB.chg hC3 hlo (by simp [l0Q,l0n]);replace hbP:=(hbP.tr0 t5).tr1 t6 oM;replace hbP:=hbP.chg hC3 lP (by simp [nPQ,nPn]);replace hbG:=(hbG.tr0 t5).tr1 t6 oM;replace hbG:=hbG.chg hC3 lG (by simp [nGQ,nGn]);replace hbV:=(hbV.tr0 t5).tr1 t6 oM;replace hbV:=hbV.chg hC3 lV (by simp [nVQ,nVn]);replace hbQ:=hbQ3;replace hbn:=hbn3;replace ho:=ho3;replace hCS:=And.intro (hCS.1.trans hC3) (nLT hCS.2 hC3.size);refine⟨_,rfl,?_⟩;refine zn7 ?_;refine xv ((gr[i]'hin).ln.length - (j + 1)) oM agA ?_;exact⟨j + 1,o3,A3,cap3,by omega,rfl,rfl,by rw [E3 hin hjl ht];exact hD.append hD3,hB,hbP,hbQ,hbG,hbV,hbn,ho,hCS⟩
 have hjx:j=(gr[i]'hin).ln.length:=by omega
 have hfin:DL gr (yK gr i) (o ++ [i]) o2:=by
   have e:(yK gr i).take j=yK gr i:=List.take_of_length_le (by simp [yK,kJ hin,hjx]);rw [e] at hD;exact hD
 refine zn4 ?_;refine fin0 (.inr rfl) rfl  ?_;exact⟨rfl,o2,A2,cap2,.new hni hfin .nil,hbQ,ho,hbn,hCS.1⟩
theorem visit_any {w0:World} {G:Option Addr} {cg nf bP bQ bG bV bn base:Nat} {gr:List Nd} (hG:NodesIn w0 G gr) (hk:Vv nf gr) (hlo:w0.heap.size≤base) (_l0P:w0.heap.size≤bP) (l0Q:w0.heap.size≤bQ) (_l0G:w0.heap.size≤bG) (_l0V:w0.heap.size≤bV) (l0n:w0.heap.size≤bn) (lP:bP < base) (lQ:bQ < base) (lG:bG < base) (lV:bV < base) (ln:bn < base) (nPQ:bP≠bQ) (nPn:bP≠bn) (nQn:bQ≠bn) (nGQ:bG≠bQ) (nGn:bG≠bn) (nVQ:bV≠bQ) (nVn:bV≠bn):∀ (m:Nat) (o:List Nat) (A:Option Addr) (cap:Nat) (w:World) (i:Nat),jK gr.length (Zj o)≤m→i < gr.length→Bel w0 w→base≤w.heap.size→OOk gr.length o→Blk w bP 66 #[.slice (some ⟨bn,0,none⟩) gr.length gr.length]→Blk w bQ 66 #[.slice A (o).length cap]→Blk w bG 30 #[.slice G gr.length cg]→Blk w bV 170 #[.func (.func 111) #[] #[.pointer (some ⟨bP,0,none⟩),.pointer (some ⟨bQ,0,none⟩),.pointer (some ⟨bG,0,none⟩),.pointer (some ⟨bV,0,none⟩)]]→Blk w bn 3 (row gr.length (fun x=> .int .i64 (kv o x)))→Own w base 3 1 A (o).length cap (oV (o))→Calls Tryz.prog 111 #[.int .i64 (i:Nat),.pointer (some ⟨bP,0,none⟩),.pointer (some ⟨bQ,0,none⟩),.pointer (some ⟨bG,0,none⟩),.pointer (some ⟨bV,0,none⟩)] w fun e w'=>e= .returned (.tuple #[])∧∃ o' A' cap',DL gr [i] o o'∧Blk w' bQ 66 #[.slice A' o'.length cap']∧Own w' base 3 1 A' o'.length cap' (oV o')∧Blk w' bn 3 (row gr.length (fun x=> .int .i64 (kv o' x)))∧Chg base [bQ,bn] w w':=by
  intro m
  induction m with
  | zero=>intro o A cap w i hm hin hB hbs hok h1 h2 h3 h4 h5 h6;exact NV hG hk hlo _l0P l0Q _l0G _l0V l0n lP lQ lG lV ln nPQ nPn nQn nGQ nGn nVQ nVn hB hbs hok h1 h2 h3 h4 h5 h6 hin (fun t o2 A2 cap2 w2 hl=>by omega)
  | succ m ih=>intro o A cap w i hm hin hB hbs hok h1 h2 h3 h4 h5 h6;exact NV hG hk hlo _l0P l0Q _l0G _l0V l0n lP lQ lG lV ln nPQ nPn nQn nGQ nGn nVQ nVn hB hbs hok h1 h2 h3 h4 h5 h6 hin (fun t o2 A2 cap2 w2 hl=>ih o2 A2 cap2 w2 t oM)
end Go.Proofs.YtbcpgfnfiekbiaaGreatDoor
namespace Go.Proofs.YtbcpgfnfiekbiaaGreatDoor
open Go.RowKit
section eng3
variable {P:Program} {Q:Exit→Act→World→Prop} {n:Nw} {f:Fr} {w:World} {ops:Array Oper} {rest:List Oper} {d:Tmp} {ty t e:TypeId} {pos:String} {af:Array Edge} {x y:Operand}
theorem run_app0 {A B:Option Addr} {k cap c sz:Nat} (hu:P.underlying t=some (.slice e)) (hs:(P.info? e).map (·.size)=some sz) (hk:k≤cap):
    (Builtin.append_ #[t,t] ty #[.slice A k cap,.slice B 0 c]).run P w= .ok (.slice A k cap) w:=by
  cases hq:P.info? e with
  | none=>simp [hq] at hs
  | some i=>
    simp only [hq,Option.map_some,Option.some.injEq] at hs;have hz:(Go.sizeOf e).run P w= .ok sz w:=by simp [Go.sizeOf,typeInfo,hq,hs]
    have h0:(Builtin.firstCells sz 0 (.slice B 0 c)).run P w= .ok #[] w:=by
      cases B with
      | none=>simp [Builtin.firstCells]
      | some b=>simp [Builtin.firstCells,loadCells,loadCellsFrom]
    cases A with
    | none=>simp [Builtin.append_,run_underlying hu,hz,Builtin.lenOf,hk,h0]
    | some a=>simp [Builtin.append_,run_underlying hu,hz,Builtin.lenOf,hk,h0,storeCells]
theorem r_app0 {dst:Option Tmp} {gd:Option (Nat×Bool)} {A B:Option Addr} {k cap c sz:Nat} (hu:P.underlying t=some (.slice e)) (hs:(P.info? e).map (·.size)=some sz) (hk:k≤cap) (hx:ev n f x= .slice A k cap) (hy:ev n f y= .slice B 0 c):
    RV P n f w ⟨dst,.call { callee:= .builtin .append,args:=#[x,y],argTypes:=#[t,t] },ty,pos,af,gd⟩ (.slice A k cap) w:=by
  have hr:=run_app0 (P:=P) (w:=w) (ty:=ty) (A:=A) (B:=B) (c:=c) hu hs hk;simp only [RV,execOp,resolve,invoke,builtin,Sem.run_bind,Sem.run_pure,Result.andThen_ok,List.map_toArray,List.map_cons,List.map_nil,hx,hy,hr]
theorem wl_appL {zv:Value} {base sz by' k cap m c:Nat} {A B:Option Addr} {xs news:List Value} (hu:P.underlying t=some (.slice e)) (hi:(P.info? e).map (fun i=>(i.zero,i.size,i.bytes))=some (some zv,sz,by')) (hzs:zv.cells.size=sz) (hsz:0 < sz)
    (hown:Own w base e sz A k cap xs) (hx:ev n f x= .slice A k cap) (hy:ev n f y= .slice B m c) (hn:0 < m→∃ b o',B=some ⟨b,o',none⟩∧∀ j u,news[j]? =some u→w.cell? ⟨b,o' + j,none⟩=some u) (hl:news.length=m * sz) (h1:news.all (·.oneCell')=true) (h63:k + m≤9223372036854775807) (hbytes:(k + m) * by'≤140737488355328) (hbase:base≤w.heap.size)
    (K:∀ A' cap' w1,Own w1 base e sz A' (k + m) cap' (xs ++ news)→Same (aL A) w w1→(∀ g ∈ aL A',g ∈ aL A∨w.heap.size≤g)→WL P ops Q rest n (upd f d (.slice A' (k + m) cap')) w1):
    WL P ops Q (⟨some d,.call { callee:= .builtin .append,args:=#[x,y],argTypes:=#[t,t] },ty,pos,af,none⟩ :: rest) n f w:=by
  by_cases hm:0 < m
  · obtain⟨b,o',rfl,hc⟩:=hn hm
    refine Gk hu hi hzs hsz hown hx hy hc hl h1 hm h63 hbytes hbase (fun g cap' w1 ho hs hg=>K _ _ _ ho hs (fun g' hg'=>?_));have e1:g'=g:=List.mem_singleton.1 hg';subst e1;rcases hg with hg | hg
    · exact .inl (by rw [hg];simp)
    · exact .inr hg
  · obtain rfl:m=0:=by omega
    obtain rfl:news= []:=List.length_eq_zero_iff.1 (by simpa using hl);have hs:(P.info? e).map (·.size)=some sz:=by
      obtain⟨i,hq,hzz⟩:=Option.map_eq_some_iff.1 hi;simp only [Prod.mk.injEq] at hzz;simp [hq,hzz.2.1]
    refine wl (r_app0 hu hs hown.cap_le hx hy) ?_;exact K A cap w (by simpa using hown) (Same.refl _ _) (fun g hg=> .inl hg)
end eng3
end Go.Proofs.YtbcpgfnfiekbiaaGreatDoor
namespace Go.Proofs.YtbcpgfnfiekbiaaGreatDoor
open Go.RowKit
section eng4
variable {P:Program} {Q:Exit→Act→World→Prop} {n:Nw} {f:Fr} {w w':World} {ops:Array Oper} {rest:List Oper} {d:Tmp} {ty t e:TypeId} {pos:String} {af:Array Edge} {x y:Operand}
theorem r_nc {dst:Option Tmp} {gd:Option (Nat×Bool)} {a:Addr} (hx:ev n f x= .pointer (some a)):
    RV P n f w ⟨dst,.nilCheck x,ty,pos,af,gd⟩ (.pointer (some a)) w:=by simp [RV,execOp,hx]
variable {base sz k cap:Nat} {A:Option Addr} {xs:List Value}
theorem Own.open_ (h:Own w base e sz A k cap xs) (hk:0 < k):∃ (g:Nat) (cur:Array Value),A=some ⟨g,0,none⟩∧base≤g∧Blk w g e cur∧k * sz≤cur.size∧(∀ j,j < k * sz→cur[j]? =xs[j]?)∧∀ w1 o v,Blk w1 g e (cur.setIfInBounds o v)→Own w1 base e sz (some ⟨g,0,none⟩) k cap (xs.set o v):=by
  rcases h.2 with ⟨_,hn⟩ | ⟨g,c,cur,hv,hb,hg,hkc,hm,hs,ht⟩
  · omega
  · cases hv
    have hle:k * sz≤cap * sz:=Nat.mul_le_mul_right sz hkc;refine⟨g,cur,rfl,hb,hg,by omega,fun j hj=>?_,fun w1 o v hw=>⟨by rw [List.length_set];exact h.1,.inr ⟨g,cap,_,rfl,hb,hw,hkc,hm,by rw [Array.size_setIfInBounds];exact hs,?_⟩⟩⟩
    · rw [← ht,List.getElem?_take_of_lt hj];simp
    · rw [Array.toList_setIfInBounds,List.take_set,ht]
theorem own_ne {b1 b2 s1 s2 k1 k2 c1 c2:Nat} {e1 e2:TypeId} {A1 A2:Option Addr} {x1 x2:List Value} (h:Own w b1 e1 s1 A1 k1 c1 x1) (k:Own w b2 e2 s2 A2 k2 c2 x2) (hne:e1≠e2):∀ g ∈ aL A1,¬g ∈ aL A2:=fun g h1 h2=>by
  have ht:∀ {b s k c:Nat} {e:TypeId} {A:Option Addr} {x:List Value},Own w b e s A k c x→g ∈ aL A→∃ cs,Blk w g e cs:=fun h hg=>by
    rcases h.2 with ⟨hv,_⟩ | ⟨g',c',cur,hv,_,hb,_⟩
    · cases hv;cases hg
    · cases hv
      simp only [aL,List.mem_singleton] at hg
      subst hg;exact⟨cur,hb⟩
  obtain⟨c1,q1⟩:=ht h h1
  obtain⟨c2,q2⟩:=ht k h2
  exact hne (jW q1 q2)
end eng4
end Go.Proofs.YtbcpgfnfiekbiaaGreatDoor
