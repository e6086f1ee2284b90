/- What these functions compute, at every world: graph.Unreached, ref3.Unreached, graph.Within, ref3.InHierarchy, , graph.From$1; and plain laws. -/
import Derived.Test.YtndbjnkilegebaaGreatDoorU
import Derived.Test.YtndbjnkilegebaaGreatDoorZst
import Derived.Test.YtndbjnkilegebaaGreatDoorGLoose
import Derived.Test.YtndbjnkilegebaaGreatDoorEng2
import Derived.Lib.AppendZerosOnto
namespace Go.Proofs.YtndbjnkilegebaaGreatDoor
open Go.RowKit Go.Proofs.Tryz
set_option maxHeartbeats 1000000
variable {A B:Option Addr}{V f g:Nat->Value}{Z:Nat->Prop}{b base bs cap k m sz t:Nat}{dst:Option Tmp}{gd:Option (Nat×Bool)}{gr:List Nd}{v:Value}{w w' w0:World}
theorem in3:(prog.info? 3).map (fun i=>(i.zero,i.size,i.bytes))=some (some (.int .i64 0),1,8):=by kernel_rfl
theorem SZ:(prog.info? 4).map (fun i=>(i.zero,i.size,i.bytes))=some (some (.bool false),1,1):=by kernel_rfl
theorem ZV:(prog.info? 3).map (·.zero)=some (some (.int .i64 0)):=by kernel_rfl
theorem unr_any(G:Option Addr)(cg nt nf:Nat)(gr:List Nd)(w:World)(hG:NodesIn w G gr)(hk:GOk nt nf gr):Calls prog 74 #[.agg #[.slice G gr.length cg]] w fun e w'=>e= .returned (.int .i64 (KV gr))/\Bel w w':=by
 have hn6:=hk.le;have hn0:=hk.pos;refine enT func74 ntmps74 rfl rfl fun hB=>?_;refine zn2 ?_;refine qv (cs:=#[_]) rfl (fun b1 w1 a2 s1 hr=>?_);refine zn8 ?_;refine Y5 (m:=gr.length) Kz SZ rfl rfl rfl oG oG (fun b2 w2 a1 s2 hr=>?_);have:=a2.ob hr;have b8:=hB.u.ob hr;refine zn6 ?_;refine wl (x7 (i:=0) Kz j8 rfl rfl hn0 rfl) ?_;refine xx (v:= .bool _) a1 rfl rfl j8 (by rw[row_size];omega) rfl kv (fun w3 hq s3=>?_);replace a1:=hq;rw[xy (g':=fun x=> .bool (Z7 (fun _=>false) 0 x)) (fun x _=>by by_cases e:x=0<;>simp[Z7,e])]at a1;refine zn5 ?_;refine qZ (cs:=#[_]) [(0,.int _ _)] rfl U62 qq ZV dE dE kR rfl (fun b14 w4 be s4 hr=>?_);have a4:b2<b14:=a1.ob hr;refine zn4 ?_;refine qz (rg [4,5,7] 15 41) (fun m g w'=>∃(st:List Int) (A4:Option Addr) (ad:Nat) (mk:Nat->Bool),m=2*ux gr.length mk+st.length/\2*ux gr.length mk+st.length<=200/\g 4= .slice A4 st.length ad/\Bel w w'/\Blk w' b1 28 #[.slice G gr.length cg]/\Blk w' b2 4 (row gr.length (fun x=> .bool (mk x)))/\Own w' (b2+1) 3 1 A4 (st).length ad ((st).map (Value.int .i64))/\DS gr mk st gr.length 0) (2*ux gr.length (Z7 (fun _=>false) 0)+1) ?_ (fun m g4 w5 hI=>?_)
 ·replace hB:=((hB.tr0 (s1.t s2)).tr1 s3 b8).tr0 s4;replace a2:=((a2.tr0 s2).tr1 s3 oG).tr0 s4;replace a1:=a1.tr0 s4;exact⟨[0],_,_,Z7 (fun _=>false) 0,rfl,by have:=C7 gr.length (Z7 (fun _=>false) 0);simp only[List.length_cons,List.length_nil];omega,rfl,hB,a2,a1,V6 be a4 rfl dE,DS.start hn0⟩
 obtain⟨st,A4,ad,mk,hm,hbd,h4,hB,a2,a1,ho,hds⟩:=hI;refine zQ 4 _ h4 nu (zn8 ?_);refine zZ rfl (fun c17=>?_) (fun c17=>?_)
 ·obtain⟨a5,z,rfl⟩:=snoc_of (show 0<st.length by omega);obtain⟨i,rfl,a3,bc⟩:=hds.pop;have b5:(a5++[(i:Int)]).length=a5.length+1:=by simp
  obtain⟨q,rfl,hqb,hql,hqc⟩:=ho.cell (by simp);have hz:w5.cell? ⟨q,0+a5.length*1,none⟩=some (.int .i64 (i:Int)):=by
    have:=hqc a5.length (.int .i64 (i:Int)) (by simp)
    simpa using this
  obtain⟨nb,no,LA,lc,rfl,hnb,hnr,hln⟩:=hG.at_ hB a3;have hmx:=hln.1;unfold vX at hmx;refine zn8 ?_;refine wl (jJ (c:=(a5.length:Int)) rfl rfl (by rw[b5];omega) oG) (wl (x7 (i:=a5.length) U62 qq rfl rfl (by rw[b5];omega) rfl) (wl (qj (v:= .int _ _) U3 rfl rfl hz) (zn8 ?_)));refine wl (jJ (c:=(a5.length:Int)) rfl rfl (by rw[b5];omega) oG) (wl (MX (h:=a5.length) U62 qq rfl rfl (by have:=ho.cap_le;omega)) (zn4 ?_));replace ho:Own w5 (b2+1) 3 1 (some ⟨q,0,none⟩) a5.length ad (a5.map (Value.int .i64)):=by
    have h:=ho.take (k':=a5.length) oG oG
    simpa using h
  refine zn4 ?_;refine wl (x7 (i:=i) U26 ZW rfl rfl a3 rfl) (zn1 ?_);refine wl (qj (v:= .slice _ _ _) U85 rfl rfl (hnr 1 _ rfl)) (zn5 ?_);refine qz (rg [4,7] 36 20) (fun m g w'=>∃(j:Nat) (a8:List Int) (A5:Option Addr) (b6:Nat) (a9:Nat->Bool),j<=(gr[i]'a3).ln.length/\m=(gr[i]'a3).ln.length-j/\g 36= .int .i64 j/\g 4= .slice A5 a8.length b6/\2*ux gr.length a9+a8.length<=2*ux gr.length mk+a5.length/\Bel w w'/\Blk w' b1 28 #[.slice (some ⟨nb,no,none⟩) gr.length cg]/\Blk w' b2 4 (row gr.length (fun x=> .bool (a9 x)))/\Own w' (b2+1) 3 1 A5 (a8).length b6 ((a8).map (Value.int .i64))/\DS gr a9 a8 i j) ((gr[i]'a3).ln.length) ?_ (fun m g8 w6 hI=>?_)
  ·exact⟨0,a5,_,_,mk,ah _,rfl,rfl,rfl,ai _,hB,a2,a1,ho,bc⟩
  obtain⟨j,a8,A5,b6,a9,hj,hmj,h36,h4,hms,hB,a2,a1,ho,ac⟩:=hI;refine zQ 36 _ h36 nu (zQ 4 _ h4 nu (zn6 ?_));refine zZ rfl (fun c37=>?_) (fun c37=>?_)
  ·have ao:j<(gr[i]'a3).ln.length:=by omega
   obtain⟨lb,lof,rfl,hlb,hlr⟩:=hln.at_ hB ao;obtain⟨t,ht,htl⟩:∃ t:Nat,((gr[i]'a3).ln[j]'ao).2=(t:Int)/\t<gr.length:=by
     have h1:=hk.ln i a3 _ (aq ao);exact⟨(((gr[i]'a3).ln[j]'ao).2).toNat,by omega,by omega⟩
   refine zn7 ?_;refine wl (qw U84 rfl rfl hlr gQ) ?_;refine y8 (cs:=#[.int .i64 0,.int .i64 0]) Vq rfl (fun _=>rfl) (fun _=>rfl) gQ rfl xW (fun b7 w8 hb7 s5 hr=>?_);have:=a1.ob hr;have ab:=ho.ob hr;refine zn3 ?_;rw[ht]at hb7;refine zn4 ?_;refine wl (x7 (i:=t) Kz j8 rfl rfl htl rfl) (wl (qj (v:= .bool _) U4 rfl rfl (a1.u.cell (j5 htl))) (zn3 ?_));replace ho:=ho.tr0 s5;refine jv rfl (fun bg=>?_) (fun bg=>?_)
   ·have ba:a9 t=false:=by simpa using bg
    refine zn5 ?_;refine wl (x7 (i:=t) Kz j8 rfl rfl htl rfl) ?_;replace a1:=a1.tr0 s5;refine xx (v:= .bool _) a1 rfl rfl j8 (by rw[row_size];omega) rfl kv (fun w9 hq s6=>?_);replace ho:=ho.tq s6;replace a1:=hq;rw[By]at a1;refine zn6 ?_;refine qZ (cs:=#[_]) [(0,.int _ _)] rfl U62 qq ZV dE dE kR rfl (fun b53 w10 bd s7 hr=>?_);have:=a2.u.ob hr;have:=a1.ob hr;replace ho:=ho.tr0 s7;refine vV U62 in3 rfl dE ho bd rfl rfl rfl xW dE oG oG a1.u.lt (fun bf cap54 w11 b9 s8 hg=>?_);have b4:bf≠b1:=neA ho a2.u.lt hg
    have an:bf≠b2:=neA ho a1.u.lt hg
    have b3:bf≠b7:=neB hb7.u.lt hg (fun g hg=>by have:=ab g hg;omega)
    replace hB:=hB.u.tr s8 (fun g hg=>nLT (aI b8) (ho.lt g hg).1);replace a2:=((a2.tr0 s5).tr1 s6 oG).tr0 s7;replace a2:=a2.ta s8 ho;replace a1:=a1.tr0 s7;replace a1:=a1.ta s8 ho;refine zn8 ?_;refine x9 ((gr[i]'a3).ln.length-(j+1)) oG agA ?_
    first
      | exact⟨j+1,a8++[(t:Int)],_,_,Z7 a9 t,by omega,rfl,rfl,DY _ _ _ _,by have:=lack_set htl ba;simp only[List.length_append,List.length_cons,List.length_nil];omega,hB,a2,a1,EV b9,ac.new a3 ao ht htl⟩
      | exact⟨j+1,a8,_,_,a9,by omega,rfl,rfl,rfl,hms,hB,a2,a1,ho,ac.old a3 ao (by rw[ht];exact ba)⟩
   have ba:a9 t=true:=by simpa using bg
   refine zn7 ?_;refine x9 ((gr[i]'a3).ln.length-(j+1)) oG agA ?_;replace hB:=hB.tr0 s5;replace a2:=a2.tr0 s5;replace a1:=a1.tr0 s5
   first
     | exact⟨j+1,a8++[(t:Int)],_,_,Z7 a9 t,by omega,rfl,rfl,DY _ _ _ _,by have:=lack_set htl ba;simp only[List.length_append,List.length_cons,List.length_nil];omega,hB,a2,a1,EV b9,ac.new a3 ao ht htl⟩
     | exact⟨j+1,a8,_,_,a9,by omega,rfl,rfl,rfl,hms,hB,a2,a1,ho,ac.old a3 ao (by rw[ht];exact ba)⟩
  have hjx:j=(gr[i]'a3).ln.length:=by omega
  refine zn5 ?_;refine x9 (2*ux gr.length a9+a8.length) oG agA ?_;exact⟨a8,_,_,a9,rfl,by omega,rfl,hB,a2,a1,ho,ac.done a3 hjx⟩
 have hst:st= []:=aM.1 oG;subst hst;have bb:=hds.end_;refine zn8 ?_;refine zW kR (F5 b2 gr.length mk _ a1 oG) rfl (fun e' w12 hr=>?_);obtain⟨⟨r,rfl,hr⟩,s9⟩:=hr;replace s9:=sB s9;refine⟨_,rfl,?_⟩;refine zn5 ?_;have hun:r=KV gr:=by
   rcases hr with ⟨h1,h2⟩|⟨k,h1,h2,h3,h4⟩
   · rw[h1];exact bb.yes h2
   · rw[h1];exact bb.no h2 h3 h4
 exact⟨Zq hun.symm,hB.u⟩
theorem runr_any(G:Option Addr)(cg nt nf:Nat)(gr:List Nd)(w:World)(hG:NodesIn w G gr)(hk:GOk nt nf gr):Calls prog 57 #[.agg #[.slice G gr.length cg]] w fun e w'=>e= .returned (.int .i64 (KV gr))/\Bel w w':=by
 have hn6:=hk.le;have hn0:=hk.pos;have hrg:=gok_rng hk;refine enT func57 ntmps57 rfl rfl fun hB=>?_;refine zn2 ?_;refine qv (cs:=#[_]) rfl (fun b1 w1 a2 s1 hr=>?_);refine zn8 ?_;refine Y5 (m:=gr.length) Kz SZ rfl rfl rfl oG oG (fun ao w2 a1 s2 hr=>?_);have:=a2.ob hr;have b2:=hB.u.ob hr;refine zn6 ?_;refine wl (x7 (i:=0) Kz j8 rfl rfl hn0 rfl) ?_;refine xx (v:= .bool _) a1 rfl rfl j8 (by rw[row_size];omega) rfl kv (fun w3 hq s3=>?_);replace a1:=hq;rw[xy (g':=fun x=> .bool (Z7 (fun _=>false) 0 x)) (fun x _=>by by_cases e:x=0<;>simp[Z7,e])]at a1;refine yZ ?_;refine qz (rg [4,5,7] 17 28) (fun m g w'=>∃(p:Nat) (mk:Nat->Bool),p<=gr.length/\m=gr.length-p/\g 17= .int .i64 p/\Bel w w'/\Blk w' b1 28 #[.slice G gr.length cg]/\Blk w' ao 4 (row gr.length (fun x=> .bool (mk x)))/\PS gr mk p) (gr.length) ?_ (fun m g4 w4 hI=>?_)
 ·exact⟨0,Z7 (fun _=>false) 0,ah _,rfl,rfl,hB.u,a2.u,a1,PS.start hn0⟩
 obtain⟨p,mk,hp,hm,h17,hB,a2,a1,an⟩:=hI;refine zQ 17 _ h17 nu (zn6 ?_);refine zZ rfl (fun c18=>?_) (fun c18=>?_)
 ·refine uJ ?_;refine qz (rg [4,5,7] 22 22) (fun m g w'=>∃(i:Nat) (ab:Nat->Bool),i<=gr.length/\m=gr.length-i/\g 22= .int .i64 i/\Bel w w'/\Blk w' b1 28 #[.slice G gr.length cg]/\Blk w' ao 4 (row gr.length (fun x=> .bool (ab x)))/\PP gr mk ab i 0) (gr.length) ?_ (fun m g6 w5 hI=>?_)
  ·exact⟨0,mk,ah _,rfl,rfl,hB,a2,a1,PP.start an⟩
  obtain⟨i,ab,hi,hmi,h22,hB,a2,a1,b3⟩:=hI;refine zQ 22 _ h22 nu (zn6 ?_);refine zZ rfl (fun c23=>?_) (fun c23=>?_)
  ·have a3:i<gr.length:=by omega
   obtain⟨nb,no,LA,lc,rfl,hnb,hnr,hln⟩:=hG.at_ hB a3;have hmx:=hln.1;unfold vX at hmx;refine zn8 ?_;refine wl (qw U87 rfl rfl hnr ZW) ?_;refine qQ (cs:=#[.int .i64 0,.slice none 0 0]) Dk rfl (fun b5 w6 a4 s4 hr=>?_);have:=a2.ob hr;have:=a1.ob hr;have lo5:=hB.ob hr;refine waI rfl ?_;refine zV a4 (fun w7 hq s5=>?_);replace a4:=hq;refine vJ ?_;refine qz (rg [7] 30 13) (fun m g w'=>∃(j:Nat) (a8:Nat->Bool),j<=(gr[i]'a3).ln.length/\m=(gr[i]'a3).ln.length-j/\g 30= .int .i64 j/\Bel w w'/\Blk w' b1 28 #[.slice (some ⟨nb,no,none⟩) gr.length cg]/\Blk w' ao 4 (row gr.length (fun x=> .bool (a8 x)))/\Blk w' b5 87 #[.int .i64 (gr[i]'a3).ty,.slice LA (gr[i]'a3).ln.length lc]/\PP gr mk a8 i j) ((gr[i]'a3).ln.length) ?_ (fun m g9 w8 hI=>?_)
   ·exact⟨0,ab,ah _,rfl,rfl,hB.u,a2.u,a1.u,a4,b3⟩
   obtain⟨j,a8,hj,hmj,h30,hB,a2,a1,a4,a5⟩:=hI;refine zQ 30 _ h30 nu (zn6 ?_);refine zZ rfl (fun c31=>?_) (fun c31=>?_)
   ·have a9:j<(gr[i]'a3).ln.length:=by omega
    obtain⟨lb,lof,rfl,hlb,hlr⟩:=hln.at_ hB a9;obtain⟨t,ht,htl⟩:∃ t:Nat,((gr[i]'a3).ln[j]'a9).2=(t:Int)/\t<gr.length:=by
      have h1:=hk.ln i a3 _ (aq a9);exact⟨(((gr[i]'a3).ln[j]'a9).2).toNat,by omega,by omega⟩
    refine zn7 ?_;refine wl (qw U84 rfl rfl hlr gQ) ?_;refine y8 (cs:=#[.int .i64 0,.int .i64 0]) Vq rfl (fun _=>rfl) (fun _=>rfl) gQ rfl xW (fun b7 w10 hb7 s6 hr=>?_);refine zn7 ?_;refine wl (qj (v:= .bool _) U4 rfl rfl (a1.u.cell (j5 a3))) (qY (e_S ?_));refine jv rfl (fun ad=>?_) (fun ad=>?_)
    ·rw[ht]at hb7;refine zn4 ?_;refine wl (x7 (i:=t) Kz j8 rfl rfl htl rfl) ?_;replace a1:=a1.tr0 s6;refine xx (v:= .bool _) a1 rfl rfl j8 (by rw[row_size];omega) rfl kv (fun w11 hq s7=>?_);replace a1:=hq;rw[By]at a1;refine zn7 ?_;refine x9 ((gr[i]'a3).ln.length-(j+1)) oG agA ?_;replace hB:=(hB.tr0 s6).tr1 s7 b2;replace a2:=(a2.tr0 s6).tr1 s7 oG;replace a4:=(a4.tr0 s6).tr1 s7 oG
     first
       | exact⟨j+1,Z7 a8 t,by omega,rfl,rfl,hB,a2,a1,a4,a5.mark a3 a9 ht ad⟩
       | exact⟨j+1,a8,by omega,rfl,rfl,hB,a2,a1,a4,a5.skip ad⟩
    refine zn7 ?_;refine x9 ((gr[i]'a3).ln.length-(j+1)) oG agA ?_;replace hB:=hB.tr0 s6;replace a2:=a2.tr0 s6;replace a1:=a1.tr0 s6;replace a4:=a4.tr0 s6
    first
      | exact⟨j+1,Z7 a8 t,by omega,rfl,rfl,hB,a2,a1,a4,a5.mark a3 a9 ht ad⟩
      | exact⟨j+1,a8,by omega,rfl,rfl,hB,a2,a1,a4,a5.skip ad⟩
   have hjx:j=(gr[i]'a3).ln.length:=by omega
   refine yj ?_;refine x9 (gr.length-(i+1)) oG agA ?_;exact⟨i+1,a8,by omega,rfl,rfl,hB,a2,a1,a5.next a3 hjx⟩
  have hie:i=gr.length:=by omega
  rw[hie]at b3;refine yj ?_;refine x9 (gr.length-(p+1)) oG agA ?_;exact⟨p+1,ab,by omega,rfl,rfl,hB,a2,a1,PP.end_ hrg an b3⟩
 have hpe:p=gr.length:=by omega
 rw[hpe]at an;have ac:=an.end_;refine zn8 ?_;refine zW kR (F5 ao gr.length mk _ a1 oG) rfl (fun e' w12 hr=>?_);obtain⟨⟨r,rfl,hr⟩,s8⟩:=hr;replace s8:=sB s8;refine⟨_,rfl,?_⟩;refine zn5 ?_;have hun:r=KV gr:=by
   rcases hr with ⟨h1,h2⟩|⟨k,h1,h2,h3,h4⟩
   · rw[h1];exact ac.yes h2
   · rw[h1];exact ac.no h2 h3 h4
 exact⟨Zq hun.symm,hB.u⟩
theorem F9:zw prog 56=true:=by kernel_rfl
theorem sz25:(prog.info? 25).map (·.size)=some 2:=by kernel_rfl
theorem Y6:(prog.info? 28).map (·.size)=some 1:=by kernel_rfl
theorem Rq:(prog.info? 64).map (·.size)=some 3:=by kernel_rfl
theorem OW:(prog.info? 78).map (·.size)=some 2:=by kernel_rfl
theorem R6:(prog.info? 64).map (·.zero)=some (some (.agg #[.string ⟨#[]⟩,.int .i64 0,.int .i64 0])):=by kernel_rfl
theorem Cw(A B G:Option Addr)(c d cg bu bd:Nat)(l:List Ty)(fs:List Ft)(gr:List Nd)(w:World)(hI:TableIn w l bu bd)(h60:l.length<=60)(hF:FeatsIn w B fs)(hG:NodesIn w G gr)(hfo:FOk l.length fs):Calls prog 43 #[.agg #[.slice A l.length c,.slice B fs.length d],tabV l.length bu bd,.agg #[.slice G gr.length cg]] w fun e w'=>e= .returned (flV (y9 l fs gr))/\Bel w w':=by
 refine enT func43 ntmps43 rfl rfl fun hB=>?_;refine zn2 ?_;refine qv (cs:=#[_,_]) rfl (fun b3 w1 a8 s1 hr=>?_);refine qv (cs:=#[_,_]) rfl (fun b4 w2 a5 s2 hr=>?_);refine qv (cs:=#[_]) rfl (fun b5 w3 a4 s3 hr=>?_);refine qQ (cs:=#[.int .i64 0,.int .i64 0]) qV rfl (fun b6 w4 a2 s4 hr=>?_);have lo6:=hB.u.ob hr;refine zn7 ?_;refine a7 kR (loose_any A B G c d cg l fs gr _ (hG.mono hB.u)) rfl (fun w5 s5=>?_);refine y8 (cs:=#[.int .i64 0,.int .i64 0]) qV rfl (fun _=>rfl) (fun _=>rfl) zK rfl xW (fun b7 w7 hb7 s6 hr=>?_);refine zn9 ?_;refine zZ rfl (fun br=>?_) (fun br=>?_)
 ·refine zn3 ?_;refine zV a2.u (fun w8 hq s7=>?_);replace a2:=hq;refine zn4 ?_;refine xK (.inl rfl) rfl (zX U45 rfl rfl a2.range0 zK) ?_;exact⟨xX (Ny br),hB.u⟩
 have bc:=ak.1 br;have ba:=SX bc;have hk6:=ba.le;refine yZ ?_;refine qz (rg [8,9,11,12] 24 43) (fun m g w'=>∃ k:Nat,k<=gr.length/\m=gr.length-k/\g 24= .int .i64 k/\Bel w w'/\Blk w' b3 25 #[.slice A l.length c,.slice B fs.length d]/\Blk w' b4 78 #[.slice (some ⟨bu,0,none⟩) l.length l.length,.slice (some ⟨bd,0,none⟩) l.length l.length]/\Blk w' b5 28 #[.slice G gr.length cg]/\Blk w' b6 45 #[.int .i64 0,.int .i64 0]/\tyF l fs gr=yX (tyN l fs gr) k (gr.length-k)) (gr.length) ?_ (fun m g5 w9 hI=>?_)
 ·exact⟨0,ah _,rfl,rfl,hB.u,a8.u,a5.u,a4.u,a2.u,rfl⟩
 obtain⟨k,hk,hm,hkk,hB,a8,a5,a4,a2,hU⟩:=hI;refine zQ 24 _ hkk nu (zn6 ?_);refine zZ rfl (fun c25=>?_) (fun c25=>?_)
 ·have a1:k<gr.length:=by omega
  obtain⟨nb,no,LA,lc,rfl,hnb,hnr,hln⟩:=hG.at_ hB a1;have hmx:=hln.1;unfold vX at hmx;refine zn8 ?_;refine wl (qw U87 rfl rfl hnr ZW) ?_;refine qQ (cs:=#[.int .i64 0,.slice none 0 0]) Dk rfl (fun b9 w10 a3 s8 hr=>?_);have:=a8.ob hr;have:=a5.ob hr;have:=a4.ob hr;have:=a2.ob hr;have lo9:=hB.ob hr;refine waI rfl ?_;refine zV a3 (fun w11 hq s9=>?_);replace a3:=hq;refine vJ ?_;refine qz (rg [11,12] 32 34) (fun m g w'=>∃ j:Nat,j<=(gr[k]'a1).ln.length/\m=(gr[k]'a1).ln.length-j/\g 32= .int .i64 j/\Bel w w'/\Blk w' b3 25 #[.slice A l.length c,.slice B fs.length d]/\Blk w' b4 78 #[.slice (some ⟨bu,0,none⟩) l.length l.length,.slice (some ⟨bd,0,none⟩) l.length l.length]/\Blk w' b5 28 #[.slice (some ⟨nb,no,none⟩) gr.length cg]/\Blk w' b6 45 #[.int .i64 0,.int .i64 0]/\Blk w' b9 87 #[.int .i64 (gr[k]'a1).ty,.slice LA (gr[k]'a1).ln.length lc]/\(∀ j' (be:j'<(gr[k]'a1).ln.length),j'<j->Py l fs gr (gr[k]'a1).ty ((gr[k]'a1).ln[j'])=false)) ((gr[k]'a1).ln.length) ?_ (fun m g8 w12 hI=>?_)
  ·exact⟨0,ah _,rfl,rfl,hB.u,a8.u,a5.u,a4.u,a2.u,a3,fun j' _ h=>by omega⟩
  obtain⟨j,hj,hmj,hjj,hB,a8,a5,a4,a2,a3,hN⟩:=hI;refine zQ 32 _ hjj nu (zn6 ?_);refine zZ rfl (fun c33=>?_) (fun c33=>?_)
  ·have a9:j<(gr[k]'a1).ln.length:=by omega
   obtain⟨lb,lof,rfl,hlb,hlr⟩:=hln.at_ hB a9;have hxr:=ba.ln k a1 _ (aq a9);obtain⟨fi,hfi,ab⟩:∃ t:Nat,((gr[k]'a1).ln[j]'a9).1=(t:Int)/\t<fs.length:=⟨(((gr[k]'a1).ln[j]'a9).1).toNat,by omega,by omega⟩
   obtain⟨ti,hti,htl⟩:∃ t:Nat,((gr[k]'a1).ln[j]'a9).2=(t:Int)/\t<gr.length:=⟨(((gr[k]'a1).ln[j]'a9).2).toNat,by omega,by omega⟩
   obtain⟨yn,bh,bg⟩:∃ t:Nat,(gr[k]'a1).ty=(t:Int)/\t<l.length:=by
     have h:=ba.ty k a1;exact⟨(gr[k]'a1).ty.toNat,by omega,by omega⟩
   obtain⟨zn,hzn,bf⟩:∃ t:Nat,(gr[ti]'htl).ty=(t:Int)/\t<l.length:=by
     have h:=ba.ty ti htl;exact⟨(gr[ti]'htl).ty.toNat,by omega,by omega⟩
   have hff:=hfo.at_ fi ab;obtain⟨on,hon,bj⟩:∃ t:Nat,(fs[fi]'ab).of=(t:Int)/\t<l.length:=⟨(fs[fi]'ab).of.toNat,by omega,by omega⟩
   obtain⟨vn,hvn,bi⟩:∃ t:Nat,(fs[fi]'ab).val=(t:Int)/\t<l.length:=⟨(fs[fi]'ab).val.toNat,by omega,by omega⟩
   obtain⟨fb,fo,rfl,hfb,hfr⟩:=hF.at_ (Below.refl _ _:Bel w w) ab;obtain⟨nb2,no2,LA2,lc2,he2,bk,b2,_⟩:=hG.at_ (Below.refl _ _:Bel w w) htl;cases he2;rw[hzn]at b2;have b8:=lnTy_at (l:=l) hfi ab hti htl bh hon hvn hzn;refine zn7 ?_;refine wl (qw U84 rfl rfl hlr gQ) ?_;refine y8 (cs:=#[.int .i64 0,.int .i64 0]) Vq rfl (fun _=>rfl) (fun _=>rfl) gQ rfl xW (fun b11 w14 bn an hr=>?_);refine zn3 ?_;rw[hfi,hti]at bn;refine zn7 ?_;refine y8 (cs:=#[.string ⟨#[]⟩,.int .i64 0,.int .i64 0]) R6 rfl (fun _=>rfl) (fun _=>rfl) Rq rfl xW (fun b12 w16 bm ad hr=>?_);refine zn3 ?_;rw[hon,hvn]at bm;replace a3:=a3.tr0 (an.t ad);rw[bh]at a3;refine xv (rg [] 42 21) (fun g w'=>g 62= .bool (!sub l yn on || !sub l zn vn)/\Same [] w16 w') ?_ (fun g11 w17 hI=>?_)
   ·refine jY [] [0,1,2,3,4,5,6,7,8,9,10,11,12,13,14,15,16,17,18,19,20] rfl (fun w18 s12=>?_);have ao:=s12;refine zn5 ?_;refine hcl (fun v wv=>v= .bool (sub l yn on)) rfl kR (LK l bu bd yn on w18 (hI.mono hB.u) h60 bg bj) rfl (fun e' w2 hr=>?_) (fun v47 w19 s13 d47=>?_)
    ·obtain⟨rfl,s14⟩:=hr;exact⟨_,rfl,sB s14,rfl⟩
    have e47:=d47;subst e47;refine zn2 ?_;replace ao:=ao.t s13;refine HK 49 rfl (fun bo=>?_) (fun bo=>?_)
    ·refine QY ?_;refine e_R ⟨agA,?_,ao⟩;show Value.bool _=Value.bool _;exact ag (by simp[bo])
    refine zn7 ?_;refine hg1 (v:= .int _ _) 49 rfl rfl rfl U3 rfl rfl (hB.u.cell bk (b2 0 _ rfl)) (zn2 ?_);refine h1 rfl (zn1 ?_);refine zW kR (LK l bu bd zn vn w19 (hI.mono hB.u) h60 bf bi) rfl (fun e' w20 hr=>?_);obtain⟨rfl,bb⟩:=hr;replace bb:=sB bb;have b1:=bb;refine⟨_,rfl,?_⟩;refine qY (KQ b1 (zn3 ?_));replace ao:=ao.t bb;refine e_R ⟨agA,?_,ao⟩;show Value.bool _=Value.bool _;exact ag (by simp[bo])
   obtain⟨h62,ac⟩:=hI;refine vZ 62 _ h62 nu (e_S ?_);refine jv rfl (fun bq=>?_) (fun bq=>?_)
   ·have hty:=tyN_yes a1 a9 (b8.trans bq);refine zn3 ?_;refine a7 kR (QX _ _ _) rfl (fun w21 s17=>?_);refine zV a2.u (fun w22 hq s18=>?_);replace a2:=hq;refine yZ ?_;refine xK (.inl rfl) rfl (zX U45 rfl rfl a2.range0 zK) ?_;exact⟨xX (wi_ty bc (hU.trans (xZ (c:=12) oG hty dE))),hB.u⟩
   refine zn7 ?_;refine x9 ((gr[k]'a1).ln.length-(j+1)) oG agA ?_;replace a3:=a3.tr0 ac;rw[<- bh]at a3;replace hB:=hB.tr0 (an.t (ad.t ac));replace a8:=a8.tr0 (an.t (ad.t ac));replace a5:=a5.tr0 (an.t (ad.t ac));replace a4:=a4.tr0 (an.t (ad.t ac));replace a2:=a2.tr0 (an.t (ad.t ac))
   exact⟨j+1,by omega,rfl,rfl,hB,a8,a5,a4,a2,a3,fun j' be h=>by
     by_cases e:j'=j
     ·subst e;rw[b8];simpa using bq
     ·exact hN j' be oG⟩
  have hun:=FV a1 (fun j' be=>hN j' be oG);refine yj ?_;refine x9 (gr.length-(k+1)) oG agA ?_;exact⟨k+1,by omega,rfl,rfl,hB,a8,a5,a4,a2,hU.trans (kZ a1 hun)⟩
 have hT0:=hU.trans (uk oG);refine zn9 ?_;refine a7 kR (unr_any G cg l.length fs.length gr _ (hG.mono hB) ba) rfl (fun w23 s19=>?_);refine zn9 ?_;refine zZ rfl (fun c70=>?_) (fun c70=>?_)
 ·refine zn3 ?_;refine a7 kR (QX _ _ _) rfl (fun w24 s20=>?_);refine zV a2.u (fun w25 hq s21=>?_);replace a2:=hq;refine zn4 ?_;refine xK (.inl rfl) rfl (zX U45 rfl rfl a2.range0 zK) ?_;exact⟨xX (wi_unr bc hT0 oG),hB.u⟩
 refine zn4 ?_;refine jW (cs:=#[.int .i64 0,.int .i64 0]) ?_;refine zV a2.u (fun w26 hq s22=>?_);replace a2:=hq;refine zn3 ?_;refine xK (.inl rfl) rfl (zX U45 rfl rfl a2.range0 zK) ?_;exact⟨xX (IY bc hT0 oG),hB.u⟩
theorem inh_any(A B G:Option Addr)(c d cg:Nat)(l:List Ty)(fs:List Ft)(gr:List Nd)(w:World)(hT:TypesIn w A l)(hv:VT l)(h60:l.length<=60)(hF:FeatsIn w B fs)(hG:NodesIn w G gr)(hfo:FOk l.length fs):Calls prog 35 #[.agg #[.slice A l.length c,.slice B fs.length d],.agg #[.slice G gr.length cg]] w fun e w'=>e= .returned (flV (y9 l fs gr))/\Bel w w':=by
 refine enT func35 ntmps35 rfl rfl fun hB=>?_;refine zn2 ?_;refine qv (cs:=#[_,_]) rfl (fun b2 w1 a5 s1 hr=>?_);refine qv (cs:=#[_]) rfl (fun b3 w2 a4 s2 hr=>?_);refine qQ (cs:=#[.int .i64 0,.int .i64 0]) qV rfl (fun b4 w3 a2 s3 hr=>?_);have lo4:=hB.u.ob hr;refine zn7 ?_;refine a7 kR (rloose_any A B G c d cg l fs gr _ (hG.mono hB.u)) rfl (fun w4 s4=>?_);refine y8 (cs:=#[.int .i64 0,.int .i64 0]) qV rfl (fun _=>rfl) (fun _=>rfl) zK rfl xW (fun b5 w6 hb5 s5 hr=>?_);refine zn9 ?_;refine zZ rfl (fun bm=>?_) (fun bm=>?_)
 ·refine zn3 ?_;refine zV a2.u (fun w7 hq s6=>?_);replace a2:=hq;refine zn4 ?_;refine xK (.inl rfl) rfl (zX U45 rfl rfl a2.range0 zK) ?_;exact⟨xX (Ny bm),hB.u⟩
 have ba:=ak.1 bm;have b6:=SX ba;have hk6:=b6.le;refine yZ ?_;refine qz (rg [6,7,9,10] 22 45) (fun m g w'=>∃ k:Nat,k<=gr.length/\m=gr.length-k/\g 22= .int .i64 k/\Bel w w'/\Blk w' b2 25 #[.slice A l.length c,.slice B fs.length d]/\Blk w' b3 28 #[.slice G gr.length cg]/\Blk w' b4 45 #[.int .i64 0,.int .i64 0]/\tyF l fs gr=yX (tyN l fs gr) k (gr.length-k)) (gr.length) ?_ (fun m g5 w8 hI=>?_)
 ·exact⟨0,ah _,rfl,rfl,hB.u,a5.u,a4.u,a2.u,rfl⟩
 obtain⟨k,hk,hm,hkk,hB,a5,a4,a2,hU⟩:=hI;refine zQ 22 _ hkk nu (zn6 ?_);refine zZ rfl (fun c23=>?_) (fun c23=>?_)
 ·have a1:k<gr.length:=by omega
  obtain⟨nb,no,LA,lc,rfl,hnb,hnr,hln⟩:=hG.at_ hB a1;have hmx:=hln.1;unfold vX at hmx;refine zn8 ?_;refine wl (qw U87 rfl rfl hnr ZW) ?_;refine qQ (cs:=#[.int .i64 0,.slice none 0 0]) Dk rfl (fun b7 w9 a3 s7 hr=>?_);have:=a5.ob hr;have:=a4.ob hr;have:=a2.ob hr;have lo7:=hB.ob hr;refine waI rfl ?_;refine zV a3 (fun w10 hq s8=>?_);replace a3:=hq;refine vJ ?_;refine qz (rg [9,10] 30 36) (fun m g w'=>∃ j:Nat,j<=(gr[k]'a1).ln.length/\m=(gr[k]'a1).ln.length-j/\g 30= .int .i64 j/\Bel w w'/\Blk w' b2 25 #[.slice A l.length c,.slice B fs.length d]/\Blk w' b3 28 #[.slice (some ⟨nb,no,none⟩) gr.length cg]/\Blk w' b4 45 #[.int .i64 0,.int .i64 0]/\Blk w' b7 87 #[.int .i64 (gr[k]'a1).ty,.slice LA (gr[k]'a1).ln.length lc]/\(∀ j' (bb:j'<(gr[k]'a1).ln.length),j'<j->Py l fs gr (gr[k]'a1).ty ((gr[k]'a1).ln[j'])=false)) ((gr[k]'a1).ln.length) ?_ (fun m g8 w11 hI=>?_)
  ·exact⟨0,ah _,rfl,rfl,hB.u,a5.u,a4.u,a2.u,a3,fun j' _ h=>by omega⟩
  obtain⟨j,hj,hmj,hjj,hB,a5,a4,a2,a3,hN⟩:=hI;refine zQ 30 _ hjj nu (zn6 ?_);refine zZ rfl (fun c31=>?_) (fun c31=>?_)
  ·have a8:j<(gr[k]'a1).ln.length:=by omega
   obtain⟨lb,lof,rfl,hlb,hlr⟩:=hln.at_ hB a8;have hxr:=b6.ln k a1 _ (aq a8);obtain⟨fi,hfi,a9⟩:∃ t:Nat,((gr[k]'a1).ln[j]'a8).1=(t:Int)/\t<fs.length:=⟨(((gr[k]'a1).ln[j]'a8).1).toNat,by omega,by omega⟩
   obtain⟨ti,hti,htl⟩:∃ t:Nat,((gr[k]'a1).ln[j]'a8).2=(t:Int)/\t<gr.length:=⟨(((gr[k]'a1).ln[j]'a8).2).toNat,by omega,by omega⟩
   obtain⟨yn,be,bd⟩:∃ t:Nat,(gr[k]'a1).ty=(t:Int)/\t<l.length:=by
     have h:=b6.ty k a1;exact⟨(gr[k]'a1).ty.toNat,by omega,by omega⟩
   obtain⟨zn,hzn,bc⟩:∃ t:Nat,(gr[ti]'htl).ty=(t:Int)/\t<l.length:=by
     have h:=b6.ty ti htl;exact⟨(gr[ti]'htl).ty.toNat,by omega,by omega⟩
   have hff:=hfo.at_ fi a9;obtain⟨on,hon,bg⟩:∃ t:Nat,(fs[fi]'a9).of=(t:Int)/\t<l.length:=⟨(fs[fi]'a9).of.toNat,by omega,by omega⟩
   obtain⟨vn,hvn,bf⟩:∃ t:Nat,(fs[fi]'a9).val=(t:Int)/\t<l.length:=⟨(fs[fi]'a9).val.toNat,by omega,by omega⟩
   obtain⟨fb,fo,rfl,hfb,hfr⟩:=hF.at_ (Below.refl _ _:Bel w w) a9;obtain⟨nb2,no2,LA2,lc2,he2,bh,ao,_⟩:=hG.at_ (Below.refl _ _:Bel w w) htl;cases he2;rw[hzn]at ao;have b1:=lnTy_at (l:=l) hfi a9 hti htl be hon hvn hzn;refine zn7 ?_;refine wl (qw U84 rfl rfl hlr gQ) ?_;refine y8 (cs:=#[.int .i64 0,.int .i64 0]) Vq rfl (fun _=>rfl) (fun _=>rfl) gQ rfl xW (fun b9 w13 hb9 s9 hr=>?_);refine zn3 ?_;rw[hfi,hti]at hb9;refine zn7 ?_;refine y8 (cs:=#[.string ⟨#[]⟩,.int .i64 0,.int .i64 0]) R6 rfl (fun _=>rfl) (fun _=>rfl) Rq rfl xW (fun b10 w15 bi ad hr=>?_);refine zn3 ?_;rw[hon,hvn]at bi;replace a3:=a3.tr0 (s9.t ad);rw[be]at a3;refine xv (rg [] 40 23) (fun g w'=>g 62= .bool (!sub l yn on || !sub l zn vn)/\Same [] w15 w') ?_ (fun g11 w16 hI=>?_)
   ·refine jY [] [0,1,2,3,4,5,6,7,8,9,10,11,12,13,14,15,16,17,18,19,20,21,22] rfl (fun w17 s11=>?_);have ab:=s11;refine zn6 ?_;refine hcl (fun v wv=>v= .bool (sub l yn on)) rfl F9 (M3 A c l yn on w17 (hT.mono hB.u) hv h60 bd bg) rfl (fun e' w2 hr=>?_) (fun v46 w18 s12 d46=>?_)
    ·obtain⟨rfl,s13⟩:=hr;exact⟨_,rfl,sB s13,rfl⟩
    have e46:=d46;subst e46;refine zn2 ?_;replace ab:=ab.t s12;refine HK 48 rfl (fun bj=>?_) (fun bj=>?_)
    ·refine Ky ?_;refine e_R ⟨agA,?_,ab⟩;show Value.bool _=Value.bool _;exact ag (by simp[bj])
    refine zn8 ?_;refine hg1 (v:= .int _ _) 48 rfl rfl rfl U3 rfl rfl (hB.u.cell bh (ao 0 _ rfl)) (zn2 ?_);refine h1 rfl (zn1 ?_);refine zW F9 (M3 A c l zn vn w18 (hT.mono hB.u) hv h60 bc bf) rfl (fun e' w19 hr=>?_);obtain⟨rfl,b8⟩:=hr;replace b8:=sB b8;have an:=b8;refine⟨_,rfl,?_⟩;refine qY (KQ an (zn3 ?_));replace ab:=ab.t b8;refine e_R ⟨agA,?_,ab⟩;show Value.bool _=Value.bool _;exact ag (by simp[bj])
   obtain⟨h62,ac⟩:=hI;refine vZ 62 _ h62 nu (e_S ?_);refine jv rfl (fun bk=>?_) (fun bk=>?_)
   ·have hty:=tyN_yes a1 a8 (b1.trans bk);refine zn3 ?_;refine vy ?_;refine zV a2.u (fun w20 hq s16=>?_);replace a2:=hq;refine yZ ?_;refine xK (.inl rfl) rfl (zX U45 rfl rfl a2.range0 zK) ?_;exact⟨xX (wi_ty ba (hU.trans (xZ (c:=12) oG hty dE))),hB.u⟩
   refine zn7 ?_;refine x9 ((gr[k]'a1).ln.length-(j+1)) oG agA ?_;replace a3:=a3.tr0 ac;rw[<- be]at a3;replace hB:=hB.tr0 (s9.t (ad.t ac));replace a5:=a5.tr0 (s9.t (ad.t ac));replace a4:=a4.tr0 (s9.t (ad.t ac));replace a2:=a2.tr0 (s9.t (ad.t ac))
   exact⟨j+1,by omega,rfl,rfl,hB,a5,a4,a2,a3,fun j' bb h=>by
     by_cases e:j'=j
     ·subst e;rw[b1];simpa using bk
     ·exact hN j' bb oG⟩
  have hun:=FV a1 (fun j' bb=>hN j' bb oG);refine yj ?_;refine x9 (gr.length-(k+1)) oG agA ?_;exact⟨k+1,by omega,rfl,rfl,hB,a5,a4,a2,hU.trans (kZ a1 hun)⟩
 have hT0:=hU.trans (uk oG);refine zn9 ?_;refine a7 kR (runr_any G cg l.length fs.length gr _ (hG.mono hB) b6) rfl (fun w21 s17=>?_);refine zn9 ?_;refine zZ rfl (fun c70=>?_) (fun c70=>?_)
 ·refine zn3 ?_;refine vy ?_;refine zV a2.u (fun w22 hq s18=>?_);replace a2:=hq;refine zn4 ?_;refine xK (.inl rfl) rfl (zX U45 rfl rfl a2.range0 zK) ?_;exact⟨xX (wi_unr ba hT0 oG),hB.u⟩
 refine zn4 ?_;refine jW (cs:=#[.int .i64 0,.int .i64 0]) ?_;refine zV a2.u (fun w23 hq s19=>?_);replace a2:=hq;refine zn3 ?_;refine xK (.inl rfl) rfl (zX U45 rfl rfl a2.range0 zK) ?_;exact⟨xX (IY ba hT0 oG),hB.u⟩
theorem qK(xs:List Int)(h:Blk w b t (xs.map (Value.int .i64)).toArray)(hl:xs.length<=vX):IntsIn w (some ⟨b,0,none⟩) xs:=
 ⟨hl,fun _=>⟨b,0,rfl,h.lt,fun k hk=>h.cell (by simp[hk])⟩⟩
theorem HW(fs:List Ft)(h:Blk w b t (fs.flatMap (fun f=>[Value.string f.name,.int .i64 f.of,.int .i64 f.val])).toArray)(hl:fs.length<=vX):FeatsIn w (some ⟨b,0,none⟩) fs:=by
 refine⟨hl,fun _=>⟨b,0,rfl,h.lt,fun k hk=>?_⟩⟩;have key:∀(l:List Ft) (k:Nat) (hk:k<l.length) (j:Nat) (v:Value),[Value.string (l[k]).name,.int .i64 (l[k]).of,.int .i64 (l[k]).val][j]? =some v->(l.flatMap (fun f=>[Value.string f.name,.int .i64 f.of,.int .i64 f.val]))[k*3+j]? =some v:=by
  intro l
  induction l with
  | nil=>intro k hk;simp at hk
  | cons a r ih=>
   intro k hk j v hj
   match k,hk with
   | 0,_=>
    have hj3:j<3:=(aC.1 hj).1;rw[List.flatMap_cons,List.getElem?_append_left (by simpa using hj3)]
    simpa using hj
   | k+1,hk=>
    rw[List.flatMap_cons,List.getElem?_append_right (by simp;omega)];have:=ih k (by simpa using hk) j v hj;have e:(k+1)*3+j-[Value.string a.name,.int .i64 a.of,.int .i64 a.val].length=k*3+j:=by simp;omega
    rw[e];exact this
 intro j v hj;have:=key fs k hk j v hj;exact h.cell (by simpa using this)
inductive TyVs(w:World):List Ty->List Value->Prop
 | nil:TyVs w [] []
 | cons {t:Ty} {l:List Ty} {vs:List Value} {A:Option Addr} {c:Nat} (h:IntsIn w A t.par) (r:TyVs w l vs):TyVs w (t::l) (.string t.name:: .slice A t.par.length c::vs)
theorem TyVs.get{l:List Ty}{vs:List Value}(h:TyVs w l vs):∀ k (hk:k<l.length),∃ A c,vs[k*2]? =some (.string (l[k]).name)/\vs[k*2+1]? =some (.slice A (l[k]).par.length c)/\IntsIn w A (l[k]).par:=by
 induction h with
 | nil=>intro k hk;simp at hk
 | cons h r ih=>
  intro k hk
  match k,hk with
  | 0,_=>exact⟨_,_,rfl,rfl,h⟩
  | k+1,hk=>
   obtain⟨A,c,h1,h2,h3⟩:=ih k (by simpa using hk);refine⟨A,c,?_,?_,h3⟩
   ·rw[show (k+1)*2=k*2+1+1 from by omega];simpa using h1
   ·rw[show (k+1)*2+1=k*2+1+1+1 from by omega];simpa using h2
theorem ov(w:World)(A:Option Addr):NodesIn w A []:=⟨ah _,fun h=>absurd rfl h⟩
abbrev cN(a:Nat)(b:Nat)(c:Nat)(d:Nat):Array Value:=#[.func (.func 110) #[] #[.pointer (some ⟨a,0,none⟩),.pointer (some ⟨b,0,none⟩),.pointer (some ⟨c,0,none⟩),.pointer (some ⟨d,0,none⟩)]]
theorem D2:(prog.info? 62).map (·.size)=some 1:=by kernel_rfl
set_option maxHeartbeats 2000000 in
theorem Cy{G:Option Addr}{cg nf bP bQ bG bV bn:Nat}(hG:NodesIn w0 G gr)(hk:Nj nf gr)(hlo:w0.heap.size<=base)(_l0P:w0.heap.size<=bP)(l0Q:w0.heap.size<=bQ)(_l0G:w0.heap.size<=bG)(_l0V:w0.heap.size<=bV)(l0n:w0.heap.size<=bn)(lP:bP<base)(lQ:bQ<base)(lG:bG<base)(lV:bV<base)(ln:bn<base)(nPQ:bP≠bQ)(nPn:bP≠bn)(nQn:bQ≠bn)(nGQ:bG≠bQ)(nGn:bG≠bn)(nVQ:bV≠bQ)(nVn:bV≠bn){o:List Nat}(hB:Bel w0 w)(hbs:base<=w.heap.size)(hok:OOk gr.length o)(ab:Blk w bP 62 #[.slice (some ⟨bn,0,none⟩) gr.length gr.length])(a4:Blk w bQ 62 #[.slice A (o).length cap])(ac:Blk w bG 28 #[.slice G gr.length cg])(a9:Blk w bV 175 (cN bP bQ bG bV))(a2:Blk w bn 3 (row gr.length (fun x=> .int .i64 (kJ o x))))(ho:Own w base 3 1 A (o).length cap (oV (o))){i:Nat}(a3:i<gr.length)(IH:∀(t:Nat) (o2:List Nat) (A2:Option Addr) (a5:Nat) (w2:World),ux gr.length (Xy o2)<ux gr.length (Xy o)->t<gr.length->Bel w0 w2->base<=w2.heap.size->OOk gr.length o2->Blk w2 bP 62 #[.slice (some ⟨bn,0,none⟩) gr.length gr.length]->Blk w2 bQ 62 #[.slice A2 (o2).length a5]->Blk w2 bG 28 #[.slice G gr.length cg]->Blk w2 bV 175 (cN bP bQ bG bV)->Blk w2 bn 3 (row gr.length (fun x=> .int .i64 (kJ o2 x)))->Own w2 base 3 1 A2 (o2).length a5 (oV (o2))->Calls prog 110 #[.int .i64 (t:Nat),.pointer (some ⟨bP,0,none⟩),.pointer (some ⟨bQ,0,none⟩),.pointer (some ⟨bG,0,none⟩),.pointer (some ⟨bV,0,none⟩)] w2 fun e w'=>e= .returned (.tuple #[])/\∃ o' A' cap',DL gr [t] o2 o'/\Blk w' bQ 62 #[.slice A' o'.length cap']/\Own w' base 3 1 A' o'.length cap' (oV o')/\Blk w' bn 3 (row gr.length (fun x=> .int .i64 (kJ o' x)))/\Chg base [bQ,bn] w2 w'):Calls prog 110 #[.int .i64 (i:Nat),.pointer (some ⟨bP,0,none⟩),.pointer (some ⟨bQ,0,none⟩),.pointer (some ⟨bG,0,none⟩),.pointer (some ⟨bV,0,none⟩)] w fun e w'=>e= .returned (.tuple #[])/\∃ o' A' cap',DL gr [i] o o'/\Blk w' bQ 62 #[.slice A' o'.length cap']/\Own w' base 3 1 A' o'.length cap' (oV o')/\Blk w' bn 3 (row gr.length (fun x=> .int .i64 (kJ o' x)))/\Chg base [bQ,bn] w w':=by
 have a1:Chg base [bQ,bn] w w/\base<=w.heap.size:=⟨Chg.refl _ _ _,hbs⟩
 have hn6:=hk.le;have hrg:=M2 hk;have hol:=hok.cnt;refine enter func110 ntmps110 rfl (aA rfl) (zn5 ?_);refine wl (x7 (i:=i) U62 qq rfl rfl a3 rfl) (wl (qj (v:= .int _ _) U3 rfl rfl (a2.cell (j5 a3))) (zn3 ?_));refine zZ rfl (fun bm=>?_) (fun bm=>?_)
 ·refine c_ret (e_Sr (fin0 (.inl rfl) rfl  ?_));exact⟨rfl,o,A,cap,.old (numO_pos bm) .nil,a4,ho,a2,a1.1⟩
 have bd:=numO_neg bm;have ba:=hok.snoc a3 bd;have hol2:=ba.cnt;refine zn8 ?_;refine wl (x7 (i:=i) U62 qq rfl rfl a3 rfl) ?_;refine xx (v:= .int _ _) a2 rfl rfl qq (by rw[row_size];omega) rfl kv (fun w1 hq t1=>?_);replace hB:=hB.tr1 t1 l0n;replace ho:=ho.tq t1;replace a1:=xV a1 t1;replace a2:=hq;rw[row_num bd]at a2;refine zn6 ?_;refine qZ (cs:=#[_]) [(0,.int _ _)] rfl U62 qq ZV dE dE kR rfl (fun b20 w2 bj t2 hr=>?_);have:=ab.u.ob hr;have:=a4.u.ob hr;have:=ac.u.ob hr;have:=a9.u.ob hr;have:=a2.ob hr;have b5:=ho.ob hr;have ao:=(nLT a1.2 hr)
 replace a1:=xV a1 t2;replace ho:=ho.tr0 t2;refine vV U62 in3 rfl dE ho bj rfl rfl rfl xW dE oG oG a1.2 (fun b9 bc w3 an t3 hg=>?_);replace a2:=a2.tr0 t2;have b3:b9≠bP:=neA ho ab.u.lt hg
 have a8:b9≠bQ:=neA ho a4.u.lt hg
 have b4:b9≠bG:=neA ho ac.u.lt hg
 have b2:b9≠bV:=neA ho a9.u.lt hg
 have b1:b9≠bn:=neA ho a2.lt hg
 replace hB:=hB.u.tr t3 (fun g hg=>nLT hlo (ho.lt g hg).1);replace ab:=(ab.tr1 t1 oG).tr0 t2;replace ab:=ab.ta t3 ho;replace a4:=(a4.tr1 t1 oG).tr0 t2;replace a4:=a4.ta t3 ho;replace ac:=(ac.tr1 t1 oG).tr0 t2;replace ac:=ac.ta t3 ho;replace a9:=(a9.tr1 t1 oG).tr0 t2;replace a9:=a9.ta t3 ho;replace a2:=a2.ta t3 ho;replace a1:=And.intro (a1.1.st t3 a1.2 (fun g hg=> .inr ((ho).lt g hg).1)) (nLT a1.2 (Same.size t3));refine xx (v:= .slice _ _ _) a4 rfl rfl D2 (by first|decide|simp) rfl rfl (fun w4 hq t4=>?_);replace hB:=hB.tr1 t4 l0Q;replace a1:=xV a1 t4;replace an:=an.tr1 t4 (neS a8);replace a4:=hq;replace a4:Blk w4 bQ 62 #[.slice (some ⟨b9,0,none⟩) (o++[i]).length bc]:=by rw[<- sl_oV];exact a4
 replace an:=own_oV an;refine zn3 ?_;obtain⟨nb,no,LA,lc,rfl,hnb,hnr,hln⟩:=hG.at_ hB a3;have hmx:=hln.1;unfold vX at hmx;refine zn4 ?_;refine wl (x7 (i:=i) U26 ZW rfl rfl a3 rfl) (zn1 ?_);refine wl (qj (v:= .slice _ _ _) U85 rfl rfl (hnr 1 _ rfl)) (zn5 ?_);replace a2:=a2.tr1 t4 oG;refine qz (rg [7] 29 9) (fun m g w'=>∃(j:Nat) (o2:List Nat) (A2:Option Addr) (a5:Nat),j<=(gr[i]'a3).ln.length/\m=(gr[i]'a3).ln.length-j/\g 29= .int .i64 j/\DL gr ((vQ gr i).take j) (o++[i]) o2/\Bel w0 w'/\Blk w' bP 62 #[.slice (some ⟨bn,0,none⟩) gr.length gr.length]/\Blk w' bQ 62 #[.slice A2 (o2).length a5]/\Blk w' bG 28 #[.slice (some ⟨nb,no,none⟩) gr.length cg]/\Blk w' bV 175 (cN bP bQ bG bV)/\Blk w' bn 3 (row gr.length (fun x=> .int .i64 (kJ o2 x)))/\Own w' base 3 1 A2 (o2).length a5 (oV (o2))/\(Chg base [bQ,bn] w w'/\base<=w'.heap.size)) ((gr[i]'a3).ln.length) ?_ (fun m g4 w5 hI=>?_)
 ·exact⟨0,_,_,_,ah _,rfl,rfl,.nil,hB,ab.u,a4,ac.u,a9.u,a2,an,a1⟩
 obtain⟨j,o2,A2,a5,hj,hm,h29,hD,hB,ab,a4,ac,a9,a2,ho,a1⟩:=hI;refine zQ 29 _ h29 nu (zn6 ?_);refine zZ rfl (fun c30=>?_) (fun c30=>?_)
 ·have bb:j<(gr[i]'a3).ln.length:=by omega
  obtain⟨lb,lof,rfl,hlb,hlr⟩:=hln.at_ hB bb;obtain⟨t,ht,htl⟩:∃ t:Nat,((gr[i]'a3).ln[j]'bb).2=(t:Int)/\t<gr.length:=by
    have h1:=hk.ln i a3 _ (aq bb);exact⟨(((gr[i]'a3).ln[j]'bb).2).toNat,by omega,by omega⟩
  obtain⟨be,s3,hs3⟩:=hD.ok hrg (fun x hx=>hrg i a3 x (List.mem_of_mem_take hx)) ba;have hlk:ux gr.length (Xy o2)<ux gr.length (Xy o):=by
    rw[hs3];exact Nat.lt_of_le_of_lt (F4 _ _ _) (Mk a3 bd)
  refine zn7 ?_;refine wl (qw U84 rfl rfl hlr gQ) ?_;refine qQ (cs:=#[.int .i64 0,.int .i64 0]) Vq rfl (fun b7 w6 bi t5 hr=>?_);have:=ab.ob hr;have:=a4.ob hr;have:=ac.ob hr;have:=a9.ob hr;have:=a2.ob hr;have b6:=(nLT a1.2 hr)
  have ad:=ho.ob hr;have lo7:=hB.ob hr;replace a1:=xV a1 t5;refine zV bi (fun w7 hq t6=>?_);replace a1:=xV a1 t6;replace ho:=ho.tr0 t5;replace ho:=ho.tr1 t6 (fun g hg=>by have:=ad g hg;omega);replace bi:=hq;refine qY (e_S ?_);rw[ht]at bi;refine zn4 ?_;replace a2:=(a2.tr0 t5).tr1 t6 oG;refine yk rfl kR (IH t o2 A2 a5 _ hlk htl hB.u a1.2 be ab.u a4.u ac.u a9.u a2 ho) rfl rfl (fun e' w8 hr=>?_);obtain⟨rfl,o3,A3,bk,hD3,bh,ho3,bg,b8⟩:=hr;replace hB:=(hB.tr0 t5).tr1 t6 lo7;replace hB:=hB.chg b8 hlo (by simp[l0Q,l0n]);replace ab:=(ab.tr0 t5).tr1 t6 oG;replace ab:=ab.chg b8 lP (by simp[nPQ,nPn]);replace ac:=(ac.tr0 t5).tr1 t6 oG;replace ac:=ac.chg b8 lG (by simp[nGQ,nGn]);replace a9:=(a9.tr0 t5).tr1 t6 oG;replace a9:=a9.chg b8 lV (by simp[nVQ,nVn]);replace a4:=bh;replace a2:=bg;replace ho:=ho3;replace a1:=And.intro (a1.1.trans b8) (nLT a1.2 b8.size);refine⟨_,rfl,?_⟩;refine zn7 ?_;refine x9 ((gr[i]'a3).ln.length-(j+1)) oG agA ?_;exact⟨j+1,o3,A3,bk,by omega,rfl,rfl,by rw[CV a3 bb ht];exact hD.append hD3,hB,ab,a4,ac,a9,a2,ho,a1⟩
 have hjx:j=(gr[i]'a3).ln.length:=by omega
 have bf:DL gr (vQ gr i) (o++[i]) o2:=by
   have e:(vQ gr i).take j=vQ gr i:=aX (by simp[vQ,yK a3,hjx]);rw[e]at hD;exact hD
 refine zn4 ?_;refine fin0 (.inr rfl) rfl  ?_;exact⟨rfl,o2,A2,a5,.new bd bf .nil,a4,ho,a2,a1.1⟩
theorem visit_any{G:Option Addr}{cg nf bP bQ bG bV bn:Nat}(hG:NodesIn w0 G gr)(hk:Nj nf gr)(hlo:w0.heap.size<=base)(a3:w0.heap.size<=bP)(l0Q:w0.heap.size<=bQ)(a4:w0.heap.size<=bG)(a2:w0.heap.size<=bV)(l0n:w0.heap.size<=bn)(lP:bP<base)(lQ:bQ<base)(lG:bG<base)(lV:bV<base)(ln:bn<base)(nPQ:bP≠bQ)(nPn:bP≠bn)(nQn:bQ≠bn)(nGQ:bG≠bQ)(nGn:bG≠bn)(nVQ:bV≠bQ)(nVn:bV≠bn):∀(m:Nat) (o:List Nat) (A:Option Addr) (cap:Nat) (w:World) (i:Nat),ux gr.length (Xy o)<=m->i<gr.length->Bel w0 w->base<=w.heap.size->OOk gr.length o->Blk w bP 62 #[.slice (some ⟨bn,0,none⟩) gr.length gr.length]->Blk w bQ 62 #[.slice A (o).length cap]->Blk w bG 28 #[.slice G gr.length cg]->Blk w bV 175 (cN bP bQ bG bV)->Blk w bn 3 (row gr.length (fun x=> .int .i64 (kJ o x)))->Own w base 3 1 A (o).length cap (oV (o))->Calls prog 110 #[.int .i64 (i:Nat),.pointer (some ⟨bP,0,none⟩),.pointer (some ⟨bQ,0,none⟩),.pointer (some ⟨bG,0,none⟩),.pointer (some ⟨bV,0,none⟩)] w fun e w'=>e= .returned (.tuple #[])/\∃ o' A' cap',DL gr [i] o o'/\Blk w' bQ 62 #[.slice A' o'.length cap']/\Own w' base 3 1 A' o'.length cap' (oV o')/\Blk w' bn 3 (row gr.length (fun x=> .int .i64 (kJ o' x)))/\Chg base [bQ,bn] w w':=by
 intro m
 induction m with
 | zero=>intro o A cap w i hm a8 hB a9 a5 h1 h2 h3 h4 h5 h6;exact Cy hG hk hlo a3 l0Q a4 a2 l0n lP lQ lG lV ln nPQ nPn nQn nGQ nGn nVQ nVn hB a9 a5 h1 h2 h3 h4 h5 h6 a8 (fun t o2 A2 a1 w2 hl=>by omega)
 | succ m ih=>intro o A cap w i hm a8 hB a9 a5 h1 h2 h3 h4 h5 h6;exact Cy hG hk hlo a3 l0Q a4 a2 l0n lP lQ lG lV ln nPQ nPn nQn nGQ nGn nVQ nVn hB a9 a5 h1 h2 h3 h4 h5 h6 a8 (fun t o2 A2 a1 w2 hl=>ih o2 A2 a1 w2 t oG)
section
section eng3
variable {P:Program} {Q:Exit->Act->World->Prop} {n:Nw} {f:Fr} {w:World} {ops:Array Oper} {rest:List Oper} {d:Tmp} {ty t e:TypeId} {pos:String} {af:Array Edge} {x y:Operand}
theorem r_cap{c:Nat}(hu:P.underlying t=some (.slice e))(hx:ev n f x= .slice A m c):
  RV P n f w ⟨dst,.call { callee:= .builtin .cap,args:=#[x],argTypes:=#[t] },ty,pos,af,gd⟩ (.int .i64 (c:Int)) w:=by
 simp[RV,execOp,resolve,invoke,builtin,hx,Builtin.cap_,run_underlying hu,goInt]
theorem run_app0{c:Nat}(hu:P.underlying t=some (.slice e))(hs:(P.info? e).map (·.size)=some sz)(hk:k<=cap):
  (Builtin.append_ #[t,t] ty #[.slice A k cap,.slice B 0 c]).run P w= .ok (.slice A k cap) w:=by
 cases hq:P.info? e with
 | none=>simp[hq]at hs
 | some i=>
  simp only[hq,Option.map_some,Option.some.injEq]at hs;have hz:(Go.sizeOf e).run P w= .ok sz w:=by simp[Go.sizeOf,typeInfo,hq,hs]
  have h0:(Builtin.firstCells sz 0 (.slice B 0 c)).run P w= .ok #[] w:=by
   cases B with
   | none=>simp[Builtin.firstCells]
   | some b=>simp[Builtin.firstCells,loadCells,loadCellsFrom]
  cases A with
  | none=>simp[Builtin.append_,run_underlying hu,hz,Builtin.lenOf,hk,h0]
  | some a=>simp[Builtin.append_,run_underlying hu,hz,Builtin.lenOf,hk,h0,storeCells]
theorem r_app0{c:Nat}(hu:P.underlying t=some (.slice e))(hs:(P.info? e).map (·.size)=some sz)(hk:k<=cap)(hx:ev n f x= .slice A k cap)(hy:ev n f y= .slice B 0 c):
  RV P n f w ⟨dst,.call { callee:= .builtin .append,args:=#[x,y],argTypes:=#[t,t] },ty,pos,af,gd⟩ (.slice A k cap) w:=by
 have hr:=run_app0 (P:=P) (w:=w) (ty:=ty) (A:=A) (B:=B) (c:=c) hu hs hk;simp only[RV,execOp,resolve,invoke,builtin,Sem.run_bind,Sem.run_pure,Result.andThen_ok,List.map_toArray,List.map_cons,List.map_nil,hx,hy,hr]
theorem wl_appZ{tn:TypeId}{zv:Value}{by':Nat}(hu:P.underlying t=some (.slice e))(hn:P.underlying tn=some (.int .i64))(hi:(P.info? e).map (fun i=>(i.zero,i.size,i.bytes))=some (some zv,sz,by'))(hz:zv.cells.size=sz)(h0:0<k)(hs:0<sz)(hb:k*by'<=140737488355328)(h63:k<=4611686018427387904)
  (hx:ev n f x= .slice none 0 0) (hy:ev n f y= .int .i64 (k:Int))
  (K:∀ b cap w1,Own w1 w.heap.size e sz (some ⟨b,0,none⟩) 0 cap []->Same [] w w1->w.heap.size<=b->k<=cap->cap<=9223372036854775807->WL P ops Q rest n (upd f d (.slice (some ⟨b,0,none⟩) k cap)) w1):
  WL P ops Q (⟨some d,.call { callee:= .builtin .append,args:=#[x,y],argTypes:=#[t,tn] },ty,pos,af,none⟩::rest) n f w:=by
 obtain⟨i,hq,hzz⟩:=aT.1 hi;simp only[Prod.mk.injEq]at hzz;obtain⟨z1,z2,z3⟩:=hzz;have a1:(Builtin.firstCells i.size 0 (.slice none 0 0)).run P w.drew= .ok ([]:List Value).toArray w.drew:=by simp[Builtin.firstCells]
 have a2:=growslice_fits (need:=0+k) (old:=0) (bytes:=i.bytes) oG (by rw[Nat.zero_add,z3];exact hb);have hr:=Lib.run_append_grow_zeros w t tn ty e i zv .i64 .i64 hu hn hq z1 none 0 0 [] a1 k h0 oG oG oG (by rw[z3];omega) a2;rw[Nat.zero_add]at hr;have hge:=grownCap_ge w k 0 e;have hle:=grownCap_le_maxLen w k 0 e (by unfold maxLen;omega)
 generalize grownCap w k 0 e=C at hr hge hle
 refine wl (v:= .slice (some ⟨w.heap.size,0,none⟩) k C) (w':=w.drew.alloc (.cells (#[]++Builtin.zeroCells zv.cells k++Builtin.zeroCells zv.cells (C-k)) e)) ?_ (K _ _ _ ?_ ?_ (ai _) hge (by unfold maxLen at hle;omega))
 ·simp only[RV,execOp,resolve,invoke,builtin,Sem.run_bind,Sem.run_pure,Result.andThen_ok,List.map_toArray,List.map_cons,List.map_nil,hx,hy,hr]
 ·refine⟨by simp,.inr ⟨w.heap.size,C,_,rfl,ai _,heap_alloc_new w.drew _,ah _,hle,?_,by simp⟩⟩
  simp only[Array.size_append,Builtin.zeroCells,Array.size_map,Array.size_range,hz];simp only[List.size_toArray,List.length_nil,Nat.zero_add,<- Nat.add_mul];rw[show k+(C-k)=C by omega]
 ·have hd:Same [] w w.drew:=⟨rfl,rfl,rfl,ai _,fun _ _ _=>rfl⟩
  exact hd.trans (o6 w.drew _)
theorem wl_appL{zv:Value}{by' c:Nat}{xs news:List Value}(hu:P.underlying t=some (.slice e))(hi:(P.info? e).map (fun i=>(i.zero,i.size,i.bytes))=some (some zv,sz,by'))(hzs:zv.cells.size=sz)(hsz:0<sz)
  (a1:Own w base e sz A k cap xs) (hx:ev n f x= .slice A k cap) (hy:ev n f y= .slice B m c) (hn:0<m->∃ b o',B=some ⟨b,o',none⟩/\∀ j u,news[j]? =some u->w.cell? ⟨b,o'+j,none⟩=some u) (hl:news.length=m*sz) (h1:news.all (·.oneCell')=true) (h63:k+m<=9223372036854775807) (a2:(k+m)*by'<=140737488355328) (a4:base<=w.heap.size)
  (K:∀ A' a3 w1,Own w1 base e sz A' (k+m) a3 (xs++news)->Same (aL A) w w1->(∀ g∈aL A',g∈aL A\/w.heap.size<=g)->WL P ops Q rest n (upd f d (.slice A' (k+m) a3)) w1):
  WL P ops Q (⟨some d,.call { callee:= .builtin .append,args:=#[x,y],argTypes:=#[t,t] },ty,pos,af,none⟩::rest) n f w:=by
 by_cases hm:0<m
 ·obtain⟨b,o',rfl,hc⟩:=hn hm
  refine wl_appC hu hi hzs hsz a1 hx hy hc hl h1 hm h63 a2 a4 (fun g a3 w1 ho hs hg=>K _ _ _ ho hs (fun g' hg'=>?_));have e1:g'=g:=ar.1 hg';subst e1;rcases hg with hg|hg
  ·exact .inl (by rw[hg];simp)
  ·exact .inr hg
 ·obtain rfl:m=0:=by omega
  obtain rfl:news= []:=aM.1 (by simpa using hl);have hs:(P.info? e).map (·.size)=some sz:=by
   obtain⟨i,hq,hzz⟩:=aT.1 hi;simp only[Prod.mk.injEq]at hzz;simp[hq,hzz.2.1]
  refine wl (r_app0 hu hs a1.cap_le hx hy) ?_;exact K A cap w (by simpa using a1) (Same.refl _ _) (fun g hg=> .inl hg)
end eng3
end
section
section eng4
variable {P:Program} {Q:Exit->Act->World->Prop} {n:Nw} {f:Fr} {w w':World} {ops:Array Oper} {rest:List Oper} {d:Tmp} {ty t e:TypeId} {pos:String} {af:Array Edge} {x y:Operand}
theorem Xk{a:Addr}(hx:ev n f x= .pointer (some a)):
 RV P n f w ⟨dst,.nilCheck x,ty,pos,af,gd⟩ (.pointer (some a)) w:=by simp[RV,execOp,hx]
variable {base sz k cap:Nat} {A:Option Addr} {xs:List Value}
theorem Own.open_(h:Own w base e sz A k cap xs)(hk:0<k):∃(g:Nat) (cur:Array Value),A=some ⟨g,0,none⟩/\base<=g/\Blk w g e cur/\k*sz<=cur.size/\(∀ j,j<k*sz->cur[j]? =xs[j]?)/\∀ w1 o v,Blk w1 g e (cur.setIfInBounds o v)->Own w1 base e sz (some ⟨g,0,none⟩) k cap (xs.set o v):=by
 rcases h.2 with ⟨_,hn⟩|⟨g,c,cur,hv,hb,hg,hkc,hm,hs,ht⟩
 ·omega
 ·cases hv
  have hle:k*sz<=cap*sz:=aV sz hkc;refine⟨g,cur,rfl,hb,hg,by omega,fun j hj=>?_,fun w1 o v hw=>⟨by rw[List.length_set];exact h.1,.inr ⟨g,cap,_,rfl,hb,hw,hkc,hm,by rw[Array.size_setIfInBounds];exact hs,?_⟩⟩⟩
  ·rw[<- ht,List.getElem?_take_of_lt hj];simp
  ·rw[Array.toList_setIfInBounds,List.take_set,ht]
theorem H2{b1 b2 s1 s2 k1 k2 c1 c2:Nat}{e1 e2:TypeId}{A1 A2:Option Addr}{x1 x2:List Value}(h:Own w b1 e1 s1 A1 k1 c1 x1)(k:Own w b2 e2 s2 A2 k2 c2 x2)(hne:e1≠e2):∀ g∈aL A1,¬g∈aL A2:=fun g h1 h2=>by
 have ht:∀ {b s k c:Nat} {e:TypeId} {A:Option Addr} {x:List Value},Own w b e s A k c x->g∈aL A->∃ cs,Blk w g e cs:=fun h hg=>by
  rcases h.2 with ⟨hv,_⟩|⟨g',c',cur,hv,_,hb,_⟩
  ·cases hv;cases hg
  ·cases hv
   simp only[aL,List.mem_singleton]at hg
   subst hg;exact⟨cur,hb⟩
 obtain⟨c1,q1⟩:=ht h h1
 obtain⟨c2,q2⟩:=ht k h2
 exact hne (jz q1 q2)
theorem Own.c{w w':World}{base:Nat}{e:TypeId}{sz:Nat}{A:Option Addr}{k cap:Nat}{xs:List Value}{X:List Nat}(h:Own w base e sz A k cap xs)(hs:Same X w w')(hx:∀ g∈aL A,g∉X:=by intro g hg hx;first|exact H2 (by assumption) (by assumption) dE g hg hx|exact(by assumption:∀ g∈aL _,g∉aL _) g hg hx|exact(by assumption:∀ g∈aL _,g∉aL _) g hx hg|(have:=(Own.lt (by assumption) g hx).1;omega)|(have:=(Own.lt (by assumption) g hx).1;have:=(by assumption:∀ g∈aL _,g<_) g hg;omega)):Own w' base e sz A k cap xs:=h.tr hs hx
def jy(n:Nat)(g:Nat->Value):List Value:=(List.range n).map g
theorem rowL_len(n:Nat)(g:Nat->Value):(jy n g).length=n:=by simp[jy]
theorem rowL_get{n j:Nat}(h:j<n):(jy n g)[j]? =some (g j):=by simp[jy,h]
theorem oW{n:Nat}{g':Nat->Value}(h:∀ j,j<n->g j=g' j):jy n g=jy n g':=aS (fun j hj=>h j (az.1 hj))
theorem Ew{n i:Nat}:(jy n g).set i v=jy n (fun x=>if x=i then v else g x):=by
 refine List.ext_getElem (by simp[jy]) (fun j h1 h2=>?_);simp only[jy,List.getElem_set,List.getElem_map,List.getElem_range];by_cases e:i=j
 ·subst e;simp
 ·rw[if_neg e,if_neg (fun h=>e h.symm)]
theorem RJ{n:Nat}:jy n g++[v]=jy (n+1) (fun x=>if x<n then g x else v):=by
 unfold jy;rw[List.range_succ,List.map_append,List.map_cons,List.map_nil,if_neg (Nat.lt_irrefl n)];refine congrArg (· ++ [v]) (aS (fun j hj=>?_));rw[if_pos (List.mem_range.1 hj)]
theorem Own.rowc(h:Own w base e 1 A m cap (jy m g)){j:Nat}(hj:j<m):∃ q,A=some ⟨q,0,none⟩/\base<=q/\q<w.heap.size/\w.cell? ⟨q,0+j*1,none⟩=some (g j):=by
 have hne:jy m g≠[]:=fun e=>by have:=congrArg List.length e;rw[rowL_len]at this;simp at this;omega
 obtain⟨q,h1,h2,h3,h4⟩:=h.cell hne;have e0:0+j*1=j:=by omega
 exact⟨q,h1,h2,h3,by rw[e0];exact h4 j _ (rowL_get hj)⟩
end eng4
end
section
def SameQ(X:List Nat)(w w':World):Prop:=Same X w w'
theorem SameQ.trans{X:List Nat}{a b c:World}(h:SameQ X a b){Y:List Nat}(k:Same Y b c)(hy:∀ g∈Y,g∈X):SameQ X a c:=Same.trans h (k.weak hy)
structure ChG(Z:Nat->Prop)(w w':World):Prop where
 os:w'.os=w.os
 tape:w'.tape=w.tape
 output:w'.output=w.output
 size:w.heap.size<=w'.heap.size
 blk:∀ k,k<w.heap.size->¬Z k->w'.heap[k]? =w.heap[k]?
theorem ChG.refl(Z:Nat->Prop)(w:World):ChG Z w w:=⟨rfl,rfl,rfl,ai _,fun _ _ _=>rfl⟩
theorem ChG.st{Y:List Nat}{a b c:World}(h:ChG Z a b)(k:Same Y b c)(hy:∀ g∈Y,Z g\/a.heap.size<=g):ChG Z a c:=
 ⟨k.os.trans h.os,k.tape.trans h.tape,k.output.trans h.output,nLT h.size k.size,fun i hi hx=>(k.blk i (nLL hi h.size) (fun hm=>(hy i hm).elim hx (fun h2=>by omega))).trans (h.blk i hi hx)⟩
theorem ChG.trans{Z Z':Nat->Prop}{a b c:World}(h:ChG Z a b)(k:ChG Z' b c)(hz:∀ g,Z' g->Z g\/a.heap.size<=g):ChG Z a c:=
 ⟨k.os.trans h.os,k.tape.trans h.tape,k.output.trans h.output,nLT h.size k.size,fun i hi hx=>(k.blk i (nLL hi h.size) (fun hm=>(hz i hm).elim hx (fun h2=>by omega))).trans (h.blk i hi hx)⟩
theorem ChG.one(h:ChG (fun g=>g=b) w w'):Same [b] w w':=⟨h.os,h.tape,h.output,h.size,fun k hk hx=>h.blk k hk (fun e=>hx (ar.2 e))⟩
theorem Blk.chG{cs:Array Value}(h:Blk w b t cs)(hc:ChG Z w w')(hx:¬Z b):Blk w' b t cs:=(hc.blk b h.lt hx).trans h
theorem Bel.chG(h:Bel w0 w)(hc:ChG Z w w')(hz:∀ g,Z g->w0.heap.size<=g):Bel w0 w':=
 ⟨hc.os.trans h.os,hc.tape.trans h.tape,hc.output.trans h.output,nLT h.size hc.size,fun k hk=>(hc.blk k (nLL hk h.size) (fun hm=>by have:=hz k hm;omega)).trans (h.block k hk)⟩
theorem ChG.bel(h:Bel w w'):ChG Z w w':=⟨h.os,h.tape,h.output,h.size,fun k hk _=>h.block k hk⟩
theorem RowO.chG{lo g:Nat}{xs:List (Int×Int)}{cs:Array Value}{t:TypeId}(h:RowO w lo bs v xs)(hb:Blk w g t cs)(ht:84≠t)(hc:ChG (fun k=>k=g) w w'):RowO w' lo bs v xs:=by
 obtain⟨A,c,e,h1,h2⟩:=h;refine⟨A,c,e,⟨h1.1,?_⟩,h2⟩;have hty:=h1.typ;rcases h1.2 with hn|⟨q,c,cur,hv,hbb,hg,r⟩
 ·exact .inl hn
 ·refine .inr ⟨q,c,cur,hv,hbb,?_,r⟩
  rw[hc.blk q (uj hg) (fun e=>?_)]
  ·exact hg
  ·subst e;exact ht (jz hg hb)
def rtG(gr:List Nd)(T:Nat->Int):List Nd:=(List.range gr.length).map (fun i=>⟨T i,(nd gr i).ln⟩)
theorem WJ(gr:List Nd)(T:Nat->Int):(rtG gr T).length=gr.length:=by simp[rtG]
theorem rtG_self(gr:List Nd):rtG gr (fun x=>(nd gr x).ty)=gr:=by
 refine List.ext_getElem (WJ _ _) (fun i h1 h2=>?_);have:=yK h2;simp[rtG,this]
theorem C4{o:List Nat}{x:Nat}(hx:x<o.length):nd (yq gr o) x=⟨(nd gr (o.getD x 0)).ty,(nd gr (o.getD x 0)).ln.map (YV o)⟩:=by simp[nd,yq,TY,List.getD,hx]
def GrT(w:World)(lo hi:Nat)(A:Option Addr)(c:Nat)(gr:List Nd)(T:Nat->Int):Prop:=
 ∃ V:Nat->Value,Own w lo 87 2 A gr.length c (ndV (fun x=> .int .i64 (T x)) V gr.length)/\(∀ g∈aL A,g<hi)/\∀ x,x<gr.length->RowO w lo hi (V x) (nd gr x).ln
def Dis(V:Nat->Value)(n:Nat):Prop:=∀ x y,x<n->y<n->x≠y->∀ A m c A' m' c',V x= .slice A m c->V y= .slice A' m' c'->∀ g∈aL A,¬g∈aL A'
theorem Dis.congr{V':Nat->Value}{n:Nat}(h:Dis V n)(e:∀ x,x<n->V x=V' x):Dis V' n:=fun x y hx hy hne A m c A' m' c' h1 h2=>h x y hx hy hne A m c A' m' c' ((e x hx).trans h1) ((e y hy).trans h2)
theorem Dis.snoc{V:Nat->Value}{L:Nat->List (Int×Int)}{w:World}{lo bs k n c:Nat}{A:Option Addr}(h:Dis V k)(hr:∀ x,x<k->RowO w lo bs (V x) (L x))(hg:∀ g∈aL A,bs<=g):Dis (fun x=>if x=k then .slice A n c else V x) (k+1):=fun x y hx hy hne A1 m1 c1 A2 m2 c2 h1 h2 g hg1 hg2=>by
 have far:∀ z,z<k->∀ A3 m3 c3,V z= .slice A3 m3 c3->∀ g∈aL A3,g<bs:=fun z hz A3 m3 c3 e g hg=>by
  obtain⟨A4,c4,e4,_,h4⟩:=hr z hz
  grind
 by_cases e:x=k
 ·grind
 ·simp only[e,if_false]at h1
  by_cases e2:y=k
  ·grind
  ·simp only[e2,if_false]at h2
   exact h x y oG oG hne _ _ _ _ _ _ h1 h2 g hg1 hg2
def GrD(w:World)(lo hi:Nat)(A:Option Addr)(c:Nat)(gr:List Nd)(T:Nat->Int):Prop:=
 ∃ V:Nat->Value,Own w lo 87 2 A gr.length c (ndV (fun x=> .int .i64 (T x)) V gr.length)/\(∀ g∈aL A,g<hi)/\(∀ x,x<gr.length->RowO w lo hi (V x) (nd gr x).ln)/\Dis V gr.length
section
variable {w w':World} {lo hi c:Nat} {A:Option Addr} {gr:List Nd} {T:Nat->Int}
theorem GrD.grt(h:GrD w lo hi A c gr T):GrT w lo hi A c gr T:=by obtain⟨V,h1,h2,h3,_⟩:=h;exact⟨V,h1,h2,h3⟩
theorem GrD.mk(ho:Own w base 87 2 A m c (ndV f V m))(hm:gr.length=m)(hb:lo<=base)(hf:∀ x,x<m->f x= .int .i64 (T x))(hA:∀ g∈aL A,g<hi)(hbs:bs<=hi)(hr:∀ x,x<m->RowO w lo bs (V x) (nd gr x).ln)(hd:Dis V m):GrD w lo hi A c gr T:=by
 subst hm;refine⟨V,?_,hA,fun x hx=>(hr x hx).up hbs,hd⟩;rw[gW (f':=f) (h':=V) (fun x hx=>(hf x hx).symm) (fun _ _=>rfl)];exact ho.low hb
theorem GrT.nodes(h:GrT w lo hi A c gr T):NodesIn w A (rtG gr T):=by
 obtain⟨V,ho,_,hr⟩:=h;refine Pj (lo:=lo) (bs:=hi) ho (WJ gr T) (fun k hk=>?_) (fun k hk=>?_)
 ·simp[rtG]
 ·grind[WJ,rtG,nd]
theorem GrT.cap_le(h:GrT w lo hi A c gr T):gr.length<=c:=by obtain⟨V,ho,_⟩:=h;exact ho.cap_le
theorem GrT.congr(h:GrT w lo hi A c gr T){T':Nat->Int}(e:∀ i,i<gr.length->T i=T' i):GrT w lo hi A c gr T':=by
 obtain⟨V,ho,hA,hr⟩:=h;exact⟨V,by rw[gW (f':=fun x=> .int .i64 (T x)) (h':=V) (fun x hx=>by rw[e x hx]) (fun _ _=>rfl)];exact ho,hA,hr⟩
theorem GrT.tr{X:List Nat}(h:GrT w lo hi A c gr T)(hs:Same X w w')(hx:∀ g∈X,g<lo\/hi<=g):GrT w' lo hi A c gr T:=by
 obtain⟨V,ho,hA,hr⟩:=h;refine⟨V,ho.tr hs (fun g hg hm=>?_),hA,fun x hxl=>?_⟩
 ·have h1:=hx g hm
  have h2:=(ho.lt g hg).1
  grind
 ·obtain⟨A2,c2,e,h1,h2⟩:=hr x hxl
  refine⟨A2,c2,e,h1.tr hs (fun g hg hm=>?_),h2⟩;have h3:=hx g hm;have h4:=(h1.lt g hg).1
  grind
theorem GrT.fr{w2:World}(h:GrT w lo hi A c gr T)(hf:FrSame lo w w2):GrT w2 lo hi A c gr T:=by
 obtain⟨V,ho,hA,hr⟩:=h;exact⟨V,ho.fr (ai _) hf,hA,fun x hx=>(hr x hx).fr hf⟩
theorem GrT.up{hi':Nat}(h:GrT w lo hi A c gr T)(hh:hi<=hi'):GrT w lo hi' A c gr T:=by
 obtain⟨V,ho,hA,hr⟩:=h;exact⟨V,ho,fun g hg=>nLL (hA g hg) hh,fun x hx=>(hr x hx).up hh⟩
theorem RowO.low{lo' bs:Nat}{v:Value}{xs:List (Int×Int)}(h:RowO w lo bs v xs)(hl:lo'<=lo):RowO w lo' bs v xs:=by
 obtain⟨A,c,e,h1,h2⟩:=h;exact⟨A,c,e,h1.low hl,h2⟩
theorem GrT.low{lo':Nat}(h:GrT w lo hi A c gr T)(hl:lo'<=lo):GrT w lo' hi A c gr T:=by
 obtain⟨V,ho,hA,hr⟩:=h;exact⟨V,ho.low hl,hA,fun x hx=>(hr x hx).low hl⟩
theorem GrT.mk(ho:Own w base 87 2 A m c (ndV f V m))(hm:gr.length=m)(hb:lo<=base)(hf:∀ x,x<m->f x= .int .i64 (T x))(hA:∀ g∈aL A,g<hi)(hbs:bs<=hi)(hr:∀ x,x<m->RowO w lo bs (V x) (nd gr x).ln):GrT w lo hi A c gr T:=by
 subst hm;refine⟨V,?_,hA,fun x hx=>(hr x hx).up hbs⟩;rw[gW (f':=f) (h':=V) (fun x hx=>(hf x hx).symm) (fun _ _=>rfl)];exact ho.low hb
theorem own_of{e:TypeId}{g:Nat}{cur:Array Value}{xs:List Value}(hb:Blk w g e cur)(a1:base<=g)(hk:k<=cap)(hm:cap<=9223372036854775807)(hs:cur.size=cap*sz)(hx:cur.toList.take (k*sz)=xs):Own w base e sz (some ⟨g,0,none⟩) k cap xs:=by
 have hle:k*sz<=cap*sz:=aV sz hk;subst hx;exact⟨by rw[List.length_take,Array.length_toList];omega,.inr ⟨g,cap,cur,rfl,a1,hb,hk,by simpa[maxLen]using hm,hs,rfl⟩⟩
theorem own_row2{h:Nat->Value}(hb:Blk w b 87 (kz m f h))(hl:lo<=b)(hm:m<=1000000):Own w lo 87 2 (some ⟨b,0,none⟩) m m (ndV f h m):=by
 refine own_of hb hl (ai _) oG (u5 m f h) ?_;refine List.ext_getElem? (fun j=>?_);by_cases hj:j<m*2
 ·have h2:j/2<m:=by omega
  rw[List.getElem?_take_of_lt hj,Array.getElem?_toList];rcases Nat.mod_two_eq_zero_or_one j with e|e
  ·have e2:j=j/2*2:=by omega
   have h3:=XK (f:=f) (h:=h) h2;rw[show 0+j/2*2+0=j by omega]at h3;have h4:=(QV f h h2).1;rw[<- e2]at h4;rw[h3,h4]
  ·have e2:j=j/2*2+1:=by omega
   have h3:=ZQ (f:=f) (h:=h) h2;rw[show 0+j/2*2+1=j by omega]at h3;have h4:=(QV f h h2).2;rw[<- e2]at h4;rw[h3,h4]
 ·rw[List.getElem?_eq_none (by rw[List.length_take];omega),List.getElem?_eq_none (by rw[K3];omega)]
theorem ndV_set0{n:Nat}:(ndV f V n).set (0+k*2+0) v=ndV (fun x=>if x=k then v else f x) V n:=by
 refine List.ext_getElem? (fun j=>?_);by_cases hj:j<n*2
 ·have h2:j/2<n:=by omega
  rcases Nat.mod_two_eq_zero_or_one j with e|e
  ·have e2:j=j/2*2:=by omega
   by_cases hjk:j/2=k
   ·rw[show 0+k*2+0=j by omega,List.getElem?_set_self (by rw[K3];exact hj)]
    grind[QV]
   ·rw[List.getElem?_set_ne oG]
    grind[QV]
  ·have e2:j=j/2*2+1:=by omega
   rw[List.getElem?_set_ne oG];have h3:=(QV (fun x=>if x=k then v else f x) V h2).2;have h4:=(QV f V h2).2;rw[<- e2]at h3 h4;rw[h3,h4]
 ·rw[List.getElem?_eq_none (by rw[List.length_set,K3];omega),List.getElem?_eq_none (by rw[K3];omega)]
theorem GrT.open_{k:Nat}(h:GrT w lo hi A c gr T)(hk:k<gr.length):∃(V:Nat->Value) (g:Nat) (cur:Array Value),A=some ⟨g,0,none⟩/\lo<=g/\g<hi/\Blk w g 87 cur/\gr.length*2<=cur.size/\(∀ x,x<gr.length->cur[0+x*2+0]? =some (.int .i64 (T x)))/\(∀ x,x<gr.length->cur[0+x*2+1]? =some (V x))/\(∀ x,x<gr.length->RowO w lo hi (V x) (nd gr x).ln)/\
  ∀ w1 v,Blk w1 g 87 (cur.setIfInBounds (0+k*2+0) (.int .i64 v))->(∀ x,x<gr.length->RowO w1 lo hi (V x) (nd gr x).ln)->GrT w1 lo hi (some ⟨g,0,none⟩) c gr (fun x=>if x=k then v else T x):=by
 obtain⟨V,ho,hA,hr⟩:=h;obtain⟨g,cur,rfl,hg,hb,hsz,hrd,hcl⟩:=ho.open_ oG;refine⟨V,g,cur,rfl,hg,hA g (ar.2 rfl),hb,hsz,fun x hx=>?_,fun x hx=>?_,hr,fun w1 v hw hr2=>⟨V,?_,hA,hr2⟩⟩
 ·rw[hrd _ oG,show 0+x*2+0=x*2 by omega];exact(QV _ _ hx).1
 ·rw[hrd _ oG,show 0+x*2+1=x*2+1 by omega];exact(QV _ _ hx).2
 ·have h1:=hcl w1 _ _ hw
  rw[ndV_set0,gW (f':=fun x=> .int .i64 (if x=k then v else T x)) (h':=V) (fun x _=>by by_cases e:x=k<;>simp[e]) (fun _ _=>rfl)]at h1;exact h1
end
end
end Go.Proofs.YtndbjnkilegebaaGreatDoor
