/- What these functions compute, at every world: slices.Index[[]bool,bool], graph.fault, graph.Loose, graph.Unreached, graph.Within, , graph.From$1; and plain laws. -/
import Derived.Test.YtmfiholmfieieaaDoorU
import Derived.Test.YtmfiholmfieieaaDoorZst
import Derived.Test.YtmfiholmfieieaaDoorDfs
import Derived.Test.YtmfiholmfieieaaDoorEng2
import Derived.Lib.AppendZerosOnto
namespace Go.Proofs.YtmfiholmfieieaaDoor
open Go.RowKit
variable {A B:Option Addr}{V f g:Nat->Value}{Z:Nat->Prop}{b base bs cap k m sz t:Nat}{dst:Option Tmp}{gd:Option (Nat×Bool)}{gr:List Nd}{v:Value}{w w' w0:World}
theorem sz105:(Tryd.prog.info? 105).map (·.size)=some 1:=by kernel_rfl
theorem I1:(Tryd.prog.info? 107).map (·.size)=some 2:=by kernel_rfl
theorem IK:(Tryd.prog.info? 109).map (·.size)=some 2:=by kernel_rfl
theorem EW:(Tryd.prog.info? 22).map (·.size)=some 1:=by kernel_rfl
theorem sz28:(Tryd.prog.info? 28).map (·.size)=some 1:=by kernel_rfl
theorem x8:(Tryd.prog.info? 3).map (·.size)=some 1:=by kernel_rfl
theorem yY:(Tryd.prog.info? 4).map (·.size)=some 1:=by kernel_rfl
theorem zj:(Tryd.prog.info? 43).map (·.size)=some 2:=by kernel_rfl
theorem ze107:(Tryd.prog.info? 107).map (·.zero)=some (some (.agg #[.int .i64 0,.slice none 0 0])):=by kernel_rfl
theorem CY:(Tryd.prog.info? 109).map (·.zero)=some (some (.agg #[.int .i64 0,.int .i64 0])):=by kernel_rfl
theorem qQ:(Tryd.prog.info? 43).map (·.zero)=some (some (.agg #[.int .i64 0,.int .i64 0])):=by kernel_rfl
theorem index_any(b n:Nat)(mk:Nat->Bool)(w:World)(hb:Blk w b 4 (row n (fun x=> .bool (mk x))))(hn:n<=1000):Calls Tryd.prog 93 #[.slice (some ⟨b,0,none⟩) n n,.bool false] w fun e w'=>(∃ r,e= .returned (.int .i64 r)/\((r= -1/\∀ i,i<n->mk i=true)\/∃ k:Nat,r=k/\k<n/\mk k=false/\∀ i,i<k->mk i=true))/\Bel w w':=by
 refine enT Tryd.func93 Tryd.ntmps93 rfl rfl fun hB=>?_;refine VQ ?_;refine qk (rgq [4,5] 8 11) (fun m g w'=>∃ k:Nat,k<=n/\m=n-k/\g 8= .int .i64 k/\Bel w w'/\∀ i,i<k->mk i=true) (n) ?_ (fun m g2 w1 hI=>?_)
 ·exact⟨0,ad _,rfl,rfl,hB,fun i hi=>by omega⟩
 obtain⟨k,hk,hm,h8,hB,hA⟩:=hI;refine zZ 8 _ h8 nu (zn6 ?_);refine zK rfl (fun c9=>?_) (fun c9=>?_)
 ·have hlt:k<n:=by omega
  refine P0 ?_;refine wl (qW (v:= .bool _) U4 rfl rfl ((hb.bel hB).cell (uz hlt))) (wl (r_eqlB U4 rfl rfl) (x6 (e_S ?_)));refine jW rfl (fun a1=>?_) (fun a1=>?_)
  ·have hmk:mk k=false:=by simpa using a1
   refine Zv ?_;exact⟨⟨_,rfl,.inr ⟨k,rfl,hlt,hmk,hA⟩⟩,hB⟩
  refine zn7 ?_;refine xY (n-(k+1)) oG agA ?_
  exact⟨k+1,by omega,rfl,rfl,hB,fun i hi=>by
    by_cases e:i=k
    ·subst e;simpa using a1
    ·exact hA i oG⟩
 have hke:k=n:=by omega
 subst hke;refine jJ ?_;exact⟨⟨_,rfl,.inl ⟨rfl,hA⟩⟩,hB⟩
theorem ZY(a b:Int)(w:World):Calls Tryd.prog 71 #[.int .i64 a,.int .i64 b] w fun e w'=>e= .returned (flV (a,b))/\Bel w w':=by
 refine enT Tryd.func71 Tryd.ntmps71 rfl rfl fun hB=>?_;refine zn2 ?_;refine qw (cs:=#[.int .i64 0,.int .i64 0]) qQ rfl (fun b4 w1 a1 s1 hr=>?_);have lo4:=hB.ob hr;refine zn6 ?_;refine VY ?_;refine zJ a1 (fun w2 hq s2=>?_);replace a1:=hq;refine zn3 ?_;refine xX (.inl rfl) rfl (zw U43 rfl rfl a1.range0 zj) ?_;exact⟨rfl,hB.u⟩
theorem loose_any(A B G:Option Addr)(c d cg:Nat)(l:List Ty)(fs:List Ft)(gr:List Nd)(w:World)(hG:NodesIn w G gr):Calls Tryd.prog 69 #[.agg #[.slice A l.length c,.slice B fs.length d],.agg #[.slice G gr.length cg]] w fun e w'=>e= .returned (flV (vV l.length fs.length gr))/\Bel w w':=by
 refine enT Tryd.func69 Tryd.ntmps69 rfl rfl fun hB=>?_;refine zn2 ?_;refine qZ (cs:=#[_,_]) rfl (fun b2 w1 a6 s1 hr=>?_);refine qZ (cs:=#[_]) rfl (fun b3 w2 a5 s2 hr=>?_);refine qw (cs:=#[.int .i64 0,.int .i64 0]) qQ rfl (fun b4 w3 a1 s3 hr=>?_);have lo4:=hB.u.ob hr;refine zn4 ?_;replace hB:=hB.tr0 (s1.t (s2.t s3));refine yy (rgq [] 10 10) 19 (.bool (decide (gr.length=0\/60<gr.length))) nu ?_ (fun gq=>?_)
 ·refine zn6 ?_;refine zQ 14 rfl (fun g14=>?_) (fun g14=>?_)
  ·refine zn5 ?_;exact vx
  refine zn9 ?_;exact vx
 refine e_S ?_;refine zK rfl (fun b5=>?_) (fun b5=>?_)
 ·refine zn2 ?_;refine aZ kR (ZY _ _ _) rfl (fun w4 s4=>?_);refine zJ a1.u (fun w5 hq s5=>?_);replace a1:=hq;refine zn4 ?_;refine xX (.inl rfl) rfl (zw U43 rfl rfl a1.range0 zj) ?_;replace hB:=(hB.tr0 s4).tr1 s5 lo4;exact⟨y8 (by simp only[vV,if_pos b5]),hB⟩
 have hR:=Lib.hid (show vV l.length fs.length gr=qJ (K4 l.length fs.length gr) 0 (gr.length-0) by simp only[vV,if_neg b5,Nat.sub_zero]);refine jJ ?_;refine qk (rgq [5,6,7,9] 24 61) (fun m g w'=>∃ k:Nat,k<=gr.length/\m=gr.length-k/\g 24= .int .i64 k/\Bel w w'/\Blk w' b2 25 #[.slice A l.length c,.slice B fs.length d]/\Blk w' b3 30 #[.slice G gr.length cg]/\Blk w' b4 43 #[.int .i64 0,.int .i64 0]/\vV l.length fs.length gr=qJ (K4 l.length fs.length gr) k (gr.length-k)) (gr.length) ?_ (fun m g4 w6 hI=>?_)
 ·exact⟨0,ad _,rfl,rfl,hB,a6.u,a5.u,a1,hR.out⟩
 obtain⟨k,hk,hm,hk0,hB,a6,a5,a1,a9⟩:=hI;refine zZ 24 _ hk0 nu (zn6 ?_);refine zK rfl (fun c25=>?_) (fun c25=>?_)
 ·have a2:k<gr.length:=by omega
  obtain⟨nb,no,LA,lc,rfl,hnb,hnr,hln⟩:=hG.at_ hB a2;have hmx:=hln.1;unfold vJ at hmx;refine zn8 ?_;refine wl (qK EJ rfl rfl hnr I1) ?_;refine qw (cs:=#[.int .i64 0,.slice none 0 0]) ze107 rfl (fun b6 w7 a8 s6 hr=>?_);have:=a6.ob hr;have:=a5.ob hr;have:=a1.ob hr;have lo6:=hB.ob hr;refine waI rfl ?_;refine zJ a8 (fun w8 hq s7=>?_);replace a8:=hq;refine zn4 ?_;replace hB:=(hB.tr0 s6).tr1 s7 lo6;replace a1:=(a1.tr0 s6).tr1 s7 oG;refine yy (rgq [] 29 11) 39 (.bool (decide ((gr[k]'a2).ty<0\/(l.length:Int)<=(gr[k]'a2).ty))) nu ?_ (fun gq=>?_)
  ·refine zn5 ?_;refine zQ 32 rfl (fun g32=>?_) (fun g32=>?_)
   ·refine zn7 ?_;exact vx
   refine Zv ?_;exact vx
  refine e_S ?_;refine zK rfl (fun b1=>?_) (fun b1=>?_)
  ·have a7:=Ez (nf:=fs.length) a2 b1;refine zn3 ?_;refine aZ kR (ZY _ _ _) rfl (fun w9 s8=>?_);refine zJ a1.u (fun w10 hq s9=>?_);replace a1:=hq;refine zn9 ?_;refine xX (.inl rfl) rfl (zw U43 rfl rfl a1.range0 zj) ?_;exact⟨y8 (a9.trans (yw (c:=3) oG a7 dE)),hB.u⟩
  refine P0 ?_;refine qk (rgq [7,9] 45 39) (fun m g w'=>∃(j:Nat) (a4:Int),j<=(gr[k]'a2).ln.length/\m=(gr[k]'a2).ln.length-j/\g 45= .int .i64 j/\g 7= .int .i64 a4/\Bel w w'/\Blk w' b2 25 #[.slice A l.length c,.slice B fs.length d]/\Blk w' b3 30 #[.slice (some ⟨nb,no,none⟩) gr.length cg]/\Blk w' b4 43 #[.int .i64 0,.int .i64 0]/\Blk w' b6 107 #[.int .i64 (gr[k]'a2).ty,.slice LA (gr[k]'a2).ln.length lc]/\K4 l.length fs.length gr k=yq fs.length gr.length a4 ((gr[k]'a2).ln.drop j)) ((gr[k]'a2).ln.length) ?_ (fun m g10 w11 hI=>?_)
  ·exact⟨0,-1,ad _,rfl,rfl,rfl,hB,a6.u,a5.u,a1,a8,Yj a2 b1⟩
  obtain⟨j,a4,hj,hmj,h45,h7,hB,a6,a5,a1,a8,hP⟩:=hI;refine zZ 45 _ h45 nu (zZ 7 _ h7 nu (zn6 ?_));refine zK rfl (fun c46=>?_) (fun c46=>?_)
  ·have a3:j<(gr[k]'a2).ln.length:=by omega
   obtain⟨lb,lof,rfl,hlb,hlr⟩:=hln.at_ hB a3;refine zn7 ?_;refine wl (qK Y2 rfl rfl hlr IK) ?_;refine yx (cs:=#[.int .i64 0,.int .i64 0]) CY rfl (fun _=>rfl) (fun _=>rfl) IK rfl y5 (fun b9 w13 hb9 s10 hr=>?_);refine zn4 ?_;replace hB:=hB.tr0 s10;replace a1:=a1.tr0 s10;refine yy (rgq [] 49 24) 72 (.bool (decide (((gr[k]'a2).ln[j]'a3).1<0\/(fs.length:Int)<=((gr[k]'a2).ln[j]'a3).1\/((gr[k]'a2).ln[j]'a3).2<0\/(gr.length:Int)<=((gr[k]'a2).ln[j]'a3).2))) nu ?_ (fun gq=>?_)
   ·refine zn5 ?_;refine zQ 52 rfl (fun g52=>?_) (fun g52=>?_)
    ·refine zn20 ?_;exact vx
    refine VQ ?_;refine zQ 60 rfl (fun g60=>?_) (fun g60=>?_)
    ·refine jJ ?_;exact vx
    refine zn8 ?_;refine zQ 65 rfl (fun g65=>?_) (fun g65=>?_)
    ·refine zn7 ?_;exact vx
    refine Zv ?_;exact vx
   refine e_S ?_;refine zK rfl (fun ab=>?_) (fun ab=>?_)
   ·have a7:=hP.trans (ln_bad a3 (show gw _ _ _ from ab));refine zn3 ?_;refine aZ kR (ZY _ _ _) rfl (fun w14 s11=>?_);refine zJ a1.u (fun w15 hq s12=>?_);replace a1:=hq;refine Zv ?_;refine xX (.inl rfl) rfl (zw U43 rfl rfl a1.range0 zj) ?_;exact⟨y8 (a9.trans (yw (c:=3) oG a7 dE)),hB.u⟩
   refine gX ?_;refine zK rfl (fun ao=>?_) (fun ao=>?_)
   ·have a7:=hP.trans (ln_ord a3 (show ¬gw _ _ _ from ab) ao);refine zn3 ?_;refine aZ kR (ZY _ _ _) rfl (fun w16 s13=>?_);refine zJ a1.u (fun w17 hq s14=>?_);replace a1:=hq;refine Zv ?_;refine xX (.inl rfl) rfl (zw U43 rfl rfl a1.range0 zj) ?_;exact⟨y8 (a9.trans (yw (c:=13) oG a7 dE)),hB.u⟩
   have hP':=hP.trans (ln_next a3 (show ¬gw _ _ _ from ab) ao);refine Zv ?_;refine xY ((gr[k]'a2).ln.length-(j+1)) oG agA ?_;exact⟨j+1,_,by omega,rfl,rfl,rfl,hB,a6.u,a5.u,a1,a8.u,hP'⟩
  have an:=hP.trans (ln_end oG);refine jZ ?_;refine xY (gr.length-(k+1)) oG agA ?_;exact⟨k+1,by omega,rfl,rfl,hB,a6,a5,a1,a9.trans (uy a2 an)⟩
 refine zn7 ?_;refine uW (cs:=#[.int .i64 0,.int .i64 0]) ?_;refine zJ a1 (fun w18 hq s15=>?_);replace a1:=hq;refine zn3 ?_;refine xX (.inl rfl) rfl (zw U43 rfl rfl a1.range0 zj) ?_;exact⟨y8 (a9.trans (gz oG)),hB.u⟩
theorem in3:(Tryd.prog.info? 3).map (fun i=>(i.zero,i.size,i.bytes))=some (some (.int .i64 0),1,8):=by kernel_rfl
theorem MY:(Tryd.prog.info? 4).map (fun i=>(i.zero,i.size,i.bytes))=some (some (.bool false),1,1):=by kernel_rfl
theorem gJ:(Tryd.prog.info? 3).map (·.zero)=some (some (.int .i64 0)):=by kernel_rfl
set_option maxHeartbeats 1000000 in
theorem unr_any(G:Option Addr)(cg nt nf:Nat)(gr:List Nd)(w:World)(hG:NodesIn w G gr)(hk:GOk nt nf gr):Calls Tryd.prog 72 #[.agg #[.slice G gr.length cg]] w fun e w'=>e= .returned (.int .i64 (I8 gr))/\Bel w w':=by
 have hn6:=hk.le;have hn0:=hk.pos;refine enT Tryd.func72 Tryd.ntmps72 rfl rfl fun hB=>?_;refine zn2 ?_;refine qZ (cs:=#[_]) rfl (fun b1 w1 a2 s1 hr=>?_);refine zn8 ?_;refine P6 (m:=gr.length) U38 MY rfl rfl rfl oG oG (fun b2 w2 a1 s2 hr=>?_);have:=a2.ob hr;have b8:=hB.u.ob hr;refine zn6 ?_;refine wl (xW (i:=0) U38 yY rfl rfl hn0 rfl) ?_;refine xj (v:= .bool _) a1 rfl rfl yY (by rw[row_size];omega) rfl Q1 (fun w3 hq s3=>?_);replace a1:=hq;rw[jX (g':=fun x=> .bool (o5 (fun _=>false) 0 x)) (fun x _=>by by_cases e:x=0<;>simp[o5,e])]at a1;refine zn5 ?_;refine qj (cs:=#[_]) [(0,.int _ _)] rfl U36 x8 gJ dE dE kR rfl (fun b14 w4 be s4 hr=>?_);have a4:b2<b14:=a1.ob hr;refine zn4 ?_;refine qk (rgq [4,5,7] 15 41) (fun m g w'=>∃(st:List Int) (A4:Option Addr) (ab:Nat) (mk:Nat->Bool),m=2*jy gr.length mk+st.length/\2*jy gr.length mk+st.length<=200/\g 4= .slice A4 st.length ab/\Bel w w'/\Blk w' b1 30 #[.slice G gr.length cg]/\Blk w' b2 4 (row gr.length (fun x=> .bool (mk x)))/\Own w' (b2+1) 3 1 A4 (st).length ab ((st).map (Value.int .i64))/\DS gr mk st gr.length 0) (2*jy gr.length (o5 (fun _=>false) 0)+1) ?_ (fun m g4 w5 hI=>?_)
 ·replace hB:=((hB.tr0 (s1.t s2)).tr1 s3 b8).tr0 s4;replace a2:=((a2.tr0 s2).tr1 s3 oG).tr0 s4;replace a1:=a1.tr0 s4;exact⟨[0],_,_,o5 (fun _=>false) 0,rfl,by have:=OW gr.length (o5 (fun _=>false) 0);simp only[List.length_cons,List.length_nil];omega,rfl,hB,a2,a1,MX be a4 rfl dE,DS.start hn0⟩
 obtain⟨st,A4,ab,mk,hm,hbd,h4,hB,a2,a1,ho,hds⟩:=hI;refine zZ 4 _ h4 nu (zn8 ?_);refine zK rfl (fun c17=>?_) (fun c17=>?_)
 ·obtain⟨a5,z,rfl⟩:=snoc_of (show 0<st.length by omega);obtain⟨i,rfl,a3,bc⟩:=hds.pop;have b5:(a5++[(i:Int)]).length=a5.length+1:=by simp
  obtain⟨q,rfl,hqb,hql,hqc⟩:=ho.cell (by simp);have hz:w5.cell? ⟨q,0+a5.length*1,none⟩=some (.int .i64 (i:Int)):=by
    have:=hqc a5.length (.int .i64 (i:Int)) (by simp)
    simpa using this
  obtain⟨nb,no,LA,lc,rfl,hnb,hnr,hln⟩:=hG.at_ hB a3;have hmx:=hln.1;unfold vJ at hmx;refine zn8 ?_;refine wl (Xj (c:=(a5.length:Int)) rfl rfl (by rw[b5];omega) oG) (wl (xW (i:=a5.length) U36 x8 rfl rfl (by rw[b5];omega) rfl) (wl (qW (v:= .int _ _) U3 rfl rfl hz) (zn8 ?_)));refine wl (Xj (c:=(a5.length:Int)) rfl rfl (by rw[b5];omega) oG) (wl (FX (h:=a5.length) U36 x8 rfl rfl (by have:=ho.cap_le;omega)) (zn4 ?_));replace ho:Own w5 (b2+1) 3 1 (some ⟨q,0,none⟩) a5.length ab (a5.map (Value.int .i64)):=by
    have h:=ho.take (k':=a5.length) oG oG
    simpa using h
  refine zn4 ?_;refine wl (xW (i:=i) U28 I1 rfl rfl a3 rfl) (zn1 ?_);refine wl (qW (v:= .slice _ _ _) jx rfl rfl (hnr 1 _ rfl)) (zn5 ?_);refine qk (rgq [4,7] 36 20) (fun m g w'=>∃(j:Nat) (a6:List Int) (A5:Option Addr) (b6:Nat) (a7:Nat->Bool),j<=(gr[i]'a3).ln.length/\m=(gr[i]'a3).ln.length-j/\g 36= .int .i64 j/\g 4= .slice A5 a6.length b6/\2*jy gr.length a7+a6.length<=2*jy gr.length mk+a5.length/\Bel w w'/\Blk w' b1 30 #[.slice (some ⟨nb,no,none⟩) gr.length cg]/\Blk w' b2 4 (row gr.length (fun x=> .bool (a7 x)))/\Own w' (b2+1) 3 1 A5 (a6).length b6 ((a6).map (Value.int .i64))/\DS gr a7 a6 i j) ((gr[i]'a3).ln.length) ?_ (fun m g8 w6 hI=>?_)
  ·exact⟨0,a5,_,_,mk,ad _,rfl,rfl,rfl,ae _,hB,a2,a1,ho,bc⟩
  obtain⟨j,a6,A5,b6,a7,hj,hmj,h36,h4,hms,hB,a2,a1,ho,a9⟩:=hI;refine zZ 36 _ h36 nu (zZ 4 _ h4 nu (zn6 ?_));refine zK rfl (fun c37=>?_) (fun c37=>?_)
  ·have ao:j<(gr[i]'a3).ln.length:=by omega
   obtain⟨lb,lof,rfl,hlb,hlr⟩:=hln.at_ hB ao;obtain⟨t,ht,htl⟩:∃ t:Nat,((gr[i]'a3).ln[j]'ao).2=(t:Int)/\t<gr.length:=by
     have h1:=hk.ln i a3 _ (ap ao);exact⟨(((gr[i]'a3).ln[j]'ao).2).toNat,by omega,by omega⟩
   refine zn7 ?_;refine wl (qK Y2 rfl rfl hlr IK) ?_;refine yx (cs:=#[.int .i64 0,.int .i64 0]) CY rfl (fun _=>rfl) (fun _=>rfl) IK rfl y5 (fun b7 w8 hb7 s5 hr=>?_);have:=a1.ob hr;have a8:=ho.ob hr;refine zn3 ?_;rw[ht]at hb7;refine zn4 ?_;refine wl (xW (i:=t) U38 yY rfl rfl htl rfl) (wl (qW (v:= .bool _) U4 rfl rfl (a1.u.cell (uz htl))) (zn3 ?_));replace ho:=ho.tr0 s5;refine jW rfl (fun bg=>?_) (fun bg=>?_)
   ·have ba:a7 t=false:=by simpa using bg
    refine zn5 ?_;refine wl (xW (i:=t) U38 yY rfl rfl htl rfl) ?_;replace a1:=a1.tr0 s5;refine xj (v:= .bool _) a1 rfl rfl yY (by rw[row_size];omega) rfl Q1 (fun w9 hq s6=>?_);replace ho:=ho.tq s6;replace a1:=hq;rw[Fw]at a1;refine zn6 ?_;refine qj (cs:=#[_]) [(0,.int _ _)] rfl U36 x8 gJ dE dE kR rfl (fun b53 w10 bd s7 hr=>?_);have:=a2.u.ob hr;have:=a1.ob hr;replace ho:=ho.tr0 s7;refine vZ U36 in3 rfl dE ho bd rfl rfl rfl y5 dE oG oG a1.u.lt (fun bf cap54 w11 b9 s8 hg=>?_);have b4:bf≠b1:=neA ho a2.u.lt hg
    have an:bf≠b2:=neA ho a1.u.lt hg
    have b3:bf≠b7:=neB hb7.u.lt hg (fun g hg=>by have:=a8 g hg;omega)
    replace hB:=hB.u.tr s8 (fun g hg=>nLT (aD b8) (ho.lt g hg).1);replace a2:=((a2.tr0 s5).tr1 s6 oG).tr0 s7;replace a2:=a2.ta s8 ho;replace a1:=a1.tr0 s7;replace a1:=a1.ta s8 ho;refine zn8 ?_;refine xY ((gr[i]'a3).ln.length-(j+1)) oG agA ?_
    first
      | exact⟨j+1,a6++[(t:Int)],_,_,o5 a7 t,by omega,rfl,rfl,M9 _ _ _ _,by have:=Q6 htl ba;simp only[List.length_append,List.length_cons,List.length_nil];omega,hB,a2,a1,JV b9,a9.new a3 ao ht htl⟩
      | exact⟨j+1,a6,_,_,a7,by omega,rfl,rfl,rfl,hms,hB,a2,a1,ho,a9.old a3 ao (by rw[ht];exact ba)⟩
   have ba:a7 t=true:=by simpa using bg
   refine zn7 ?_;refine xY ((gr[i]'a3).ln.length-(j+1)) oG agA ?_;replace hB:=hB.tr0 s5;replace a2:=a2.tr0 s5;replace a1:=a1.tr0 s5
   first
     | exact⟨j+1,a6++[(t:Int)],_,_,o5 a7 t,by omega,rfl,rfl,M9 _ _ _ _,by have:=Q6 htl ba;simp only[List.length_append,List.length_cons,List.length_nil];omega,hB,a2,a1,JV b9,a9.new a3 ao ht htl⟩
     | exact⟨j+1,a6,_,_,a7,by omega,rfl,rfl,rfl,hms,hB,a2,a1,ho,a9.old a3 ao (by rw[ht];exact ba)⟩
  have hjx:j=(gr[i]'a3).ln.length:=by omega
  refine zn5 ?_;refine xY (2*jy gr.length a7+a6.length) oG agA ?_;exact⟨a6,_,_,a7,rfl,by omega,rfl,hB,a2,a1,ho,a9.done a3 hjx⟩
 have hst:st= []:=aI.1 oG;subst hst;have bb:=hds.end_;refine zn8 ?_;refine zX kR (index_any b2 gr.length mk _ a1 oG) rfl (fun e' w12 hr=>?_);obtain⟨⟨r,rfl,hr⟩,s9⟩:=hr;replace s9:=sB s9;refine⟨_,rfl,?_⟩;refine zn5 ?_;have hun:r=I8 gr:=by
   rcases hr with ⟨h1,h2⟩|⟨k,h1,h2,h3,h4⟩
   · rw[h1];exact bb.yes h2
   · rw[h1];exact bb.no h2 h3 h4
 exact⟨YY hun.symm,hB.u⟩
theorem sz25:(Tryd.prog.info? 25).map (·.size)=some 2:=by kernel_rfl
theorem gY:(Tryd.prog.info? 30).map (·.size)=some 1:=by kernel_rfl
theorem Kk:(Tryd.prog.info? 76).map (·.size)=some 2:=by kernel_rfl
theorem sz83_GVal:(Tryd.prog.info? 83).map (·.size)=some 3:=by kernel_rfl
theorem ze83_GVal:(Tryd.prog.info? 83).map (·.zero)=some (some (.agg #[.string ⟨#[]⟩,.int .i64 0,.int .i64 0])):=by kernel_rfl
set_option maxHeartbeats 1000000 in
theorem I7(A B G:Option Addr)(c d cg bu bd:Nat)(l:List Ty)(fs:List Ft)(gr:List Nd)(w:World)(hI:TableIn w l bu bd)(h60:l.length<=60)(hF:FeatsIn w B fs)(hG:NodesIn w G gr)(hfo:FOk l.length fs):Calls Tryd.prog 49 #[.agg #[.slice A l.length c,.slice B fs.length d],C6 l.length bu bd,.agg #[.slice G gr.length cg]] w fun e w'=>e= .returned (flV (xy l fs gr))/\Bel w w':=by
 refine enT Tryd.func49 Tryd.ntmps49 rfl rfl fun hB=>?_;refine zn2 ?_;refine qZ (cs:=#[_,_]) rfl (fun b3 w1 a6 s1 hr=>?_);refine qZ (cs:=#[_,_]) rfl (fun b4 w2 a5 s2 hr=>?_);refine qZ (cs:=#[_]) rfl (fun b5 w3 a4 s3 hr=>?_);refine qw (cs:=#[.int .i64 0,.int .i64 0]) qQ rfl (fun b6 w4 a2 s4 hr=>?_);have lo6:=hB.u.ob hr;refine zn7 ?_;refine aZ kR (loose_any A B G c d cg l fs gr _ (hG.mono hB.u)) rfl (fun w5 s5=>?_);refine yx (cs:=#[.int .i64 0,.int .i64 0]) qQ rfl (fun _=>rfl) (fun _=>rfl) zj rfl y5 (fun b7 w7 hb7 s6 hr=>?_);refine zn9 ?_;refine zK rfl (fun br=>?_) (fun br=>?_)
 ·refine zn3 ?_;refine zJ a2.u (fun w8 hq s7=>?_);replace a2:=hq;refine zn4 ?_;refine xX (.inl rfl) rfl (zw U43 rfl rfl a2.range0 zj) ?_;exact⟨y8 (P8 br),hB.u⟩
 have bc:=aG.1 br;have ba:=gok_of bc;have hk6:=ba.le;refine jJ ?_;refine qk (rgq [8,9,11,12] 24 43) (fun m g w'=>∃ k:Nat,k<=gr.length/\m=gr.length-k/\g 24= .int .i64 k/\Bel w w'/\Blk w' b3 25 #[.slice A l.length c,.slice B fs.length d]/\Blk w' b4 76 #[.slice (some ⟨bu,0,none⟩) l.length l.length,.slice (some ⟨bd,0,none⟩) l.length l.length]/\Blk w' b5 30 #[.slice G gr.length cg]/\Blk w' b6 43 #[.int .i64 0,.int .i64 0]/\tyF l fs gr=qJ (tyN l fs gr) k (gr.length-k)) (gr.length) ?_ (fun m g5 w9 hI=>?_)
 ·exact⟨0,ad _,rfl,rfl,hB.u,a6.u,a5.u,a4.u,a2.u,rfl⟩
 obtain⟨k,hk,hm,hkk,hB,a6,a5,a4,a2,hU⟩:=hI;refine zZ 24 _ hkk nu (zn6 ?_);refine zK rfl (fun c25=>?_) (fun c25=>?_)
 ·have a1:k<gr.length:=by omega
  obtain⟨nb,no,LA,lc,rfl,hnb,hnr,hln⟩:=hG.at_ hB a1;have hmx:=hln.1;unfold vJ at hmx;refine zn8 ?_;refine wl (qK EJ rfl rfl hnr I1) ?_;refine qw (cs:=#[.int .i64 0,.slice none 0 0]) ze107 rfl (fun b9 w10 a3 s8 hr=>?_);have:=a6.ob hr;have:=a5.ob hr;have:=a4.ob hr;have:=a2.ob hr;have lo9:=hB.ob hr;refine waI rfl ?_;refine zJ a3 (fun w11 hq s9=>?_);replace a3:=hq;refine gX ?_;refine qk (rgq [11,12] 32 34) (fun m g w'=>∃ j:Nat,j<=(gr[k]'a1).ln.length/\m=(gr[k]'a1).ln.length-j/\g 32= .int .i64 j/\Bel w w'/\Blk w' b3 25 #[.slice A l.length c,.slice B fs.length d]/\Blk w' b4 76 #[.slice (some ⟨bu,0,none⟩) l.length l.length,.slice (some ⟨bd,0,none⟩) l.length l.length]/\Blk w' b5 30 #[.slice (some ⟨nb,no,none⟩) gr.length cg]/\Blk w' b6 43 #[.int .i64 0,.int .i64 0]/\Blk w' b9 107 #[.int .i64 (gr[k]'a1).ty,.slice LA (gr[k]'a1).ln.length lc]/\(∀ j' (be:j'<(gr[k]'a1).ln.length),j'<j->Eq l fs gr (gr[k]'a1).ty ((gr[k]'a1).ln[j'])=false)) ((gr[k]'a1).ln.length) ?_ (fun m g8 w12 hI=>?_)
  ·exact⟨0,ad _,rfl,rfl,hB.u,a6.u,a5.u,a4.u,a2.u,a3,fun j' _ h=>by omega⟩
  obtain⟨j,hj,hmj,hjj,hB,a6,a5,a4,a2,a3,hN⟩:=hI;refine zZ 32 _ hjj nu (zn6 ?_);refine zK rfl (fun c33=>?_) (fun c33=>?_)
  ·have a7:j<(gr[k]'a1).ln.length:=by omega
   obtain⟨lb,lof,rfl,hlb,hlr⟩:=hln.at_ hB a7;have hxr:=ba.ln k a1 _ (ap a7);obtain⟨fi,hfi,a8⟩:∃ t:Nat,((gr[k]'a1).ln[j]'a7).1=(t:Int)/\t<fs.length:=⟨(((gr[k]'a1).ln[j]'a7).1).toNat,by omega,by omega⟩
   obtain⟨ti,hti,htl⟩:∃ t:Nat,((gr[k]'a1).ln[j]'a7).2=(t:Int)/\t<gr.length:=⟨(((gr[k]'a1).ln[j]'a7).2).toNat,by omega,by omega⟩
   obtain⟨yn,bh,bg⟩:∃ t:Nat,(gr[k]'a1).ty=(t:Int)/\t<l.length:=by
     have h:=ba.ty k a1;exact⟨(gr[k]'a1).ty.toNat,by omega,by omega⟩
   obtain⟨zn,hzn,bf⟩:∃ t:Nat,(gr[ti]'htl).ty=(t:Int)/\t<l.length:=by
     have h:=ba.ty ti htl;exact⟨(gr[ti]'htl).ty.toNat,by omega,by omega⟩
   have hff:=hfo.at_ fi a8;obtain⟨on,hon,bj⟩:∃ t:Nat,(fs[fi]'a8).of=(t:Int)/\t<l.length:=⟨(fs[fi]'a8).of.toNat,by omega,by omega⟩
   obtain⟨vn,hvn,bi⟩:∃ t:Nat,(fs[fi]'a8).val=(t:Int)/\t<l.length:=⟨(fs[fi]'a8).val.toNat,by omega,by omega⟩
   obtain⟨fb,fo,rfl,hfb,hfr⟩:=hF.at_ (Below.refl _ _:Bel w w) a8;obtain⟨nb2,no2,LA2,lc2,he2,bk,b2,_⟩:=hG.at_ (Below.refl _ _:Bel w w) htl;cases he2;rw[hzn]at b2;have b8:=lnTy_at (l:=l) hfi a8 hti htl bh hon hvn hzn;refine zn7 ?_;refine wl (qK Y2 rfl rfl hlr IK) ?_;refine yx (cs:=#[.int .i64 0,.int .i64 0]) CY rfl (fun _=>rfl) (fun _=>rfl) IK rfl y5 (fun b11 w14 bn an hr=>?_);refine zn3 ?_;rw[hfi,hti]at bn;refine zn7 ?_;refine yx (cs:=#[.string ⟨#[]⟩,.int .i64 0,.int .i64 0]) ze83_GVal rfl (fun _=>rfl) (fun _=>rfl) sz83_GVal rfl y5 (fun b12 w16 bm ab hr=>?_);refine zn3 ?_;rw[hon,hvn]at bm;replace a3:=a3.tr0 (an.t ab);rw[bh]at a3;refine yX (rgq [] 42 21) (fun g w'=>g 62= .bool (!sub l yn on || !sub l zn vn)/\Same [] w16 w') ?_ (fun g11 w17 hI=>?_)
   ·refine uV [] [0,1,2,3,4,5,6,7,8,9,10,11,12,13,14,15,16,17,18,19,20] rfl (fun w18 s12=>?_);have ao:=s12;refine zn5 ?_;refine hcl (fun v wv=>v= .bool (sub l yn on)) rfl kR (RQ l bu bd yn on w18 (hI.mono hB.u) h60 bg bj) rfl (fun e' w2 hr=>?_) (fun v47 w19 s13 d47=>?_)
    ·obtain⟨rfl,s14⟩:=hr;exact⟨_,rfl,sB s14,rfl⟩
    have e47:=d47;subst e47;refine zn2 ?_;replace ao:=ao.t s13;refine h_cases 49 rfl (fun bo=>?_) (fun bo=>?_)
    ·refine VQ ?_;refine e_R ⟨agA,?_,ao⟩;show Value.bool _=Value.bool _;exact ac (by simp[bo])
    refine zn7 ?_;refine hg1 (v:= .int _ _) 49 rfl rfl rfl U3 rfl rfl (hB.u.cell bk (b2 0 _ rfl)) (zn2 ?_);refine h1 rfl (zn1 ?_);refine zX kR (RQ l bu bd zn vn w19 (hI.mono hB.u) h60 bf bi) rfl (fun e' w20 hr=>?_);obtain⟨rfl,bb⟩:=hr;replace bb:=sB bb;have b1:=bb;refine⟨_,rfl,?_⟩;refine x6 (Y1 b1 (zn3 ?_));replace ao:=ao.t bb;refine e_R ⟨agA,?_,ao⟩;show Value.bool _=Value.bool _;exact ac (by simp[bo])
   obtain⟨h62,a9⟩:=hI;refine Zq 62 _ h62 nu (e_S ?_);refine jW rfl (fun bq=>?_) (fun bq=>?_)
   ·have hty:=tyN_yes a1 a7 (b8.trans bq);refine zn3 ?_;refine aZ kR (ZY _ _ _) rfl (fun w21 s17=>?_);refine zJ a2.u (fun w22 hq s18=>?_);replace a2:=hq;refine jJ ?_;refine xX (.inl rfl) rfl (zw U43 rfl rfl a2.range0 zj) ?_;exact⟨y8 (wi_ty bc (hU.trans (yw (c:=12) oG hty dE))),hB.u⟩
   refine zn7 ?_;refine xY ((gr[k]'a1).ln.length-(j+1)) oG agA ?_;replace a3:=a3.tr0 a9;rw[<- bh]at a3;replace hB:=hB.tr0 (an.t (ab.t a9));replace a6:=a6.tr0 (an.t (ab.t a9));replace a5:=a5.tr0 (an.t (ab.t a9));replace a4:=a4.tr0 (an.t (ab.t a9));replace a2:=a2.tr0 (an.t (ab.t a9))
   exact⟨j+1,by omega,rfl,rfl,hB,a6,a5,a4,a2,a3,fun j' be h=>by
     by_cases e:j'=j
     ·subst e;rw[b8];simpa using bq
     ·exact hN j' be oG⟩
  have hun:=HW a1 (fun j' be=>hN j' be oG);refine jZ ?_;refine xY (gr.length-(k+1)) oG agA ?_;exact⟨k+1,by omega,rfl,rfl,hB,a6,a5,a4,a2,hU.trans (uy a1 hun)⟩
 have hT0:=hU.trans (gz oG);refine zn9 ?_;refine aZ kR (unr_any G cg l.length fs.length gr _ (hG.mono hB) ba) rfl (fun w23 s19=>?_);refine zn9 ?_;refine zK rfl (fun c70=>?_) (fun c70=>?_)
 ·refine zn3 ?_;refine aZ kR (ZY _ _ _) rfl (fun w24 s20=>?_);refine zJ a2.u (fun w25 hq s21=>?_);replace a2:=hq;refine zn4 ?_;refine xX (.inl rfl) rfl (zw U43 rfl rfl a2.range0 zj) ?_;exact⟨y8 (wi_unr bc hT0 oG),hB.u⟩
 refine zn4 ?_;refine uW (cs:=#[.int .i64 0,.int .i64 0]) ?_;refine zJ a2.u (fun w26 hq s22=>?_);replace a2:=hq;refine zn3 ?_;refine xX (.inl rfl) rfl (zw U43 rfl rfl a2.range0 zj) ?_;exact⟨y8 (IZ bc hT0 oG),hB.u⟩
theorem qx(xs:List Int)(h:Blk w b t (xs.map (Value.int .i64)).toArray)(hl:xs.length<=vJ):IntsIn w (some ⟨b,0,none⟩) xs:=
 ⟨hl,fun _=>⟨b,0,rfl,h.lt,fun k hk=>h.cell (by simp[hk])⟩⟩
theorem TQ(fs:List Ft)(h:Blk w b t (fs.flatMap (fun f=>[Value.string f.name,.int .i64 f.of,.int .i64 f.val])).toArray)(hl:fs.length<=vJ):FeatsIn w (some ⟨b,0,none⟩) fs:=by
 refine⟨hl,fun _=>⟨b,0,rfl,h.lt,fun k hk=>?_⟩⟩;have key:∀(l:List Ft) (k:Nat) (hk:k<l.length) (j:Nat) (v:Value),[Value.string (l[k]).name,.int .i64 (l[k]).of,.int .i64 (l[k]).val][j]? =some v->(l.flatMap (fun f=>[Value.string f.name,.int .i64 f.of,.int .i64 f.val]))[k*3+j]? =some v:=by
  intro l
  induction l with
  | nil=>intro k hk;simp at hk
  | cons a r ih=>
   intro k hk j v hj
   match k,hk with
   | 0,_=>
    have hj3:j<3:=(aC.1 hj).1;rw[List.flatMap_cons,List.getElem?_append_left (by simpa using hj3)]
    simpa using hj
   | k+1,hk=>
    rw[List.flatMap_cons,List.getElem?_append_right (by simp;omega)];have:=ih k (by simpa using hk) j v hj;have e:(k+1)*3+j-[Value.string a.name,.int .i64 a.of,.int .i64 a.val].length=k*3+j:=by simp;omega
    rw[e];exact this
 intro j v hj;have:=key fs k hk j v hj;exact h.cell (by simpa using this)
inductive TyVs(w:World):List Ty->List Value->Prop
 | nil:TyVs w [] []
 | cons {t:Ty} {l:List Ty} {vs:List Value} {A:Option Addr} {c:Nat} (h:IntsIn w A t.par) (r:TyVs w l vs):TyVs w (t::l) (.string t.name:: .slice A t.par.length c::vs)
theorem TyVs.get{l:List Ty}{vs:List Value}(h:TyVs w l vs):∀ k (hk:k<l.length),∃ A c,vs[k*2]? =some (.string (l[k]).name)/\vs[k*2+1]? =some (.slice A (l[k]).par.length c)/\IntsIn w A (l[k]).par:=by
 induction h with
 | nil=>intro k hk;simp at hk
 | cons h r ih=>
  intro k hk
  match k,hk with
  | 0,_=>exact⟨_,_,rfl,rfl,h⟩
  | k+1,hk=>
   obtain⟨A,c,h1,h2,h3⟩:=ih k (by simpa using hk);refine⟨A,c,?_,?_,h3⟩
   ·rw[show (k+1)*2=k*2+1+1 from by omega];simpa using h1
   ·rw[show (k+1)*2+1=k*2+1+1+1 from by omega];simpa using h2
theorem KJ(w:World)(A:Option Addr):NodesIn w A []:=⟨ad _,fun h=>absurd rfl h⟩
abbrev cD(a:Nat)(b:Nat)(c:Nat)(d:Nat):Array Value:=#[.pointer (some ⟨a,0,none⟩),.pointer (some ⟨b,0,none⟩),.pointer (some ⟨c,0,none⟩),.pointer (some ⟨d,0,none⟩)]
theorem J3:(Tryd.prog.info? 36).map (·.size)=some 1:=by kernel_rfl
set_option maxHeartbeats 2000000 in
theorem Pz{G:Option Addr}{cg nf bP bQ bG bV bn:Nat}(hG:NodesIn w0 G gr)(hk:CW nf gr)(hlo:w0.heap.size<=base)(_l0P:w0.heap.size<=bP)(l0Q:w0.heap.size<=bQ)(_l0G:w0.heap.size<=bG)(_l0V:w0.heap.size<=bV)(l0n:w0.heap.size<=bn)(lP:bP<base)(lQ:bQ<base)(lG:bG<base)(lV:bV<base)(ln:bn<base)(nPQ:bP≠bQ)(nPn:bP≠bn)(nQn:bQ≠bn)(nGQ:bG≠bQ)(nGn:bG≠bn)(nVQ:bV≠bQ)(nVn:bV≠bn){o:List Nat}(hB:Bel w0 w)(hbs:base<=w.heap.size)(hok:OOk gr.length o)(a8:Blk w bP 36 #[.slice (some ⟨bn,0,none⟩) gr.length gr.length])(a4:Blk w bQ 36 #[.slice A (o).length cap])(a9:Blk w bG 30 #[.slice G gr.length cg])(a7:Blk w bV 148 #[.func (.func 79) #[] (cD bP bQ bG bV)])(a2:Blk w bn 3 (row gr.length (fun x=> .int .i64 (uk o x))))(ho:Own w base 3 1 A (o).length cap (oV (o))){i:Nat}(a3:i<gr.length)(IH:∀(t:Nat) (o2:List Nat) (A2:Option Addr) (a5:Nat) (w2:World),jy gr.length (V9 o2)<jy gr.length (V9 o)->t<gr.length->Bel w0 w2->base<=w2.heap.size->OOk gr.length o2->Blk w2 bP 36 #[.slice (some ⟨bn,0,none⟩) gr.length gr.length]->Blk w2 bQ 36 #[.slice A2 (o2).length a5]->Blk w2 bG 30 #[.slice G gr.length cg]->Blk w2 bV 148 #[.func (.func 79) #[] (cD bP bQ bG bV)]->Blk w2 bn 3 (row gr.length (fun x=> .int .i64 (uk o2 x)))->Own w2 base 3 1 A2 (o2).length a5 (oV (o2))->Calls Tryd.prog 79 #[.int .i64 (t:Nat),.pointer (some ⟨bP,0,none⟩),.pointer (some ⟨bQ,0,none⟩),.pointer (some ⟨bG,0,none⟩),.pointer (some ⟨bV,0,none⟩)] w2 fun e w'=>e= .returned (.tuple #[])/\∃ o' A' cap',DL gr [t] o2 o'/\Blk w' bQ 36 #[.slice A' o'.length cap']/\Own w' base 3 1 A' o'.length cap' (oV o')/\Blk w' bn 3 (row gr.length (fun x=> .int .i64 (uk o' x)))/\Chg base [bQ,bn] w2 w'):Calls Tryd.prog 79 #[.int .i64 (i:Nat),.pointer (some ⟨bP,0,none⟩),.pointer (some ⟨bQ,0,none⟩),.pointer (some ⟨bG,0,none⟩),.pointer (some ⟨bV,0,none⟩)] w fun e w'=>e= .returned (.tuple #[])/\∃ o' A' cap',DL gr [i] o o'/\Blk w' bQ 36 #[.slice A' o'.length cap']/\Own w' base 3 1 A' o'.length cap' (oV o')/\Blk w' bn 3 (row gr.length (fun x=> .int .i64 (uk o' x)))/\Chg base [bQ,bn] w w':=by
 have a1:Chg base [bQ,bn] w w/\base<=w.heap.size:=⟨Chg.refl _ _ _,hbs⟩
 have hn6:=hk.le;have hrg:=B9 hk;have hol:=hok.cnt;refine enter Tryd.func79 Tryd.ntmps79 rfl (aE rfl) (zn5 ?_);refine wl (xW (i:=i) U36 x8 rfl rfl a3 rfl) (wl (qW (v:= .int _ _) U3 rfl rfl (a2.cell (uz a3))) (zn3 ?_));refine zK rfl (fun bm=>?_) (fun bm=>?_)
 ·refine c_ret (e_Sr (fin0 (.inl rfl) rfl  ?_));exact⟨rfl,o,A,cap,.old (numO_pos bm) .nil,a4,ho,a2,a1.1⟩
 have bd:=numO_neg bm;have ba:=hok.snoc a3 bd;have hol2:=ba.cnt;refine zn8 ?_;refine wl (xW (i:=i) U36 x8 rfl rfl a3 rfl) ?_;refine xj (v:= .int _ _) a2 rfl rfl x8 (by rw[row_size];omega) rfl Q1 (fun w1 hq t1=>?_);replace hB:=hB.tr1 t1 l0n;replace ho:=ho.tq t1;replace a1:=xx a1 t1;replace a2:=hq;rw[row_num bd]at a2;refine zn6 ?_;refine qj (cs:=#[_]) [(0,.int _ _)] rfl U36 x8 gJ dE dE kR rfl (fun b20 w2 bj t2 hr=>?_);have:=a8.u.ob hr;have:=a4.u.ob hr;have:=a9.u.ob hr;have:=a7.u.ob hr;have:=a2.ob hr;have b5:=ho.ob hr;have ao:=(nLT a1.2 hr)
 replace a1:=xx a1 t2;replace ho:=ho.tr0 t2;refine vZ U36 in3 rfl dE ho bj rfl rfl rfl y5 dE oG oG a1.2 (fun b9 bc w3 an t3 hg=>?_);replace a2:=a2.tr0 t2;have b3:b9≠bP:=neA ho a8.u.lt hg
 have a6:b9≠bQ:=neA ho a4.u.lt hg
 have b4:b9≠bG:=neA ho a9.u.lt hg
 have b2:b9≠bV:=neA ho a7.u.lt hg
 have b1:b9≠bn:=neA ho a2.lt hg
 replace hB:=hB.u.tr t3 (fun g hg=>nLT hlo (ho.lt g hg).1);replace a8:=(a8.tr1 t1 oG).tr0 t2;replace a8:=a8.ta t3 ho;replace a4:=(a4.tr1 t1 oG).tr0 t2;replace a4:=a4.ta t3 ho;replace a9:=(a9.tr1 t1 oG).tr0 t2;replace a9:=a9.ta t3 ho;replace a7:=(a7.tr1 t1 oG).tr0 t2;replace a7:=a7.ta t3 ho;replace a2:=a2.ta t3 ho;replace a1:=And.intro (a1.1.st t3 a1.2 (fun g hg=> .inr ((ho).lt g hg).1)) (nLT a1.2 (Same.size t3));refine xj (v:= .slice _ _ _) a4 rfl rfl J3 (by first|decide|simp) rfl rfl (fun w4 hq t4=>?_);replace hB:=hB.tr1 t4 l0Q;replace a1:=xx a1 t4;replace an:=an.tr1 t4 (neS a6);replace a4:=hq;replace a4:Blk w4 bQ 36 #[.slice (some ⟨b9,0,none⟩) (o++[i]).length bc]:=by rw[<- sl_oV];exact a4
 replace an:=own_oV an;refine zn3 ?_;obtain⟨nb,no,LA,lc,rfl,hnb,hnr,hln⟩:=hG.at_ hB a3;have hmx:=hln.1;unfold vJ at hmx;refine zn4 ?_;refine wl (xW (i:=i) U28 I1 rfl rfl a3 rfl) (zn1 ?_);refine wl (qW (v:= .slice _ _ _) jx rfl rfl (hnr 1 _ rfl)) (zn5 ?_);replace a2:=a2.tr1 t4 oG;refine qk (rgq [7] 29 9) (fun m g w'=>∃(j:Nat) (o2:List Nat) (A2:Option Addr) (a5:Nat),j<=(gr[i]'a3).ln.length/\m=(gr[i]'a3).ln.length-j/\g 29= .int .i64 j/\DL gr ((yJ gr i).take j) (o++[i]) o2/\Bel w0 w'/\Blk w' bP 36 #[.slice (some ⟨bn,0,none⟩) gr.length gr.length]/\Blk w' bQ 36 #[.slice A2 (o2).length a5]/\Blk w' bG 30 #[.slice (some ⟨nb,no,none⟩) gr.length cg]/\Blk w' bV 148 #[.func (.func 79) #[] (cD bP bQ bG bV)]/\Blk w' bn 3 (row gr.length (fun x=> .int .i64 (uk o2 x)))/\Own w' base 3 1 A2 (o2).length a5 (oV (o2))/\(Chg base [bQ,bn] w w'/\base<=w'.heap.size)) ((gr[i]'a3).ln.length) ?_ (fun m g4 w5 hI=>?_)
 ·exact⟨0,_,_,_,ad _,rfl,rfl,.nil,hB,a8.u,a4,a9.u,a7.u,a2,an,a1⟩
 obtain⟨j,o2,A2,a5,hj,hm,h29,hD,hB,a8,a4,a9,a7,a2,ho,a1⟩:=hI;refine zZ 29 _ h29 nu (zn6 ?_);refine zK rfl (fun c30=>?_) (fun c30=>?_)
 ·have bb:j<(gr[i]'a3).ln.length:=by omega
  obtain⟨lb,lof,rfl,hlb,hlr⟩:=hln.at_ hB bb;obtain⟨t,ht,htl⟩:∃ t:Nat,((gr[i]'a3).ln[j]'bb).2=(t:Int)/\t<gr.length:=by
    have h1:=hk.ln i a3 _ (ap bb);exact⟨(((gr[i]'a3).ln[j]'bb).2).toNat,by omega,by omega⟩
  obtain⟨be,s3,hs3⟩:=hD.ok hrg (fun x hx=>hrg i a3 x (List.mem_of_mem_take hx)) ba;have hlk:jy gr.length (V9 o2)<jy gr.length (V9 o):=by
    rw[hs3];exact Nat.lt_of_le_of_lt (lack_more _ _ _) (Ek a3 bd)
  refine zn7 ?_;refine wl (qK Y2 rfl rfl hlr IK) ?_;refine qw (cs:=#[.int .i64 0,.int .i64 0]) CY rfl (fun b7 w6 bi t5 hr=>?_);have:=a8.ob hr;have:=a4.ob hr;have:=a9.ob hr;have:=a7.ob hr;have:=a2.ob hr;have b6:=(nLT a1.2 hr)
  have ab:=ho.ob hr;have lo7:=hB.ob hr;replace a1:=xx a1 t5;refine zJ bi (fun w7 hq t6=>?_);replace a1:=xx a1 t6;replace ho:=ho.tr0 t5;replace ho:=ho.tr1 t6 (fun g hg=>by have:=ab g hg;omega);replace bi:=hq;refine x6 (e_S ?_);rw[ht]at bi;refine zn4 ?_;replace a2:=(a2.tr0 t5).tr1 t6 oG;refine xw rfl kR (IH t o2 A2 a5 _ hlk htl hB.u a1.2 be a8.u a4.u a9.u a7.u a2 ho) rfl rfl (fun e' w8 hr=>?_);obtain⟨rfl,o3,A3,bk,hD3,bh,ho3,bg,b8⟩:=hr;replace hB:=(hB.tr0 t5).tr1 t6 lo7;replace hB:=hB.chg b8 hlo (by simp[l0Q,l0n]);replace a8:=(a8.tr0 t5).tr1 t6 oG;replace a8:=a8.chg b8 lP (by simp[nPQ,nPn]);replace a9:=(a9.tr0 t5).tr1 t6 oG;replace a9:=a9.chg b8 lG (by simp[nGQ,nGn]);replace a7:=(a7.tr0 t5).tr1 t6 oG;replace a7:=a7.chg b8 lV (by simp[nVQ,nVn]);replace a4:=bh;replace a2:=bg;replace ho:=ho3;replace a1:=And.intro (a1.1.trans b8) (nLT a1.2 b8.size);refine⟨_,rfl,?_⟩;refine zn7 ?_;refine xY ((gr[i]'a3).ln.length-(j+1)) oG agA ?_;exact⟨j+1,o3,A3,bk,by omega,rfl,rfl,by rw[L8 a3 bb ht];exact hD.append hD3,hB,a8,a4,a9,a7,a2,ho,a1⟩
 have hjx:j=(gr[i]'a3).ln.length:=by omega
 have bf:DL gr (yJ gr i) (o++[i]) o2:=by
   have e:(yJ gr i).take j=yJ gr i:=List.take_of_length_le (by simp[yJ,yv a3,hjx]);rw[e]at hD;exact hD
 refine zn4 ?_;refine fin0 (.inr rfl) rfl  ?_;exact⟨rfl,o2,A2,a5,.new bd bf .nil,a4,ho,a2,a1.1⟩
theorem visit_any{G:Option Addr}{cg nf bP bQ bG bV bn:Nat}(hG:NodesIn w0 G gr)(hk:CW nf gr)(hlo:w0.heap.size<=base)(a3:w0.heap.size<=bP)(l0Q:w0.heap.size<=bQ)(a4:w0.heap.size<=bG)(a2:w0.heap.size<=bV)(l0n:w0.heap.size<=bn)(lP:bP<base)(lQ:bQ<base)(lG:bG<base)(lV:bV<base)(ln:bn<base)(nPQ:bP≠bQ)(nPn:bP≠bn)(nQn:bQ≠bn)(nGQ:bG≠bQ)(nGn:bG≠bn)(nVQ:bV≠bQ)(nVn:bV≠bn):∀(m:Nat) (o:List Nat) (A:Option Addr) (cap:Nat) (w:World) (i:Nat),jy gr.length (V9 o)<=m->i<gr.length->Bel w0 w->base<=w.heap.size->OOk gr.length o->Blk w bP 36 #[.slice (some ⟨bn,0,none⟩) gr.length gr.length]->Blk w bQ 36 #[.slice A (o).length cap]->Blk w bG 30 #[.slice G gr.length cg]->Blk w bV 148 #[.func (.func 79) #[] (cD bP bQ bG bV)]->Blk w bn 3 (row gr.length (fun x=> .int .i64 (uk o x)))->Own w base 3 1 A (o).length cap (oV (o))->Calls Tryd.prog 79 #[.int .i64 (i:Nat),.pointer (some ⟨bP,0,none⟩),.pointer (some ⟨bQ,0,none⟩),.pointer (some ⟨bG,0,none⟩),.pointer (some ⟨bV,0,none⟩)] w fun e w'=>e= .returned (.tuple #[])/\∃ o' A' cap',DL gr [i] o o'/\Blk w' bQ 36 #[.slice A' o'.length cap']/\Own w' base 3 1 A' o'.length cap' (oV o')/\Blk w' bn 3 (row gr.length (fun x=> .int .i64 (uk o' x)))/\Chg base [bQ,bn] w w':=by
 intro m
 induction m with
 | zero=>intro o A cap w i hm a6 hB a7 a5 h1 h2 h3 h4 h5 h6;exact Pz hG hk hlo a3 l0Q a4 a2 l0n lP lQ lG lV ln nPQ nPn nQn nGQ nGn nVQ nVn hB a7 a5 h1 h2 h3 h4 h5 h6 a6 (fun t o2 A2 a1 w2 hl=>by omega)
 | succ m ih=>intro o A cap w i hm a6 hB a7 a5 h1 h2 h3 h4 h5 h6;exact Pz hG hk hlo a3 l0Q a4 a2 l0n lP lQ lG lV ln nPQ nPn nQn nGQ nGn nVQ nVn hB a7 a5 h1 h2 h3 h4 h5 h6 a6 (fun t o2 A2 a1 w2 hl=>ih o2 A2 a1 w2 t oG)
section
section eng3
variable {P:Program} {Q:Exit->Act->World->Prop} {n:Nw} {f:Fr} {w:World} {ops:Array Oper} {rest:List Oper} {d:Tmp} {ty t e:TypeId} {pos:String} {af:Array Edge} {x y:Operand}
theorem r_cap{c:Nat}(hu:P.underlying t=some (.slice e))(hx:ev n f x= .slice A m c):
  RV P n f w ⟨dst,.call { callee:= .builtin .cap,args:=#[x],argTypes:=#[t] },ty,pos,af,gd⟩ (.int .i64 (c:Int)) w:=by
 simp[RV,execOp,resolve,invoke,builtin,hx,Builtin.cap_,run_underlying hu,goInt]
theorem run_app0{c:Nat}(hu:P.underlying t=some (.slice e))(hs:(P.info? e).map (·.size)=some sz)(hk:k<=cap):
  (Builtin.append_ #[t,t] ty #[.slice A k cap,.slice B 0 c]).run P w= .ok (.slice A k cap) w:=by
 cases hq:P.info? e with
 | none=>simp[hq]at hs
 | some i=>
  simp only[hq,Option.map_some,Option.some.injEq]at hs;have hz:(Go.sizeOf e).run P w= .ok sz w:=by simp[Go.sizeOf,typeInfo,hq,hs]
  have h0:(Builtin.firstCells sz 0 (.slice B 0 c)).run P w= .ok #[] w:=by
   cases B with
   | none=>simp[Builtin.firstCells]
   | some b=>simp[Builtin.firstCells,loadCells,loadCellsFrom]
  cases A with
  | none=>simp[Builtin.append_,run_underlying hu,hz,Builtin.lenOf,hk,h0]
  | some a=>simp[Builtin.append_,run_underlying hu,hz,Builtin.lenOf,hk,h0,storeCells]
theorem r_app0{c:Nat}(hu:P.underlying t=some (.slice e))(hs:(P.info? e).map (·.size)=some sz)(hk:k<=cap)(hx:ev n f x= .slice A k cap)(hy:ev n f y= .slice B 0 c):
  RV P n f w ⟨dst,.call { callee:= .builtin .append,args:=#[x,y],argTypes:=#[t,t] },ty,pos,af,gd⟩ (.slice A k cap) w:=by
 have hr:=run_app0 (P:=P) (w:=w) (ty:=ty) (A:=A) (B:=B) (c:=c) hu hs hk;simp only[RV,execOp,resolve,invoke,builtin,Sem.run_bind,Sem.run_pure,Result.andThen_ok,List.map_toArray,List.map_cons,List.map_nil,hx,hy,hr]
theorem wl_appZ{tn:TypeId}{zv:Value}{by':Nat}(hu:P.underlying t=some (.slice e))(hn:P.underlying tn=some (.int .i64))(hi:(P.info? e).map (fun i=>(i.zero,i.size,i.bytes))=some (some zv,sz,by'))(hz:zv.cells.size=sz)(h0:0<k)(hs:0<sz)(hb:k*by'<=140737488355328)(h63:k<=4611686018427387904)
  (hx:ev n f x= .slice none 0 0) (hy:ev n f y= .int .i64 (k:Int))
  (K:∀ b cap w1,Own w1 w.heap.size e sz (some ⟨b,0,none⟩) 0 cap []->Same [] w w1->w.heap.size<=b->k<=cap->cap<=9223372036854775807->WL P ops Q rest n (upd f d (.slice (some ⟨b,0,none⟩) k cap)) w1):
  WL P ops Q (⟨some d,.call { callee:= .builtin .append,args:=#[x,y],argTypes:=#[t,tn] },ty,pos,af,none⟩::rest) n f w:=by
 obtain⟨i,hq,hzz⟩:=aU.1 hi;simp only[Prod.mk.injEq]at hzz;obtain⟨z1,z2,z3⟩:=hzz;have a1:(Builtin.firstCells i.size 0 (.slice none 0 0)).run P w.drew= .ok ([]:List Value).toArray w.drew:=by simp[Builtin.firstCells]
 have a2:=growslice_fits (need:=0+k) (old:=0) (bytes:=i.bytes) oG (by rw[Nat.zero_add,z3];exact hb);have hr:=Lib.run_append_grow_zeros w t tn ty e i zv .i64 .i64 hu hn hq z1 none 0 0 [] a1 k h0 oG oG oG (by rw[z3];omega) a2;rw[Nat.zero_add]at hr;have hge:=grownCap_ge w k 0 e;have hle:=grownCap_le_maxLen w k 0 e (by unfold maxLen;omega)
 generalize grownCap w k 0 e=C at hr hge hle
 refine wl (v:= .slice (some ⟨w.heap.size,0,none⟩) k C) (w':=w.drew.alloc (.cells (#[]++Builtin.zeroCells zv.cells k++Builtin.zeroCells zv.cells (C-k)) e)) ?_ (K _ _ _ ?_ ?_ (ae _) hge (by unfold maxLen at hle;omega))
 ·simp only[RV,execOp,resolve,invoke,builtin,Sem.run_bind,Sem.run_pure,Result.andThen_ok,List.map_toArray,List.map_cons,List.map_nil,hx,hy,hr]
 ·refine⟨by simp,.inr ⟨w.heap.size,C,_,rfl,ae _,heap_alloc_new w.drew _,ad _,hle,?_,by simp⟩⟩
  simp only[Array.size_append,Builtin.zeroCells,Array.size_map,Array.size_range,hz];simp only[List.size_toArray,List.length_nil,Nat.zero_add,<- Nat.add_mul];rw[show k+(C-k)=C by omega]
 ·have hd:Same [] w w.drew:=⟨rfl,rfl,rfl,ae _,fun _ _ _=>rfl⟩
  exact hd.trans (oJ w.drew _)
theorem wl_appL{zv:Value}{by' c:Nat}{xs news:List Value}(hu:P.underlying t=some (.slice e))(hi:(P.info? e).map (fun i=>(i.zero,i.size,i.bytes))=some (some zv,sz,by'))(hzs:zv.cells.size=sz)(hsz:0<sz)
  (a1:Own w base e sz A k cap xs) (hx:ev n f x= .slice A k cap) (hy:ev n f y= .slice B m c) (hn:0<m->∃ b o',B=some ⟨b,o',none⟩/\∀ j u,news[j]? =some u->w.cell? ⟨b,o'+j,none⟩=some u) (hl:news.length=m*sz) (h1:news.all (·.oneCell')=true) (h63:k+m<=9223372036854775807) (a2:(k+m)*by'<=140737488355328) (a4:base<=w.heap.size)
  (K:∀ A' a3 w1,Own w1 base e sz A' (k+m) a3 (xs++news)->Same (aL A) w w1->(∀ g∈aL A',g∈aL A\/w.heap.size<=g)->WL P ops Q rest n (upd f d (.slice A' (k+m) a3)) w1):
  WL P ops Q (⟨some d,.call { callee:= .builtin .append,args:=#[x,y],argTypes:=#[t,t] },ty,pos,af,none⟩::rest) n f w:=by
 by_cases hm:0<m
 ·obtain⟨b,o',rfl,hc⟩:=hn hm
  refine wl_appC hu hi hzs hsz a1 hx hy hc hl h1 hm h63 a2 a4 (fun g a3 w1 ho hs hg=>K _ _ _ ho hs (fun g' hg'=>?_));have e1:g'=g:=aj.1 hg';subst e1;rcases hg with hg|hg
  ·exact .inl (by rw[hg];simp)
  ·exact .inr hg
 ·obtain rfl:m=0:=by omega
  obtain rfl:news= []:=aI.1 (by simpa using hl);have hs:(P.info? e).map (·.size)=some sz:=by
   obtain⟨i,hq,hzz⟩:=aU.1 hi;simp only[Prod.mk.injEq]at hzz;simp[hq,hzz.2.1]
  refine wl (r_app0 hu hs a1.cap_le hx hy) ?_;exact K A cap w (by simpa using a1) (Same.refl _ _) (fun g hg=> .inl hg)
end eng3
end
section
section eng4
variable {P:Program} {Q:Exit->Act->World->Prop} {n:Nw} {f:Fr} {w w':World} {ops:Array Oper} {rest:List Oper} {d:Tmp} {ty t e:TypeId} {pos:String} {af:Array Edge} {x y:Operand}
theorem Qk{a:Addr}(hx:ev n f x= .pointer (some a)):
 RV P n f w ⟨dst,.nilCheck x,ty,pos,af,gd⟩ (.pointer (some a)) w:=by simp[RV,execOp,hx]
variable {base sz k cap:Nat} {A:Option Addr} {xs:List Value}
theorem Own.open_(h:Own w base e sz A k cap xs)(hk:0<k):∃(g:Nat) (a1:Array Value),A=some ⟨g,0,none⟩/\base<=g/\Blk w g e a1/\k*sz<=a1.size/\(∀ j,j<k*sz->a1[j]? =xs[j]?)/\∀ w1 o v,Blk w1 g e (a1.setIfInBounds o v)->Own w1 base e sz (some ⟨g,0,none⟩) k cap (xs.set o v):=by
 rcases h.2 with ⟨_,hn⟩|⟨g,c,a1,hv,hb,hg,hkc,hm,hs,ht⟩
 ·omega
 ·cases hv
  have hle:k*sz<=cap*sz:=Nat.mul_le_mul_right sz hkc;refine⟨g,a1,rfl,hb,hg,by omega,fun j hj=>?_,fun w1 o v hw=>⟨by rw[List.length_set];exact h.1,.inr ⟨g,cap,_,rfl,hb,hw,hkc,hm,by rw[Array.size_setIfInBounds];exact hs,?_⟩⟩⟩
  ·rw[<- ht,List.getElem?_take_of_lt hj];simp
  ·rw[Array.toList_setIfInBounds,List.take_set,ht]
theorem E6{b1 b2 s1 s2 k1 k2 c1 c2:Nat}{e1 e2:TypeId}{A1 A2:Option Addr}{x1 x2:List Value}(h:Own w b1 e1 s1 A1 k1 c1 x1)(k:Own w b2 e2 s2 A2 k2 c2 x2)(hne:e1≠e2):∀ g∈aL A1,¬g∈aL A2:=fun g h1 h2=>by
 have ht:∀ {b s k c:Nat} {e:TypeId} {A:Option Addr} {x:List Value},Own w b e s A k c x->g∈aL A->∃ cs,Blk w g e cs:=fun h hg=>by
  rcases h.2 with ⟨hv,_⟩|⟨g',c',cur,hv,_,hb,_⟩
  ·cases hv;cases hg
  ·cases hv
   simp only[aL,List.mem_singleton]at hg
   subst hg;exact⟨cur,hb⟩
 obtain⟨c1,q1⟩:=ht h h1
 obtain⟨c2,q2⟩:=ht k h2
 exact hne (oq q1 q2)
theorem Own.c{w w':World}{base:Nat}{e:TypeId}{sz:Nat}{A:Option Addr}{k cap:Nat}{xs:List Value}{X:List Nat}(h:Own w base e sz A k cap xs)(hs:Same X w w')(hx:∀ g∈aL A,g∉X:=by intro g hg hx;first|exact E6 (by assumption) (by assumption) dE g hg hx|exact(by assumption:∀ g∈aL _,g∉aL _) g hg hx|exact(by assumption:∀ g∈aL _,g∉aL _) g hx hg|(have:=(Own.lt (by assumption) g hx).1;omega)|(have:=(Own.lt (by assumption) g hx).1;have:=(by assumption:∀ g∈aL _,g<_) g hg;omega)):Own w' base e sz A k cap xs:=h.tr hs hx
def vQ(n:Nat)(g:Nat->Value):List Value:=(List.range n).map g
theorem rowL_len(n:Nat)(g:Nat->Value):(vQ n g).length=n:=by simp[vQ]
theorem rowL_get{n j:Nat}(h:j<n):(vQ n g)[j]? =some (g j):=by simp[vQ,h]
theorem ux{n:Nat}{g':Nat->Value}(h:∀ j,j<n->g j=g' j):vQ n g=vQ n g':=aM (fun j hj=>h j (av.1 hj))
theorem Mk{n i:Nat}:(vQ n g).set i v=vQ n (fun x=>if x=i then v else g x):=by
 refine List.ext_getElem (by simp[vQ]) (fun j h1 h2=>?_);simp only[vQ,List.getElem_set,List.getElem_map,List.getElem_range];by_cases e:i=j
 ·subst e;simp
 ·rw[if_neg e,if_neg (fun h=>e h.symm)]
theorem Bq{n:Nat}:vQ n g++[v]=vQ (n+1) (fun x=>if x<n then g x else v):=by
 unfold vQ;rw[List.range_succ,List.map_append,List.map_cons,List.map_nil,if_neg (Nat.lt_irrefl n)];refine congrArg (· ++ [v]) (aM (fun j hj=>?_));rw[if_pos (List.mem_range.1 hj)]
theorem Own.rowc(h:Own w base e 1 A m cap (vQ m g)){j:Nat}(hj:j<m):∃ q,A=some ⟨q,0,none⟩/\base<=q/\q<w.heap.size/\w.cell? ⟨q,0+j*1,none⟩=some (g j):=by
 have hne:vQ m g≠[]:=fun e=>by have:=congrArg List.length e;rw[rowL_len]at this;simp at this;omega
 obtain⟨q,h1,h2,h3,h4⟩:=h.cell hne;have e0:0+j*1=j:=by omega
 exact⟨q,h1,h2,h3,by rw[e0];exact h4 j _ (rowL_get hj)⟩
end eng4
end
section
def SameQ(X:List Nat)(w w':World):Prop:=Same X w w'
theorem SameQ.trans{X:List Nat}{a b c:World}(h:SameQ X a b){Y:List Nat}(k:Same Y b c)(hy:∀ g∈Y,g∈X):SameQ X a c:=Same.trans h (k.weak hy)
structure ChG(Z:Nat->Prop)(w w':World):Prop where
 os:w'.os=w.os
 tape:w'.tape=w.tape
 output:w'.output=w.output
 size:w.heap.size<=w'.heap.size
 blk:∀ k,k<w.heap.size->¬Z k->w'.heap[k]? =w.heap[k]?
theorem ChG.refl(Z:Nat->Prop)(w:World):ChG Z w w:=⟨rfl,rfl,rfl,ae _,fun _ _ _=>rfl⟩
theorem ChG.st{Y:List Nat}{a b c:World}(h:ChG Z a b)(k:Same Y b c)(hy:∀ g∈Y,Z g\/a.heap.size<=g):ChG Z a c:=
 ⟨k.os.trans h.os,k.tape.trans h.tape,k.output.trans h.output,nLT h.size k.size,fun i hi hx=>(k.blk i (nLL hi h.size) (fun hm=>(hy i hm).elim hx (fun h2=>by omega))).trans (h.blk i hi hx)⟩
theorem ChG.trans{Z Z':Nat->Prop}{a b c:World}(h:ChG Z a b)(k:ChG Z' b c)(hz:∀ g,Z' g->Z g\/a.heap.size<=g):ChG Z a c:=
 ⟨k.os.trans h.os,k.tape.trans h.tape,k.output.trans h.output,nLT h.size k.size,fun i hi hx=>(k.blk i (nLL hi h.size) (fun hm=>(hz i hm).elim hx (fun h2=>by omega))).trans (h.blk i hi hx)⟩
theorem ChG.one(h:ChG (fun g=>g=b) w w'):Same [b] w w':=⟨h.os,h.tape,h.output,h.size,fun k hk hx=>h.blk k hk (fun e=>hx (aj.2 e))⟩
theorem Blk.chG{cs:Array Value}(h:Blk w b t cs)(hc:ChG Z w w')(hx:¬Z b):Blk w' b t cs:=(hc.blk b h.lt hx).trans h
theorem Bel.chG(h:Bel w0 w)(hc:ChG Z w w')(hz:∀ g,Z g->w0.heap.size<=g):Bel w0 w':=
 ⟨hc.os.trans h.os,hc.tape.trans h.tape,hc.output.trans h.output,nLT h.size hc.size,fun k hk=>(hc.blk k (nLL hk h.size) (fun hm=>by have:=hz k hm;omega)).trans (h.block k hk)⟩
theorem ChG.bel(h:Bel w w'):ChG Z w w':=⟨h.os,h.tape,h.output,h.size,fun k hk _=>h.block k hk⟩
theorem RowO.chG{lo g:Nat}{xs:List (Int×Int)}{cs:Array Value}{t:TypeId}(h:RowO w lo bs v xs)(hb:Blk w g t cs)(ht:109≠t)(hc:ChG (fun k=>k=g) w w'):RowO w' lo bs v xs:=by
 obtain⟨A,c,e,h1,h2⟩:=h;refine⟨A,c,e,⟨h1.1,?_⟩,h2⟩;have hty:=h1.typ;rcases h1.2 with hn|⟨q,c,cur,hv,hbb,hg,r⟩
 ·exact .inl hn
 ·refine .inr ⟨q,c,cur,hv,hbb,?_,r⟩
  rw[hc.blk q (jV hg) (fun e=>?_)]
  ·exact hg
  ·subst e;exact ht (oq hg hb)
def rtG(gr:List Nd)(T:Nat->Int):List Nd:=(List.range gr.length).map (fun i=>⟨T i,(nd gr i).ln⟩)
theorem OJ(gr:List Nd)(T:Nat->Int):(rtG gr T).length=gr.length:=by simp[rtG]
theorem rtG_self(gr:List Nd):rtG gr (fun x=>(nd gr x).ty)=gr:=by
 refine List.ext_getElem (OJ _ _) (fun i h1 h2=>?_);have:=yv h2;simp[rtG,this]
theorem nd_canG{o:List Nat}{x:Nat}(hx:x<o.length):nd (xJ gr o) x=⟨(nd gr (o.getD x 0)).ty,(nd gr (o.getD x 0)).ln.map (Iw o)⟩:=by simp[nd,xJ,CX,List.getD,hx]
def GrT(w:World)(lo hi:Nat)(A:Option Addr)(c:Nat)(gr:List Nd)(T:Nat->Int):Prop:=
 ∃ V:Nat->Value,Own w lo 107 2 A gr.length c (ndV (fun x=> .int .i64 (T x)) V gr.length)/\(∀ g∈aL A,g<hi)/\∀ x,x<gr.length->RowO w lo hi (V x) (nd gr x).ln
def Dis(V:Nat->Value)(n:Nat):Prop:=∀ x y,x<n->y<n->x≠y->∀ A m c A' m' c',V x= .slice A m c->V y= .slice A' m' c'->∀ g∈aL A,¬g∈aL A'
theorem Dis.congr{V':Nat->Value}{n:Nat}(h:Dis V n)(e:∀ x,x<n->V x=V' x):Dis V' n:=fun x y hx hy hne A m c A' m' c' h1 h2=>h x y hx hy hne A m c A' m' c' ((e x hx).trans h1) ((e y hy).trans h2)
theorem Dis.snoc{V:Nat->Value}{L:Nat->List (Int×Int)}{w:World}{lo bs k n c:Nat}{A:Option Addr}(h:Dis V k)(hr:∀ x,x<k->RowO w lo bs (V x) (L x))(hg:∀ g∈aL A,bs<=g):Dis (fun x=>if x=k then .slice A n c else V x) (k+1):=fun x y hx hy hne A1 m1 c1 A2 m2 c2 h1 h2 g hg1 a1=>by
 have far:∀ z,z<k->∀ A3 m3 c3,V z= .slice A3 m3 c3->∀ g∈aL A3,g<bs:=fun z hz A3 m3 c3 e g hg=>by
  obtain⟨A4,c4,e4,_,h4⟩:=hr z hz
  rw[e]at e4
  cases e4
  exact h4 g hg
 by_cases e:x=k
 ·simp only[e,if_true,Value.slice.injEq]at h1
  by_cases e2:y=k
  ·exact hne (by rw[e,e2])
  ·simp only[e2,if_false]at h2
   rw[<- h1.1]at hg1
   have:=far y oG _ _ _ h2 g a1
   have:=hg g hg1
   omega
 ·simp only[e,if_false]at h1
  by_cases e2:y=k
  ·simp only[e2,if_true,Value.slice.injEq]at h2
   rw[<- h2.1]at a1
   have:=far x oG _ _ _ h1 g hg1
   have:=hg g a1
   omega
  ·simp only[e2,if_false]at h2
   exact h x y oG oG hne _ _ _ _ _ _ h1 h2 g hg1 a1
def GrD(w:World)(lo hi:Nat)(A:Option Addr)(c:Nat)(gr:List Nd)(T:Nat->Int):Prop:=
 ∃ V:Nat->Value,Own w lo 107 2 A gr.length c (ndV (fun x=> .int .i64 (T x)) V gr.length)/\(∀ g∈aL A,g<hi)/\(∀ x,x<gr.length->RowO w lo hi (V x) (nd gr x).ln)/\Dis V gr.length
section
variable {w w':World} {lo hi c:Nat} {A:Option Addr} {gr:List Nd} {T:Nat->Int}
theorem GrD.grt(h:GrD w lo hi A c gr T):GrT w lo hi A c gr T:=by obtain⟨V,h1,h2,h3,_⟩:=h;exact⟨V,h1,h2,h3⟩
theorem GrD.mk(ho:Own w base 107 2 A m c (ndV f V m))(hm:gr.length=m)(hb:lo<=base)(hf:∀ x,x<m->f x= .int .i64 (T x))(hA:∀ g∈aL A,g<hi)(hbs:bs<=hi)(hr:∀ x,x<m->RowO w lo bs (V x) (nd gr x).ln)(hd:Dis V m):GrD w lo hi A c gr T:=by
 subst hm;refine⟨V,?_,hA,fun x hx=>(hr x hx).up hbs,hd⟩;rw[ZV (f':=f) (h':=V) (fun x hx=>(hf x hx).symm) (fun _ _=>rfl)];exact ho.low hb
theorem GrT.nodes(h:GrT w lo hi A c gr T):NodesIn w A (rtG gr T):=by
 obtain⟨V,ho,_,hr⟩:=h;refine BY (lo:=lo) (bs:=hi) ho (OJ gr T) (fun k hk=>?_) (fun k hk=>?_)
 ·simp[rtG]
 ·rw[OJ]at hk
  have e:((rtG gr T)[k]'(by rw[OJ];exact hk)).ln=(nd gr k).ln:=by simp[rtG]
  rw[e];exact hr k hk
theorem GrT.cap_le(h:GrT w lo hi A c gr T):gr.length<=c:=by obtain⟨V,ho,_⟩:=h;exact ho.cap_le
theorem GrT.congr(h:GrT w lo hi A c gr T){T':Nat->Int}(e:∀ i,i<gr.length->T i=T' i):GrT w lo hi A c gr T':=by
 obtain⟨V,ho,hA,hr⟩:=h;exact⟨V,by rw[ZV (f':=fun x=> .int .i64 (T x)) (h':=V) (fun x hx=>by rw[e x hx]) (fun _ _=>rfl)];exact ho,hA,hr⟩
theorem GrT.tr{X:List Nat}(h:GrT w lo hi A c gr T)(hs:Same X w w')(hx:∀ g∈X,g<lo\/hi<=g):GrT w' lo hi A c gr T:=by
 obtain⟨V,ho,hA,hr⟩:=h;refine⟨V,ho.tr hs (fun g hg hm=>?_),hA,fun x hxl=>?_⟩
 ·have h1:=hx g hm
  have h2:=(ho.lt g hg).1;have h3:=hA g hg;omega
 ·obtain⟨A2,c2,e,h1,h2⟩:=hr x hxl
  refine⟨A2,c2,e,h1.tr hs (fun g hg hm=>?_),h2⟩;have h3:=hx g hm;have h4:=(h1.lt g hg).1;have h5:=h2 g hg;omega
theorem GrT.fr{w2:World}(h:GrT w lo hi A c gr T)(hf:FrSame lo w w2):GrT w2 lo hi A c gr T:=by
 obtain⟨V,ho,hA,hr⟩:=h;exact⟨V,ho.fr (ae _) hf,hA,fun x hx=>(hr x hx).fr hf⟩
theorem GrT.up{hi':Nat}(h:GrT w lo hi A c gr T)(hh:hi<=hi'):GrT w lo hi' A c gr T:=by
 obtain⟨V,ho,hA,hr⟩:=h;exact⟨V,ho,fun g hg=>nLL (hA g hg) hh,fun x hx=>(hr x hx).up hh⟩
theorem RowO.low{lo' bs:Nat}{v:Value}{xs:List (Int×Int)}(h:RowO w lo bs v xs)(hl:lo'<=lo):RowO w lo' bs v xs:=by
 obtain⟨A,c,e,h1,h2⟩:=h;exact⟨A,c,e,h1.low hl,h2⟩
theorem GrT.low{lo':Nat}(h:GrT w lo hi A c gr T)(hl:lo'<=lo):GrT w lo' hi A c gr T:=by
 obtain⟨V,ho,hA,hr⟩:=h;exact⟨V,ho.low hl,hA,fun x hx=>(hr x hx).low hl⟩
theorem GrT.mk(ho:Own w base 107 2 A m c (ndV f V m))(hm:gr.length=m)(hb:lo<=base)(hf:∀ x,x<m->f x= .int .i64 (T x))(hA:∀ g∈aL A,g<hi)(hbs:bs<=hi)(hr:∀ x,x<m->RowO w lo bs (V x) (nd gr x).ln):GrT w lo hi A c gr T:=by
 subst hm;refine⟨V,?_,hA,fun x hx=>(hr x hx).up hbs⟩;rw[ZV (f':=f) (h':=V) (fun x hx=>(hf x hx).symm) (fun _ _=>rfl)];exact ho.low hb
theorem own_of{e:TypeId}{g:Nat}{a2:Array Value}{xs:List Value}(hb:Blk w g e a2)(a1:base<=g)(hk:k<=cap)(hm:cap<=9223372036854775807)(hs:a2.size=cap*sz)(hx:a2.toList.take (k*sz)=xs):Own w base e sz (some ⟨g,0,none⟩) k cap xs:=by
 have hle:k*sz<=cap*sz:=Nat.mul_le_mul_right sz hk;subst hx;exact⟨by rw[List.length_take,Array.length_toList];omega,.inr ⟨g,cap,a2,rfl,a1,hb,hk,by simpa[maxLen]using hm,hs,rfl⟩⟩
theorem own_row2{h:Nat->Value}(hb:Blk w b 107 (ky m f h))(hl:lo<=b)(hm:m<=1000000):Own w lo 107 2 (some ⟨b,0,none⟩) m m (ndV f h m):=by
 refine own_of hb hl (ae _) oG (Y6 m f h) ?_;refine List.ext_getElem? (fun j=>?_);by_cases hj:j<m*2
 ·have h2:j/2<m:=by omega
  rw[List.getElem?_take_of_lt hj,Array.getElem?_toList];rcases Nat.mod_two_eq_zero_or_one j with e|e
  ·have e2:j=j/2*2:=by omega
   have h3:=By (f:=f) (h:=h) h2;rw[show 0+j/2*2+0=j by omega]at h3;have h4:=(Z7 f h h2).1;rw[<- e2]at h4;rw[h3,h4]
  ·have e2:j=j/2*2+1:=by omega
   have h3:=E3 (f:=f) (h:=h) h2;rw[show 0+j/2*2+1=j by omega]at h3;have h4:=(Z7 f h h2).2;rw[<- e2]at h4;rw[h3,h4]
 ·rw[List.getElem?_eq_none (by rw[List.length_take];omega),List.getElem?_eq_none (by rw[V8];omega)]
theorem ndV_set0{n:Nat}:(ndV f V n).set (0+k*2+0) v=ndV (fun x=>if x=k then v else f x) V n:=by
 refine List.ext_getElem? (fun j=>?_);by_cases hj:j<n*2
 ·have h2:j/2<n:=by omega
  rcases Nat.mod_two_eq_zero_or_one j with e|e
  ·have e2:j=j/2*2:=by omega
   by_cases hjk:j/2=k
   ·rw[show 0+k*2+0=j by omega,List.getElem?_set_self (by rw[V8];exact hj)]
    have h3:=(Z7 (fun x=>if x=k then v else f x) V h2).1;rw[<- e2]at h3;rw[h3,if_pos hjk]
   ·rw[List.getElem?_set_ne oG]
    have h3:=(Z7 (fun x=>if x=k then v else f x) V h2).1;have h4:=(Z7 f V h2).1;rw[<- e2]at h3 h4;rw[h3,h4,if_neg hjk]
  ·have e2:j=j/2*2+1:=by omega
   rw[List.getElem?_set_ne oG];have h3:=(Z7 (fun x=>if x=k then v else f x) V h2).2;have h4:=(Z7 f V h2).2;rw[<- e2]at h3 h4;rw[h3,h4]
 ·rw[List.getElem?_eq_none (by rw[List.length_set,V8];omega),List.getElem?_eq_none (by rw[V8];omega)]
theorem GrT.open_{k:Nat}(h:GrT w lo hi A c gr T)(hk:k<gr.length):∃(V:Nat->Value) (g:Nat) (a1:Array Value),A=some ⟨g,0,none⟩/\lo<=g/\g<hi/\Blk w g 107 a1/\gr.length*2<=a1.size/\(∀ x,x<gr.length->a1[0+x*2+0]? =some (.int .i64 (T x)))/\(∀ x,x<gr.length->a1[0+x*2+1]? =some (V x))/\(∀ x,x<gr.length->RowO w lo hi (V x) (nd gr x).ln)/\
  ∀ w1 v,Blk w1 g 107 (a1.setIfInBounds (0+k*2+0) (.int .i64 v))->(∀ x,x<gr.length->RowO w1 lo hi (V x) (nd gr x).ln)->GrT w1 lo hi (some ⟨g,0,none⟩) c gr (fun x=>if x=k then v else T x):=by
 obtain⟨V,ho,hA,hr⟩:=h;obtain⟨g,a1,rfl,hg,hb,hsz,hrd,hcl⟩:=ho.open_ oG;refine⟨V,g,a1,rfl,hg,hA g (aj.2 rfl),hb,hsz,fun x hx=>?_,fun x hx=>?_,hr,fun w1 v hw hr2=>⟨V,?_,hA,hr2⟩⟩
 ·rw[hrd _ oG,show 0+x*2+0=x*2 by omega];exact(Z7 _ _ hx).1
 ·rw[hrd _ oG,show 0+x*2+1=x*2+1 by omega];exact(Z7 _ _ hx).2
 ·have h1:=hcl w1 _ _ hw
  rw[ndV_set0,ZV (f':=fun x=> .int .i64 (if x=k then v else T x)) (h':=V) (fun x _=>by by_cases e:x=k<;>simp[e]) (fun _ _=>rfl)]at h1;exact h1
end
theorem GrT.rg{lo hi c g:Nat}{T:Nat->Int}(h:GrT w lo hi (some ⟨g,0,none⟩) c gr T)(hk:k<gr.length):∃ A2 m2 c2,w.rangeAt g (0+k*2) [.int .i64 (T k),.slice A2 m2 c2]:=by
 obtain⟨V,g2,cur,e,_,_,hb,_,h0,h1,hr,_⟩:=h.open_ hk;cases e;obtain⟨A2,c2,e2,_⟩:=hr k hk;have h2:=h1 k hk;rw[e2]at h2;refine⟨A2,(nd gr k).ln.length,c2,hb.range (fun j v hj=>?_)⟩
 match j,hj with
 | 0,hj=>cases hj;exact h0 k hk
 | 1,hj=>cases hj;exact h2
end
end Go.Proofs.YtmfiholmfieieaaDoor
