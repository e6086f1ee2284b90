/- What these functions of the program compute, at every world: glosswright/glosswrightref3.Joined. -/
import Derived.Test.YtgcgnkmmbecfmaaGreatDoorU
import Derived.Test.YtgcgnkmmbecfmaaGreatDoorZst
import Derived.Test.YtgcgnkmmbecfmaaGreatDoorRIns
import Derived.Test.YtgcgnkmmbecfmaaGreatDoorRMeet
import Derived.Test.YtgcgnkmmbecfmaaGreatDoorTrm
import Derived.Test.YtgcgnkmmbecfmaaGreatDoorLxd
import Derived.Test.YtgcgnkmmbecfmaaGreatDoorGCan
import Derived.Test.YtgcgnkmmbecfmaaGreatDoorOrd
namespace Go.Proofs.YtgcgnkmmbecfmaaGreatDoor
open Go.RowKit
open Go.Proofs.Tryz
variable {A:Option Addr}{D:List Nd}{L:List (Int×Int)}{T:Nat->Int}{V:Nat->Value}{bs c i k lo n:Nat}{rep:Nat->Nat}{w:World}
def VA(gs:List (List Nd))(k:Nat):List Nd:=(gs.take k).foldl D1 []
theorem DZ(gs:List (List Nd)):VA gs 0= []:=rfl
theorem Xv{gs:List (List Nd)}(hk:k<gs.length):VA gs (k+1)=VA gs k++(gs[k]).map (shN (VA gs k).length):=by
 unfold VA;rw[List.take_succ_eq_append_getElem hk,List.foldl_append];rfl
theorem VA_le{gs:List (List Nd)}:∀(d:Nat) {k:Nat},k+d<=gs.length->(VA gs k).length<=(VA gs (k+d)).length
 | 0,_,_=>ah _
 | d+1,k,h=>by
  have:=VA_le (gs:=gs) d (k:=k) oG
  rw[show k+(d+1)=(k+d)+1 by omega,Xv oG,List.length_append];omega
theorem VA_lt{gs:List (List Nd)}(hp:∀ i (hi:i<gs.length),0<(gs[i]).length)(hk:k<gs.length):(VA gs k).length<(VA gs gs.length).length:=by
 have h:=VA_le (gs:=gs) (gs.length-(k+1)) (k:=k+1) oG;rw[show k+1+(gs.length-(k+1))=gs.length by omega]at h;have h2:(VA gs (k+1)).length=(VA gs k).length+(gs[k]).length:=by rw[Xv hk,List.length_append,List.length_map]
 have:=hp k hk;omega
theorem VA_gy{l:List Ty}{gs:List (List Nd)}(h:∀ i (hi:i<gs.length),GY l gs[i]):∀ k,k<gs.length->GY l (VA gs (k+1))
 | 0,hk=>by
  rw[Xv hk,DZ,List.nil_append,List.length_nil,L4]
  exact h 0 hk
 | k+1,hk=>by
  rw[Xv hk]
  exact add_gy (VA_gy h k oG) (h (k+1) hk)
theorem WZ{nf:Nat}{gs:List (List Nd)}(h:∀ i (hi:i<gs.length),∀ j,j<(gs[i]).length->∀ z∈(nd (gs[i]) j).ln,0<=z.1/\z.1<nf):∀ k,k<=gs.length->∀ i,i<(VA gs k).length->∀ z∈(nd (VA gs k) i).ln,0<=z.1/\z.1<nf
 | 0,_=>fun i hi=>by rw[DZ]at hi;exact absurd hi (aA _)
 | k+1,hk=>by
  rw[Xv oG]
  exact H7 (WZ h k oG) (h k oG)
def PA(gs:List (List Nd))(ats:List Nat):List (Nat×Nat):=(List.range ats.length).map (fun k=>(ats.getD k 0,(VA gs (k+1)).length))
theorem PA_len(gs:List (List Nd))(ats:List Nat):(PA gs ats).length=ats.length:=by simp[PA]
theorem PA_get{gs:List (List Nd)}{ats:List Nat}(hk:k<ats.length):(PA gs ats)[k]'(by rw[PA_len];exact hk)=(ats[k],(VA gs (k+1)).length):=by simp[PA,List.getD,hk]
def stV(gs:List (List Nd))(k:Nat):List Value:=(List.range k).map (fun i=>Value.int .i64 (((VA gs i).length:Nat):Int))
theorem stV_succ(gs:List (List Nd))(k:Nat):stV gs k++[Value.int .i64 (((VA gs k).length:Nat):Int)]=stV gs (k+1):=by simp[stV,List.range_succ]
theorem st_get{base g cap:Nat}{gs:List (List Nd)}(h:Own w base 3 1 (some ⟨g,0,none⟩) k cap (stV gs k))(hi:i<k):w.cell? ⟨g,0+i*1,none⟩=some (.int .i64 (((VA gs i).length:Nat):Int)):=by
 have h1:(stV gs k)[i]? =some (.int .i64 (((VA gs i).length:Nat):Int)):=by simp[stV,hi]
 obtain⟨q,e,_,_,h2⟩:=h.cell (fun e=>by rw[e]at h1;cases h1);cases e;have:=h2 i _ h1
 simpa using this
def tyV(D:List Nd)(x:Nat):Value:= .int .i64 (nd D x).ty
theorem nd_last(D:List Nd)(y:Nd):nd (D++[y]) D.length=y:=by simp[nd,List.getD]
theorem nl_snoc{base cap:Nat}{y:Nd}{v:Value}(h:Own w base 80 2 A (D.length+1) cap (ndV (tyV D) V D.length++[.int .i64 y.ty,v])):Own w base 80 2 A (D++[y]).length cap (ndV (tyV (D++[y])) (VK V D.length v) (D++[y]).length):=by
 have hl:(D++[y]).length=D.length+1:=by simp
 rw[hl,QX,gJ (f':=tyV D) (h':=V) (fun x hx=>by unfold tyV;rw[Zz hx]) (fun x hx=>by unfold VK;rw[if_neg oG])];have e1:tyV (D++[y]) D.length= .int .i64 y.ty:=by unfold tyV;rw[nd_last]
 have e2:VK V D.length v D.length=v:=by simp[VK]
 rw[e1,e2];exact h
theorem rows_snoc{bs2:Nat}{y:Nd}{v:Value}(h:∀ x,x<D.length->RowO w lo bs (V x) (nd D x).ln)(hv:RowO w lo bs2 v y.ln)(hb:bs<=w.heap.size)(hb2:bs2<=w.heap.size):∀ x,x<(D++[y]).length->RowO w lo w.heap.size (VK V D.length v x) (nd (D++[y]) x).ln:=fun x hx=>by
 by_cases e:x=D.length
 ·subst e
  simp only[VK,if_true]
  rw[nd_last];exact hv.up hb2
 ·have hl:x<D.length:=by simp at hx;omega
  simp only[VK,if_neg e]
  rw[Zz hl];exact(h x hl).up hb
theorem app_take{g:List Nd}{s j:Nat}(hj:j<g.length):D++(g.take (j+1)).map (shN s)=(D++(g.take j).map (shN s))++[shN s g[j]]:=by
 rw[List.take_succ_eq_append_getElem hj,List.map_append,List.append_assoc];rfl
theorem shL_take{xs:List (Int×Int)}{q:Nat}(hq:q<xs.length):lnV (shL n (xs.take q))++[.int .i64 (xs[q]).1,.int .i64 ((xs[q]).2+(n:Int))]=lnV (shL n (xs.take (q+1))):=by
 rw[List.take_succ_eq_append_getElem hq];unfold shL;rw[List.map_append,List.map_cons,List.map_nil,<- E8]
def RWj(n:Nat)(rep:Nat->Nat):Array Value:=row n (fun x=> .int .i64 ((rep x:Nat):Int))
theorem Yk(hi:i<n):(RWj n rep)[0+i*1]? =some (.int .i64 ((rep i:Nat):Int)):=vW hi
def chJ(b:Bool):Nat:=bif b then 1 else 0
theorem jp_meas{l:List Ty}{U:List Nd}{J:List (Nat×Nat)}{r0:Nat->Nat}{j:Nat}{ch:Bool}(h:JP l U J k r0 rep ch i j):2*roots U.length rep+chJ ch<2*roots U.length r0+chJ true:=by
 have h1:=h.le;cases ch with
 | true=>have:=h.less rfl;simp only[chJ,cond_true];omega
 | false=>simp only[chJ,cond_true,cond_false];omega
def mgG(n:Nat)(rep:Nat->Nat)(T:Nat->Int)(L:Nat->List (Int×Int)):List Nd:=(List.range n).map (fun i=>⟨T i,rpL rep (L i)⟩)
theorem M3(n:Nat)(rep:Nat->Nat)(T:Nat->Int)(L:Nat->List (Int×Int)):(mgG n rep T L).length=n:=by simp[mgG]
theorem FQ{L:Nat->List (Int×Int)}(hi:i<n):(mgG n rep T L)[i]'(by rw[M3];exact hi)=⟨T i,rpL rep (L i)⟩:=by simp[mgG]
theorem LK{b:Nat}{L:Nat->List (Int×Int)}(hb:Blk w b 80 (kz n (fun x=> .int .i64 (T x)) V))(hn:n<=1000000)(hr:∀ x,x<n->RowO w lo bs (V x) (rpL rep (L x))):NodesIn w (some ⟨b,0,none⟩) (mgG n rep T L):=
 nodes_row2 hb (M3 _ _ _ _) (by unfold vJ;omega) (fun k hk=>by
  have a1:k<n:=by rw[M3]at hk;exact hk
  rw[FQ a1]) (fun k hk=>by
  have a1:k<n:=by rw[M3]at hk;exact hk
  rw[FQ a1];exact hr k a1)
theorem mg_pool{l:List Ty}{U:List Nd}{J:List (Nat×Nat)}{seen:Nat->Bool}{L:Nat->List (Int×Int)}{it il q:Nat}(hc:∀ i,i<U.length->rep (rep i)=rep i)(h:MJ l U J rep seen T L it il q):mgG U.length rep T L=yw U.length rep T L:=by
 unfold mgG yw;refine aP (fun i _=>?_);by_cases e:rep i=i
 ·rw[if_pos e];rfl
 ·have hL:L i= []:=by
   refine List.eq_nil_iff_forall_not_mem.2 (fun x hx=>?_);obtain⟨u,hu,hr,_⟩:=h.val i x hx;have:=hc u hu;rw[hr]at this;exact e this
  rw[if_neg e,hL];rfl
theorem rtn_any{b:Nat}{f:Int}{L:Nat->List (Int×Int)}(hG:NodesIn w (some ⟨b,0,none⟩) (mgG n rep T L))(hi:i<n):Calls prog 36 #[.agg #[.slice (some ⟨b,0,none⟩) n c],.int .i64 i,.int .i64 f] w fun e w'=>e= .returned (.int .i64 (tgt (rpL rep (L i)) f))/\Bel w w':=by
 have h:=Yy (some ⟨b,0,none⟩) c (mgG n rep T L) i f w hG (by rw[M3];exact hi);rw[FQ hi,M3]at h;exact h
theorem rfromn_any(G:Option Addr)(cg nf:Nat)(gr:List Nd)(r n:Nat)(w:World)(hG:NodesIn w G gr)(hn:gr.length=n)(hk:N1 nf gr)(hnf:nf<=1000)(hr:r<gr.length):Calls prog 35 #[.agg #[.slice G n cg],.int .i64 r] w fun e w'=>(∃ o A c,DL gr [r] [] o/\OOk gr.length o/\e= .returned (.agg #[.slice A o.length c])/\(∀ w2,FrSame w.heap.size w' w2->NodesIn w2 A (yK gr o)))/\Bel w w':=by
 subst hn;exact Cw G cg nf gr r w hG hk hnf hr
theorem rowo_at(h:RowO w lo bs (.slice A n c) (rpL rep L))(hk:k<L.length):∃ g,A=some ⟨g,0,none⟩/\w.cell? ⟨g,0+k*2+0,none⟩=some (.int .i64 (L.getD k (0,0)).1):=by
 obtain⟨_,ho,_⟩:=h.own;have hk2:k<(rpL rep L).length:=by rw[rpL_len];exact hk
 have h1:=(YY (rpL rep L) k hk2).1;obtain⟨g,e,_,_,hc⟩:=ho.cell (fun e=>by rw[e]at h1;cases h1);refine⟨g,e,?_⟩;have h2:=hc _ _ h1;have e1:((rpL rep L)[k]).1=(L.getD k (0,0)).1:=by simp[rpL,List.getD,hk]
 rw[e1]at h2
 simpa using h2
theorem Ex{x:Int}(h:0<=x):∃ n:Nat,x=(n:Int):=⟨x.toNat,by omega⟩
theorem low_get{z:Int}(h:∀ u (hu:u<L.length),u<k->(L[u]).1<z)(hk:k<L.length/\(L.getD k (0,0)).1<z):∀ u (hu:u<L.length),u<k+1->(L[u]).1<z:=fun u hu hk1=>by
 by_cases e:u=k
 ·subst e;have:=hk.2;simpa[List.getD,hu]using this
 ·exact h u hu oG
theorem low_end{z:Int}(h:¬(k<L.length/\(L.getD k (0,0)).1<z)):∀ hk:k<L.length,¬(L[k]).1<z:=fun hk h2=>h ⟨hk,by simpa[List.getD,hk]using h2⟩
theorem ret_join{X:List Nd}(h:X.length=n):Ending.returned (.tuple #[.agg #[.slice A n c],.bool true])= .returned (.tuple #[.agg #[.slice A X.length c],.bool true]):=by rw[h]
theorem ro_nil(w:World)(lo bs:Nat):RowO w lo bs (.slice none 0 0) []:=⟨none,0,rfl,Own.nil _ _ _ _,fun g hg=>by cases hg⟩
set_option maxRecDepth 100000 in
set_option maxHeartbeats 16000000 in
theorem joined_any(A B LA AT:Option Addr)(c d lc ac nf:Nat)(l:List Ty)(fs:List Ft)(gs:List (List Nd))(ats:List Nat)(w:World)(hT:TypesIn w A l)(hL:GrsIn w LA gs)(hAT:IntsIn w AT (ats.map (fun n=>((n:Nat):Int))))(hS:V5 l)(ju:∀ i (hi:i<gs.length),GY l gs[i])(kb:∀ i (hi:i<gs.length),∀ j,j<(gs[i]).length->∀ z∈(nd (gs[i]) j).ln,0<=z.1/\z.1<nf)(hnf:nf<=1000)(hgl6:gs.length<=1000000)(hn:(VA gs gs.length).length<=1000000)(hp:0<gs.length)(hat:ats.length<gs.length)(i3:∀ k (hk:k<ats.length),ats[k]<(gs[0]'hp).length):Calls prog 52 #[.agg #[.slice A l.length c,.slice B fs.length d],.slice LA gs.length lc,.slice AT ats.length ac] w fun e w'=>(∃ AX X cX ok,e= .returned (.tuple #[.agg #[.slice AX (List.length X) cX],.bool ok])/\(∀ w2,FrSame w.heap.size w' w2->NodesIn w2 AX X)/\((ok=true/\Vj l (VA gs gs.length) (PA gs ats) X)\/(ok=false/\X= []/\¬EY l (VA gs gs.length) (PA gs ats))))/\Bel w w':=by
 have hLm:=hL.1;have hAm:=hAT.1;rw[List.length_map]at hAm;have il:∀ i (hi:i<gs.length),0<(gs[i]).length:=fun i hi=>(ju i hi).pos
 unfold vJ at hLm hAm;refine enT func52 ntmps52 rfl rfl fun hB=>?_;refine zn2 ?_;refine xy (v:= .agg #[_,_]) (cs:=#[_,_]) rfl rfl (fun b3 w1 ab t1 hr=>?_);have lo3:=hB.ob hr;refine qW (cs:=#[.slice none 0 0]) yz rfl (fun b6 w2 a3 t2 hr=>?_);have:=ab.ob hr;have iz:=hB.u.ob hr;refine zn22 ?_;refine qx (rg [8,9,11,13,14,16] 41 50) (fun m g w'=>∃(k:Nat) (A8 A9:Option Addr) (bn fl:Nat) (V:Nat->Value),k<=gs.length/\m=gs.length-k/\g 41= .int .i64 k/\g 8= .slice A8 (VA gs k).length bn/\g 9= .slice A9 k fl/\Bel w w'/\Blk w' b3 25 #[.slice A l.length c,.slice B fs.length d]/\(∃ z,Blk w' b6 30 #[z])/\Own w' (b6+1) 3 1 A9 k fl (stV gs k)/\Own w' (b6+1) 80 2 A8 (VA gs k).length bn (ndV (tyV (VA gs k)) V (VA gs k).length)/\(∀ x,x<(VA gs k).length->RowO w' w.heap.size w'.heap.size (V x) (nd (VA gs k) x).ln)) (gs.length) ?_ (fun m g4 w3 hI=>?_)
 ·exact⟨0,none,none,0,0,fun _=> .slice none 0 0,ag _,rfl,rfl,rfl,rfl,hB.u,ab.u,⟨_,a3⟩,Own.nil _ _ _ _,Own.nil _ _ _ _,fun x hx=>absurd hx (aA _)⟩
 obtain⟨k,A8,A9,bn,fl,V,hk,hm,h41,h8,h9,hB,ab,⟨z6,a3⟩,ao,b1,a9⟩:=hI;obtain⟨bs,bj⟩:∃ b,b=w3.heap.size:=⟨_,rfl⟩
 rw[<- bj]at a9;have a5:bs<=w3.heap.size:=ay bj;refine zX 41 _ h41 nu (zX 8 _ h8 nu (zX 9 _ h9 nu (zn6 ?_)));refine zQ rfl (fun c42=>?_) (fun c42=>?_)
 ·have b2:k<gs.length:=by omega
  obtain⟨gb,go,GA,gc,rfl,hgr,hgn⟩:=hL.at_ hB b2;have hkU:=VA_lt il b2;have hgy:=ju k b2;have hgm:=hgn.1;unfold vJ at hgm;refine zn6 ?_;refine wl (x9 (i:=k) U33 zY rfl rfl b2 rfl) (wl (qw U30 rfl rfl hgr zY) ?_);refine qW (cs:=#[.slice none 0 0]) yz rfl (fun b11 w4 bw t3 hr=>?_);have:=ab.ob hr;have:=a3.ob hr;have bg:=ao.ob hr;have e9:=b1.ob hr;have ek:=(nLT a5 hr)
  have lo11:=hB.ob hr;replace a9:=qj a9 t3;replace a5:=zV a5 t3;refine zZ bw rfl rfl zY rfl qz (fun w5 hq t4=>?_);replace ao:=ao.tr0 t3;replace ao:=ao.cB t4;replace b1:=b1.tr0 t3;replace b1:=b1.cB t4;replace a9:=qj a9 t4;replace a5:=zV a5 t4;replace bw:=hq;refine zn7 ?_;refine qV (cs:=#[_]) [(0,.int _ _)] rfl U59 qk O0 dE dE kR rfl (fun b48 w6 ka t5 hr=>?_);have:=ab.u.ob hr;have:=a3.u.ob hr;have dv:=ao.ob hr;have e6:=b1.ob hr;have ee:=(nLT a5 hr)
  have:=bw.ob hr;have lo48:=hB.u.ob hr;replace a9:=qj a9 t5;replace a5:=zV a5 t5;replace ao:=ao.tr0 t5;refine j7 U59 OX rfl dE ao ka rfl rfl rfl qz dE oG oG (Nat.succ_le_of_lt a3.u.lt) (fun fg c7 w7 f2 t6 hg=>?_);replace b1:=b1.tr0 t5;have eo:fg≠b3:=neA ao ab.u.lt hg
  have en:fg≠b6:=neA ao a3.u.lt hg
  have dm:fg≠b11:=neB bw.u.lt hg (fun g hg=>by have:=bg g hg;omega)
  replace hB:=hB.u.tr t6 (fun g hg=>nLT (aJ iz) (ao.lt g hg).1);replace ab:=((ab.tr0 t3).tr1 t4 oG).tr0 t5;replace ab:=ab.ta t6 ao;replace a3:=((a3.tr0 t3).tr1 t4 oG).tr0 t5;replace a3:=a3.ta t6 ao;replace b1:=b1.c t6;replace a9:=qj a9 t6;replace a5:=zV a5 t6;replace bw:=bw.tr0 t5;replace bw:=bw.tb t6 (fun g hg=>by have:=bg g hg;omega);replace f2:Own w7 (b6+1) 3 1 (some ⟨fg,0,none⟩) (k+1) c7 (stV gs (k+1)):=by rw[<- stV_succ];exact f2
  have ao:=f2;refine vj ?_;refine qx (rg [8,13,14,16] 53 37) (fun m g w'=>∃(j:Nat) (A8:Option Addr) (bn:Nat) (V:Nat->Value) (D:List Nd),j<=(gs[k]'b2).length/\m=(gs[k]'b2).length-j/\D=(VA gs k++((gs[k]'b2).take j).map (shN (VA gs k).length))/\g 53= .int .i64 j/\g 8= .slice A8 D.length bn/\Bel w w'/\Blk w' b3 25 #[.slice A l.length c,.slice B fs.length d]/\(∃ z,Blk w' b6 30 #[z])/\Own w' (b6+1) 3 1 (some ⟨fg,0,none⟩) (k+1) c7 (stV gs (k+1))/\Own w' (b6+1) 80 2 A8 D.length bn (ndV (tyV D) V D.length)/\(∀ x,x<D.length->RowO w' w.heap.size w'.heap.size (V x) (nd D x).ln)) ((gs[k]'b2).length) ?_ (fun m g8 w8 hI=>?_)
  ·exact⟨0,A8,bn,V,VA gs k,ag _,rfl,by simp,rfl,rfl,hB,ab,⟨_,a3⟩,ao,b1,fun x hx=>(a9 x hx).up a5⟩
  obtain⟨j,A8,bn,V,D,hj,hmj,ff,h53,h8,hB,ab,⟨z6,a3⟩,ao,b1,a9⟩:=hI;obtain⟨bs,bj⟩:∃ b,b=w8.heap.size:=⟨_,rfl⟩
  rw[<- bj]at a9;have a5:bs<=w8.heap.size:=ay bj;refine zX 53 _ h53 nu (zX 8 _ h8 nu (zn6 ?_));refine zQ rfl (fun c54=>?_) (fun c54=>?_)
  ·have bb:j<(gs[k]'b2).length:=by omega
   obtain⟨nb,no,LA0,lc0,rfl,hnb,hnr,hln⟩:=hgn.at_ (Below.refl _ _:Bel w w) bb;have hmx:=hln.1;unfold vJ at hmx;have hnd:=vx bb;have ht:=hgy.lr j bb;rw[hnd]at ht;have hDl:D.length=(VA gs k).length+j:=by rw[ff,List.length_append,List.length_map,List.length_take];omega
   have hDU:(VA gs k).length+(gs[k]'b2).length<=(VA gs gs.length).length:=by
     have h:=VA_le (gs:=gs) (gs.length-(k+1)) (k:=k+1) oG;rw[show k+1+(gs.length-(k+1))=gs.length by omega,Xv b2,List.length_append,List.length_map]at h;exact h
   have hfw:(((gs[k]'b2)[j]'bb)).ln.length<=nf:=by
     have h:=Jz (nf:=nf) (lo:=0) (hgy.srt j bb) (fun z hz=>kb k b2 j bb z hz) (aM _) oG;rw[hnd]at h;omega
   refine zn6 ?_;refine wl (x9 (i:=j) U28 o6 rfl rfl bb rfl) (zn1 ?_);refine qW (cs:=#[.int .i64 0,.slice none 0 0]) DX rfl (fun b13 w9 f9 t7 hr=>?_);have:=ab.ob hr;have:=a3.ob hr;have dy:=ao.ob hr;have e8:=b1.ob hr;have ej:=(nLT a5 hr)
   have lo13:=hB.ob hr;replace a9:=qj a9 t7;replace a5:=zV a5 t7;refine zZ f9 rfl rfl o6 rfl qz (fun w10 hq t8=>?_);replace ao:=ao.tr0 t7;replace ao:=ao.cB t8;replace b1:=b1.tr0 t7;replace b1:=b1.cB t8;replace a9:=qj a9 t8;replace a5:=zV a5 t8;replace f9:=hq;refine zn6 ?_;refine wl (YQ (v0:= .int _ _) (fun v0=>#[v0,.slice none 0 0]) rfl kR) ?_;refine qW (cs:=#[.int .i64 0,.slice none 0 0]) DX rfl (fun ig w11 b8 t9 hr=>?_);have:=ab.u.ob hr;have:=a3.u.ob hr;have dx:=ao.ob hr;have c1:=b1.ob hr;have ei:=(nLT a5 hr)
   have:=f9.ob hr;have gh:=hB.u.ob hr;replace a9:=qj a9 t9;replace a5:=zV a5 t9;refine zZ b8 rfl rfl o6 rfl qz (fun w12 hq ik=>?_);replace ao:=ao.tr0 t9;replace ao:=ao.cB ik;replace b1:=b1.tr0 t9;replace b1:=b1.cB ik;replace a9:=qj a9 ik;replace a5:=zV a5 ik;replace b8:=hq;refine vj ?_;refine qx (rg [16] 63 22) (fun m g w'=>∃(q:Nat) (A5:Option Addr) (cv:Nat),q<=(((gs[k]'b2)[j]'bb)).ln.length/\m=(((gs[k]'b2)[j]'bb)).ln.length-q/\g 63= .int .i64 q/\Bel w w'/\Blk w' b3 25 #[.slice A l.length c,.slice B fs.length d]/\(∃ z,Blk w' b6 30 #[z])/\Own w' (b6+1) 3 1 (some ⟨fg,0,none⟩) (k+1) c7 (stV gs (k+1))/\Own w' (b6+1) 80 2 A8 D.length bn (ndV (tyV D) V D.length)/\(∀ x,x<D.length->RowO w' w.heap.size bs (V x) (nd D x).ln)/\bs<=w'.heap.size/\Blk w' ig 80 #[.int .i64 (((gs[k]'b2)[j]'bb)).ty,.slice A5 q cv]/\Own w' (ig+1) 83 2 A5 q cv (lnV (shL (VA gs k).length ((((gs[k]'b2)[j]'bb)).ln.take q)))) ((((gs[k]'b2)[j]'bb)).ln.length) ?_ (fun m g12 it hI=>?_)
   ·exact⟨0,none,0,ag _,rfl,rfl,hB.u,ab.u,⟨_,a3.u⟩,ao,b1,a9,a5,b8,Own.nil _ _ _ _⟩
   obtain⟨q,A5,cv,hq,hmq,h63,hB,ab,⟨z6,a3⟩,ao,b1,a9,a5,b8,bm⟩:=hI;have hz14:=b8.lt;refine zX 63 _ h63 nu (zn6 ?_);refine zQ rfl (fun c64=>?_) (fun c64=>?_)
   ·have b9:q<(((gs[k]'b2)[j]'bb)).ln.length:=by omega
    obtain⟨lb,lof,rfl,hlb,hlr⟩:=hln.at_ hB b9;have hx2:=ht _ (am b9);refine zn6 ?_;refine wl (x9 (i:=q) U78 uW rfl rfl b9 rfl) (wl (qw U83 rfl rfl hlr uW) ?_);refine qW (cs:=#[.int .i64 0,.int .i64 0]) K4 rfl (fun b16 w14 f8 d9 hr=>?_);have:=ab.ob hr;have:=a3.ob hr;have dw:=ao.ob hr;have e7:=b1.ob hr;have eh:=(nLT a5 hr)
    have:=b8.ob hr;have eb:=bm.ob hr;have j1:=hB.ob hr;replace a9:=qj a9 d9;replace a5:=zV a5 d9;refine zZ f8 rfl rfl uW rfl qz (fun w15 hq d8=>?_);replace ao:=ao.tr0 d9;replace ao:=ao.cB d8;replace b1:=b1.tr0 d9;replace b1:=b1.cB d8;replace a9:=qj a9 d8;replace a5:=zV a5 d8;replace bm:=bm.tr0 d9;replace bm:=bm.cB d8;replace f8:=hq;refine zJ (e_S ?_);have zo:=fun g hg=>(bm.lt g hg).2
    refine Qz [] [15,17] [0,1,2,3,4,5,6,7,8,9,10,11,12,13,14,15,16,17] rfl (fun w16 d7=>?_);replace a9:=qj a9 d7;replace a5:=zV a5 d7;refine zn9 ?_;refine hl rfl (fun _=>kZ (c:=((k:Nat):Int)) rfl rfl oG oG) (zn1 ?_);replace ao:=ao.tr0 d7;refine hl1 (v:= .int _ _) rfl U3 rfl rfl (st_get ao (aI k)) (hl rfl (fun _=>Z4 (c:=((((((gs[k]'b2)[j]'bb)).ln)[q]'b9).2+(((VA gs k).length:Nat):Int))) rfl rfl rfl oG) (hl rfl (fun _=>vw (v0:= .int _ _) (v1:= .int _ _) (fun v0 v1=>#[v0,v1]) rfl rfl kR) (h1 rfl ?_)));refine qV (cs:=#[_,_]) [(0,.agg _)] rfl U78 uW K4 dE dE kR rfl (fun b81 w17 k9 cx hr=>?_);have:=ab.u.ob hr;have:=a3.u.ob hr;have du:=ao.ob hr;replace b1:=b1.tr0 d7;have e5:=b1.ob hr;have ed:=(nLT a5 hr)
    have:=b8.u.ob hr;replace bm:=bm.tr0 d7;have ea:=bm.ob hr;have:=f8.u.ob hr;have lo81:=hB.u.ob hr;have gm:=cx;replace a9:=qj a9 cx;replace a5:=zV a5 cx;refine zJ (K9 gm (h1 rfl ?_));replace bm:=bm.tr0 cx;refine j7 U78 XX rfl dE bm k9 rfl rfl rfl qz dE oG oG (Nat.succ_le_of_lt b8.u.lt) (fun kq cu w18 ez cp hg82=>?_);replace hB:=((hB.tr0 d9).tr1 d8 j1).tr0 (d7.t cx);replace hB:=hB.tr cp (fun g hg=>nLT (aJ gh) (bm.lt g hg).1);replace ab:=((ab.tr0 d9).tr1 d8 oG).tr0 (d7.t cx);replace ab:=ab.ta cp bm;replace a3:=((a3.tr0 d9).tr1 d8 oG).tr0 (d7.t cx);replace a3:=a3.ta cp bm;replace ao:=ao.tr0 cx;replace ao:=ao.c cp;replace b1:=b1.tr0 cx;replace b1:=b1.c cp;replace a9:=qj a9 cp;replace a5:=zV a5 cp;replace b8:=((b8.tr0 d9).tr1 d8 oG).tr0 (d7.t cx);replace b8:=b8.ta cp bm;obtain⟨kq,cu,e82,ez⟩:∃ g cap,(.slice (some ⟨kq,0,none⟩) (q+1) cu:Value)= .slice (some ⟨g,0,none⟩) (q+1) cap/\Own w18 (ig+1) 83 2 (some ⟨g,0,none⟩) (q+1) cap (lnV (shL (VA gs k).length ((((gs[k]'b2)[j]'bb)).ln.take q))++[.int .i64 (((((gs[k]'b2)[j]'bb)).ln)[q]'b9).1,.int .i64 ((((((gs[k]'b2)[j]'bb)).ln)[q]'b9).2+(((VA gs k).length:Nat):Int))]):=⟨_,_,rfl,ez⟩
    cases e82;refine zJ (D0 [17] (zn1 ?_));have bm:Own w18 (ig+1) 83 2 (some ⟨kq,0,none⟩) (q+1) cu (lnV (shL (VA gs k).length ((((gs[k]'b2)[j]'bb)).ln.take (q+1)))):=by rw[<- shL_take b9];exact ez
    refine h1 rfl ?_;refine xQ (v:= .slice _ _ _) b8 rfl rfl BW (by first|decide|simp) rfl rfl (fun w19 hq ft=>?_);have hsH17:=ft;replace ao:=ao.cB ft;replace b1:=b1.cB ft;replace a9:=qj a9 ft;replace a5:=zV a5 ft;replace bm:=bm.cB ft;replace b8:=hq;refine zJ (D0 [] (zn7 ?_));refine x8 ((((gs[k]'b2)[j]'bb)).ln.length-(q+1)) oG agA ?_;exact⟨q+1,_,_,by omega,rfl,rfl,hB.u,ab.u,⟨_,a3.u⟩,ao,b1,a9,a5,b8,bm⟩
   have hqx:q=(((gs[k]'b2)[j]'bb)).ln.length:=by omega
   subst hqx;rw[List.take_length]at bm;refine zn5 ?_
   have bi:=RowO.of (lo:=w.heap.size) (xs:=(shN (VA gs k).length (((gs[k]'b2)[j]'bb))).ln) (aJ gh) (A:=A5) (cap:=cv) (w:=it) (by
     have e1:(shN (VA gs k).length (((gs[k]'b2)[j]'bb))).ln.length=(((gs[k]'b2)[j]'bb)).ln.length:=by simp[shN]
     rw[e1];exact bm)
   rw[show (shN (VA gs k).length (((gs[k]'b2)[j]'bb))).ln.length=(((gs[k]'b2)[j]'bb)).ln.length by simp[shN]]at bi;obtain⟨s5,hs5⟩:∃ b,b=it.heap.size:=⟨_,rfl⟩
   rw[<- hs5]at bi;have fu:s5<=it.heap.size:=ay hs5;refine zn3 ?_;refine qV (cs:=#[_,_]) [(0,.agg _)] rfl U28 o6 DX dE dE kR rfl (fun b87 w20 k8 dj hr=>?_);have:=ab.ob hr;have:=a3.ob hr;have dr:=ao.ob hr;have dz:=b1.ob hr;have ec:=(nLT a5 hr)
   have:=b8.ob hr;have dq:=(nLT fu hr)
   have lo87:=hB.ob hr;replace a9:=qj a9 dj;replace a5:=zV a5 dj;replace bi:=bi.tr dj (by simp);replace fu:=zV fu dj;replace b1:=b1.tr0 dj;refine j7 U28 V0 rfl dE b1 k8 rfl rfl rfl qz dE oG oG (Nat.succ_le_of_lt a3.u.lt) (fun io ib w21 ji di hg=>?_);have em:io≠b3:=neA b1 ab.u.lt hg
   have el:io≠b6:=neA b1 a3.u.lt hg
   have dk:io≠ig:=neB b8.u.lt hg (fun g hg=>by have:=c1 g hg;omega)
   replace hB:=hB.u.tr di (fun g hg=>nLT (aJ iz) (b1.lt g hg).1);replace ab:=ab.tr0 dj;replace ab:=ab.ta di b1;replace a3:=a3.tr0 dj;replace a3:=a3.ta di b1;replace ao:=ao.tr0 dj;replace ao:=ao.c di;replace a9:=qj a9 di;replace a5:=zV a5 di;replace bi:=bi.c di;replace fu:=zV fu di;have hlo88:=a3.lt;refine zn8 ?_;refine x8 ((gs[k]'b2).length-(j+1)) oG agA ?_;exact⟨j+1,some ⟨io,0,none⟩,ib,VK V D.length (.slice A5 (((gs[k]'b2)[j]'bb)).ln.length cv),D++[shN (VA gs k).length ((gs[k]'b2)[j]'bb)],by omega,rfl,by rw[ff,app_take bb],rfl,by rw[List.length_append];rfl,hB,ab,⟨_,a3⟩,ao,nl_snoc (y:=shN (VA gs k).length ((gs[k]'b2)[j]'bb)) ji,rows_snoc a9 bi a5 fu⟩
  have hjx:j=(gs[k]'b2).length:=by omega
  subst hjx;rw[List.take_length,<- Xv b2]at ff;have hDl:D.length=(VA gs (k+1)).length:=by rw[ff]
  refine yW ?_;refine x8 (gs.length-(k+1)) oG agA ?_
  exact⟨k+1,A8,(some ⟨fg,0,none⟩),bn,c7,V,by omega,rfl,rfl,by rw[<- ff];rfl,rfl,hB,ab,⟨_,a3⟩,ao,by rw[<- ff];exact b1,fun x hx=>by
   rw[<- ff]at hx ⊢
   exact(a9 x hx).up a5⟩
 have i1:k=gs.length:=by omega
 subst i1
 obtain⟨q9,rfl,_,gu,_⟩:=ao.cell (fun e=>by
   have h:(stV gs gs.length).length=0:=by rw[e];rfl
   have h2:(stV gs gs.length).length=gs.length:=by simp[stV]
   omega)
 have gl:∀ i,i<gs.length->w3.cell? ⟨q9,0+i*1,none⟩=some (.int .i64 (((VA gs i).length:Nat):Int)):=fun i hi=>st_get ao hi
 have fv:0<(VA gs gs.length).length:=Nat.lt_of_le_of_lt (ag _) (VA_lt il hp);have ca:GY l (VA gs gs.length):=by have h:=VA_gy ju (gs.length-1) oG;rwa[show gs.length-1+1=gs.length by omega]at h
 have hNU:NodesIn w3 A8 (VA gs gs.length):=Ov (lo:=w.heap.size) (bs:=bs) b1 rfl (fun x hx=>by unfold tyV;rw[vx hx]) (fun x hx=>by rw[<- vx hx];exact a9 x hx);obtain⟨q8,o8,rfl,db,dc⟩:=hNU.2 (fun e=>by rw[e]at fv;exact absurd fv (aH _));obtain⟨wA,hwA⟩:∃ x,x=w3:=⟨_,rfl⟩
 have an:Bel wA w3:=by rw[hwA];exact Below.refl _ _
 rw[<- hwA]at dc gl db gu;refine zn9 ?_;refine XV (m:=(VA gs gs.length).length) U59 OX rfl rfl rfl oG oG (fun bx w22 a1 t18 hr=>?_);have:=ab.ob hr;have:=a3.ob hr;have lo93:=hB.ob hr;have c2:=an.ob hr;refine vj ?_;refine qx (rg [18] 96 8) (fun m g w'=>∃ k:Nat,k<=(VA gs gs.length).length/\m=(VA gs gs.length).length-k/\g 96= .int .i64 k/\Bel w w'/\Bel wA w'/\Blk w' b3 25 #[.slice A l.length c,.slice B fs.length d]/\(∃ z,Blk w' b6 30 #[z])/\Blk w' bx 3 (row (VA gs gs.length).length (fun x=> .int .i64 (((if x<k then x else 0:Nat)):Int)))) ((VA gs gs.length).length) ?_ (fun m g21 w23 hI=>?_)
 ·refine⟨0,ag _,rfl,rfl,hB.u,an.u,ab.u,⟨_,a3.u⟩,?_⟩;rw[xJ (g':=fun _=> .int .i64 0) (fun x _=>by simp)];exact a1
 obtain⟨k,jp,hm,h96,hB,an,ab,⟨z6,a3⟩,a1⟩:=hI;refine zX 96 _ h96 nu (zn6 ?_);refine zQ rfl (fun c97=>?_) (fun c97=>?_)
 ·have b2:k<(VA gs gs.length).length:=by omega
  refine ZV ?_;refine wl (x9 (i:=k) U59 qk rfl rfl b2 rfl) ?_;refine xQ (v:= .int _ _) a1 rfl rfl qk (by rw[row_size];omega) rfl kv (fun w24 hq t19=>?_);replace a1:=hq
  rw[xJ (g':=fun x=> .int .i64 (((if x<k+1 then x else 0:Nat)):Int)) (fun x _=>by
    by_cases e:x=k
    · subst e;simp
    · have e1:(x<k+1)↔(x<k):=by omega
      simp[e,e1])]at a1
  refine zn7 ?_;refine x8 ((VA gs gs.length).length-(k+1)) oG agA ?_;exact⟨k+1,by omega,rfl,rfl,hB.u,an.u,ab.u,⟨_,a3.u⟩,a1⟩
 have i1:k=(VA gs gs.length).length:=by omega
 rw[i1,xJ (g':=fun x=> .int .i64 (((fun i:Nat=>i) x:Nat):Int)) (fun x hx=>by simp[hx])]at a1;replace a1:Blk w23 bx 3 (RWj (VA gs gs.length).length (fun i=>i)):=a1;have k6:CS l (VA gs gs.length) (PA gs ats) 0 (fun i=>i):=CS.start;refine ZV ?_;refine qx (rg [19,20] 106 20) (fun m g w'=>∃(k:Nat) (rep:Nat->Nat),k<=ats.length/\m=ats.length-k/\g 106= .int .i64 k/\Bel w w'/\Bel wA w'/\Blk w' b3 25 #[.slice A l.length c,.slice B fs.length d]/\(∃ z,Blk w' b6 30 #[z])/\Blk w' bx 3 (RWj (VA gs gs.length).length rep)/\CS l (VA gs gs.length) (PA gs ats) k rep) (ats.length) ?_ (fun m g26 w25 hI=>?_)
 ·exact⟨0,fun i=>i,ag _,rfl,rfl,hB,an,ab,⟨_,a3⟩,a1,k6⟩
 obtain⟨k,rep,jp,hm,kp,hB,an,ab,⟨z6,a3⟩,a1,fy⟩:=hI;refine zX 106 _ kp nu (zn6 ?_);refine zQ rfl (fun l8=>?_) (fun l8=>?_)
 ·have b2:k<ats.length:=by omega
  obtain⟨pb,po,rfl,hpb,hpc⟩:=hAT.at_ (k:=k) (by rw[List.length_map];exact b2);rw[List.getElem_map]at hpc;have jb:ats[k]'b2<(VA gs gs.length).length:=by
    have h:=i3 k b2;have h2:=VA_le (gs:=gs) (gs.length-1) (k:=1) oG;rw[show 1+(gs.length-1)=gs.length by omega,Xv hp,DZ,List.nil_append,List.length_map]at h2;omega
  have j4:(VA gs (k+1)).length<(VA gs gs.length).length:=VA_lt il oG;have k5:=fy.pair (by rw[PA_len];exact b2) (PA_get b2) jb j4;refine zn7 ?_;refine wl (x9 (i:=k) U59 qk rfl rfl b2 rfl) (wl (qy (v:= .int _ _) U3 rfl rfl (hB.cell hpb hpc)) (zn4 ?_));refine X1 13 kR kR (fun w26 t20=>?_);refine zn4 ?_;refine ws (Z4 (c:=((k+1:Nat):Int)) rfl rfl oG oG) (ws (x9 (i:=(k+1)) U59 qk rfl rfl oG rfl) (ws (qy (v:= .int _ _) U3 rfl rfl (an.u.cell gu (gl (k+1) oG))) (ws (x9 (i:=(VA gs (k+1)).length) U59 qk rfl rfl j4 rfl) (ws (qy (v:= .int _ _) U3 rfl rfl (a1.u.cell (Yk j4))) (zn2 ?_)))));refine ws (x9 (i:=(ats[k]'b2)) U59 qk rfl rfl jb rfl) (ws (qy (v:= .int _ _) U3 rfl rfl (a1.u.cell (Yk jb))) (QY ?_));refine qq kR (ren_any _ hn a1.u) rfl (fun e' w27 hr=>?_);obtain⟨rfl,cq,t21⟩:=hr;replace a1:Blk w27 bx 3 (RWj (VA gs gs.length).length _):=cq;refine⟨_,rfl,?_⟩;refine zn7 ?_;refine x8 (ats.length-(k+1)) oG agA ?_;exact⟨k+1,_,by omega,rfl,rfl,hB.u,an.u,ab.u,⟨_,a3.u⟩,a1,k5⟩
 have i1:k=ats.length:=by omega
 rw[i1]at fy;rw[<- PA_len gs ats]at fy;refine vj ?_;refine qx (rg [21,22,23,25,27] 126 73) (fun m g w'=>∃(rep:Nat->Nat) (ch:Bool),m=2*roots (VA gs gs.length).length rep+chJ ch/\g 21= .bool ch/\Bel w w'/\Bel wA w'/\Blk w' b3 25 #[.slice A l.length c,.slice B fs.length d]/\(∃ z,Blk w' b6 30 #[z])/\Blk w' bx 3 (RWj (VA gs gs.length).length rep)/\CS l (VA gs gs.length) (PA gs ats) (PA gs ats).length rep/\(ch=false->JF l (VA gs gs.length) (PA gs ats) rep)) (2*roots (VA gs gs.length).length rep+chJ true) ?_ (fun m g31 w28 hI=>?_)
 ·exact⟨rep,true,rfl,rfl,hB,an,ab,⟨_,a3⟩,a1,fy,fun h=>by cases h⟩
 obtain⟨rep,ch,hm,de,hB,an,ab,⟨z6,a3⟩,a1,fy,hjf⟩:=hI;refine zX 21 _ de nu (zn6 ?_);refine jQ rfl (fun fp=>?_) (fun fp=>?_)
 ·subst fp;refine Kz ?_;refine qx (rg [21,22,23,25,27] 129 70) (fun m g w'=>∃(i:Nat) (c9:Nat->Nat) (g3:Bool),i<=(VA gs gs.length).length/\m=(VA gs gs.length).length-i/\g 129= .int .i64 i/\g 21= .bool g3/\Bel w w'/\Bel wA w'/\Blk w' b3 25 #[.slice A l.length c,.slice B fs.length d]/\(∃ z,Blk w' b6 30 #[z])/\Blk w' bx 3 (RWj (VA gs gs.length).length c9)/\JP l (VA gs gs.length) (PA gs ats) (PA gs ats).length rep c9 g3 i 0) ((VA gs gs.length).length) ?_ (fun m g34 w29 hI=>?_)
  ·exact⟨0,rep,false,ag _,rfl,rfl,rfl,hB,an,ab,⟨_,a3⟩,a1,JP.start fy⟩
  obtain⟨i,c9,g3,hi,hmi,ko,de,hB,an,ab,⟨z6,a3⟩,a1,im⟩:=hI;refine zX 129 _ ko nu (zX 21 _ de nu (zn6 ?_));refine zQ rfl (fun l7=>?_) (fun l7=>?_)
  ·have bo:i<(VA gs gs.length).length:=by omega
   obtain⟨LAi,lci,gq,c6⟩:=dc i bo;rw[<- vx bo]at gq c6;have f4:=c6.1;unfold vJ at f4;refine PK ?_;refine qx (rg [21,23,25,27] 133 65) (fun m g w'=>∃(j:Nat) (c0:Nat->Nat) (fk:Bool),j<=i/\m=i-j/\g 133= .int .i64 j/\g 21= .bool fk/\Bel w w'/\Bel wA w'/\Blk w' b3 25 #[.slice A l.length c,.slice B fs.length d]/\(∃ z,Blk w' b6 30 #[z])/\Blk w' bx 3 (RWj (VA gs gs.length).length c0)/\JP l (VA gs gs.length) (PA gs ats) (PA gs ats).length rep c0 fk i j) (i) ?_ (fun m g37 w30 hI=>?_)
   ·exact⟨0,c9,g3,ag _,rfl,rfl,rfl,hB,an,ab,⟨_,a3⟩,a1,im⟩
   obtain⟨j,c0,fk,hj,hmj,kn,de,hB,an,ab,⟨z6,a3⟩,a1,fb⟩:=hI;refine zX 133 _ kn nu (zX 21 _ de nu (zn6 ?_));refine zQ rfl (fun l6=>?_) (fun l6=>?_)
   ·have hji:j<i:=by omega
    have f7:j<(VA gs gs.length).length:=by omega
    obtain⟨LAj,lcj,hrj,f6⟩:=dc j f7;rw[<- vx f7]at hrj f6;have jl:=f6.1;unfold vJ at jl;refine vj ?_;refine oZ kR kR (fun w31 ge=>?_);refine zn2 ?_;refine ws (x9 (i:=i) U59 qk rfl rfl bo rfl) (ws (qy (v:= .int _ _) U3 rfl rfl (a1.u.cell (Yk bo))) (zn2 ?_));refine ws (x9 (i:=j) U59 qk rfl rfl f7 rfl) (ws (qy (v:= .int _ _) U3 rfl rfl (a1.u.cell (Yk f7))) (zn1 ?_));refine ux (e_S ?_);refine zQ rfl (fun ie=>?_) (fun ie=>?_)
    ·have hsk:=fb.skip (fun e=>ie (by rw[e]));refine zn8 ?_;refine x8 (i-(j+1)) oG agA ?_;replace hB:=hB.tr0 ge;replace ab:=ab.tr0 ge;replace a3:=a3.tr0 ge;replace an:=an.tr0 ge;replace a1:=a1.tr0 ge
     first
      | exact⟨j+1,c0,fk,by omega,rfl,rfl,rfl,hB,an,ab,⟨_,a3⟩,a1,hsk⟩
      | exact⟨j+1,c8,g2,by omega,rfl,rfl,rfl,hB,an,ab,⟨_,a3⟩,a1,ke.done⟩
    have kd:=JK.start fb oG;refine zn6 ?_;refine wl (x9 (i:=i) U28 o6 rfl rfl bo rfl) (zn1 ?_);refine wl (qy (v:= .slice _ _ _) U78 rfl rfl (an.u.cell db (gq 1 _ rfl))) (zn5 ?_);refine qx (rg [21,25,27] 151 46) (fun m g w'=>∃(p:Nat) (c8:Nat->Nat) (g2:Bool),p<=(nd (VA gs gs.length) i).ln.length/\m=(nd (VA gs gs.length) i).ln.length-p/\g 151= .int .i64 p/\g 21= .bool g2/\Bel w w'/\Bel wA w'/\Blk w' b3 25 #[.slice A l.length c,.slice B fs.length d]/\(∃ z,Blk w' b6 30 #[z])/\Blk w' bx 3 (RWj (VA gs gs.length).length c8)/\JK l (VA gs gs.length) (PA gs ats) (PA gs ats).length rep c8 g2 i j p 0) ((nd (VA gs gs.length) i).ln.length) ?_ (fun m g41 w32 hI=>?_)
    ·exact⟨0,c0,fk,ag _,rfl,rfl,rfl,hB.u,an.u,ab.u,⟨_,a3.u⟩,a1.u,kd⟩
    obtain⟨p,c8,g2,hpp,hmp,km,de,hB,an,ab,⟨z6,a3⟩,a1,ke⟩:=hI;refine zX 151 _ km nu (zX 21 _ de nu (zn6 ?_));refine zQ rfl (fun l5=>?_) (fun l5=>?_)
    ·have dn:p<(nd (VA gs gs.length) i).ln.length:=by omega
     obtain⟨lb1,iy,rfl,jo,f5⟩:=c6.at_ an dn;have ja:=ca.lr i bo _ (am dn);obtain⟨tx,jd⟩:=Ex ja.1;have cm:(((nd (VA gs gs.length) i).ln[p]'dn)).2.toNat=tx:=by omega
     have c5:tx<(VA gs gs.length).length:=by omega
     refine zn6 ?_;refine wl (x9 (i:=p) U78 uW rfl rfl dn rfl) (wl (qw U83 rfl rfl f5 uW) ?_);refine yx (cs:=#[.int .i64 0,.int .i64 0]) K4 rfl (fun _=>rfl) (fun _=>rfl) uW rfl qz (fun b25 w34 bd t23 hr=>?_);have:=ab.ob hr;have:=a3.ob hr;have:=a1.ob hr;have lo25:=hB.ob hr;have er:=an.ob hr;refine zn3 ?_;rw[jd]at bd;refine zn3 ?_;refine wl (x9 (i:=j) U28 o6 rfl rfl f7 rfl) (zn1 ?_);refine wl (qy (v:= .slice _ _ _) U78 rfl rfl (an.u.cell db (hrj 1 _ rfl))) (zn5 ?_);refine qx (rg [21,27] 161 35) (fun m g w'=>∃(q:Nat) (bu:Nat->Nat) (g1:Bool),q<=(nd (VA gs gs.length) j).ln.length/\m=(nd (VA gs gs.length) j).ln.length-q/\g 161= .int .i64 q/\g 21= .bool g1/\Bel w w'/\Bel wA w'/\Blk w' b3 25 #[.slice A l.length c,.slice B fs.length d]/\(∃ z,Blk w' b6 30 #[z])/\Blk w' bx 3 (RWj (VA gs gs.length).length bu)/\Blk w' b25 83 #[.int .i64 (((nd (VA gs gs.length) i).ln[p]'dn)).1,.int .i64 ((tx:Nat):Int)]/\JK l (VA gs gs.length) (PA gs ats) (PA gs ats).length rep bu g1 i j p q) ((nd (VA gs gs.length) j).ln.length) ?_ (fun m g44 w35 hI=>?_)
     ·exact⟨0,c8,g2,ag _,rfl,rfl,rfl,hB.u,an.u,ab.u,⟨_,a3.u⟩,a1.u,bd,ke⟩
     obtain⟨q,bu,g1,hqq,hmq,kl,de,hB,an,ab,⟨z6,a3⟩,a1,bd,fd⟩:=hI;refine zX 161 _ kl nu (zX 21 _ de nu (zn6 ?_));refine zQ rfl (fun l4=>?_) (fun l4=>?_)
     ·have b9:q<(nd (VA gs gs.length) j).ln.length:=by omega
      obtain⟨lb2,lof2,rfl,hlb2,jn⟩:=f6.at_ an b9;have hyr:=ca.lr j f7 _ (am b9);obtain⟨ty,hty⟩:=Ex hyr.1;have eu:(((nd (VA gs gs.length) j).ln[q]'b9)).2.toNat=ty:=by omega
      have da:ty<(VA gs gs.length).length:=by omega
      refine zn6 ?_;refine wl (x9 (i:=q) U78 uW rfl rfl b9 rfl) (wl (qw U83 rfl rfl jn uW) ?_);refine yx (cs:=#[.int .i64 0,.int .i64 0]) K4 rfl (fun _=>rfl) (fun _=>rfl) uW rfl qz (fun b27 ir i2 cg hr=>?_);have:=ab.ob hr;have:=a3.ob hr;have:=a1.ob hr;have:=bd.ob hr;have lo27:=hB.ob hr;have ep:=an.ob hr;refine zn3 ?_;rw[hty]at i2;refine y9 (rg [] 165 18) (fun g w'=>(g 182= .bool (decide ((((nd (VA gs gs.length) i).ln[p]'dn)).1=(((nd (VA gs gs.length) j).ln[q]'b9)).1/\¬bu tx=bu ty)))/\Same [] ir w') ?_ (fun g46 w38 hI=>?_)
      ·have hZ:SameQ [] ir ir:=Same.refl _ _;refine oZ kR kR (fun w39 t25=>?_);replace hZ:=SameQ.trans hZ t25 (by simp);refine zn6 ?_;refine kK 170 rfl (fun kt=>?_) (fun kt=>?_)
       ·refine yV 170 rfl rfl (xz (v:= .slice _ _ _) rfl) (yV 170 rfl rfl (u6 U83 qk dE rfl rfl rfl) (yV 170 rfl rfl (qy (v:= .int _ _) U3 rfl rfl (bd.u.cell rfl)) (yV 170 rfl rfl (x9 (i:=tx) U59 qk rfl rfl c5 rfl) (yV 170 rfl rfl (qy (v:= .int _ _) U3 rfl rfl (a1.u.cell (Yk c5))) (yV 170 rfl rfl (xz (v:= .slice _ _ _) rfl) (yV 170 rfl rfl (u6 U83 qk dE rfl rfl rfl) (yV 170 rfl rfl (qy (v:= .int _ _) U3 rfl rfl (i2.u.cell rfl)) (yV 170 rfl rfl (x9 (i:=ty) U59 qk rfl rfl da rfl) (yV 170 rfl rfl (qy (v:= .int _ _) U3 rfl rfl (a1.u.cell (Yk da))) (yV 170 rfl rfl (Tz rfl rfl) (zn1 ?_)))))))))));refine ux ?_;refine e_R ⟨agA,?_⟩;refine⟨?_,hZ⟩;exact clA
       refine vj ?_;refine ux ?_;refine e_R ⟨agA,?_⟩;refine⟨?_,hZ⟩;exact clA
      obtain⟨ki,cf⟩:=hI;refine jj 182 _ ki nu (e_S ?_);refine zQ rfl (fun df=>?_) (fun df=>?_)
      ·have fc:=fd.ren bo f7 dn b9 df.1 oG oG (by rw[cm,eu];exact df.2);rw[cm,eu]at fc;refine xV ?_;refine X1 11 kR kR (fun w40 g9=>?_);refine zn4 ?_;refine ws (x9 (i:=tx) U59 qk rfl rfl c5 rfl) (ws (qy (v:= .int _ _) U3 rfl rfl (a1.u.cell (Yk c5))) (zn3 ?_));refine ws (x9 (i:=ty) U59 qk rfl rfl da rfl) (ws (qy (v:= .int _ _) U3 rfl rfl (a1.u.cell (Yk da))) (QY ?_));refine qq kR (ren_any _ hn a1.u) rfl (fun e' w41 hr=>?_);obtain⟨rfl,cq,g7⟩:=hr;replace a1:Blk w41 bx 3 (RWj (VA gs gs.length).length _):=cq;refine⟨_,rfl,?_⟩;refine jq ?_;refine x8 ((nd (VA gs gs.length) j).ln.length-(q+1)) oG agA ?_;replace hB:=(hB.tr0 (cg.t (cf.t g9))).tr1 g7 lo93;replace ab:=(ab.tr0 (cg.t (cf.t g9))).tr1 g7 oG;replace a3:=(a3.tr0 (cg.t (cf.t g9))).tr1 g7 oG;replace an:=(an.tr0 (cg.t (cf.t g9))).tr1 g7 c2;replace bd:=(bd.tr0 (cg.t (cf.t g9))).tr1 g7 oG
       first
        | exact⟨q+1,_,true,by omega,rfl,rfl,rfl,hB,an,ab,⟨_,a3⟩,a1,bd,fc⟩
        | exact⟨q+1,bu,g1,by omega,rfl,rfl,rfl,hB,an,ab,⟨_,a3⟩,a1,bd,i9⟩
      have i9:=fd.skip dn b9 (fun e=>by rw[cm,eu];exact aG (fun h=>df ⟨e,h⟩));refine zn7 ?_;refine x8 ((nd (VA gs gs.length) j).ln.length-(q+1)) oG agA ?_;replace hB:=hB.tr0 (cg.t cf);replace ab:=ab.tr0 (cg.t cf);replace a3:=a3.tr0 (cg.t cf);replace an:=an.tr0 (cg.t cf);replace a1:=a1.tr0 (cg.t cf);replace bd:=bd.tr0 (cg.t cf)
      first
       | exact⟨q+1,_,true,by omega,rfl,rfl,rfl,hB,an,ab,⟨_,a3⟩,a1,bd,fc⟩
       | exact⟨q+1,bu,g1,by omega,rfl,rfl,rfl,hB,an,ab,⟨_,a3⟩,a1,bd,i9⟩
     have jh:q=(nd (VA gs gs.length) j).ln.length:=by omega
     subst jh;refine yW ?_;refine x8 ((nd (VA gs gs.length) i).ln.length-(p+1)) oG agA ?_;exact⟨p+1,bu,g1,by omega,rfl,rfl,rfl,hB,an,ab,⟨_,a3⟩,a1,fd.row⟩
    have hpe:p=(nd (VA gs gs.length) i).ln.length:=by omega
    subst hpe;refine yW ?_;refine x8 (i-(j+1)) oG agA ?_
    first
     | exact⟨j+1,c0,fk,by omega,rfl,rfl,rfl,hB,an,ab,⟨_,a3⟩,a1,hsk⟩
     | exact⟨j+1,c8,g2,by omega,rfl,rfl,rfl,hB,an,ab,⟨_,a3⟩,a1,ke.done⟩
   have hje:i=j:=by omega
   subst hje;refine yW ?_;refine x8 ((VA gs gs.length).length-(i+1)) oG agA ?_;exact⟨i+1,c0,fk,by omega,rfl,rfl,rfl,hB,an,ab,⟨_,a3⟩,a1,fb.row⟩
  have js:i=(VA gs gs.length).length:=by omega
  subst js;have hmeas:=jp_meas im;refine zn5 ?_;refine x8 (2*roots (VA gs gs.length).length c9+chJ g3) oG agA ?_;exact⟨c9,g3,rfl,rfl,hB,an,ab,⟨_,a3⟩,a1,im.cs,fun h=>by subst h;exact JP.end_ ca.srt im⟩
 have fe:=hjf fp;have jm:MJ l (VA gs gs.length) (PA gs ats) rep (fun _=>false) (fun _=>0) (fun _=>[]) 0 0 0:=MJ.start hS.pos;refine zn9 ?_;refine H2 (m:=(VA gs gs.length).length) U28 V0 rfl rfl oG oG (fun bc w42 a2 g6 hr=>?_);have:=ab.ob hr;have:=a3.ob hr;have:=a1.ob hr;have cj:=hB.ob hr;have b7:=an.ob hr;refine zn4 ?_;replace hB:=hB.tr0 g6;replace ab:=ab.tr0 g6;replace a3:=a3.tr0 g6;replace an:=an.tr0 g6;replace a1:=a1.tr0 g6;replace a2:Blk w42 bc 80 (kz (VA gs gs.length).length (fun _=> .int .i64 0) (fun _=> .slice none 0 0)):=by
   have h:=a2;rw[show (Value.agg #[.int .i64 0,.slice none 0 0]).cells= #[.int .i64 0,.slice none 0 0]from rfl,M2]at h;exact h
 refine zn3 ?_;refine XV (m:=(VA gs gs.length).length) JW Bz rfl rfl rfl oG oG (fun dg w43 a4 t30 hr=>?_);have:=ab.ob hr;have:=a3.ob hr;have:=a1.ob hr;have:=a2.ob hr;have gf:=hB.ob hr;have bv:=an.ob hr;refine vj ?_;refine qx [7,30,31,32,33,34,35,37,38,207,208,209,210,211,212,213,214,215,216,217,218,219,220,221,222,223,224,225,226,227,228,229,230,231,232,233,234,235,236,237,238,239,240,241,242,243,244,245,246,247,248,249,250,251,252,253,254,255,256,257,258,259,260,261,262,263,264,265,266,267,268,269,270,271,272,273,274,275,276,277,278,279,280,281,282,283,284,285,286,287,288,289,290,291,292,293,294,295,296,297,298,299,300,301,302,303,304,305,306,307,308,309,310,311,312] (fun m g w'=>∃(i:Nat) (seen:Nat->Bool) (T:Nat->Int) (L:Nat->List (Int×Int)) (V:Nat->Value),i<=(VA gs gs.length).length/\m=(VA gs gs.length).length-i/\g 207= .int .i64 i/\Bel w w'/\Bel wA w'/\Blk w' b3 25 #[.slice A l.length c,.slice B fs.length d]/\(∃ z,Blk w' b6 30 #[z])/\Blk w' bx 3 (RWj (VA gs gs.length).length rep)/\Blk w' dg 4 (row (VA gs gs.length).length (fun x=> .bool (seen x)))/\Blk w' bc 80 (kz (VA gs gs.length).length (fun x=> .int .i64 (T x)) V)/\(∀ x,x<(VA gs gs.length).length->RowO w' w.heap.size w'.heap.size (V x) (rpL rep (L x)))/\MJ l (VA gs gs.length) (PA gs ats) rep seen T L i i 0) ((VA gs gs.length).length) ?_ (fun m g56 g5 hI=>?_)
 ·exact⟨0,fun _=>false,fun _=>0,fun _=>[],fun _=> .slice none 0 0,ag _,rfl,rfl,hB.u,an.u,ab.u,⟨_,a3.u⟩,a1.u,a4,a2.u,fun x _=>ro_nil _ _ _,jm⟩
 obtain⟨i,seen,T,L,V,hi,hmi,kh,hB,an,ab,⟨z6,a3⟩,a1,a4,a2,a9,g0⟩:=hI;obtain⟨bs,bj⟩:∃ b,b=g5.heap.size:=⟨_,rfl⟩
 rw[<- bj]at a9;have a5:bs<=g5.heap.size:=ay bj;refine zX 207 _ kh nu (zn6 ?_);refine zQ rfl (fun l3=>?_) (fun l3=>?_)
 ·have bo:i<(VA gs gs.length).length:=by omega
  obtain⟨LAi,lci,gq,c6⟩:=dc i bo;rw[<- vx bo]at gq c6;have f4:=c6.1;unfold vJ at f4;have b5:=fe.cs.lt i bo;have et:=ca.tr i bo;obtain⟨dh,ck⟩:=Ex et.1;have je:=g0.ty _ b5;obtain⟨cy,co⟩:=Ex je.1;refine zn7 ?_;refine wl (x9 (i:=i) U28 o6 rfl rfl bo rfl) (wl (qw U80 rfl rfl (an.range db gq) o6) ?_);refine qW (cs:=#[.int .i64 0,.slice none 0 0]) DX rfl (fun b31 w45 be bt hr=>?_);have:=ab.ob hr;have:=a3.ob hr;have:=a1.ob hr;have:=a2.ob hr;have:=a4.ob hr;have eg:=(nLT a5 hr)
  have es:=hB.ob hr;have bh:=an.ob hr;replace a9:=qj a9 bt;replace a5:=zV a5 bt;refine waI rfl ?_;refine zZ be rfl rfl o6 rfl qz (fun w46 hq br=>?_);replace a9:=qj a9 br;replace a5:=zV a5 br;replace be:=hq;refine zn3 ?_;rw[ck]at be;refine zn3 ?_;refine wl (x9 (i:=i) U59 qk rfl rfl bo rfl) (wl (qy (v:= .int _ _) U3 rfl rfl (a1.u.cell (Yk bo))) (zn8 ?_));refine wl (x9 (i:=(rep i)) JW j8 rfl rfl b5 rfl) (wl (qy (v:= .bool _) U4 rfl rfl (a4.u.cell (vW b5))) (zn3 ?_));refine y9 (rg [7,33,34,35] 221 31) (fun g w'=>∃(bf:Nat->Bool) (T2:Nat->Int),Bel w w'/\Bel wA w'/\Blk w' b3 25 #[.slice A l.length c,.slice B fs.length d]/\(∃ z,Blk w' b6 30 #[z])/\Blk w' bx 3 (RWj (VA gs gs.length).length rep)/\Blk w' dg 4 (row (VA gs gs.length).length (fun x=> .bool (bf x)))/\Blk w' bc 80 (kz (VA gs gs.length).length (fun x=> .int .i64 (T2 x)) V)/\(∀ x,x<(VA gs gs.length).length->RowO w' w.heap.size bs (V x) (rpL rep (L x)))/\bs<=w'.heap.size/\Blk w' b31 80 #[.int .i64 ((dh:Nat):Int),.slice LAi (nd (VA gs gs.length) i).ln.length lci]/\MJ l (VA gs gs.length) (PA gs ats) rep bf T2 L (i+1) i 0) ?_ (fun gx1 w47 hI=>?_)
  ·refine jQ rfl (fun fo=>?_) (fun fo=>?_)
   ·have hns:seen (rep i)=false:=by simpa using fo
    have i8:=g0.first hS.vt fe.cs bo et hns;refine zn4 ?_;refine wl (x9 (i:=(rep i)) JW j8 rfl rfl b5 rfl) ?_;replace a4:=(a4.tr0 bt).tr1 br oG;refine xQ (v:= .bool _) a4 rfl rfl j8 (by rw[row_size];omega) rfl kv (fun w48 hq d6=>?_);replace a9:=qj a9 d6;replace a5:=zV a5 d6;replace a4:=hq;rw[Ck (mk:=seen)]at a4;refine zn7 ?_;refine wl (x9 (i:=(rep i)) U28 o6 rfl rfl b5 rfl) (zn1 ?_);replace a2:=((a2.tr0 bt).tr1 br oG).tr1 d6 oG;refine xQ (v:= .int _ _) a2 rfl rfl qk (by rw[uq];show 0+rep i*2+0<(VA gs gs.length).length*2;omega) rfl VZ (fun w49 hq d5=>?_);replace a9:=qj a9 d5;replace a5:=zV a5 d5;replace a2:=hq;rw[oX (f':=fun x=> .int .i64 (if x=rep i then (nd (VA gs gs.length) i).ty else T x)) (h':=V) (fun x _=>by by_cases e:x=rep i<;>simp[e,ck]) (fun x _=>rfl)]at a2;refine zJ ?_;refine e_R ⟨agA,?_⟩;replace hB:=(((hB.tr0 bt).tr1 br es).tr1 d6 gf).tr1 d5 cj;replace ab:=(((ab.tr0 bt).tr1 br oG).tr1 d6 oG).tr1 d5 oG;replace a3:=(((a3.tr0 bt).tr1 br oG).tr1 d6 oG).tr1 d5 oG;replace an:=(((an.tr0 bt).tr1 br bh).tr1 d6 bv).tr1 d5 b7;replace a1:=(((a1.tr0 bt).tr1 br oG).tr1 d6 oG).tr1 d5 oG;replace be:=(be.tr1 d6 oG).tr1 d5 oG;replace a4:=a4.tr1 d5 oG
    first
     | exact⟨_,_,hB,an,ab,⟨_,a3⟩,a1,a4,a2,a9,a5,be,i8⟩
     | exact⟨_,_,hB,an,ab,⟨_,a3⟩,a1,a4,a2,a9,a5,be,i7⟩
   have hsn:seen (rep i)=true:=by simpa using fo
   refine xV ?_;replace a2:=(a2.tr0 bt).tr1 br oG;have jx:w46.cell? ⟨bc,0+rep i*2+0,none⟩=some (.int .i64 ((cy:Nat):Int)):=by rw[<- co];exact a2.cell (Xy b5)
   clear jx;refine uz [] [0,1,2,3,4,5,6,7,8,9,10,11,12,13,14,15,16] rfl (fun w50 cc=>?_);replace a9:=qj a9 cc;replace a5:=zV a5 cc;refine zn4 ?_;refine hl rfl (fun _=>x9 (i:=(rep i)) U28 o6 rfl rfl b5 rfl) (zn1 ?_);replace a2:=a2.tr0 cc;refine hl1 (v:= .int .i64 ((cy:Nat):Int)) rfl U3 rfl rfl (by rw[<- co];exact a2.cell (Xy b5)) (zn2 ?_);refine hcl (fun v wv=>∃ u:Bool,v= .tuple #[.int .i64 ((meet l cy dh).1:Nat),.bool (meet l cy dh).2.1,.bool u]) rfl kR (smeet_any A c l cy dh w50 (hT.mono hB.u) hS.vt hS.le oG oG) rfl (fun e' w2 hr=>?_) (fun v240 w51 cb l0=>?_)
   ·obtain⟨⟨u,rfl⟩,t37⟩:=hr;exact⟨_,rfl,sB t37,⟨_,rfl⟩⟩
   replace a9:=qj a9 cb;replace a5:=zV a5 cb;obtain⟨u9,ku⟩:=l0;subst ku;refine zn1 ?_;refine hl rfl (fun _=>vY (v:= .int _ _) rfl rfl) (hl rfl (fun _=>vY (v:= .bool _) rfl rfl) (hl rfl (fun _=>vY (v:= .bool _) rfl rfl) (vj ?_)));refine jQ rfl (fun fn=>?_) (fun fn=>?_)
   ·have hmf:(meet l cy dh).2.1=false:=by simpa using fn
    refine zn2 ?_;refine wl (gQ (vs:=#[]) (cs:=#[.slice none 0 0]) (by simp) kR) ?_;refine zZ a3.u rfl rfl zY rfl qz (fun w52 hq iw=>?_);replace a3:=((a3.tr0 bt).tr1 br oG).tr0 (cc.t cb);replace a9:=qj a9 iw;replace a5:=zV a5 iw;replace a3:=hq;refine zn5 ?_;refine e_RSr (zn6 ?_);refine QK (.inl rfl) rfl (zW U30 rfl rfl a3.range0 zY) rfl ?_;replace hB:=(((hB.tr0 bt).tr1 br es).tr0 (cc.t cb)).tr1 iw iz;exact⟨⟨none,[],0,false,rfl,fun w2 _=>ZX w2 none,.inr ⟨rfl,rfl,g0.fail hS fe.cs bo et hsn (by rw[co,ck,Int.toNat_natCast,Int.toNat_natCast];exact hmf)⟩⟩,hB⟩
   have hmt:(meet l cy dh).2.1=true:=by simpa using fn
   have i7:=g0.meet hS fe.cs bo hsn (m:=(meet l cy dh).1) (by rw[co,ck,Int.toNat_natCast,Int.toNat_natCast];exact hmt) (by rw[co,ck,Int.toNat_natCast,Int.toNat_natCast]);refine zn6 ?_;refine wl (x9 (i:=(rep i)) U28 o6 rfl rfl b5 rfl) (zn1 ?_);replace a2:=a2.tr0 cb;refine xQ (v:= .int _ _) a2 rfl rfl qk (by rw[uq];show 0+rep i*2+0<(VA gs gs.length).length*2;omega) rfl VZ (fun w53 hq d4=>?_);replace a9:=qj a9 d4;replace a5:=zV a5 d4;replace a2:=hq;rw[oX (f':=fun x=> .int .i64 (if x=rep i then ((meet l cy dh).1:Int)else T x)) (h':=V) (fun x _=>by by_cases e:x=rep i<;>simp[e]) (fun x _=>rfl)]at a2;refine zJ ?_;refine e_R ⟨agA,?_⟩;replace hB:=(((hB.tr0 bt).tr1 br es).tr0 (cc.t cb)).tr1 d4 cj;replace ab:=(((ab.tr0 bt).tr1 br oG).tr0 (cc.t cb)).tr1 d4 oG;replace a3:=(((a3.tr0 bt).tr1 br oG).tr0 (cc.t cb)).tr1 d4 oG;replace an:=(((an.tr0 bt).tr1 br bh).tr0 (cc.t cb)).tr1 d4 b7;replace a1:=(((a1.tr0 bt).tr1 br oG).tr0 (cc.t cb)).tr1 d4 oG;replace a4:=(((a4.tr0 bt).tr1 br oG).tr0 (cc.t cb)).tr1 d4 oG;replace be:=(be.tr0 (cc.t cb)).tr1 d4 oG
   first
    | exact⟨_,_,hB,an,ab,⟨_,a3⟩,a1,a4,a2,a9,a5,be,i8⟩
    | exact⟨_,_,hB,an,ab,⟨_,a3⟩,a1,a4,a2,a9,a5,be,i7⟩
  obtain⟨bf,T2,hB,an,ab,⟨z6,a3⟩,a1,a4,a2,a9,a5,be,kc⟩:=hI;refine yW ?_;refine qx (rg [37,38] 255 57) (fun m g w'=>∃(q:Nat) (L2:Nat->List (Int×Int)) (V2:Nat->Value),q<=(nd (VA gs gs.length) i).ln.length/\m=(nd (VA gs gs.length) i).ln.length-q/\g 255= .int .i64 q/\Bel w w'/\Bel wA w'/\Blk w' b3 25 #[.slice A l.length c,.slice B fs.length d]/\(∃ z,Blk w' b6 30 #[z])/\Blk w' bx 3 (RWj (VA gs gs.length).length rep)/\Blk w' dg 4 (row (VA gs gs.length).length (fun x=> .bool (bf x)))/\Blk w' bc 80 (kz (VA gs gs.length).length (fun x=> .int .i64 (T2 x)) V2)/\(∀ x,x<(VA gs gs.length).length->RowO w' w.heap.size w'.heap.size (V2 x) (rpL rep (L2 x)))/\MJ l (VA gs gs.length) (PA gs ats) rep bf T2 L2 (i+1) i q) ((nd (VA gs gs.length) i).ln.length) ?_ (fun m g67 w54 hI=>?_)
  ·exact⟨0,L,V,ag _,rfl,rfl,hB,an,ab,⟨_,a3⟩,a1,a4,a2,fun x hx=>(a9 x hx).up a5,kc⟩
  obtain⟨q,L2,V2,hqq,hmq,kg,hB,an,ab,⟨z6,a3⟩,a1,a4,a2,a9,cr⟩:=hI;obtain⟨bs,bj⟩:∃ b,b=w54.heap.size:=⟨_,rfl⟩
  rw[<- bj]at a9;have a5:bs<=w54.heap.size:=ay bj;refine zX 255 _ kg nu (zn6 ?_);refine zQ rfl (fun l1=>?_) (fun l1=>?_)
  ·have b9:q<(nd (VA gs gs.length) i).ln.length:=by omega
   obtain⟨lb1,iy,rfl,jo,f5⟩:=c6.at_ an b9;have ja:=ca.lr i bo _ (am b9);obtain⟨tx,jd⟩:=Ex ja.1;have cm:(((nd (VA gs gs.length) i).ln[q]'b9)).2.toNat=tx:=by omega
   have c5:tx<(VA gs gs.length).length:=by omega
   have fa:=WZ kb gs.length (ah _);have hLl:(L2 (rep i)).length<=nf:=by
     have h:=Jz (nf:=nf) (lo:=0) (cr.srt (rep i)) (fun z hz=>by
       obtain⟨u,hu,_,hm⟩:=cr.val _ z hz
       exact fa u hu z hm) (aM _) oG
     omega
   have hrl:=rpL_len rep (L2 (rep i));refine zn6 ?_;refine wl (x9 (i:=q) U78 uW rfl rfl b9 rfl) (wl (qw U83 rfl rfl f5 uW) ?_);refine qW (cs:=#[.int .i64 0,.int .i64 0]) K4 rfl (fun l9 w55 bk d3 hr=>?_);have:=ab.ob hr;have:=a3.ob hr;have:=a1.ob hr;have:=a2.ob hr;have:=a4.ob hr;have ef:=(nLT a5 hr)
   have j0:=hB.ob hr;have c3:=an.ob hr;replace a9:=qj a9 d3;replace a5:=zV a5 d3;refine zZ bk rfl rfl uW rfl qz (fun w56 hq d2=>?_);replace a9:=qj a9 d2;replace a5:=zV a5 d2;replace bk:=hq;refine zn3 ?_;rw[jd]at bk;refine zn2 ?_;refine wl (YQ (v0:= .slice _ _ _) (fun v0=>#[v0]) rfl kR) (zn3 ?_);refine qq kR (rtn_any (LK a2.u hn a9) b5) rfl (fun e' w57 hr=>?_);obtain⟨rfl,ce⟩:=hr;replace ce:=sB ce;replace a9:=qj a9 ce;replace a5:=zV a5 ce;refine⟨_,rfl,?_⟩;refine zn3 ?_;refine zQ rfl (fun ic=>?_) (fun ic=>?_)
   ·refine zn7 ?_;refine qx (rg [38] 266 24) (fun m g w'=>∃ kk:Nat,kk<=(L2 (rep i)).length/\m=(L2 (rep i)).length-kk/\g 38= .int .i64 kk/\Bel w w'/\Bel wA w'/\Blk w' b3 25 #[.slice A l.length c,.slice B fs.length d]/\(∃ z,Blk w' b6 30 #[z])/\Blk w' bx 3 (RWj (VA gs gs.length).length rep)/\Blk w' dg 4 (row (VA gs gs.length).length (fun x=> .bool (bf x)))/\Blk w' bc 80 (kz (VA gs gs.length).length (fun x=> .int .i64 (T2 x)) V2)/\(∀ x,x<(VA gs gs.length).length->RowO w' w.heap.size bs (V2 x) (rpL rep (L2 x)))/\bs<=w'.heap.size/\Blk w' l9 83 #[.int .i64 (((nd (VA gs gs.length) i).ln[q]'b9)).1,.int .i64 ((tx:Nat):Int)]/\(∀ u (hu:u<(L2 (rep i)).length),u<kk->((L2 (rep i))[u]).1<(((nd (VA gs gs.length) i).ln[q]'b9)).1)) ((L2 (rep i)).length) ?_ (fun m g71 iq hI=>?_)
    ·exact⟨0,ag _,rfl,rfl,hB.u,an.u,ab.u,⟨_,a3.u⟩,a1.u,a4.u,a2.u,a9,a5,bk.u,fun u hu h=>absurd h (aA _)⟩
    obtain⟨kk,jp,hmk,h38,hB,an,ab,⟨z6,a3⟩,a1,a4,a2,a9,a5,bk,hw⟩:=hI;obtain⟨AV,cV,i4,_,_⟩:=a9 (rep i) b5;refine zX 38 _ h38 nu (xV (xV ?_));refine y9 (rg [] 266 22) (fun g w'=>(g 287= .bool (decide (kk<(L2 (rep i)).length/\((L2 (rep i)).getD kk (0,0)).1<(((nd (VA gs gs.length) i).ln[q]'b9)).1)))/\Same [] iq w') ?_ (fun g71 ip hI=>?_)
    ·have hZ:SameQ [] iq iq:=Same.refl _ _;refine oZ kR kR (fun w60 ij=>?_);replace a9:=qj a9 ij;replace a5:=zV a5 ij;replace hZ:=SameQ.trans hZ ij (by simp);refine zn3 ?_;refine ws (x9 (i:=(rep i)) U28 o6 rfl rfl b5 rfl) (zn1 ?_);replace a2:=a2.tr0 ij;refine ws (qy (v:= .slice AV (rpL rep (L2 (rep i))).length cV) U78 rfl rfl (by have h:=a2.cell (ZQ b5);rw[i4]at h;exact h)) (zn3 ?_);refine kK 274 rfl (fun kr=>?_) (fun kr=>?_)
     ·refine yV 274 rfl rfl (xz (v:= .slice _ _ _) rfl) (yV 274 rfl rfl (xz (v:= .int _ _) rfl) (yV 274 rfl rfl (x9 (i:=(rep i)) U28 o6 rfl rfl b5 rfl) (yV 274 rfl rfl (u6 U80 BW dE rfl rfl rfl) (yV 274 rfl rfl (qy (v:= .slice AV (rpL rep (L2 (rep i))).length cV) U78 rfl rfl (by have h:=a2.cell (ZQ b5);rw[i4]at h;exact h)) (yV 274 rfl rfl (xz (v:= .int _ _) rfl) ?_)))));have hrk:=a9 (rep i) b5;rw[i4]at hrk;obtain⟨gV,hgV,hcV⟩:=rowo_at hrk (k:=kk) oG;subst hgV;refine yV 274 rfl rfl (x9 (i:=kk) U78 uW rfl rfl oG rfl) (yV 274 rfl rfl (u6 U83 qk dE rfl rfl rfl) (yV 274 rfl rfl (qy (v:= .int _ _) U3 rfl rfl hcV) (yV 274 rfl rfl (u6 U83 qk dE rfl rfl rfl) (yV 274 rfl rfl (qy (v:= .int _ _) U3 rfl rfl (bk.u.cell rfl)) (yV 274 rfl rfl (YZ rfl rfl) (zn1 ?_))))));refine ux ?_;refine e_R ⟨agA,?_⟩;refine⟨?_,hZ⟩;exact clA
     refine uw ?_;refine ux ?_;refine e_R ⟨agA,?_⟩;refine⟨?_,hZ⟩;exact clA
    obtain⟨kf,cd⟩:=hI;replace a9:=qj a9 cd;replace a5:=zV a5 cd;refine jj 287 _ kf nu (e_S ?_);refine zQ rfl (fun fm=>?_) (fun fm=>?_)
    ·refine zn5 ?_;refine wl (Z4 (c:=((kk+1:Nat):Int)) rfl rfl oG oG) (zn3 ?_);refine x8 ((L2 (rep i)).length-(kk+1)) oG agA ?_;exact⟨kk+1,by omega,rfl,rfl,hB.u,an.u,ab.u,⟨_,a3.u⟩,a1.u,a4.u,a2.u,a9,a5,bk.u,low_get hw fm⟩
    have i0:=low_end fm;obtain⟨zz,hzz⟩:∃ z,z=ip.heap.size:=⟨_,rfl⟩
    refine zn5 ?_;replace hB:=hB.tr0 cd;have gi:=Bel.size hB;refine c_monoZO 21 (rg [] 290 21) 18 (fun bz ix v la ha wv=>match ix with|0=>v= .slice (some ⟨bc,0,none⟩) (VA gs gs.length).length (VA gs gs.length).length|1=>v= .int .i64 ((rep i:Nat):Int)|2=>v= .slice (some ⟨bc,0,none⟩) (VA gs gs.length).length (VA gs gs.length).length|3=>v= .int .i64 ((rep i:Nat):Int)|4=>v= .pointer (some ⟨bc,0+rep i*2,none⟩)|5=>v= .pointer (some ⟨bc,0+rep i*2+1,none⟩)|6=>v= .slice AV (rpL rep (L2 (rep i))).length cV|7=>(bz=false->(∃(AC:Option Addr) (cC:Nat),v= .slice AC (rpL rep (L2 (rep i))).length cC/\Own wv w.heap.size 83 2 AC (rpL rep (L2 (rep i))).length cC (lnV (rpL rep (L2 (rep i))))/\(∀ g∈aL AC,ip.heap.size<=g)/\∀ g∈aL AC,la<=g/\g<ha))|8=>v= .int .i64 ((kk:Nat):Int)|9=>v= .pointer (some ⟨l9,0,none⟩)|10=>v= .int .i64 (((nd (VA gs gs.length) i).ln[q]'b9)).1|11=>v= .slice (some ⟨bx,0,none⟩) (VA gs gs.length).length (VA gs gs.length).length|12=>v= .pointer (some ⟨l9,1,none⟩)|13=>v= .int .i64 ((tx:Nat):Int)|14=>v= .pointer (some ⟨bx,0+tx*1,none⟩)|15=>v= .int .i64 ((rep tx:Nat):Int)|16=>v= .agg #[.int .i64 (((nd (VA gs gs.length) i).ln[q]'b9)).1,.int .i64 ((rep tx:Nat):Int)]|17=>(bz=false->(∃ b:Nat,v= .slice (some ⟨b,0,none⟩) 1 1/\Blk wv b 83 #[.int .i64 (((nd (VA gs gs.length) i).ln[q]'b9)).1,.int .i64 ((rep tx:Nat):Int)]/\la<=b/\b<ha))|18=>∃(A4:Option Addr) (c4:Nat),v= .slice A4 ((rpL rep (L2 (rep i))).length+1) c4/\Own wv w.heap.size 83 2 A4 ((rpL rep (L2 (rep i))).length+1) c4 (lnV (V9 (rpL rep (L2 (rep i))) kk ((((nd (VA gs gs.length) i).ln[q]'b9)).1,((rep tx:Nat):Int))))|19=>v= .pointer (some ⟨bc,0+rep i*2,none⟩)|20=>v= .pointer (some ⟨bc,0+rep i*2+1,none⟩)|_=>True) kR kR ?_ ?_ ?_ dE ?_
    ·intro bz ix v la ha wv wv2 h t45
     match ix,h with
     | 0,h=>exact h
     | 1,h=>exact h
     | 2,h=>exact h
     | 3,h=>exact h
     | 4,h=>exact h
     | 5,h=>exact h
     | 6,h=>exact h
     | 7,h=>
      intro a5;obtain⟨AC,cC,fj,ey,j2,jt⟩:=(show (bz=false->(∃(AC:Option Addr) (cC:Nat),v= .slice AC (rpL rep (L2 (rep i))).length cC/\Own wv w.heap.size 83 2 AC (rpL rep (L2 (rep i))).length cC (lnV (rpL rep (L2 (rep i))))/\(∀ g∈aL AC,ip.heap.size<=g)/\∀ g∈aL AC,la<=g/\g<ha))from h) a5;exact⟨AC,cC,fj,ey.tr0 t45,j2,jt⟩
     | 8,h=>exact h
     | 9,h=>exact h
     | 10,h=>exact h
     | 11,h=>exact h
     | 12,h=>exact h
     | 13,h=>exact h
     | 14,h=>exact h
     | 15,h=>exact h
     | 16,h=>exact h
     | 17,h=>
      intro a5;obtain⟨fq,fi,bq,dp⟩:=(show (bz=false->(∃ b:Nat,v= .slice (some ⟨b,0,none⟩) 1 1/\Blk wv b 83 #[.int .i64 (((nd (VA gs gs.length) i).ln[q]'b9)).1,.int .i64 ((rep tx:Nat):Int)]/\la<=b/\b<ha))from h) a5;exact⟨fq,fi,bq.tr0 t45,dp⟩
     | 18,h=>
      obtain⟨A4,c4,fh,hh⟩:=h;exact⟨A4,c4,fh,hh.tr0 t45⟩
     | 19,h=>exact h
     | 20,h=>exact h
     | _+21,h=>exact trivial
    ·intro bz ix o jr f3 b4 gg wx la ha iv hd;replace bk:=bk.tr0 cd
     match ix,jr,f3,b4 with
     | 0,_,_,b4=>
      cases sI b4;refine qZ (xz (v:= .slice _ _ _) rfl) ⟨Same.refl _ _,?_⟩;exact rfl
     | 1,_,_,b4=>
      cases sI b4;refine qZ (xz (v:= .int _ _) rfl) ⟨Same.refl _ _,?_⟩;exact rfl
     | 2,_,_,b4=>
      cases sI b4;refine qZ (xz (v:= .slice _ _ _) rfl) ⟨Same.refl _ _,?_⟩;exact rfl
     | 3,_,_,b4=>
      cases sI b4;refine qZ (xz (v:= .int _ _) rfl) ⟨Same.refl _ _,?_⟩;exact rfl
     | 4,_,_,b4=>
      cases sI b4;refine a7 292 (hd 2 a8) (a7 293 (hd 3 a8) ?_);refine qZ (x9 (i:=(rep i)) U28 o6 rfl rfl b5 rfl) ⟨Same.refl _ _,?_⟩;exact rfl
     | 5,_,_,b4=>
      cases sI b4;refine a7 294 (hd 4 a8) ?_;refine qZ (u6 U80 BW dE rfl rfl rfl) ⟨Same.refl _ _,?_⟩;exact rfl
     | 6,_,_,b4=>
      cases sI b4;refine a7 295 (hd 5 a8) ?_;replace a2:=a2.tr0 (cd.t iv);refine qZ (qy (v:= .slice AV (rpL rep (L2 (rep i))).length cV) U78 rfl rfl (by have h:=a2.cell (ZQ b5);rw[i4]at h;exact h)) ⟨Same.refl _ _,?_⟩;exact rfl
     | 7,_,_,b4=>
      cases sI b4;have gn:=iv;replace a9:=qj a9 iv;have jg:=nLT gi gn.size;refine a7 296 (hd 6 a8) ?_;refine vZ kR (clonel_any AV cV (rpL rep (L2 (rep i))) wx (by have h:=a9 (rep i) b5;rw[i4]at h;exact h.links.2) oG) rfl (fun e' w2 hr=>?_);obtain⟨⟨AC,cC,rfl,ey⟩,t47⟩:=hr;exact⟨_,rfl,sB t47,(fun _=>⟨_,_,rfl,ey.low jg,fun g hg=>nLT gn.size (ey.lt g hg).1,fun g hg=>ey.lt g hg⟩)⟩
     | 8,_,_,b4=>
      cases sI b4;refine qZ (xz (v:= .int _ _) rfl) ⟨Same.refl _ _,?_⟩;exact rfl
     | 9,_,_,b4=>
      cases sI b4;refine qZ (u6 U83 qk dE rfl rfl rfl) ⟨Same.refl _ _,?_⟩;exact rfl
     | 10,_,_,b4=>
      cases sI b4;refine a7 299 (hd 9 a8) ?_;refine qZ (qy (v:= .int _ _) U3 rfl rfl (bk.u.cell rfl)) ⟨Same.refl _ _,?_⟩;exact rfl
     | 11,_,_,b4=>
      cases sI b4;refine qZ (xz (v:= .slice _ _ _) rfl) ⟨Same.refl _ _,?_⟩;exact rfl
     | 12,_,_,b4=>
      cases sI b4;refine qZ (u6 U83 qk dE rfl rfl rfl) ⟨Same.refl _ _,?_⟩;exact rfl
     | 13,_,_,b4=>
      cases sI b4;refine a7 302 (hd 12 a8) ?_;refine qZ (qy (v:= .int _ _) U3 rfl rfl (bk.u.cell rfl)) ⟨Same.refl _ _,?_⟩;exact rfl
     | 14,_,_,b4=>
      cases sI b4;refine a7 301 (hd 11 a8) (a7 303 (hd 13 a8) ?_);refine qZ (x9 (i:=tx) U59 qk rfl rfl c5 rfl) ⟨Same.refl _ _,?_⟩;exact rfl
     | 15,_,_,b4=>
      cases sI b4;refine a7 304 (hd 14 a8) ?_;refine qZ (qy (v:= .int _ _) U3 rfl rfl (a1.u.cell (Yk c5))) ⟨Same.refl _ _,?_⟩;exact rfl
     | 16,_,_,b4=>
      cases sI b4;refine a7 300 (hd 10 a8) (a7 305 (hd 15 a8) ?_);refine qZ (vw (v0:= .int _ _) (v1:= .int _ _) (fun v0 v1=>#[v0,v1]) rfl rfl kR) ⟨Same.refl _ _,?_⟩;exact rfl
     | 17,_,_,b4=>
      cases sI b4;refine a7 306 (hd 16 a8) ?_;refine jK (fun ops Q K=>?_);refine qV (cs:=#[_,_]) [(0,.agg _)] rfl U78 uW K4 dE dE kR rfl (fun fq w61 bq t48 hr=>?_);exact K _ _ ⟨t48,(fun _=>⟨_,rfl,bq,hr,bq.lt⟩)⟩
     | 18,_,f3,_=>exact absurd rfl f3
     | 19,_,_,b4=>
      cases sI b4;refine a7 290 (hd 0 a8) (a7 291 (hd 1 a8) ?_);refine qZ (x9 (i:=(rep i)) U28 o6 rfl rfl b5 rfl) ⟨Same.refl _ _,?_⟩;exact rfl
     | 20,_,_,b4=>
      cases sI b4;refine a7 309 (hd 19 a8) ?_;refine qZ (u6 U80 BW dE rfl rfl rfl) ⟨Same.refl _ _,?_⟩;exact rfl
     | _+21,jr,_,_=>exact absurd jr oG
    ·intro o b4 gg wx la ha iu hd hI;cases sI b4;have gn:=iu;replace a9:=qj a9 iu;replace a5:=zV a5 iu;obtain⟨AC,cC,fj,ey,j2,jt⟩:=(hd 7 (zk kR)) rfl;obtain⟨fq,fi,bq,dp⟩:=(hd 17 (zk kR)) rfl;refine zq 297 _ fj nu (a7 298 (hd 8 a8) (zq 307 _ fi nu ?_));refine vZ kR (insl_any (k:=kk) (x:=((((nd (VA gs gs.length) i).ln[q]'b9)).1,((rep tx:Nat):Int))) wx ey bq (fun g hg e=>by have h1:=jt g hg;have h2:=hI 7 17 (zk kR) (zk kR) dE;omega) oG oG (nLT gi gn.size)) rfl (fun e' w2 hr=>?_);obtain⟨A4,c4,rfl,hh,cp,_⟩:=hr;refine⟨_,rfl,gn.freshL cp (fun g hg=> .inr (j2 g hg)),cp.size,⟨_,_,rfl,hh⟩,fun kx v la ha f3 h=>?_⟩
     match kx,f3,h with
     | 0,_,h=>exact h
     | 1,_,h=>exact h
     | 2,_,h=>exact h
     | 3,_,h=>exact h
     | 4,_,h=>exact h
     | 5,_,h=>exact h
     | 6,_,h=>exact h
     | 7,_,_=>exact fun h=>nomatch h
     | 8,_,h=>exact h
     | 9,_,h=>exact h
     | 10,_,h=>exact h
     | 11,_,h=>exact h
     | 12,_,h=>exact h
     | 13,_,h=>exact h
     | 14,_,h=>exact h
     | 15,_,h=>exact h
     | 16,_,h=>exact h
     | 17,_,_=>exact fun h=>nomatch h
     | 18,f3,_=>exact absurd rfl f3
     | 19,_,h=>exact h
     | 20,_,h=>exact h
     | _+21,_,_=>exact trivial
    intro gg ii la ha cz hR;replace a9:=qj a9 cz;replace a5:=zV a5 cz;obtain⟨A4,c4,fh,hh⟩:=hR 18 dE;obtain⟨s4,hs4⟩:∃ s,s=ii.heap.size:=⟨_,rfl⟩
    have j3:s4<=ii.heap.size:=ay hs4;obtain⟨V3,hV3⟩:∃ V3:Nat->Value,V3=fun x=>if x=rep i then .slice A4 ((rpL rep (L2 (rep i))).length+1) c4 else V2 x:=⟨_,rfl⟩
    have i6:=cr.new bo b9 ic jp hw i0;have ew:RowO ii w.heap.size s4 (.slice A4 ((rpL rep (L2 (rep i))).length+1) c4) (rpL rep (V9 (L2 (rep i)) kk (((nd (VA gs gs.length) i).ln[q]'b9)))):=by
      rw[rpL_ins,cm];have h:=RowO.of (lo:=w.heap.size) (xs:=V9 (rpL rep (L2 (rep i))) kk ((((nd (VA gs gs.length) i).ln[q]'b9)).1,((rep tx:Nat):Int))) (ah _) (A:=A4) (cap:=c4) (w:=ii) (by rw[Gx];exact hh);rw[Gx,<- hs4]at h;exact h
    refine xj 308 _ fh nu (xj 310 _ (hR 20 dE) nu ?_);replace a2:=a2.tr0 (cd.t cz);refine xQ (v:= .slice _ _ _) a2 rfl rfl BW (by rw[uq];show 0+rep i*2+1<(VA gs gs.length).length*2;omega) rfl M1 (fun w63 hq cw=>?_);replace a9:=qj a9 cw;replace a5:=zV a5 cw;replace ew:=ew.tr cw (fun g hg=>by rw[List.mem_singleton.1 hg];exact .inr ⟨_,_,a2,by decide⟩);replace j3:=zV j3 cw;replace a2:=hq;rw[<- hV3]at a2;have gp:(∀ x,x<(VA gs gs.length).length->RowO w63 w.heap.size w63.heap.size (V3 x) (rpL rep ((fun x=>if x=rep i then V9 (L2 (rep i)) kk (((nd (VA gs gs.length) i).ln[q]'b9))else L2 x) x))):=fun x hx=>by
      rw[hV3];by_cases e:x=rep i
      · subst e
        simp only[if_true];exact ew.up j3
      · simp only[if_neg e]
        exact(a9 x hx).up a5
    refine zn7 ?_;refine x8 ((nd (VA gs gs.length) i).ln.length-(q+1)) oG agA ?_;replace ab:=(ab.tr0 (cd.t cz)).tr1 cw oG;replace a3:=(a3.tr0 (cd.t cz)).tr1 cw oG;replace an:=(an.tr0 (cd.t cz)).tr1 cw b7;replace a1:=(a1.tr0 (cd.t cz)).tr1 cw oG;replace a4:=(a4.tr0 (cd.t cz)).tr1 cw oG;replace hB:=(hB.tr0 cz).tr1 cw cj
    first
     | exact⟨q+1,_,V3,by omega,rfl,rfl,hB,an,ab,⟨_,a3⟩,a1,a4,a2,gp,i6⟩
     | exact⟨q+1,L2,V2,by omega,rfl,rfl,hB,an,ab,⟨_,a3⟩,a1,a4,a2,fun x hx=>(a9 x hx).up a5,i5⟩
   have i5:=cr.old b9 oG;refine zn7 ?_;refine x8 ((nd (VA gs gs.length) i).ln.length-(q+1)) oG agA ?_;replace hB:=((hB.tr0 d3).tr1 d2 j0).tr0 ce;replace ab:=((ab.tr0 d3).tr1 d2 oG).tr0 ce;replace a3:=((a3.tr0 d3).tr1 d2 oG).tr0 ce;replace an:=((an.tr0 d3).tr1 d2 c3).tr0 ce;replace a1:=((a1.tr0 d3).tr1 d2 oG).tr0 ce;replace a2:=((a2.tr0 d3).tr1 d2 oG).tr0 ce;replace a4:=((a4.tr0 d3).tr1 d2 oG).tr0 ce
   first
    | exact⟨q+1,_,V3,by omega,rfl,rfl,hB,an,ab,⟨_,a3⟩,a1,a4,a2,gp,i6⟩
    | exact⟨q+1,L2,V2,by omega,rfl,rfl,hB,an,ab,⟨_,a3⟩,a1,a4,a2,fun x hx=>(a9 x hx).up a5,i5⟩
  have jh:q=(nd (VA gs gs.length) i).ln.length:=by omega
  subst jh;refine yW ?_;refine x8 ((VA gs gs.length).length-(i+1)) oG agA ?_;exact⟨i+1,bf,T2,L2,V2,by omega,rfl,rfl,hB,an,ab,⟨_,a3⟩,a1,a4,a2,fun x hx=>(a9 x hx).up a5,cr.next⟩
 have js:i=(VA gs gs.length).length:=by omega
 subst js
 have hus:=MJ.us fe g0 ca.lr (fun p hpm=>by
   obtain⟨k,hk,rfl⟩:=av.1 hpm;have hk2:=aw.1 hk;have h1:=i3 k hk2;have h2:=VA_le (gs:=gs) (gs.length-1) (k:=1) oG;rw[show 1+(gs.length-1)=gs.length by omega,Xv hp,DZ,List.nil_append,List.length_map]at h2;have h3:=VA_lt il (show k+1<gs.length by omega);have e1:ats.getD k 0=ats[k]:=by simp[List.getD,hk2]
   simp only[e1]
   omega)
 have hNG:NodesIn g5 (some ⟨bc,0,none⟩) (yw (VA gs gs.length).length rep T L):=by
   rw[<- mg_pool fe.cs.id g0];exact LK a2 hn a9
 have hrl:=fe.cs.lt 0 fv;have fa:=WZ kb gs.length (ah _);have hGK:=Tx (nf:=nf) hus fv hn fa;refine zn8 ?_;refine wl (YQ (v0:= .slice _ _ _) (fun v0=>#[v0]) rfl kR) (wmS rfl (wl (x9 (i:=0) U59 qk rfl rfl fv rfl) (wl (qy (v:= .int _ _) U3 rfl rfl (a1.cell (Yk fv))) ?_)));have z6:=a3.lt;have jf:=Bel.size hB;refine qq kR (rfromn_any (some ⟨bc,0,none⟩) (VA gs gs.length).length nf (yw (VA gs gs.length).length rep T L) (rep 0) (VA gs gs.length).length _ hNG (j5 _ _ _ _) hGK hnf (by rw[j5];exact hrl)) rfl (fun e' ih hr=>?_);obtain⟨⟨o,AN,cn,hD,hok,rfl,hN⟩,t52⟩:=hr;replace t52:=sB t52;have ia:FrSame (g5).heap.size ih ih:=FrSame.refl _ _;obtain⟨Z0,hZ0⟩:∃ z,z=(g5).heap.size:=⟨_,rfl⟩
 rw[<- hZ0]at hN ia z6;obtain⟨wZ,hwZ⟩:∃ z,z=ih:=⟨_,rfl⟩
 have hz0:w.heap.size<=Z0:=by rw[hZ0];exact jf
 replace ia:FrSame Z0 wZ ih:=by rw[hwZ];exact FrSame.refl _ _
 rw[<- hwZ]at hN;refine⟨_,rfl,?_⟩;refine zZ a3.u rfl rfl zY rfl qz (fun w65 hq t53=>?_);replace ia:=ia.of t53 (fun g hg=>by rw[List.mem_singleton.1 hg];omega);replace a3:=hq;refine zn4 ?_;refine QK (.inl rfl) rfl (zW U30 rfl rfl a3.range0 zY) rfl ?_;have k7:(yK (yw (VA gs gs.length).length rep T L) o).length=o.length:=uY _ _;exact⟨⟨AN,_,cn,true,ret_join k7,fun w2 hf=>hN w2 (ia.then hf hz0),.inl ⟨rfl,rep,rep,_,T,L,o,hus,hD,rfl⟩⟩,hB.u⟩
end Go.Proofs.YtgcgnkmmbecfmaaGreatDoor
