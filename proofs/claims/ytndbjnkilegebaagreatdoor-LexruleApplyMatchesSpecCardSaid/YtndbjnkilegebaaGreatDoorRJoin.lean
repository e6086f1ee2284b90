/- What these functions of the program compute, at every world: glosswright/glosswrightref3.Joined. -/
import Derived.Test.YtndbjnkilegebaaGreatDoorU
import Derived.Test.YtndbjnkilegebaaGreatDoorZst
import Derived.Test.YtndbjnkilegebaaGreatDoorRMeet
import Derived.Test.YtndbjnkilegebaaGreatDoorWRc
import Derived.Test.YtndbjnkilegebaaGreatDoorLAq
import Derived.Test.YtndbjnkilegebaaGreatDoorGCan
import Derived.Test.YtndbjnkilegebaaGreatDoorOrd
namespace Go.Proofs.YtndbjnkilegebaaGreatDoor
open Go.RowKit
open Go.Proofs.Tryz
variable {A:Option Addr}{D:List Nd}{L:List (Int×Int)}{T:Nat->Int}{V:Nat->Value}{bs c i k lo n:Nat}{rep:Nat->Nat}{w:World}
def VA(gs:List (List Nd))(k:Nat):List Nd:=(gs.take k).foldl DQ []
theorem Cq(gs:List (List Nd)):VA gs 0= []:=rfl
theorem XX{gs:List (List Nd)}(hk:k<gs.length):VA gs (k+1)=VA gs k++(gs[k]).map (shN (VA gs k).length):=by
 unfold VA;rw[List.take_succ_eq_append_getElem hk,List.foldl_append];rfl
theorem VA_le{gs:List (List Nd)}:∀(d:Nat) {k:Nat},k+d<=gs.length->(VA gs k).length<=(VA gs (k+d)).length
 | 0,_,_=>ai _
 | d+1,k,h=>by
  have:=VA_le (gs:=gs) d (k:=k) oG
  rw[show k+(d+1)=(k+d)+1 by omega,XX oG,List.length_append];omega
theorem VA_lt{gs:List (List Nd)}(hp:∀ i (hi:i<gs.length),0<(gs[i]).length)(hk:k<gs.length):(VA gs k).length<(VA gs gs.length).length:=by
 have h:=VA_le (gs:=gs) (gs.length-(k+1)) (k:=k+1) oG;rw[show k+1+(gs.length-(k+1))=gs.length by omega]at h;have h2:(VA gs (k+1)).length=(VA gs k).length+(gs[k]).length:=by rw[XX hk,List.length_append,List.length_map]
 have:=hp k hk;omega
theorem VA_gy{l:List Ty}{gs:List (List Nd)}(h:∀ i (hi:i<gs.length),GY l gs[i]):∀ k,k<gs.length->GY l (VA gs (k+1))
 | 0,hk=>by
  rw[XX hk,Cq,List.nil_append,List.length_nil,shN_zero]
  exact h 0 hk
 | k+1,hk=>by
  rw[XX hk]
  exact add_gy (VA_gy h k oG) (h (k+1) hk)
theorem L7{nf:Nat}{gs:List (List Nd)}(h:∀ i (hi:i<gs.length),∀ j,j<(gs[i]).length->∀ z∈(nd (gs[i]) j).ln,0<=z.1/\z.1<nf):∀ k,k<=gs.length->∀ i,i<(VA gs k).length->∀ z∈(nd (VA gs k) i).ln,0<=z.1/\z.1<nf
 | 0,_=>fun i hi=>by rw[Cq]at hi;exact absurd hi (aB _)
 | k+1,hk=>by
  rw[XX oG]
  exact LX (L7 h k oG) (h k oG)
def PA(gs:List (List Nd))(ats:List Nat):List (Nat×Nat):=(List.range ats.length).map (fun k=>(ats.getD k 0,(VA gs (k+1)).length))
theorem PA_len(gs:List (List Nd))(ats:List Nat):(PA gs ats).length=ats.length:=by simp[PA]
theorem PA_get{gs:List (List Nd)}{ats:List Nat}(hk:k<ats.length):(PA gs ats)[k]'(by rw[PA_len];exact hk)=(ats[k],(VA gs (k+1)).length):=by simp[PA,List.getD,hk]
def stV(gs:List (List Nd))(k:Nat):List Value:=(List.range k).map (fun i=>Value.int .i64 (((VA gs i).length:Nat):Int))
theorem stV_succ(gs:List (List Nd))(k:Nat):stV gs k++[Value.int .i64 (((VA gs k).length:Nat):Int)]=stV gs (k+1):=by simp[stV,List.range_succ]
theorem st_get{base g cap:Nat}{gs:List (List Nd)}(h:Own w base 3 1 (some ⟨g,0,none⟩) k cap (stV gs k))(hi:i<k):w.cell? ⟨g,0+i*1,none⟩=some (.int .i64 (((VA gs i).length:Nat):Int)):=by
 have h1:(stV gs k)[i]? =some (.int .i64 (((VA gs i).length:Nat):Int)):=by simp[stV,hi]
 obtain⟨q,e,_,_,h2⟩:=h.cell (fun e=>by rw[e]at h1;cases h1);cases e;have:=h2 i _ h1
 simpa using this
def tyV(D:List Nd)(x:Nat):Value:= .int .i64 (nd D x).ty
theorem nd_last(D:List Nd)(y:Nd):nd (D++[y]) D.length=y:=by simp[nd,List.getD]
theorem nl_snoc{base cap:Nat}{y:Nd}{v:Value}(h:Own w base 87 2 A (D.length+1) cap (ndV (tyV D) V D.length++[.int .i64 y.ty,v])):Own w base 87 2 A (D++[y]).length cap (ndV (tyV (D++[y])) (J2 V D.length v) (D++[y]).length):=by
 have hl:(D++[y]).length=D.length+1:=by simp
 rw[hl,X4,gW (f':=tyV D) (h':=V) (fun x hx=>by unfold tyV;rw[Zx hx]) (fun x hx=>by unfold J2;rw[if_neg oG])];have e1:tyV (D++[y]) D.length= .int .i64 y.ty:=by unfold tyV;rw[nd_last]
 have e2:J2 V D.length v D.length=v:=by simp[J2]
 rw[e1,e2];exact h
theorem rows_snoc{bs2:Nat}{y:Nd}{v:Value}(h:∀ x,x<D.length->RowO w lo bs (V x) (nd D x).ln)(hv:RowO w lo bs2 v y.ln)(hb:bs<=w.heap.size)(hb2:bs2<=w.heap.size):∀ x,x<(D++[y]).length->RowO w lo w.heap.size (J2 V D.length v x) (nd (D++[y]) x).ln:=fun x hx=>by
 by_cases e:x=D.length
 ·subst e
  simp only[J2,if_true]
  rw[nd_last];exact hv.up hb2
 ·have hl:x<D.length:=by simp at hx;omega
  simp only[J2,if_neg e]
  rw[Zx hl];exact(h x hl).up hb
theorem app_take{g:List Nd}{s j:Nat}(hj:j<g.length):D++(g.take (j+1)).map (shN s)=(D++(g.take j).map (shN s))++[shN s g[j]]:=by
 rw[List.take_succ_eq_append_getElem hj,List.map_append,List.append_assoc];rfl
theorem shL_take{xs:List (Int×Int)}{q:Nat}(hq:q<xs.length):lnV (shL n (xs.take q))++[.int .i64 (xs[q]).1,.int .i64 ((xs[q]).2+(n:Int))]=lnV (shL n (xs.take (q+1))):=by
 rw[List.take_succ_eq_append_getElem hq];unfold shL;rw[List.map_append,List.map_cons,List.map_nil,<- O3]
def RWj(n:Nat)(rep:Nat->Nat):Array Value:=row n (fun x=> .int .i64 ((rep x:Nat):Int))
theorem YW(hi:i<n):(RWj n rep)[0+i*1]? =some (.int .i64 ((rep i:Nat):Int)):=j5 hi
def chJ(b:Bool):Nat:=bif b then 1 else 0
theorem jp_meas{l:List Ty}{U:List Nd}{J:List (Nat×Nat)}{r0:Nat->Nat}{j:Nat}{ch:Bool}(h:JP l U J k r0 rep ch i j):2*roots U.length rep+chJ ch<2*roots U.length r0+chJ true:=by
 have h1:=h.le;cases ch with
 | true=>have:=h.less rfl;simp only[chJ,cond_true];omega
 | false=>simp only[chJ,cond_true,cond_false];omega
def mgG(n:Nat)(rep:Nat->Nat)(T:Nat->Int)(L:Nat->List (Int×Int)):List Nd:=(List.range n).map (fun i=>⟨T i,rpL rep (L i)⟩)
theorem Mz(n:Nat)(rep:Nat->Nat)(T:Nat->Int)(L:Nat->List (Int×Int)):(mgG n rep T L).length=n:=by simp[mgG]
theorem H5{L:Nat->List (Int×Int)}(hi:i<n):(mgG n rep T L)[i]'(by rw[Mz];exact hi)=⟨T i,rpL rep (L i)⟩:=by simp[mgG]
theorem mg_nodes{b:Nat}{L:Nat->List (Int×Int)}(hb:Blk w b 87 (kz n (fun x=> .int .i64 (T x)) V))(hn:n<=1000000)(hr:∀ x,x<n->RowO w lo bs (V x) (rpL rep (L x))):NodesIn w (some ⟨b,0,none⟩) (mgG n rep T L):=
 nodes_row2 hb (Mz _ _ _ _) (by unfold vX;omega) (fun k hk=>by
  have a1:k<n:=by rw[Mz]at hk;exact hk
  rw[H5 a1]) (fun k hk=>by
  have a1:k<n:=by rw[Mz]at hk;exact hk
  rw[H5 a1];exact hr k a1)
theorem mg_pool{l:List Ty}{U:List Nd}{J:List (Nat×Nat)}{seen:Nat->Bool}{L:Nat->List (Int×Int)}{it il q:Nat}(hc:∀ i,i<U.length->rep (rep i)=rep i)(h:MJ l U J rep seen T L it il q):mgG U.length rep T L=yx U.length rep T L:=by
 unfold mgG yx;refine aS (fun i _=>?_);by_cases e:rep i=i
 ·rw[if_pos e];rfl
 ·have hL:L i= []:=by
   refine List.eq_nil_iff_forall_not_mem.2 (fun x hx=>?_);obtain⟨u,hu,hr,_⟩:=h.val i x hx;have:=hc u hu;rw[hr]at this;exact e this
  rw[if_neg e,hL];rfl
theorem rtn_any{b:Nat}{f:Int}{L:Nat->List (Int×Int)}(hG:NodesIn w (some ⟨b,0,none⟩) (mgG n rep T L))(hi:i<n):Calls prog 36 #[.agg #[.slice (some ⟨b,0,none⟩) n c],.int .i64 i,.int .i64 f] w fun e w'=>e= .returned (.int .i64 (tgt (rpL rep (L i)) f))/\Bel w w':=by
 have h:=V0 (some ⟨b,0,none⟩) c (mgG n rep T L) i f w hG (by rw[Mz];exact hi);rw[H5 hi,Mz]at h;exact h
theorem rfromn_any(G:Option Addr)(cg nf:Nat)(gr:List Nd)(r n:Nat)(w:World)(hG:NodesIn w G gr)(hn:gr.length=n)(hk:Nj nf gr)(hnf:nf<=1000)(hr:r<gr.length):Calls prog 40 #[.agg #[.slice G n cg],.int .i64 r] w fun e w'=>(∃ o A c,DL gr [r] [] o/\OOk gr.length o/\e= .returned (.agg #[.slice A o.length c])/\(∀ w2,FrSame w.heap.size w' w2->NodesIn w2 A (yq gr o)))/\Bel w w':=by
 subst hn;exact BQ G cg nf gr r w hG hk hnf hr
theorem rowo_at(h:RowO w lo bs (.slice A n c) (rpL rep L))(hk:k<L.length):∃ g,A=some ⟨g,0,none⟩/\w.cell? ⟨g,0+k*2+0,none⟩=some (.int .i64 (L.getD k (0,0)).1):=by
 obtain⟨_,ho,_⟩:=h.own;have hk2:k<(rpL rep L).length:=by rw[rpL_len];exact hk
 have h1:=(V9 (rpL rep L) k hk2).1;obtain⟨g,e,_,_,hc⟩:=ho.cell (fun e=>by rw[e]at h1;cases h1);refine⟨g,e,?_⟩;have h2:=hc _ _ h1;have e1:((rpL rep L)[k]).1=(L.getD k (0,0)).1:=by simp[rpL,List.getD,hk]
 rw[e1]at h2
 simpa using h2
theorem O6{x:Int}(h:0<=x):∃ n:Nat,x=(n:Int):=⟨x.toNat,by omega⟩
theorem low_get{z:Int}(h:∀ u (hu:u<L.length),u<k->(L[u]).1<z)(hk:k<L.length/\(L.getD k (0,0)).1<z):∀ u (hu:u<L.length),u<k+1->(L[u]).1<z:=fun u hu hk1=>by
 by_cases e:u=k
 ·subst e;have:=hk.2;simpa[List.getD,hu]using this
 ·exact h u hu oG
theorem low_end{z:Int}(h:¬(k<L.length/\(L.getD k (0,0)).1<z)):∀ hk:k<L.length,¬(L[k]).1<z:=fun hk h2=>h ⟨hk,by simpa[List.getD,hk]using h2⟩
theorem ret_join{X:List Nd}(h:X.length=n):Ending.returned (.tuple #[.agg #[.slice A n c],.bool true])= .returned (.tuple #[.agg #[.slice A X.length c],.bool true]):=by rw[h]
theorem ro_nil(w:World)(lo bs:Nat):RowO w lo bs (.slice none 0 0) []:=⟨none,0,rfl,Own.nil _ _ _ _,fun g hg=>by cases hg⟩
set_option maxRecDepth 100000 in
set_option maxHeartbeats 16000000 in
theorem joined_any(A B LA AT:Option Addr)(c d lc ac nf:Nat)(l:List Ty)(fs:List Ft)(gs:List (List Nd))(ats:List Nat)(w:World)(hT:TypesIn w A l)(hL:GrsIn w LA gs)(hAT:IntsIn w AT (ats.map (fun n=>((n:Nat):Int))))(hS:Kv l)(ju:∀ i (hi:i<gs.length),GY l gs[i])(kb:∀ i (hi:i<gs.length),∀ j,j<(gs[i]).length->∀ z∈(nd (gs[i]) j).ln,0<=z.1/\z.1<nf)(hnf:nf<=1000)(hgl6:gs.length<=1000000)(gq:(VA gs gs.length).length<=1000000)(hp:0<gs.length)(hat:ats.length<gs.length)(i1:∀ k (hk:k<ats.length),ats[k]<(gs[0]'hp).length):Calls prog 39 #[.agg #[.slice A l.length c,.slice B fs.length d],.slice LA gs.length lc,.slice AT ats.length ac] w fun e w'=>(∃ AX X cX ok,e= .returned (.tuple #[.agg #[.slice AX (List.length X) cX],.bool ok])/\(∀ w2,FrSame w.heap.size w' w2->NodesIn w2 AX X)/\((ok=true/\YY l (VA gs gs.length) (PA gs ats) X)\/(ok=false/\X= []/\¬MV l (VA gs gs.length) (PA gs ats))))/\Bel w w':=by
 have hLm:=hL.1;have hAm:=hAT.1;rw[List.length_map]at hAm;have ij:∀ i (hi:i<gs.length),0<(gs[i]).length:=fun i hi=>(ju i hi).pos
 unfold vX at hLm hAm;refine enT func39 ntmps39 rfl rfl fun hB=>?_;refine zn2 ?_;refine qv (cs:=#[_,_]) rfl (fun b3 w1 a9 t1 hr=>?_);have lo3:=hB.ob hr;refine qQ (cs:=#[.slice none 0 0]) u6 rfl (fun b6 w2 a3 t2 hr=>?_);have:=a9.ob hr;have iw:=hB.u.ob hr;refine zn22 ?_;refine qz (rg [8,9,11,13,14,16] 41 50) (fun m g w'=>∃(k:Nat) (A8 A9:Option Addr) (bj fi:Nat) (V:Nat->Value),k<=gs.length/\m=gs.length-k/\g 41= .int .i64 k/\g 8= .slice A8 (VA gs k).length bj/\g 9= .slice A9 k fi/\Bel w w'/\Blk w' b3 25 #[.slice A l.length c,.slice B fs.length d]/\(∃ z,Blk w' b6 28 #[z])/\Own w' (b6+1) 3 1 A9 k fi (stV gs k)/\Own w' (b6+1) 87 2 A8 (VA gs k).length bj (ndV (tyV (VA gs k)) V (VA gs k).length)/\(∀ x,x<(VA gs k).length->RowO w' w.heap.size w'.heap.size (V x) (nd (VA gs k) x).ln)) (gs.length) ?_ (fun m g4 w3 hI=>?_)
 ·exact⟨0,none,none,0,0,fun _=> .slice none 0 0,ah _,rfl,rfl,rfl,rfl,hB.u,a9.u,⟨_,a3⟩,Own.nil _ _ _ _,Own.nil _ _ _ _,fun x hx=>absurd hx (aB _)⟩
 obtain⟨k,A8,A9,bj,fi,V,hk,hm,h41,h8,h9,hB,a9,⟨z6,a3⟩,ad,an,a8⟩:=hI;obtain⟨bs,bg⟩:∃ b,b=w3.heap.size:=⟨_,rfl⟩
 rw[<- bg]at a8;have a5:bs<=w3.heap.size:=ay bg;refine zQ 41 _ h41 nu (zQ 8 _ h8 nu (zQ 9 _ h9 nu (zn6 ?_)));refine zZ rfl (fun c42=>?_) (fun c42=>?_)
 ·have ao:k<gs.length:=by omega
  obtain⟨gb,go,GA,gc,rfl,hgr,hgn⟩:=hL.at_ hB ao;have hkU:=VA_lt ij ao;have hgy:=ju k ao;have hgm:=hgn.1;unfold vX at hgm;refine zn6 ?_;refine wl (x7 (i:=k) underlying98 yY rfl rfl ao rfl) (wl (qw U28 rfl rfl hgr yY) ?_);refine qQ (cs:=#[.slice none 0 0]) u6 rfl (fun b11 w4 bt t3 hr=>?_);have:=a9.ob hr;have:=a3.ob hr;have bd:=ad.ob hr;have e6:=an.ob hr;have eh:=(nLT a5 hr)
  have lo11:=hB.ob hr;replace a8:=zY a8 t3;replace a5:=zJ a5 t3;refine zV bt (fun w5 hq t4=>?_);replace ad:=ad.tr0 t3;replace ad:=ad.cB t4;replace an:=an.tr0 t3;replace an:=an.cB t4;replace a8:=zY a8 t4;replace a5:=zJ a5 t4;replace bt:=hq;refine zn7 ?_;refine qZ (cs:=#[_]) [(0,.int _ _)] rfl U62 qq Oy dE dE kR rfl (fun b48 w6 ka t5 hr=>?_);have:=a9.u.ob hr;have:=a3.u.ob hr;have dq:=ad.ob hr;have dy:=an.ob hr;have eb:=(nLT a5 hr)
  have:=bt.ob hr;have lo48:=hB.u.ob hr;replace a8:=zY a8 t5;replace a5:=zJ a5 t5;replace ad:=ad.tr0 t5;refine vV U62 PJ rfl dE ad ka rfl rfl rfl xW dE oG oG (Nat.succ_le_of_lt a3.u.lt) (fun fd c3 w7 ew t6 hg=>?_);replace an:=an.tr0 t5;have el:fd≠b3:=neA ad a9.u.lt hg
  have ek:fd≠b6:=neA ad a3.u.lt hg
  have di:fd≠b11:=neB bt.u.lt hg (fun g hg=>by have:=bd g hg;omega)
  replace hB:=hB.u.tr t6 (fun g hg=>nLT (aI iw) (ad.lt g hg).1);replace a9:=((a9.tr0 t3).tr1 t4 oG).tr0 t5;replace a9:=a9.ta t6 ad;replace a3:=((a3.tr0 t3).tr1 t4 oG).tr0 t5;replace a3:=a3.ta t6 ad;replace an:=an.c t6;replace a8:=zY a8 t6;replace a5:=zJ a5 t6;replace bt:=bt.tr0 t5;replace bt:=bt.tb t6 (fun g hg=>by have:=bd g hg;omega);replace ew:Own w7 (b6+1) 3 1 (some ⟨fd,0,none⟩) (k+1) c3 (stV gs (k+1)):=by rw[<- stV_succ];exact ew
  have ad:=ew;refine yZ ?_;refine qz (rg [8,13,14,16] 53 37) (fun m g w'=>∃(j:Nat) (A8:Option Addr) (bj:Nat) (V:Nat->Value) (D:List Nd),j<=(gs[k]'ao).length/\m=(gs[k]'ao).length-j/\D=(VA gs k++((gs[k]'ao).take j).map (shN (VA gs k).length))/\g 53= .int .i64 j/\g 8= .slice A8 D.length bj/\Bel w w'/\Blk w' b3 25 #[.slice A l.length c,.slice B fs.length d]/\(∃ z,Blk w' b6 28 #[z])/\Own w' (b6+1) 3 1 (some ⟨fd,0,none⟩) (k+1) c3 (stV gs (k+1))/\Own w' (b6+1) 87 2 A8 D.length bj (ndV (tyV D) V D.length)/\(∀ x,x<D.length->RowO w' w.heap.size w'.heap.size (V x) (nd D x).ln)) ((gs[k]'ao).length) ?_ (fun m g8 w8 hI=>?_)
  ·exact⟨0,A8,bj,V,VA gs k,ah _,rfl,by simp,rfl,rfl,hB,a9,⟨_,a3⟩,ad,an,fun x hx=>(a8 x hx).up a5⟩
  obtain⟨j,A8,bj,V,D,hj,hmj,fc,h53,h8,hB,a9,⟨z6,a3⟩,ad,an,a8⟩:=hI;obtain⟨bs,bg⟩:∃ b,b=w8.heap.size:=⟨_,rfl⟩
  rw[<- bg]at a8;have a5:bs<=w8.heap.size:=ay bg;refine zQ 53 _ h53 nu (zQ 8 _ h8 nu (zn6 ?_));refine zZ rfl (fun c54=>?_) (fun c54=>?_)
  ·have b8:j<(gs[k]'ao).length:=by omega
   obtain⟨nb,no,LA0,lc0,rfl,hnb,hnr,hln⟩:=hgn.at_ (Below.refl _ _:Bel w w) b8;have hmx:=hln.1;unfold vX at hmx;have hnd:=yK b8;have gu:=hgy.lr j b8;rw[hnd]at gu;have hDl:D.length=(VA gs k).length+j:=by rw[fc,List.length_append,List.length_map,List.length_take];omega
   have hDU:(VA gs k).length+(gs[k]'ao).length<=(VA gs gs.length).length:=by
     have h:=VA_le (gs:=gs) (gs.length-(k+1)) (k:=k+1) oG;rw[show k+1+(gs.length-(k+1))=gs.length by omega,XX ao,List.length_append,List.length_map]at h;exact h
   have hfw:(((gs[k]'ao)[j]'b8)).ln.length<=nf:=by
     have h:=JZ (nf:=nf) (lo:=0) (hgy.srt j b8) (fun z hz=>kb k ao j b8 z hz) (aP _) oG;rw[hnd]at h;omega
   refine zn6 ?_;refine wl (x7 (i:=j) U26 ZW rfl rfl b8 rfl) (zn1 ?_);refine qQ (cs:=#[.int .i64 0,.slice none 0 0]) Dk rfl (fun b13 w9 f6 t7 hr=>?_);have:=a9.ob hr;have:=a3.ob hr;have dv:=ad.ob hr;have e5:=an.ob hr;have eg:=(nLT a5 hr)
   have lo13:=hB.ob hr;replace a8:=zY a8 t7;replace a5:=zJ a5 t7;refine zV f6 (fun w10 hq t8=>?_);replace ad:=ad.tr0 t7;replace ad:=ad.cB t8;replace an:=an.tr0 t7;replace an:=an.cB t8;replace a8:=zY a8 t8;replace a5:=zJ a5 t8;replace f6:=hq;refine zn6 ?_;refine wl (Z1 (v0:= .int _ _) (fun v0=>#[v0,.slice none 0 0]) rfl kR) ?_;refine qQ (cs:=#[.int .i64 0,.slice none 0 0]) Dk rfl (fun ic w11 b5 t9 hr=>?_);have:=a9.u.ob hr;have:=a3.u.ob hr;have du:=ad.ob hr;have bw:=an.ob hr;have ef:=(nLT a5 hr)
   have:=f6.ob hr;have g9:=hB.u.ob hr;replace a8:=zY a8 t9;replace a5:=zJ a5 t9;refine zV b5 (fun w12 hq ii=>?_);replace ad:=ad.tr0 t9;replace ad:=ad.cB ii;replace an:=an.tr0 t9;replace an:=an.cB ii;replace a8:=zY a8 ii;replace a5:=zJ a5 ii;replace b5:=hq;refine yZ ?_;refine qz (rg [16] 63 22) (fun m g w'=>∃(q:Nat) (A5:Option Addr) (cq:Nat),q<=(((gs[k]'ao)[j]'b8)).ln.length/\m=(((gs[k]'ao)[j]'b8)).ln.length-q/\g 63= .int .i64 q/\Bel w w'/\Blk w' b3 25 #[.slice A l.length c,.slice B fs.length d]/\(∃ z,Blk w' b6 28 #[z])/\Own w' (b6+1) 3 1 (some ⟨fd,0,none⟩) (k+1) c3 (stV gs (k+1))/\Own w' (b6+1) 87 2 A8 D.length bj (ndV (tyV D) V D.length)/\(∀ x,x<D.length->RowO w' w.heap.size bs (V x) (nd D x).ln)/\bs<=w'.heap.size/\Blk w' ic 87 #[.int .i64 (((gs[k]'ao)[j]'b8)).ty,.slice A5 q cq]/\Own w' (ic+1) 84 2 A5 q cq (lnV (shL (VA gs k).length ((((gs[k]'ao)[j]'b8)).ln.take q)))) ((((gs[k]'ao)[j]'b8)).ln.length) ?_ (fun m g12 iq hI=>?_)
   ·exact⟨0,none,0,ah _,rfl,rfl,hB.u,a9.u,⟨_,a3.u⟩,ad,an,a8,a5,b5,Own.nil _ _ _ _⟩
   obtain⟨q,A5,cq,hq,hmq,h63,hB,a9,⟨z6,a3⟩,ad,an,a8,a5,b5,bi⟩:=hI;have hz14:=b5.lt;refine zQ 63 _ h63 nu (zn6 ?_);refine zZ rfl (fun c64=>?_) (fun c64=>?_)
   ·have b7:q<(((gs[k]'ao)[j]'b8)).ln.length:=by omega
    obtain⟨lb,lof,rfl,hlb,hlr⟩:=hln.at_ hB b7;have hx2:=gu _ (aq b7);refine zn6 ?_;refine wl (x7 (i:=q) U85 gQ rfl rfl b7 rfl) (wl (qw U84 rfl rfl hlr gQ) ?_);refine qQ (cs:=#[.int .i64 0,.int .i64 0]) Vq rfl (fun b16 w14 f5 d6 hr=>?_);have:=a9.ob hr;have:=a3.ob hr;have dr:=ad.ob hr;have dz:=an.ob hr;have ee:=(nLT a5 hr)
    have:=b5.ob hr;have e8:=bi.ob hr;have iz:=hB.ob hr;replace a8:=zY a8 d6;replace a5:=zJ a5 d6;refine zV f5 (fun w15 hq d5=>?_);replace ad:=ad.tr0 d6;replace ad:=ad.cB d5;replace an:=an.tr0 d6;replace an:=an.cB d5;replace a8:=zY a8 d5;replace a5:=zJ a5 d5;replace bi:=bi.tr0 d6;replace bi:=bi.cB d5;replace f5:=hq;refine qY (e_S ?_);have zo:=fun g hg=>(bi.lt g hg).2
    refine gY [] [15,17] [0,1,2,3,4,5,6,7,8,9,10,11,12,13,14,15,16,17] rfl (fun w16 d4=>?_);replace a8:=zY a8 d4;replace a5:=zJ a5 d4;refine zn9 ?_;refine hl rfl (fun _=>jJ (c:=((k:Nat):Int)) rfl rfl oG oG) (zn1 ?_);replace ad:=ad.tr0 d4;refine hl1 (v:= .int _ _) rfl U3 rfl rfl (st_get ad (aH k)) (hl rfl (fun _=>uW (c:=((((((gs[k]'ao)[j]'b8)).ln)[q]'b7).2+(((VA gs k).length:Nat):Int))) rfl rfl rfl oG) (hl rfl (fun _=>Q5 (v0:= .int _ _) (v1:= .int _ _) (fun v0 v1=>#[v0,v1]) rfl rfl kR) (h1 rfl ?_)));refine qZ (cs:=#[_,_]) [(0,.agg _)] rfl U85 gQ Vq dE dE kR rfl (fun b81 w17 k9 cu hr=>?_);have:=a9.u.ob hr;have:=a3.u.ob hr;have dp:=ad.ob hr;replace an:=an.tr0 d4;have dx:=an.ob hr;have ea:=(nLT a5 hr)
    have:=b5.u.ob hr;replace bi:=bi.tr0 d4;have e7:=bi.ob hr;have:=f5.u.ob hr;have lo81:=hB.u.ob hr;have gh:=cu;replace a8:=zY a8 cu;replace a5:=zJ a5 cu;refine qY (KQ gh (h1 rfl ?_));replace bi:=bi.tr0 cu;refine vV U85 Y0 rfl dE bi k9 rfl rfl rfl xW dE oG oG (Nat.succ_le_of_lt b5.u.lt) (fun kq cp w18 eu ck hg82=>?_);replace hB:=((hB.tr0 d6).tr1 d5 iz).tr0 (d4.t cu);replace hB:=hB.tr ck (fun g hg=>nLT (aI g9) (bi.lt g hg).1);replace a9:=((a9.tr0 d6).tr1 d5 oG).tr0 (d4.t cu);replace a9:=a9.ta ck bi;replace a3:=((a3.tr0 d6).tr1 d5 oG).tr0 (d4.t cu);replace a3:=a3.ta ck bi;replace ad:=ad.tr0 cu;replace ad:=ad.c ck;replace an:=an.tr0 cu;replace an:=an.c ck;replace a8:=zY a8 ck;replace a5:=zJ a5 ck;replace b5:=((b5.tr0 d6).tr1 d5 oG).tr0 (d4.t cu);replace b5:=b5.ta ck bi;obtain⟨kq,cp,e82,eu⟩:∃ g cap,(.slice (some ⟨kq,0,none⟩) (q+1) cp:Value)= .slice (some ⟨g,0,none⟩) (q+1) cap/\Own w18 (ic+1) 84 2 (some ⟨g,0,none⟩) (q+1) cap (lnV (shL (VA gs k).length ((((gs[k]'ao)[j]'b8)).ln.take q))++[.int .i64 (((((gs[k]'ao)[j]'b8)).ln)[q]'b7).1,.int .i64 ((((((gs[k]'ao)[j]'b8)).ln)[q]'b7).2+(((VA gs k).length:Nat):Int))]):=⟨_,_,rfl,eu⟩
    cases e82;refine qY (O9 [17] (zn1 ?_));have bi:Own w18 (ic+1) 84 2 (some ⟨kq,0,none⟩) (q+1) cp (lnV (shL (VA gs k).length ((((gs[k]'ao)[j]'b8)).ln.take (q+1)))):=by rw[<- shL_take b7];exact eu
    refine h1 rfl ?_;refine xx (v:= .slice _ _ _) b5 rfl rfl Tz (by first|decide|simp) rfl rfl (fun w19 hq fo=>?_);have hsH17:=fo;replace ad:=ad.cB fo;replace an:=an.cB fo;replace a8:=zY a8 fo;replace a5:=zJ a5 fo;replace bi:=bi.cB fo;replace b5:=hq;refine qY (O9 [] (zn7 ?_));refine x9 ((((gs[k]'ao)[j]'b8)).ln.length-(q+1)) oG agA ?_;exact⟨q+1,_,_,by omega,rfl,rfl,hB.u,a9.u,⟨_,a3.u⟩,ad,an,a8,a5,b5,bi⟩
   have hqx:q=(((gs[k]'ao)[j]'b8)).ln.length:=by omega
   subst hqx;rw[List.take_length]at bi;refine zn5 ?_
   have bf:=RowO.of (lo:=w.heap.size) (xs:=(shN (VA gs k).length (((gs[k]'ao)[j]'b8))).ln) (aI g9) (A:=A5) (cap:=cq) (w:=iq) (by
     have e1:(shN (VA gs k).length (((gs[k]'ao)[j]'b8))).ln.length=(((gs[k]'ao)[j]'b8)).ln.length:=by simp[shN]
     rw[e1];exact bi)
   rw[show (shN (VA gs k).length (((gs[k]'ao)[j]'b8))).ln.length=(((gs[k]'ao)[j]'b8)).ln.length by simp[shN]]at bf;obtain⟨s5,hs5⟩:∃ b,b=iq.heap.size:=⟨_,rfl⟩
   rw[<- hs5]at bf;have fp:s5<=iq.heap.size:=ay hs5;refine zn3 ?_;refine qZ (cs:=#[_,_]) [(0,.agg _)] rfl U26 ZW Dk dE dE kR rfl (fun b87 w20 k8 dg hr=>?_);have:=a9.ob hr;have:=a3.ob hr;have dn:=ad.ob hr;have dw:=an.ob hr;have e9:=(nLT a5 hr)
   have:=b5.ob hr;have dm:=(nLT fp hr)
   have lo87:=hB.ob hr;replace a8:=zY a8 dg;replace a5:=zJ a5 dg;replace bf:=bf.tr dg (by simp);replace fp:=zJ fp dg;replace an:=an.tr0 dg;refine vV U26 Vz rfl dE an k8 rfl rfl rfl xW dE oG oG (Nat.succ_le_of_lt a3.u.lt) (fun il i9 w21 ji df hg=>?_);have ej:il≠b3:=neA an a9.u.lt hg
   have ei:il≠b6:=neA an a3.u.lt hg
   have dh:il≠ic:=neB b5.u.lt hg (fun g hg=>by have:=bw g hg;omega)
   replace hB:=hB.u.tr df (fun g hg=>nLT (aI iw) (an.lt g hg).1);replace a9:=a9.tr0 dg;replace a9:=a9.ta df an;replace a3:=a3.tr0 dg;replace a3:=a3.ta df an;replace ad:=ad.tr0 dg;replace ad:=ad.c df;replace a8:=zY a8 df;replace a5:=zJ a5 df;replace bf:=bf.c df;replace fp:=zJ fp df;have hlo88:=a3.lt;refine zn8 ?_;refine x9 ((gs[k]'ao).length-(j+1)) oG agA ?_;exact⟨j+1,some ⟨il,0,none⟩,i9,J2 V D.length (.slice A5 (((gs[k]'ao)[j]'b8)).ln.length cq),D++[shN (VA gs k).length ((gs[k]'ao)[j]'b8)],by omega,rfl,by rw[fc,app_take b8],rfl,by rw[List.length_append];rfl,hB,a9,⟨_,a3⟩,ad,nl_snoc (y:=shN (VA gs k).length ((gs[k]'ao)[j]'b8)) ji,rows_snoc a8 bf a5 fp⟩
  have hjx:j=(gs[k]'ao).length:=by omega
  subst hjx;rw[List.take_length,<- XX ao]at fc;have hDl:D.length=(VA gs (k+1)).length:=by rw[fc]
  refine yj ?_;refine x9 (gs.length-(k+1)) oG agA ?_
  exact⟨k+1,A8,(some ⟨fd,0,none⟩),bj,c3,V,by omega,rfl,rfl,by rw[<- fc];rfl,rfl,hB,a9,⟨_,a3⟩,ad,by rw[<- fc];exact an,fun x hx=>by
   rw[<- fc]at hx ⊢
   exact(a8 x hx).up a5⟩
 have hw:k=gs.length:=by omega
 subst hw
 obtain⟨q9,rfl,_,gn,_⟩:=ad.cell (fun e=>by
   have h:(stV gs gs.length).length=0:=by rw[e];rfl
   have h2:(stV gs gs.length).length=gs.length:=by simp[stV]
   omega)
 have gf:∀ i,i<gs.length->w3.cell? ⟨q9,0+i*1,none⟩=some (.int .i64 (((VA gs i).length:Nat):Int)):=fun i hi=>st_get ad hi
 have fq:0<(VA gs gs.length).length:=Nat.lt_of_le_of_lt (ah _) (VA_lt ij hp);have c7:GY l (VA gs gs.length):=by have h:=VA_gy ju (gs.length-1) oG;rwa[show gs.length-1+1=gs.length by omega]at h
 have hNU:NodesIn w3 A8 (VA gs gs.length):=Pj (lo:=w.heap.size) (bs:=bs) an rfl (fun x hx=>by unfold tyV;rw[yK hx]) (fun x hx=>by rw[<- yK hx];exact a8 x hx);obtain⟨q8,o8,rfl,d8,d9⟩:=hNU.2 (fun e=>by rw[e]at fq;exact absurd fq (aG _));obtain⟨wA,hwA⟩:∃ x,x=w3:=⟨_,rfl⟩
 have ab:Bel wA w3:=by rw[hwA];exact Below.refl _ _
 rw[<- hwA]at d9 gf d8 gn;refine zn9 ?_;refine Y5 (m:=(VA gs gs.length).length) U62 PJ rfl rfl rfl oG oG (fun bu w22 a1 t18 hr=>?_);have:=a9.ob hr;have:=a3.ob hr;have lo93:=hB.ob hr;have bx:=ab.ob hr;refine yZ ?_;refine qz (rg [18] 96 8) (fun m g w'=>∃ k:Nat,k<=(VA gs gs.length).length/\m=(VA gs gs.length).length-k/\g 96= .int .i64 k/\Bel w w'/\Bel wA w'/\Blk w' b3 25 #[.slice A l.length c,.slice B fs.length d]/\(∃ z,Blk w' b6 28 #[z])/\Blk w' bu 3 (row (VA gs gs.length).length (fun x=> .int .i64 (((if x<k then x else 0:Nat)):Int)))) ((VA gs gs.length).length) ?_ (fun m g21 w23 hI=>?_)
 ·refine⟨0,ah _,rfl,rfl,hB.u,ab.u,a9.u,⟨_,a3.u⟩,?_⟩;rw[xy (g':=fun _=> .int .i64 0) (fun x _=>by simp)];exact a1
 obtain⟨k,jp,hm,h96,hB,ab,a9,⟨z6,a3⟩,a1⟩:=hI;refine zQ 96 _ h96 nu (zn6 ?_);refine zZ rfl (fun c97=>?_) (fun c97=>?_)
 ·have ao:k<(VA gs gs.length).length:=by omega
  refine QY ?_;refine wl (x7 (i:=k) U62 qq rfl rfl ao rfl) ?_;refine xx (v:= .int _ _) a1 rfl rfl qq (by rw[row_size];omega) rfl kv (fun w24 hq t19=>?_);replace a1:=hq
  rw[xy (g':=fun x=> .int .i64 (((if x<k+1 then x else 0:Nat)):Int)) (fun x _=>by
    by_cases e:x=k
    · subst e;simp
    · have e1:(x<k+1)↔(x<k):=by omega
      simp[e,e1])]at a1
  refine zn7 ?_;refine x9 ((VA gs gs.length).length-(k+1)) oG agA ?_;exact⟨k+1,by omega,rfl,rfl,hB.u,ab.u,a9.u,⟨_,a3.u⟩,a1⟩
 have hw:k=(VA gs gs.length).length:=by omega
 rw[hw,xy (g':=fun x=> .int .i64 (((fun i:Nat=>i) x:Nat):Int)) (fun x hx=>by simp[hx])]at a1;replace a1:Blk w23 bu 3 (RWj (VA gs gs.length).length (fun i=>i)):=a1;have k6:CS l (VA gs gs.length) (PA gs ats) 0 (fun i=>i):=CS.start;refine QY ?_;refine qz (rg [19,20] 106 20) (fun m g w'=>∃(k:Nat) (rep:Nat->Nat),k<=ats.length/\m=ats.length-k/\g 106= .int .i64 k/\Bel w w'/\Bel wA w'/\Blk w' b3 25 #[.slice A l.length c,.slice B fs.length d]/\(∃ z,Blk w' b6 28 #[z])/\Blk w' bu 3 (RWj (VA gs gs.length).length rep)/\CS l (VA gs gs.length) (PA gs ats) k rep) (ats.length) ?_ (fun m g26 w25 hI=>?_)
 ·exact⟨0,fun i=>i,ah _,rfl,rfl,hB,ab,a9,⟨_,a3⟩,a1,k6⟩
 obtain⟨k,rep,jp,hm,kp,hB,ab,a9,⟨z6,a3⟩,a1,ft⟩:=hI;refine zQ 106 _ kp nu (zn6 ?_);refine zZ rfl (fun l7=>?_) (fun l7=>?_)
 ·have ao:k<ats.length:=by omega
  obtain⟨pb,po,rfl,hpb,hpc⟩:=hAT.at_ (k:=k) (by rw[List.length_map];exact ao);rw[List.getElem_map]at hpc;have jb:ats[k]'ao<(VA gs gs.length).length:=by
    have h:=i1 k ao;have h2:=VA_le (gs:=gs) (gs.length-1) (k:=1) oG;rw[show 1+(gs.length-1)=gs.length by omega,XX hp,Cq,List.nil_append,List.length_map]at h2;omega
  have j4:(VA gs (k+1)).length<(VA gs gs.length).length:=VA_lt ij oG;have k5:=ft.pair (by rw[PA_len];exact ao) (PA_get ao) jb j4;refine zn7 ?_;refine wl (x7 (i:=k) U62 qq rfl rfl ao rfl) (wl (qj (v:= .int _ _) U3 rfl rfl (hB.cell hpb hpc)) (zn4 ?_));refine Qz 13 kR kR (fun w26 t20=>?_);refine zn4 ?_;refine ws (uW (c:=((k+1:Nat):Int)) rfl rfl oG oG) (ws (x7 (i:=(k+1)) U62 qq rfl rfl oG rfl) (ws (qj (v:= .int _ _) U3 rfl rfl (ab.u.cell gn (gf (k+1) oG))) (ws (x7 (i:=(VA gs (k+1)).length) U62 qq rfl rfl j4 rfl) (ws (qj (v:= .int _ _) U3 rfl rfl (a1.u.cell (YW j4))) (zn2 ?_)))));refine ws (x7 (i:=(ats[k]'ao)) U62 qq rfl rfl jb rfl) (ws (qj (v:= .int _ _) U3 rfl rfl (a1.u.cell (YW jb))) (Q4 ?_));refine zW kR (ren_any _ gq a1.u) rfl (fun e' w27 hr=>?_);obtain⟨rfl,cm,t21⟩:=hr;replace a1:Blk w27 bu 3 (RWj (VA gs gs.length).length _):=cm;refine⟨_,rfl,?_⟩;refine zn7 ?_;refine x9 (ats.length-(k+1)) oG agA ?_;exact⟨k+1,_,by omega,rfl,rfl,hB.u,ab.u,a9.u,⟨_,a3.u⟩,a1,k5⟩
 have hw:k=ats.length:=by omega
 rw[hw]at ft;rw[<- PA_len gs ats]at ft;refine yZ ?_;refine qz (rg [21,22,23,25,27] 126 73) (fun m g w'=>∃(rep:Nat->Nat) (ch:Bool),m=2*roots (VA gs gs.length).length rep+chJ ch/\g 21= .bool ch/\Bel w w'/\Bel wA w'/\Blk w' b3 25 #[.slice A l.length c,.slice B fs.length d]/\(∃ z,Blk w' b6 28 #[z])/\Blk w' bu 3 (RWj (VA gs gs.length).length rep)/\CS l (VA gs gs.length) (PA gs ats) (PA gs ats).length rep/\(ch=false->JF l (VA gs gs.length) (PA gs ats) rep)) (2*roots (VA gs gs.length).length rep+chJ true) ?_ (fun m g31 w28 hI=>?_)
 ·exact⟨rep,true,rfl,rfl,hB,ab,a9,⟨_,a3⟩,a1,ft,fun h=>by cases h⟩
 obtain⟨rep,ch,hm,da,hB,ab,a9,⟨z6,a3⟩,a1,ft,hjf⟩:=hI;refine zQ 21 _ da nu (zn6 ?_);refine jv rfl (fun fm=>?_) (fun fm=>?_)
 ·subst fm;refine Jq ?_;refine qz (rg [21,22,23,25,27] 129 70) (fun m g w'=>∃(i:Nat) (c6:Nat->Nat) (g0:Bool),i<=(VA gs gs.length).length/\m=(VA gs gs.length).length-i/\g 129= .int .i64 i/\g 21= .bool g0/\Bel w w'/\Bel wA w'/\Blk w' b3 25 #[.slice A l.length c,.slice B fs.length d]/\(∃ z,Blk w' b6 28 #[z])/\Blk w' bu 3 (RWj (VA gs gs.length).length c6)/\JP l (VA gs gs.length) (PA gs ats) (PA gs ats).length rep c6 g0 i 0) ((VA gs gs.length).length) ?_ (fun m g34 w29 hI=>?_)
  ·exact⟨0,rep,false,ah _,rfl,rfl,rfl,hB,ab,a9,⟨_,a3⟩,a1,JP.start ft⟩
  obtain⟨i,c6,g0,hi,hmi,ko,da,hB,ab,a9,⟨z6,a3⟩,a1,ik⟩:=hI;refine zQ 129 _ ko nu (zQ 21 _ da nu (zn6 ?_));refine zZ rfl (fun l6=>?_) (fun l6=>?_)
  ·have bk:i<(VA gs gs.length).length:=by omega
   obtain⟨LAi,lci,gm,c2⟩:=d9 i bk;rw[<- yK bk]at gm c2;have ez:=c2.1;unfold vX at ez;refine Nk ?_;refine qz (rg [21,23,25,27] 133 65) (fun m g w'=>∃(j:Nat) (bv:Nat->Nat) (fh:Bool),j<=i/\m=i-j/\g 133= .int .i64 j/\g 21= .bool fh/\Bel w w'/\Bel wA w'/\Blk w' b3 25 #[.slice A l.length c,.slice B fs.length d]/\(∃ z,Blk w' b6 28 #[z])/\Blk w' bu 3 (RWj (VA gs gs.length).length bv)/\JP l (VA gs gs.length) (PA gs ats) (PA gs ats).length rep bv fh i j) (i) ?_ (fun m g37 w30 hI=>?_)
   ·exact⟨0,c6,g0,ah _,rfl,rfl,rfl,hB,ab,a9,⟨_,a3⟩,a1,ik⟩
   obtain⟨j,bv,fh,hj,hmj,kn,da,hB,ab,a9,⟨z6,a3⟩,a1,f8⟩:=hI;refine zQ 133 _ kn nu (zQ 21 _ da nu (zn6 ?_));refine zZ rfl (fun l5=>?_) (fun l5=>?_)
   ·have hji:j<i:=by omega
    have f4:j<(VA gs gs.length).length:=by omega
    obtain⟨LAj,lcj,hrj,f3⟩:=d9 j f4;rw[<- yK f4]at hrj f3;have jl:=f3.1;unfold vX at jl;refine yZ ?_;refine oJ kR kR (fun w31 g6=>?_);refine zn2 ?_;refine ws (x7 (i:=i) U62 qq rfl rfl bk rfl) (ws (qj (v:= .int _ _) U3 rfl rfl (a1.u.cell (YW bk))) (zn2 ?_));refine ws (x7 (i:=j) U62 qq rfl rfl f4 rfl) (ws (qj (v:= .int _ _) U3 rfl rfl (a1.u.cell (YW f4))) (zn1 ?_));refine uz (e_S ?_);refine zZ rfl (fun ib=>?_) (fun ib=>?_)
    ·have hsk:=f8.skip (fun e=>ib (by rw[e]));refine zn8 ?_;refine x9 (i-(j+1)) oG agA ?_;replace hB:=hB.tr0 g6;replace a9:=a9.tr0 g6;replace a3:=a3.tr0 g6;replace ab:=ab.tr0 g6;replace a1:=a1.tr0 g6
     first
      | exact⟨j+1,bv,fh,by omega,rfl,rfl,rfl,hB,ab,a9,⟨_,a3⟩,a1,hsk⟩
      | exact⟨j+1,c5,fy,by omega,rfl,rfl,rfl,hB,ab,a9,⟨_,a3⟩,a1,ke.done⟩
    have kd:=JK.start f8 oG;refine zn6 ?_;refine wl (x7 (i:=i) U26 ZW rfl rfl bk rfl) (zn1 ?_);refine wl (qj (v:= .slice _ _ _) U85 rfl rfl (ab.u.cell d8 (gm 1 _ rfl))) (zn5 ?_);refine qz (rg [21,25,27] 151 46) (fun m g w'=>∃(p:Nat) (c5:Nat->Nat) (fy:Bool),p<=(nd (VA gs gs.length) i).ln.length/\m=(nd (VA gs gs.length) i).ln.length-p/\g 151= .int .i64 p/\g 21= .bool fy/\Bel w w'/\Bel wA w'/\Blk w' b3 25 #[.slice A l.length c,.slice B fs.length d]/\(∃ z,Blk w' b6 28 #[z])/\Blk w' bu 3 (RWj (VA gs gs.length).length c5)/\JK l (VA gs gs.length) (PA gs ats) (PA gs ats).length rep c5 fy i j p 0) ((nd (VA gs gs.length) i).ln.length) ?_ (fun m g41 w32 hI=>?_)
    ·exact⟨0,bv,fh,ah _,rfl,rfl,rfl,hB.u,ab.u,a9.u,⟨_,a3.u⟩,a1.u,kd⟩
    obtain⟨p,c5,fy,hpp,hmp,km,da,hB,ab,a9,⟨z6,a3⟩,a1,ke⟩:=hI;refine zQ 151 _ km nu (zQ 21 _ da nu (zn6 ?_));refine zZ rfl (fun l4=>?_) (fun l4=>?_)
    ·have dj:p<(nd (VA gs gs.length) i).ln.length:=by omega
     obtain⟨lb1,iv,rfl,jo,f2⟩:=c2.at_ ab dj;have ja:=c7.lr i bk _ (aq dj);obtain⟨tx,jd⟩:=O6 ja.1;have cg:(((nd (VA gs gs.length) i).ln[p]'dj)).2.toNat=tx:=by omega
     have c1:tx<(VA gs gs.length).length:=by omega
     refine zn6 ?_;refine wl (x7 (i:=p) U85 gQ rfl rfl dj rfl) (wl (qw U84 rfl rfl f2 gQ) ?_);refine y8 (cs:=#[.int .i64 0,.int .i64 0]) Vq rfl (fun _=>rfl) (fun _=>rfl) gQ rfl xW (fun b25 w34 ba t23 hr=>?_);have:=a9.ob hr;have:=a3.ob hr;have:=a1.ob hr;have lo25:=hB.ob hr;have en:=ab.ob hr;refine zn3 ?_;rw[jd]at ba;refine zn3 ?_;refine wl (x7 (i:=j) U26 ZW rfl rfl f4 rfl) (zn1 ?_);refine wl (qj (v:= .slice _ _ _) U85 rfl rfl (ab.u.cell d8 (hrj 1 _ rfl))) (zn5 ?_);refine qz (rg [21,27] 161 35) (fun m g w'=>∃(q:Nat) (bq:Nat->Nat) (fv:Bool),q<=(nd (VA gs gs.length) j).ln.length/\m=(nd (VA gs gs.length) j).ln.length-q/\g 161= .int .i64 q/\g 21= .bool fv/\Bel w w'/\Bel wA w'/\Blk w' b3 25 #[.slice A l.length c,.slice B fs.length d]/\(∃ z,Blk w' b6 28 #[z])/\Blk w' bu 3 (RWj (VA gs gs.length).length bq)/\Blk w' b25 84 #[.int .i64 (((nd (VA gs gs.length) i).ln[p]'dj)).1,.int .i64 ((tx:Nat):Int)]/\JK l (VA gs gs.length) (PA gs ats) (PA gs ats).length rep bq fv i j p q) ((nd (VA gs gs.length) j).ln.length) ?_ (fun m g44 w35 hI=>?_)
     ·exact⟨0,c5,fy,ah _,rfl,rfl,rfl,hB.u,ab.u,a9.u,⟨_,a3.u⟩,a1.u,ba,ke⟩
     obtain⟨q,bq,fv,hqq,hmq,kl,da,hB,ab,a9,⟨z6,a3⟩,a1,ba,fa⟩:=hI;refine zQ 161 _ kl nu (zQ 21 _ da nu (zn6 ?_));refine zZ rfl (fun l3=>?_) (fun l3=>?_)
     ·have b7:q<(nd (VA gs gs.length) j).ln.length:=by omega
      obtain⟨lb2,lof2,rfl,hlb2,jn⟩:=f3.at_ ab b7;have hyr:=c7.lr j f4 _ (aq b7);obtain⟨ty,hty⟩:=O6 hyr.1;have er:(((nd (VA gs gs.length) j).ln[q]'b7)).2.toNat=ty:=by omega
      have d7:ty<(VA gs gs.length).length:=by omega
      refine zn6 ?_;refine wl (x7 (i:=q) U85 gQ rfl rfl b7 rfl) (wl (qw U84 rfl rfl jn gQ) ?_);refine y8 (cs:=#[.int .i64 0,.int .i64 0]) Vq rfl (fun _=>rfl) (fun _=>rfl) gQ rfl xW (fun b27 ip i0 cd hr=>?_);have:=a9.ob hr;have:=a3.ob hr;have:=a1.ob hr;have:=ba.ob hr;have lo27:=hB.ob hr;have em:=ab.ob hr;refine zn3 ?_;rw[hty]at i0;refine xv (rg [] 165 18) (fun g w'=>(g 182= .bool (decide ((((nd (VA gs gs.length) i).ln[p]'dj)).1=(((nd (VA gs gs.length) j).ln[q]'b7)).1/\¬bq tx=bq ty)))/\Same [] ip w') ?_ (fun g46 w38 hI=>?_)
      ·have hZ:SameQ [] ip ip:=Same.refl _ _;refine oJ kR kR (fun w39 t25=>?_);replace hZ:=SameQ.trans hZ t25 (by simp);refine zn6 ?_;refine kX 170 rfl (fun ks=>?_) (fun ks=>?_)
       ·refine yQ 170 rfl rfl (x6 (v:= .slice _ _ _) rfl) (yQ 170 rfl rfl (jX U84 qq dE rfl rfl rfl) (yQ 170 rfl rfl (qj (v:= .int _ _) U3 rfl rfl (ba.u.cell rfl)) (yQ 170 rfl rfl (x7 (i:=tx) U62 qq rfl rfl c1 rfl) (yQ 170 rfl rfl (qj (v:= .int _ _) U3 rfl rfl (a1.u.cell (YW c1))) (yQ 170 rfl rfl (x6 (v:= .slice _ _ _) rfl) (yQ 170 rfl rfl (jX U84 qq dE rfl rfl rfl) (yQ 170 rfl rfl (qj (v:= .int _ _) U3 rfl rfl (i0.u.cell rfl)) (yQ 170 rfl rfl (x7 (i:=ty) U62 qq rfl rfl d7 rfl) (yQ 170 rfl rfl (qj (v:= .int _ _) U3 rfl rfl (a1.u.cell (YW d7))) (yQ 170 rfl rfl (BV rfl rfl) (zn1 ?_)))))))))));refine uz ?_;refine e_R ⟨agA,?_⟩;refine⟨?_,hZ⟩;exact clA
       refine yZ ?_;refine uz ?_;refine e_R ⟨agA,?_⟩;refine⟨?_,hZ⟩;exact clA
      obtain⟨ki,cc⟩:=hI;refine vZ 182 _ ki nu (e_S ?_);refine zZ rfl (fun db=>?_) (fun db=>?_)
      ·have f9:=fa.ren bk f4 dj b7 db.1 oG oG (by rw[cg,er];exact db.2);rw[cg,er]at f9;refine xQ ?_;refine Qz 11 kR kR (fun w40 g5=>?_);refine zn4 ?_;refine ws (x7 (i:=tx) U62 qq rfl rfl c1 rfl) (ws (qj (v:= .int _ _) U3 rfl rfl (a1.u.cell (YW c1))) (zn3 ?_));refine ws (x7 (i:=ty) U62 qq rfl rfl d7 rfl) (ws (qj (v:= .int _ _) U3 rfl rfl (a1.u.cell (YW d7))) (Q4 ?_));refine zW kR (ren_any _ gq a1.u) rfl (fun e' w41 hr=>?_);obtain⟨rfl,cm,g3⟩:=hr;replace a1:Blk w41 bu 3 (RWj (VA gs gs.length).length _):=cm;refine⟨_,rfl,?_⟩;refine vJ ?_;refine x9 ((nd (VA gs gs.length) j).ln.length-(q+1)) oG agA ?_;replace hB:=(hB.tr0 (cd.t (cc.t g5))).tr1 g3 lo93;replace a9:=(a9.tr0 (cd.t (cc.t g5))).tr1 g3 oG;replace a3:=(a3.tr0 (cd.t (cc.t g5))).tr1 g3 oG;replace ab:=(ab.tr0 (cd.t (cc.t g5))).tr1 g3 bx;replace ba:=(ba.tr0 (cd.t (cc.t g5))).tr1 g3 oG
       first
        | exact⟨q+1,_,true,by omega,rfl,rfl,rfl,hB,ab,a9,⟨_,a3⟩,a1,ba,f9⟩
        | exact⟨q+1,bq,fv,by omega,rfl,rfl,rfl,hB,ab,a9,⟨_,a3⟩,a1,ba,i7⟩
      have i7:=fa.skip dj b7 (fun e=>by rw[cg,er];exact aK (fun h=>db ⟨e,h⟩));refine zn7 ?_;refine x9 ((nd (VA gs gs.length) j).ln.length-(q+1)) oG agA ?_;replace hB:=hB.tr0 (cd.t cc);replace a9:=a9.tr0 (cd.t cc);replace a3:=a3.tr0 (cd.t cc);replace ab:=ab.tr0 (cd.t cc);replace a1:=a1.tr0 (cd.t cc);replace ba:=ba.tr0 (cd.t cc)
      first
       | exact⟨q+1,_,true,by omega,rfl,rfl,rfl,hB,ab,a9,⟨_,a3⟩,a1,ba,f9⟩
       | exact⟨q+1,bq,fv,by omega,rfl,rfl,rfl,hB,ab,a9,⟨_,a3⟩,a1,ba,i7⟩
     have jh:q=(nd (VA gs gs.length) j).ln.length:=by omega
     subst jh;refine yj ?_;refine x9 ((nd (VA gs gs.length) i).ln.length-(p+1)) oG agA ?_;exact⟨p+1,bq,fv,by omega,rfl,rfl,rfl,hB,ab,a9,⟨_,a3⟩,a1,fa.row⟩
    have hpe:p=(nd (VA gs gs.length) i).ln.length:=by omega
    subst hpe;refine yj ?_;refine x9 (i-(j+1)) oG agA ?_
    first
     | exact⟨j+1,bv,fh,by omega,rfl,rfl,rfl,hB,ab,a9,⟨_,a3⟩,a1,hsk⟩
     | exact⟨j+1,c5,fy,by omega,rfl,rfl,rfl,hB,ab,a9,⟨_,a3⟩,a1,ke.done⟩
   have hje:i=j:=by omega
   subst hje;refine yj ?_;refine x9 ((VA gs gs.length).length-(i+1)) oG agA ?_;exact⟨i+1,bv,fh,by omega,rfl,rfl,rfl,hB,ab,a9,⟨_,a3⟩,a1,f8.row⟩
  have js:i=(VA gs gs.length).length:=by omega
  subst js;have hmeas:=jp_meas ik;refine zn5 ?_;refine x9 (2*roots (VA gs gs.length).length c6+chJ g0) oG agA ?_;exact⟨c6,g0,rfl,rfl,hB,ab,a9,⟨_,a3⟩,a1,ik.cs,fun h=>by subst h;exact JP.end_ c7.srt ik⟩
 have fb:=hjf fm;have jm:MJ l (VA gs gs.length) (PA gs ats) rep (fun _=>false) (fun _=>0) (fun _=>[]) 0 0 0:=MJ.start hS.pos;refine zn9 ?_;refine Lk (m:=(VA gs gs.length).length) U26 Vz rfl rfl oG oG (fun b9 w42 a2 g2 hr=>?_);have:=a9.ob hr;have:=a3.ob hr;have:=a1.ob hr;have ce:=hB.ob hr;have b4:=ab.ob hr;refine zn4 ?_;replace hB:=hB.tr0 g2;replace a9:=a9.tr0 g2;replace a3:=a3.tr0 g2;replace ab:=ab.tr0 g2;replace a1:=a1.tr0 g2;replace a2:Blk w42 b9 87 (kz (VA gs gs.length).length (fun _=> .int .i64 0) (fun _=> .slice none 0 0)):=by
   have h:=a2;rw[show (Value.agg #[.int .i64 0,.slice none 0 0]).cells= #[.int .i64 0,.slice none 0 0]from rfl,M9]at h;exact h
 refine zn3 ?_;refine Y5 (m:=(VA gs gs.length).length) Kz SZ rfl rfl rfl oG oG (fun dc w43 a4 t30 hr=>?_);have:=a9.ob hr;have:=a3.ob hr;have:=a1.ob hr;have:=a2.ob hr;have g7:=hB.ob hr;have br:=ab.ob hr;refine yZ ?_;refine qz [7,30,31,32,33,34,35,37,38,207,208,209,210,211,212,213,214,215,216,217,218,219,220,221,222,223,224,225,226,227,228,229,230,231,232,233,234,235,236,237,238,239,240,241,242,243,244,245,246,247,248,249,250,251,252,253,254,255,256,257,258,259,260,261,262,263,264,265,266,267,268,269,270,271,272,273,274,275,276,277,278,279,280,281,282,283,284,285,286,287,288,289,290,291,292,293,294,295,296,297,298,299,300,301,302,303,304,305,306,307,308,309,310,311,312] (fun m g w'=>∃(i:Nat) (seen:Nat->Bool) (T:Nat->Int) (L:Nat->List (Int×Int)) (V:Nat->Value),i<=(VA gs gs.length).length/\m=(VA gs gs.length).length-i/\g 207= .int .i64 i/\Bel w w'/\Bel wA w'/\Blk w' b3 25 #[.slice A l.length c,.slice B fs.length d]/\(∃ z,Blk w' b6 28 #[z])/\Blk w' bu 3 (RWj (VA gs gs.length).length rep)/\Blk w' dc 4 (row (VA gs gs.length).length (fun x=> .bool (seen x)))/\Blk w' b9 87 (kz (VA gs gs.length).length (fun x=> .int .i64 (T x)) V)/\(∀ x,x<(VA gs gs.length).length->RowO w' w.heap.size w'.heap.size (V x) (rpL rep (L x)))/\MJ l (VA gs gs.length) (PA gs ats) rep seen T L i i 0) ((VA gs gs.length).length) ?_ (fun m g56 g1 hI=>?_)
 ·exact⟨0,fun _=>false,fun _=>0,fun _=>[],fun _=> .slice none 0 0,ah _,rfl,rfl,hB.u,ab.u,a9.u,⟨_,a3.u⟩,a1.u,a4,a2.u,fun x _=>ro_nil _ _ _,jm⟩
 obtain⟨i,seen,T,L,V,hi,hmi,kh,hB,ab,a9,⟨z6,a3⟩,a1,a4,a2,a8,fu⟩:=hI;obtain⟨bs,bg⟩:∃ b,b=g1.heap.size:=⟨_,rfl⟩
 rw[<- bg]at a8;have a5:bs<=g1.heap.size:=ay bg;refine zQ 207 _ kh nu (zn6 ?_);refine zZ rfl (fun l1=>?_) (fun l1=>?_)
 ·have bk:i<(VA gs gs.length).length:=by omega
  obtain⟨LAi,lci,gm,c2⟩:=d9 i bk;rw[<- yK bk]at gm c2;have ez:=c2.1;unfold vX at ez;have b2:=fb.cs.lt i bk;have ep:=c7.tr i bk;obtain⟨de,cf⟩:=O6 ep.1;have je:=fu.ty _ b2;obtain⟨cv,cj⟩:=O6 je.1;refine zn7 ?_;refine wl (x7 (i:=i) U26 ZW rfl rfl bk rfl) (wl (qw U87 rfl rfl (ab.range d8 gm) ZW) ?_);refine qQ (cs:=#[.int .i64 0,.slice none 0 0]) Dk rfl (fun b31 w45 bb bo hr=>?_);have:=a9.ob hr;have:=a3.ob hr;have:=a1.ob hr;have:=a2.ob hr;have:=a4.ob hr;have ed:=(nLT a5 hr)
  have eo:=hB.ob hr;have be:=ab.ob hr;replace a8:=zY a8 bo;replace a5:=zJ a5 bo;refine waI rfl ?_;refine zV bb (fun w46 hq bn=>?_);replace a8:=zY a8 bn;replace a5:=zJ a5 bn;replace bb:=hq;refine zn3 ?_;rw[cf]at bb;refine zn3 ?_;refine wl (x7 (i:=i) U62 qq rfl rfl bk rfl) (wl (qj (v:= .int _ _) U3 rfl rfl (a1.u.cell (YW bk))) (zn8 ?_));refine wl (x7 (i:=(rep i)) Kz j8 rfl rfl b2 rfl) (wl (qj (v:= .bool _) U4 rfl rfl (a4.u.cell (j5 b2))) (zn3 ?_));refine xv (rg [7,33,34,35] 221 31) (fun g w'=>∃(bc:Nat->Bool) (T2:Nat->Int),Bel w w'/\Bel wA w'/\Blk w' b3 25 #[.slice A l.length c,.slice B fs.length d]/\(∃ z,Blk w' b6 28 #[z])/\Blk w' bu 3 (RWj (VA gs gs.length).length rep)/\Blk w' dc 4 (row (VA gs gs.length).length (fun x=> .bool (bc x)))/\Blk w' b9 87 (kz (VA gs gs.length).length (fun x=> .int .i64 (T2 x)) V)/\(∀ x,x<(VA gs gs.length).length->RowO w' w.heap.size bs (V x) (rpL rep (L x)))/\bs<=w'.heap.size/\Blk w' b31 87 #[.int .i64 ((de:Nat):Int),.slice LAi (nd (VA gs gs.length) i).ln.length lci]/\MJ l (VA gs gs.length) (PA gs ats) rep bc T2 L (i+1) i 0) ?_ (fun gx1 w47 hI=>?_)
  ·refine jv rfl (fun fl=>?_) (fun fl=>?_)
   ·have hns:seen (rep i)=false:=by simpa using fl
    have i6:=fu.first hS.vt fb.cs bk ep hns;refine zn4 ?_;refine wl (x7 (i:=(rep i)) Kz j8 rfl rfl b2 rfl) ?_;replace a4:=(a4.tr0 bo).tr1 bn oG;refine xx (v:= .bool _) a4 rfl rfl j8 (by rw[row_size];omega) rfl kv (fun w48 hq d3=>?_);replace a8:=zY a8 d3;replace a5:=zJ a5 d3;replace a4:=hq;rw[By (mk:=seen)]at a4;refine zn7 ?_;refine wl (x7 (i:=(rep i)) U26 ZW rfl rfl b2 rfl) (zn1 ?_);replace a2:=((a2.tr0 bo).tr1 bn oG).tr1 d3 oG;refine xx (v:= .int _ _) a2 rfl rfl qq (by rw[u5];show 0+rep i*2+0<(VA gs gs.length).length*2;omega) rfl J0 (fun w49 hq d2=>?_);replace a8:=zY a8 d2;replace a5:=zJ a5 d2;replace a2:=hq;rw[oY (f':=fun x=> .int .i64 (if x=rep i then (nd (VA gs gs.length) i).ty else T x)) (h':=V) (fun x _=>by by_cases e:x=rep i<;>simp[e,cf]) (fun x _=>rfl)]at a2;refine qY ?_;refine e_R ⟨agA,?_⟩;replace hB:=(((hB.tr0 bo).tr1 bn eo).tr1 d3 g7).tr1 d2 ce;replace a9:=(((a9.tr0 bo).tr1 bn oG).tr1 d3 oG).tr1 d2 oG;replace a3:=(((a3.tr0 bo).tr1 bn oG).tr1 d3 oG).tr1 d2 oG;replace ab:=(((ab.tr0 bo).tr1 bn be).tr1 d3 br).tr1 d2 b4;replace a1:=(((a1.tr0 bo).tr1 bn oG).tr1 d3 oG).tr1 d2 oG;replace bb:=(bb.tr1 d3 oG).tr1 d2 oG;replace a4:=a4.tr1 d2 oG
    first
     | exact⟨_,_,hB,ab,a9,⟨_,a3⟩,a1,a4,a2,a8,a5,bb,i6⟩
     | exact⟨_,_,hB,ab,a9,⟨_,a3⟩,a1,a4,a2,a8,a5,bb,i5⟩
   have hsn:seen (rep i)=true:=by simpa using fl
   refine xQ ?_;replace a2:=(a2.tr0 bo).tr1 bn oG;have jx:w46.cell? ⟨b9,0+rep i*2+0,none⟩=some (.int .i64 ((cv:Nat):Int)):=by rw[<- cj];exact a2.cell (XK b2)
   clear jx;refine jY [] [0,1,2,3,4,5,6,7,8,9,10,11,12,13,14,15,16] rfl (fun w50 c9=>?_);replace a8:=zY a8 c9;replace a5:=zJ a5 c9;refine zn4 ?_;refine hl rfl (fun _=>x7 (i:=(rep i)) U26 ZW rfl rfl b2 rfl) (zn1 ?_);replace a2:=a2.tr0 c9;refine hl1 (v:= .int .i64 ((cv:Nat):Int)) rfl U3 rfl rfl (by rw[<- cj];exact a2.cell (XK b2)) (zn2 ?_);refine hcl (fun v wv=>∃ u:Bool,v= .tuple #[.int .i64 ((meet l cv de).1:Nat),.bool (meet l cv de).2.1,.bool u]) rfl kR (smeet_any A c l cv de w50 (hT.mono hB.u) hS.vt hS.le oG oG) rfl (fun e' w2 hr=>?_) (fun v240 w51 c8 ku=>?_)
   ·obtain⟨⟨u,rfl⟩,t37⟩:=hr;exact⟨_,rfl,sB t37,⟨_,rfl⟩⟩
   replace a8:=zY a8 c8;replace a5:=zJ a5 c8;obtain⟨u9,kt⟩:=ku;subst kt;refine zn1 ?_;refine hl rfl (fun _=>yW (v:= .int _ _) rfl rfl) (hl rfl (fun _=>yW (v:= .bool _) rfl rfl) (hl rfl (fun _=>yW (v:= .bool _) rfl rfl) (yZ ?_)));refine jv rfl (fun fk=>?_) (fun fk=>?_)
   ·have hmf:(meet l cv de).2.1=false:=by simpa using fk
    refine zn2 ?_;refine jW (cs:=#[.slice none 0 0]) ?_;refine zV a3.u (fun w52 hq iu=>?_);replace a3:=((a3.tr0 bo).tr1 bn oG).tr0 (c9.t c8);replace a8:=zY a8 iu;replace a5:=zJ a5 iu;replace a3:=hq;refine zn5 ?_;refine e_RSr (zn6 ?_);refine uK (.inl rfl) rfl (zX U28 rfl rfl a3.range0 yY) rfl ?_;replace hB:=(((hB.tr0 bo).tr1 bn eo).tr0 (c9.t c8)).tr1 iu iw;exact⟨⟨none,[],0,false,rfl,fun w2 _=>ov w2 none,.inr ⟨rfl,rfl,fu.fail hS fb.cs bk ep hsn (by rw[cj,cf,Int.toNat_natCast,Int.toNat_natCast];exact hmf)⟩⟩,hB⟩
   have hmt:(meet l cv de).2.1=true:=by simpa using fk
   have i5:=fu.meet hS fb.cs bk hsn (m:=(meet l cv de).1) (by rw[cj,cf,Int.toNat_natCast,Int.toNat_natCast];exact hmt) (by rw[cj,cf,Int.toNat_natCast,Int.toNat_natCast]);refine zn6 ?_;refine wl (x7 (i:=(rep i)) U26 ZW rfl rfl b2 rfl) (zn1 ?_);replace a2:=a2.tr0 c8;refine xx (v:= .int _ _) a2 rfl rfl qq (by rw[u5];show 0+rep i*2+0<(VA gs gs.length).length*2;omega) rfl J0 (fun w53 hq cz=>?_);replace a8:=zY a8 cz;replace a5:=zJ a5 cz;replace a2:=hq;rw[oY (f':=fun x=> .int .i64 (if x=rep i then ((meet l cv de).1:Int)else T x)) (h':=V) (fun x _=>by by_cases e:x=rep i<;>simp[e]) (fun x _=>rfl)]at a2;refine qY ?_;refine e_R ⟨agA,?_⟩;replace hB:=(((hB.tr0 bo).tr1 bn eo).tr0 (c9.t c8)).tr1 cz ce;replace a9:=(((a9.tr0 bo).tr1 bn oG).tr0 (c9.t c8)).tr1 cz oG;replace a3:=(((a3.tr0 bo).tr1 bn oG).tr0 (c9.t c8)).tr1 cz oG;replace ab:=(((ab.tr0 bo).tr1 bn be).tr0 (c9.t c8)).tr1 cz b4;replace a1:=(((a1.tr0 bo).tr1 bn oG).tr0 (c9.t c8)).tr1 cz oG;replace a4:=(((a4.tr0 bo).tr1 bn oG).tr0 (c9.t c8)).tr1 cz oG;replace bb:=(bb.tr0 (c9.t c8)).tr1 cz oG
   first
    | exact⟨_,_,hB,ab,a9,⟨_,a3⟩,a1,a4,a2,a8,a5,bb,i6⟩
    | exact⟨_,_,hB,ab,a9,⟨_,a3⟩,a1,a4,a2,a8,a5,bb,i5⟩
  obtain⟨bc,T2,hB,ab,a9,⟨z6,a3⟩,a1,a4,a2,a8,a5,bb,kc⟩:=hI;refine yj ?_;refine qz (rg [37,38] 255 57) (fun m g w'=>∃(q:Nat) (L2:Nat->List (Int×Int)) (V2:Nat->Value),q<=(nd (VA gs gs.length) i).ln.length/\m=(nd (VA gs gs.length) i).ln.length-q/\g 255= .int .i64 q/\Bel w w'/\Bel wA w'/\Blk w' b3 25 #[.slice A l.length c,.slice B fs.length d]/\(∃ z,Blk w' b6 28 #[z])/\Blk w' bu 3 (RWj (VA gs gs.length).length rep)/\Blk w' dc 4 (row (VA gs gs.length).length (fun x=> .bool (bc x)))/\Blk w' b9 87 (kz (VA gs gs.length).length (fun x=> .int .i64 (T2 x)) V2)/\(∀ x,x<(VA gs gs.length).length->RowO w' w.heap.size w'.heap.size (V2 x) (rpL rep (L2 x)))/\MJ l (VA gs gs.length) (PA gs ats) rep bc T2 L2 (i+1) i q) ((nd (VA gs gs.length) i).ln.length) ?_ (fun m g67 w54 hI=>?_)
  ·exact⟨0,L,V,ah _,rfl,rfl,hB,ab,a9,⟨_,a3⟩,a1,a4,a2,fun x hx=>(a8 x hx).up a5,kc⟩
  obtain⟨q,L2,V2,hqq,hmq,kg,hB,ab,a9,⟨z6,a3⟩,a1,a4,a2,a8,co⟩:=hI;obtain⟨bs,bg⟩:∃ b,b=w54.heap.size:=⟨_,rfl⟩
  rw[<- bg]at a8;have a5:bs<=w54.heap.size:=ay bg;refine zQ 255 _ kg nu (zn6 ?_);refine zZ rfl (fun l0=>?_) (fun l0=>?_)
  ·have b7:q<(nd (VA gs gs.length) i).ln.length:=by omega
   obtain⟨lb1,iv,rfl,jo,f2⟩:=c2.at_ ab b7;have ja:=c7.lr i bk _ (aq b7);obtain⟨tx,jd⟩:=O6 ja.1;have cg:(((nd (VA gs gs.length) i).ln[q]'b7)).2.toNat=tx:=by omega
   have c1:tx<(VA gs gs.length).length:=by omega
   have f7:=L7 kb gs.length (ai _);have hLl:(L2 (rep i)).length<=nf:=by
     have h:=JZ (nf:=nf) (lo:=0) (co.srt (rep i)) (fun z hz=>by
       obtain⟨u,hu,_,hm⟩:=co.val _ z hz
       exact f7 u hu z hm) (aP _) oG
     omega
   have hrl:=rpL_len rep (L2 (rep i));refine zn6 ?_;refine wl (x7 (i:=q) U85 gQ rfl rfl b7 rfl) (wl (qw U84 rfl rfl f2 gQ) ?_);refine qQ (cs:=#[.int .i64 0,.int .i64 0]) Vq rfl (fun l8 w55 bh cy hr=>?_);have:=a9.ob hr;have:=a3.ob hr;have:=a1.ob hr;have:=a2.ob hr;have:=a4.ob hr;have ec:=(nLT a5 hr)
   have iy:=hB.ob hr;have c0:=ab.ob hr;replace a8:=zY a8 cy;replace a5:=zJ a5 cy;refine zV bh (fun w56 hq cx=>?_);replace a8:=zY a8 cx;replace a5:=zJ a5 cx;replace bh:=hq;refine zn3 ?_;rw[jd]at bh;refine zn2 ?_;refine wl (Z1 (v0:= .slice _ _ _) (fun v0=>#[v0]) rfl kR) (zn3 ?_);refine zW kR (rtn_any (mg_nodes a2.u gq a8) b2) rfl (fun e' w57 hr=>?_);obtain⟨rfl,cb⟩:=hr;replace cb:=sB cb;replace a8:=zY a8 cb;replace a5:=zJ a5 cb;refine⟨_,rfl,?_⟩;refine zn3 ?_;refine zZ rfl (fun ia=>?_) (fun ia=>?_)
   ·refine zn7 ?_;refine qz (rg [38] 266 24) (fun m g w'=>∃ kk:Nat,kk<=(L2 (rep i)).length/\m=(L2 (rep i)).length-kk/\g 38= .int .i64 kk/\Bel w w'/\Bel wA w'/\Blk w' b3 25 #[.slice A l.length c,.slice B fs.length d]/\(∃ z,Blk w' b6 28 #[z])/\Blk w' bu 3 (RWj (VA gs gs.length).length rep)/\Blk w' dc 4 (row (VA gs gs.length).length (fun x=> .bool (bc x)))/\Blk w' b9 87 (kz (VA gs gs.length).length (fun x=> .int .i64 (T2 x)) V2)/\(∀ x,x<(VA gs gs.length).length->RowO w' w.heap.size bs (V2 x) (rpL rep (L2 x)))/\bs<=w'.heap.size/\Blk w' l8 84 #[.int .i64 (((nd (VA gs gs.length) i).ln[q]'b7)).1,.int .i64 ((tx:Nat):Int)]/\(∀ u (hu:u<(L2 (rep i)).length),u<kk->((L2 (rep i))[u]).1<(((nd (VA gs gs.length) i).ln[q]'b7)).1)) ((L2 (rep i)).length) ?_ (fun m g71 io hI=>?_)
    ·exact⟨0,ah _,rfl,rfl,hB.u,ab.u,a9.u,⟨_,a3.u⟩,a1.u,a4.u,a2.u,a8,a5,bh.u,fun u hu h=>absurd h (aB _)⟩
    obtain⟨kk,jp,hmk,h38,hB,ab,a9,⟨z6,a3⟩,a1,a4,a2,a8,a5,bh,hn⟩:=hI;obtain⟨AV,cV,i2,_,_⟩:=a8 (rep i) b2;refine zQ 38 _ h38 nu (xQ (xQ ?_));refine xv (rg [] 266 22) (fun g w'=>(g 287= .bool (decide (kk<(L2 (rep i)).length/\((L2 (rep i)).getD kk (0,0)).1<(((nd (VA gs gs.length) i).ln[q]'b7)).1)))/\Same [] io w') ?_ (fun g71 im hI=>?_)
    ·have hZ:SameQ [] io io:=Same.refl _ _;refine oJ kR kR (fun w60 ih=>?_);replace a8:=zY a8 ih;replace a5:=zJ a5 ih;replace hZ:=SameQ.trans hZ ih (by simp);refine zn3 ?_;refine ws (x7 (i:=(rep i)) U26 ZW rfl rfl b2 rfl) (zn1 ?_);replace a2:=a2.tr0 ih;refine ws (qj (v:= .slice AV (rpL rep (L2 (rep i))).length cV) U85 rfl rfl (by have h:=a2.cell (ZQ b2);rw[i2]at h;exact h)) (zn3 ?_);refine kX 274 rfl (fun kr=>?_) (fun kr=>?_)
     ·refine yQ 274 rfl rfl (x6 (v:= .slice _ _ _) rfl) (yQ 274 rfl rfl (x6 (v:= .int _ _) rfl) (yQ 274 rfl rfl (x7 (i:=(rep i)) U26 ZW rfl rfl b2 rfl) (yQ 274 rfl rfl (jX U87 Tz dE rfl rfl rfl) (yQ 274 rfl rfl (qj (v:= .slice AV (rpL rep (L2 (rep i))).length cV) U85 rfl rfl (by have h:=a2.cell (ZQ b2);rw[i2]at h;exact h)) (yQ 274 rfl rfl (x6 (v:= .int _ _) rfl) ?_)))));have hrk:=a8 (rep i) b2;rw[i2]at hrk;obtain⟨gV,hgV,hcV⟩:=rowo_at hrk (k:=kk) oG;subst hgV;refine yQ 274 rfl rfl (x7 (i:=kk) U85 gQ rfl rfl oG rfl) (yQ 274 rfl rfl (jX U84 qq dE rfl rfl rfl) (yQ 274 rfl rfl (qj (v:= .int _ _) U3 rfl rfl hcV) (yQ 274 rfl rfl (jX U84 qq dE rfl rfl rfl) (yQ 274 rfl rfl (qj (v:= .int _ _) U3 rfl rfl (bh.u.cell rfl)) (yQ 274 rfl rfl (V4 rfl rfl) (zn1 ?_))))));refine uz ?_;refine e_R ⟨agA,?_⟩;refine⟨?_,hZ⟩;exact clA
     refine uJ ?_;refine uz ?_;refine e_R ⟨agA,?_⟩;refine⟨?_,hZ⟩;exact clA
    obtain⟨kf,ca⟩:=hI;replace a8:=zY a8 ca;replace a5:=zJ a5 ca;refine vZ 287 _ kf nu (e_S ?_);refine zZ rfl (fun fj=>?_) (fun fj=>?_)
    ·refine zn5 ?_;refine wl (uW (c:=((kk+1:Nat):Int)) rfl rfl oG oG) (zn3 ?_);refine x9 ((L2 (rep i)).length-(kk+1)) oG agA ?_;exact⟨kk+1,by omega,rfl,rfl,hB.u,ab.u,a9.u,⟨_,a3.u⟩,a1.u,a4.u,a2.u,a8,a5,bh.u,low_get hn fj⟩
    have ht:=low_end fj;obtain⟨zz,hzz⟩:∃ z,z=im.heap.size:=⟨_,rfl⟩
    refine zn5 ?_;replace hB:=hB.tr0 ca;have ge:=Bel.size hB;refine c_monoZO 21 (rg [] 290 21) 18 (fun bz ix v la ha wv=>match ix with|0=>v= .slice (some ⟨b9,0,none⟩) (VA gs gs.length).length (VA gs gs.length).length|1=>v= .int .i64 ((rep i:Nat):Int)|2=>v= .slice (some ⟨b9,0,none⟩) (VA gs gs.length).length (VA gs gs.length).length|3=>v= .int .i64 ((rep i:Nat):Int)|4=>v= .pointer (some ⟨b9,0+rep i*2,none⟩)|5=>v= .pointer (some ⟨b9,0+rep i*2+1,none⟩)|6=>v= .slice AV (rpL rep (L2 (rep i))).length cV|7=>(bz=false->(∃(AC:Option Addr) (cC:Nat),v= .slice AC (rpL rep (L2 (rep i))).length cC/\Own wv w.heap.size 84 2 AC (rpL rep (L2 (rep i))).length cC (lnV (rpL rep (L2 (rep i))))/\(∀ g∈aL AC,im.heap.size<=g)/\∀ g∈aL AC,la<=g/\g<ha))|8=>v= .int .i64 ((kk:Nat):Int)|9=>v= .pointer (some ⟨l8,0,none⟩)|10=>v= .int .i64 (((nd (VA gs gs.length) i).ln[q]'b7)).1|11=>v= .slice (some ⟨bu,0,none⟩) (VA gs gs.length).length (VA gs gs.length).length|12=>v= .pointer (some ⟨l8,1,none⟩)|13=>v= .int .i64 ((tx:Nat):Int)|14=>v= .pointer (some ⟨bu,0+tx*1,none⟩)|15=>v= .int .i64 ((rep tx:Nat):Int)|16=>v= .agg #[.int .i64 (((nd (VA gs gs.length) i).ln[q]'b7)).1,.int .i64 ((rep tx:Nat):Int)]|17=>(bz=false->(∃ b:Nat,v= .slice (some ⟨b,0,none⟩) 1 1/\Blk wv b 84 #[.int .i64 (((nd (VA gs gs.length) i).ln[q]'b7)).1,.int .i64 ((rep tx:Nat):Int)]/\la<=b/\b<ha))|18=>∃(A4:Option Addr) (c4:Nat),v= .slice A4 ((rpL rep (L2 (rep i))).length+1) c4/\Own wv w.heap.size 84 2 A4 ((rpL rep (L2 (rep i))).length+1) c4 (lnV (Vw (rpL rep (L2 (rep i))) kk ((((nd (VA gs gs.length) i).ln[q]'b7)).1,((rep tx:Nat):Int))))|19=>v= .pointer (some ⟨b9,0+rep i*2,none⟩)|20=>v= .pointer (some ⟨b9,0+rep i*2+1,none⟩)|_=>True) kR kR ?_ ?_ ?_ dE ?_
    ·intro bz ix v la ha wv wv2 h t45
     match ix,h with
     | 0,h=>exact h
     | 1,h=>exact h
     | 2,h=>exact h
     | 3,h=>exact h
     | 4,h=>exact h
     | 5,h=>exact h
     | 6,h=>exact h
     | 7,h=>
      intro a5;obtain⟨AC,cC,fg,et,j2,jt⟩:=(show (bz=false->(∃(AC:Option Addr) (cC:Nat),v= .slice AC (rpL rep (L2 (rep i))).length cC/\Own wv w.heap.size 84 2 AC (rpL rep (L2 (rep i))).length cC (lnV (rpL rep (L2 (rep i))))/\(∀ g∈aL AC,im.heap.size<=g)/\∀ g∈aL AC,la<=g/\g<ha))from h) a5;exact⟨AC,cC,fg,et.tr0 t45,j2,jt⟩
     | 8,h=>exact h
     | 9,h=>exact h
     | 10,h=>exact h
     | 11,h=>exact h
     | 12,h=>exact h
     | 13,h=>exact h
     | 14,h=>exact h
     | 15,h=>exact h
     | 16,h=>exact h
     | 17,h=>
      intro a5;obtain⟨fn,ff,bm,dk⟩:=(show (bz=false->(∃ b:Nat,v= .slice (some ⟨b,0,none⟩) 1 1/\Blk wv b 84 #[.int .i64 (((nd (VA gs gs.length) i).ln[q]'b7)).1,.int .i64 ((rep tx:Nat):Int)]/\la<=b/\b<ha))from h) a5;exact⟨fn,ff,bm.tr0 t45,dk⟩
     | 18,h=>
      obtain⟨A4,c4,fe,gp⟩:=h;exact⟨A4,c4,fe,gp.tr0 t45⟩
     | 19,h=>exact h
     | 20,h=>exact h
     | _+21,h=>exact trivial
    ·intro bz ix o jr ey b1 gg wx la ha it hd;replace bh:=bh.tr0 ca
     match ix,jr,ey,b1 with
     | 0,_,_,b1=>
      cases sI b1;refine qk (x6 (v:= .slice _ _ _) rfl) ⟨Same.refl _ _,?_⟩;exact rfl
     | 1,_,_,b1=>
      cases sI b1;refine qk (x6 (v:= .int _ _) rfl) ⟨Same.refl _ _,?_⟩;exact rfl
     | 2,_,_,b1=>
      cases sI b1;refine qk (x6 (v:= .slice _ _ _) rfl) ⟨Same.refl _ _,?_⟩;exact rfl
     | 3,_,_,b1=>
      cases sI b1;refine qk (x6 (v:= .int _ _) rfl) ⟨Same.refl _ _,?_⟩;exact rfl
     | 4,_,_,b1=>
      cases sI b1;refine aZ 292 (hd 2 a6) (aZ 293 (hd 3 a6) ?_);refine qk (x7 (i:=(rep i)) U26 ZW rfl rfl b2 rfl) ⟨Same.refl _ _,?_⟩;exact rfl
     | 5,_,_,b1=>
      cases sI b1;refine aZ 294 (hd 4 a6) ?_;refine qk (jX U87 Tz dE rfl rfl rfl) ⟨Same.refl _ _,?_⟩;exact rfl
     | 6,_,_,b1=>
      cases sI b1;refine aZ 295 (hd 5 a6) ?_;replace a2:=a2.tr0 (ca.t it);refine qk (qj (v:= .slice AV (rpL rep (L2 (rep i))).length cV) U85 rfl rfl (by have h:=a2.cell (ZQ b2);rw[i2]at h;exact h)) ⟨Same.refl _ _,?_⟩;exact rfl
     | 7,_,_,b1=>
      cases sI b1;have gi:=it;replace a8:=zY a8 it;have jg:=nLT ge gi.size;refine aZ 296 (hd 6 a6) ?_;refine vw kR (clonel_any AV cV (rpL rep (L2 (rep i))) wx (by have h:=a8 (rep i) b2;rw[i2]at h;exact h.links.2) oG) rfl (fun e' w2 hr=>?_);obtain⟨⟨AC,cC,rfl,et⟩,t47⟩:=hr;exact⟨_,rfl,sB t47,(fun _=>⟨_,_,rfl,et.low jg,fun g hg=>nLT gi.size (et.lt g hg).1,fun g hg=>et.lt g hg⟩)⟩
     | 8,_,_,b1=>
      cases sI b1;refine qk (x6 (v:= .int _ _) rfl) ⟨Same.refl _ _,?_⟩;exact rfl
     | 9,_,_,b1=>
      cases sI b1;refine qk (jX U84 qq dE rfl rfl rfl) ⟨Same.refl _ _,?_⟩;exact rfl
     | 10,_,_,b1=>
      cases sI b1;refine aZ 299 (hd 9 a6) ?_;refine qk (qj (v:= .int _ _) U3 rfl rfl (bh.u.cell rfl)) ⟨Same.refl _ _,?_⟩;exact rfl
     | 11,_,_,b1=>
      cases sI b1;refine qk (x6 (v:= .slice _ _ _) rfl) ⟨Same.refl _ _,?_⟩;exact rfl
     | 12,_,_,b1=>
      cases sI b1;refine qk (jX U84 qq dE rfl rfl rfl) ⟨Same.refl _ _,?_⟩;exact rfl
     | 13,_,_,b1=>
      cases sI b1;refine aZ 302 (hd 12 a6) ?_;refine qk (qj (v:= .int _ _) U3 rfl rfl (bh.u.cell rfl)) ⟨Same.refl _ _,?_⟩;exact rfl
     | 14,_,_,b1=>
      cases sI b1;refine aZ 301 (hd 11 a6) (aZ 303 (hd 13 a6) ?_);refine qk (x7 (i:=tx) U62 qq rfl rfl c1 rfl) ⟨Same.refl _ _,?_⟩;exact rfl
     | 15,_,_,b1=>
      cases sI b1;refine aZ 304 (hd 14 a6) ?_;refine qk (qj (v:= .int _ _) U3 rfl rfl (a1.u.cell (YW c1))) ⟨Same.refl _ _,?_⟩;exact rfl
     | 16,_,_,b1=>
      cases sI b1;refine aZ 300 (hd 10 a6) (aZ 305 (hd 15 a6) ?_);refine qk (Q5 (v0:= .int _ _) (v1:= .int _ _) (fun v0 v1=>#[v0,v1]) rfl rfl kR) ⟨Same.refl _ _,?_⟩;exact rfl
     | 17,_,_,b1=>
      cases sI b1;refine aZ 306 (hd 16 a6) ?_;refine jq (fun ops Q K=>?_);refine qZ (cs:=#[_,_]) [(0,.agg _)] rfl U85 gQ Vq dE dE kR rfl (fun fn w61 bm t48 hr=>?_);exact K _ _ ⟨t48,(fun _=>⟨_,rfl,bm,hr,bm.lt⟩)⟩
     | 18,_,ey,_=>exact absurd rfl ey
     | 19,_,_,b1=>
      cases sI b1;refine aZ 290 (hd 0 a6) (aZ 291 (hd 1 a6) ?_);refine qk (x7 (i:=(rep i)) U26 ZW rfl rfl b2 rfl) ⟨Same.refl _ _,?_⟩;exact rfl
     | 20,_,_,b1=>
      cases sI b1;refine aZ 309 (hd 19 a6) ?_;refine qk (jX U87 Tz dE rfl rfl rfl) ⟨Same.refl _ _,?_⟩;exact rfl
     | _+21,jr,_,_=>exact absurd jr oG
    ·intro o b1 gg wx la ha ir hd hI;cases sI b1;have gi:=ir;replace a8:=zY a8 ir;replace a5:=zJ a5 ir;obtain⟨AC,cC,fg,et,j2,jt⟩:=(hd 7 (zj kR)) rfl;obtain⟨fn,ff,bm,dk⟩:=(hd 17 (zj kR)) rfl;refine zq 297 _ fg nu (aZ 298 (hd 8 a6) (zq 307 _ ff nu ?_));refine vw kR (insl_any (k:=kk) (x:=((((nd (VA gs gs.length) i).ln[q]'b7)).1,((rep tx:Nat):Int))) wx et bm (fun g hg e=>by have h1:=jt g hg;have h2:=hI 7 17 (zj kR) (zj kR) dE;omega) oG oG (nLT ge gi.size)) rfl (fun e' w2 hr=>?_);obtain⟨A4,c4,rfl,gp,ck,_⟩:=hr;refine⟨_,rfl,gi.freshL ck (fun g hg=> .inr (j2 g hg)),ck.size,⟨_,_,rfl,gp⟩,fun kx v la ha ey h=>?_⟩
     match kx,ey,h with
     | 0,_,h=>exact h
     | 1,_,h=>exact h
     | 2,_,h=>exact h
     | 3,_,h=>exact h
     | 4,_,h=>exact h
     | 5,_,h=>exact h
     | 6,_,h=>exact h
     | 7,_,_=>exact fun h=>nomatch h
     | 8,_,h=>exact h
     | 9,_,h=>exact h
     | 10,_,h=>exact h
     | 11,_,h=>exact h
     | 12,_,h=>exact h
     | 13,_,h=>exact h
     | 14,_,h=>exact h
     | 15,_,h=>exact h
     | 16,_,h=>exact h
     | 17,_,_=>exact fun h=>nomatch h
     | 18,ey,_=>exact absurd rfl ey
     | 19,_,h=>exact h
     | 20,_,h=>exact h
     | _+21,_,_=>exact trivial
    intro gg ig la ha cw hR;replace a8:=zY a8 cw;replace a5:=zJ a5 cw;obtain⟨A4,c4,fe,gp⟩:=hR 18 dE;obtain⟨s4,hs4⟩:∃ s,s=ig.heap.size:=⟨_,rfl⟩
    have j3:s4<=ig.heap.size:=ay hs4;obtain⟨V3,hV3⟩:∃ V3:Nat->Value,V3=fun x=>if x=rep i then .slice A4 ((rpL rep (L2 (rep i))).length+1) c4 else V2 x:=⟨_,rfl⟩
    have i4:=co.new bk b7 ia jp hn ht;have es:RowO ig w.heap.size s4 (.slice A4 ((rpL rep (L2 (rep i))).length+1) c4) (rpL rep (Vw (L2 (rep i)) kk (((nd (VA gs gs.length) i).ln[q]'b7)))):=by
      rw[rpL_ins,cg];have h:=RowO.of (lo:=w.heap.size) (xs:=Vw (rpL rep (L2 (rep i))) kk ((((nd (VA gs gs.length) i).ln[q]'b7)).1,((rep tx:Nat):Int))) (ai _) (A:=A4) (cap:=c4) (w:=ig) (by rw[insL_len];exact gp);rw[insL_len,<- hs4]at h;exact h
    refine x8 308 _ fe nu (x8 310 _ (hR 20 dE) nu ?_);replace a2:=a2.tr0 (ca.t cw);refine xx (v:= .slice _ _ _) a2 rfl rfl Tz (by rw[u5];show 0+rep i*2+1<(VA gs gs.length).length*2;omega) rfl M8 (fun w63 hq cr=>?_);replace a8:=zY a8 cr;replace a5:=zJ a5 cr;replace es:=es.tr cr (fun g hg=>by rw[List.mem_singleton.1 hg];exact .inr ⟨_,_,a2,by decide⟩);replace j3:=zJ j3 cr;replace a2:=hq;rw[<- hV3]at a2;have gl:(∀ x,x<(VA gs gs.length).length->RowO w63 w.heap.size w63.heap.size (V3 x) (rpL rep ((fun x=>if x=rep i then Vw (L2 (rep i)) kk (((nd (VA gs gs.length) i).ln[q]'b7))else L2 x) x))):=fun x hx=>by
      rw[hV3];by_cases e:x=rep i
      · subst e
        simp only[if_true];exact es.up j3
      · simp only[if_neg e]
        exact(a8 x hx).up a5
    refine zn7 ?_;refine x9 ((nd (VA gs gs.length) i).ln.length-(q+1)) oG agA ?_;replace a9:=(a9.tr0 (ca.t cw)).tr1 cr oG;replace a3:=(a3.tr0 (ca.t cw)).tr1 cr oG;replace ab:=(ab.tr0 (ca.t cw)).tr1 cr b4;replace a1:=(a1.tr0 (ca.t cw)).tr1 cr oG;replace a4:=(a4.tr0 (ca.t cw)).tr1 cr oG;replace hB:=(hB.tr0 cw).tr1 cr ce
    first
     | exact⟨q+1,_,V3,by omega,rfl,rfl,hB,ab,a9,⟨_,a3⟩,a1,a4,a2,gl,i4⟩
     | exact⟨q+1,L2,V2,by omega,rfl,rfl,hB,ab,a9,⟨_,a3⟩,a1,a4,a2,fun x hx=>(a8 x hx).up a5,i3⟩
   have i3:=co.old b7 oG;refine zn7 ?_;refine x9 ((nd (VA gs gs.length) i).ln.length-(q+1)) oG agA ?_;replace hB:=((hB.tr0 cy).tr1 cx iy).tr0 cb;replace a9:=((a9.tr0 cy).tr1 cx oG).tr0 cb;replace a3:=((a3.tr0 cy).tr1 cx oG).tr0 cb;replace ab:=((ab.tr0 cy).tr1 cx c0).tr0 cb;replace a1:=((a1.tr0 cy).tr1 cx oG).tr0 cb;replace a2:=((a2.tr0 cy).tr1 cx oG).tr0 cb;replace a4:=((a4.tr0 cy).tr1 cx oG).tr0 cb
   first
    | exact⟨q+1,_,V3,by omega,rfl,rfl,hB,ab,a9,⟨_,a3⟩,a1,a4,a2,gl,i4⟩
    | exact⟨q+1,L2,V2,by omega,rfl,rfl,hB,ab,a9,⟨_,a3⟩,a1,a4,a2,fun x hx=>(a8 x hx).up a5,i3⟩
  have jh:q=(nd (VA gs gs.length) i).ln.length:=by omega
  subst jh;refine yj ?_;refine x9 ((VA gs gs.length).length-(i+1)) oG agA ?_;exact⟨i+1,bc,T2,L2,V2,by omega,rfl,rfl,hB,ab,a9,⟨_,a3⟩,a1,a4,a2,fun x hx=>(a8 x hx).up a5,co.next⟩
 have js:i=(VA gs gs.length).length:=by omega
 subst js
 have hus:=MJ.us fb fu c7.lr (fun p hpm=>by
   obtain⟨k,hk,rfl⟩:=ax.1 hpm;have hk2:=az.1 hk;have h1:=i1 k hk2;have h2:=VA_le (gs:=gs) (gs.length-1) (k:=1) oG;rw[show 1+(gs.length-1)=gs.length by omega,XX hp,Cq,List.nil_append,List.length_map]at h2;have h3:=VA_lt ij (show k+1<gs.length by omega);have e1:ats.getD k 0=ats[k]:=by simp[List.getD,hk2]
   simp only[e1]
   omega)
 have hNG:NodesIn g1 (some ⟨b9,0,none⟩) (yx (VA gs gs.length).length rep T L):=by
   rw[<- mg_pool fb.cs.id fu];exact mg_nodes a2 gq a8
 have hrl:=fb.cs.lt 0 fq;have f7:=L7 kb gs.length (ai _);have hGK:=F2 (nf:=nf) hus fq gq f7;refine zn8 ?_;refine wl (Z1 (v0:= .slice _ _ _) (fun v0=>#[v0]) rfl kR) (wmS rfl (wl (x7 (i:=0) U62 qq rfl rfl fq rfl) (wl (qj (v:= .int _ _) U3 rfl rfl (a1.cell (YW fq))) ?_)));have z6:=a3.lt;have jf:=Bel.size hB;refine zW kR (rfromn_any (some ⟨b9,0,none⟩) (VA gs gs.length).length nf (yx (VA gs gs.length).length rep T L) (rep 0) (VA gs gs.length).length _ hNG (vk _ _ _ _) hGK hnf (by rw[vk];exact hrl)) rfl (fun e' ie hr=>?_);obtain⟨⟨o,AN,cn,hD,hok,rfl,hN⟩,t52⟩:=hr;replace t52:=sB t52;have i8:FrSame (g1).heap.size ie ie:=FrSame.refl _ _;obtain⟨Z0,hZ0⟩:∃ z,z=(g1).heap.size:=⟨_,rfl⟩
 rw[<- hZ0]at hN i8 z6;obtain⟨wZ,hwZ⟩:∃ z,z=ie:=⟨_,rfl⟩
 have hz0:w.heap.size<=Z0:=by rw[hZ0];exact jf
 replace i8:FrSame Z0 wZ ie:=by rw[hwZ];exact FrSame.refl _ _
 rw[<- hwZ]at hN;refine⟨_,rfl,?_⟩;refine zV a3.u (fun w65 hq t53=>?_);replace i8:=i8.of t53 (fun g hg=>by rw[List.mem_singleton.1 hg];omega);replace a3:=hq;refine zn4 ?_;refine uK (.inl rfl) rfl (zX U28 rfl rfl a3.range0 yY) rfl ?_;have k7:(yq (yx (VA gs gs.length).length rep T L) o).length=o.length:=uQ _ _;exact⟨⟨AN,_,cn,true,ret_join k7,fun w2 hf=>hN w2 (i8.then hf hz0),.inl ⟨rfl,rep,rep,_,T,L,o,hus,hD,rfl⟩⟩,hB.u⟩
end Go.Proofs.YtndbjnkilegebaaGreatDoor
