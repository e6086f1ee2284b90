/- What these functions compute, at every world: graph.From, , cmp.isNaN[int], cmp.Compare[int], graph.Target$1, slices.BinarySearchFunc[[]api.Link,api.Link,int], graph.Target, ref3.Target; and plain laws. -/
import Derived.Test.YtmfiholmfieieaaDoorU
import Derived.Test.YtmfiholmfieieaaDoorZst
import Derived.Test.YtmfiholmfieieaaDoorGro
import Derived.Test.YtmfiholmfieieaaDoorDfs
namespace Go.Proofs.YtmfiholmfieieaaDoor
open Go.RowKit
variable {a b is o o2:List Nat}{fs:List Ft}{g:List Nd}{i x:Nat}{l:List Ty}
theorem in107:(Tryd.prog.info? 107).map (fun i=>(i.zero,i.size,i.bytes))=some (some (.agg #[.int .i64 0,.slice none 0 0]),2,32):=by kernel_rfl
theorem in109:(Tryd.prog.info? 109).map (fun i=>(i.zero,i.size,i.bytes))=some (some (.agg #[.int .i64 0,.int .i64 0]),2,16):=by kernel_rfl
theorem sz148:(Tryd.prog.info? 148).map (·.size)=some 1:=by kernel_rfl
theorem ze148:(Tryd.prog.info? 148).map (·.zero)=some (some (.nilFunc)):=by kernel_rfl
theorem Iy:(Tryd.prog.info? 30).map (·.zero)=some (some (.agg #[.slice none 0 0])):=by kernel_rfl
theorem ze36:(Tryd.prog.info? 36).map (·.zero)=some (some (.slice none 0 0)):=by kernel_rfl
set_option maxHeartbeats 4000000 in
theorem from4_any(G:Option Addr)(cg nf:Nat)(gr:List Nd)(r:Nat)(w:World)(hG:NodesIn w G gr)(hk:CW nf gr)(hnf:nf<=1000)(hr:r<gr.length):Calls Tryd.prog 55 #[.agg #[.slice G gr.length cg],.int .i64 r] w fun e w'=>(∃ o A,DL gr [r] [] o/\OOk gr.length o/\e= .returned (.agg #[.slice A o.length o.length])/\GrD w' w.heap.size w'.heap.size A o.length (xJ gr o) (fun x=>(nd (xJ gr o) x).ty))/\Bel w w':=by
 have hn6:=hk.le;have hrg:=B9 hk;refine enT Tryd.func55 Tryd.ntmps55 rfl rfl fun hB=>?_;refine zn2 ?_;refine qZ (cs:=#[_]) rfl (fun b2 w1 a9 s1 hr=>?_);have lo2:=hB.ob hr;clear hr;refine qw (cs:=#[.slice none 0 0]) Iy rfl (fun b4 w2 a8 s2 hr=>?_);have:=a9.ob hr;have lo4:=hB.u.ob hr;clear hr;refine zn7 ?_;refine P6 (m:=gr.length) U36 in3 rfl rfl rfl oG oG (fun bk w3 a1 s3 hr=>?_);have:=a9.u.ob hr;have:=a8.ob hr;have c2:=hB.u.ob hr;clear hr;refine qw (cs:=#[.slice none 0 0]) ze36 rfl (fun b5 w4 a5 s4 hr=>?_);have:=a9.u.ob hr;have:=a8.u.ob hr;have:=a1.ob hr;have lo5:=hB.u.ob hr;clear hr;refine xj (v:= .slice _ _ _) a5 rfl rfl J3 (by first|decide|simp) rfl rfl (fun w5 hq s5=>?_);replace a5:=hq;refine gX ?_;refine qk (rgq [6] 20 7) (fun m g w'=>∃ k:Nat,k<=gr.length/\m=gr.length-k/\g 20= .int .i64 k/\Bel w w'/\Blk w' b2 30 #[.slice G gr.length cg]/\Blk w' b4 30 #[.slice none 0 0]/\Blk w' b5 36 #[.slice (some ⟨bk,0,none⟩) gr.length gr.length]/\Blk w' bk 3 (row gr.length (fun x=> .int .i64 (if x<k then -1 else 0)))) (gr.length) ?_ (fun m g3 w6 hI=>?_)
 ·refine⟨0,ad _,rfl,rfl,hB.u,a9.u,a8.u,a5,?_⟩;replace a1:=(a1.tr0 s4).tr1 s5 oG;rw[jX (g':=fun _=> .int .i64 0) (fun x _=>by simp)];exact a1
 obtain⟨k,hkk,hm,h20,hB,a9,a8,a5,a1⟩:=hI;refine zZ 20 _ h20 nu (zn6 ?_);refine zK rfl (fun c21=>?_) (fun c21=>?_)
 ·have bt:k<gr.length:=by omega
  refine VQ ?_;refine xj (v:= .int _ _) a1 rfl rfl x8 (by rw[row_size];omega) rfl Q1 (fun w7 hq s6=>?_);replace a1:=hq
  rw[jX (g':=fun x=> .int .i64 (if x<k+1 then -1 else 0)) (fun x _=>by
    by_cases e:x=k
    · subst e;simp
    · have e1:(x<k+1)↔(x<k):=by omega
      simp[e,e1])]at a1
  refine zn7 ?_;refine xY (gr.length-(k+1)) oG agA ?_;exact⟨k+1,by omega,rfl,rfl,hB.u,a9.u,a8.u,a5.u,a1⟩
 have cp:k=gr.length:=by omega
 rw[cp,jX (g':=fun x=> .int .i64 (uk [] x)) (fun x hx=>by simp[hx,numO_nil])]at a1;refine zn7 ?_;refine qw (cs:=#[.slice none 0 0]) ze36 rfl (fun b7 w8 ba s7 hr=>?_);have:=a9.ob hr;have:=a8.ob hr;have:=a1.ob hr;have:=a5.ob hr;have lo7:=hB.ob hr;clear hr;refine zn4 ?_;refine qw (cs:=#[.nilFunc]) ze148 rfl (fun b8 w9 cc s8 hr=>?_);have:=a9.u.ob hr;have:=a8.u.ob hr;have:=a1.u.ob hr;have:=a5.u.ob hr;have:=ba.ob hr;have lo8:=hB.u.ob hr;clear hr;refine zn4 ?_;refine wl (LY rfl) ?_;refine xj (v:= .func _ _ _) cc rfl rfl sz148 (by first|decide|simp) rfl rfl (fun w10 hq s9=>?_);replace cc:=hq;refine zn3 ?_;obtain⟨base,an⟩:∃ b,b=w10.heap.size:=⟨_,rfl⟩
 replace hB:=(hB.tr0 (s7.t s8)).tr1 s9 lo8;have hlo:w.heap.size<=base:=by rw[an];exact Bel.size hB
 have hbs:base<=w10.heap.size:=aF an;replace a5:=(a5.tr0 (s7.t s8)).tr1 s9 oG;have lt5:b5<base:=by rw[an];exact a5.lt
 replace ba:=(ba.tr0 s8).tr1 s9 oG;have lt7:b7<base:=by rw[an];exact ba.lt
 replace a9:=(a9.tr0 (s7.t s8)).tr1 s9 oG;have lt2:b2<base:=by rw[an];exact a9.lt
 replace a8:=(a8.tr0 (s7.t s8)).tr1 s9 oG;have lt4:b4<base:=by rw[an];exact a8.lt
 have lt8:b8<base:=by rw[an];exact cc.lt
 replace a1:=(a1.tr0 (s7.t s8)).tr1 s9 oG;have cj:bk<base:=by rw[an];exact a1.lt
 refine zn3 ?_;refine xw rfl kR (visit_any (w0:=w) (G:=G) (cg:=cg) (bP:=b5) (bQ:=b7) (bG:=b2) (bV:=b8) (bn:=bk) (base:=base) hG hk hlo lo5 lo7 lo2 lo8 c2 lt5 lt7 lt2 lt8 cj oG oG oG oG oG oG oG gr.length [] none 0 _ r (OW _ _) hr hB hbs (OOk.nil _) a5 ba a9 cc a1 (Own.nil _ _ _ _)) rfl rfl (fun e' w11 hr=>?_);obtain⟨rfl,o,AO,bu,hD,cr,ao,c5,hC⟩:=hr;replace hB:=hB.chg hC hlo (by simp[lo7,c2])
 replace a9 := a9.chg hC lt2 (by
   have:b2 ≠ b7 := by omega
   have:b2≠bk:=by omega
   simp[*])
 replace a8 := a8.chg hC lt4 (by
   have:b4 ≠ b7 := by omega
   have:b4≠bk:=by omega
   simp[*])
 replace a5 := a5.chg hC lt5 (by
   have:b5 ≠ b7 := by omega
   have:b5≠bk:=by omega
   simp[*])
 replace ba:=cr;replace a1:=c5;obtain⟨cn,_,_⟩:=hD.ok hrg (fun i hi=>by rw[List.mem_singleton.1 hi];exact hr) (OOk.nil _);have hol:=cn.cnt;refine⟨_,rfl,?_⟩;refine zn6 ?_;refine wl_mk (m:=o.length) U28 in107 rfl rfl oG oG (fun bm w12 a3 bx hr=>?_);have:=a9.ob hr;have:=a8.ob hr;have:=a1.ob hr;have:=a5.ob hr;have:=ba.ob hr;have b1:=ao.ob hr;have ck:=hB.ob hr;clear hr;refine wl (MZ (v0:= .slice _ _ _) (fun v0=>#[v0]) rfl kR) ?_;refine yx (cs:=#[.slice none 0 0]) Iy rfl (fun _=>rfl) (fun _=>rfl) gY rfl y5 (fun b9 w14 bb bw hr=>?_);have:=a3.ob hr;clear hr;refine zn4 ?_;replace hB:=hB.tr0 (bx.t bw);replace a9:=a9.tr0 (bx.t bw);replace a8:=a8.tr0 (bx.t bw);replace a1:=a1.tr0 (bx.t bw);replace a5:=a5.tr0 (bx.t bw);replace ba:=ba.tr0 (bx.t bw);replace ao:=ao.tr0 (bx.t bw);replace a3:=a3.tr0 bw;replace a3:Blk w14 bm 107 (ky o.length (fun _=> .int .i64 0) (fun _=> .slice none 0 0)):=by
   have h:=a3;rw[show (Value.agg #[.int .i64 0,.slice none 0 0]).cells= #[.int .i64 0,.slice none 0 0]from rfl,Bw]at h;exact h
 refine zn7 ?_;refine qk (rgq [10,11,13] 37 50) (fun m g w'=>∃(k:Nat) (V:Nat->Value),k<=o.length/\m=o.length-k/\g 37= .int .i64 k/\Bel w w'/\Blk w' b2 30 #[.slice G gr.length cg]/\Blk w' b4 30 #[.slice none 0 0]/\Blk w' b5 36 #[.slice (some ⟨bk,0,none⟩) gr.length gr.length]/\Blk w' b7 36 #[.slice AO o.length bu]/\Blk w' bk 3 (row gr.length (fun x=> .int .i64 (uk o x)))/\Blk w' b9 30 #[.slice (some ⟨bm,0,none⟩) o.length o.length]/\Own w' base 3 1 AO o.length bu (oV o)/\Blk w' bm 107 (ky o.length (fun x=>if x<k then .int .i64 (nd gr (o.getD x 0)).ty else .int .i64 0) (fun x=>if x<k then V x else .slice none 0 0))/\(∀ x,x<k->RowO w' w.heap.size w'.heap.size (V x) ((nd gr (o.getD x 0)).ln.map (Iw o)))/\Dis V k) (o.length) ?_ (fun m g13 cd hI=>?_)
 ·refine⟨0,fun _=> .slice none 0 0,ad _,rfl,rfl,hB,a9,a8,a5,ba,a1,bb,ao,?_,fun x hx=>by omega,fun x y hx=>by omega⟩;rw[ZJ (f':=fun _=> .int .i64 0) (h':=fun _=> .slice none 0 0) (fun x _=>by simp) (fun x _=>by simp)];exact a3
 obtain⟨k,V,hkk,hm,h37,hB,a9,a8,a5,ba,a1,bb,ao,a3,a2,c1⟩:=hI;obtain⟨bs,b6⟩:∃ b,b=cd.heap.size:=⟨_,rfl⟩
 rw[<- b6]at a2;have b3:bs<=cd.heap.size:=aF b6;have c3:w.heap.size<=bs:=by rw[b6];exact Bel.size hB
 have lu2:b2<bs:=by rw[b6];exact a9.lt
 have lu4:b4<bs:=by rw[b6];exact a8.lt
 have lu5:b5<bs:=by rw[b6];exact a5.lt
 have lu7:b7<bs:=by rw[b6];exact ba.lt
 have lu17:bk<bs:=by rw[b6];exact a1.lt
 have lu9:b9<bs:=by rw[b6];exact bb.lt
 have lu33:bm<bs:=by rw[b6];exact a3.lt
 have luo:∀ g∈aL AO,g<bs:=fun g hg=>by rw[b6];exact(ao.lt g hg).2
 refine zZ 37 _ h37 nu (zn6 ?_);refine zK rfl (fun c38=>?_) (fun c38=>?_)
 ·have bt:k<o.length:=by omega
  obtain⟨i,co,ab⟩:∃ i:Nat,o[k]'bt=i/\i<gr.length:=⟨_,rfl,cn.lt _ (ap bt)⟩
  have hgd:o.getD k 0=i:=by simp[List.getD,bt,co]
  have hnd:=yv ab
  obtain⟨q,rfl,hqb,hql,hqc⟩:=ao.cell (by
    intro h0;have:=congrArg List.length h0;simp[oV]at this;rw[this]at bt
    simp at bt)
  have hz:cd.cell? ⟨q,0+k*1,none⟩=some (.int .i64 (i:Int)):=by
    have:=hqc k (.int .i64 (i:Int)) (by simp[oV,bt,co])
    simpa using this
  obtain⟨nb,no,LA,lc,rfl,hnb,hnr,hln⟩:=hG.at_ (Below.refl _ _:Bel w w) ab;have hmx:=hln.1;unfold vJ at hmx;have hfw:=hk.few i ab;refine zn8 ?_;refine wl (qW (v:= .int _ _) U3 rfl rfl hz) (zn5 ?_);refine K6 11 kR kR (fun w16 cb=>?_);replace a2:=qq a2 cb;replace b3:=zV b3 cb;refine zn6 ?_;refine ws (xW (i:=i) U28 I1 rfl rfl ab rfl) (zn1 ?_);refine ws (qW (v:= .int _ _) U3 rfl rfl (hB.u.cell hnb (hnr 0 _ rfl))) (zn2 ?_);refine Jy ?_;replace a3:=a3.tr0 cb;refine xj (v:= .int _ _) a3 rfl rfl x8 (by rw[Y6];show 0+k*2+0<o.length*2;omega) rfl Bv (fun w17 hq cf=>?_);replace ao:=ao.tr0 cb;replace ao:=ao.tr1 cf (fun g hg=>by have:=b1 g hg;omega);replace a2:=qq a2 cf;replace b3:=zV b3 cf;replace a3:=hq
  rw[ZJ (f':=(fun x=>if x<k+1 then .int .i64 (nd gr (o.getD x 0)).ty else .int .i64 0)) (h':=fun x=>if x=k then .slice none 0 0 else if x<k then V x else .slice none 0 0) (fun x _=>by
    by_cases e:x=k
    · subst e;simp[List.getD,bt,co,hnd]
    · have e1:(x<k+1)↔(x<k):=by omega
      simp[e,e1]) (fun x _=>by
    by_cases e:x=k
    · subst e;simp
    · simp[e])]at a3
  refine zn7 ?_;refine wl (xW (i:=i) U28 I1 rfl rfl ab rfl) (zn1 ?_);refine wl (qW (v:= .slice _ _ _) jx rfl rfl (hB.u.cell hnb (hnr 1 _ rfl))) (zn5 ?_);refine qk (rgq [13] 60 26) (fun m g w'=>∃(j:Nat) (A5:Option Addr) (be:Nat),j<=(gr[i]'ab).ln.length/\m=(gr[i]'ab).ln.length-j/\g 60= .int .i64 j/\Bel w w'/\Blk w' b2 30 #[.slice (some ⟨nb,no,none⟩) gr.length cg]/\Blk w' b4 30 #[.slice none 0 0]/\Blk w' b5 36 #[.slice (some ⟨bk,0,none⟩) gr.length gr.length]/\Blk w' b7 36 #[.slice (some ⟨q,0,none⟩) o.length bu]/\Blk w' bk 3 (row gr.length (fun x=> .int .i64 (uk o x)))/\Blk w' b9 30 #[.slice (some ⟨bm,0,none⟩) o.length o.length]/\Own w' base 3 1 (some ⟨q,0,none⟩) o.length bu (oV o)/\Blk w' bm 107 (ky o.length (fun x=>if x<k+1 then .int .i64 (nd gr (o.getD x 0)).ty else .int .i64 0) (fun x=>if x=k then .slice A5 j be else if x<k then V x else .slice none 0 0))/\(∀ x,x<k->RowO w' w.heap.size bs (V x) ((nd gr (o.getD x 0)).ln.map (Iw o)))/\bs<=w'.heap.size/\Own w' bs 109 2 A5 j be (lnV (((gr[i]'ab).ln.take j).map (Iw o)))) ((gr[i]'ab).ln.length) ?_ (fun m g17 w18 hI=>?_)
  ·exact⟨0,none,0,ad _,rfl,rfl,hB.u,a9.u,a8.u,a5.u,ba.u,a1.u,bb.u,ao,a3,a2,b3,Own.nil _ _ _ _⟩
  obtain⟨j,A5,be,hj,hmj,h60,hB,a9,a8,a5,ba,a1,bb,ao,a3,a2,b3,a7⟩:=hI;refine zZ 60 _ h60 nu (zn6 ?_);refine zK rfl (fun c61=>?_) (fun c61=>?_)
  ·have bq:j<(gr[i]'ab).ln.length:=by omega
   obtain⟨lb,lof,rfl,hlb,hlr⟩:=hln.at_ hB bq;obtain⟨t,ht,htl⟩:∃ t:Nat,((gr[i]'ab).ln[j]'bq).2=(t:Int)/\t<gr.length:=by
     have h1:=hk.ln i ab _ (ap bq);exact⟨(((gr[i]'ab).ln[j]'bq).2).toNat,by omega,by omega⟩
   refine zn7 ?_;refine wl (qK Y2 rfl rfl hlr IK) ?_;refine qw (cs:=#[.int .i64 0,.int .i64 0]) CY rfl (fun b13 w19 bc bg hr=>?_);have:=a9.ob hr;have:=a8.ob hr;have:=a1.ob hr;have:=a5.ob hr;have:=ba.ob hr;have:=a3.ob hr;have:=bb.ob hr;have bz:=(nLT b3 hr)
   have bh:=ao.ob hr;have a6:=a7.ob hr;have cm:=hB.ob hr;replace a2:=qq a2 bg;replace b3:=zV b3 bg;clear hr;refine zJ bc (fun w20 hq bf=>?_);replace a2:=qq a2 bf;replace b3:=zV b3 bf;replace ao:=ao.tr0 bg;replace ao:=ao.tr1 bf (fun g hg=>by have:=bh g hg;omega);replace a7:=a7.tr0 bg;replace a7:=a7.tr1 bf (fun g hg=>by have:=a6 g hg;omega);replace bc:=hq;refine x6 (e_S ?_);rw[ht]at bc;have zo:=fun g hg=>(a7.lt g hg).2
   have c4:(ky o.length (fun x=>if x<k+1 then .int .i64 (nd gr (o.getD x 0)).ty else .int .i64 0) (fun x=>if x=k then .slice A5 j be else if x<k then V x else .slice none 0 0))[0+k*2+1]? =some (.slice A5 j be):=by rw[E3 bt];simp
   replace hB:=(hB.tr0 bg).tr1 bf cm;have hsz:=Bel.size hB;refine Yk 21 (rgq [] 64 21) (aL A5) 18 (fun ix v wv=>match ix with|0=>v= .pointer (some ⟨b9,0,none⟩)|1=>v= .slice (some ⟨bm,0,none⟩) o.length o.length|2=>v= .int .i64 k|3=>v= .pointer (some ⟨b9,0,none⟩)|4=>v= .slice (some ⟨bm,0,none⟩) o.length o.length|5=>v= .int .i64 k|6=>v= .pointer (some ⟨bm,0+k*2,none⟩)|7=>v= .pointer (some ⟨bm,0+k*2+1,none⟩)|8=>v= .slice A5 j be|9=>v= .pointer (some ⟨b13,0,none⟩)|10=>v= .int .i64 ((gr[i]'ab).ln[j]'bq).1|11=>v= .slice (some ⟨bk,0,none⟩) gr.length gr.length|12=>v= .pointer (some ⟨b13,1,none⟩)|13=>v= .int .i64 (t:Nat)|14=>v= .pointer (some ⟨bk,0+t*1,none⟩)|15=>v= .int .i64 (uk o t)|16=>v= .agg #[.int .i64 ((gr[i]'ab).ln[j]'bq).1,.int .i64 (uk o t)]|17=>∃ b,v= .slice (some ⟨b,0,none⟩) 1 1/\w20.heap.size<=b/\Blk wv b 109 #[.int .i64 ((gr[i]'ab).ln[j]'bq).1,.int .i64 (uk o t)]|18=>∃ g cap,v= .slice (some ⟨g,0,none⟩) (j+1) cap/\Own wv bs 109 2 (some ⟨g,0,none⟩) (j+1) cap (lnV (((gr[i]'ab).ln.take j).map (Iw o))++[.int .i64 ((gr[i]'ab).ln[j]'bq).1,.int .i64 (uk o t)])|19=>v= .pointer (some ⟨bm,0+k*2,none⟩)|20=>v= .pointer (some ⟨bm,0+k*2+1,none⟩)|_=>True) (fun _=>True) kR kR ?_ (fun _ _ _ _=>trivial) ?_ ?_ dE ?_
   ·intro ix v wv wv2 h s16
    match ix,h with
    | 0,h=>exact h
    | 1,h=>exact h
    | 2,h=>exact h
    | 3,h=>exact h
    | 4,h=>exact h
    | 5,h=>exact h
    | 6,h=>exact h
    | 7,h=>exact h
    | 8,h=>exact h
    | 9,h=>exact h
    | 10,h=>exact h
    | 11,h=>exact h
    | 12,h=>exact h
    | 13,h=>exact h
    | 14,h=>exact h
    | 15,h=>exact h
    | 16,h=>exact h
    | 17,h=>
     obtain⟨c8,c7,br,bj⟩:=h;exact⟨c8,c7,br,bj.tr0 s16⟩
    | 18,h=>
     obtain⟨c6,bd,cu,bi⟩:=h;exact⟨c6,bd,cu,bi.tr0 s16⟩
    | 19,h=>exact h
    | 20,h=>exact h
    | _+21,h=>exact trivial
   ·intro ix o cq c0 a4 gg wx bv hd;replace bb:=(bb.tr0 bg).tr1 bf oG
    match ix,cq,c0,a4 with
    | 0,_,_,a4=>
     cases sI a4;refine qV (Z5 U30 sz28 dE rfl rfl rfl) ⟨Same.refl _ _,?_⟩;exact rfl
    | 1,_,_,a4=>
     cases sI a4;replace bb:=bb.ta bv a7;refine aX 64 (hd 0 aY) ?_;refine qV (qW (v:= .slice _ _ _) U28 rfl rfl (bb.cell rfl)) ⟨Same.refl _ _,?_⟩;exact rfl
    | 2,_,_,a4=>
     cases sI a4;refine qV (x7 (v:= .int _ _) rfl) ⟨Same.refl _ _,?_⟩;exact rfl
    | 3,_,_,a4=>
     cases sI a4;refine qV (Z5 U30 sz28 dE rfl rfl rfl) ⟨Same.refl _ _,?_⟩;exact rfl
    | 4,_,_,a4=>
     cases sI a4;replace bb:=bb.ta bv a7;refine aX 67 (hd 3 aY) ?_;refine qV (qW (v:= .slice _ _ _) U28 rfl rfl (bb.cell rfl)) ⟨Same.refl _ _,?_⟩;exact rfl
    | 5,_,_,a4=>
     cases sI a4;refine qV (x7 (v:= .int _ _) rfl) ⟨Same.refl _ _,?_⟩;exact rfl
    | 6,_,_,a4=>
     cases sI a4;refine aX 68 (hd 4 aY) (aX 69 (hd 5 aY) ?_);refine qV (xW (i:=k) U28 I1 rfl rfl oG rfl) ⟨Same.refl _ _,?_⟩;exact rfl
    | 7,_,_,a4=>
     cases sI a4;refine aX 70 (hd 6 aY) ?_;refine qV (Z5 EJ sz105 dE rfl rfl rfl) ⟨Same.refl _ _,?_⟩;exact rfl
    | 8,_,_,a4=>
     cases sI a4;replace a3:=(a3.tr0 bg).tr1 bf oG;replace a3:=a3.ta bv a7;refine aX 71 (hd 7 aY) ?_;refine qV (qW (v:= .slice _ _ _) jx rfl rfl (a3.cell c4)) ⟨Same.refl _ _,?_⟩;exact rfl
    | 9,_,_,a4=>
     cases sI a4;refine qV (Z5 Y2 x8 dE rfl rfl rfl) ⟨Same.refl _ _,?_⟩;exact rfl
    | 10,_,_,a4=>
     cases sI a4;replace bc:=bc.tb bv (fun g hg=>by have:=a6 g hg;omega);refine aX 73 (hd 9 aY) ?_;refine qV (qW (v:= .int _ _) U3 rfl rfl (bc.cell rfl)) ⟨Same.refl _ _,?_⟩;exact rfl
    | 11,_,_,a4=>
     cases sI a4;replace a5:=(a5.tr0 bg).tr1 bf oG;replace a5:=a5.ta bv a7;refine qV (qW (v:= .slice _ _ _) U36 rfl rfl (a5.cell rfl)) ⟨Same.refl _ _,?_⟩;exact rfl
    | 12,_,_,a4=>
     cases sI a4;refine qV (Z5 Y2 x8 dE rfl rfl rfl) ⟨Same.refl _ _,?_⟩;exact rfl
    | 13,_,_,a4=>
     cases sI a4;replace bc:=bc.tb bv (fun g hg=>by have:=a6 g hg;omega);refine aX 76 (hd 12 aY) ?_;refine qV (qW (v:= .int _ _) U3 rfl rfl (bc.cell rfl)) ⟨Same.refl _ _,?_⟩;exact rfl
    | 14,_,_,a4=>
     cases sI a4;refine aX 75 (hd 11 aY) (aX 77 (hd 13 aY) ?_);refine qV (xW (i:=t) U36 x8 rfl rfl htl rfl) ⟨Same.refl _ _,?_⟩;exact rfl
    | 15,_,_,a4=>
     cases sI a4;replace a1:=(a1.tr0 bg).tr1 bf oG;replace a1:=a1.ta bv a7;refine aX 78 (hd 14 aY) ?_;refine qV (qW (v:= .int _ _) U3 rfl rfl (a1.cell (uz htl))) ⟨Same.refl _ _,?_⟩;exact rfl
    | 16,_,_,a4=>
     cases sI a4;refine aX 74 (hd 10 aY) (aX 79 (hd 15 aY) ?_);refine qV (My (v0:= .int _ _) (v1:= .int _ _) (fun v0 v1=>#[v0,v1]) rfl rfl kR) ⟨Same.refl _ _,?_⟩;exact rfl
    | 17,_,_,a4=>
     cases sI a4;have hs0:=bv;refine aX 80 (hd 16 aY) ?_;refine jK (fun ops Q K=>?_);refine qj (cs:=#[_,_]) [(0,.agg _)] rfl jx IK CY dE dE kR rfl (fun c8 w21 bj s18 hr=>?_);exact K _ _ ⟨s18,⟨_,rfl,nLT hs0.size hr,bj⟩⟩
    | 18,_,c0,_=>exact absurd rfl c0
    | 19,_,_,a4=>
     cases sI a4;refine aX 65 (hd 1 aY) (aX 66 (hd 2 aY) ?_);refine qV (xW (i:=k) U28 I1 rfl rfl oG rfl) ⟨Same.refl _ _,?_⟩;exact rfl
    | 20,_,_,a4=>
     cases sI a4;refine aX 83 (hd 19 aY) ?_;refine qV (Z5 EJ sz105 dE rfl rfl rfl) ⟨Same.refl _ _,?_⟩;exact rfl
    | _+21,cq,_,_=>exact absurd cq oG
   ·intro o a4 gg wx ce hd;cases sI a4;replace a2:=qq a2 ce;replace b3:=zV b3 ce;obtain⟨c8,c7,br,bj⟩:=hd 17 (zq kR);refine aX 72 (hd 8 aY) (zz 81 _ c7 nu ?_);refine jK (fun ops Q K=>?_);replace a7:=a7.tr0 ce;refine vZ jx in109 rfl dE a7 bj rfl rfl rfl y5 dE oG oG b3 (fun c6 bd w2 bi hs2 hg82=>?_);refine K _ _ ⟨hs2,⟨_,_,rfl,bi⟩,trivial,fun kx v c0 h=>?_⟩
    match kx,c0,h with
    | 0,_,h=>exact h
    | 1,_,h=>exact h
    | 2,_,h=>exact h
    | 3,_,h=>exact h
    | 4,_,h=>exact h
    | 5,_,h=>exact h
    | 6,_,h=>exact h
    | 7,_,h=>exact h
    | 8,_,h=>exact h
    | 9,_,h=>exact h
    | 10,_,h=>exact h
    | 11,_,h=>exact h
    | 12,_,h=>exact h
    | 13,_,h=>exact h
    | 14,_,h=>exact h
    | 15,_,h=>exact h
    | 16,_,h=>exact h
    | 17,_,h=>
     obtain⟨c8,c7,br,bj⟩:=h;exact⟨c8,c7,br,bj.tr hs2 (fun hx=>by have:=zo _ hx;omega)⟩
    | 18,c0,_=>exact absurd rfl c0
    | 19,_,h=>exact h
    | 20,_,h=>exact h
    | _+21,_,_=>exact trivial
   intro gg w22 bo _ hR;replace hB:=hB.tr bo (fun g hg=>nLT c3 (a7.lt g hg).1);replace a9:=(a9.tr0 bg).tr1 bf oG;replace a9:=a9.ta bo a7;replace a8:=(a8.tr0 bg).tr1 bf oG;replace a8:=a8.ta bo a7;replace a1:=(a1.tr0 bg).tr1 bf oG;replace a1:=a1.ta bo a7;replace a5:=(a5.tr0 bg).tr1 bf oG;replace a5:=a5.ta bo a7;replace ba:=(ba.tr0 bg).tr1 bf oG;replace ba:=ba.ta bo a7;replace a3:=(a3.tr0 bg).tr1 bf oG;replace a3:=a3.ta bo a7;replace bb:=(bb.tr0 bg).tr1 bf oG;replace bb:=bb.ta bo a7;replace a2:=fun x hx=>(a2 x hx).tr bo (fun g hg=> .inl ((a7).lt g hg).1)
   replace b3:=zV b3 bo;replace ao:=ao.tr bo (fun g hg hx=>by have:=(a7.lt _ hx).1;(try have:=luo g hg);omega);obtain⟨c6,bd,cu,bi⟩:=hR 18 dE;replace bi:Own w22 bs 109 2 (some ⟨c6,0,none⟩) (j+1) bd (lnV (((gr[i]'ab).ln.take (j+1)).map (Iw o))):=by
     rw[List.take_succ_eq_append_getElem bq,List.map_append,List.map_cons,List.map_nil,<- Wj];have e:Iw o ((gr[i]'ab).ln[j]'bq)=(((gr[i]'ab).ln[j]'bq).1,uk o t):=by simp[Iw,ht]
     rw[e];exact bi
   have a7:=bi;refine xz 82 _ cu nu (xz 84 _ (hR 20 dE) nu ?_);refine xj (v:= .slice _ _ _) a3 rfl rfl sz105 (by rw[Y6];show 0+k*2+1<o.length*2;omega) rfl Bj (fun w23 hq ca=>?_);replace a2:=qq a2 ca;replace b3:=zV b3 ca;replace ao:=ao.tr1 ca (fun g hg=>by have:=b1 g hg;omega);replace a7:=a7.tq ca;replace a3:=hq
   rw[ZJ (f':=(fun x=>if x<k+1 then .int .i64 (nd gr (o.getD x 0)).ty else .int .i64 0)) (h':=fun x=>if x=k then .slice (some ⟨c6,0,none⟩) (j+1) bd else if x<k then V x else .slice none 0 0) (fun x _=>rfl) (fun x _=>by
     by_cases e:x=k
     · subst e;simp
     · simp[e])]at a3
   refine zn7 ?_;refine xY ((gr[i]'ab).ln.length-(j+1)) oG agA ?_;exact⟨j+1,_,_,by omega,rfl,rfl,hB.u,a9.u,a8.u,a5.u,ba.u,a1.u,bb.u,ao,a3,a2,b3,a7⟩
  have hjx:j=(gr[i]'ab).ln.length:=by omega
  subst hjx;refine jZ ?_;refine xY (o.length-(k+1)) oG agA ?_;refine⟨k+1,fun x=>if x=k then .slice A5 (gr[i]'ab).ln.length be else V x,by omega,rfl,rfl,hB,a9,a8,a5,ba,a1,bb,ao,?_,fun x hx=>?_,c1.snoc a2 (fun g hg=>(a7.lt g hg).1)⟩
  · rw[ZJ (f':=(fun x=>if x<k+1 then .int .i64 (nd gr (o.getD x 0)).ty else .int .i64 0)) (h':=(fun x=>if x<k+1 then (if x=k then .slice A5 (gr[i]'ab).ln.length be else V x)else .slice none 0 0)) (fun x _=>rfl) (fun x _=>by
      by_cases e:x=k
      · subst e;simp
      · have e1:(x<k+1)↔(x<k):=by omega
        simp[e,e1])]at a3
    exact a3
  · by_cases e:x=k
    · subst e
      simp only[if_true]
      have h:=RowO.of (lo:=w.heap.size) (xs:=(gr[i]'ab).ln.map (Iw o)) c3 (by
        rw[List.take_length]at a7
        rw[List.length_map];exact a7)
      rw[List.length_map]at h;rw[hgd,hnd];exact h
    · simp only[if_neg e]
      exact(a2 x oG).up b3
 have cp:k=o.length:=by omega
 rw[cp]at a3 a2 c1;refine zn8 ?_;refine zJ a8 (fun w24 hq c9=>?_);replace a2:=qq a2 c9;replace b3:=zV b3 c9;replace a8:=hq;refine zn3 ?_;refine xX (.inl rfl) rfl (zw U30 rfl rfl a8.range0 gY) ?_;have hcl:(xJ gr o).length=o.length:=by simp[xJ]
 replace hB:=hB.tr1 c9 lo4;replace a3:=a3.tr1 c9 oG;refine⟨⟨o,_,hD,cn,rfl,GrD.mk (own_row2 a3 ck oG) hcl (ae _) (fun x hx=>?_) (fun g hg=>?_) b3 (fun x hx=>?_) (c1.congr (fun x hx=>by simp[hx]))⟩,hB⟩
 · rw[nd_canG hx];simp[hx]
 · rw[List.mem_singleton.1 hg];exact a3.lt
 · rw[nd_canG hx]
   have h:=a2 x hx
   simpa[hx]using h
theorem from3_any(G:Option Addr)(cg nf:Nat)(gr:List Nd)(r:Nat)(w:World)(hG:NodesIn w G gr)(hk:CW nf gr)(hnf:nf<=1000)(hr:r<gr.length):Calls Tryd.prog 55 #[.agg #[.slice G gr.length cg],.int .i64 r] w fun e w'=>(∃ o A,DL gr [r] [] o/\OOk gr.length o/\e= .returned (.agg #[.slice A o.length o.length])/\GrT w' w.heap.size w'.heap.size A o.length (xJ gr o) (fun x=>(nd (xJ gr o) x).ty))/\Bel w w':=(from4_any G cg nf gr r w hG hk hnf hr).mono fun e w' h=>by
 obtain⟨⟨o,A,h1,h2,h3,h4⟩,hs⟩:=h
 exact⟨⟨o,A,h1,h2,h3,h4.grt⟩,hs⟩
theorem EZ(G:Option Addr)(cg nf:Nat)(gr:List Nd)(r:Nat)(w:World)(hG:NodesIn w G gr)(hk:CW nf gr)(hnf:nf<=1000)(hr:r<gr.length):Calls Tryd.prog 55 #[.agg #[.slice G gr.length cg],.int .i64 r] w fun e w'=>(∃ o A,DL gr [r] [] o/\OOk gr.length o/\e= .returned (.agg #[.slice A o.length o.length])/\(∀ w2,FrSame w.heap.size w' w2->NodesIn w2 A (xJ gr o)))/\Bel w w':=(from3_any G cg nf gr r w hG hk hnf hr).mono fun e w' h=>by
 obtain⟨⟨o,A,h1,h2,h3,h4⟩,hs⟩:=h
 exact⟨⟨o,A,h1,h2,h3,fun w2 hf=>by have:=(h4.fr hf).nodes;rwa[rtG_self]at this⟩,hs⟩
theorem from_any(G:Option Addr)(cg nt nf:Nat)(gr:List Nd)(r:Nat)(w:World)(hG:NodesIn w G gr)(hk:GOk nt nf gr)(hnf:nf<=1000)(hr:r<gr.length):Calls Tryd.prog 55 #[.agg #[.slice G gr.length cg],.int .i64 r] w fun e w'=>(∃ o A,DL gr [r] [] o/\OOk gr.length o/\e= .returned (.agg #[.slice A o.length o.length])/\(∀ w2,FrSame w.heap.size w' w2->NodesIn w2 A (xJ gr o)))/\Bel w w':=EZ G cg nf gr r w hG hk.two hnf hr
structure GV(l:List Ty)(fs:List Ft)(g:List Nd):Prop where
 h:(qz l fs).1=0
 s:I6 l
 few:fs.length<=40
 f:FOk l.length fs
 gok:GOk l.length fs.length g
 t:tyF l fs g=(0,0)
 u:¬0<=I8 g
 lo:(vV l.length fs.length g).1=0
theorem O5(h:(kY l fs g).1=0):GV l fs g:=by
 by_cases h0:(qz l fs).1=0
 ·rw[WV h0]at h
  by_cases h1:(vV l.length fs.length g).1=0
  ·by_cases h2:(tyF l fs g).1=0
   ·have h2':tyF l fs g=(0,0):=S5 h2
    by_cases h3:0<=I8 g
    ·grind[wi_unr,h1]
    ·refine⟨h0,J5 h0,?_,fok_of h0,gok_of h1,h2',h3,h1⟩
     grind[qz]
   ·grind[xy,h1]
  ·grind[P8,h1]
 ·grind[gf_hier]
theorem DL.sub(h:DL g is a b):∀ x∈a,x∈b:=by
 induction h with
 | nil=>exact fun x h=>h
 | old h t ih=>exact ih
 | new h s t ihs iht=>exact fun x hx=>iht x (ihs x (aR _ hx))
theorem DL.has(h:DL g is a b):∀ i∈is,i∈b:=by
 induction h with
 | nil=>exact fun i h=>by cases h
 | old h t ih=>
  intro i hi;rcases aq.1 hi with rfl|hi
  ·exact t.sub _ h
  ·exact ih i hi
 | new h s t ihs iht=>
  intro i hi;rcases aq.1 hi with rfl|hi
  ·exact t.sub _ (s.sub _ (by simp))
  ·exact iht i hi
theorem DL.clo(h:DL g is a b):∀ x∈b,¬x∈a->∀ t∈yJ g x,t∈b:=by
 induction h with
 | nil=>exact fun x h1 h2=>absurd h1 h2
 | old h t ih=>exact ih
 | new h s t ihs iht=>
  rename_i i is o o1 o'
  intro x hx hn y hy;by_cases h1:x∈o1
  ·by_cases h2:x=i
   ·subst h2;exact t.sub _ (s.has y hy)
   ·exact t.sub _ (ihs x h1 (fun h3=>by
     rcases ay.1 h3 with h3|h3
     ·exact hn h3
     ·exact h2 (aj.1 h3)) y hy)
  ·exact iht x hx h1 y hy
theorem DL.nodup(h:DL g is a b):a.Nodup->b.Nodup:=by
 induction h with
 | nil=>exact fun h=>h
 | old h t ih=>exact ih
 | new h s t ihs iht=>
  grind
theorem DL.rch(hr:∀ i,i<g.length->∀ t∈yJ g i,t<g.length)(h:DL g is a b):(∀ i∈is,i<g.length)->(∀ i∈is,Rch g i)->(∀ x∈a,Rch g x)->∀ x∈b,Rch g x:=by
 induction h with
 | nil=>exact fun _ _ h=>h
 | old h t ih=>exact fun hi hR ha=>ih (fun i h=>hi i (am _ h)) (fun i h=>hR i (am _ h)) ha
 | new h s t ihs iht=>
  rename_i i is o o1 o'
  intro hi hR ha;have a1:=hi i (au ..);have hRi:=hR i (au ..);refine iht (fun i h=>hi i (am _ h)) (fun i h=>hR i (am _ h)) (ihs (hr i a1) (fun t ht=>?_) (fun x hx=>?_))
  ·simp only[yJ,yv a1,List.mem_map]at ht
   obtain⟨y,hy,rfl⟩:=ht;exact .step hRi a1 hy
  ·grind
structure Tr(g:List Nd)(o:List Nat):Prop where
 dl:DL g [0] [] o
 ok:OOk g.length o
 nd:o.Nodup
 pos:0<o.length
 zero:o.idxOf 0=0
 clo:∀ x∈o,∀ t∈yJ g x,t∈o
theorem Vq(hn:o.Nodup){k:Nat}(hk:k<o.length):o.idxOf o[k]=k:=by
 grind
theorem jk(hx:x∈o):∃ h:o.idxOf x<o.length,o[o.idxOf x]=x:=⟨List.idxOf_lt_length_of_mem hx,List.getElem_idxOf _⟩
theorem OV(hx:x∈o):uk o x=(o.idxOf x:Nat):=by simp[uk,hx]
theorem kw(g:List Nd)(o:List Nat):(xJ g o).length=o.length:=by simp[xJ]
theorem N8(hx:x∈o):nd (xJ g o) (o.idxOf x)=CX g o x:=by
 grind[h1,jk,yv,kw,xJ]
theorem S8(h:∀ x∈o,∀ t∈yJ g x,t∈o)(hx:x∈o):yJ (xJ g o) (o.idxOf x)=(yJ g x).map (o.idxOf ·):=by
 unfold yJ;rw[N8 hx];simp only[CX,List.map_map];refine aM (fun y hy=>?_);have:y.2.toNat∈o:=h x hx _ (by simp only[yJ,List.mem_map];exact⟨y,hy,rfl⟩);simp[Iw,OV this]
theorem DL.map{g:List Nd}{o:List Nat}(hc:∀ x∈o,∀ t∈yJ g x,t∈o){is a b:List Nat}(h:DL g is a b):(∀ x∈b,x∈o)->DL (xJ g o) (is.map (o.idxOf ·)) (a.map (o.idxOf ·)) (b.map (o.idxOf ·)):=by
 have inj:∀ x y,x∈o->y∈o->o.idxOf x=o.idxOf y->x=y:=fun x y hx hy e=>by
  obtain⟨h1,h2⟩:=jk hx
  grind
 induction h with
 | nil=>exact fun _=> .nil
 | old h t ih=>
  intro hb;exact .old (List.mem_map_of_mem h) (ih hb)
 | new h s t ihs iht=>
  rename_i i is o0 o1 o'
  intro hb;have hio:=hb i (t.sub _ (s.sub _ (by simp)));refine .new (fun hm=>?_) ?_ (iht hb)
  ·obtain⟨y,hy,e⟩:=ar.1 hm
   have hyo:=hb y (t.sub _ (s.sub _ (aR _ hy)))
   grind
  ·have:=ihs (fun x hx=>hb x (t.sub _ hx))
   rw[List.map_append]at this;rw[S8 hc hio];exact this
theorem Tx(hn:o.Nodup):o.map (o.idxOf ·)=List.range o.length:=by
 apply List.ext_getElem
 ·simp
 ·grind
theorem Tr.can(h:Tr g o):DL (xJ g o) [0] [] (List.range o.length):=by
 have:=h.dl.map h.clo (fun x hx=>hx);rw[Tx h.nd]at this
 simpa[h.zero]using this
theorem FrSame.then{B B0:Nat}{w0 w1 w2:World}(h:FrSame B w0 w1)(k:FrSame B0 w1 w2)(hb:B0<=B):FrSame B w0 w2:=
 ⟨nLT h.size k.size,fun i hi hl=>(k.blk i (nLT hb hi) (nLL hl h.size)).trans (h.blk i hi hl)⟩
inductive NdVs(w:World):List Nd->List Value->Prop
 | nil:NdVs w [] []
 | cons {x:Nd} {l:List Nd} {vs:List Value} {A:Option Addr} {c:Nat} (h:LinksIn w A x.ln) (r:NdVs w l vs):NdVs w (x::l) (.int .i64 x.ty:: .slice A x.ln.length c::vs)
theorem NdVs.get{w:World}{l:List Nd}{vs:List Value}(h:NdVs w l vs):∀ k (hk:k<l.length),∃ A c,vs[k*2]? =some (.int .i64 (l[k]).ty)/\vs[k*2+1]? =some (.slice A (l[k]).ln.length c)/\LinksIn w A (l[k]).ln:=by
 induction h with
 | nil=>intro k hk;simp at hk
 | cons h r ih=>
  intro k hk
  match k,hk with
  | 0,_=>exact⟨_,_,rfl,rfl,h⟩
  | k+1,hk=>
   obtain⟨A,c,h1,h2,h3⟩:=ih k (by simpa using hk);refine⟨A,c,?_,?_,h3⟩
   ·rw[show (k+1)*2=k*2+1+1 from by omega];simpa using h1
   ·rw[show (k+1)*2+1=k*2+1+1+1 from by omega];simpa using h2
def tgt(xs:List (Int×Int))(f:Int):Int:=match xs.find? (fun y=>decide (y.1=f))with
 | some y=>y.2
 | none=>-1
theorem tgt_at{f:Int}:∀ {xs:List (Int×Int)} {i:Nat} (hi:i<xs.length),(xs[i]).1=f->(∀ j (hj:j<xs.length),j<i->¬(xs[j]).1=f)->tgt xs f=(xs[i]).2
 | [],_,hi,_,_=>absurd hi (by simp)
 | x::xs,0,_,h,_=>by
  have h1:x.1=f:=h
  unfold tgt
  grind
 | x::xs,i+1,hi,h,hb=>by
  have h0:¬x.1=f:=hb 0 (by simp) oG
  have ih:=tgt_at (xs:=xs) (i:=i) (by simpa using hi) h (fun j hj hji=>hb (j+1) (by simpa using hj) oG)
  unfold tgt at ih ⊢
  grind
theorem tgt_no{f:Int}:∀ {xs:List (Int×Int)},(∀ j (hj:j<xs.length),¬(xs[j]).1=f)->tgt xs f= -1
 | [],_=>rfl
 | x::xs,h=>by
  have h0:¬x.1=f:=h 0 (by simp)
  have ih:=tgt_no (xs:=xs) (f:=f) (fun j hj=>h (j+1) (by simpa using hj))
  unfold tgt at ih ⊢
  grind
theorem KV{nf n:Nat}:∀ {xs:List (Int×Int)} {a1:Int},yq nf n a1 xs=0->(∀ j (hj:j<xs.length),a1<(xs[j]).1)/\∀ i j (hi:i<xs.length) (hj:j<xs.length),i<j->(xs[i]).1<(xs[j]).1
 | [],_,_=>⟨fun j hj=>absurd hj (by simp),fun i j hi=>absurd hi (by simp)⟩
 | y::ys,a1,h=>by
  unfold yq at h
  by_cases h1:gw nf n y
  ·grind
  rw[if_neg h1]at h
  by_cases h2:y.1<=a1
  ·omega
  rw[if_neg h2]at h
  obtain⟨ih1,ih2⟩:=KV h
  refine⟨fun j hj=>?_,fun i j hi hj hij=>?_⟩
  ·match j,hj with
   | 0,_=>show a1<y.1;omega
   | j+1,hj=>
    have:=ih1 j (by simpa using hj)
    show a1<(ys[j]'(by simpa using hj)).1
    omega
  ·match i,j,hi,hj,hij with
   | 0,j+1,_,hj,_=>exact ih1 j (by simpa using hj)
   | i+1,j+1,hi,hj,hij=>exact ih2 i j (by simpa using hi) (by simpa using hj) oG
theorem tgt_bs{nf n:Nat}{xs:List (Int×Int)}{a1 f:Int}(hs:yq nf n a1 xs=0)(hlo:∀ j (hj:j<xs.length),j<i->(xs[j]).1<f)(hhi:∀ j (hj:j<xs.length),i<=j->f<=(xs[j]).1):
  (∀ h:i<xs.length,(xs[i]).1=f->tgt xs f=(xs[i]).2)/\((¬∃ h:i<xs.length,(xs[i]).1=f)->tgt xs f= -1):=by
 refine⟨fun h e=>tgt_at h e (fun j hj hji=>by have:=hlo j hj hji;omega),fun hn=>tgt_no (fun j hj e=>?_)⟩;by_cases h1:j<i
 ·grind
 ·by_cases h2:j=i
  ·grind
  ·have h3:=(KV hs).2 i j oG hj oG
   grind
theorem tgt_mem{xs:List (Int×Int)}{f:Int}:tgt xs f= -1\/∃ y∈xs,y.1=f/\tgt xs f=y.2:=by
 unfold tgt
 grind
def walkT(g:List Nd):List Int->Int->Int
 | [],a=>a
 | f::p,a=>if a<0 then a else walkT g p (tgt (nd g a.toNat).ln f)
def pF(nf:Nat)(p:List Int)(i:Nat):Int:=match p[i]? with
 | none=>0
 | some x=>if x<0\/(nf:Int)<=x then 3 else 0
noncomputable def atF(l:List Ty)(fs:List Ft)(g:List Nd)(p:List Int):Fl:=if ¬(kY l fs g).1=0 then kY l fs g else if 300<p.length then (2,-3)else qJ (pF fs.length p) 0 p.length
def AtOk(l:List Ty)(fs:List Ft)(g:List Nd)(p:List Int):Prop:=(atF l fs g p).1=0/\0<=walkT g p 0
noncomputable instance(l:List Ty)(fs:List Ft)(g:List Nd)(p:List Int):Decidable (AtOk l fs g p):=Classical.propDecidable _
theorem r_cvU{P:Program}{n:Nw}{f:Fr}{w:World}{dst:Option Tmp}{gd:Option (Nat×Bool)}{ty:TypeId}{pos:String}{af:Array Edge}{x:Operand}{k':IntKind}{a:Int}{t t':TypeId}{dd:TypeDesc}(hs:P.underlying t=some dd)(hd:P.underlying t'=some (.int .u64))(hx:ev n f x= .int k' a)(ha:0<=a/\a<=18446744073709551615):
  RV P n f w ⟨dst,.convert t t' x,ty,pos,af,gd⟩ (.int .u64 a) w:=by
 have:=IntWalk.u64_in a ha;simp[RV,execOp,hx,convert,run_underlying hs,run_underlying hd,Conv.intToInt,this]
def N7(a b:Int):Int:=if a<b then -1 else if b<a then 1 else 0
theorem cmpI_lt{a b:Int}:N7 a b<0↔a<b:=by unfold N7;split<;>(try split)<;>omega
theorem cmpI_eq{a b:Int}:N7 a b=0↔a=b:=by unfold N7;split<;>(try split)<;>omega
theorem qy:(Tryd.prog.info? 109).map (·.size)=some 2:=by kernel_rfl
theorem xv:(Tryd.prog.info? 3).map (·.size)=some 1:=by kernel_rfl
theorem nan_any(a:Int)(w:World):Calls Tryd.prog 94 #[.int .i64 a] w fun e w'=>e= .returned (.bool false)/\Bel w w':=by
 refine enT Tryd.func94 Tryd.ntmps94 rfl rfl fun hB=>?_;refine Hw ?_;exact⟨JX (ag (fun h=>h rfl)).symm,hB⟩
theorem O9(a b:Int)(w:World):Calls Tryd.prog 76 #[.int .i64 a,.int .i64 b] w fun e w'=>e= .returned (.int .i64 (N7 a b))/\Bel w w':=by
 refine enT Tryd.func76 Tryd.ntmps76 rfl rfl fun hB=>?_;refine zn8 ?_;refine aZ kR (nan_any _ _) rfl (fun w1 s1=>?_);refine zn6 ?_;refine aZ kR (nan_any _ _) rfl (fun w2 s2=>?_);refine zn9 ?_;refine jW rfl (fun c11=>?_) (fun c11=>?_)
 ·exact absurd c11 dE
 refine zn8 ?_;refine jW rfl (fun c13=>?_) (fun c13=>?_)
 ·exact absurd c13 dE
 refine jZ ?_;refine zK rfl (fun a1=>?_) (fun a1=>?_)
 ·refine zn8 ?_;replace hB:=hB.tr0 (s1.t s2);exact⟨YY (by unfold N7;rw[if_pos a1]),hB⟩
 refine jZ ?_;refine zK rfl (fun a2=>?_) (fun a2=>?_)
 ·refine zn8 ?_;replace hB:=hB.tr0 (s1.t s2);exact⟨YY (by unfold N7;rw[if_neg a1];exact if_pos a2),hB⟩
 refine zn9 ?_;replace hB:=hB.tr0 (s1.t s2);exact⟨YY (by unfold N7;rw[if_neg a1];exact if_neg a2),hB⟩
theorem tcl_any(a b f:Int)(w:World):Calls Tryd.prog 75 #[.agg #[.int .i64 a,.int .i64 b],.int .i64 f] w fun e w'=>e= .returned (.int .i64 (N7 a f))/\Bel w w':=by
 refine enT Tryd.func75 Tryd.ntmps75 rfl rfl fun hB=>?_;refine zn2 ?_;refine qZ (cs:=#[_,_]) rfl (fun b2 w1 hb2 s1 hr=>?_);refine zn8 ?_;refine aZ kR (O9 _ _ _) rfl (fun w2 s2=>?_);refine zn5 ?_;exact⟨rfl,hB.u⟩
theorem bsf_any(A:Option Addr)(c:Nat)(xs:List (Int×Int))(f:Int)(w:World)(hX:LinksIn w A xs)(hl:xs.length<=1000)(a1:∀ i j (hi:i<xs.length) (hj:j<xs.length),i<=j->(xs[i]).1<=(xs[j]).1):Calls Tryd.prog 74 #[.slice A xs.length c,.int .i64 f,.func (.func 75) #[] #[]] w fun e w'=>(∃(i:Nat) (b:Bool),i<=xs.length/\e= .returned (.tuple #[.int .i64 i,.bool b])/\(∀ j (hj:j<xs.length),j<i->(xs[j]).1<f)/\(∀ j (hj:j<xs.length),i<=j->f<=(xs[j]).1)/\(b=true↔∃ h:i<xs.length,(xs[i]).1=f))/\Bel w w':=by
 refine enT Tryd.func74 Tryd.ntmps74 rfl rfl fun hB=>?_;refine zn22 ?_;refine qk (rgq [9,10,11] 15 20) (fun m g w'=>∃ i j:Nat,i<=j/\j<=xs.length/\m=j-i/\g 9= .int .i64 i/\g 10= .int .i64 j/\Bel w w'/\(∀ x (hx:x<xs.length),x<i->(xs[x]).1<f)/\(∀ x (hx:x<xs.length),j<=x->f<=(xs[x]).1)) (xs.length) ?_ (fun m g3 w1 hI=>?_)
 ·exact⟨0,xs.length,ad _,ae _,rfl,rfl,rfl,hB,fun x _ h=>by omega,fun x h1 h2=>by omega⟩
 obtain⟨i,j,hij,hj,hm,h9,h10,hB,a4,a6⟩:=hI;refine zZ 9 _ h9 nu (zZ 10 _ h10 nu (zn8 ?_));refine zK rfl (fun c17=>?_) (fun c17=>?_)
 ·obtain⟨h,hh⟩:∃ h,h=(i+j)/2:=⟨_,rfl⟩
  have an:h<xs.length:=by omega
  obtain⟨lb,lof,rfl,hlb,a7⟩:=hX.at_ hB an;refine zn7 ?_;refine wl (X0 (c:=((i+j:Nat):Int)) rfl rfl oG oG) (wl (r_cvU U3 Tryd.underlying163 rfl oG) (wl (r_shr (b:=1) (c:=h) rfl rfl oG (by rw[hh,Nat.shiftRight_eq_div_pow])) (wl (r_cvI Tryd.underlying163 U3 rfl oG) (zn9 ?_))));refine wl (qK Y2 rfl rfl a7 qy) (wmI rfl ?_);refine xw rfl kR (tcl_any _ _ f _) rfl rfl (fun e' w2 hr=>?_);obtain⟨rfl,hs⟩:=hr;replace hB:=hB.tr0 (sB hs);refine⟨_,rfl,?_⟩;refine zn3 ?_;refine zK rfl (fun ao=>?_) (fun ao=>?_)
  ·have hlt:=cmpI_lt.1 ao;obtain⟨i2,ab⟩:∃ i2,i2=h+1:=⟨_,rfl⟩
   obtain⟨j2,a8⟩:∃ j2,j2=j:=⟨_,rfl⟩
   have a2:∀ x (hx:x<xs.length),x<i2->(xs[x]).1<f:=fun x hx hxi=>by
     by_cases e:x=h
     ·subst e;exact hlt
     ·have hsx:(xs[x]).1<=(xs[h]).1:=a1 x h hx an oG
      omega
   have a3:∀ x (hx:x<xs.length),j2<=x->f<=(xs[x]).1:=fun x hx hxj=>a6 x hx oG
   refine zn6 ?_;refine xY (j2-i2) oG agA ?_;exact⟨i2,j2,by omega,by omega,rfl,by subst ab;rfl,by subst a8;rfl,hB,a2,a3⟩
  have hge:¬(xs[h]).1<f:=fun h=>ao (cmpI_lt.2 h)
  obtain⟨i2,ab⟩:∃ i2,i2=i:=⟨_,rfl⟩
  obtain⟨j2,a8⟩:∃ j2,j2=h:=⟨_,rfl⟩
  have a2:∀ x (hx:x<xs.length),x<i2->(xs[x]).1<f:=fun x hx hxi=>a4 x hx oG
  have a3:∀ x (hx:x<xs.length),j2<=x->f<=(xs[x]).1:=fun x hx hxj=>by
    have hsx:(xs[h]).1<=(xs[x]).1:=a1 h x an hx oG;omega
  refine zn5 ?_;refine xY (j2-i2) oG agA ?_;exact⟨i2,j2,by omega,by omega,rfl,by subst ab;rfl,by subst a8;rfl,hB,a2,a3⟩
 have a9:i=j:=by omega
 subst a9;refine jJ ?_;refine zQ 39 rfl (fun g39=>?_) (fun g39=>?_)
 ·refine zn6 ?_;have a5:i<xs.length:=by omega
  obtain⟨lb,lof,rfl,hlb,a7⟩:=hX.at_ hB a5;refine zn3 ?_;refine wl (qK Y2 rfl rfl a7 qy) (zn3 ?_);refine xw rfl kR (tcl_any _ _ f _) rfl rfl (fun e' w3 hr=>?_);obtain⟨rfl,hs⟩:=hr;replace hB:=hB.tr0 (sB hs);refine⟨_,rfl,?_⟩;refine zn8 ?_;refine Qq (.inl rfl) rfl rfl rfl ?_
  first
    | exact⟨⟨i,false,by omega,rfl,a4,a6,⟨fun h=>(Bool.noConfusion h),fun hh=>absurd hh.1 oG⟩⟩,hB⟩
    | exact⟨⟨i,decide (N7 (xs[i]'a5).1 f=0),by omega,rfl,a4,a6,by rw[decide_eq_true_iff,cmpI_eq];exact⟨fun h=>⟨a5,h⟩,fun⟨_,h⟩=>h⟩⟩,hB⟩
 refine VQ ?_;refine Qq (.inl rfl) rfl rfl rfl ?_
 first
   | exact⟨⟨i,false,by omega,rfl,a4,a6,⟨fun h=>(Bool.noConfusion h),fun hh=>absurd hh.1 oG⟩⟩,hB⟩
   | exact⟨⟨i,decide (N7 (xs[i]'a5).1 f=0),by omega,rfl,a4,a6,by rw[decide_eq_true_iff,cmpI_eq];exact⟨fun h=>⟨a5,h⟩,fun⟨_,h⟩=>h⟩⟩,hB⟩
theorem kK:(Tryd.prog.info? 105).map (·.size)=some 1:=by kernel_rfl
theorem ZX:(Tryd.prog.info? 107).map (·.size)=some 2:=by kernel_rfl
theorem NQ:(Tryd.prog.info? 28).map (·.size)=some 1:=by kernel_rfl
theorem ZQ:(Tryd.prog.info? 109).map (·.zero)=some (some (.agg #[.int .i64 0,.int .i64 0])):=by kernel_rfl
theorem YZ(G:Option Addr)(cg nf:Nat)(gr:List Nd)(i:Nat)(f:Int)(w:World)(hG:NodesIn w G gr)(hi:i<gr.length)(hl:yq nf gr.length (-1) (gr[i]'hi).ln=0)(hw:(gr[i]'hi).ln.length<=1000):Calls Tryd.prog 53 #[.agg #[.slice G gr.length cg],.int .i64 i,.int .i64 f] w fun e w'=>e= .returned (.int .i64 (tgt (gr[i]'hi).ln f))/\Bel w w':=by
 obtain⟨nb,no,LA,lc,rfl,hnb,hnr,hln⟩:=hG.at_ (Below.refl _ _:Bel w w) hi;have hso:=(KV hl).2;refine enT Tryd.func53 Tryd.ntmps53 rfl rfl fun hB=>?_;refine zn2 ?_;refine qZ (cs:=#[_]) rfl (fun b3 w1 hb3 s1 hr=>?_);refine zn8 ?_;refine wl (xW (i:=i) U28 ZX rfl rfl hi rfl) (zn1 ?_);refine wl (qW (v:= .slice _ _ _) jx rfl rfl (hB.u.cell hnb (hnr 1 _ rfl))) (wmI rfl ?_);replace hB:=hB.tr0 s1
 refine zX kR (bsf_any LA lc (gr[i]'hi).ln f _ (hln.mono hB) hw (fun x y hx hy hxy=>by
   by_cases e:x=y
   ·subst e;exact aH _
   ·exact Int.le_of_lt (hso x y hx hy oG))) rfl (fun e' w2 hr=>?_)
 obtain⟨⟨ix,b,hix,rfl,hlo,hhi,hbt⟩,s2⟩:=hr;replace s2:=sB s2;obtain⟨hy,hn⟩:=tgt_bs hl hlo hhi;refine⟨_,rfl,?_⟩;refine wmT rfl (wl (yV (v:= .int _ _) rfl rfl) (wl (yV (v:= .bool _) rfl rfl) (gX ?_)));refine jW rfl (fun a3=>?_) (fun a3=>?_)
 ·have hbf:¬b=true:=by simpa using a3
  have hno:=hn (fun h=>hbf (hbt.2 h));refine zn8 ?_;exact⟨YY hno,hB.u⟩
 have a2:b=true:=by simpa using a3
 obtain⟨hxl,hxe⟩:=hbt.1 a2;have a1:=hy hxl hxe;replace hB:=hB.tr0 s2;obtain⟨lb,lof,rfl,hlb,hlr⟩:=hln.at_ hB hxl;refine zn7 ?_;refine wl (xW (i:=i) U28 ZX rfl rfl hi rfl) (zn1 ?_);refine wl (qW (v:= .slice _ _ _) jx rfl rfl (hB.cell hnb (hnr 1 _ rfl))) (zn3 ?_);refine wl (qW (v:= .int _ _) U3 rfl rfl (hlr 1 _ rfl)) (zn5 ?_);exact⟨YY a1,hB⟩
section
def trN(σ:Nat->Nat)(x:Nd):Nd:=⟨x.ty,x.ln.map (fun y=>(y.1,(σ y.2.toNat:Int)))⟩
theorem O3{nf n m:Nat}{σ:Nat->Nat}:∀ {xs:List (Int×Int)} {a1:Int},yq nf n a1 xs=0->(∀ x∈xs,σ x.2.toNat<m)->yq nf m a1 (xs.map (fun y=>(y.1,(σ y.2.toNat:Int))))=0
 | [],_,_,_=>rfl
 | y::ys,a1,h,hm=>by
  unfold yq at h
  by_cases h1:gw nf n y
  ·rw[if_pos h1]at h;cases h
  rw[if_neg h1]at h
  by_cases h2:y.1<=a1
  ·rw[if_pos h2]at h;cases h
  rw[if_neg h2]at h
  have h3:=hm y (by simp)
  have h4:¬gw nf m (y.1,(σ y.2.toNat:Int)):=by
   unfold gw at h1 ⊢;omega
  rw[List.map_cons];unfold yq;rw[if_neg h4,if_neg h2];exact O3 h (fun x hx=>hm x (am _ hx))
theorem gv_img{gt:List Nd}{σ τ:Nat->Nat}(h:GV l fs g)(hp:0<gt.length)(hle:gt.length<=60)
  (hτ:∀ j,j<gt.length->τ j<g.length/\nd gt j=trN σ (nd g (τ j))/\∀ x∈(nd g (τ j)).ln,σ x.2.toNat<gt.length/\(nd gt (σ x.2.toNat)).ty=(nd g x.2.toNat).ty)
  (hR:∀ j,j<gt.length->Rch gt j):(kY l fs gt).1=0:=by
 have hl:vV l.length fs.length gt=(0,0):=by
  unfold vV;rw[if_neg oG];refine Xz (fun k _ hk=>?_);have a3:k<gt.length:=by omega
  obtain⟨a1,a2,a4⟩:=hτ k a3;rw[yv a3,yv a1]at a2;rw[yv a1]at a4;have hty:=h.gok.ty _ a1;have hln:=Yx h.lo _ a1;have e:¬((gt[k]).ty<0\/(l.length:Int)<=(gt[k]).ty):=by rw[a2];simp only[trN];omega
  rw[Yj a3 e,List.drop_zero,a2];exact O3 hln (fun x hx=>(a4 x hx).1)
 have ht:tyF l fs gt=(0,0):=by
  refine Xz (fun k _ hk=>?_);have a3:k<gt.length:=by omega
  obtain⟨a1,a2,a4⟩:=hτ k a3;refine HW a3 (fun j hj=>?_);have h0:tyN l fs g (τ k)=0:=kX (by rw[show qJ (tyN l fs g) 0 g.length=tyF l fs g from rfl,h.t]) _ (ad _) oG;rw[yv a3,yv a1]at a2;rw[yv a1]at a4;have hex:∃ y∈(g[τ k]).ln,(gt[k]).ln[j]=(y.1,(σ y.2.toNat:Int)):=by
   have hm:(gt[k]).ln[j]∈(trN σ (g[τ k])).ln:=by rw[<- a2];exact ap hj
   simp only[trN,List.mem_map]at hm;obtain⟨y,hy,e⟩:=hm;exact⟨y,hy,e.symm⟩
  obtain⟨y,hy,ey⟩:=hex;have h1:Eq l fs g (g[τ k]).ty y=false:=by
   simp only[tyN,List.getElem?_eq_getElem a1]at h0;cases hb:Eq l fs g (g[τ k]).ty y with
   | false=>rfl
   | true=>rw[if_pos (List.any_eq_true.2 ⟨y,hy,hb⟩)]at h0;cases h0
  have e3:=(a4 y hy).2;have e2:(gt[k]).ty=(g[τ k]).ty:=by rw[a2];rfl
  rw[ey,e2];unfold Eq at h1 ⊢;have e4:(E8 gt ((σ y.2.toNat:Nat):Int)).ty=(E8 g y.2).ty:=by
   unfold nd at e3;unfold E8;rw[Int.toNat_natCast];exact e3
  rw[e4];exact h1
 have hu:(-1:Int)=I8 gt:=Nk (.inl ⟨rfl,hR⟩);rw[WV h.h,IZ (by rw[hl]) ht oG]
theorem unr_ex(g:List Nd):∃ r,UnrIs g r:=by
 have h:∀ n:Nat,(∀ i,i<n->Rch g i)\/∃ k,k<n/\¬Rch g k/\∀ i,i<k->Rch g i:=by
  intro n
  induction n with
  | zero=>exact .inl (fun i hi=>absurd hi oG)
  | succ n ih=>
   rcases ih with h|⟨k,h1,h2,h3⟩
   ·by_cases hn:Rch g n
    ·refine .inl (fun i hi=>?_)
     by_cases e:i=n
     ·rw[e];exact hn
     ·exact h i oG
    ·exact .inr ⟨n,by omega,hn,h⟩
   ·exact .inr ⟨k,by omega,h2,h3⟩
 rcases h g.length with h|⟨k,h1,h2,h3⟩
 ·exact⟨-1,.inl ⟨rfl,h⟩⟩
 ·exact⟨k,.inr ⟨k,rfl,h1,h2,h3⟩⟩
theorem GV.rch(h:GV l fs g):∀ i,i<g.length->Rch g i:=by
 obtain⟨r,hr⟩:=unr_ex g;have hu:=h.u;rw[<- Nk hr]at hu;rcases hr with ⟨_,h3⟩|⟨k,h3,_⟩
 ·exact h3
 ·exact absurd (show 0<=r by omega) hu
structure Turn(g gt:List Nd)(σ ρ:Nat->Nat):Prop where
 len:gt.length=g.length
 z:σ 0=0
 lt:∀ i,i<g.length->σ i<g.length
 rl:∀ j,j<g.length->ρ j<g.length/\σ (ρ j)=j
 lr:∀ i,i<g.length->ρ (σ i)=i
 nd:∀ i,i<g.length->nd gt (σ i)=trN σ (nd g i)
section turn
variable {g gt:List Nd} {σ ρ:Nat->Nat}
theorem Turn.inj(t:Turn g gt σ ρ){y:Nat}(hx:x<g.length)(hy:y<g.length)(h:σ x=σ y):x=y:=by rw[<- t.lr x hx,<- t.lr y hy,h]
theorem Turn.succ(t:Turn g gt σ ρ)(hi:i<g.length):yJ gt (σ i)=(yJ g i).map σ:=by
 unfold yJ;rw[t.nd i hi];simp[trN]
theorem Turn.dl(t:Turn g gt σ ρ)(hr:∀ i,i<g.length->∀ y∈yJ g i,y<g.length)(h:DL g is a b):(∀ i∈is,i<g.length)->(∀ x∈b,x<g.length)->DL gt (is.map σ) (a.map σ) (b.map σ):=by
 induction h with
 | nil=>exact fun _ _=> .nil
 | old h _ ih=>exact fun hi hb=> .old (List.mem_map_of_mem h) (ih (fun i h=>hi i (am _ h)) hb)
 | new h s u ihs iht=>
  intro hi hb
  rename_i i is o o1 o'
  have a1:=hi i (au ..);have ho1:∀ x∈o1,x<g.length:=fun x hx=>hb x (u.sub _ hx)
  refine .new (fun hm=>?_) ?_ (iht (fun i h=>hi i (am _ h)) hb)
  ·obtain⟨y,hy,e⟩:=ar.1 hm
   have hyl:=ho1 y (s.sub _ (aR _ hy));exact h (t.inj hyl a1 e ▸ hy)
  ·have:=ihs (hr i a1) ho1
   rw[List.map_append]at this;rw[t.succ a1];exact this
theorem Turn.rch(t:Turn g gt σ ρ)(hr:∀ i,i<g.length->∀ y∈yJ g i,y<g.length)(hp:0<g.length)(h:Rch g i):i<g.length/\Rch gt (σ i):=by
 induction h with
 | zero=>exact⟨hp,by rw[t.z];exact .zero⟩
 | step h hi hx ih=>
  rename_i i x
  refine⟨hr i hi _ (by simp only[yJ,yv hi,List.mem_map];exact⟨x,hx,rfl⟩),?_⟩;have hlt:σ i<gt.length:=by rw[t.len];exact t.lt i hi
  have e:=t.nd i hi;rw[yv hlt,yv hi]at e;have:=Rch.step (x:=(x.1,((σ x.2.toNat:Nat):Int))) ih.2 hlt (by rw[e];exact ar.2 ⟨x,hx,rfl⟩)
  simpa using this
theorem idx_map{g:List Nd}{σ:Nat->Nat}{x:Nat}(hx:x<g.length)(inj:∀ y,y<g.length->σ y=σ x->y=x):∀ {o:List Nat},(∀ y∈o,y<g.length)->(o.map σ).idxOf (σ x)=o.idxOf x
 | [],_=>rfl
 | y::o,h=>by
  rw[List.map_cons,List.idxOf_cons,List.idxOf_cons,idx_map hx inj (fun z hz=>h z (List.mem_cons_of_mem _ hz))]
  by_cases e:y=x
  ·subst e;simp
  ·have e2:¬σ y=σ x:=fun h2=>e (inj y (h y (au ..)) h2)
   have b1:(y==x)=false:=by simp[e]
   have b2:(σ y==σ x)=false:=by simp[e2]
   rw[b1,b2]
theorem Turn.num(t:Turn g gt σ ρ)(hx:x<g.length)(ho:∀ y∈o,y<g.length):uk (o.map σ) (σ x)=uk o x:=by
 unfold uk
 have e:σ x∈o.map σ↔x∈o:=⟨fun h=>by
  obtain⟨y,hy,e⟩:=ar.1 h
  exact t.inj (ho y hy) hx e ▸ hy,fun h=>List.mem_map_of_mem h⟩
 by_cases h:x∈o
 ·rw[if_pos (e.2 h),if_pos h,idx_map hx (fun y hy h=>t.inj hy hx h) ho]
 ·rw[if_neg (fun k=>h (e.1 k)),if_neg h]
theorem Turn.can(t:Turn g gt σ ρ)(hr:∀ i,i<g.length->∀ y∈yJ g i,y<g.length)(ho:∀ y∈o,y<g.length):xJ gt (o.map σ)=xJ g o:=by
 unfold xJ;rw[List.map_map];refine aM (fun x hx=>?_);have hxl:=ho x hx;simp only[Function.comp];unfold CX;rw[t.nd x hxl];refine V7 rfl ?_;simp only[trN,List.map_map];refine aM (fun y hy=>?_);have hyl:=hr x hxl y.2.toNat (by simp only[yJ,List.mem_map];exact⟨y,hy,rfl⟩);simp only[Function.comp,Iw,Int.toNat_natCast];rw[t.num hyl ho]
end turn
theorem FZ{m:Nat}{f h:Nat->Value}{a b:Value}:SK (ky m f h) (0+i*2) [a,b]=ky m (fun j=>if j=i then a else f j) (fun j=>if j=i then b else h j):=by
 show ((ky m f h).setIfInBounds (0+i*2+0) a).setIfInBounds (0+i*2+1) b=_;rw[Bv,Bj]
end
section
structure TrR(g:List Nd)(r:Nat)(o:List Nat):Prop where
 dl:DL g [r] [] o
 ok:OOk g.length o
 nodup:o.Nodup
 has:r∈o
 zero:o.idxOf r=0
 clo:∀ x∈o,∀ t∈yJ g x,t∈o
theorem DL.within(hc:∀ x∈o,∀ t∈yJ g x,t∈o)(h:DL g is a b):(∀ i∈is,i∈o)->(∀ x∈a,x∈o)->∀ x∈b,x∈o:=by
 induction h with
 | nil=>exact fun _ h=>h
 | old h t ih=>exact fun hi ha=>ih (fun i h=>hi i (am _ h)) ha
 | new h s t ihs iht=>
  grind
theorem idx_inj{y:Nat}(hx:x∈o)(_hy:y∈o)(e:o.idxOf x=o.idxOf y):x=y:=by
 obtain⟨h1,h2⟩:=jk hx
 grind
theorem WZ{o:List Nat}{x:Nat}(hx:x∈o):∀ {o2:List Nat},(∀ y∈o2,y∈o)->(o2.map (o.idxOf ·)).idxOf (o.idxOf x)=o2.idxOf x
 | [],_=>rfl
 | y::o2,h=>by
  rw[List.map_cons,List.idxOf_cons,List.idxOf_cons,WZ hx (fun z hz=>h z (List.mem_cons_of_mem _ hz))]
  grind[idx_inj,List.mem_cons_self]
theorem num_map2(hx:x∈o)(h:∀ y∈o2,y∈o):uk (o2.map (o.idxOf ·)) (o.idxOf x)=uk o2 x:=by
 grind[uk,idx_inj,List.mem_map_of_mem,WZ]
section sub
variable {g:List Nd} {r:Nat} {o:List Nat}
theorem TrR.mem(t:TrR g r o)(hx:x∈o){y:Int×Int}(hy:y∈(nd g x).ln):y.2.toNat∈o:=t.clo x hx _ (by simp only[yJ,List.mem_map];exact⟨y,hy,rfl⟩)
theorem TrR.lt(t:TrR g r o){x:Nat}(hx:x∈o):x<g.length:=t.ok.lt x hx
theorem TrR.can2(t:TrR g r o){c:Nat}(hc:c∈o)(h2:DL g [c] [] o2):xJ (xJ g o) (o2.map (o.idxOf ·))=xJ g o2:=by
 have hw:=h2.within t.clo (fun i hi=>by rw[List.mem_singleton.1 hi];exact hc) (fun x hx=>by cases hx);have hcl:=h2.clo;unfold xJ;rw[List.map_map];refine aM (fun x hx=>?_);have hxo:=hw x hx;have e:=N8 (g:=g) hxo;unfold xJ at e;show CX _ _ (o.idxOf x)=CX g o2 x;unfold CX at e ⊢;rw[e];refine V7 rfl ?_;simp only[List.map_map];refine aM (fun y hy=>?_);have hyo:=t.mem hxo hy
 grind[Iw,OV,Int.toNat_natCast,num_map2]
theorem TrR.dl2(t:TrR g r o){c:Nat}(hc:c∈o)(h2:DL g [c] [] o2):DL (xJ g o) [o.idxOf c] [] (o2.map (o.idxOf ·)):=
 h2.map t.clo (h2.within t.clo (fun i hi=>by rw[List.mem_singleton.1 hi];exact hc) (fun x hx=>by cases hx))
theorem TrR.valid(t:TrR g r o)(h:GV l fs g):(kY l fs (xJ g o)).1=0:=by
 have a1:=kw g o;have hole:o.length<=g.length:=by have:=t.ok.cnt;omega
 have hpos:0<o.length:=List.length_pos_of_mem t.has;have hle:=h.gok.le;have a2:∀ j (hj:j<o.length),o.idxOf o[j]=j:=fun j hj=>Vq t.nodup hj
 have hrg:∀ i,i<(xJ g o).length->∀ y∈yJ (xJ g o) i,y<(xJ g o).length:=fun i hi y hy=>by
  rw[a1]at hi ⊢;rw[<- a2 i hi,S8 t.clo (List.getElem_mem hi)]at hy;obtain⟨z,hz,rfl⟩:=ar.1 hy;exact(jk (t.clo _ (ap hi) z hz)).1
 refine gv_img (σ:=(o.idxOf ·)) (τ:=fun j=>o.getD j 0) h oG oG (fun j hj=>?_) (fun j hj=>?_)
 ·have a3:j<o.length:=by omega
  have eg:o.getD j 0=o[j]:=by simp[List.getD,a3]
  have hm:o[j]∈o:=ap a3;have en:=N8 (g:=g) hm;rw[a2 j a3]at en;simp only[eg];refine⟨t.lt hm,?_,fun x hx=>?_⟩
  ·rw[en]
   refine V7 rfl ?_;simp only[CX,trN];refine aM (fun y hy=>?_);simp only[Iw,OV (t.mem hm hy)]
  ·have hxo:=t.mem hm hx
   rw[N8 hxo,a1];exact⟨(jk hxo).1,rfl⟩
 ·have hd:=t.dl2 t.has t.dl
  rw[t.zero,Tx t.nodup]at hd;have hR:=hd.rch hrg (fun i hi=>by rw[List.mem_singleton.1 hi];omega) (fun i hi=>by rw[List.mem_singleton.1 hi];exact .zero) (fun x hx=>by cases hx)
  grind
end sub
section comp
variable {l:List Ty} {fs:List Ft} {g:List Nd} {p q:List Int}
end comp
end
end Go.Proofs.YtmfiholmfieieaaDoor
