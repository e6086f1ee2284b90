/- What these functions compute, at every world: graph.From, slices.Equal[[]api.Link,api.Link], equal.Nodes, slices.Clone[[]int,int], ref3.visit, ref3.From, ; and plain laws. -/
import Derived.Test.YtgcgnkmmbecfmaaGreatDoorU
import Derived.Test.YtgcgnkmmbecfmaaGreatDoorZst
import Derived.Test.YtgcgnkmmbecfmaaGreatDoorGro
import Derived.Test.YtgcgnkmmbecfmaaGreatDoorGLoose
namespace Go.Proofs.YtgcgnkmmbecfmaaGreatDoor
open Go.RowKit Go.Proofs.Tryz
variable {a b is o:List Nat}{g:List Nd}{w0:World}{x:Nat}
theorem in80:(prog.info? 80).map (fun i=>(i.zero,i.size,i.bytes))=some (some (.agg #[.int .i64 0,.slice none 0 0]),2,32):=by kernel_rfl
theorem in83:(prog.info? 83).map (fun i=>(i.zero,i.size,i.bytes))=some (some (.agg #[.int .i64 0,.int .i64 0]),2,16):=by kernel_rfl
theorem sz137:(prog.info? 137).map (·.size)=some 1:=by kernel_rfl
theorem ze137:(prog.info? 137).map (·.zero)=some (some (.nilFunc)):=by kernel_rfl
theorem H0:(prog.info? 30).map (·.zero)=some (some (.agg #[.slice none 0 0])):=by kernel_rfl
theorem ze59:(prog.info? 59).map (·.zero)=some (some (.slice none 0 0)):=by kernel_rfl
set_option maxHeartbeats 4000000 in
theorem from4_any(G:Option Addr)(cg nf:Nat)(gr:List Nd)(r:Nat)(w:World)(hG:NodesIn w G gr)(hk:N1 nf gr)(hnf:nf<=1000)(hr:r<gr.length):Calls prog 62 #[.agg #[.slice G gr.length cg],.int .i64 r] w fun e w'=>(∃ o A,DL gr [r] [] o/\OOk gr.length o/\e= .returned (.agg #[.slice A o.length o.length])/\GrD w' w.heap.size w'.heap.size A o.length (yK gr o) (fun x=>(nd (yK gr o) x).ty))/\Bel w w':=by
 have hn6:=hk.le;have hrg:=IJ hk;refine enT func62 ntmps62 rfl rfl fun hB=>?_;refine zn2 ?_;refine xy (v:= .agg #[_]) (cs:=#[_]) rfl rfl (fun b2 w1 an s1 hr=>?_);have lo2:=hB.ob hr;clear hr;refine qW (cs:=#[.slice none 0 0]) H0 rfl (fun b4 w2 ac s2 hr=>?_);have:=an.ob hr;have lo4:=hB.u.ob hr;clear hr;refine zn7 ?_;refine XV (m:=gr.length) U59 in3 rfl rfl rfl oG oG (fun bq w3 a1 s3 hr=>?_);have:=an.u.ob hr;have:=ac.ob hr;have c5:=hB.u.ob hr;clear hr;refine qW (cs:=#[.slice none 0 0]) ze59 rfl (fun b5 w4 a5 s4 hr=>?_);have:=an.u.ob hr;have:=ac.u.ob hr;have:=a1.ob hr;have lo5:=hB.u.ob hr;clear hr;refine xQ (v:= .slice _ _ _) a5 rfl rfl P7 (by first|decide|simp) rfl rfl (fun w5 hq s5=>?_);replace a5:=hq;refine jq ?_;refine qx (rg [6] 20 7) (fun m g w'=>∃ k:Nat,k<=gr.length/\m=gr.length-k/\g 20= .int .i64 k/\Bel w w'/\Blk w' b2 30 #[.slice G gr.length cg]/\Blk w' b4 30 #[.slice none 0 0]/\Blk w' b5 59 #[.slice (some ⟨bq,0,none⟩) gr.length gr.length]/\Blk w' bq 3 (row gr.length (fun x=> .int .i64 (if x<k then -1 else 0)))) (gr.length) ?_ (fun m g3 w6 hI=>?_)
 ·refine⟨0,ag _,rfl,rfl,hB.u,an.u,ac.u,a5,?_⟩;replace a1:=(a1.tr0 s4).tr1 s5 oG;rw[xJ (g':=fun _=> .int .i64 0) (fun x _=>by simp)];exact a1
 obtain⟨k,hkk,hm,h20,hB,an,ac,a5,a1⟩:=hI;refine zX 20 _ h20 nu (zn6 ?_);refine zQ rfl (fun c21=>?_) (fun c21=>?_)
 ·have bw:k<gr.length:=by omega
  refine ZV ?_;refine xQ (v:= .int _ _) a1 rfl rfl qk (by rw[row_size];omega) rfl kv (fun w7 hq s6=>?_);replace a1:=hq
  rw[xJ (g':=fun x=> .int .i64 (if x<k+1 then -1 else 0)) (fun x _=>by
    by_cases e:x=k
    · subst e;simp
    · have e1:(x<k+1)↔(x<k):=by omega
      simp[e,e1])]at a1
  refine zn7 ?_;refine x8 (gr.length-(k+1)) oG agA ?_;exact⟨k+1,by omega,rfl,rfl,hB.u,an.u,ac.u,a5.u,a1⟩
 have cu:k=gr.length:=by omega
 rw[cu,xJ (g':=fun x=> .int .i64 (kV [] x)) (fun x hx=>by simp[hx,LQ])]at a1;refine zn7 ?_;refine qW (cs:=#[.slice none 0 0]) ze59 rfl (fun b7 w8 bd s7 hr=>?_);have:=an.ob hr;have:=ac.ob hr;have:=a1.ob hr;have:=a5.ob hr;have lo7:=hB.ob hr;clear hr;refine zn4 ?_;refine qW (cs:=#[.nilFunc]) ze137 rfl (fun b8 w9 cf s8 hr=>?_);have:=an.u.ob hr;have:=ac.u.ob hr;have:=a1.u.ob hr;have:=a5.u.ob hr;have:=bd.ob hr;have lo8:=hB.u.ob hr;clear hr;refine zn4 ?_;refine wl (r_mf rfl) ?_;refine xQ (v:= .func _ _ _) cf rfl rfl sz137 (by first|decide|simp) rfl rfl (fun w10 hq s9=>?_);replace cf:=hq;refine zn3 ?_;obtain⟨base,b1⟩:∃ b,b=w10.heap.size:=⟨_,rfl⟩
 replace hB:=(hB.tr0 (s7.t s8)).tr1 s9 lo8;have hlo:w.heap.size<=base:=by rw[b1];exact Bel.size hB
 have hbs:base<=w10.heap.size:=ay b1;replace a5:=(a5.tr0 (s7.t s8)).tr1 s9 oG;have lt5:b5<base:=by rw[b1];exact a5.lt
 replace bd:=(bd.tr0 s8).tr1 s9 oG;have lt7:b7<base:=by rw[b1];exact bd.lt
 replace an:=(an.tr0 (s7.t s8)).tr1 s9 oG;have lt2:b2<base:=by rw[b1];exact an.lt
 replace ac:=(ac.tr0 (s7.t s8)).tr1 s9 oG;have lt4:b4<base:=by rw[b1];exact ac.lt
 have lt8:b8<base:=by rw[b1];exact cf.lt
 replace a1:=(a1.tr0 (s7.t s8)).tr1 s9 oG;have cn:bq<base:=by rw[b1];exact a1.lt
 refine zn3 ?_;refine yy rfl kR (visit_any (w0:=w) (G:=G) (cg:=cg) (bP:=b5) (bQ:=b7) (bG:=b2) (bV:=b8) (bn:=bq) (base:=base) hG hk hlo lo5 lo7 lo2 lo8 c5 lt5 lt7 lt2 lt8 cn oG oG oG oG oG oG oG gr.length [] none 0 _ r (Dj _ _) hr hB hbs (OOk.nil _) a5 bd an cf a1 (Own.nil _ _ _ _)) rfl rfl (fun e' w11 hr=>?_);obtain⟨rfl,o,AO,bx,hD,cw,b3,c8,hC⟩:=hr;replace hB:=hB.chg hC hlo (by simp[lo7,c5])
 replace an := an.chg hC lt2 (by
   have:b2 ≠ b7 := by omega
   have:b2≠bq:=by omega
   simp[*])
 replace ac := ac.chg hC lt4 (by
   have:b4 ≠ b7 := by omega
   have:b4≠bq:=by omega
   simp[*])
 replace a5 := a5.chg hC lt5 (by
   have:b5 ≠ b7 := by omega
   have:b5≠bq:=by omega
   simp[*])
 replace bd:=cw;replace a1:=c8;obtain⟨cq,_,_⟩:=hD.ok hrg (fun i hi=>by rw[List.mem_singleton.1 hi];exact hr) (OOk.nil _);have hol:=cq.cnt;refine⟨_,rfl,?_⟩;refine zn6 ?_;refine H2 (m:=o.length) U28 in80 rfl rfl oG oG (fun br w12 a3 c1 hr=>?_);have:=an.ob hr;have:=ac.ob hr;have:=a1.ob hr;have:=a5.ob hr;have:=bd.ob hr;have b6:=b3.ob hr;have co:=hB.ob hr;clear hr;refine wl (YQ (v0:= .slice _ _ _) (fun v0=>#[v0]) rfl kR) ?_;refine yx (cs:=#[.slice none 0 0]) H0 rfl (fun _=>rfl) (fun _=>rfl) QQ rfl qz (fun b9 w14 be c0 hr=>?_);have:=a3.ob hr;clear hr;refine zn4 ?_;replace hB:=hB.tr0 (c1.t c0);replace an:=an.tr0 (c1.t c0);replace ac:=ac.tr0 (c1.t c0);replace a1:=a1.tr0 (c1.t c0);replace a5:=a5.tr0 (c1.t c0);replace bd:=bd.tr0 (c1.t c0);replace b3:=b3.tr0 (c1.t c0);replace a3:=a3.tr0 c0;replace a3:Blk w14 br 80 (kz o.length (fun _=> .int .i64 0) (fun _=> .slice none 0 0)):=by
   have h:=a3;rw[show (Value.agg #[.int .i64 0,.slice none 0 0]).cells= #[.int .i64 0,.slice none 0 0]from rfl,M2]at h;exact h
 refine zn7 ?_;refine qx (rg [10,11,13] 37 50) (fun m g w'=>∃(k:Nat) (V:Nat->Value),k<=o.length/\m=o.length-k/\g 37= .int .i64 k/\Bel w w'/\Blk w' b2 30 #[.slice G gr.length cg]/\Blk w' b4 30 #[.slice none 0 0]/\Blk w' b5 59 #[.slice (some ⟨bq,0,none⟩) gr.length gr.length]/\Blk w' b7 59 #[.slice AO o.length bx]/\Blk w' bq 3 (row gr.length (fun x=> .int .i64 (kV o x)))/\Blk w' b9 30 #[.slice (some ⟨br,0,none⟩) o.length o.length]/\Own w' base 3 1 AO o.length bx (oV o)/\Blk w' br 80 (kz o.length (fun x=>if x<k then .int .i64 (nd gr (o.getD x 0)).ty else .int .i64 0) (fun x=>if x<k then V x else .slice none 0 0))/\(∀ x,x<k->RowO w' w.heap.size w'.heap.size (V x) ((nd gr (o.getD x 0)).ln.map (Yx o)))/\Dis V k) (o.length) ?_ (fun m g13 cj hI=>?_)
 ·refine⟨0,fun _=> .slice none 0 0,ag _,rfl,rfl,hB,an,ac,a5,bd,a1,be,b3,?_,fun x hx=>by omega,fun x y hx=>by omega⟩;rw[oX (f':=fun _=> .int .i64 0) (h':=fun _=> .slice none 0 0) (fun x _=>by simp) (fun x _=>by simp)];exact a3
 obtain⟨k,V,hkk,hm,h37,hB,an,ac,a5,bd,a1,be,b3,a3,a2,c4⟩:=hI;obtain⟨bs,bc⟩:∃ b,b=cj.heap.size:=⟨_,rfl⟩
 rw[<- bc]at a2;have bb:bs<=cj.heap.size:=ay bc;have c6:w.heap.size<=bs:=by rw[bc];exact Bel.size hB
 have lu2:b2<bs:=by rw[bc];exact an.lt
 have lu4:b4<bs:=by rw[bc];exact ac.lt
 have lu5:b5<bs:=by rw[bc];exact a5.lt
 have lu7:b7<bs:=by rw[bc];exact bd.lt
 have lu17:bq<bs:=by rw[bc];exact a1.lt
 have lu9:b9<bs:=by rw[bc];exact be.lt
 have lu33:br<bs:=by rw[bc];exact a3.lt
 have luo:∀ g∈aL AO,g<bs:=fun g hg=>by rw[bc];exact(b3.lt g hg).2
 refine zX 37 _ h37 nu (zn6 ?_);refine zQ rfl (fun c38=>?_) (fun c38=>?_)
 ·have bw:k<o.length:=by omega
  obtain⟨i,cr,ao⟩:∃ i:Nat,o[k]'bw=i/\i<gr.length:=⟨_,rfl,cq.lt _ (am bw)⟩
  have hgd:o.getD k 0=i:=by simp[List.getD,bw,cr]
  have hnd:=vx ao
  obtain⟨q,rfl,hqb,hql,hqc⟩:=b3.cell (by
    intro h0;have:=congrArg List.length h0;simp[oV]at this;rw[this]at bw
    simp at bw)
  have hz:cj.cell? ⟨q,0+k*1,none⟩=some (.int .i64 (i:Int)):=by
    have:=hqc k (.int .i64 (i:Int)) (by simp[oV,bw,cr])
    simpa using this
  obtain⟨nb,no,LA,lc,rfl,hnb,hnr,hln⟩:=hG.at_ (Below.refl _ _:Bel w w) ao;have hmx:=hln.1;unfold vJ at hmx;have hfw:=hk.few i ao;refine zn8 ?_;refine wl (qy (v:= .int _ _) U3 rfl rfl hz) (zn5 ?_);refine X1 11 kR kR (fun w16 ce=>?_);replace a2:=qj a2 ce;replace bb:=zV bb ce;refine zn6 ?_;refine ws (x9 (i:=i) U28 o6 rfl rfl ao rfl) (zn1 ?_);refine ws (qy (v:= .int _ _) U3 rfl rfl (hB.u.cell hnb (hnr 0 _ rfl))) (zn2 ?_);refine QY ?_;replace a3:=a3.tr0 ce;refine xQ (v:= .int _ _) a3 rfl rfl qk (by rw[uq];show 0+k*2+0<o.length*2;omega) rfl VZ (fun w17 hq cm=>?_);replace b3:=b3.tr0 ce;replace b3:=b3.tr1 cm (fun g hg=>by have:=b6 g hg;omega);replace a2:=qj a2 cm;replace bb:=zV bb cm;replace a3:=hq
  rw[oX (f':=(fun x=>if x<k+1 then .int .i64 (nd gr (o.getD x 0)).ty else .int .i64 0)) (h':=fun x=>if x=k then .slice none 0 0 else if x<k then V x else .slice none 0 0) (fun x _=>by
    by_cases e:x=k
    · subst e;simp[List.getD,bw,cr,hnd]
    · have e1:(x<k+1)↔(x<k):=by omega
      simp[e,e1]) (fun x _=>by
    by_cases e:x=k
    · subst e;simp
    · simp[e])]at a3
  refine zn7 ?_;refine wl (x9 (i:=i) U28 o6 rfl rfl ao rfl) (zn1 ?_);refine wl (qy (v:= .slice _ _ _) U78 rfl rfl (hB.u.cell hnb (hnr 1 _ rfl))) (zn5 ?_);refine qx (rg [13] 60 26) (fun m g w'=>∃(j:Nat) (A5:Option Addr) (bh:Nat),j<=(gr[i]'ao).ln.length/\m=(gr[i]'ao).ln.length-j/\g 60= .int .i64 j/\Bel w w'/\Blk w' b2 30 #[.slice (some ⟨nb,no,none⟩) gr.length cg]/\Blk w' b4 30 #[.slice none 0 0]/\Blk w' b5 59 #[.slice (some ⟨bq,0,none⟩) gr.length gr.length]/\Blk w' b7 59 #[.slice (some ⟨q,0,none⟩) o.length bx]/\Blk w' bq 3 (row gr.length (fun x=> .int .i64 (kV o x)))/\Blk w' b9 30 #[.slice (some ⟨br,0,none⟩) o.length o.length]/\Own w' base 3 1 (some ⟨q,0,none⟩) o.length bx (oV o)/\Blk w' br 80 (kz o.length (fun x=>if x<k+1 then .int .i64 (nd gr (o.getD x 0)).ty else .int .i64 0) (fun x=>if x=k then .slice A5 j bh else if x<k then V x else .slice none 0 0))/\(∀ x,x<k->RowO w' w.heap.size bs (V x) ((nd gr (o.getD x 0)).ln.map (Yx o)))/\bs<=w'.heap.size/\Own w' bs 83 2 A5 j bh (lnV (((gr[i]'ao).ln.take j).map (Yx o)))) ((gr[i]'ao).ln.length) ?_ (fun m g17 w18 hI=>?_)
  ·exact⟨0,none,0,ag _,rfl,rfl,hB.u,an.u,ac.u,a5.u,bd.u,a1.u,be.u,b3,a3,a2,bb,Own.nil _ _ _ _⟩
  obtain⟨j,A5,bh,hj,hmj,h60,hB,an,ac,a5,bd,a1,be,b3,a3,a2,bb,ab⟩:=hI;refine zX 60 _ h60 nu (zn6 ?_);refine zQ rfl (fun c61=>?_) (fun c61=>?_)
  ·have bu:j<(gr[i]'ao).ln.length:=by omega
   obtain⟨lb,lof,rfl,hlb,hlr⟩:=hln.at_ hB bu;obtain⟨t,ht,htl⟩:∃ t:Nat,((gr[i]'ao).ln[j]'bu).2=(t:Int)/\t<gr.length:=by
     have h1:=hk.ln i ao _ (am bu);exact⟨(((gr[i]'ao).ln[j]'bu).2).toNat,by omega,by omega⟩
   refine zn7 ?_;refine wl (qw U83 rfl rfl hlr uW) ?_;refine qW (cs:=#[.int .i64 0,.int .i64 0]) K4 rfl (fun b13 w19 bf bj hr=>?_);have:=an.ob hr;have:=ac.ob hr;have:=a1.ob hr;have:=a5.ob hr;have:=bd.ob hr;have:=a3.ob hr;have:=be.ob hr;have c2:=(nLT bb hr)
   have bk:=b3.ob hr;have a9:=ab.ob hr;have cp:=hB.ob hr;replace a2:=qj a2 bj;replace bb:=zV bb bj;clear hr;refine zZ bf rfl rfl uW rfl qz (fun w20 hq bi=>?_);replace a2:=qj a2 bi;replace bb:=zV bb bi;replace b3:=b3.tr0 bj;replace b3:=b3.tr1 bi (fun g hg=>by have:=bk g hg;omega);replace ab:=ab.tr0 bj;replace ab:=ab.tr1 bi (fun g hg=>by have:=a9 g hg;omega);replace bf:=hq;refine zJ (e_S ?_);rw[ht]at bf;have zo:=fun g hg=>(ab.lt g hg).2
   have c7:(kz o.length (fun x=>if x<k+1 then .int .i64 (nd gr (o.getD x 0)).ty else .int .i64 0) (fun x=>if x=k then .slice A5 j bh else if x<k then V x else .slice none 0 0))[0+k*2+1]? =some (.slice A5 j bh):=by rw[ZQ bw];simp
   replace hB:=(hB.tr0 bj).tr1 bi cp;have hsz:=Bel.size hB;refine J1 21 (rg [] 64 21) (aL A5) 18 (fun ix v wv=>match ix with|0=>v= .pointer (some ⟨b9,0,none⟩)|1=>v= .slice (some ⟨br,0,none⟩) o.length o.length|2=>v= .int .i64 k|3=>v= .pointer (some ⟨b9,0,none⟩)|4=>v= .slice (some ⟨br,0,none⟩) o.length o.length|5=>v= .int .i64 k|6=>v= .pointer (some ⟨br,0+k*2,none⟩)|7=>v= .pointer (some ⟨br,0+k*2+1,none⟩)|8=>v= .slice A5 j bh|9=>v= .pointer (some ⟨b13,0,none⟩)|10=>v= .int .i64 ((gr[i]'ao).ln[j]'bu).1|11=>v= .slice (some ⟨bq,0,none⟩) gr.length gr.length|12=>v= .pointer (some ⟨b13,1,none⟩)|13=>v= .int .i64 (t:Nat)|14=>v= .pointer (some ⟨bq,0+t*1,none⟩)|15=>v= .int .i64 (kV o t)|16=>v= .agg #[.int .i64 ((gr[i]'ao).ln[j]'bu).1,.int .i64 (kV o t)]|17=>∃ b,v= .slice (some ⟨b,0,none⟩) 1 1/\w20.heap.size<=b/\Blk wv b 83 #[.int .i64 ((gr[i]'ao).ln[j]'bu).1,.int .i64 (kV o t)]|18=>∃ g cap,v= .slice (some ⟨g,0,none⟩) (j+1) cap/\Own wv bs 83 2 (some ⟨g,0,none⟩) (j+1) cap (lnV (((gr[i]'ao).ln.take j).map (Yx o))++[.int .i64 ((gr[i]'ao).ln[j]'bu).1,.int .i64 (kV o t)])|19=>v= .pointer (some ⟨br,0+k*2,none⟩)|20=>v= .pointer (some ⟨br,0+k*2+1,none⟩)|_=>True) (fun _=>True) kR kR ?_ (fun _ _ _ _=>trivial) ?_ ?_ dE ?_
   ·intro ix v wv wv2 h s16
    match ix,h with
    | 0,h=>exact h
    | 1,h=>exact h
    | 2,h=>exact h
    | 3,h=>exact h
    | 4,h=>exact h
    | 5,h=>exact h
    | 6,h=>exact h
    | 7,h=>exact h
    | 8,h=>exact h
    | 9,h=>exact h
    | 10,h=>exact h
    | 11,h=>exact h
    | 12,h=>exact h
    | 13,h=>exact h
    | 14,h=>exact h
    | 15,h=>exact h
    | 16,h=>exact h
    | 17,h=>
     obtain⟨cb,ca,bv,bo⟩:=h;exact⟨cb,ca,bv,bo.tr0 s16⟩
    | 18,h=>
     obtain⟨c9,bg,cx,bm⟩:=h;exact⟨c9,bg,cx,bm.tr0 s16⟩
    | 19,h=>exact h
    | 20,h=>exact h
    | _+21,h=>exact trivial
   ·intro ix o cv c3 a4 gg wx bz hd;replace be:=(be.tr0 bj).tr1 bi oG
    match ix,cv,c3,a4 with
    | 0,_,_,a4=>
     cases sI a4;refine qZ (u6 U30 sz28 dE rfl rfl rfl) ⟨Same.refl _ _,?_⟩;exact rfl
    | 1,_,_,a4=>
     cases sI a4;replace be:=be.ta bz ab;refine a7 64 (hd 0 a8) ?_;refine qZ (qy (v:= .slice _ _ _) U28 rfl rfl (be.cell rfl)) ⟨Same.refl _ _,?_⟩;exact rfl
    | 2,_,_,a4=>
     cases sI a4;refine qZ (xz (v:= .int _ _) rfl) ⟨Same.refl _ _,?_⟩;exact rfl
    | 3,_,_,a4=>
     cases sI a4;refine qZ (u6 U30 sz28 dE rfl rfl rfl) ⟨Same.refl _ _,?_⟩;exact rfl
    | 4,_,_,a4=>
     cases sI a4;replace be:=be.ta bz ab;refine a7 67 (hd 3 a8) ?_;refine qZ (qy (v:= .slice _ _ _) U28 rfl rfl (be.cell rfl)) ⟨Same.refl _ _,?_⟩;exact rfl
    | 5,_,_,a4=>
     cases sI a4;refine qZ (xz (v:= .int _ _) rfl) ⟨Same.refl _ _,?_⟩;exact rfl
    | 6,_,_,a4=>
     cases sI a4;refine a7 68 (hd 4 a8) (a7 69 (hd 5 a8) ?_);refine qZ (x9 (i:=k) U28 o6 rfl rfl oG rfl) ⟨Same.refl _ _,?_⟩;exact rfl
    | 7,_,_,a4=>
     cases sI a4;refine a7 70 (hd 6 a8) ?_;refine qZ (u6 U80 BW dE rfl rfl rfl) ⟨Same.refl _ _,?_⟩;exact rfl
    | 8,_,_,a4=>
     cases sI a4;replace a3:=(a3.tr0 bj).tr1 bi oG;replace a3:=a3.ta bz ab;refine a7 71 (hd 7 a8) ?_;refine qZ (qy (v:= .slice _ _ _) U78 rfl rfl (a3.cell c7)) ⟨Same.refl _ _,?_⟩;exact rfl
    | 9,_,_,a4=>
     cases sI a4;refine qZ (u6 U83 qk dE rfl rfl rfl) ⟨Same.refl _ _,?_⟩;exact rfl
    | 10,_,_,a4=>
     cases sI a4;replace bf:=bf.tb bz (fun g hg=>by have:=a9 g hg;omega);refine a7 73 (hd 9 a8) ?_;refine qZ (qy (v:= .int _ _) U3 rfl rfl (bf.cell rfl)) ⟨Same.refl _ _,?_⟩;exact rfl
    | 11,_,_,a4=>
     cases sI a4;replace a5:=(a5.tr0 bj).tr1 bi oG;replace a5:=a5.ta bz ab;refine qZ (qy (v:= .slice _ _ _) U59 rfl rfl (a5.cell rfl)) ⟨Same.refl _ _,?_⟩;exact rfl
    | 12,_,_,a4=>
     cases sI a4;refine qZ (u6 U83 qk dE rfl rfl rfl) ⟨Same.refl _ _,?_⟩;exact rfl
    | 13,_,_,a4=>
     cases sI a4;replace bf:=bf.tb bz (fun g hg=>by have:=a9 g hg;omega);refine a7 76 (hd 12 a8) ?_;refine qZ (qy (v:= .int _ _) U3 rfl rfl (bf.cell rfl)) ⟨Same.refl _ _,?_⟩;exact rfl
    | 14,_,_,a4=>
     cases sI a4;refine a7 75 (hd 11 a8) (a7 77 (hd 13 a8) ?_);refine qZ (x9 (i:=t) U59 qk rfl rfl htl rfl) ⟨Same.refl _ _,?_⟩;exact rfl
    | 15,_,_,a4=>
     cases sI a4;replace a1:=(a1.tr0 bj).tr1 bi oG;replace a1:=a1.ta bz ab;refine a7 78 (hd 14 a8) ?_;refine qZ (qy (v:= .int _ _) U3 rfl rfl (a1.cell (vW htl))) ⟨Same.refl _ _,?_⟩;exact rfl
    | 16,_,_,a4=>
     cases sI a4;refine a7 74 (hd 10 a8) (a7 79 (hd 15 a8) ?_);refine qZ (vw (v0:= .int _ _) (v1:= .int _ _) (fun v0 v1=>#[v0,v1]) rfl rfl kR) ⟨Same.refl _ _,?_⟩;exact rfl
    | 17,_,_,a4=>
     cases sI a4;have hs0:=bz;refine a7 80 (hd 16 a8) ?_;refine jK (fun ops Q K=>?_);refine qV (cs:=#[_,_]) [(0,.agg _)] rfl U78 uW K4 dE dE kR rfl (fun cb w21 bo s18 hr=>?_);exact K _ _ ⟨s18,⟨_,rfl,nLT hs0.size hr,bo⟩⟩
    | 18,_,c3,_=>exact absurd rfl c3
    | 19,_,_,a4=>
     cases sI a4;refine a7 65 (hd 1 a8) (a7 66 (hd 2 a8) ?_);refine qZ (x9 (i:=k) U28 o6 rfl rfl oG rfl) ⟨Same.refl _ _,?_⟩;exact rfl
    | 20,_,_,a4=>
     cases sI a4;refine a7 83 (hd 19 a8) ?_;refine qZ (u6 U80 BW dE rfl rfl rfl) ⟨Same.refl _ _,?_⟩;exact rfl
    | _+21,cv,_,_=>exact absurd cv oG
   ·intro o a4 gg wx ck hd;cases sI a4;replace a2:=qj a2 ck;replace bb:=zV bb ck;obtain⟨cb,ca,bv,bo⟩:=hd 17 (zk kR);refine a7 72 (hd 8 a8) (zq 81 _ ca nu ?_);refine jK (fun ops Q K=>?_);replace ab:=ab.tr0 ck;refine j7 U78 in83 rfl dE ab bo rfl rfl rfl qz dE oG oG bb (fun c9 bg w2 bm hs2 hg82=>?_);refine K _ _ ⟨hs2,⟨_,_,rfl,bm⟩,trivial,fun kx v c3 h=>?_⟩
    match kx,c3,h with
    | 0,_,h=>exact h
    | 1,_,h=>exact h
    | 2,_,h=>exact h
    | 3,_,h=>exact h
    | 4,_,h=>exact h
    | 5,_,h=>exact h
    | 6,_,h=>exact h
    | 7,_,h=>exact h
    | 8,_,h=>exact h
    | 9,_,h=>exact h
    | 10,_,h=>exact h
    | 11,_,h=>exact h
    | 12,_,h=>exact h
    | 13,_,h=>exact h
    | 14,_,h=>exact h
    | 15,_,h=>exact h
    | 16,_,h=>exact h
    | 17,_,h=>
     obtain⟨cb,ca,bv,bo⟩:=h;exact⟨cb,ca,bv,bo.tr hs2 (fun hx=>by have:=zo _ hx;omega)⟩
    | 18,c3,_=>exact absurd rfl c3
    | 19,_,h=>exact h
    | 20,_,h=>exact h
    | _+21,_,_=>exact trivial
   intro gg w22 bt _ hR;replace hB:=hB.tr bt (fun g hg=>nLT c6 (ab.lt g hg).1);replace an:=(an.tr0 bj).tr1 bi oG;replace an:=an.ta bt ab;replace ac:=(ac.tr0 bj).tr1 bi oG;replace ac:=ac.ta bt ab;replace a1:=(a1.tr0 bj).tr1 bi oG;replace a1:=a1.ta bt ab;replace a5:=(a5.tr0 bj).tr1 bi oG;replace a5:=a5.ta bt ab;replace bd:=(bd.tr0 bj).tr1 bi oG;replace bd:=bd.ta bt ab;replace a3:=(a3.tr0 bj).tr1 bi oG;replace a3:=a3.ta bt ab;replace be:=(be.tr0 bj).tr1 bi oG;replace be:=be.ta bt ab;replace a2:=fun x hx=>(a2 x hx).tr bt (fun g hg=> .inl ((ab).lt g hg).1)
   replace bb:=zV bb bt;replace b3:=b3.tr bt (fun g hg hx=>by have:=(ab.lt _ hx).1;(try have:=luo g hg);omega);obtain⟨c9,bg,cx,bm⟩:=hR 18 dE;replace bm:Own w22 bs 83 2 (some ⟨c9,0,none⟩) (j+1) bg (lnV (((gr[i]'ao).ln.take (j+1)).map (Yx o))):=by
     rw[List.take_succ_eq_append_getElem bu,List.map_append,List.map_cons,List.map_nil,<- E8];have e:Yx o ((gr[i]'ao).ln[j]'bu)=(((gr[i]'ao).ln[j]'bu).1,kV o t):=by simp[Yx,ht]
     rw[e];exact bm
   have ab:=bm;refine xj 82 _ cx nu (xj 84 _ (hR 20 dE) nu ?_);refine xQ (v:= .slice _ _ _) a3 rfl rfl BW (by rw[uq];show 0+k*2+1<o.length*2;omega) rfl M1 (fun w23 hq cd=>?_);replace a2:=qj a2 cd;replace bb:=zV bb cd;replace b3:=b3.tr1 cd (fun g hg=>by have:=b6 g hg;omega);replace ab:=ab.tq cd;replace a3:=hq
   rw[oX (f':=(fun x=>if x<k+1 then .int .i64 (nd gr (o.getD x 0)).ty else .int .i64 0)) (h':=fun x=>if x=k then .slice (some ⟨c9,0,none⟩) (j+1) bg else if x<k then V x else .slice none 0 0) (fun x _=>rfl) (fun x _=>by
     by_cases e:x=k
     · subst e;simp
     · simp[e])]at a3
   refine zn7 ?_;refine x8 ((gr[i]'ao).ln.length-(j+1)) oG agA ?_;exact⟨j+1,_,_,by omega,rfl,rfl,hB.u,an.u,ac.u,a5.u,bd.u,a1.u,be.u,b3,a3,a2,bb,ab⟩
  have hjx:j=(gr[i]'ao).ln.length:=by omega
  subst hjx;refine yW ?_;refine x8 (o.length-(k+1)) oG agA ?_;refine⟨k+1,fun x=>if x=k then .slice A5 (gr[i]'ao).ln.length bh else V x,by omega,rfl,rfl,hB,an,ac,a5,bd,a1,be,b3,?_,fun x hx=>?_,c4.snoc a2 (fun g hg=>(ab.lt g hg).1)⟩
  · rw[oX (f':=(fun x=>if x<k+1 then .int .i64 (nd gr (o.getD x 0)).ty else .int .i64 0)) (h':=(fun x=>if x<k+1 then (if x=k then .slice A5 (gr[i]'ao).ln.length bh else V x)else .slice none 0 0)) (fun x _=>rfl) (fun x _=>by
      by_cases e:x=k
      · subst e;simp
      · have e1:(x<k+1)↔(x<k):=by omega
        simp[e,e1])]at a3
    exact a3
  · by_cases e:x=k
    · subst e
      simp only[if_true]
      have h:=RowO.of (lo:=w.heap.size) (xs:=(gr[i]'ao).ln.map (Yx o)) c6 (by
        rw[List.take_length]at ab
        rw[List.length_map];exact ab)
      rw[List.length_map]at h;rw[hgd,hnd];exact h
    · simp only[if_neg e]
      exact(a2 x oG).up bb
 have cu:k=o.length:=by omega
 rw[cu]at a3 a2 c4;refine zn8 ?_;refine zZ ac rfl rfl QQ rfl qz (fun w24 hq cc=>?_);replace a2:=qj a2 cc;replace bb:=zV bb cc;replace ac:=hq;refine zn3 ?_;refine xK (.inl rfl) rfl (zW U30 rfl rfl ac.range0 QQ) ?_;have hcl:(yK gr o).length=o.length:=by simp[yK]
 replace hB:=hB.tr1 cc lo4;replace a3:=a3.tr1 cc oG;refine⟨⟨o,_,hD,cq,rfl,GrD.mk (own_row2 a3 co oG) hcl (ah _) (fun x hx=>?_) (fun g hg=>?_) bb (fun x hx=>?_) (c4.congr (fun x hx=>by simp[hx]))⟩,hB⟩
 · rw[Dq hx];simp[hx]
 · rw[List.mem_singleton.1 hg];exact a3.lt
 · rw[Dq hx]
   have h:=a2 x hx
   simpa[hx]using h
theorem from3_any(G:Option Addr)(cg nf:Nat)(gr:List Nd)(r:Nat)(w:World)(hG:NodesIn w G gr)(hk:N1 nf gr)(hnf:nf<=1000)(hr:r<gr.length):Calls prog 62 #[.agg #[.slice G gr.length cg],.int .i64 r] w fun e w'=>(∃ o A,DL gr [r] [] o/\OOk gr.length o/\e= .returned (.agg #[.slice A o.length o.length])/\GrT w' w.heap.size w'.heap.size A o.length (yK gr o) (fun x=>(nd (yK gr o) x).ty))/\Bel w w':=(from4_any G cg nf gr r w hG hk hnf hr).mono fun e w' h=>by
 obtain⟨⟨o,A,h1,h2,h3,h4⟩,hs⟩:=h
 exact⟨⟨o,A,h1,h2,h3,h4.grt⟩,hs⟩
theorem TX(G:Option Addr)(cg nf:Nat)(gr:List Nd)(r:Nat)(w:World)(hG:NodesIn w G gr)(hk:N1 nf gr)(hnf:nf<=1000)(hr:r<gr.length):Calls prog 62 #[.agg #[.slice G gr.length cg],.int .i64 r] w fun e w'=>(∃ o A,DL gr [r] [] o/\OOk gr.length o/\e= .returned (.agg #[.slice A o.length o.length])/\(∀ w2,FrSame w.heap.size w' w2->NodesIn w2 A (yK gr o)))/\Bel w w':=(from3_any G cg nf gr r w hG hk hnf hr).mono fun e w' h=>by
 obtain⟨⟨o,A,h1,h2,h3,h4⟩,hs⟩:=h
 exact⟨⟨o,A,h1,h2,h3,fun w2 hf=>by have:=(h4.fr hf).nodes;rwa[L6]at this⟩,hs⟩
theorem from_any(G:Option Addr)(cg nt nf:Nat)(gr:List Nd)(r:Nat)(w:World)(hG:NodesIn w G gr)(hk:GOk nt nf gr)(hnf:nf<=1000)(hr:r<gr.length):Calls prog 62 #[.agg #[.slice G gr.length cg],.int .i64 r] w fun e w'=>(∃ o A,DL gr [r] [] o/\OOk gr.length o/\e= .returned (.agg #[.slice A o.length o.length])/\(∀ w2,FrSame w.heap.size w' w2->NodesIn w2 A (yK gr o)))/\Bel w w':=TX G cg nf gr r w hG hk.two hnf hr
structure GV(l:List Ty)(fs:List Ft)(g:List Nd):Prop where
 h:(qK l fs).1=0
 s:V5 l
 few:fs.length<=40
 f:FOk l.length fs
 gok:GOk l.length fs.length g
 t:tyF l fs g=(0,0)
 u:¬0<=Kq g
 lo:(j9 l.length fs.length g).1=0
theorem gv_of{l:List Ty}{fs:List Ft}(h:(Q8 l fs g).1=0):GV l fs g:=by
 by_cases h0:(qK l fs).1=0
 ·rw[gf_in h0]at h
  by_cases h1:(j9 l.length fs.length g).1=0
  ·by_cases h2:(tyF l fs g).1=0
   ·have h2':tyF l fs g=(0,0):=TK h2
    by_cases h3:0<=Kq g
    ·grind[wi_unr,h1]
    ·refine⟨h0,Ky h0,?_,By h0,Bv h1,h2',h3,h1⟩
     grind[qK]
   ·grind[xk,h1]
  ·grind[N3,h1]
 ·grind[gf_hier]
theorem DL.sub(h:DL g is a b):∀ x∈a,x∈b:=by
 induction h with
 | nil=>exact fun x h=>h
 | old h t ih=>exact ih
 | new h s t ihs iht=>exact fun x hx=>iht x (ihs x (List.mem_append_left _ hx))
theorem DL.has(h:DL g is a b):∀ i∈is,i∈b:=by
 induction h with
 | nil=>exact fun i h=>by cases h
 | old h t ih=>
  intro i hi;rcases ax.1 hi with rfl|hi
  ·exact t.sub _ h
  ·exact ih i hi
 | new h s t ihs iht=>
  intro i hi;rcases ax.1 hi with rfl|hi
  ·exact t.sub _ (s.sub _ (by simp))
  ·exact iht i hi
theorem DL.clo(h:DL g is a b):∀ x∈b,¬x∈a->∀ t∈vy g x,t∈b:=by
 induction h with
 | nil=>exact fun x h1 h2=>absurd h1 h2
 | old h t ih=>exact ih
 | new h s t ihs iht=>
  rename_i i is o o1 o'
  intro x hx hn y hy;by_cases h1:x∈o1
  ·by_cases h2:x=i
   ·subst h2;exact t.sub _ (s.has y hy)
   ·exact t.sub _ (ihs x h1 (fun h3=>by
     rcases aE.1 h3 with h3|h3
     ·exact hn h3
     ·exact h2 (aq.1 h3)) y hy)
  ·exact iht x hx h1 y hy
theorem DL.nodup(h:DL g is a b):a.Nodup->b.Nodup:=by
 induction h with
 | nil=>exact fun h=>h
 | old h t ih=>exact ih
 | new h s t ihs iht=>
  grind
theorem DL.rch(hr:∀ i,i<g.length->∀ t∈vy g i,t<g.length)(h:DL g is a b):(∀ i∈is,i<g.length)->(∀ i∈is,Rch g i)->(∀ x∈a,Rch g x)->∀ x∈b,Rch g x:=by
 induction h with
 | nil=>exact fun _ _ h=>h
 | old h t ih=>exact fun hi hR ha=>ih (fun i h=>hi i (ar _ h)) (fun i h=>hR i (ar _ h)) ha
 | new h s t ihs iht=>
  rename_i i is o o1 o'
  intro hi hR ha;have a1:=hi i (aB ..);have hRi:=hR i (aB ..);refine iht (fun i h=>hi i (ar _ h)) (fun i h=>hR i (ar _ h)) (ihs (hr i a1) (fun t ht=>?_) (fun x hx=>?_))
  ·simp only[vy,vx a1,List.mem_map]at ht
   obtain⟨y,hy,rfl⟩:=ht;exact .step hRi a1 hy
  ·grind
structure Tr(g:List Nd)(o:List Nat):Prop where
 dl:DL g [0] [] o
 ok:OOk g.length o
 nd:o.Nodup
 pos:0<o.length
 zero:o.idxOf 0=0
 clo:∀ x∈o,∀ t∈vy g x,t∈o
theorem Dv(hn:o.Nodup){k:Nat}(hk:k<o.length):o.idxOf o[k]=k:=by
 grind
theorem oq(hx:x∈o):∃ h:o.idxOf x<o.length,o[o.idxOf x]=x:=⟨List.idxOf_lt_length_of_mem hx,List.getElem_idxOf _⟩
theorem D8(hx:x∈o):kV o x=(o.idxOf x:Nat):=by simp[kV,hx]
theorem uY(g:List Nd)(o:List Nat):(yK g o).length=o.length:=by simp[yK]
theorem EJ(hx:x∈o):nd (yK g o) (o.idxOf x)=SZ g o x:=by
 grind[h1,oq,vx,uY,yK]
theorem R7(h:∀ x∈o,∀ t∈vy g x,t∈o)(hx:x∈o):vy (yK g o) (o.idxOf x)=(vy g x).map (o.idxOf ·):=by
 unfold vy;rw[EJ hx];simp only[SZ,List.map_map];refine aP (fun y hy=>?_);have:y.2.toNat∈o:=h x hx _ (by simp only[vy,List.mem_map];exact⟨y,hy,rfl⟩);simp[Yx,D8 this]
theorem DL.map{g:List Nd}{o:List Nat}(hc:∀ x∈o,∀ t∈vy g x,t∈o){is a b:List Nat}(h:DL g is a b):(∀ x∈b,x∈o)->DL (yK g o) (is.map (o.idxOf ·)) (a.map (o.idxOf ·)) (b.map (o.idxOf ·)):=by
 have inj:∀ x y,x∈o->y∈o->o.idxOf x=o.idxOf y->x=y:=fun x y hx hy e=>by
  obtain⟨h1,h2⟩:=oq hx
  grind
 induction h with
 | nil=>exact fun _=> .nil
 | old h t ih=>
  intro hb;exact .old (List.mem_map_of_mem h) (ih hb)
 | new h s t ihs iht=>
  rename_i i is o0 o1 o'
  intro hb;have hio:=hb i (t.sub _ (s.sub _ (by simp)));refine .new (fun hm=>?_) ?_ (iht hb)
  ·obtain⟨y,hy,e⟩:=av.1 hm
   have hyo:=hb y (t.sub _ (s.sub _ (List.mem_append_left _ hy)))
   grind
  ·have:=ihs (fun x hx=>hb x (t.sub _ hx))
   rw[List.map_append]at this;rw[R7 hc hio];exact this
theorem FJ(hn:o.Nodup):o.map (o.idxOf ·)=List.range o.length:=by
 apply List.ext_getElem
 ·simp
 ·grind
theorem Tr.can(h:Tr g o):DL (yK g o) [0] [] (List.range o.length):=by
 have:=h.dl.map h.clo (fun x hx=>hx);rw[FJ h.nd]at this
 simpa[h.zero]using this
theorem FrSame.then{B B0:Nat}{w1 w2:World}(h:FrSame B w0 w1)(k:FrSame B0 w1 w2)(hb:B0<=B):FrSame B w0 w2:=
 ⟨nLT h.size k.size,fun i hi hl=>(k.blk i (nLT hb hi) (nLL hl h.size)).trans (h.blk i hi hl)⟩
theorem fd83:(prog.fieldsOf 83).toList.map (fun f=>(f.name == "_",f.type,f.offset))= [(false,3,0),(false,3,1)]:=by kernel_rfl
theorem ft83:prog.underlying 83=some (.struct (prog.fieldsOf 83)):=by kernel_rfl
theorem leq_any(A B:Option Addr)(c d:Nat)(xs ys:List (Int×Int))(w:World)(hX:LinksIn w A xs)(hY:LinksIn w B ys):Calls prog 26 #[.slice A xs.length c,.slice B ys.length d] w fun e w'=>e= .returned (.bool (decide (xs=ys)))/\Bel w w':=by
 have hmx:=hX.1;unfold vJ at hmx;refine enT func26 ntmps26 rfl rfl fun hB=>?_;refine Yv ?_;refine zQ rfl (fun c10=>?_) (fun c10=>?_)
 ·refine zn8 ?_;exact⟨jJ (ap (fun h=>c10 (by rw[h]))),hB⟩
 refine jq ?_;refine qx (rg [4,5] 13 13) (fun m g w'=>∃ k:Nat,k<=xs.length/\m=xs.length-k/\g 13= .int .i64 k/\Bel w w'/\xs.take k=ys.take k) (xs.length) ?_ (fun m g4 w1 hI=>?_)
 ·exact⟨0,ag _,rfl,rfl,hB,rfl⟩
 obtain⟨k,hk,hm,h13,hB,hE⟩:=hI;refine zX 13 _ h13 nu (zn6 ?_);refine zQ rfl (fun c14=>?_) (fun c14=>?_)
 ·have a2:k<xs.length:=by omega
  have a1:k<ys.length:=by omega
  obtain⟨pb,po,rfl,hpb,hpc⟩:=hX.at_ (Below.refl _ _:Bel w w) a2;obtain⟨qb,qo,rfl,hqb,hqc⟩:=hY.at_ (Below.refl _ _:Bel w w) a1;refine jq ?_;refine oZ kR kR (fun w2 s1=>?_);refine zn8 ?_;refine ws (r_neF Tryz.eqGuardType83 ft83 Tryz.stoodInHeld83 fd83 U3 rfl rfl) (ux (e_S ?_));refine zQ rfl (fun a4=>?_) (fun a4=>?_)
  ·refine vj ?_;replace hB:=hB.tr0 s1;exact⟨jJ (ap (fun h=>a4 (by subst h;exact⟨rfl,rfl⟩))),hB⟩
  refine zn7 ?_;refine x8 (xs.length-(k+1)) oG agA ?_;have hx:xs[k]'a2=ys[k]'a1:=by
    have h:=az.1 a4;exact Prod.ext h.1 h.2
  replace hB:=hB.tr0 s1;exact⟨k+1,by omega,rfl,rfl,hB,by rw[List.take_succ_eq_append_getElem a2,List.take_succ_eq_append_getElem a1,hE,hx]⟩
 have hek:k=xs.length:=by omega
 have a3:xs=ys:=by
   rw[hek]at hE;have e2:ys.take xs.length=ys:=aZ oG;rw[List.take_length,e2]at hE;exact hE
 refine vj ?_;exact⟨jJ (ai a3),hB⟩
set_option maxHeartbeats 1000000 in
theorem nodes_any(A B:Option Addr)(c d:Nat)(ga gb:List Nd)(w:World)(hA:NodesIn w A ga)(hBn:NodesIn w B gb):Calls prog 6 #[.agg #[.slice A ga.length c],.agg #[.slice B gb.length d]] w fun e w'=>e= .returned (.bool (decide (ga=gb)))/\Bel w w':=by
 have hmx:=hA.1;unfold vJ at hmx;refine enT func6 ntmps6 rfl rfl fun hB=>?_;refine zn2 ?_;refine xy (v:= .agg #[_]) (cs:=#[_]) rfl rfl (fun b2 w1 a5 s1 hr=>?_);refine xy (v:= .agg #[_]) (cs:=#[_]) rfl rfl (fun b3 w2 a4 s2 hr=>?_);refine Yv ?_;refine zQ rfl (fun c12=>?_) (fun c12=>?_)
 ·refine zn8 ?_;replace hB:=hB.tr0 (s1.t s2);exact⟨jJ (ap (fun h=>c12 (by rw[h]))),hB⟩
 refine vj ?_;refine qx (rg [4,5] 16 33) (fun m g w'=>∃ k:Nat,k<=ga.length/\m=ga.length-k/\g 16= .int .i64 k/\Bel w w'/\Blk w' b2 30 #[.slice A ga.length c]/\Blk w' b3 30 #[.slice B gb.length d]/\ga.take k=gb.take k) (ga.length) ?_ (fun m g4 w3 hI=>?_)
 ·exact⟨0,ag _,rfl,rfl,hB.u,a5.u,a4,rfl⟩
 obtain⟨k,hk,hm,h16,hB,a5,a4,hE⟩:=hI;refine zX 16 _ h16 nu (zn6 ?_);refine zQ rfl (fun c17=>?_) (fun c17=>?_)
 ·have a3:k<ga.length:=by omega
  have a2:k<gb.length:=by omega
  obtain⟨ab,ao,LA,la,rfl,hab,har,b4⟩:=hA.at_ (Below.refl _ _:Bel w w) a3;obtain⟨bb,bo,LB,lb,rfl,hbb,hbr,b1⟩:=hBn.at_ (Below.refl _ _:Bel w w) a2;refine jq ?_;refine y9 (rg [] 19 29) (fun g w'=>g 47= .bool (decide (¬(ga[k]'a3).ty=(gb[k]'a2).ty) || !decide ((ga[k]'a3).ln=(gb[k]'a2).ln))/\Same [] w3 w') ?_ (fun g6 w4 hI=>?_)
  ·refine uz [] [0,1,2,3,4,5,6,7,8,9,10,11,12,13,14,15,16,17,18,19,20,21,22,23,24,25,26,27,28] rfl (fun w5 s3=>?_);have ac:=s3;refine zn5 ?_;refine hl1 (v:= .int _ _) rfl U3 rfl rfl (hB.u.cell hab (har 0 _ rfl)) (zn5 ?_);refine hl1 (v:= .int _ _) rfl U3 rfl rfl (hB.u.cell hbb (hbr 0 _ rfl)) (zn2 ?_);refine h_casesd 32 rfl (fun b5=>?_) (fun b5=>?_)
   ·refine Kz ?_;refine e_R ⟨agA,?_,ac⟩;show Value.bool _=Value.bool _;exact ae (by simp[b5])
   refine zn5 ?_;refine hg1 (v:= .slice _ _ _) 32 rfl rfl rfl U78 rfl rfl (hB.u.cell hab (har 1 _ rfl)) (zn5 ?_);refine hg1 (v:= .slice _ _ _) 32 rfl rfl rfl U78 rfl rfl (hB.u.cell hbb (hbr 1 _ rfl)) (h1 rfl (zn1 ?_));refine qq kR (leq_any _ _ _ _ _ _ w5 (b4.mono hB.u) (b1.mono hB.u)) rfl (fun e' w6 hr=>?_);obtain⟨rfl,s4⟩:=hr;replace s4:=sB s4;have a1:=s4;refine⟨_,rfl,?_⟩;refine zJ (K9 a1 (zn3 ?_));replace ac:=ac.t s4;refine e_R ⟨agA,?_,ac⟩;show Value.bool _=Value.bool _;exact ae (by simp[b5])
  obtain⟨h47,s5⟩:=hI;refine jj 47 _ h47 nu (e_S ?_);refine jQ rfl (fun a9=>?_) (fun a9=>?_)
  ·refine vj ?_;replace hB:=hB.tr0 s5
   exact⟨jJ (ap (fun h=>by
     subst h
     simp at a9)),hB⟩
  have hx:ga[k]'a3=gb[k]'a2:=by
    simp only[Bool.or_eq_false_iff,decide_eq_false_iff_not,Bool.not_eq_false',decide_eq_true_eq]at a9;exact V8 (az.1 a9.1) a9.2
  refine zn7 ?_;refine x8 (ga.length-(k+1)) oG agA ?_;replace hB:=hB.tr0 s5;replace a5:=a5.tr0 s5;replace a4:=a4.tr0 s5;exact⟨k+1,by omega,rfl,rfl,hB,a5,a4,by rw[List.take_succ_eq_append_getElem a3,List.take_succ_eq_append_getElem a2,hE,hx]⟩
 have hek:k=ga.length:=by omega
 have an:ga=gb:=by
   rw[hek]at hE;have e2:gb.take ga.length=gb:=aZ oG;rw[List.take_length,e2]at hE;exact hE
 refine vj ?_;exact⟨jJ (ai an),hB⟩
theorem clone_any(A:Option Addr)(c bn bd:Nat)(o:List Nat)(w:World)(hO:OrdF w bn bd A o)(hl:o.length<=1000000):Calls prog 69 #[.slice A o.length c] w fun e w'=>(∃ A' cap',e= .returned (.slice A' o.length cap')/\Own w' w.heap.size 3 1 A' o.length cap' (oV o))/\Bel w w':=by
 refine enT func69 ntmps69 rfl rfl fun hB=>?_;refine zn9 ?_;refine wl (Lq U59 rfl rfl) (zJ (e_S ?_));refine jQ rfl (fun c4=>?_) (fun c4=>?_)
 ·have hn:o= []:=by
    rcases hO with h|⟨_,b,h,_⟩
    · exact h.1
    · rw[h]at c4;cases c4
  subst hn;refine zn8 ?_;exact⟨⟨none,0,rfl,Own.nil _ _ _ _⟩,hB⟩
 obtain⟨hne,b,rfl,hbn,hbd,hbl,hc⟩:o≠[]/\∃ b,A=some ⟨b,0,none⟩/\b≠bn/\b<bd/\b<w.heap.size/\∀ k (hk:k<o.length),w.cell? ⟨b,0+k,none⟩=some (.int .i64 (o[k]:Nat)):=by
   rcases hO with h|h
   · rw[h.2]at c4;cases c4
   · exact h
 have a1:=List.length_pos_iff.2 hne;refine zn4 ?_;refine wl_bs0 U59 qk (fun b5 w1 hb5 s1 hr=>?_);have lo5:=hB.ob hr;refine wmS rfl ?_;have a2:=YK (sz:=1) (m:=0) hb5 (ah b5) rfl dE;replace hB:=hB.tr0 s1;refine wl_appC (b:=b) (o':=0) (news:=oV o) U59 in3 rfl dE a2 rfl rfl (fun j u hj=>?_) (by simp[oV]) (by simp[oV,List.all_eq_true];intros;rfl) a1 oG oG (Nat.le_of_lt hb5.lt) (fun g7 a3 w9 ho7 s2 hg=>?_)
 · simp only[oV,List.getElem?_map,Option.map_eq_some_iff]at hj
   obtain⟨x,hx,rfl⟩:=hj;obtain⟨hk,rfl⟩:=au.1 hx;exact hB.cell hbl (hc j hk)
 have hB9:Bel w w9:=hB.tr s2 (fun g hg=>by cases aq.1 hg;exact lo5);refine zn5 ?_;refine⟨⟨some ⟨g7,0,none⟩,a3,?_,?_⟩,hB9⟩
 · show Ending.returned (.slice _ (0+o.length) _)=_
   rw[Nat.zero_add]
 · have h:=ho7.low lo5
   rw[Nat.zero_add]at h;exact h
set_option maxHeartbeats 2000000 in
theorem P5{G:Option Addr}{cg nf bn:Nat}{gr:List Nd}(hG:NodesIn w0 G gr)(hk:N1 nf gr)(l0n:w0.heap.size<=bn){A:Option Addr}{cap:Nat}{w:World}(hB:Bel w0 w)(hok:OOk gr.length o)(a2:Blk w bn 3 (row gr.length (fun x=> .int .i64 (kV o x))))(hO:OrdF w bn w.heap.size A o){i:Nat}(a4:i<gr.length)(IH:∀(t:Nat) (o2:List Nat) (A2:Option Addr) (a9:Nat) (w2:World),uk gr.length (Xx o2)<uk gr.length (Xx o)->t<gr.length->Bel w0 w2->OOk gr.length o2->Blk w2 bn 3 (row gr.length (fun x=> .int .i64 (kV o2 x)))->OrdF w2 bn w2.heap.size A2 o2->Calls prog 53 #[.agg #[.slice G gr.length cg],.int .i64 (t:Nat),.slice (some ⟨bn,0,none⟩) gr.length gr.length,.slice A2 (o2).length a9] w2 fun e w'=>∃ o' A' cap',DL gr [t] o2 o'/\e= .returned (.slice A' o'.length cap')/\Blk w' bn 3 (row gr.length (fun x=> .int .i64 (kV o' x)))/\OrdF w' bn w'.heap.size A' o'/\Same [bn] w2 w'):Calls prog 53 #[.agg #[.slice G gr.length cg],.int .i64 (i:Nat),.slice (some ⟨bn,0,none⟩) gr.length gr.length,.slice A (o).length cap] w fun e w'=>∃ o' A' cap',DL gr [i] o o'/\e= .returned (.slice A' o'.length cap')/\Blk w' bn 3 (row gr.length (fun x=> .int .i64 (kV o' x)))/\OrdF w' bn w'.heap.size A' o'/\Same [bn] w w':=by
 have a1:Same [bn] w w/\w.heap.size<=w.heap.size:=⟨Same.refl _ _,ah _⟩
 obtain⟨bd,ac⟩:∃ b,b=w.heap.size:=⟨_,rfl⟩
 rw[<- ac]at hO;have a3:bd<=w.heap.size:=ay ac;have hn6:=hk.le;have hrg:=IJ hk;have hol:=hok.cnt;have hnl:=a2.lt;refine enter func53 ntmps53 rfl (aD rfl) (zn2 ?_);refine xy (v:= .agg #[_]) (cs:=#[_]) rfl rfl (fun b4 w1 a5 t1 hr=>?_);have:=a2.ob hr;have bb:=(nLT a1.2 hr)
 have b9:=(nLT a3 hr)
 replace hO:=hO.tr t1 (by simp);replace a1:=And.intro (a1.1.freshL t1 (by simp)) (nLT a1.2 (Same.size t1));replace a3:=zV a3 t1;refine zn8 ?_;refine wl (x9 (i:=i) U59 qk rfl rfl a4 rfl) ?_;replace a2:=a2.tr0 t1;refine wl (qy (v:= .int _ _) U3 rfl rfl (a2.cell (vW a4))) (zn3 ?_);refine zQ rfl (fun bx=>?_) (fun bx=>?_)
 ·refine zn9 ?_;exact⟨o,A,cap,.old (LZ bx) .nil,rfl,a2,hO.up a3,a1.1⟩
 have bi:=LX bx;have bg:=hok.snoc a4 bi;have hol2:=bg.cnt;refine zn8 ?_;refine wl (x9 (i:=i) U59 qk rfl rfl a4 rfl) ?_;refine xQ (v:= .int _ _) a2 rfl rfl qk (by rw[row_size];omega) rfl kv (fun w2 hq t2=>?_);replace hB:=hB.u.tr1 t2 l0n;replace hO:=hO.tr t2 (fun g hg=>by have h1:=aq.1 hg;omega);replace a1:=And.intro (a1.1.freshL t2 (fun g hg=>by have h1:=aq.1 hg;first|(left;rw[h1];simp;done)|(right;omega))) (nLT a1.2 (Same.size t2));replace a3:=zV a3 t2;replace a2:=hq;rw[row_num bi]at a2;refine zn3 ?_;obtain⟨bq,b7⟩:∃ b,b=w2.heap.size:=⟨_,rfl⟩
 have bf:bq<=w2.heap.size:=ay b7;replace a5:=a5.tr1 t2 oG;have lq4:b4<bq:=by rw[b7];exact a5.lt
 have lqn:bn<bq:=by rw[b7];exact a2.lt
 have hbd0:bd<=bq:=by rw[b7];exact a3
 have hSz:w.heap.size<=bq:=by rw[b7];exact a1.2
 have hB0:w0.heap.size<=bq:=by rw[b7];exact Bel.size hB
 refine zn2 ?_;refine qq kR (clone_any _ _ _ _ o _ hO oG) rfl (fun e' w3 hr=>?_);obtain⟨⟨AC,capC,rfl,ab⟩,t3⟩:=hr;replace t3:=sB t3;replace hO:=hO.tr t3 (by simp);replace a1:=And.intro (a1.1.freshL t3 (by simp)) (nLT a1.2 (Same.size t3));replace a3:=zV a3 t3;replace bf:=zV bf t3;rw[<- b7]at ab;refine⟨_,rfl,?_⟩;refine wmI rfl ?_;refine qV (cs:=#[_]) [(0,.int _ _)] rfl U59 qk Z1 dE dE kR rfl (fun b25 w4 bv t4 hr=>?_);replace a2:=a2.tr0 t3;have:=a2.ob hr;have b2:=(nLT a1.2 hr)
 have ao:=(nLT a3 hr)
 have:=a5.u.ob hr;have an:=ab.ob hr;replace hO:=hO.tr t4 (by simp);replace a1:=And.intro (a1.1.freshL t4 (by simp)) (nLT a1.2 (Same.size t4));replace a3:=zV a3 t4;replace bf:=zV bf t4;replace ab:=ab.tr0 t4;refine j7 U59 in3 rfl dE ab bv rfl rfl rfl qz dE oG oG bf (fun g26 cap26 w5 bo t5 hg=>?_);replace a2:=a2.tr0 t4;have b5:g26≠bn:=neA ab a2.lt hg
 have b6:g26≠b4:=neA ab a5.u.lt hg
 replace hB:=hB.u.tr t5 (fun g hg=>nLT hB0 (ab.lt g hg).1);replace a2:=a2.ta t5 ab;replace a1:=And.intro (a1.1.freshL t5 (fun g hg=> .inr (by have:=((ab).lt g hg).1;omega))) (nLT a1.2 (Same.size t5));replace a5:=a5.tr0 (t3.t t4);replace a5:=a5.ta t5 ab;have hO2:=ord_own bo lqn;obtain⟨be,hbe⟩:∃ b,b=w5.heap.size:=⟨_,rfl⟩
 rw[<- hbe]at hO2;have bu:be<=w5.heap.size:=ay hbe;refine zn5 ?_;obtain⟨nb,no,LA,lc,rfl,hnb,hnr,hln⟩:=hG.at_ hB a4;have hmx:=hln.1;unfold vJ at hmx;refine zn4 ?_;refine wl (x9 (i:=i) U28 o6 rfl rfl a4 rfl) (zn1 ?_);refine wl (qy (v:= .slice _ _ _) U78 rfl rfl (hnr 1 _ rfl)) (zn5 ?_);refine qx (rg [3,10] 34 11) (fun m g w'=>∃(j:Nat) (o2:List Nat) (A2:Option Addr) (a9:Nat),j<=(gr[i]'a4).ln.length/\m=(gr[i]'a4).ln.length-j/\g 34= .int .i64 j/\g 3= .slice A2 o2.length a9/\DL gr ((vy gr i).take j) (o++[i]) o2/\Bel w0 w'/\Blk w' b4 30 #[.slice (some ⟨nb,no,none⟩) gr.length cg]/\Blk w' bn 3 (row gr.length (fun x=> .int .i64 (kV o2 x)))/\OrdF w' bn w'.heap.size A2 o2/\(Same [bn] w w'/\w.heap.size<=w'.heap.size)) ((gr[i]'a4).ln.length) ?_ (fun m g6 w6 hI=>?_)
 ·exact⟨0,_,_,_,ag _,rfl,rfl,sl_oV _ _ _ _,.nil,hB,a5,a2,hO2.up bu,a1⟩
 obtain⟨j,o2,A2,a9,hj,hm,h34,h3,hD,hB,a5,a2,hO,a1⟩:=hI;obtain⟨bd,ac⟩:∃ b,b=w6.heap.size:=⟨_,rfl⟩
 rw[<- ac]at hO;have a3:bd<=w6.heap.size:=ay ac;have hnl:=a2.lt;refine zX 34 _ h34 nu (zX 3 _ h3 nu (zn6 ?_));refine zQ rfl (fun c35=>?_) (fun c35=>?_)
 ·have bh:j<(gr[i]'a4).ln.length:=by omega
  obtain⟨lb,lof,rfl,hlb,hlr⟩:=hln.at_ hB bh;obtain⟨t,ht,htl⟩:∃ t:Nat,((gr[i]'a4).ln[j]'bh).2=(t:Int)/\t<gr.length:=by
    have h1:=hk.ln i a4 _ (am bh);exact⟨(((gr[i]'a4).ln[j]'bh).2).toNat,by omega,by omega⟩
  obtain⟨bm,s3,hs3⟩:=hD.ok hrg (fun x hx=>hrg i a4 x (List.mem_of_mem_take hx)) bg;have hlk:uk gr.length (Xx o2)<uk gr.length (Xx o):=by
    rw[hs3];exact Nat.lt_of_le_of_lt (Tk _ _ _) (M7 a4 bi)
  refine zn7 ?_;refine wl (qw U83 rfl rfl hlr uW) ?_;refine qW (cs:=#[.int .i64 0,.int .i64 0]) K4 rfl (fun b10 w7 b8 t6 hr=>?_);have:=a2.ob hr;have b3:=(nLT a1.2 hr)
  have:=a5.ob hr;have b1:=(nLT a3 hr)
  have bk:=hB.ob hr;replace a1:=And.intro (a1.1.freshL t6 (by simp)) (nLT a1.2 (Same.size t6));replace hO:=hO.tr t6 (by simp);replace a3:=zV a3 t6;refine zZ b8 rfl rfl uW rfl qz (fun w8 hq t7=>?_);replace a1:=And.intro (a1.1.freshL t7 (fun g hg=>by have h1:=aq.1 hg;first|(left;rw[h1];simp;done)|(right;omega))) (nLT a1.2 (Same.size t7));replace hO:=hO.tr t7 (fun g hg=>by have h1:=aq.1 hg;omega);replace a3:=zV a3 t7;replace b8:=hq;refine zJ (e_S ?_);rw[ht]at b8;refine zn6 ?_;replace a5:=(a5.tr0 t6).tr1 t7 oG;have lb4:=a5.lt;have hO4:=hO.up a3;replace a2:=(a2.tr0 t6).tr1 t7 oG;have bc:b4≠bn:=fun e=>absurd (jy (e ▸ a5) a2) dE
  refine qq kR (IH t o2 A2 a9 _ hlk htl hB.u bm a2 hO4) rfl (fun e' w9 hr=>?_);obtain⟨o3,A3,bw,hD3,rfl,bt,hO3,bj⟩:=hr;replace hB:=(hB.tr0 t6).tr1 t7 bk;replace hB:=hB.tr bj (by simpa using l0n);replace a5:=a5.tr bj (by simpa using bc);replace a2:=bt;replace hO:=hO3;replace a1:=And.intro (a1.1.trans bj) (nLT a1.2 bj.size);refine⟨_,rfl,?_⟩;refine zn8 ?_;refine x8 ((gr[i]'a4).ln.length-(j+1)) oG agA ?_;exact⟨j+1,o3,A3,bw,by omega,rfl,rfl,rfl,by rw[C5 a4 bh ht];exact hD.append hD3,hB,a5,a2,hO,a1⟩
 have hjx:j=(gr[i]'a4).ln.length:=by omega
 have br:DL gr (vy gr i) (o++[i]) o2:=by
   have e:(vy gr i).take j=vy gr i:=aZ (by simp[vy,vx a4,hjx]);rw[e]at hD;exact hD
 refine uw ?_;exact⟨o2,A2,a9,.new bi br .nil,rfl,a2,hO.up a3,a1.1⟩
theorem visit2_any{G:Option Addr}{cg nf bn:Nat}{gr:List Nd}(hG:NodesIn w0 G gr)(hk:N1 nf gr)(l0n:w0.heap.size<=bn):∀(m:Nat) (o:List Nat) (A:Option Addr) (cap:Nat) (w:World) (i:Nat),uk gr.length (Xx o)<=m->i<gr.length->Bel w0 w->OOk gr.length o->Blk w bn 3 (row gr.length (fun x=> .int .i64 (kV o x)))->OrdF w bn w.heap.size A o->Calls prog 53 #[.agg #[.slice G gr.length cg],.int .i64 (i:Nat),.slice (some ⟨bn,0,none⟩) gr.length gr.length,.slice A (o).length cap] w fun e w'=>∃ o' A' cap',DL gr [i] o o'/\e= .returned (.slice A' o'.length cap')/\Blk w' bn 3 (row gr.length (fun x=> .int .i64 (kV o' x)))/\OrdF w' bn w'.heap.size A' o'/\Same [bn] w w':=by
 intro m
 induction m with
 | zero=>intro o A cap w i hm a3 hB a2 h1 h2;exact P5 hG hk l0n hB a2 h1 h2 a3 (fun t o2 A2 a1 w2 hl=>by omega)
 | succ m ih=>intro o A cap w i hm a3 hB a2 h1 h2;exact P5 hG hk l0n hB a2 h1 h2 a3 (fun t o2 A2 a1 w2 hl=>ih o2 A2 a1 w2 t oG)
set_option maxHeartbeats 4000000 in
theorem rfrom3_any(G:Option Addr)(cg nf:Nat)(gr:List Nd)(r:Nat)(w:World)(hG:NodesIn w G gr)(hk:N1 nf gr)(hnf:nf<=1000)(hr:r<gr.length):Calls Tryz.prog 35 #[.agg #[.slice G gr.length cg],.int .i64 r] w fun e w'=>(∃ o A c,DL gr [r] [] o/\OOk gr.length o/\e= .returned (.agg #[.slice A o.length c])/\GrT w' w.heap.size w'.heap.size A c (yK gr o) (fun x=>(nd (yK gr o) x).ty))/\Bel w w':=by
 have hn6:=hk.le;have hrg:=IJ hk;refine enT Tryz.func35 Tryz.ntmps35 rfl rfl fun hB=>?_;refine zn2 ?_;refine xy (v:= .agg #[_]) (cs:=#[_]) rfl rfl (fun b2 w1 an t1 hr=>?_);clear hr;refine qW (cs:=#[.slice none 0 0]) H0 rfl (fun b4 w2 a9 t2 hr=>?_);have:=an.ob hr;have lo4:=hB.u.ob hr;clear hr;refine zn7 ?_;refine XV (m:=gr.length) U59 in3 rfl rfl rfl oG oG (fun bo w3 a2 t3 hr=>?_);have:=an.u.ob hr;have:=a9.ob hr;have ce:=hB.u.ob hr;clear hr;refine vj ?_;refine qx (rg [6] 20 7) (fun m g w'=>∃ k:Nat,k<=gr.length/\m=gr.length-k/\g 20= .int .i64 k/\Bel w w'/\Blk w' b2 30 #[.slice G gr.length cg]/\Blk w' b4 30 #[.slice none 0 0]/\Blk w' bo 3 (row gr.length (fun x=> .int .i64 (if x<k then -1 else 0)))) (gr.length) ?_ (fun m g3 w4 hI=>?_)
 ·refine⟨0,ag _,rfl,rfl,hB.u,an.u,a9.u,?_⟩;rw[xJ (g':=fun _=> .int .i64 0) (fun x _=>by simp)];exact a2
 obtain⟨k,hkk,hm,h20,hB,an,a9,a2⟩:=hI;refine zX 20 _ h20 nu (zn6 ?_);refine zQ rfl (fun c21=>?_) (fun c21=>?_)
 ·have c9:k<gr.length:=by omega
  refine ZV ?_;refine xQ (v:= .int _ _) a2 rfl rfl qk (by rw[row_size];omega) rfl kv (fun w5 hq t4=>?_);replace a2:=hq
  rw[xJ (g':=fun x=> .int .i64 (if x<k+1 then -1 else 0)) (fun x _=>by
    by_cases e:x=k
    · subst e;simp
    · have e1:(x<k+1)↔(x<k):=by omega
      simp[e,e1])]at a2
  refine zn7 ?_;refine x8 (gr.length-(k+1)) oG agA ?_;exact⟨k+1,by omega,rfl,rfl,hB.u,an.u,a9.u,a2⟩
 have cw:k=gr.length:=by omega
 rw[cw,xJ (g':=fun x=> .int .i64 (kV [] x)) (fun x hx=>by simp[hx,LQ])]at a2;refine Kz ?_;have ne2:b2≠bo:=by omega
 have ne4:b4≠bo:=by omega
 refine qq kR (visit2_any (w0:=w) (G:=G) (cg:=cg) (bn:=bo) hG hk ce gr.length [] none 0 _ r (Dj _ _) hr hB (OOk.nil _) a2 (OrdF.nil _ _ _)) rfl (fun e' w6 hr=>?_);obtain⟨o,AO,capO,hD,rfl,cn,hO,d2⟩:=hr;replace hB:=hB.tr d2 (by simpa using ce);replace an:=an.tr d2 (by simpa using ne2);replace a9:=a9.tr d2 (by simpa using ne4);replace a2:=cn;obtain⟨cu,_,_⟩:=hD.ok hrg (fun i hi=>by rw[List.mem_singleton.1 hi];exact hr) (OOk.nil _);have hol:=cu.cnt;obtain⟨bd,cm⟩:∃ b,b=w6.heap.size:=⟨_,rfl⟩
 rw[<- cm]at hO;have cx:bd<=w6.heap.size:=ay cm;refine⟨_,rfl,?_⟩;refine zn5 ?_;refine qW (cs:=#[.slice none 0 0]) H0 rfl (fun b8 w7 b3 t5 hr=>?_);have:=an.ob hr;have:=a9.ob hr;have:=a2.ob hr;have b9:=(nLT cx hr)
 have lo8:=hB.ob hr;replace hO:=hO.tr t5 (by simp);replace cx:=zV cx t5;clear hr;refine zn4 ?_;replace hO:=hO.up b9;have cj:w.heap.size<=b8+1:=aJ lo8;refine zn7 ?_;refine qx (rg [10,11,13] 34 43) (fun m g w'=>∃(k:Nat) (AN:Option Addr) (bf:Nat) (V:Nat->Value),k<=o.length/\m=o.length-k/\g 34= .int .i64 k/\Bel w w'/\Blk w' b2 30 #[.slice G gr.length cg]/\Blk w' b4 30 #[.slice none 0 0]/\Blk w' bo 3 (row gr.length (fun x=> .int .i64 (kV o x)))/\Blk w' b8 30 #[.slice AN k bf]/\OrdF w' bo b8 AO o/\Own w' (b8+1) 80 2 AN k bf (ndV (fun x=> .int .i64 (nd gr (o.getD x 0)).ty) V k)/\(∀ x,x<k->RowO w' w.heap.size w'.heap.size (V x) ((nd gr (o.getD x 0)).ln.map (Yx o)))) (o.length) ?_ (fun m g11 w8 hI=>?_)
 ·exact⟨0,none,0,fun _=> .slice none 0 0,ag _,rfl,rfl,hB.u,an.u,a9.u,a2.u,b3,hO,Own.nil _ _ _ _,fun x hx=>by omega⟩
 obtain⟨k,AN,bf,V,hkk,hm,h34,hB,an,a9,a2,b3,hO,a3,a1⟩:=hI;obtain⟨bs,bq⟩:∃ b,b=w8.heap.size:=⟨_,rfl⟩
 rw[<- bq]at a1;have a4:bs<=w8.heap.size:=ay bq;have lu8:b8<bs:=by rw[bq];exact b3.lt
 have luN:∀ g∈aL AN,g<bs:=fun g hg=>by rw[bq];exact(a3.lt g hg).2
 refine zX 34 _ h34 nu (zn6 ?_);refine zQ rfl (fun c35=>?_) (fun c35=>?_)
 ·have c9:k<o.length:=by omega
  obtain⟨i,hoi,b1⟩:∃ i:Nat,o[k]'c9=i/\i<gr.length:=⟨_,rfl,cu.lt _ (am c9)⟩
  have hgd:o.getD k 0=i:=by simp[List.getD,c9,hoi]
  have hnd:=vx b1;obtain⟨q,rfl,hqn,hqd,hql,hqc⟩:∃ q,AO=some ⟨q,0,none⟩/\q≠bo/\q<b8/\q<w8.heap.size/\∀ k (hk:k<o.length),w8.cell? ⟨q,0+k,none⟩=some (.int .i64 (o[k]:Nat)):=by
    rcases hO with h|⟨_,h⟩
    · rw[h.1]at c9;simp at c9
    · exact h
  have hz:w8.cell? ⟨q,0+k*1,none⟩=some (.int .i64 (i:Int)):=by
    have:=hqc k c9;rw[hoi]at this
    simpa using this
  obtain⟨nb,no,LA,lc,rfl,hnb,hnr,hln⟩:=hG.at_ (Below.refl _ _:Bel w w) b1;have hmx:=hln.1;unfold vJ at hmx;have hfw:=hk.few i b1;refine zn7 ?_;refine wl (qy (v:= .int _ _) U3 rfl rfl hz) (zn8 ?_);refine wl (x9 (i:=i) U28 o6 rfl rfl b1 rfl) (zn1 ?_);refine wl (qy (v:= .int _ _) U3 rfl rfl (hB.cell hnb (hnr 0 _ rfl))) (wl (YQ (v0:= .int _ _) (fun v0=>#[v0,.slice none 0 0]) rfl kR) ?_);refine qW (cs:=#[.int .i64 0,.slice none 0 0]) DX rfl (fun cb w9 ab t6 hr=>?_);have:=an.ob hr;have:=a9.ob hr;have:=a2.ob hr;have:=b3.ob hr;have a5:=a3.ob hr;have b7:=(nLT a4 hr)
  have cr:=hB.ob hr;replace hO:=hO.tr t6 (by simp);replace a1:=qj a1 t6;replace a4:=zV a4 t6;clear hr;refine zZ ab rfl rfl o6 rfl qz (fun w10 hq t7=>?_);replace hO:=hO.tr t7 (fun g hg=>by have h1:=aq.1 hg;omega);replace a3:=a3.tr0 t6;replace a3:=a3.tr1 t7 (fun g hg=>by have:=a5 g hg;omega);replace a1:=qj a1 t7;replace a4:=zV a4 t7;replace ab:=hq;refine zn4 ?_;have lb11:bs<=cb:=b7;have ck:w.heap.size<=cb+1:=aJ cr;refine zn4 ?_;refine wl (x9 (i:=i) U28 o6 rfl rfl b1 rfl) (zn1 ?_);refine wl (qy (v:= .slice _ _ _) U78 rfl rfl (hB.u.cell hnb (hnr 1 _ rfl))) (zn5 ?_);refine qx (rg [13] 52 18) (fun m g w'=>∃(j:Nat) (A5:Option Addr) (bh:Nat),j<=(gr[i]'b1).ln.length/\m=(gr[i]'b1).ln.length-j/\g 52= .int .i64 j/\Bel w w'/\Blk w' b2 30 #[.slice (some ⟨nb,no,none⟩) gr.length cg]/\Blk w' b4 30 #[.slice none 0 0]/\Blk w' bo 3 (row gr.length (fun x=> .int .i64 (kV o x)))/\Blk w' b8 30 #[.slice AN k bf]/\Blk w' cb 80 #[.int .i64 (gr[i]'b1).ty,.slice A5 j bh]/\OrdF w' bo b8 (some ⟨q,0,none⟩) o/\Own w' (b8+1) 80 2 AN k bf (ndV (fun x=> .int .i64 (nd gr (o.getD x 0)).ty) V k)/\(∀ x,x<k->RowO w' w.heap.size bs (V x) ((nd gr (o.getD x 0)).ln.map (Yx o)))/\bs<=w'.heap.size/\Own w' (cb+1) 83 2 A5 j bh (lnV (((gr[i]'b1).ln.take j).map (Yx o)))) ((gr[i]'b1).ln.length) ?_ (fun m g15 w11 hI=>?_)
  ·exact⟨0,none,0,ag _,rfl,rfl,hB.u,an.u,a9.u,a2.u,b3.u,ab,hO,a3,a1,a4,Own.nil _ _ _ _⟩
  obtain⟨j,A5,bh,hj,hmj,h52,hB,an,a9,a2,b3,ab,hO,a3,a1,a4,ao⟩:=hI;refine zX 52 _ h52 nu (zn6 ?_);refine zQ rfl (fun c53=>?_) (fun c53=>?_)
  ·have bv:j<(gr[i]'b1).ln.length:=by omega
   obtain⟨lb,lof,rfl,hlb,hlr⟩:=hln.at_ hB bv;obtain⟨t,ht,htl⟩:∃ t:Nat,((gr[i]'b1).ln[j]'bv).2=(t:Int)/\t<gr.length:=by
     have h1:=hk.ln i b1 _ (am bv);exact⟨(((gr[i]'b1).ln[j]'bv).2).toNat,by omega,by omega⟩
   refine zn7 ?_;refine wl (qw U83 rfl rfl hlr uW) ?_;refine qW (cs:=#[.int .i64 0,.int .i64 0]) K4 rfl (fun b13 w12 ca t8 hr=>?_);have:=an.ob hr;have:=a9.ob hr;have:=a2.ob hr;have:=b3.ob hr;have c4:=(nLT a4 hr)
   have:=ab.ob hr;have b5:=a3.ob hr;have b6:=ao.ob hr;have cq:=hB.ob hr;replace hO:=hO.tr t8 (by simp);replace a1:=qj a1 t8;replace a4:=zV a4 t8;clear hr;refine zZ ca rfl rfl uW rfl qz (fun w13 hq t9=>?_);replace hO:=hO.tr t9 (fun g hg=>by have h1:=aq.1 hg;omega);replace a1:=qj a1 t9;replace a4:=zV a4 t9;replace a3:=a3.tr0 t8;replace a3:=a3.tr1 t9 (fun g hg=>by have:=b5 g hg;omega);replace ao:=ao.tr0 t8;replace ao:=ao.tr1 t9 (fun g hg=>by have:=b6 g hg;omega);replace ca:=hq;refine zJ (e_S ?_);rw[ht]at ca;have zo:=fun g hg=>(ao.lt g hg).2
   replace hB:=(hB.tr0 t8).tr1 t9 cq;have hsz:=Bel.size hB;refine Qz [] [11,13] [0,1,2,3,4,5,6,7,8,9,10,11,12,13] rfl (fun w14 bc=>?_);replace hO:=hO.tr bc (by simp);replace a1:=qj a1 bc;replace a4:=zV a4 bc;refine zn7 ?_;refine hl rfl (fun _=>x9 (i:=t) U59 qk rfl rfl htl rfl) (hl1 (v:= .int _ _) rfl U3 rfl rfl (a2.u.cell (vW htl)) (hl rfl (fun _=>vw (v0:= .int _ _) (v1:= .int _ _) (fun v0 v1=>#[v0,v1]) rfl rfl kR) (h1 rfl ?_)));refine qV (cs:=#[_,_]) [(0,.agg _)] rfl U78 uW K4 dE dE kR rfl (fun b66 w15 cz bb hr=>?_);have:=an.u.ob hr;have:=a9.u.ob hr;have:=a2.u.ob hr;have:=b3.u.ob hr;have c3:=(nLT a4 hr)
   have:=ab.u.ob hr;replace a3:=a3.tr0 bc;have bz:=a3.ob hr;replace ao:=ao.tr0 bc;have c1:=ao.ob hr;have cf:=bb;replace hO:=hO.tr bb (by simp);replace a1:=qj a1 bb;replace a4:=zV a4 bb;clear hr;refine zJ (K9 cf (h1 rfl ?_));replace ao:=ao.tr0 bb;refine j7 U78 in83 rfl dE ao cz rfl rfl rfl qz dE oG oG ab.u.lt (fun d3 bg w16 be bm hg67=>?_);replace hB:=hB.tr0 (bc.t bb);replace hB:=hB.tr bm (fun g hg=>nLT ck (ao.lt g hg).1);replace an:=((an.tr0 t8).tr1 t9 oG).tr0 (bc.t bb);replace an:=an.ta bm ao;replace a9:=((a9.tr0 t8).tr1 t9 oG).tr0 (bc.t bb);replace a9:=a9.ta bm ao;replace a2:=((a2.tr0 t8).tr1 t9 oG).tr0 (bc.t bb);replace a2:=a2.ta bm ao;replace hO:=hO.tr bm (fun g hg=> .inr (by have:=((ao).lt g hg).1;omega));replace b3:=((b3.tr0 t8).tr1 t9 oG).tr0 (bc.t bb);replace b3:=b3.ta bm ao;replace a1:=qj a1 bm;replace a4:=zV a4 bm;replace ab:=((ab.tr0 t8).tr1 t9 oG).tr0 (bc.t bb);replace ab:=ab.ta bm ao;replace a3:=a3.tr0 bb;replace a3:=a3.tr bm (fun g hg hx=>by have:=(ao.lt _ hx).1;(try have:=luN g hg);omega);obtain⟨d3,bg,e67,be⟩:∃ g cap,(.slice (some ⟨d3,0,none⟩) (j+1) bg:Value)= .slice (some ⟨g,0,none⟩) (j+1) cap/\Own w16 (cb+1) 83 2 (some ⟨g,0,none⟩) (j+1) cap (lnV (((gr[i]'b1).ln.take j).map (Yx o))++[.int .i64 ((gr[i]'b1).ln[j]'bv).1,.int .i64 (kV o t)]):=⟨_,_,rfl,be⟩
   cases e67;refine zJ (D0 [13] (zn1 ?_));replace be:Own w16 (cb+1) 83 2 (some ⟨d3,0,none⟩) (j+1) bg (lnV (((gr[i]'b1).ln.take (j+1)).map (Yx o))):=by
     rw[List.take_succ_eq_append_getElem bv,List.map_append,List.map_cons,List.map_nil,<- E8];have e:Yx o ((gr[i]'b1).ln[j]'bv)=(((gr[i]'b1).ln[j]'bv).1,kV o t):=by simp[Yx,ht]
     rw[e];exact be
   have ao:=be;refine h1 rfl ?_;refine xQ (v:= .slice _ _ _) ab rfl rfl BW (by first|decide|simp) rfl rfl (fun w17 hq cc=>?_);have hsH13:=cc;replace hO:=hO.tr cc (fun g hg=>by have h1:=aq.1 hg;omega);replace a1:=qj a1 cc;replace a4:=zV a4 cc;replace a3:=a3.tr1 cc (fun g hg=>by have:=a5 g hg;omega);replace ao:=ao.tq cc;replace ab:=hq;refine zJ (D0 [] (zn7 ?_));refine x8 ((gr[i]'b1).ln.length-(j+1)) oG agA ?_;exact⟨j+1,_,_,by omega,rfl,rfl,hB.u,an.u,a9.u,a2.u,b3.u,ab,hO,a3,a1,a4,ao⟩
  have hjx:j=(gr[i]'b1).ln.length:=by omega
  subst hjx;refine zn5 ?_
  have ac:=RowO.of (lo:=w.heap.size) (xs:=(gr[i]'b1).ln.map (Yx o)) ck (by
    rw[List.take_length]at ao
    rw[List.length_map];exact ao)
  rw[List.length_map]at ac;obtain⟨s5,hs5⟩:∃ b,b=w11.heap.size:=⟨_,rfl⟩
  rw[<- hs5]at ac;have bu:s5<=w11.heap.size:=ay hs5;refine zn4 ?_;refine qV (cs:=#[_,_]) [(0,.agg _)] rfl U28 o6 DX dE dE kR rfl (fun b73 w18 cy bk hr=>?_);have:=an.ob hr;have:=a9.ob hr;have:=a2.ob hr;have:=b3.ob hr;have c2:=(nLT a4 hr)
  have bx:=a3.ob hr;have c0:=ao.ob hr;have bw:=(nLT bu hr)
  replace hO:=hO.tr bk (by simp);replace a1:=qj a1 bk;replace a4:=zV a4 bk;replace ac:=ac.tr bk (by simp);replace bu:=zV bu bk;clear hr;replace a3:=a3.tr0 bk;refine j7 U28 in80 rfl dE a3 cy rfl rfl rfl qz dE oG oG b3.u.lt (fun cd co w19 cv bj hg=>?_);have c7:cd≠b2:=neA a3 an.u.lt hg
  have c6:cd≠b4:=neA a3 a9.u.lt hg
  have br:cd≠bo:=neA a3 a2.u.lt hg
  have c5:cd≠b8:=neA a3 b3.u.lt hg
  have bt:cd≠cb:=neB ab.u.lt hg (fun g hg=>by have:=a5 g hg;omega)
  replace hB:=hB.u.tr bj (fun g hg=>nLT cj (a3.lt g hg).1);replace an:=an.tr0 bk;replace an:=an.ta bj a3;replace a9:=a9.tr0 bk;replace a9:=a9.ta bj a3;replace a2:=a2.tr0 bk;replace a2:=a2.ta bj a3;replace hO:=hO.tr bj (fun g hg=> .inr (by have:=((a3).lt g hg).1;omega));replace b3:=b3.tr0 bk;replace b3:=b3.ta bj a3;replace a1:=qj a1 bj;replace a4:=zV a4 bj;replace ac:=ac.c bj;replace bu:=zV bu bj;have c8:Own w19 (b8+1) 80 2 (some ⟨cd,0,none⟩) (k+1) co (ndV (fun x=> .int .i64 (nd gr (o.getD x 0)).ty) (fun x=>if x=k then .slice A5 (gr[i]'b1).ln.length bh else V x) (k+1)):=by
    rw[QX,gJ (f':=(fun x=> .int .i64 (nd gr (o.getD x 0)).ty)) (h':=V) (fun x _=>rfl) (fun x hx=>by rw[if_neg (show ¬x=k from by omega)])];simp only[if_true];rw[hgd,hnd];exact cv
  refine zn1 ?_;refine xQ (v:= .slice _ _ _) b3 rfl rfl sz28 (by first|decide|simp) rfl rfl (fun w20 hq bi=>?_);replace hO:=hO.tr bi (fun g hg=>by have h1:=aq.1 hg;omega);replace a1:=qj a1 bi;replace a4:=zV a4 bi;replace ac:=ac.c bi;replace bu:=zV bu bi;replace c8:=c8.tq bi;replace b3:=hq;refine zn7 ?_;refine x8 (o.length-(k+1)) oG agA ?_;replace hB:=hB.tr1 bi lo8;replace an:=an.tr1 bi oG;replace a9:=a9.tr1 bi oG;replace a2:=a2.tr1 bi oG
  exact⟨k+1,_,_,fun x=>if x=k then .slice A5 (gr[i]'b1).ln.length bh else V x,by omega,rfl,rfl,hB,an,a9,a2,b3,hO,c8,fun x hx=>by
    by_cases e:x=k
    · subst e
      simp only[if_true];rw[hgd,hnd];exact ac.up bu
    · simp only[if_neg e]
      exact(a1 x oG).up a4⟩
 have cw:k=o.length:=by omega
 subst cw;refine zn8 ?_;refine zZ a9 rfl rfl QQ rfl qz (fun w21 hq cp=>?_);replace a3:=a3.tq cp;replace a1:=qj a1 cp;replace a4:=zV a4 cp;replace a9:=hq;refine zn3 ?_;refine xK (.inl rfl) rfl (zW U30 rfl rfl a9.range0 QQ) ?_;have hcl:(yK gr o).length=o.length:=by simp[yK]
 refine⟨⟨o,_,_,hD,cu,rfl,GrT.mk a3 hcl cj (fun x hx=>?_) (fun g hg=>(a3.lt g hg).2) a4 (fun x hx=>?_)⟩,hB.u⟩
 · rw[Dq hx]
 · rw[Dq hx]
   exact a1 x hx
theorem Cw(G:Option Addr)(cg nf:Nat)(gr:List Nd)(r:Nat)(w:World)(hG:NodesIn w G gr)(hk:N1 nf gr)(hnf:nf<=1000)(hr:r<gr.length):Calls Tryz.prog 35 #[.agg #[.slice G gr.length cg],.int .i64 r] w fun e w'=>(∃ o A c,DL gr [r] [] o/\OOk gr.length o/\e= .returned (.agg #[.slice A o.length c])/\(∀ w2,FrSame w.heap.size w' w2->NodesIn w2 A (yK gr o)))/\Bel w w':=(rfrom3_any G cg nf gr r w hG hk hnf hr).mono fun e w' h=>by
 obtain⟨⟨o,A,c,h1,h2,h3,h4⟩,hs⟩:=h
 exact⟨⟨o,A,c,h1,h2,h3,fun w2 hf=>by have:=(h4.fr hf).nodes;rwa[L6]at this⟩,hs⟩
inductive NdVs(w:World):List Nd->List Value->Prop
 | nil:NdVs w [] []
 | cons {x:Nd} {l:List Nd} {vs:List Value} {A:Option Addr} {c:Nat} (h:LinksIn w A x.ln) (r:NdVs w l vs):NdVs w (x::l) (.int .i64 x.ty:: .slice A x.ln.length c::vs)
theorem NdVs.get{w:World}{l:List Nd}{vs:List Value}(h:NdVs w l vs):∀ k (hk:k<l.length),∃ A c,vs[k*2]? =some (.int .i64 (l[k]).ty)/\vs[k*2+1]? =some (.slice A (l[k]).ln.length c)/\LinksIn w A (l[k]).ln:=by
 induction h with
 | nil=>intro k hk;simp at hk
 | cons h r ih=>
  intro k hk
  match k,hk with
  | 0,_=>exact⟨_,_,rfl,rfl,h⟩
  | k+1,hk=>
   obtain⟨A,c,h1,h2,h3⟩:=ih k (by simpa using hk);refine⟨A,c,?_,?_,h3⟩
   ·rw[show (k+1)*2=k*2+1+1 from by omega];simpa using h1
   ·rw[show (k+1)*2+1=k*2+1+1+1 from by omega];simpa using h2
theorem L5(A B:Option Addr)(n m c d:Nat)(ga gb:List Nd)(w:World)(hA:NodesIn w A ga)(hBn:NodesIn w B gb)(ha:ga.length=n)(hb:gb.length=m)(he:ga=gb):Calls Tryz.prog 6 #[.agg #[.slice A n c],.agg #[.slice B m d]] w fun e w'=>e= .returned (.bool true)/\Bel w w':=by
 subst ha hb;have h:=nodes_any A B c d ga gb w hA hBn;rw[decide_eq_true he]at h;exact h
end Go.Proofs.YtgcgnkmmbecfmaaGreatDoor
