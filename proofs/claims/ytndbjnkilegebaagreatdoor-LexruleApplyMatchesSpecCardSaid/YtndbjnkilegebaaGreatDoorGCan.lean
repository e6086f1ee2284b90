/- What these functions compute, at every world: graph.From, slices.Equal[[]api.Link,api.Link], equal.Nodes, slices.Clone[[]int,int], ref3.visit, ref3.From, ; and plain laws. -/
import Derived.Test.YtndbjnkilegebaaGreatDoorU
import Derived.Test.YtndbjnkilegebaaGreatDoorZst
import Derived.Test.YtndbjnkilegebaaGreatDoorGro
import Derived.Test.YtndbjnkilegebaaGreatDoorGLoose
namespace Go.Proofs.YtndbjnkilegebaaGreatDoor
open Go.RowKit Go.Proofs.Tryz
variable {a b is o:List Nat}{g:List Nd}{w0:World}{x:Nat}
theorem in84:(prog.info? 84).map (fun i=>(i.zero,i.size,i.bytes))=some (some (.agg #[.int .i64 0,.int .i64 0]),2,16):=by kernel_rfl
theorem in87:(prog.info? 87).map (fun i=>(i.zero,i.size,i.bytes))=some (some (.agg #[.int .i64 0,.slice none 0 0]),2,32):=by kernel_rfl
theorem sz175:(prog.info? 175).map (·.size)=some 1:=by kernel_rfl
theorem ze175:(prog.info? 175).map (·.zero)=some (some (.nilFunc)):=by kernel_rfl
theorem ze28:(prog.info? 28).map (·.zero)=some (some (.agg #[.slice none 0 0])):=by kernel_rfl
theorem ze62:(prog.info? 62).map (·.zero)=some (some (.slice none 0 0)):=by kernel_rfl
set_option maxHeartbeats 4000000 in
theorem from4_any(G:Option Addr)(cg nf:Nat)(gr:List Nd)(r:Nat)(w:World)(hG:NodesIn w G gr)(hk:Nj nf gr)(hnf:nf<=1000)(hr:r<gr.length):Calls prog 85 #[.agg #[.slice G gr.length cg],.int .i64 r] w fun e w'=>(∃ o A,DL gr [r] [] o/\OOk gr.length o/\e= .returned (.agg #[.slice A o.length o.length])/\GrD w' w.heap.size w'.heap.size A o.length (yq gr o) (fun x=>(nd (yq gr o) x).ty))/\Bel w w':=by
 have hn6:=hk.le;have hrg:=M2 hk;refine enT func85 ntmps85 rfl rfl fun hB=>?_;refine zn2 ?_;refine qv (cs:=#[_]) rfl (fun b2 w1 ac s1 hr=>?_);have lo2:=hB.ob hr;clear hr;refine qQ (cs:=#[.slice none 0 0]) ze28 rfl (fun b4 w2 ab s2 hr=>?_);have:=ac.ob hr;have lo4:=hB.u.ob hr;clear hr;refine zn7 ?_;refine Y5 (m:=gr.length) U62 in3 rfl rfl rfl oG oG (fun bk w3 a1 s3 hr=>?_);have:=ac.u.ob hr;have:=ab.ob hr;have c2:=hB.u.ob hr;clear hr;refine qQ (cs:=#[.slice none 0 0]) ze62 rfl (fun b5 w4 a5 s4 hr=>?_);have:=ac.u.ob hr;have:=ab.u.ob hr;have:=a1.ob hr;have lo5:=hB.u.ob hr;clear hr;refine xx (v:= .slice _ _ _) a5 rfl rfl D2 (by first|decide|simp) rfl rfl (fun w5 hq s5=>?_);replace a5:=hq;refine vJ ?_;refine qz (rg [6] 20 7) (fun m g w'=>∃ k:Nat,k<=gr.length/\m=gr.length-k/\g 20= .int .i64 k/\Bel w w'/\Blk w' b2 28 #[.slice G gr.length cg]/\Blk w' b4 28 #[.slice none 0 0]/\Blk w' b5 62 #[.slice (some ⟨bk,0,none⟩) gr.length gr.length]/\Blk w' bk 3 (row gr.length (fun x=> .int .i64 (if x<k then -1 else 0)))) (gr.length) ?_ (fun m g3 w6 hI=>?_)
 ·refine⟨0,ah _,rfl,rfl,hB.u,ac.u,ab.u,a5,?_⟩;replace a1:=(a1.tr0 s4).tr1 s5 oG;rw[xy (g':=fun _=> .int .i64 0) (fun x _=>by simp)];exact a1
 obtain⟨k,hkk,hm,h20,hB,ac,ab,a5,a1⟩:=hI;refine zQ 20 _ h20 nu (zn6 ?_);refine zZ rfl (fun c21=>?_) (fun c21=>?_)
 ·have bt:k<gr.length:=by omega
  refine QY ?_;refine xx (v:= .int _ _) a1 rfl rfl qq (by rw[row_size];omega) rfl kv (fun w7 hq s6=>?_);replace a1:=hq
  rw[xy (g':=fun x=> .int .i64 (if x<k+1 then -1 else 0)) (fun x _=>by
    by_cases e:x=k
    · subst e;simp
    · have e1:(x<k+1)↔(x<k):=by omega
      simp[e,e1])]at a1
  refine zn7 ?_;refine x9 (gr.length-(k+1)) oG agA ?_;exact⟨k+1,by omega,rfl,rfl,hB.u,ac.u,ab.u,a5.u,a1⟩
 have cp:k=gr.length:=by omega
 rw[cp,xy (g':=fun x=> .int .i64 (kJ [] x)) (fun x hx=>by simp[hx,numO_nil])]at a1;refine zn7 ?_;refine qQ (cs:=#[.slice none 0 0]) ze62 rfl (fun b7 w8 ba s7 hr=>?_);have:=ac.ob hr;have:=ab.ob hr;have:=a1.ob hr;have:=a5.ob hr;have lo7:=hB.ob hr;clear hr;refine zn4 ?_;refine qQ (cs:=#[.nilFunc]) ze175 rfl (fun b8 w9 cc s8 hr=>?_);have:=ac.u.ob hr;have:=ab.u.ob hr;have:=a1.u.ob hr;have:=a5.u.ob hr;have:=ba.ob hr;have lo8:=hB.u.ob hr;clear hr;refine zn4 ?_;refine wl (r_mf rfl) ?_;refine xx (v:= .func _ _ _) cc rfl rfl sz175 (by first|decide|simp) rfl rfl (fun w10 hq s9=>?_);replace cc:=hq;refine zn3 ?_;obtain⟨base,an⟩:∃ b,b=w10.heap.size:=⟨_,rfl⟩
 replace hB:=(hB.tr0 (s7.t s8)).tr1 s9 lo8;have hlo:w.heap.size<=base:=by rw[an];exact Bel.size hB
 have hbs:base<=w10.heap.size:=ay an;replace a5:=(a5.tr0 (s7.t s8)).tr1 s9 oG;have lt5:b5<base:=by rw[an];exact a5.lt
 replace ba:=(ba.tr0 s8).tr1 s9 oG;have lt7:b7<base:=by rw[an];exact ba.lt
 replace ac:=(ac.tr0 (s7.t s8)).tr1 s9 oG;have lt2:b2<base:=by rw[an];exact ac.lt
 replace ab:=(ab.tr0 (s7.t s8)).tr1 s9 oG;have lt4:b4<base:=by rw[an];exact ab.lt
 have lt8:b8<base:=by rw[an];exact cc.lt
 replace a1:=(a1.tr0 (s7.t s8)).tr1 s9 oG;have cj:bk<base:=by rw[an];exact a1.lt
 refine zn3 ?_;refine yk rfl kR (visit_any (w0:=w) (G:=G) (cg:=cg) (bP:=b5) (bQ:=b7) (bG:=b2) (bV:=b8) (bn:=bk) (base:=base) hG hk hlo lo5 lo7 lo2 lo8 c2 lt5 lt7 lt2 lt8 cj oG oG oG oG oG oG oG gr.length [] none 0 _ r (C7 _ _) hr hB hbs (OOk.nil _) a5 ba ac cc a1 (Own.nil _ _ _ _)) rfl rfl (fun e' w11 hr=>?_);obtain⟨rfl,o,AO,bu,hD,cr,ao,c5,hC⟩:=hr;replace hB:=hB.chg hC hlo (by simp[lo7,c2])
 replace ac := ac.chg hC lt2 (by
   have:b2 ≠ b7 := by omega
   have:b2≠bk:=by omega
   simp[*])
 replace ab := ab.chg hC lt4 (by
   have:b4 ≠ b7 := by omega
   have:b4≠bk:=by omega
   simp[*])
 replace a5 := a5.chg hC lt5 (by
   have:b5 ≠ b7 := by omega
   have:b5≠bk:=by omega
   simp[*])
 replace ba:=cr;replace a1:=c5;obtain⟨cn,_,_⟩:=hD.ok hrg (fun i hi=>by rw[List.mem_singleton.1 hi];exact hr) (OOk.nil _);have hol:=cn.cnt;refine⟨_,rfl,?_⟩;refine zn6 ?_;refine Lk (m:=o.length) U26 in87 rfl rfl oG oG (fun bm w12 a3 bx hr=>?_);have:=ac.ob hr;have:=ab.ob hr;have:=a1.ob hr;have:=a5.ob hr;have:=ba.ob hr;have b1:=ao.ob hr;have ck:=hB.ob hr;clear hr;refine wl (Z1 (v0:= .slice _ _ _) (fun v0=>#[v0]) rfl kR) ?_;refine y8 (cs:=#[.slice none 0 0]) ze28 rfl (fun _=>rfl) (fun _=>rfl) Y6 rfl xW (fun b9 w14 bb bw hr=>?_);have:=a3.ob hr;clear hr;refine zn4 ?_;replace hB:=hB.tr0 (bx.t bw);replace ac:=ac.tr0 (bx.t bw);replace ab:=ab.tr0 (bx.t bw);replace a1:=a1.tr0 (bx.t bw);replace a5:=a5.tr0 (bx.t bw);replace ba:=ba.tr0 (bx.t bw);replace ao:=ao.tr0 (bx.t bw);replace a3:=a3.tr0 bw;replace a3:Blk w14 bm 87 (kz o.length (fun _=> .int .i64 0) (fun _=> .slice none 0 0)):=by
   have h:=a3;rw[show (Value.agg #[.int .i64 0,.slice none 0 0]).cells= #[.int .i64 0,.slice none 0 0]from rfl,M9]at h;exact h
 refine zn7 ?_;refine qz (rg [10,11,13] 37 50) (fun m g w'=>∃(k:Nat) (V:Nat->Value),k<=o.length/\m=o.length-k/\g 37= .int .i64 k/\Bel w w'/\Blk w' b2 28 #[.slice G gr.length cg]/\Blk w' b4 28 #[.slice none 0 0]/\Blk w' b5 62 #[.slice (some ⟨bk,0,none⟩) gr.length gr.length]/\Blk w' b7 62 #[.slice AO o.length bu]/\Blk w' bk 3 (row gr.length (fun x=> .int .i64 (kJ o x)))/\Blk w' b9 28 #[.slice (some ⟨bm,0,none⟩) o.length o.length]/\Own w' base 3 1 AO o.length bu (oV o)/\Blk w' bm 87 (kz o.length (fun x=>if x<k then .int .i64 (nd gr (o.getD x 0)).ty else .int .i64 0) (fun x=>if x<k then V x else .slice none 0 0))/\(∀ x,x<k->RowO w' w.heap.size w'.heap.size (V x) ((nd gr (o.getD x 0)).ln.map (YV o)))/\Dis V k) (o.length) ?_ (fun m g13 cd hI=>?_)
 ·refine⟨0,fun _=> .slice none 0 0,ah _,rfl,rfl,hB,ac,ab,a5,ba,a1,bb,ao,?_,fun x hx=>by omega,fun x y hx=>by omega⟩;rw[oY (f':=fun _=> .int .i64 0) (h':=fun _=> .slice none 0 0) (fun x _=>by simp) (fun x _=>by simp)];exact a3
 obtain⟨k,V,hkk,hm,h37,hB,ac,ab,a5,ba,a1,bb,ao,a3,a2,c1⟩:=hI;obtain⟨bs,b6⟩:∃ b,b=cd.heap.size:=⟨_,rfl⟩
 rw[<- b6]at a2;have b3:bs<=cd.heap.size:=ay b6;have c3:w.heap.size<=bs:=by rw[b6];exact Bel.size hB
 have lu2:b2<bs:=by rw[b6];exact ac.lt
 have lu4:b4<bs:=by rw[b6];exact ab.lt
 have lu5:b5<bs:=by rw[b6];exact a5.lt
 have lu7:b7<bs:=by rw[b6];exact ba.lt
 have lu17:bk<bs:=by rw[b6];exact a1.lt
 have lu9:b9<bs:=by rw[b6];exact bb.lt
 have lu33:bm<bs:=by rw[b6];exact a3.lt
 have luo:∀ g∈aL AO,g<bs:=fun g hg=>by rw[b6];exact(ao.lt g hg).2
 refine zQ 37 _ h37 nu (zn6 ?_);refine zZ rfl (fun c38=>?_) (fun c38=>?_)
 ·have bt:k<o.length:=by omega
  obtain⟨i,co,ad⟩:∃ i:Nat,o[k]'bt=i/\i<gr.length:=⟨_,rfl,cn.lt _ (aq bt)⟩
  have hgd:o.getD k 0=i:=by simp[List.getD,bt,co]
  have hnd:=yK ad
  obtain⟨q,rfl,hqb,hql,hqc⟩:=ao.cell (by
    intro h0;have:=congrArg List.length h0;simp[oV]at this;rw[this]at bt
    simp at bt)
  have hz:cd.cell? ⟨q,0+k*1,none⟩=some (.int .i64 (i:Int)):=by
    have:=hqc k (.int .i64 (i:Int)) (by simp[oV,bt,co])
    simpa using this
  obtain⟨nb,no,LA,lc,rfl,hnb,hnr,hln⟩:=hG.at_ (Below.refl _ _:Bel w w) ad;have hmx:=hln.1;unfold vX at hmx;have hfw:=hk.few i ad;refine zn8 ?_;refine wl (qj (v:= .int _ _) U3 rfl rfl hz) (zn5 ?_);refine Qz 11 kR kR (fun w16 cb=>?_);replace a2:=zY a2 cb;replace b3:=zJ b3 cb;refine zn6 ?_;refine ws (x7 (i:=i) U26 ZW rfl rfl ad rfl) (zn1 ?_);refine ws (qj (v:= .int _ _) U3 rfl rfl (hB.u.cell hnb (hnr 0 _ rfl))) (zn2 ?_);refine Q4 ?_;replace a3:=a3.tr0 cb;refine xx (v:= .int _ _) a3 rfl rfl qq (by rw[u5];show 0+k*2+0<o.length*2;omega) rfl J0 (fun w17 hq cf=>?_);replace ao:=ao.tr0 cb;replace ao:=ao.tr1 cf (fun g hg=>by have:=b1 g hg;omega);replace a2:=zY a2 cf;replace b3:=zJ b3 cf;replace a3:=hq
  rw[oY (f':=(fun x=>if x<k+1 then .int .i64 (nd gr (o.getD x 0)).ty else .int .i64 0)) (h':=fun x=>if x=k then .slice none 0 0 else if x<k then V x else .slice none 0 0) (fun x _=>by
    by_cases e:x=k
    · subst e;simp[List.getD,bt,co,hnd]
    · have e1:(x<k+1)↔(x<k):=by omega
      simp[e,e1]) (fun x _=>by
    by_cases e:x=k
    · subst e;simp
    · simp[e])]at a3
  refine zn7 ?_;refine wl (x7 (i:=i) U26 ZW rfl rfl ad rfl) (zn1 ?_);refine wl (qj (v:= .slice _ _ _) U85 rfl rfl (hB.u.cell hnb (hnr 1 _ rfl))) (zn5 ?_);refine qz (rg [13] 60 26) (fun m g w'=>∃(j:Nat) (A5:Option Addr) (be:Nat),j<=(gr[i]'ad).ln.length/\m=(gr[i]'ad).ln.length-j/\g 60= .int .i64 j/\Bel w w'/\Blk w' b2 28 #[.slice (some ⟨nb,no,none⟩) gr.length cg]/\Blk w' b4 28 #[.slice none 0 0]/\Blk w' b5 62 #[.slice (some ⟨bk,0,none⟩) gr.length gr.length]/\Blk w' b7 62 #[.slice (some ⟨q,0,none⟩) o.length bu]/\Blk w' bk 3 (row gr.length (fun x=> .int .i64 (kJ o x)))/\Blk w' b9 28 #[.slice (some ⟨bm,0,none⟩) o.length o.length]/\Own w' base 3 1 (some ⟨q,0,none⟩) o.length bu (oV o)/\Blk w' bm 87 (kz o.length (fun x=>if x<k+1 then .int .i64 (nd gr (o.getD x 0)).ty else .int .i64 0) (fun x=>if x=k then .slice A5 j be else if x<k then V x else .slice none 0 0))/\(∀ x,x<k->RowO w' w.heap.size bs (V x) ((nd gr (o.getD x 0)).ln.map (YV o)))/\bs<=w'.heap.size/\Own w' bs 84 2 A5 j be (lnV (((gr[i]'ad).ln.take j).map (YV o)))) ((gr[i]'ad).ln.length) ?_ (fun m g17 w18 hI=>?_)
  ·exact⟨0,none,0,ah _,rfl,rfl,hB.u,ac.u,ab.u,a5.u,ba.u,a1.u,bb.u,ao,a3,a2,b3,Own.nil _ _ _ _⟩
  obtain⟨j,A5,be,hj,hmj,h60,hB,ac,ab,a5,ba,a1,bb,ao,a3,a2,b3,a9⟩:=hI;refine zQ 60 _ h60 nu (zn6 ?_);refine zZ rfl (fun c61=>?_) (fun c61=>?_)
  ·have bq:j<(gr[i]'ad).ln.length:=by omega
   obtain⟨lb,lof,rfl,hlb,hlr⟩:=hln.at_ hB bq;obtain⟨t,ht,htl⟩:∃ t:Nat,((gr[i]'ad).ln[j]'bq).2=(t:Int)/\t<gr.length:=by
     have h1:=hk.ln i ad _ (aq bq);exact⟨(((gr[i]'ad).ln[j]'bq).2).toNat,by omega,by omega⟩
   refine zn7 ?_;refine wl (qw U84 rfl rfl hlr gQ) ?_;refine qQ (cs:=#[.int .i64 0,.int .i64 0]) Vq rfl (fun b13 w19 bc bg hr=>?_);have:=ac.ob hr;have:=ab.ob hr;have:=a1.ob hr;have:=a5.ob hr;have:=ba.ob hr;have:=a3.ob hr;have:=bb.ob hr;have bz:=(nLT b3 hr)
   have bh:=ao.ob hr;have a8:=a9.ob hr;have cm:=hB.ob hr;replace a2:=zY a2 bg;replace b3:=zJ b3 bg;clear hr;refine zV bc (fun w20 hq bf=>?_);replace a2:=zY a2 bf;replace b3:=zJ b3 bf;replace ao:=ao.tr0 bg;replace ao:=ao.tr1 bf (fun g hg=>by have:=bh g hg;omega);replace a9:=a9.tr0 bg;replace a9:=a9.tr1 bf (fun g hg=>by have:=a8 g hg;omega);replace bc:=hq;refine qY (e_S ?_);rw[ht]at bc;have zo:=fun g hg=>(a9.lt g hg).2
   have c4:(kz o.length (fun x=>if x<k+1 then .int .i64 (nd gr (o.getD x 0)).ty else .int .i64 0) (fun x=>if x=k then .slice A5 j be else if x<k then V x else .slice none 0 0))[0+k*2+1]? =some (.slice A5 j be):=by rw[ZQ bt];simp
   replace hB:=(hB.tr0 bg).tr1 bf cm;have hsz:=Bel.size hB;refine J9 21 (rg [] 64 21) (aL A5) 18 (fun ix v wv=>match ix with|0=>v= .pointer (some ⟨b9,0,none⟩)|1=>v= .slice (some ⟨bm,0,none⟩) o.length o.length|2=>v= .int .i64 k|3=>v= .pointer (some ⟨b9,0,none⟩)|4=>v= .slice (some ⟨bm,0,none⟩) o.length o.length|5=>v= .int .i64 k|6=>v= .pointer (some ⟨bm,0+k*2,none⟩)|7=>v= .pointer (some ⟨bm,0+k*2+1,none⟩)|8=>v= .slice A5 j be|9=>v= .pointer (some ⟨b13,0,none⟩)|10=>v= .int .i64 ((gr[i]'ad).ln[j]'bq).1|11=>v= .slice (some ⟨bk,0,none⟩) gr.length gr.length|12=>v= .pointer (some ⟨b13,1,none⟩)|13=>v= .int .i64 (t:Nat)|14=>v= .pointer (some ⟨bk,0+t*1,none⟩)|15=>v= .int .i64 (kJ o t)|16=>v= .agg #[.int .i64 ((gr[i]'ad).ln[j]'bq).1,.int .i64 (kJ o t)]|17=>∃ b,v= .slice (some ⟨b,0,none⟩) 1 1/\w20.heap.size<=b/\Blk wv b 84 #[.int .i64 ((gr[i]'ad).ln[j]'bq).1,.int .i64 (kJ o t)]|18=>∃ g cap,v= .slice (some ⟨g,0,none⟩) (j+1) cap/\Own wv bs 84 2 (some ⟨g,0,none⟩) (j+1) cap (lnV (((gr[i]'ad).ln.take j).map (YV o))++[.int .i64 ((gr[i]'ad).ln[j]'bq).1,.int .i64 (kJ o t)])|19=>v= .pointer (some ⟨bm,0+k*2,none⟩)|20=>v= .pointer (some ⟨bm,0+k*2+1,none⟩)|_=>True) (fun _=>True) kR kR ?_ (fun _ _ _ _=>trivial) ?_ ?_ dE ?_
   ·intro ix v wv wv2 h s16
    match ix,h with
    | 0,h=>exact h
    | 1,h=>exact h
    | 2,h=>exact h
    | 3,h=>exact h
    | 4,h=>exact h
    | 5,h=>exact h
    | 6,h=>exact h
    | 7,h=>exact h
    | 8,h=>exact h
    | 9,h=>exact h
    | 10,h=>exact h
    | 11,h=>exact h
    | 12,h=>exact h
    | 13,h=>exact h
    | 14,h=>exact h
    | 15,h=>exact h
    | 16,h=>exact h
    | 17,h=>
     obtain⟨c8,c7,br,bj⟩:=h;exact⟨c8,c7,br,bj.tr0 s16⟩
    | 18,h=>
     obtain⟨c6,bd,cu,bi⟩:=h;exact⟨c6,bd,cu,bi.tr0 s16⟩
    | 19,h=>exact h
    | 20,h=>exact h
    | _+21,h=>exact trivial
   ·intro ix o cq c0 a4 gg wx bv hd;replace bb:=(bb.tr0 bg).tr1 bf oG
    match ix,cq,c0,a4 with
    | 0,_,_,a4=>
     cases sI a4;refine qk (jX U28 sz26 dE rfl rfl rfl) ⟨Same.refl _ _,?_⟩;exact rfl
    | 1,_,_,a4=>
     cases sI a4;replace bb:=bb.ta bv a9;refine aZ 64 (hd 0 a6) ?_;refine qk (qj (v:= .slice _ _ _) U26 rfl rfl (bb.cell rfl)) ⟨Same.refl _ _,?_⟩;exact rfl
    | 2,_,_,a4=>
     cases sI a4;refine qk (x6 (v:= .int _ _) rfl) ⟨Same.refl _ _,?_⟩;exact rfl
    | 3,_,_,a4=>
     cases sI a4;refine qk (jX U28 sz26 dE rfl rfl rfl) ⟨Same.refl _ _,?_⟩;exact rfl
    | 4,_,_,a4=>
     cases sI a4;replace bb:=bb.ta bv a9;refine aZ 67 (hd 3 a6) ?_;refine qk (qj (v:= .slice _ _ _) U26 rfl rfl (bb.cell rfl)) ⟨Same.refl _ _,?_⟩;exact rfl
    | 5,_,_,a4=>
     cases sI a4;refine qk (x6 (v:= .int _ _) rfl) ⟨Same.refl _ _,?_⟩;exact rfl
    | 6,_,_,a4=>
     cases sI a4;refine aZ 68 (hd 4 a6) (aZ 69 (hd 5 a6) ?_);refine qk (x7 (i:=k) U26 ZW rfl rfl oG rfl) ⟨Same.refl _ _,?_⟩;exact rfl
    | 7,_,_,a4=>
     cases sI a4;refine aZ 70 (hd 6 a6) ?_;refine qk (jX U87 Tz dE rfl rfl rfl) ⟨Same.refl _ _,?_⟩;exact rfl
    | 8,_,_,a4=>
     cases sI a4;replace a3:=(a3.tr0 bg).tr1 bf oG;replace a3:=a3.ta bv a9;refine aZ 71 (hd 7 a6) ?_;refine qk (qj (v:= .slice _ _ _) U85 rfl rfl (a3.cell c4)) ⟨Same.refl _ _,?_⟩;exact rfl
    | 9,_,_,a4=>
     cases sI a4;refine qk (jX U84 qq dE rfl rfl rfl) ⟨Same.refl _ _,?_⟩;exact rfl
    | 10,_,_,a4=>
     cases sI a4;replace bc:=bc.tb bv (fun g hg=>by have:=a8 g hg;omega);refine aZ 73 (hd 9 a6) ?_;refine qk (qj (v:= .int _ _) U3 rfl rfl (bc.cell rfl)) ⟨Same.refl _ _,?_⟩;exact rfl
    | 11,_,_,a4=>
     cases sI a4;replace a5:=(a5.tr0 bg).tr1 bf oG;replace a5:=a5.ta bv a9;refine qk (qj (v:= .slice _ _ _) U62 rfl rfl (a5.cell rfl)) ⟨Same.refl _ _,?_⟩;exact rfl
    | 12,_,_,a4=>
     cases sI a4;refine qk (jX U84 qq dE rfl rfl rfl) ⟨Same.refl _ _,?_⟩;exact rfl
    | 13,_,_,a4=>
     cases sI a4;replace bc:=bc.tb bv (fun g hg=>by have:=a8 g hg;omega);refine aZ 76 (hd 12 a6) ?_;refine qk (qj (v:= .int _ _) U3 rfl rfl (bc.cell rfl)) ⟨Same.refl _ _,?_⟩;exact rfl
    | 14,_,_,a4=>
     cases sI a4;refine aZ 75 (hd 11 a6) (aZ 77 (hd 13 a6) ?_);refine qk (x7 (i:=t) U62 qq rfl rfl htl rfl) ⟨Same.refl _ _,?_⟩;exact rfl
    | 15,_,_,a4=>
     cases sI a4;replace a1:=(a1.tr0 bg).tr1 bf oG;replace a1:=a1.ta bv a9;refine aZ 78 (hd 14 a6) ?_;refine qk (qj (v:= .int _ _) U3 rfl rfl (a1.cell (j5 htl))) ⟨Same.refl _ _,?_⟩;exact rfl
    | 16,_,_,a4=>
     cases sI a4;refine aZ 74 (hd 10 a6) (aZ 79 (hd 15 a6) ?_);refine qk (Q5 (v0:= .int _ _) (v1:= .int _ _) (fun v0 v1=>#[v0,v1]) rfl rfl kR) ⟨Same.refl _ _,?_⟩;exact rfl
    | 17,_,_,a4=>
     cases sI a4;have hs0:=bv;refine aZ 80 (hd 16 a6) ?_;refine jq (fun ops Q K=>?_);refine qZ (cs:=#[_,_]) [(0,.agg _)] rfl U85 gQ Vq dE dE kR rfl (fun c8 w21 bj s18 hr=>?_);exact K _ _ ⟨s18,⟨_,rfl,nLT hs0.size hr,bj⟩⟩
    | 18,_,c0,_=>exact absurd rfl c0
    | 19,_,_,a4=>
     cases sI a4;refine aZ 65 (hd 1 a6) (aZ 66 (hd 2 a6) ?_);refine qk (x7 (i:=k) U26 ZW rfl rfl oG rfl) ⟨Same.refl _ _,?_⟩;exact rfl
    | 20,_,_,a4=>
     cases sI a4;refine aZ 83 (hd 19 a6) ?_;refine qk (jX U87 Tz dE rfl rfl rfl) ⟨Same.refl _ _,?_⟩;exact rfl
    | _+21,cq,_,_=>exact absurd cq oG
   ·intro o a4 gg wx ce hd;cases sI a4;replace a2:=zY a2 ce;replace b3:=zJ b3 ce;obtain⟨c8,c7,br,bj⟩:=hd 17 (zj kR);refine aZ 72 (hd 8 a6) (zq 81 _ c7 nu ?_);refine jq (fun ops Q K=>?_);replace a9:=a9.tr0 ce;refine vV U85 in84 rfl dE a9 bj rfl rfl rfl xW dE oG oG b3 (fun c6 bd w2 bi hs2 hg82=>?_);refine K _ _ ⟨hs2,⟨_,_,rfl,bi⟩,trivial,fun kx v c0 h=>?_⟩
    match kx,c0,h with
    | 0,_,h=>exact h
    | 1,_,h=>exact h
    | 2,_,h=>exact h
    | 3,_,h=>exact h
    | 4,_,h=>exact h
    | 5,_,h=>exact h
    | 6,_,h=>exact h
    | 7,_,h=>exact h
    | 8,_,h=>exact h
    | 9,_,h=>exact h
    | 10,_,h=>exact h
    | 11,_,h=>exact h
    | 12,_,h=>exact h
    | 13,_,h=>exact h
    | 14,_,h=>exact h
    | 15,_,h=>exact h
    | 16,_,h=>exact h
    | 17,_,h=>
     obtain⟨c8,c7,br,bj⟩:=h;exact⟨c8,c7,br,bj.tr hs2 (fun hx=>by have:=zo _ hx;omega)⟩
    | 18,c0,_=>exact absurd rfl c0
    | 19,_,h=>exact h
    | 20,_,h=>exact h
    | _+21,_,_=>exact trivial
   intro gg w22 bo _ hR;replace hB:=hB.tr bo (fun g hg=>nLT c3 (a9.lt g hg).1);replace ac:=(ac.tr0 bg).tr1 bf oG;replace ac:=ac.ta bo a9;replace ab:=(ab.tr0 bg).tr1 bf oG;replace ab:=ab.ta bo a9;replace a1:=(a1.tr0 bg).tr1 bf oG;replace a1:=a1.ta bo a9;replace a5:=(a5.tr0 bg).tr1 bf oG;replace a5:=a5.ta bo a9;replace ba:=(ba.tr0 bg).tr1 bf oG;replace ba:=ba.ta bo a9;replace a3:=(a3.tr0 bg).tr1 bf oG;replace a3:=a3.ta bo a9;replace bb:=(bb.tr0 bg).tr1 bf oG;replace bb:=bb.ta bo a9;replace a2:=fun x hx=>(a2 x hx).tr bo (fun g hg=> .inl ((a9).lt g hg).1)
   replace b3:=zJ b3 bo;replace ao:=ao.tr bo (fun g hg hx=>by have:=(a9.lt _ hx).1;(try have:=luo g hg);omega);obtain⟨c6,bd,cu,bi⟩:=hR 18 dE;replace bi:Own w22 bs 84 2 (some ⟨c6,0,none⟩) (j+1) bd (lnV (((gr[i]'ad).ln.take (j+1)).map (YV o))):=by
     rw[List.take_succ_eq_append_getElem bq,List.map_append,List.map_cons,List.map_nil,<- O3];have e:YV o ((gr[i]'ad).ln[j]'bq)=(((gr[i]'ad).ln[j]'bq).1,kJ o t):=by simp[YV,ht]
     rw[e];exact bi
   have a9:=bi;refine x8 82 _ cu nu (x8 84 _ (hR 20 dE) nu ?_);refine xx (v:= .slice _ _ _) a3 rfl rfl Tz (by rw[u5];show 0+k*2+1<o.length*2;omega) rfl M8 (fun w23 hq ca=>?_);replace a2:=zY a2 ca;replace b3:=zJ b3 ca;replace ao:=ao.tr1 ca (fun g hg=>by have:=b1 g hg;omega);replace a9:=a9.tq ca;replace a3:=hq
   rw[oY (f':=(fun x=>if x<k+1 then .int .i64 (nd gr (o.getD x 0)).ty else .int .i64 0)) (h':=fun x=>if x=k then .slice (some ⟨c6,0,none⟩) (j+1) bd else if x<k then V x else .slice none 0 0) (fun x _=>rfl) (fun x _=>by
     by_cases e:x=k
     · subst e;simp
     · simp[e])]at a3
   refine zn7 ?_;refine x9 ((gr[i]'ad).ln.length-(j+1)) oG agA ?_;exact⟨j+1,_,_,by omega,rfl,rfl,hB.u,ac.u,ab.u,a5.u,ba.u,a1.u,bb.u,ao,a3,a2,b3,a9⟩
  have hjx:j=(gr[i]'ad).ln.length:=by omega
  subst hjx;refine yj ?_;refine x9 (o.length-(k+1)) oG agA ?_;refine⟨k+1,fun x=>if x=k then .slice A5 (gr[i]'ad).ln.length be else V x,by omega,rfl,rfl,hB,ac,ab,a5,ba,a1,bb,ao,?_,fun x hx=>?_,c1.snoc a2 (fun g hg=>(a9.lt g hg).1)⟩
  · rw[oY (f':=(fun x=>if x<k+1 then .int .i64 (nd gr (o.getD x 0)).ty else .int .i64 0)) (h':=(fun x=>if x<k+1 then (if x=k then .slice A5 (gr[i]'ad).ln.length be else V x)else .slice none 0 0)) (fun x _=>rfl) (fun x _=>by
      by_cases e:x=k
      · subst e;simp
      · have e1:(x<k+1)↔(x<k):=by omega
        simp[e,e1])]at a3
    exact a3
  · by_cases e:x=k
    · subst e
      simp only[if_true]
      have h:=RowO.of (lo:=w.heap.size) (xs:=(gr[i]'ad).ln.map (YV o)) c3 (by
        rw[List.take_length]at a9
        rw[List.length_map];exact a9)
      rw[List.length_map]at h;rw[hgd,hnd];exact h
    · simp only[if_neg e]
      exact(a2 x oG).up b3
 have cp:k=o.length:=by omega
 rw[cp]at a3 a2 c1;refine zn8 ?_;refine zV ab (fun w24 hq c9=>?_);replace a2:=zY a2 c9;replace b3:=zJ b3 c9;replace ab:=hq;refine zn3 ?_;refine xK (.inl rfl) rfl (zX U28 rfl rfl ab.range0 Y6) ?_;have hcl:(yq gr o).length=o.length:=by simp[yq]
 replace hB:=hB.tr1 c9 lo4;replace a3:=a3.tr1 c9 oG;refine⟨⟨o,_,hD,cn,rfl,GrD.mk (own_row2 a3 ck oG) hcl (ai _) (fun x hx=>?_) (fun g hg=>?_) b3 (fun x hx=>?_) (c1.congr (fun x hx=>by simp[hx]))⟩,hB⟩
 · rw[C4 hx];simp[hx]
 · rw[List.mem_singleton.1 hg];exact a3.lt
 · rw[C4 hx]
   have h:=a2 x hx
   simpa[hx]using h
theorem from3_any(G:Option Addr)(cg nf:Nat)(gr:List Nd)(r:Nat)(w:World)(hG:NodesIn w G gr)(hk:Nj nf gr)(hnf:nf<=1000)(hr:r<gr.length):Calls prog 85 #[.agg #[.slice G gr.length cg],.int .i64 r] w fun e w'=>(∃ o A,DL gr [r] [] o/\OOk gr.length o/\e= .returned (.agg #[.slice A o.length o.length])/\GrT w' w.heap.size w'.heap.size A o.length (yq gr o) (fun x=>(nd (yq gr o) x).ty))/\Bel w w':=(from4_any G cg nf gr r w hG hk hnf hr).mono fun e w' h=>by
 obtain⟨⟨o,A,h1,h2,h3,h4⟩,hs⟩:=h
 exact⟨⟨o,A,h1,h2,h3,h4.grt⟩,hs⟩
theorem F8(G:Option Addr)(cg nf:Nat)(gr:List Nd)(r:Nat)(w:World)(hG:NodesIn w G gr)(hk:Nj nf gr)(hnf:nf<=1000)(hr:r<gr.length):Calls prog 85 #[.agg #[.slice G gr.length cg],.int .i64 r] w fun e w'=>(∃ o A,DL gr [r] [] o/\OOk gr.length o/\e= .returned (.agg #[.slice A o.length o.length])/\(∀ w2,FrSame w.heap.size w' w2->NodesIn w2 A (yq gr o)))/\Bel w w':=(from3_any G cg nf gr r w hG hk hnf hr).mono fun e w' h=>by
 obtain⟨⟨o,A,h1,h2,h3,h4⟩,hs⟩:=h
 exact⟨⟨o,A,h1,h2,h3,fun w2 hf=>by have:=(h4.fr hf).nodes;rwa[rtG_self]at this⟩,hs⟩
theorem from_any(G:Option Addr)(cg nt nf:Nat)(gr:List Nd)(r:Nat)(w:World)(hG:NodesIn w G gr)(hk:GOk nt nf gr)(hnf:nf<=1000)(hr:r<gr.length):Calls prog 85 #[.agg #[.slice G gr.length cg],.int .i64 r] w fun e w'=>(∃ o A,DL gr [r] [] o/\OOk gr.length o/\e= .returned (.agg #[.slice A o.length o.length])/\(∀ w2,FrSame w.heap.size w' w2->NodesIn w2 A (yq gr o)))/\Bel w w':=F8 G cg nf gr r w hG hk.two hnf hr
structure GV(l:List Ty)(fs:List Ft)(g:List Nd):Prop where
 h:(qW l fs).1=0
 s:Kv l
 few:fs.length<=40
 f:FOk l.length fs
 gok:GOk l.length fs.length g
 t:tyF l fs g=(0,0)
 u:¬0<=KV g
 lo:(j9 l.length fs.length g).1=0
theorem gv_of{l:List Ty}{fs:List Ft}(h:(gj l fs g).1=0):GV l fs g:=by
 by_cases h0:(qW l fs).1=0
 ·rw[gf_in h0]at h
  by_cases h1:(j9 l.length fs.length g).1=0
  ·by_cases h2:(tyF l fs g).1=0
   ·have h2':tyF l fs g=(0,0):=Fq h2
    by_cases h3:0<=KV g
    ·grind[wi_unr,h1]
    ·refine⟨h0,Q0 h0,?_,SK h0,SX h1,h2',h3,h1⟩
     grind[qW]
   ·grind[y9,h1]
  ·grind[Ny,h1]
 ·grind[gf_hier]
theorem DL.sub(h:DL g is a b):∀ x∈a,x∈b:=by
 induction h with
 | nil=>exact fun x h=>h
 | old h t ih=>exact ih
 | new h s t ihs iht=>exact fun x hx=>iht x (ihs x (List.mem_append_left _ hx))
theorem DL.has(h:DL g is a b):∀ i∈is,i∈b:=by
 induction h with
 | nil=>exact fun i h=>by cases h
 | old h t ih=>
  intro i hi;rcases av.1 hi with rfl|hi
  ·exact t.sub _ h
  ·exact ih i hi
 | new h s t ihs iht=>
  intro i hi;rcases av.1 hi with rfl|hi
  ·exact t.sub _ (s.sub _ (by simp))
  ·exact iht i hi
theorem DL.clo(h:DL g is a b):∀ x∈b,¬x∈a->∀ t∈vQ g x,t∈b:=by
 induction h with
 | nil=>exact fun x h1 h2=>absurd h1 h2
 | old h t ih=>exact ih
 | new h s t ihs iht=>
  rename_i i is o o1 o'
  intro x hx hn y hy;by_cases h1:x∈o1
  ·by_cases h2:x=i
   ·subst h2;exact t.sub _ (s.has y hy)
   ·exact t.sub _ (ihs x h1 (fun h3=>by
     rcases aD.1 h3 with h3|h3
     ·exact hn h3
     ·exact h2 (ar.1 h3)) y hy)
  ·exact iht x hx h1 y hy
theorem DL.nodup(h:DL g is a b):a.Nodup->b.Nodup:=by
 induction h with
 | nil=>exact fun h=>h
 | old h t ih=>exact ih
 | new h s t ihs iht=>
  grind
theorem DL.rch(hr:∀ i,i<g.length->∀ t∈vQ g i,t<g.length)(h:DL g is a b):(∀ i∈is,i<g.length)->(∀ i∈is,Rch g i)->(∀ x∈a,Rch g x)->∀ x∈b,Rch g x:=by
 induction h with
 | nil=>exact fun _ _ h=>h
 | old h t ih=>exact fun hi hR ha=>ih (fun i h=>hi i (aw _ h)) (fun i h=>hR i (aw _ h)) ha
 | new h s t ihs iht=>
  rename_i i is o o1 o'
  intro hi hR ha;have a1:=hi i (aE ..);have hRi:=hR i (aE ..);refine iht (fun i h=>hi i (aw _ h)) (fun i h=>hR i (aw _ h)) (ihs (hr i a1) (fun t ht=>?_) (fun x hx=>?_))
  ·simp only[vQ,yK a1,List.mem_map]at ht
   obtain⟨y,hy,rfl⟩:=ht;exact .step hRi a1 hy
  ·grind
structure Tr(g:List Nd)(o:List Nat):Prop where
 dl:DL g [0] [] o
 ok:OOk g.length o
 nd:o.Nodup
 pos:0<o.length
 zero:o.idxOf 0=0
 clo:∀ x∈o,∀ t∈vQ g x,t∈o
theorem C8(hn:o.Nodup){k:Nat}(hk:k<o.length):o.idxOf o[k]=k:=by
 grind
theorem oQ(hx:x∈o):∃ h:o.idxOf x<o.length,o[o.idxOf x]=x:=⟨List.idxOf_lt_length_of_mem hx,List.getElem_idxOf _⟩
theorem C0(hx:x∈o):kJ o x=(o.idxOf x:Nat):=by simp[kJ,hx]
theorem uQ(g:List Nd)(o:List Nat):(yq g o).length=o.length:=by simp[yq]
theorem Ox(hx:x∈o):nd (yq g o) (o.idxOf x)=TY g o x:=by
 grind[h1,oQ,yK,uQ,yq]
theorem Fw(h:∀ x∈o,∀ t∈vQ g x,t∈o)(hx:x∈o):vQ (yq g o) (o.idxOf x)=(vQ g x).map (o.idxOf ·):=by
 unfold vQ;rw[Ox hx];simp only[TY,List.map_map];refine aS (fun y hy=>?_);have:y.2.toNat∈o:=h x hx _ (by simp only[vQ,List.mem_map];exact⟨y,hy,rfl⟩);simp[YV,C0 this]
theorem DL.map{g:List Nd}{o:List Nat}(hc:∀ x∈o,∀ t∈vQ g x,t∈o){is a b:List Nat}(h:DL g is a b):(∀ x∈b,x∈o)->DL (yq g o) (is.map (o.idxOf ·)) (a.map (o.idxOf ·)) (b.map (o.idxOf ·)):=by
 have inj:∀ x y,x∈o->y∈o->o.idxOf x=o.idxOf y->x=y:=fun x y hx hy e=>by
  obtain⟨h1,h2⟩:=oQ hx
  grind
 induction h with
 | nil=>exact fun _=> .nil
 | old h t ih=>
  intro hb;exact .old (List.mem_map_of_mem h) (ih hb)
 | new h s t ihs iht=>
  rename_i i is o0 o1 o'
  intro hb;have hio:=hb i (t.sub _ (s.sub _ (by simp)));refine .new (fun hm=>?_) ?_ (iht hb)
  ·obtain⟨y,hy,e⟩:=ax.1 hm
   have hyo:=hb y (t.sub _ (s.sub _ (List.mem_append_left _ hy)))
   grind
  ·have:=ihs (fun x hx=>hb x (t.sub _ hx))
   rw[List.map_append]at this;rw[Fw hc hio];exact this
theorem H7(hn:o.Nodup):o.map (o.idxOf ·)=List.range o.length:=by
 apply List.ext_getElem
 ·simp
 ·grind
theorem Tr.can(h:Tr g o):DL (yq g o) [0] [] (List.range o.length):=by
 have:=h.dl.map h.clo (fun x hx=>hx);rw[H7 h.nd]at this
 simpa[h.zero]using this
theorem FrSame.then{B B0:Nat}{w1 w2:World}(h:FrSame B w0 w1)(k:FrSame B0 w1 w2)(hb:B0<=B):FrSame B w0 w2:=
 ⟨nLT h.size k.size,fun i hi hl=>(k.blk i (nLT hb hi) (nLL hl h.size)).trans (h.blk i hi hl)⟩
theorem fd84:(prog.fieldsOf 84).toList.map (fun f=>(f.name == "_",f.type,f.offset))= [(false,3,0),(false,3,1)]:=by kernel_rfl
theorem ft84:prog.underlying 84=some (.struct (prog.fieldsOf 84)):=by kernel_rfl
theorem leq_any(A B:Option Addr)(c d:Nat)(xs ys:List (Int×Int))(w:World)(hX:LinksIn w A xs)(hY:LinksIn w B ys):Calls prog 29 #[.slice A xs.length c,.slice B ys.length d] w fun e w'=>e= .returned (.bool (decide (xs=ys)))/\Bel w w':=by
 have hmx:=hX.1;unfold vX at hmx;refine enT func29 ntmps29 rfl rfl fun hB=>?_;refine Ky ?_;refine zZ rfl (fun c10=>?_) (fun c10=>?_)
 ·refine zn8 ?_;exact⟨jQ (ap (fun h=>c10 (by rw[h]))),hB⟩
 refine vJ ?_;refine qz (rg [4,5] 13 13) (fun m g w'=>∃ k:Nat,k<=xs.length/\m=xs.length-k/\g 13= .int .i64 k/\Bel w w'/\xs.take k=ys.take k) (xs.length) ?_ (fun m g4 w1 hI=>?_)
 ·exact⟨0,ah _,rfl,rfl,hB,rfl⟩
 obtain⟨k,hk,hm,h13,hB,hE⟩:=hI;refine zQ 13 _ h13 nu (zn6 ?_);refine zZ rfl (fun c14=>?_) (fun c14=>?_)
 ·have a2:k<xs.length:=by omega
  have a1:k<ys.length:=by omega
  obtain⟨pb,po,rfl,hpb,hpc⟩:=hX.at_ (Below.refl _ _:Bel w w) a2;obtain⟨qb,qo,rfl,hqb,hqc⟩:=hY.at_ (Below.refl _ _:Bel w w) a1;refine vJ ?_;refine oJ kR kR (fun w2 s1=>?_);refine zn8 ?_;refine ws (r_neF Tryz.eqGuardType84 ft84 Tryz.stoodInHeld84 fd84 U3 rfl rfl) (uz (e_S ?_));refine zZ rfl (fun a4=>?_) (fun a4=>?_)
  ·refine yZ ?_;replace hB:=hB.tr0 s1;exact⟨jQ (ap (fun h=>a4 (by subst h;exact⟨rfl,rfl⟩))),hB⟩
  refine zn7 ?_;refine x9 (xs.length-(k+1)) oG agA ?_;have hx:xs[k]'a2=ys[k]'a1:=by
    have h:=ak.1 a4;exact Prod.ext h.1 h.2
  replace hB:=hB.tr0 s1;exact⟨k+1,by omega,rfl,rfl,hB,by rw[List.take_succ_eq_append_getElem a2,List.take_succ_eq_append_getElem a1,hE,hx]⟩
 have hek:k=xs.length:=by omega
 have a3:xs=ys:=by
   rw[hek]at hE;have e2:ys.take xs.length=ys:=aX oG;rw[List.take_length,e2]at hE;exact hE
 refine yZ ?_;exact⟨jQ (aj a3),hB⟩
set_option maxHeartbeats 1000000 in
theorem nodes_any(A B:Option Addr)(c d:Nat)(ga gb:List Nd)(w:World)(hA:NodesIn w A ga)(hBn:NodesIn w B gb):Calls prog 7 #[.agg #[.slice A ga.length c],.agg #[.slice B gb.length d]] w fun e w'=>e= .returned (.bool (decide (ga=gb)))/\Bel w w':=by
 have hmx:=hA.1;unfold vX at hmx;refine enT func7 ntmps7 rfl rfl fun hB=>?_;refine zn2 ?_;refine qv (cs:=#[_]) rfl (fun b2 w1 a5 s1 hr=>?_);refine qv (cs:=#[_]) rfl (fun b3 w2 a4 s2 hr=>?_);refine Ky ?_;refine zZ rfl (fun c12=>?_) (fun c12=>?_)
 ·refine zn8 ?_;replace hB:=hB.tr0 (s1.t s2);exact⟨jQ (ap (fun h=>c12 (by rw[h]))),hB⟩
 refine yZ ?_;refine qz (rg [4,5] 16 33) (fun m g w'=>∃ k:Nat,k<=ga.length/\m=ga.length-k/\g 16= .int .i64 k/\Bel w w'/\Blk w' b2 28 #[.slice A ga.length c]/\Blk w' b3 28 #[.slice B gb.length d]/\ga.take k=gb.take k) (ga.length) ?_ (fun m g4 w3 hI=>?_)
 ·exact⟨0,ah _,rfl,rfl,hB.u,a5.u,a4,rfl⟩
 obtain⟨k,hk,hm,h16,hB,a5,a4,hE⟩:=hI;refine zQ 16 _ h16 nu (zn6 ?_);refine zZ rfl (fun c17=>?_) (fun c17=>?_)
 ·have a3:k<ga.length:=by omega
  have a2:k<gb.length:=by omega
  obtain⟨ab,ao,LA,la,rfl,hab,har,an⟩:=hA.at_ (Below.refl _ _:Bel w w) a3;obtain⟨bb,bo,LB,lb,rfl,hbb,hbr,ad⟩:=hBn.at_ (Below.refl _ _:Bel w w) a2;refine vJ ?_;refine xv (rg [] 19 29) (fun g w'=>g 47= .bool (decide (¬(ga[k]'a3).ty=(gb[k]'a2).ty) || !decide ((ga[k]'a3).ln=(gb[k]'a2).ln))/\Same [] w3 w') ?_ (fun g6 w4 hI=>?_)
  ·refine jY [] [0,1,2,3,4,5,6,7,8,9,10,11,12,13,14,15,16,17,18,19,20,21,22,23,24,25,26,27,28] rfl (fun w5 s3=>?_);have a9:=s3;refine zn5 ?_;refine hl1 (v:= .int _ _) rfl U3 rfl rfl (hB.u.cell hab (har 0 _ rfl)) (zn5 ?_);refine hl1 (v:= .int _ _) rfl U3 rfl rfl (hB.u.cell hbb (hbr 0 _ rfl)) (zn2 ?_);refine h_casesd 32 rfl (fun b1=>?_) (fun b1=>?_)
   ·refine Jq ?_;refine e_R ⟨agA,?_,a9⟩;show Value.bool _=Value.bool _;exact ag (by simp[b1])
   refine zn5 ?_;refine hg1 (v:= .slice _ _ _) 32 rfl rfl rfl U85 rfl rfl (hB.u.cell hab (har 1 _ rfl)) (zn5 ?_);refine hg1 (v:= .slice _ _ _) 32 rfl rfl rfl U85 rfl rfl (hB.u.cell hbb (hbr 1 _ rfl)) (h1 rfl (zn1 ?_));refine zW kR (leq_any _ _ _ _ _ _ w5 (an.mono hB.u) (ad.mono hB.u)) rfl (fun e' w6 hr=>?_);obtain⟨rfl,s4⟩:=hr;replace s4:=sB s4;have a1:=s4;refine⟨_,rfl,?_⟩;refine qY (KQ a1 (zn3 ?_));replace a9:=a9.t s4;refine e_R ⟨agA,?_,a9⟩;show Value.bool _=Value.bool _;exact ag (by simp[b1])
  obtain⟨h47,s5⟩:=hI;refine vZ 47 _ h47 nu (e_S ?_);refine jv rfl (fun a8=>?_) (fun a8=>?_)
  ·refine yZ ?_;replace hB:=hB.tr0 s5
   exact⟨jQ (ap (fun h=>by
     subst h
     simp at a8)),hB⟩
  have hx:ga[k]'a3=gb[k]'a2:=by
    simp only[Bool.or_eq_false_iff,decide_eq_false_iff_not,Bool.not_eq_false',decide_eq_true_eq]at a8;exact Vv (ak.1 a8.1) a8.2
  refine zn7 ?_;refine x9 (ga.length-(k+1)) oG agA ?_;replace hB:=hB.tr0 s5;replace a5:=a5.tr0 s5;replace a4:=a4.tr0 s5;exact⟨k+1,by omega,rfl,rfl,hB,a5,a4,by rw[List.take_succ_eq_append_getElem a3,List.take_succ_eq_append_getElem a2,hE,hx]⟩
 have hek:k=ga.length:=by omega
 have ac:ga=gb:=by
   rw[hek]at hE;have e2:gb.take ga.length=gb:=aX oG;rw[List.take_length,e2]at hE;exact hE
 refine yZ ?_;exact⟨jQ (aj ac),hB⟩
theorem clone_any(A:Option Addr)(c bn bd:Nat)(o:List Nat)(w:World)(hO:OrdF w bn bd A o)(hl:o.length<=1000000):Calls prog 96 #[.slice A o.length c] w fun e w'=>(∃ A' cap',e= .returned (.slice A' o.length cap')/\Own w' w.heap.size 3 1 A' o.length cap' (oV o))/\Bel w w':=by
 refine enT func96 ntmps96 rfl rfl fun hB=>?_;refine zn9 ?_;refine wl (r_eqlNil U62 rfl rfl) (qY (e_S ?_));refine jv rfl (fun c4=>?_) (fun c4=>?_)
 ·have hn:o= []:=by
    rcases hO with h|⟨_,b,h,_⟩
    · exact h.1
    · rw[h]at c4;cases c4
  subst hn;refine zn8 ?_;exact⟨⟨none,0,rfl,Own.nil _ _ _ _⟩,hB⟩
 obtain⟨hne,b,rfl,hbn,hbd,hbl,hc⟩:o≠[]/\∃ b,A=some ⟨b,0,none⟩/\b≠bn/\b<bd/\b<w.heap.size/\∀ k (hk:k<o.length),w.cell? ⟨b,0+k,none⟩=some (.int .i64 (o[k]:Nat)):=by
   rcases hO with h|h
   · rw[h.2]at c4;cases c4
   · exact h
 have a1:=List.length_pos_iff.2 hne;refine zn4 ?_;refine wl_bs0 U62 qq (fun b5 w1 hb5 s1 hr=>?_);have lo5:=hB.ob hr;refine wmS rfl ?_;have a2:=V6 (sz:=1) (m:=0) hb5 (ai b5) rfl dE;replace hB:=hB.tr0 s1;refine wl_appC (b:=b) (o':=0) (news:=oV o) U62 in3 rfl dE a2 rfl rfl (fun j u hj=>?_) (by simp[oV]) (by simp[oV,List.all_eq_true];intros;rfl) a1 oG oG (Nat.le_of_lt hb5.lt) (fun g7 a3 w9 ho7 s2 hg=>?_)
 · simp only[oV,List.getElem?_map,Option.map_eq_some_iff]at hj
   obtain⟨x,hx,rfl⟩:=hj;obtain⟨hk,rfl⟩:=aC.1 hx;exact hB.cell hbl (hc j hk)
 have hB9:Bel w w9:=hB.tr s2 (fun g hg=>by cases ar.1 hg;exact lo5);refine zn5 ?_;refine⟨⟨some ⟨g7,0,none⟩,a3,?_,?_⟩,hB9⟩
 · show Ending.returned (.slice _ (0+o.length) _)=_
   rw[Nat.zero_add]
 · have h:=ho7.low lo5
   rw[Nat.zero_add]at h;exact h
set_option maxHeartbeats 2000000 in
theorem D1{G:Option Addr}{cg nf bn:Nat}{gr:List Nd}(hG:NodesIn w0 G gr)(hk:Nj nf gr)(l0n:w0.heap.size<=bn){A:Option Addr}{cap:Nat}{w:World}(hB:Bel w0 w)(hok:OOk gr.length o)(a2:Blk w bn 3 (row gr.length (fun x=> .int .i64 (kJ o x))))(hO:OrdF w bn w.heap.size A o){i:Nat}(a4:i<gr.length)(IH:∀(t:Nat) (o2:List Nat) (A2:Option Addr) (a8:Nat) (w2:World),ux gr.length (Xy o2)<ux gr.length (Xy o)->t<gr.length->Bel w0 w2->OOk gr.length o2->Blk w2 bn 3 (row gr.length (fun x=> .int .i64 (kJ o2 x)))->OrdF w2 bn w2.heap.size A2 o2->Calls prog 66 #[.agg #[.slice G gr.length cg],.int .i64 (t:Nat),.slice (some ⟨bn,0,none⟩) gr.length gr.length,.slice A2 (o2).length a8] w2 fun e w'=>∃ o' A' cap',DL gr [t] o2 o'/\e= .returned (.slice A' o'.length cap')/\Blk w' bn 3 (row gr.length (fun x=> .int .i64 (kJ o' x)))/\OrdF w' bn w'.heap.size A' o'/\Same [bn] w2 w'):Calls prog 66 #[.agg #[.slice G gr.length cg],.int .i64 (i:Nat),.slice (some ⟨bn,0,none⟩) gr.length gr.length,.slice A (o).length cap] w fun e w'=>∃ o' A' cap',DL gr [i] o o'/\e= .returned (.slice A' o'.length cap')/\Blk w' bn 3 (row gr.length (fun x=> .int .i64 (kJ o' x)))/\OrdF w' bn w'.heap.size A' o'/\Same [bn] w w':=by
 have a1:Same [bn] w w/\w.heap.size<=w.heap.size:=⟨Same.refl _ _,ai _⟩
 obtain⟨bd,ab⟩:∃ b,b=w.heap.size:=⟨_,rfl⟩
 rw[<- ab]at hO;have a3:bd<=w.heap.size:=ay ab;have hn6:=hk.le;have hrg:=M2 hk;have hol:=hok.cnt;have hnl:=a2.lt;refine enter func66 ntmps66 rfl (aA rfl) (zn2 ?_);refine qv (cs:=#[_]) rfl (fun b4 w1 a5 t1 hr=>?_);have:=a2.ob hr;have b8:=(nLT a1.2 hr)
 have b7:=(nLT a3 hr)
 replace hO:=hO.tr t1 (by simp);replace a1:=And.intro (a1.1.freshL t1 (by simp)) (nLT a1.2 (Same.size t1));replace a3:=zJ a3 t1;refine zn8 ?_;refine wl (x7 (i:=i) U62 qq rfl rfl a4 rfl) ?_;replace a2:=a2.tr0 t1;refine wl (qj (v:= .int _ _) U3 rfl rfl (a2.cell (j5 a4))) (zn3 ?_);refine zZ rfl (fun bu=>?_) (fun bu=>?_)
 ·refine zn9 ?_;exact⟨o,A,cap,.old (numO_pos bu) .nil,rfl,a2,hO.up a3,a1.1⟩
 have bf:=numO_neg bu;have bb:=hok.snoc a4 bf;have hol2:=bb.cnt;refine zn8 ?_;refine wl (x7 (i:=i) U62 qq rfl rfl a4 rfl) ?_;refine xx (v:= .int _ _) a2 rfl rfl qq (by rw[row_size];omega) rfl kv (fun w2 hq t2=>?_);replace hB:=hB.u.tr1 t2 l0n;replace hO:=hO.tr t2 (fun g hg=>by have h1:=ar.1 hg;omega);replace a1:=And.intro (a1.1.freshL t2 (fun g hg=>by have h1:=ar.1 hg;first|(left;rw[h1];simp;done)|(right;omega))) (nLT a1.2 (Same.size t2));replace a3:=zJ a3 t2;replace a2:=hq;rw[row_num bf]at a2;refine zn3 ?_;obtain⟨bq,b5⟩:∃ b,b=w2.heap.size:=⟨_,rfl⟩
 have ba:bq<=w2.heap.size:=ay b5;replace a5:=a5.tr1 t2 oG;have lq4:b4<bq:=by rw[b5];exact a5.lt
 have lqn:bn<bq:=by rw[b5];exact a2.lt
 have hbd0:bd<=bq:=by rw[b5];exact a3
 have hSz:w.heap.size<=bq:=by rw[b5];exact a1.2
 have hB0:w0.heap.size<=bq:=by rw[b5];exact Bel.size hB
 refine zn2 ?_;refine zW kR (clone_any _ _ _ _ o _ hO oG) rfl (fun e' w3 hr=>?_);obtain⟨⟨AC,capC,rfl,a9⟩,t3⟩:=hr;replace t3:=sB t3;replace hO:=hO.tr t3 (by simp);replace a1:=And.intro (a1.1.freshL t3 (by simp)) (nLT a1.2 (Same.size t3));replace a3:=zJ a3 t3;replace ba:=zJ ba t3;rw[<- b5]at a9;refine⟨_,rfl,?_⟩;refine wmI rfl ?_;refine qZ (cs:=#[_]) [(0,.int _ _)] rfl U62 qq ZV dE dE kR rfl (fun b25 w4 br t4 hr=>?_);replace a2:=a2.tr0 t3;have:=a2.ob hr;have ao:=(nLT a1.2 hr)
 have ad:=(nLT a3 hr)
 have:=a5.u.ob hr;have ac:=a9.ob hr;replace hO:=hO.tr t4 (by simp);replace a1:=And.intro (a1.1.freshL t4 (by simp)) (nLT a1.2 (Same.size t4));replace a3:=zJ a3 t4;replace ba:=zJ ba t4;replace a9:=a9.tr0 t4;refine vV U62 in3 rfl dE a9 br rfl rfl rfl xW dE oG oG ba (fun g26 cap26 w5 bj t5 hg=>?_);replace a2:=a2.tr0 t4;have b2:g26≠bn:=neA a9 a2.lt hg
 have b3:g26≠b4:=neA a9 a5.u.lt hg
 replace hB:=hB.u.tr t5 (fun g hg=>nLT hB0 (a9.lt g hg).1);replace a2:=a2.ta t5 a9;replace a1:=And.intro (a1.1.freshL t5 (fun g hg=> .inr (by have:=((a9).lt g hg).1;omega))) (nLT a1.2 (Same.size t5));replace a5:=a5.tr0 (t3.t t4);replace a5:=a5.ta t5 a9;have hO2:=ord_own bj lqn;obtain⟨be,hbe⟩:∃ b,b=w5.heap.size:=⟨_,rfl⟩
 rw[<- hbe]at hO2;have bo:be<=w5.heap.size:=ay hbe;refine zn5 ?_;obtain⟨nb,no,LA,lc,rfl,hnb,hnr,hln⟩:=hG.at_ hB a4;have hmx:=hln.1;unfold vX at hmx;refine zn4 ?_;refine wl (x7 (i:=i) U26 ZW rfl rfl a4 rfl) (zn1 ?_);refine wl (qj (v:= .slice _ _ _) U85 rfl rfl (hnr 1 _ rfl)) (zn5 ?_);refine qz (rg [3,10] 34 11) (fun m g w'=>∃(j:Nat) (o2:List Nat) (A2:Option Addr) (a8:Nat),j<=(gr[i]'a4).ln.length/\m=(gr[i]'a4).ln.length-j/\g 34= .int .i64 j/\g 3= .slice A2 o2.length a8/\DL gr ((vQ gr i).take j) (o++[i]) o2/\Bel w0 w'/\Blk w' b4 28 #[.slice (some ⟨nb,no,none⟩) gr.length cg]/\Blk w' bn 3 (row gr.length (fun x=> .int .i64 (kJ o2 x)))/\OrdF w' bn w'.heap.size A2 o2/\(Same [bn] w w'/\w.heap.size<=w'.heap.size)) ((gr[i]'a4).ln.length) ?_ (fun m g6 w6 hI=>?_)
 ·exact⟨0,_,_,_,ah _,rfl,rfl,sl_oV _ _ _ _,.nil,hB,a5,a2,hO2.up bo,a1⟩
 obtain⟨j,o2,A2,a8,hj,hm,h34,h3,hD,hB,a5,a2,hO,a1⟩:=hI;obtain⟨bd,ab⟩:∃ b,b=w6.heap.size:=⟨_,rfl⟩
 rw[<- ab]at hO;have a3:bd<=w6.heap.size:=ay ab;have hnl:=a2.lt;refine zQ 34 _ h34 nu (zQ 3 _ h3 nu (zn6 ?_));refine zZ rfl (fun c35=>?_) (fun c35=>?_)
 ·have bc:j<(gr[i]'a4).ln.length:=by omega
  obtain⟨lb,lof,rfl,hlb,hlr⟩:=hln.at_ hB bc;obtain⟨t,ht,htl⟩:∃ t:Nat,((gr[i]'a4).ln[j]'bc).2=(t:Int)/\t<gr.length:=by
    have h1:=hk.ln i a4 _ (aq bc);exact⟨(((gr[i]'a4).ln[j]'bc).2).toNat,by omega,by omega⟩
  obtain⟨bi,s3,hs3⟩:=hD.ok hrg (fun x hx=>hrg i a4 x (List.mem_of_mem_take hx)) bb;have hlk:ux gr.length (Xy o2)<ux gr.length (Xy o):=by
    rw[hs3];exact Nat.lt_of_le_of_lt (F4 _ _ _) (Mk a4 bf)
  refine zn7 ?_;refine wl (qw U84 rfl rfl hlr gQ) ?_;refine qQ (cs:=#[.int .i64 0,.int .i64 0]) Vq rfl (fun b10 w7 b6 t6 hr=>?_);have:=a2.ob hr;have b1:=(nLT a1.2 hr)
  have:=a5.ob hr;have an:=(nLT a3 hr)
  have bh:=hB.ob hr;replace a1:=And.intro (a1.1.freshL t6 (by simp)) (nLT a1.2 (Same.size t6));replace hO:=hO.tr t6 (by simp);replace a3:=zJ a3 t6;refine zV b6 (fun w8 hq t7=>?_);replace a1:=And.intro (a1.1.freshL t7 (fun g hg=>by have h1:=ar.1 hg;first|(left;rw[h1];simp;done)|(right;omega))) (nLT a1.2 (Same.size t7));replace hO:=hO.tr t7 (fun g hg=>by have h1:=ar.1 hg;omega);replace a3:=zJ a3 t7;replace b6:=hq;refine qY (e_S ?_);rw[ht]at b6;refine zn6 ?_;replace a5:=(a5.tr0 t6).tr1 t7 oG;have lb4:=a5.lt;have hO4:=hO.up a3;replace a2:=(a2.tr0 t6).tr1 t7 oG;have b9:b4≠bn:=fun e=>absurd (jz (e ▸ a5) a2) dE
  refine zW kR (IH t o2 A2 a8 _ hlk htl hB.u bi a2 hO4) rfl (fun e' w9 hr=>?_);obtain⟨o3,A3,bt,hD3,rfl,bm,hO3,bg⟩:=hr;replace hB:=(hB.tr0 t6).tr1 t7 bh;replace hB:=hB.tr bg (by simpa using l0n);replace a5:=a5.tr bg (by simpa using b9);replace a2:=bm;replace hO:=hO3;replace a1:=And.intro (a1.1.trans bg) (nLT a1.2 bg.size);refine⟨_,rfl,?_⟩;refine zn8 ?_;refine x9 ((gr[i]'a4).ln.length-(j+1)) oG agA ?_;exact⟨j+1,o3,A3,bt,by omega,rfl,rfl,rfl,by rw[CV a4 bc ht];exact hD.append hD3,hB,a5,a2,hO,a1⟩
 have hjx:j=(gr[i]'a4).ln.length:=by omega
 have bk:DL gr (vQ gr i) (o++[i]) o2:=by
   have e:(vQ gr i).take j=vQ gr i:=aX (by simp[vQ,yK a4,hjx]);rw[e]at hD;exact hD
 refine uJ ?_;exact⟨o2,A2,a8,.new bf bk .nil,rfl,a2,hO.up a3,a1.1⟩
theorem visit2_any{G:Option Addr}{cg nf bn:Nat}{gr:List Nd}(hG:NodesIn w0 G gr)(hk:Nj nf gr)(l0n:w0.heap.size<=bn):∀(m:Nat) (o:List Nat) (A:Option Addr) (cap:Nat) (w:World) (i:Nat),ux gr.length (Xy o)<=m->i<gr.length->Bel w0 w->OOk gr.length o->Blk w bn 3 (row gr.length (fun x=> .int .i64 (kJ o x)))->OrdF w bn w.heap.size A o->Calls prog 66 #[.agg #[.slice G gr.length cg],.int .i64 (i:Nat),.slice (some ⟨bn,0,none⟩) gr.length gr.length,.slice A (o).length cap] w fun e w'=>∃ o' A' cap',DL gr [i] o o'/\e= .returned (.slice A' o'.length cap')/\Blk w' bn 3 (row gr.length (fun x=> .int .i64 (kJ o' x)))/\OrdF w' bn w'.heap.size A' o'/\Same [bn] w w':=by
 intro m
 induction m with
 | zero=>intro o A cap w i hm a3 hB a2 h1 h2;exact D1 hG hk l0n hB a2 h1 h2 a3 (fun t o2 A2 a1 w2 hl=>by omega)
 | succ m ih=>intro o A cap w i hm a3 hB a2 h1 h2;exact D1 hG hk l0n hB a2 h1 h2 a3 (fun t o2 A2 a1 w2 hl=>ih o2 A2 a1 w2 t oG)
set_option maxHeartbeats 4000000 in
theorem rfrom3_any(G:Option Addr)(cg nf:Nat)(gr:List Nd)(r:Nat)(w:World)(hG:NodesIn w G gr)(hk:Nj nf gr)(hnf:nf<=1000)(hr:r<gr.length):Calls Tryz.prog 40 #[.agg #[.slice G gr.length cg],.int .i64 r] w fun e w'=>(∃ o A c,DL gr [r] [] o/\OOk gr.length o/\e= .returned (.agg #[.slice A o.length c])/\GrT w' w.heap.size w'.heap.size A c (yq gr o) (fun x=>(nd (yq gr o) x).ty))/\Bel w w':=by
 have hn6:=hk.le;have hrg:=M2 hk;refine enT Tryz.func40 Tryz.ntmps40 rfl rfl fun hB=>?_;refine zn2 ?_;refine qv (cs:=#[_]) rfl (fun b2 w1 ac t1 hr=>?_);clear hr;refine qQ (cs:=#[.slice none 0 0]) ze28 rfl (fun b4 w2 a8 t2 hr=>?_);have:=ac.ob hr;have lo4:=hB.u.ob hr;clear hr;refine zn7 ?_;refine Y5 (m:=gr.length) U62 in3 rfl rfl rfl oG oG (fun bj w3 a2 t3 hr=>?_);have:=ac.u.ob hr;have:=a8.ob hr;have cb:=hB.u.ob hr;clear hr;refine yZ ?_;refine qz (rg [6] 20 7) (fun m g w'=>∃ k:Nat,k<=gr.length/\m=gr.length-k/\g 20= .int .i64 k/\Bel w w'/\Blk w' b2 28 #[.slice G gr.length cg]/\Blk w' b4 28 #[.slice none 0 0]/\Blk w' bj 3 (row gr.length (fun x=> .int .i64 (if x<k then -1 else 0)))) (gr.length) ?_ (fun m g3 w4 hI=>?_)
 ·refine⟨0,ah _,rfl,rfl,hB.u,ac.u,a8.u,?_⟩;rw[xy (g':=fun _=> .int .i64 0) (fun x _=>by simp)];exact a2
 obtain⟨k,hkk,hm,h20,hB,ac,a8,a2⟩:=hI;refine zQ 20 _ h20 nu (zn6 ?_);refine zZ rfl (fun c21=>?_) (fun c21=>?_)
 ·have c6:k<gr.length:=by omega
  refine QY ?_;refine xx (v:= .int _ _) a2 rfl rfl qq (by rw[row_size];omega) rfl kv (fun w5 hq t4=>?_);replace a2:=hq
  rw[xy (g':=fun x=> .int .i64 (if x<k+1 then -1 else 0)) (fun x _=>by
    by_cases e:x=k
    · subst e;simp
    · have e1:(x<k+1)↔(x<k):=by omega
      simp[e,e1])]at a2
  refine zn7 ?_;refine x9 (gr.length-(k+1)) oG agA ?_;exact⟨k+1,by omega,rfl,rfl,hB.u,ac.u,a8.u,a2⟩
 have cr:k=gr.length:=by omega
 rw[cr,xy (g':=fun x=> .int .i64 (kJ [] x)) (fun x hx=>by simp[hx,numO_nil])]at a2;refine Jq ?_;have ne2:b2≠bj:=by omega
 have ne4:b4≠bj:=by omega
 refine zW kR (visit2_any (w0:=w) (G:=G) (cg:=cg) (bn:=bj) hG hk cb gr.length [] none 0 _ r (C7 _ _) hr hB (OOk.nil _) a2 (OrdF.nil _ _ _)) rfl (fun e' w6 hr=>?_);obtain⟨o,AO,capO,hD,rfl,cj,hO,cx⟩:=hr;replace hB:=hB.tr cx (by simpa using cb);replace ac:=ac.tr cx (by simpa using ne2);replace a8:=a8.tr cx (by simpa using ne4);replace a2:=cj;obtain⟨cp,_,_⟩:=hD.ok hrg (fun i hi=>by rw[List.mem_singleton.1 hi];exact hr) (OOk.nil _);have hol:=cp.cnt;obtain⟨bd,cf⟩:∃ b,b=w6.heap.size:=⟨_,rfl⟩
 rw[<- cf]at hO;have cu:bd<=w6.heap.size:=ay cf;refine⟨_,rfl,?_⟩;refine zn5 ?_;refine qQ (cs:=#[.slice none 0 0]) ze28 rfl (fun b8 w7 ao t5 hr=>?_);have:=ac.ob hr;have:=a8.ob hr;have:=a2.ob hr;have b6:=(nLT cu hr)
 have lo8:=hB.ob hr;replace hO:=hO.tr t5 (by simp);replace cu:=zJ cu t5;clear hr;refine zn4 ?_;replace hO:=hO.up b6;have cd:w.heap.size<=b8+1:=aI lo8;refine zn7 ?_;refine qz (rg [10,11,13] 34 43) (fun m g w'=>∃(k:Nat) (AN:Option Addr) (bb:Nat) (V:Nat->Value),k<=o.length/\m=o.length-k/\g 34= .int .i64 k/\Bel w w'/\Blk w' b2 28 #[.slice G gr.length cg]/\Blk w' b4 28 #[.slice none 0 0]/\Blk w' bj 3 (row gr.length (fun x=> .int .i64 (kJ o x)))/\Blk w' b8 28 #[.slice AN k bb]/\OrdF w' bj b8 AO o/\Own w' (b8+1) 87 2 AN k bb (ndV (fun x=> .int .i64 (nd gr (o.getD x 0)).ty) V k)/\(∀ x,x<k->RowO w' w.heap.size w'.heap.size (V x) ((nd gr (o.getD x 0)).ln.map (YV o)))) (o.length) ?_ (fun m g11 w8 hI=>?_)
 ·exact⟨0,none,0,fun _=> .slice none 0 0,ah _,rfl,rfl,hB.u,ac.u,a8.u,a2.u,ao,hO,Own.nil _ _ _ _,fun x hx=>by omega⟩
 obtain⟨k,AN,bb,V,hkk,hm,h34,hB,ac,a8,a2,ao,hO,a3,a1⟩:=hI;obtain⟨bs,bk⟩:∃ b,b=w8.heap.size:=⟨_,rfl⟩
 rw[<- bk]at a1;have a4:bs<=w8.heap.size:=ay bk;have lu8:b8<bs:=by rw[bk];exact ao.lt
 have luN:∀ g∈aL AN,g<bs:=fun g hg=>by rw[bk];exact(a3.lt g hg).2
 refine zQ 34 _ h34 nu (zn6 ?_);refine zZ rfl (fun c35=>?_) (fun c35=>?_)
 ·have c6:k<o.length:=by omega
  obtain⟨i,hoi,an⟩:∃ i:Nat,o[k]'c6=i/\i<gr.length:=⟨_,rfl,cp.lt _ (aq c6)⟩
  have hgd:o.getD k 0=i:=by simp[List.getD,c6,hoi]
  have hnd:=yK an;obtain⟨q,rfl,hqn,hqd,hql,hqc⟩:∃ q,AO=some ⟨q,0,none⟩/\q≠bj/\q<b8/\q<w8.heap.size/\∀ k (hk:k<o.length),w8.cell? ⟨q,0+k,none⟩=some (.int .i64 (o[k]:Nat)):=by
    rcases hO with h|⟨_,h⟩
    · rw[h.1]at c6;simp at c6
    · exact h
  have hz:w8.cell? ⟨q,0+k*1,none⟩=some (.int .i64 (i:Int)):=by
    have:=hqc k c6;rw[hoi]at this
    simpa using this
  obtain⟨nb,no,LA,lc,rfl,hnb,hnr,hln⟩:=hG.at_ (Below.refl _ _:Bel w w) an;have hmx:=hln.1;unfold vX at hmx;have hfw:=hk.few i an;refine zn7 ?_;refine wl (qj (v:= .int _ _) U3 rfl rfl hz) (zn8 ?_);refine wl (x7 (i:=i) U26 ZW rfl rfl an rfl) (zn1 ?_);refine wl (qj (v:= .int _ _) U3 rfl rfl (hB.cell hnb (hnr 0 _ rfl))) (wl (Z1 (v0:= .int _ _) (fun v0=>#[v0,.slice none 0 0]) rfl kR) ?_);refine qQ (cs:=#[.int .i64 0,.slice none 0 0]) Dk rfl (fun c8 w9 a9 t6 hr=>?_);have:=ac.ob hr;have:=a8.ob hr;have:=a2.ob hr;have:=ao.ob hr;have a5:=a3.ob hr;have b5:=(nLT a4 hr)
  have co:=hB.ob hr;replace hO:=hO.tr t6 (by simp);replace a1:=zY a1 t6;replace a4:=zJ a4 t6;clear hr;refine zV a9 (fun w10 hq t7=>?_);replace hO:=hO.tr t7 (fun g hg=>by have h1:=ar.1 hg;omega);replace a3:=a3.tr0 t6;replace a3:=a3.tr1 t7 (fun g hg=>by have:=a5 g hg;omega);replace a1:=zY a1 t7;replace a4:=zJ a4 t7;replace a9:=hq;refine zn4 ?_;have lb11:bs<=c8:=b5;have ce:w.heap.size<=c8+1:=aI co;refine zn4 ?_;refine wl (x7 (i:=i) U26 ZW rfl rfl an rfl) (zn1 ?_);refine wl (qj (v:= .slice _ _ _) U85 rfl rfl (hB.u.cell hnb (hnr 1 _ rfl))) (zn5 ?_);refine qz (rg [13] 52 18) (fun m g w'=>∃(j:Nat) (A5:Option Addr) (be:Nat),j<=(gr[i]'an).ln.length/\m=(gr[i]'an).ln.length-j/\g 52= .int .i64 j/\Bel w w'/\Blk w' b2 28 #[.slice (some ⟨nb,no,none⟩) gr.length cg]/\Blk w' b4 28 #[.slice none 0 0]/\Blk w' bj 3 (row gr.length (fun x=> .int .i64 (kJ o x)))/\Blk w' b8 28 #[.slice AN k bb]/\Blk w' c8 87 #[.int .i64 (gr[i]'an).ty,.slice A5 j be]/\OrdF w' bj b8 (some ⟨q,0,none⟩) o/\Own w' (b8+1) 87 2 AN k bb (ndV (fun x=> .int .i64 (nd gr (o.getD x 0)).ty) V k)/\(∀ x,x<k->RowO w' w.heap.size bs (V x) ((nd gr (o.getD x 0)).ln.map (YV o)))/\bs<=w'.heap.size/\Own w' (c8+1) 84 2 A5 j be (lnV (((gr[i]'an).ln.take j).map (YV o)))) ((gr[i]'an).ln.length) ?_ (fun m g15 w11 hI=>?_)
  ·exact⟨0,none,0,ah _,rfl,rfl,hB.u,ac.u,a8.u,a2.u,ao.u,a9,hO,a3,a1,a4,Own.nil _ _ _ _⟩
  obtain⟨j,A5,be,hj,hmj,h52,hB,ac,a8,a2,ao,a9,hO,a3,a1,a4,ad⟩:=hI;refine zQ 52 _ h52 nu (zn6 ?_);refine zZ rfl (fun c53=>?_) (fun c53=>?_)
  ·have br:j<(gr[i]'an).ln.length:=by omega
   obtain⟨lb,lof,rfl,hlb,hlr⟩:=hln.at_ hB br;obtain⟨t,ht,htl⟩:∃ t:Nat,((gr[i]'an).ln[j]'br).2=(t:Int)/\t<gr.length:=by
     have h1:=hk.ln i an _ (aq br);exact⟨(((gr[i]'an).ln[j]'br).2).toNat,by omega,by omega⟩
   refine zn7 ?_;refine wl (qw U84 rfl rfl hlr gQ) ?_;refine qQ (cs:=#[.int .i64 0,.int .i64 0]) Vq rfl (fun b13 w12 c7 t8 hr=>?_);have:=ac.ob hr;have:=a8.ob hr;have:=a2.ob hr;have:=ao.ob hr;have c1:=(nLT a4 hr)
   have:=a9.ob hr;have b1:=a3.ob hr;have b3:=ad.ob hr;have cn:=hB.ob hr;replace hO:=hO.tr t8 (by simp);replace a1:=zY a1 t8;replace a4:=zJ a4 t8;clear hr;refine zV c7 (fun w13 hq t9=>?_);replace hO:=hO.tr t9 (fun g hg=>by have h1:=ar.1 hg;omega);replace a1:=zY a1 t9;replace a4:=zJ a4 t9;replace a3:=a3.tr0 t8;replace a3:=a3.tr1 t9 (fun g hg=>by have:=b1 g hg;omega);replace ad:=ad.tr0 t8;replace ad:=ad.tr1 t9 (fun g hg=>by have:=b3 g hg;omega);replace c7:=hq;refine qY (e_S ?_);rw[ht]at c7;have zo:=fun g hg=>(ad.lt g hg).2
   replace hB:=(hB.tr0 t8).tr1 t9 cn;have hsz:=Bel.size hB;refine gY [] [11,13] [0,1,2,3,4,5,6,7,8,9,10,11,12,13] rfl (fun w14 b9=>?_);replace hO:=hO.tr b9 (by simp);replace a1:=zY a1 b9;replace a4:=zJ a4 b9;refine zn7 ?_;refine hl rfl (fun _=>x7 (i:=t) U62 qq rfl rfl htl rfl) (hl1 (v:= .int _ _) rfl U3 rfl rfl (a2.u.cell (j5 htl)) (hl rfl (fun _=>Q5 (v0:= .int _ _) (v1:= .int _ _) (fun v0 v1=>#[v0,v1]) rfl rfl kR) (h1 rfl ?_)));refine qZ (cs:=#[_,_]) [(0,.agg _)] rfl U85 gQ Vq dE dE kR rfl (fun b66 w15 cw b7 hr=>?_);have:=ac.u.ob hr;have:=a8.u.ob hr;have:=a2.u.ob hr;have:=ao.u.ob hr;have c0:=(nLT a4 hr)
   have:=a9.u.ob hr;replace a3:=a3.tr0 b9;have bv:=a3.ob hr;replace ad:=ad.tr0 b9;have bx:=ad.ob hr;have cc:=b7;replace hO:=hO.tr b7 (by simp);replace a1:=zY a1 b7;replace a4:=zJ a4 b7;clear hr;refine qY (KQ cc (h1 rfl ?_));replace ad:=ad.tr0 b7;refine vV U85 in84 rfl dE ad cw rfl rfl rfl xW dE oG oG a9.u.lt (fun cy bc w16 ba bi hg67=>?_);replace hB:=hB.tr0 (b9.t b7);replace hB:=hB.tr bi (fun g hg=>nLT ce (ad.lt g hg).1);replace ac:=((ac.tr0 t8).tr1 t9 oG).tr0 (b9.t b7);replace ac:=ac.ta bi ad;replace a8:=((a8.tr0 t8).tr1 t9 oG).tr0 (b9.t b7);replace a8:=a8.ta bi ad;replace a2:=((a2.tr0 t8).tr1 t9 oG).tr0 (b9.t b7);replace a2:=a2.ta bi ad;replace hO:=hO.tr bi (fun g hg=> .inr (by have:=((ad).lt g hg).1;omega));replace ao:=((ao.tr0 t8).tr1 t9 oG).tr0 (b9.t b7);replace ao:=ao.ta bi ad;replace a1:=zY a1 bi;replace a4:=zJ a4 bi;replace a9:=((a9.tr0 t8).tr1 t9 oG).tr0 (b9.t b7);replace a9:=a9.ta bi ad;replace a3:=a3.tr0 b7;replace a3:=a3.tr bi (fun g hg hx=>by have:=(ad.lt _ hx).1;(try have:=luN g hg);omega);obtain⟨cy,bc,e67,ba⟩:∃ g cap,(.slice (some ⟨cy,0,none⟩) (j+1) bc:Value)= .slice (some ⟨g,0,none⟩) (j+1) cap/\Own w16 (c8+1) 84 2 (some ⟨g,0,none⟩) (j+1) cap (lnV (((gr[i]'an).ln.take j).map (YV o))++[.int .i64 ((gr[i]'an).ln[j]'br).1,.int .i64 (kJ o t)]):=⟨_,_,rfl,ba⟩
   cases e67;refine qY (O9 [13] (zn1 ?_));replace ba:Own w16 (c8+1) 84 2 (some ⟨cy,0,none⟩) (j+1) bc (lnV (((gr[i]'an).ln.take (j+1)).map (YV o))):=by
     rw[List.take_succ_eq_append_getElem br,List.map_append,List.map_cons,List.map_nil,<- O3];have e:YV o ((gr[i]'an).ln[j]'br)=(((gr[i]'an).ln[j]'br).1,kJ o t):=by simp[YV,ht]
     rw[e];exact ba
   have ad:=ba;refine h1 rfl ?_;refine xx (v:= .slice _ _ _) a9 rfl rfl Tz (by first|decide|simp) rfl rfl (fun w17 hq c9=>?_);have hsH13:=c9;replace hO:=hO.tr c9 (fun g hg=>by have h1:=ar.1 hg;omega);replace a1:=zY a1 c9;replace a4:=zJ a4 c9;replace a3:=a3.tr1 c9 (fun g hg=>by have:=a5 g hg;omega);replace ad:=ad.tq c9;replace a9:=hq;refine qY (O9 [] (zn7 ?_));refine x9 ((gr[i]'an).ln.length-(j+1)) oG agA ?_;exact⟨j+1,_,_,by omega,rfl,rfl,hB.u,ac.u,a8.u,a2.u,ao.u,a9,hO,a3,a1,a4,ad⟩
  have hjx:j=(gr[i]'an).ln.length:=by omega
  subst hjx;refine zn5 ?_
  have ab:=RowO.of (lo:=w.heap.size) (xs:=(gr[i]'an).ln.map (YV o)) ce (by
    rw[List.take_length]at ad
    rw[List.length_map];exact ad)
  rw[List.length_map]at ab;obtain⟨s5,hs5⟩:∃ b,b=w11.heap.size:=⟨_,rfl⟩
  rw[<- hs5]at ab;have bq:s5<=w11.heap.size:=ay hs5;refine zn4 ?_;refine qZ (cs:=#[_,_]) [(0,.agg _)] rfl U26 ZW Dk dE dE kR rfl (fun b73 w18 cv bh hr=>?_);have:=ac.ob hr;have:=a8.ob hr;have:=a2.ob hr;have:=ao.ob hr;have bz:=(nLT a4 hr)
  have bu:=a3.ob hr;have bw:=ad.ob hr;have bt:=(nLT bq hr)
  replace hO:=hO.tr bh (by simp);replace a1:=zY a1 bh;replace a4:=zJ a4 bh;replace ab:=ab.tr bh (by simp);replace bq:=zJ bq bh;clear hr;replace a3:=a3.tr0 bh;refine vV U26 in87 rfl dE a3 cv rfl rfl rfl xW dE oG oG ao.u.lt (fun ca ck w19 cq bg hg=>?_);have c4:ca≠b2:=neA a3 ac.u.lt hg
  have c3:ca≠b4:=neA a3 a8.u.lt hg
  have bm:ca≠bj:=neA a3 a2.u.lt hg
  have c2:ca≠b8:=neA a3 ao.u.lt hg
  have bo:ca≠c8:=neB a9.u.lt hg (fun g hg=>by have:=a5 g hg;omega)
  replace hB:=hB.u.tr bg (fun g hg=>nLT cd (a3.lt g hg).1);replace ac:=ac.tr0 bh;replace ac:=ac.ta bg a3;replace a8:=a8.tr0 bh;replace a8:=a8.ta bg a3;replace a2:=a2.tr0 bh;replace a2:=a2.ta bg a3;replace hO:=hO.tr bg (fun g hg=> .inr (by have:=((a3).lt g hg).1;omega));replace ao:=ao.tr0 bh;replace ao:=ao.ta bg a3;replace a1:=zY a1 bg;replace a4:=zJ a4 bg;replace ab:=ab.c bg;replace bq:=zJ bq bg;have c5:Own w19 (b8+1) 87 2 (some ⟨ca,0,none⟩) (k+1) ck (ndV (fun x=> .int .i64 (nd gr (o.getD x 0)).ty) (fun x=>if x=k then .slice A5 (gr[i]'an).ln.length be else V x) (k+1)):=by
    rw[X4,gW (f':=(fun x=> .int .i64 (nd gr (o.getD x 0)).ty)) (h':=V) (fun x _=>rfl) (fun x hx=>by rw[if_neg (show ¬x=k from by omega)])];simp only[if_true];rw[hgd,hnd];exact cq
  refine zn1 ?_;refine xx (v:= .slice _ _ _) ao rfl rfl sz26 (by first|decide|simp) rfl rfl (fun w20 hq bf=>?_);replace hO:=hO.tr bf (fun g hg=>by have h1:=ar.1 hg;omega);replace a1:=zY a1 bf;replace a4:=zJ a4 bf;replace ab:=ab.c bf;replace bq:=zJ bq bf;replace c5:=c5.tq bf;replace ao:=hq;refine zn7 ?_;refine x9 (o.length-(k+1)) oG agA ?_;replace hB:=hB.tr1 bf lo8;replace ac:=ac.tr1 bf oG;replace a8:=a8.tr1 bf oG;replace a2:=a2.tr1 bf oG
  exact⟨k+1,_,_,fun x=>if x=k then .slice A5 (gr[i]'an).ln.length be else V x,by omega,rfl,rfl,hB,ac,a8,a2,ao,hO,c5,fun x hx=>by
    by_cases e:x=k
    · subst e
      simp only[if_true];rw[hgd,hnd];exact ab.up bq
    · simp only[if_neg e]
      exact(a1 x oG).up a4⟩
 have cr:k=o.length:=by omega
 subst cr;refine zn8 ?_;refine zV a8 (fun w21 hq cm=>?_);replace a3:=a3.tq cm;replace a1:=zY a1 cm;replace a4:=zJ a4 cm;replace a8:=hq;refine zn3 ?_;refine xK (.inl rfl) rfl (zX U28 rfl rfl a8.range0 Y6) ?_;have hcl:(yq gr o).length=o.length:=by simp[yq]
 refine⟨⟨o,_,_,hD,cp,rfl,GrT.mk a3 hcl cd (fun x hx=>?_) (fun g hg=>(a3.lt g hg).2) a4 (fun x hx=>?_)⟩,hB.u⟩
 · rw[C4 hx]
 · rw[C4 hx]
   exact a1 x hx
theorem BQ(G:Option Addr)(cg nf:Nat)(gr:List Nd)(r:Nat)(w:World)(hG:NodesIn w G gr)(hk:Nj nf gr)(hnf:nf<=1000)(hr:r<gr.length):Calls Tryz.prog 40 #[.agg #[.slice G gr.length cg],.int .i64 r] w fun e w'=>(∃ o A c,DL gr [r] [] o/\OOk gr.length o/\e= .returned (.agg #[.slice A o.length c])/\(∀ w2,FrSame w.heap.size w' w2->NodesIn w2 A (yq gr o)))/\Bel w w':=(rfrom3_any G cg nf gr r w hG hk hnf hr).mono fun e w' h=>by
 obtain⟨⟨o,A,c,h1,h2,h3,h4⟩,hs⟩:=h
 exact⟨⟨o,A,c,h1,h2,h3,fun w2 hf=>by have:=(h4.fr hf).nodes;rwa[rtG_self]at this⟩,hs⟩
inductive NdVs(w:World):List Nd->List Value->Prop
 | nil:NdVs w [] []
 | cons {x:Nd} {l:List Nd} {vs:List Value} {A:Option Addr} {c:Nat} (h:LinksIn w A x.ln) (r:NdVs w l vs):NdVs w (x::l) (.int .i64 x.ty:: .slice A x.ln.length c::vs)
theorem NdVs.get{w:World}{l:List Nd}{vs:List Value}(h:NdVs w l vs):∀ k (hk:k<l.length),∃ A c,vs[k*2]? =some (.int .i64 (l[k]).ty)/\vs[k*2+1]? =some (.slice A (l[k]).ln.length c)/\LinksIn w A (l[k]).ln:=by
 induction h with
 | nil=>intro k hk;simp at hk
 | cons h r ih=>
  intro k hk
  match k,hk with
  | 0,_=>exact⟨_,_,rfl,rfl,h⟩
  | k+1,hk=>
   obtain⟨A,c,h1,h2,h3⟩:=ih k (by simpa using hk);refine⟨A,c,?_,?_,h3⟩
   ·rw[show (k+1)*2=k*2+1+1 from by omega];simpa using h1
   ·rw[show (k+1)*2+1=k*2+1+1+1 from by omega];simpa using h2
end Go.Proofs.YtndbjnkilegebaaGreatDoor
