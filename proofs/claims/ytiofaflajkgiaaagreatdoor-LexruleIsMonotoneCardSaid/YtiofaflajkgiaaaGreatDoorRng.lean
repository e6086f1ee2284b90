/- What these functions compute, at every world: graph.From, slices.Equal[[]api.Link,api.Link], equal.Nodes, ; and plain laws. -/
import Derived.Test.YtiofaflajkgiaaaGreatDoorU
import Derived.Test.YtiofaflajkgiaaaGreatDoorZst
import Derived.Test.YtiofaflajkgiaaaGreatDoorGro
import Derived.Test.YtiofaflajkgiaaaGreatDoorGUnr
import Derived.Laws.CopyRow
import Derived.Laws.Externs
import Derived.Lib.Overlaps
import Derived.Lib.Builder
import Derived.Lib.AppendStr
import Derived.Lib.UnsafeStr
import Derived.Lib.Bytealg
import Derived.Laws.RangeAny
import Derived.Scope
namespace Go.Proofs.YtiofaflajkgiaaaGreatDoor
open Go.RowKit Go.Proofs.Tryz
theorem in90:(prog.info? 90).map (fun i=>(i.zero,i.size,i.bytes))=some (some (.agg #[.int .i64 0,.int .i64 0]),2,16):=by kernel_rfl
theorem in93:(prog.info? 93).map (fun i=>(i.zero,i.size,i.bytes))=some (some (.agg #[.int .i64 0,.slice none 0 0]),2,32):=by kernel_rfl
theorem sz187:(prog.info? 187).map (·.size)=some 1:=by kernel_rfl
theorem ze187:(prog.info? 187).map (·.zero)=some (some (.nilFunc)):=by kernel_rfl
theorem ze28:(prog.info? 28).map (·.zero)=some (some (.agg #[.slice none 0 0])):=by kernel_rfl
theorem ze68:(prog.info? 68).map (·.zero)=some (some (.slice none 0 0)):=by kernel_rfl
set_option maxHeartbeats 4000000 in
theorem from4_any(G:Option Addr)(cg nf:Nat)(gr:List Nd)(r:Nat)(w:World)(hG:NodesIn w G gr)(hk:B4 nf gr)(hnf:nf<=1000)(hr:r<gr.length):Calls prog 95 #[.agg #[.slice G gr.length cg],.int .i64 r] w fun e w'=>(∃ o A,DL gr [r] [] o/\OOk gr.length o/\e= .returned (.agg #[.slice A o.length o.length])/\GrD w' w.heap.size w'.heap.size A o.length (yQ gr o) (fun x=>(nd (yQ gr o) x).ty))/\Bel w w':=by
 have hn6:=hk.le;have hrg:=BZ hk;refine enT func95 ntmps95 rfl rfl fun hB=>?_;refine zn2 ?_;refine qY (v:= .agg #[_]) (cs:=#[_]) rfl rfl (fun b2 w1 a9 s1 hr=>?_);have lo2:=nLT (Bel.size hB) hr;clear hr;refine qk (cs:=#[.slice none 0 0]) ze28 rfl (fun b4 w2 a8 s2 hr=>?_);have:=nLL a9.lt hr;have lo4:=nLT (Bel.size hB.u) hr;clear hr;refine zn7 ?_;refine M3 (m:=gr.length) U68 in3 rfl rfl rfl oG oG (fun bm w3 a2 s3 hr=>?_);have:=nLL a9.u.lt hr;have:=nLL a8.lt hr;have c3:=nLT (Bel.size hB.u) hr;clear hr;refine qk (cs:=#[.slice none 0 0]) ze68 rfl (fun b5 w4 a5 s4 hr=>?_);have:=nLL a9.u.lt hr;have:=nLL a8.u.lt hr;have:=nLL a2.lt hr;have lo5:=nLT (Bel.size hB.u) hr;clear hr;refine xZ (v:= .slice _ _ _) a5 rfl rfl Oq (by first|decide|simp) rfl rfl (fun w5 hq s5=>?_);replace a5:=hq;refine kQ ?_;refine qj (rg [6] 20 7) (fun m g w'=>∃ k:Nat,k<=gr.length/\m=gr.length-k/\g 20= .int .i64 k/\Bel w w'/\Blk w' b2 28 #[.slice G gr.length cg]/\Blk w' b4 28 #[.slice none 0 0]/\Blk w' b5 68 #[.slice (some ⟨bm,0,none⟩) gr.length gr.length]/\Blk w' bm 3 (row gr.length (fun x=> .int .i64 (if x<k then -1 else 0)))) (gr.length) ?_ (fun m g3 w6 hI=>?_)
 ·refine⟨0,ag _,rfl,rfl,hB.u,a9.u,a8.u,a5,?_⟩;replace a2:=(a2.tr0 s4).tr1 s5 oG;rw[vx (g':=fun _=> .int .i64 0) (fun x _=>by simp)];exact a2
 obtain⟨k,hkk,hm,h20,hB,a9,a8,a5,a2⟩:=hI;refine zK 20 _ h20 nu (zn6 ?_);refine zV rfl (fun c21=>?_) (fun c21=>?_)
 ·have bu:k<gr.length:=by omega
  refine Jj ?_;refine xZ (v:= .int _ _) a2 rfl rfl xx (by rw[row_size];omega) rfl uk (fun w7 hq s6=>?_);replace a2:=hq
  rw[vx (g':=fun x=> .int .i64 (if x<k+1 then -1 else 0)) (fun x _=>by
    by_cases e:x=k
    · subst e;simp
    · have e1:(x<k+1)↔(x<k):=by omega
      simp[e,e1])]at a2
  refine zn7 ?_;refine xK (gr.length-(k+1)) oG agA ?_;exact⟨k+1,by omega,rfl,rfl,hB.u,a9.u,a8.u,a5.u,a2⟩
 have cq:k=gr.length:=by omega
 rw[cq,vx (g':=fun x=> .int .i64 (o8 [] x)) (fun x hx=>by simp[hx,numO_nil])]at a2;refine zn7 ?_;refine qk (cs:=#[.slice none 0 0]) ze68 rfl (fun b7 w8 bb s7 hr=>?_);have:=nLL a9.lt hr;have:=nLL a8.lt hr;have:=nLL a2.lt hr;have:=nLL a5.lt hr;have lo7:=nLT (Bel.size hB) hr;clear hr;refine zn4 ?_;refine qk (cs:=#[.nilFunc]) ze187 rfl (fun b8 w9 cd s8 hr=>?_);have:=nLL a9.u.lt hr;have:=nLL a8.u.lt hr;have:=nLL a2.u.lt hr;have:=nLL a5.u.lt hr;have:=nLL bb.lt hr;have lo8:=nLT (Bel.size hB.u) hr;clear hr;refine zn4 ?_;refine wl (r_mf rfl) ?_;refine xZ (v:= .func _ _ _) cd rfl rfl sz187 (by first|decide|simp) rfl rfl (fun w10 hq s9=>?_);replace cd:=hq;refine zn3 ?_;obtain⟨base,an⟩:∃ b,b=w10.heap.size:=⟨_,rfl⟩
 replace hB:=(hB.tr0 (s7.t s8)).tr1 s9 lo8;have hlo:w.heap.size<=base:=by rw[an];exact Bel.size hB
 have hbs:base<=w10.heap.size:=aC an;replace a5:=(a5.tr0 (s7.t s8)).tr1 s9 oG;have lt5:b5<base:=by rw[an];exact a5.lt
 replace bb:=(bb.tr0 s8).tr1 s9 oG;have lt7:b7<base:=by rw[an];exact bb.lt
 replace a9:=(a9.tr0 (s7.t s8)).tr1 s9 oG;have lt2:b2<base:=by rw[an];exact a9.lt
 replace a8:=(a8.tr0 (s7.t s8)).tr1 s9 oG;have lt4:b4<base:=by rw[an];exact a8.lt
 have lt8:b8<base:=by rw[an];exact cd.lt
 replace a2:=(a2.tr0 (s7.t s8)).tr1 s9 oG;have ck:bm<base:=by rw[an];exact a2.lt
 refine zn3 ?_;refine y9 rfl kR (visit_any (w0:=w) (G:=G) (cg:=cg) (bP:=b5) (bQ:=b7) (bG:=b2) (bV:=b8) (bn:=bm) (base:=base) hG hk hlo lo5 lo7 lo2 lo8 c3 lt5 lt7 lt2 lt8 ck oG oG oG oG oG oG oG gr.length [] none 0 _ r (Pv _ _) hr hB hbs (OOk.nil _) a5 bb a9 cd a2 (Own.nil _ _ _ _)) rfl rfl (fun e' w11 hr=>?_);obtain⟨rfl,o,AO,bv,hD,cu,b1,c6,hC⟩:=hr;replace hB:=hB.chg hC hlo (by simp[lo7,c3])
 replace a9 := a9.chg hC lt2 (by
   have:b2 ≠ b7 := by omega
   have:b2≠bm:=by omega
   simp[*])
 replace a8 := a8.chg hC lt4 (by
   have:b4 ≠ b7 := by omega
   have:b4≠bm:=by omega
   simp[*])
 replace a5 := a5.chg hC lt5 (by
   have:b5 ≠ b7 := by omega
   have:b5≠bm:=by omega
   simp[*])
 replace bb:=cu;replace a2:=c6;obtain⟨co,_,_⟩:=hD.ok hrg (fun i hi=>by rw[List.mem_singleton.1 hi];exact hr) (OOk.nil _);have hol:=co.cnt;refine⟨_,rfl,?_⟩;refine zn6 ?_;refine wl_mk (m:=o.length) U26 in93 rfl rfl oG oG (fun bo w12 a1 bz hr=>?_);have:=nLL a9.lt hr;have:=nLL a8.lt hr;have:=nLL a2.lt hr;have:=nLL a5.lt hr;have:=nLL bb.lt hr;have b3:=fun g hg=>nLL (b1.lt g hg).2 hr
 have cm:=nLT (Bel.size hB) hr;clear hr;refine wl (ZY (v0:= .slice _ _ _) (fun v0=>#[v0]) rfl kR) ?_;refine yj (cs:=#[.slice none 0 0]) ze28 rfl (fun _=>rfl) (fun _=>rfl) M8 rfl zJ (fun b9 w14 bd bx hr=>?_);have:=nLL a1.lt hr;clear hr;refine zn4 ?_;replace hB:=hB.tr0 (bz.t bx);replace a9:=a9.tr0 (bz.t bx);replace a8:=a8.tr0 (bz.t bx);replace a2:=a2.tr0 (bz.t bx);replace a5:=a5.tr0 (bz.t bx);replace bb:=bb.tr0 (bz.t bx);replace b1:=b1.tr0 (bz.t bx);replace a1:=a1.tr0 bx;replace a1:Blk w14 bo 93 (kX o.length (fun _=> .int .i64 0) (fun _=> .slice none 0 0)):=by
   have h:=a1;rw[show (Value.agg #[.int .i64 0,.slice none 0 0]).cells= #[.int .i64 0,.slice none 0 0]from rfl,EJ]at h;exact h
 refine zn7 ?_;refine qj (rg [10,11,13] 37 50) (fun m g w'=>∃(k:Nat) (V:Nat->Value),k<=o.length/\m=o.length-k/\g 37= .int .i64 k/\Bel w w'/\Blk w' b2 28 #[.slice G gr.length cg]/\Blk w' b4 28 #[.slice none 0 0]/\Blk w' b5 68 #[.slice (some ⟨bm,0,none⟩) gr.length gr.length]/\Blk w' b7 68 #[.slice AO o.length bv]/\Blk w' bm 3 (row gr.length (fun x=> .int .i64 (o8 o x)))/\Blk w' b9 28 #[.slice (some ⟨bo,0,none⟩) o.length o.length]/\Own w' base 3 1 AO o.length bv (oV o)/\Blk w' bo 93 (kX o.length (fun x=>if x<k then .int .i64 (nd gr (o.getD x 0)).ty else .int .i64 0) (fun x=>if x<k then V x else .slice none 0 0))/\(∀ x,x<k->RowO w' w.heap.size w'.heap.size (V x) ((nd gr (o.getD x 0)).ln.map (Mw o)))/\Dis V k) (o.length) ?_ (fun m g13 ce hI=>?_)
 ·refine⟨0,fun _=> .slice none 0 0,ag _,rfl,rfl,hB,a9,a8,a5,bb,a2,bd,b1,?_,fun x hx=>by omega,fun x y hx=>by omega⟩;rw[Q4 (f':=fun _=> .int .i64 0) (h':=fun _=> .slice none 0 0) (fun x _=>by simp) (fun x _=>by simp)];exact a1
 obtain⟨k,V,hkk,hm,h37,hB,a9,a8,a5,bb,a2,bd,b1,a1,a3,c2⟩:=hI;obtain⟨bs,ba⟩:∃ b,b=ce.heap.size:=⟨_,rfl⟩
 rw[<- ba]at a3;have b6:bs<=ce.heap.size:=aC ba;have c4:w.heap.size<=bs:=by rw[ba];exact Bel.size hB
 have lu2:b2<bs:=by rw[ba];exact a9.lt
 have lu4:b4<bs:=by rw[ba];exact a8.lt
 have lu5:b5<bs:=by rw[ba];exact a5.lt
 have lu7:b7<bs:=by rw[ba];exact bb.lt
 have lu17:bm<bs:=by rw[ba];exact a2.lt
 have lu9:b9<bs:=by rw[ba];exact bd.lt
 have lu33:bo<bs:=by rw[ba];exact a1.lt
 have luo:∀ g∈aL AO,g<bs:=fun g hg=>by rw[ba];exact(b1.lt g hg).2
 refine zK 37 _ h37 nu (zn6 ?_);refine zV rfl (fun c38=>?_) (fun c38=>?_)
 ·have bu:k<o.length:=by omega
  obtain⟨i,cp,ad⟩:∃ i:Nat,o[k]'bu=i/\i<gr.length:=⟨_,rfl,co.lt _ (ar bu)⟩
  have hgd:o.getD k 0=i:=by simp[List.getD,bu,cp]
  have hnd:=yV ad
  obtain⟨q,rfl,hqb,hql,hqc⟩:=b1.cell (by
    intro h0;have:=congrArg List.length h0;simp[oV]at this;rw[this]at bu
    simp at bu)
  have hz:ce.cell? ⟨q,0+k*1,none⟩=some (.int .i64 (i:Int)):=by
    have:=hqc k (.int .i64 (i:Int)) (by simp[oV,bu,cp])
    simpa using this
  obtain⟨nb,no,LA,lc,rfl,hnb,hnr,hln⟩:=hG.at_ (Below.refl _ _:Bel w w) ad;have hmx:=hln.1;unfold jx at hmx;have hfw:=hk.few i ad;refine zn8 ?_;refine wl (qW (v:= .int _ _) U3 rfl rfl hz) (zn5 ?_);refine KW 11 kR kR (fun w16 cc=>?_);replace a3:=fun x hx=>(a3 x hx).tr cc (by simp)
  replace b6:=nLT b6 (Same.size cc);refine zn6 ?_;refine ws (xX (i:=i) U26 JW rfl rfl ad rfl) (zn1 ?_);refine ws (qW (v:= .int _ _) U3 rfl rfl (hB.u.cell hnb (hnr 0 _ rfl))) (zn2 ?_);refine Kk ?_;replace a1:=a1.tr0 cc;refine xZ (v:= .int _ _) a1 rfl rfl xx (by rw[gz];show 0+k*2+0<o.length*2;omega) rfl EQ (fun w17 hq cj=>?_);replace b1:=b1.tr0 cc;replace b1:=b1.tr1 cj (neL b3);replace a3:=fun x hx=>(a3 x hx).tr cj (fun g hg=>by rw[List.mem_singleton.1 hg];first|exact .inr ⟨_,_,a1,by decide⟩|exact .inl oG)
  replace b6:=nLT b6 (Same.size cj);replace a1:=hq
  rw[Q4 (f':=(fun x=>if x<k+1 then .int .i64 (nd gr (o.getD x 0)).ty else .int .i64 0)) (h':=fun x=>if x=k then .slice none 0 0 else if x<k then V x else .slice none 0 0) (fun x _=>by
    by_cases e:x=k
    · subst e;simp[List.getD,bu,cp,hnd]
    · have e1:(x<k+1)↔(x<k):=by omega
      simp[e,e1]) (fun x _=>by
    by_cases e:x=k
    · subst e;simp
    · simp[e])]at a1
  refine zn7 ?_;refine wl (xX (i:=i) U26 JW rfl rfl ad rfl) (zn1 ?_);refine wl (qW (v:= .slice _ _ _) U91 rfl rfl (hB.u.cell hnb (hnr 1 _ rfl))) (zn5 ?_);refine qj (rg [13] 60 26) (fun m g w'=>∃(j:Nat) (A5:Option Addr) (bf:Nat),j<=(gr[i]'ad).ln.length/\m=(gr[i]'ad).ln.length-j/\g 60= .int .i64 j/\Bel w w'/\Blk w' b2 28 #[.slice (some ⟨nb,no,none⟩) gr.length cg]/\Blk w' b4 28 #[.slice none 0 0]/\Blk w' b5 68 #[.slice (some ⟨bm,0,none⟩) gr.length gr.length]/\Blk w' b7 68 #[.slice (some ⟨q,0,none⟩) o.length bv]/\Blk w' bm 3 (row gr.length (fun x=> .int .i64 (o8 o x)))/\Blk w' b9 28 #[.slice (some ⟨bo,0,none⟩) o.length o.length]/\Own w' base 3 1 (some ⟨q,0,none⟩) o.length bv (oV o)/\Blk w' bo 93 (kX o.length (fun x=>if x<k+1 then .int .i64 (nd gr (o.getD x 0)).ty else .int .i64 0) (fun x=>if x=k then .slice A5 j bf else if x<k then V x else .slice none 0 0))/\(∀ x,x<k->RowO w' w.heap.size bs (V x) ((nd gr (o.getD x 0)).ln.map (Mw o)))/\bs<=w'.heap.size/\Own w' bs 90 2 A5 j bf (lnV (((gr[i]'ad).ln.take j).map (Mw o)))) ((gr[i]'ad).ln.length) ?_ (fun m g17 w18 hI=>?_)
  ·exact⟨0,none,0,ag _,rfl,rfl,hB.u,a9.u,a8.u,a5.u,bb.u,a2.u,bd.u,b1,a1,a3,b6,Own.nil _ _ _ _⟩
  obtain⟨j,A5,bf,hj,hmj,h60,hB,a9,a8,a5,bb,a2,bd,b1,a1,a3,b6,a7⟩:=hI;refine zK 60 _ h60 nu (zn6 ?_);refine zV rfl (fun c61=>?_) (fun c61=>?_)
  ·have br:j<(gr[i]'ad).ln.length:=by omega
   obtain⟨lb,lof,rfl,hlb,hlr⟩:=hln.at_ hB br;obtain⟨t,ht,htl⟩:∃ t:Nat,((gr[i]'ad).ln[j]'br).2=(t:Int)/\t<gr.length:=by
     have h1:=hk.ln i ad _ (ar br);exact⟨(((gr[i]'ad).ln[j]'br).2).toNat,by omega,by omega⟩
   refine zn7 ?_;refine wl (qZ U90 rfl rfl hlr Yj) ?_;refine qk (cs:=#[.int .i64 0,.int .i64 0]) OK rfl (fun b13 w19 bc bh hr=>?_);have:=nLL a9.lt hr;have:=nLL a8.lt hr;have:=nLL a2.lt hr;have:=nLL a5.lt hr;have:=nLL bb.lt hr;have:=nLL a1.lt hr;have:=nLL bd.lt hr;have c0:=(nLT b6 hr)
   have bi:=fun g hg=>nLL (b1.lt g hg).2 hr
   have a6:=fun g hg=>nLL (a7.lt g hg).2 hr
   have cn:=nLT (Bel.size hB) hr;replace a3:=fun x hx=>(a3 x hx).tr bh (by simp)
   replace b6:=nLT b6 (Same.size bh);clear hr;refine zk bc rfl rfl Yj rfl zJ (fun w20 hq bg=>?_);replace a3:=fun x hx=>(a3 x hx).tr bg (fun g hg=>by rw[List.mem_singleton.1 hg];first|exact .inr ⟨_,_,bc,by decide⟩|exact .inl oG)
   replace b6:=nLT b6 (Same.size bg);replace b1:=b1.tr0 bh;replace b1:=b1.tr1 bg (neL bi);replace a7:=a7.tr0 bh;replace a7:=a7.tr1 bg (neL a6);replace bc:=hq;refine zQ (e_S ?_);rw[ht]at bc;have zo:=fun g hg=>(a7.lt g hg).2
   have c5:(kX o.length (fun x=>if x<k+1 then .int .i64 (nd gr (o.getD x 0)).ty else .int .i64 0) (fun x=>if x=k then .slice A5 j bf else if x<k then V x else .slice none 0 0))[0+k*2+1]? =some (.slice A5 j bf):=by rw[I8 bu];simp
   replace hB:=(hB.tr0 bh).tr1 bg cn;have hsz:=Bel.size hB;refine V8 21 (rg [] 64 21) (aL A5) 18 (fun ix v wv=>match ix with|0=>v= .pointer (some ⟨b9,0,none⟩)|1=>v= .slice (some ⟨bo,0,none⟩) o.length o.length|2=>v= .int .i64 k|3=>v= .pointer (some ⟨b9,0,none⟩)|4=>v= .slice (some ⟨bo,0,none⟩) o.length o.length|5=>v= .int .i64 k|6=>v= .pointer (some ⟨bo,0+k*2,none⟩)|7=>v= .pointer (some ⟨bo,0+k*2+1,none⟩)|8=>v= .slice A5 j bf|9=>v= .pointer (some ⟨b13,0,none⟩)|10=>v= .int .i64 ((gr[i]'ad).ln[j]'br).1|11=>v= .slice (some ⟨bm,0,none⟩) gr.length gr.length|12=>v= .pointer (some ⟨b13,1,none⟩)|13=>v= .int .i64 (t:Nat)|14=>v= .pointer (some ⟨bm,0+t*1,none⟩)|15=>v= .int .i64 (o8 o t)|16=>v= .agg #[.int .i64 ((gr[i]'ad).ln[j]'br).1,.int .i64 (o8 o t)]|17=>∃ b,v= .slice (some ⟨b,0,none⟩) 1 1/\w20.heap.size<=b/\Blk wv b 90 #[.int .i64 ((gr[i]'ad).ln[j]'br).1,.int .i64 (o8 o t)]|18=>∃ g cap,v= .slice (some ⟨g,0,none⟩) (j+1) cap/\Own wv bs 90 2 (some ⟨g,0,none⟩) (j+1) cap (lnV (((gr[i]'ad).ln.take j).map (Mw o))++[.int .i64 ((gr[i]'ad).ln[j]'br).1,.int .i64 (o8 o t)])|19=>v= .pointer (some ⟨bo,0+k*2,none⟩)|20=>v= .pointer (some ⟨bo,0+k*2+1,none⟩)|_=>True) (fun _=>True) kR kR ?_ (fun _ _ _ _=>trivial) ?_ ?_ dE ?_
   ·intro ix v wv wv2 h s16
    match ix,h with
    | 0,h=>exact h
    | 1,h=>exact h
    | 2,h=>exact h
    | 3,h=>exact h
    | 4,h=>exact h
    | 5,h=>exact h
    | 6,h=>exact h
    | 7,h=>exact h
    | 8,h=>exact h
    | 9,h=>exact h
    | 10,h=>exact h
    | 11,h=>exact h
    | 12,h=>exact h
    | 13,h=>exact h
    | 14,h=>exact h
    | 15,h=>exact h
    | 16,h=>exact h
    | 17,h=>
     obtain⟨c9,c8,bt,bk⟩:=h;exact⟨c9,c8,bt,bk.tr0 s16⟩
    | 18,h=>
     obtain⟨c7,be,cv,bj⟩:=h;exact⟨c7,be,cv,bj.tr0 s16⟩
    | 19,h=>exact h
    | 20,h=>exact h
    | _+21,h=>exact trivial
   ·intro ix o cr c1 a4 gg wx bw hd;replace bd:=(bd.tr0 bh).tr1 bg oG
    match ix,cr,c1,a4 with
    | 0,_,_,a4=>
     cases sI a4;refine qQ (uK U28 sz26 dE rfl rfl rfl) ⟨Same.refl _ _,?_⟩;exact rfl
    | 1,_,_,a4=>
     cases sI a4;replace bd:=bd.ta bw a7;refine aW 64 (hd 0 aX) ?_;refine qQ (qW (v:= .slice _ _ _) U26 rfl rfl (bd.cell rfl)) ⟨Same.refl _ _,?_⟩;exact rfl
    | 2,_,_,a4=>
     cases sI a4;refine qQ (xz (v:= .int _ _) rfl) ⟨Same.refl _ _,?_⟩;exact rfl
    | 3,_,_,a4=>
     cases sI a4;refine qQ (uK U28 sz26 dE rfl rfl rfl) ⟨Same.refl _ _,?_⟩;exact rfl
    | 4,_,_,a4=>
     cases sI a4;replace bd:=bd.ta bw a7;refine aW 67 (hd 3 aX) ?_;refine qQ (qW (v:= .slice _ _ _) U26 rfl rfl (bd.cell rfl)) ⟨Same.refl _ _,?_⟩;exact rfl
    | 5,_,_,a4=>
     cases sI a4;refine qQ (xz (v:= .int _ _) rfl) ⟨Same.refl _ _,?_⟩;exact rfl
    | 6,_,_,a4=>
     cases sI a4;refine aW 68 (hd 4 aX) (aW 69 (hd 5 aX) ?_);refine qQ (xX (i:=k) U26 JW rfl rfl oG rfl) ⟨Same.refl _ _,?_⟩;exact rfl
    | 7,_,_,a4=>
     cases sI a4;refine aW 70 (hd 6 aX) ?_;refine qQ (uK U93 sz91 dE rfl rfl rfl) ⟨Same.refl _ _,?_⟩;exact rfl
    | 8,_,_,a4=>
     cases sI a4;replace a1:=(a1.tr0 bh).tr1 bg oG;replace a1:=a1.ta bw a7;refine aW 71 (hd 7 aX) ?_;refine qQ (qW (v:= .slice _ _ _) U91 rfl rfl (a1.cell c5)) ⟨Same.refl _ _,?_⟩;exact rfl
    | 9,_,_,a4=>
     cases sI a4;refine qQ (uK U90 xx dE rfl rfl rfl) ⟨Same.refl _ _,?_⟩;exact rfl
    | 10,_,_,a4=>
     cases sI a4;replace bc:=bc.tb bw (neL a6);refine aW 73 (hd 9 aX) ?_;refine qQ (qW (v:= .int _ _) U3 rfl rfl (bc.cell rfl)) ⟨Same.refl _ _,?_⟩;exact rfl
    | 11,_,_,a4=>
     cases sI a4;replace a5:=(a5.tr0 bh).tr1 bg oG;replace a5:=a5.ta bw a7;refine qQ (qW (v:= .slice _ _ _) U68 rfl rfl (a5.cell rfl)) ⟨Same.refl _ _,?_⟩;exact rfl
    | 12,_,_,a4=>
     cases sI a4;refine qQ (uK U90 xx dE rfl rfl rfl) ⟨Same.refl _ _,?_⟩;exact rfl
    | 13,_,_,a4=>
     cases sI a4;replace bc:=bc.tb bw (neL a6);refine aW 76 (hd 12 aX) ?_;refine qQ (qW (v:= .int _ _) U3 rfl rfl (bc.cell rfl)) ⟨Same.refl _ _,?_⟩;exact rfl
    | 14,_,_,a4=>
     cases sI a4;refine aW 75 (hd 11 aX) (aW 77 (hd 13 aX) ?_);refine qQ (xX (i:=t) U68 xx rfl rfl htl rfl) ⟨Same.refl _ _,?_⟩;exact rfl
    | 15,_,_,a4=>
     cases sI a4;replace a2:=(a2.tr0 bh).tr1 bg oG;replace a2:=a2.ta bw a7;refine aW 78 (hd 14 aX) ?_;refine qQ (qW (v:= .int _ _) U3 rfl rfl (a2.cell (jJ htl))) ⟨Same.refl _ _,?_⟩;exact rfl
    | 16,_,_,a4=>
     cases sI a4;refine aW 74 (hd 10 aX) (aW 79 (hd 15 aX) ?_);refine qQ (jk (v0:= .int _ _) (v1:= .int _ _) (fun v0 v1=>#[v0,v1]) rfl rfl kR) ⟨Same.refl _ _,?_⟩;exact rfl
    | 17,_,_,a4=>
     cases sI a4;have hs0:=bw;refine aW 80 (hd 16 aX) ?_;refine jZ (fun ops Q K=>?_);refine qv (cs:=#[_,_]) [(0,.agg _)] rfl U91 Yj OK dE dE kR rfl (fun c9 w21 bk s18 hr=>?_);exact K _ _ ⟨s18,⟨_,rfl,nLT hs0.size hr,bk⟩⟩
    | 18,_,c1,_=>exact absurd rfl c1
    | 19,_,_,a4=>
     cases sI a4;refine aW 65 (hd 1 aX) (aW 66 (hd 2 aX) ?_);refine qQ (xX (i:=k) U26 JW rfl rfl oG rfl) ⟨Same.refl _ _,?_⟩;exact rfl
    | 20,_,_,a4=>
     cases sI a4;refine aW 83 (hd 19 aX) ?_;refine qQ (uK U93 sz91 dE rfl rfl rfl) ⟨Same.refl _ _,?_⟩;exact rfl
    | _+21,cr,_,_=>exact absurd cr oG
   ·intro o a4 gg wx cf hd;cases sI a4;replace a3:=fun x hx=>(a3 x hx).tr cf (by simp)
    replace b6:=nLT b6 (Same.size cf);obtain⟨c9,c8,bt,bk⟩:=hd 17 (zj kR);refine aW 72 (hd 8 aX) (zz 81 _ c8 nu ?_);refine jZ (fun ops Q K=>?_);replace a7:=a7.tr0 cf;refine jv U91 in90 rfl dE a7 bk rfl rfl rfl zJ dE oG oG b6 (fun c7 be w2 bj hs2 hg82=>?_);refine K _ _ ⟨hs2,⟨_,_,rfl,bj⟩,trivial,fun kx v c1 h=>?_⟩
    match kx,c1,h with
    | 0,_,h=>exact h
    | 1,_,h=>exact h
    | 2,_,h=>exact h
    | 3,_,h=>exact h
    | 4,_,h=>exact h
    | 5,_,h=>exact h
    | 6,_,h=>exact h
    | 7,_,h=>exact h
    | 8,_,h=>exact h
    | 9,_,h=>exact h
    | 10,_,h=>exact h
    | 11,_,h=>exact h
    | 12,_,h=>exact h
    | 13,_,h=>exact h
    | 14,_,h=>exact h
    | 15,_,h=>exact h
    | 16,_,h=>exact h
    | 17,_,h=>
     obtain⟨c9,c8,bt,bk⟩:=h;exact⟨c9,c8,bt,bk.tr hs2 (fun hx=>by have:=zo _ hx;omega)⟩
    | 18,c1,_=>exact absurd rfl c1
    | 19,_,h=>exact h
    | 20,_,h=>exact h
    | _+21,_,_=>exact trivial
   intro gg w22 bq _ hR;replace hB:=hB.tr bq (fun g hg=>nLT c4 (a7.lt g hg).1);replace a9:=(a9.tr0 bh).tr1 bg oG;replace a9:=a9.ta bq a7;replace a8:=(a8.tr0 bh).tr1 bg oG;replace a8:=a8.ta bq a7;replace a2:=(a2.tr0 bh).tr1 bg oG;replace a2:=a2.ta bq a7;replace a5:=(a5.tr0 bh).tr1 bg oG;replace a5:=a5.ta bq a7;replace bb:=(bb.tr0 bh).tr1 bg oG;replace bb:=bb.ta bq a7;replace a1:=(a1.tr0 bh).tr1 bg oG;replace a1:=a1.ta bq a7;replace bd:=(bd.tr0 bh).tr1 bg oG;replace bd:=bd.ta bq a7;replace a3:=fun x hx=>(a3 x hx).tr bq (fun g hg=> .inl ((a7).lt g hg).1)
   replace b6:=nLT b6 (Same.size bq);replace b1:=b1.tr bq (fun g hg hx=>by have:=(a7.lt _ hx).1;(try have:=luo g hg);omega);obtain⟨c7,be,cv,bj⟩:=hR 18 dE;replace bj:Own w22 bs 90 2 (some ⟨c7,0,none⟩) (j+1) be (lnV (((gr[i]'ad).ln.take (j+1)).map (Mw o))):=by
     rw[List.take_succ_eq_append_getElem br,List.map_append,List.map_cons,List.map_nil,<- WQ];have e:Mw o ((gr[i]'ad).ln[j]'br)=(((gr[i]'ad).ln[j]'br).1,o8 o t):=by simp[Mw,ht]
     rw[e];exact bj
   have a7:=bj;refine x9 82 _ cv nu (x9 84 _ (hR 20 dE) nu ?_);refine xZ (v:= .slice _ _ _) a1 rfl rfl sz91 (by rw[gz];show 0+k*2+1<o.length*2;omega) rfl EZ (fun w23 hq cb=>?_);replace a3:=fun x hx=>(a3 x hx).tr cb (fun g hg=>by rw[List.mem_singleton.1 hg];first|exact .inr ⟨_,_,a1,by decide⟩|exact .inl oG)
   replace b6:=nLT b6 (Same.size cb);replace b1:=b1.tr1 cb (neL b3);replace a7:=a7.tq cb;replace a1:=hq
   rw[Q4 (f':=(fun x=>if x<k+1 then .int .i64 (nd gr (o.getD x 0)).ty else .int .i64 0)) (h':=fun x=>if x=k then .slice (some ⟨c7,0,none⟩) (j+1) be else if x<k then V x else .slice none 0 0) (fun x _=>rfl) (fun x _=>by
     by_cases e:x=k
     · subst e;simp
     · simp[e])]at a1
   refine zn7 ?_;refine xK ((gr[i]'ad).ln.length-(j+1)) oG agA ?_;exact⟨j+1,_,_,by omega,rfl,rfl,hB.u,a9.u,a8.u,a5.u,bb.u,a2.u,bd.u,b1,a1,a3,b6,a7⟩
  have hjx:j=(gr[i]'ad).ln.length:=by omega
  subst hjx;refine vy ?_;refine xK (o.length-(k+1)) oG agA ?_;refine⟨k+1,fun x=>if x=k then .slice A5 (gr[i]'ad).ln.length bf else V x,by omega,rfl,rfl,hB,a9,a8,a5,bb,a2,bd,b1,?_,fun x hx=>?_,c2.snoc a3 (fun g hg=>(a7.lt g hg).1)⟩
  · rw[Q4 (f':=(fun x=>if x<k+1 then .int .i64 (nd gr (o.getD x 0)).ty else .int .i64 0)) (h':=(fun x=>if x<k+1 then (if x=k then .slice A5 (gr[i]'ad).ln.length bf else V x)else .slice none 0 0)) (fun x _=>rfl) (fun x _=>by
      by_cases e:x=k
      · subst e;simp
      · have e1:(x<k+1)↔(x<k):=by omega
        simp[e,e1])]at a1
    exact a1
  · by_cases e:x=k
    · subst e
      simp only[if_true]
      have h:=RowO.of (lo:=w.heap.size) (xs:=(gr[i]'ad).ln.map (Mw o)) c4 (by
        rw[List.take_length]at a7
        rw[List.length_map];exact a7)
      rw[List.length_map]at h;rw[hgd,hnd];exact h
    · simp only[if_neg e]
      exact(a3 x oG).up b6
 have cq:k=o.length:=by omega
 rw[cq]at a1 a3 c2;refine zn8 ?_;refine zk a8 rfl rfl M8 rfl zJ (fun w24 hq ca=>?_);replace a3:=fun x hx=>(a3 x hx).tr ca (fun g hg=>by rw[List.mem_singleton.1 hg];first|exact .inr ⟨_,_,a8,by decide⟩|exact .inl oG)
 replace b6:=nLT b6 (Same.size ca);replace a8:=hq;refine zn3 ?_;refine yx (.inl rfl) rfl (zZ U28 rfl rfl a8.range0 M8) ?_;have hcl:(yQ gr o).length=o.length:=by simp[yQ]
 replace hB:=hB.tr1 ca lo4;replace a1:=a1.tr1 ca oG;refine⟨⟨o,_,hD,co,rfl,GrD.mk (own_row2 a1 cm oG) hcl (ae _) (fun x hx=>?_) (fun g hg=>?_) b6 (fun x hx=>?_) (c2.congr (fun x hx=>by simp[hx]))⟩,hB⟩
 · rw[nd_canG hx];simp[hx]
 · rw[List.mem_singleton.1 hg];exact a1.lt
 · rw[nd_canG hx]
   have h:=a3 x hx
   simpa[hx]using h
theorem from3_any(G:Option Addr)(cg nf:Nat)(gr:List Nd)(r:Nat)(w:World)(hG:NodesIn w G gr)(hk:B4 nf gr)(hnf:nf<=1000)(hr:r<gr.length):Calls prog 95 #[.agg #[.slice G gr.length cg],.int .i64 r] w fun e w'=>(∃ o A,DL gr [r] [] o/\OOk gr.length o/\e= .returned (.agg #[.slice A o.length o.length])/\GrT w' w.heap.size w'.heap.size A o.length (yQ gr o) (fun x=>(nd (yQ gr o) x).ty))/\Bel w w':=(from4_any G cg nf gr r w hG hk hnf hr).mono fun e w' h=>by
 obtain⟨⟨o,A,h1,h2,h3,h4⟩,hs⟩:=h
 exact⟨⟨o,A,h1,h2,h3,h4.grt⟩,hs⟩
theorem Sq(G:Option Addr)(cg nf:Nat)(gr:List Nd)(r:Nat)(w:World)(hG:NodesIn w G gr)(hk:B4 nf gr)(hnf:nf<=1000)(hr:r<gr.length):Calls prog 95 #[.agg #[.slice G gr.length cg],.int .i64 r] w fun e w'=>(∃ o A,DL gr [r] [] o/\OOk gr.length o/\e= .returned (.agg #[.slice A o.length o.length])/\(∀ w2,FrSame w.heap.size w' w2->NodesIn w2 A (yQ gr o)))/\Bel w w':=(from3_any G cg nf gr r w hG hk hnf hr).mono fun e w' h=>by
 obtain⟨⟨o,A,h1,h2,h3,h4⟩,hs⟩:=h
 exact⟨⟨o,A,h1,h2,h3,fun w2 hf=>by have:=(h4.fr hf).nodes;rwa[rtG_self]at this⟩,hs⟩
theorem from_any(G:Option Addr)(cg nt nf:Nat)(gr:List Nd)(r:Nat)(w:World)(hG:NodesIn w G gr)(hk:GOk nt nf gr)(hnf:nf<=1000)(hr:r<gr.length):Calls prog 95 #[.agg #[.slice G gr.length cg],.int .i64 r] w fun e w'=>(∃ o A,DL gr [r] [] o/\OOk gr.length o/\e= .returned (.agg #[.slice A o.length o.length])/\(∀ w2,FrSame w.heap.size w' w2->NodesIn w2 A (yQ gr o)))/\Bel w w':=Sq G cg nf gr r w hG hk.two hnf hr
structure GV(l:List Ty)(fs:List Ft)(g:List Nd):Prop where
 h:(zY l fs).1=0
 s:Cz l
 few:fs.length<=40
 f:FOk l.length fs
 gok:GOk l.length fs.length g
 t:tyF l fs g=(0,0)
 u:¬0<=JX g
 lo:(vJ l.length fs.length g).1=0
theorem H5{l:List Ty}{fs:List Ft}{g:List Nd}(h:(yJ l fs g).1=0):GV l fs g:=by
 by_cases h0:(zY l fs).1=0
 ·rw[KV h0]at h
  by_cases h1:(vJ l.length fs.length g).1=0
  ·by_cases h2:(tyF l fs g).1=0
   ·have h2':tyF l fs g=(0,0):=Sk h2
    by_cases h3:0<=JX g
    ·rw[L1 h1 h2' h3]at h;cases h
    ·refine⟨h0,Qy h0,?_,O5 h0,R6 h1,h2',h3,h1⟩
     unfold zY at h0;by_cases h4:40<fs.length
     ·rw[if_pos h4]at h0;cases h0
     ·omega
   ·unfold x7 at h
    rw[if_neg (fun e=>e h1),if_pos h2]at h;exact absurd h h2
  ·rw[MQ h1]at h;exact absurd h h1
 ·rw[gf_hier h0]at h;exact absurd h h0
theorem DL.sub{g:List Nd}{is a b:List Nat}(h:DL g is a b):∀ x∈a,x∈b:=by
 induction h with
 | nil=>exact fun x h=>h
 | old h t ih=>exact ih
 | new h s t ihs iht=>exact fun x hx=>iht x (ihs x (List.mem_append_left _ hx))
theorem DL.has{g:List Nd}{is a b:List Nat}(h:DL g is a b):∀ i∈is,i∈b:=by
 induction h with
 | nil=>exact fun i h=>by cases h
 | old h t ih=>
  intro i hi;rcases ap.1 hi with rfl|hi
  ·exact t.sub _ h
  ·exact ih i hi
 | new h s t ihs iht=>
  intro i hi;rcases ap.1 hi with rfl|hi
  ·exact t.sub _ (s.sub _ (by simp))
  ·exact iht i hi
theorem DL.clo{g:List Nd}{is a b:List Nat}(h:DL g is a b):∀ x∈b,¬x∈a->∀ t∈vZ g x,t∈b:=by
 induction h with
 | nil=>exact fun x h1 h2=>absurd h1 h2
 | old h t ih=>exact ih
 | new h s t ihs iht=>
  rename_i i is o o1 o'
  intro x hx hn y hy;by_cases h1:x∈o1
  ·by_cases h2:x=i
   ·subst h2;exact t.sub _ (s.has y hy)
   ·exact t.sub _ (ihs x h1 (fun h3=>by
     rcases az.1 h3 with h3|h3
     ·exact hn h3
     ·exact h2 (aj.1 h3)) y hy)
  ·exact iht x hx h1 y hy
theorem DL.nodup{g:List Nd}{is a b:List Nat}(h:DL g is a b):a.Nodup->b.Nodup:=by
 induction h with
 | nil=>exact fun h=>h
 | old h t ih=>exact ih
 | new h s t ihs iht=>
  intro hd;refine iht (ihs (List.nodup_append.2 ⟨hd,by simp,fun x hx y hy=>?_⟩));rw[List.mem_singleton.1 hy];exact fun e=>h (e ▸ hx)
theorem DL.rch{g:List Nd}(hr:∀ i,i<g.length->∀ t∈vZ g i,t<g.length){is a b:List Nat}(h:DL g is a b):(∀ i∈is,i<g.length)->(∀ i∈is,Rch g i)->(∀ x∈a,Rch g x)->∀ x∈b,Rch g x:=by
 induction h with
 | nil=>exact fun _ _ h=>h
 | old h t ih=>exact fun hi hR ha=>ih (fun i h=>hi i (aq _ h)) (fun i h=>hR i (aq _ h)) ha
 | new h s t ihs iht=>
  rename_i i is o o1 o'
  intro hi hR ha;have a1:=hi i (aw ..);have hRi:=hR i (aw ..);refine iht (fun i h=>hi i (aq _ h)) (fun i h=>hR i (aq _ h)) (ihs (hr i a1) (fun t ht=>?_) (fun x hx=>?_))
  ·simp only[vZ,yV a1,List.mem_map]at ht
   obtain⟨y,hy,rfl⟩:=ht;exact .step hRi a1 hy
  ·rcases az.1 hx with hx|hx
   ·exact ha x hx
   ·rw[List.mem_singleton.1 hx];exact hRi
structure Tr(g:List Nd)(o:List Nat):Prop where
 dl:DL g [0] [] o
 ok:OOk g.length o
 nd:o.Nodup
 pos:0<o.length
 zero:o.idxOf 0=0
 clo:∀ x∈o,∀ t∈vZ g x,t∈o
theorem E1{o:List Nat}(hn:o.Nodup){k:Nat}(hk:k<o.length):o.idxOf o[k]=k:=by
 have h1:o.idxOf o[k]<o.length:=List.idxOf_lt_length_of_mem (ar hk);have h2:o[o.idxOf o[k]]=o[k]:=List.getElem_idxOf h1;exact(List.getElem_inj hn).1 h2
theorem u6{o:List Nat}{x:Nat}(hx:x∈o):∃ h:o.idxOf x<o.length,o[o.idxOf x]=x:=⟨List.idxOf_lt_length_of_mem hx,List.getElem_idxOf _⟩
theorem Pq{o:List Nat}{x:Nat}(hx:x∈o):o8 o x=(o.idxOf x:Nat):=by simp[o8,hx]
theorem oQ(g:List Nd)(o:List Nat):(yQ g o).length=o.length:=by simp[yQ]
theorem E5{g:List Nd}{o:List Nat}{x:Nat}(hx:x∈o):nd (yQ g o) (o.idxOf x)=CV g o x:=by
 obtain⟨h1,h2⟩:=u6 hx;rw[yV (by rw[oQ];exact h1)];simp[yQ,h2]
theorem Sy{g:List Nd}{o:List Nat}(h:∀ x∈o,∀ t∈vZ g x,t∈o){x:Nat}(hx:x∈o):vZ (yQ g o) (o.idxOf x)=(vZ g x).map (o.idxOf ·):=by
 unfold vZ;rw[E5 hx];simp only[CV,List.map_map];refine aI (fun y hy=>?_);have:y.2.toNat∈o:=h x hx _ (by simp only[vZ,List.mem_map];exact⟨y,hy,rfl⟩);simp[Mw,Pq this]
theorem DL.map{g:List Nd}{o:List Nat}(hc:∀ x∈o,∀ t∈vZ g x,t∈o){is a b:List Nat}(h:DL g is a b):(∀ x∈b,x∈o)->DL (yQ g o) (is.map (o.idxOf ·)) (a.map (o.idxOf ·)) (b.map (o.idxOf ·)):=by
 have inj:∀ x y,x∈o->y∈o->o.idxOf x=o.idxOf y->x=y:=fun x y hx hy e=>by
  obtain⟨h1,h2⟩:=u6 hx;obtain⟨h3,h4⟩:=u6 hy;rw[<- h2,<- h4];simp only[e]
 induction h with
 | nil=>exact fun _=> .nil
 | old h t ih=>
  intro hb;exact .old (List.mem_map_of_mem h) (ih hb)
 | new h s t ihs iht=>
  rename_i i is o0 o1 o'
  intro hb;have hio:=hb i (t.sub _ (s.sub _ (by simp)));refine .new (fun hm=>?_) ?_ (iht hb)
  ·obtain⟨y,hy,e⟩:=au.1 hm
   have hyo:=hb y (t.sub _ (s.sub _ (List.mem_append_left _ hy)));exact h (inj y i hyo hio e ▸ hy)
  ·have:=ihs (fun x hx=>hb x (t.sub _ hx))
   rw[List.map_append]at this;rw[Sy hc hio];exact this
theorem TK{o:List Nat}(hn:o.Nodup):o.map (o.idxOf ·)=List.range o.length:=by
 apply List.ext_getElem
 ·simp
 ·intro k h1 h2
  simp only[List.getElem_map,List.getElem_range];exact E1 hn (by simpa using h1)
theorem Tr.can{g:List Nd}{o:List Nat}(h:Tr g o):DL (yQ g o) [0] [] (List.range o.length):=by
 have:=h.dl.map h.clo (fun x hx=>hx);rw[TK h.nd]at this
 simpa[h.zero]using this
theorem FrSame.then{B B0:Nat}{w0 w1 w2:World}(h:FrSame B w0 w1)(k:FrSame B0 w1 w2)(hb:B0<=B):FrSame B w0 w2:=
 ⟨nLT h.size k.size,fun i hi hl=>(k.blk i (nLT hb hi) (nLL hl h.size)).trans (h.blk i hi hl)⟩
inductive NdVs(w:World):List Nd->List Value->Prop
 | nil:NdVs w [] []
 | cons {x:Nd} {l:List Nd} {vs:List Value} {A:Option Addr} {c:Nat} (h:LinksIn w A x.ln) (r:NdVs w l vs):NdVs w (x::l) (.int .i64 x.ty:: .slice A x.ln.length c::vs)
theorem NdVs.get{w:World}{l:List Nd}{vs:List Value}(h:NdVs w l vs):∀ k (hk:k<l.length),∃ A c,vs[k*2]? =some (.int .i64 (l[k]).ty)/\vs[k*2+1]? =some (.slice A (l[k]).ln.length c)/\LinksIn w A (l[k]).ln:=by
 induction h with
 | nil=>intro k hk;simp at hk
 | cons h r ih=>
  intro k hk
  match k,hk with
  | 0,_=>exact⟨_,_,rfl,rfl,h⟩
  | k+1,hk=>
   obtain⟨A,c,h1,h2,h3⟩:=ih k (by simpa using hk);refine⟨A,c,?_,?_,h3⟩
   ·rw[show (k+1)*2=k*2+1+1 from by omega];simpa using h1
   ·rw[show (k+1)*2+1=k*2+1+1+1 from by omega];simpa using h2
def tgt(xs:List (Int×Int))(f:Int):Int:=match xs.find? (fun y=>decide (y.1=f))with
 | some y=>y.2
 | none=>-1
theorem tgt_at{f:Int}:∀ {xs:List (Int×Int)} {i:Nat} (hi:i<xs.length),(xs[i]).1=f->(∀ j (hj:j<xs.length),j<i->¬(xs[j]).1=f)->tgt xs f=(xs[i]).2
 | [],_,hi,_,_=>absurd hi (by simp)
 | x::xs,0,_,h,_=>by
  have h1:x.1=f:=h
  unfold tgt
  rw[List.find?_cons,decide_eq_true h1]
  rfl
 | x::xs,i+1,hi,h,hb=>by
  have h0:¬x.1=f:=hb 0 (by simp) oG
  have ih:=tgt_at (xs:=xs) (i:=i) (by simpa using hi) h (fun j hj hji=>hb (j+1) (by simpa using hj) oG)
  unfold tgt at ih ⊢
  rw[List.find?_cons,decide_eq_false h0]
  exact ih
theorem tgt_no{f:Int}:∀ {xs:List (Int×Int)},(∀ j (hj:j<xs.length),¬(xs[j]).1=f)->tgt xs f= -1
 | [],_=>rfl
 | x::xs,h=>by
  have h0:¬x.1=f:=h 0 (by simp)
  have ih:=tgt_no (xs:=xs) (f:=f) (fun j hj=>h (j+1) (by simpa using hj))
  unfold tgt at ih ⊢
  rw[List.find?_cons,decide_eq_false h0]
  exact ih
theorem Ix{nf n:Nat}:∀ {xs:List (Int×Int)} {a1:Int},yw nf n a1 xs=0->(∀ j (hj:j<xs.length),a1<(xs[j]).1)/\∀ i j (hi:i<xs.length) (hj:j<xs.length),i<j->(xs[i]).1<(xs[j]).1
 | [],_,_=>⟨fun j hj=>absurd hj (by simp),fun i j hi=>absurd hi (by simp)⟩
 | y::ys,a1,h=>by
  unfold yw at h
  by_cases h1:uX nf n y
  ·rw[if_pos h1]at h;cases h
  rw[if_neg h1]at h
  by_cases h2:y.1<=a1
  ·rw[if_pos h2]at h;cases h
  rw[if_neg h2]at h
  obtain⟨ih1,ih2⟩:=Ix h
  refine⟨fun j hj=>?_,fun i j hi hj hij=>?_⟩
  ·match j,hj with
   | 0,_=>show a1<y.1;omega
   | j+1,hj=>
    have:=ih1 j (by simpa using hj)
    show a1<(ys[j]'(by simpa using hj)).1
    omega
  ·match i,j,hi,hj,hij with
   | 0,j+1,_,hj,_=>exact ih1 j (by simpa using hj)
   | i+1,j+1,hi,hj,hij=>exact ih2 i j (by simpa using hi) (by simpa using hj) oG
theorem tgt_bs{nf n:Nat}{xs:List (Int×Int)}{a1 f:Int}{i:Nat}(hs:yw nf n a1 xs=0)(hlo:∀ j (hj:j<xs.length),j<i->(xs[j]).1<f)(hhi:∀ j (hj:j<xs.length),i<=j->f<=(xs[j]).1):
  (∀ h:i<xs.length,(xs[i]).1=f->tgt xs f=(xs[i]).2)/\((¬∃ h:i<xs.length,(xs[i]).1=f)->tgt xs f= -1):=by
 refine⟨fun h e=>tgt_at h e (fun j hj hji=>by have:=hlo j hj hji;omega),fun hn=>tgt_no (fun j hj e=>?_)⟩;by_cases h1:j<i
 ·have:=hlo j hj h1;omega
 ·by_cases h2:j=i
  ·subst h2;exact hn ⟨hj,e⟩
  ·have h3:=(Ix hs).2 i j oG hj oG
   have h4:=hhi i oG (ae _);omega
theorem T1{xs:List (Int×Int)}{f:Int}:tgt xs f= -1\/∃ y∈xs,y.1=f/\tgt xs f=y.2:=by
 unfold tgt;cases h:xs.find? (fun y=>decide (y.1=f))with
 | none=>exact .inl rfl
 | some y=>exact .inr ⟨y,List.mem_of_find?_eq_some h,by simpa using List.find?_some h,rfl⟩
theorem tgt_rng{nt nf:Nat}{g:List Nd}(hk:GOk nt nf g){i:Nat}(hi:i<g.length)(f:Int):-1<=tgt (g[i]).ln f/\tgt (g[i]).ln f<g.length:=by
 rcases T1 (xs:=(g[i]).ln) (f:=f)with h|⟨y,hy,_,h⟩
 ·rw[h];omega
 ·have:=hk.ln i hi y hy
  rw[h];omega
def walkT(g:List Nd):List Int->Int->Int
 | [],a=>a
 | f::p,a=>if a<0 then a else walkT g p (tgt (nd g a.toNat).ln f)
def pF(nf:Nat)(p:List Int)(i:Nat):Int:=match p[i]? with
 | none=>0
 | some x=>if x<0\/(nf:Int)<=x then 3 else 0
noncomputable def atF(l:List Ty)(fs:List Ft)(g:List Nd)(p:List Int):Fl:=if ¬(yJ l fs g).1=0 then yJ l fs g else if 300<p.length then (2,-3)else vk (pF fs.length p) 0 p.length
def AtOk(l:List Ty)(fs:List Ft)(g:List Nd)(p:List Int):Prop:=(atF l fs g p).1=0/\0<=walkT g p 0
noncomputable instance(l:List Ty)(fs:List Ft)(g:List Nd)(p:List Int):Decidable (AtOk l fs g p):=Classical.propDecidable _
section
section six
variable {P:Program} {Q:Exit->Act->World->Prop} {n:Nw} {f:Fr} {w:World} {ops:Array Oper} {rest:List Oper} {d:Tmp} {ty t e:TypeId} {pos:String} {af:Array Edge} {x y:Operand} {v:Value}
theorem r_ext{F:FuncId}{xs:Array Operand}{ats:Array TypeId}{args:List Value}{dst:Option Nat}{gd:Option (Nat×Bool)}(h:(callFunc F args.toArray).run P w= .ok (.value v) w)(a1:xs.toList.map (ev n f)=args):
  RV P n f w ⟨dst,.call { callee:= .value (.func F),args:=xs,argTypes:=ats },ty,pos,af,gd⟩ v w:=by
 subst a1;have hm:(xs.toList.map (ev n f)).toArray=xs.map (ev n f):=by rw[<- Array.toList_map,Array.toArray_toList]
 rw[hm]at h;simp[RV,execOp,resolve,ev,Deferred.ofValue,invoke,h]
theorem Own.whole{base sz k cap:Nat}{A:Option Addr}{xs:List Value}(h:Own w base e sz A k cap xs)(hk:0<k):∃(g:Nat) (a1:Array Value),A=some ⟨g,0,none⟩/\base<=g/\Blk w g e a1/\cap<=9223372036854775807/\a1.size=cap*sz/\a1.toList.take (k*sz)=xs:=by
 rcases h.2 with ⟨_,h0⟩|⟨g,c,a1,hv,hb,hg,hkc,hm,hs,ht⟩
 ·omega
 ·cases hv
  exact⟨g,a1,rfl,hb,hg,by simpa[maxLen]using hm,hs,ht⟩
end six
end
section
def bl(s:ByteArray):List UInt8:=s.data.toList
theorem bl_app(p q:ByteArray):bl (p++q)=bl p++bl q:=by
 unfold bl;rw[ByteArray.data_append,Array.toList_append]
theorem Iw(p:ByteArray):(bl p).length=p.size:=by unfold bl;rw[Array.length_toList];rfl
theorem C4{p q:ByteArray}(h:bl p=bl q):p=q:=by
 cases p;cases q;unfold bl at h;simp only[ByteArray.mk.injEq];exact Array.toList_inj.1 h
section rules
variable {P:Program} {Q:Exit->Act->World->Prop} {n:Nw} {f:Fr} {w w':World} {ops:Array Oper} {rest:List Oper} {d:Nat} {ty:TypeId} {pos:String} {af:Array Edge} {x y z:Operand} {t t' e:TypeId}
theorem Dv{dst:Option Tmp}{gd:Option (Nat×Bool)}{p q:ByteArray}(hx:ev n f x= .string p)(hy:ev n f y= .string q)(hb:p.size+q.size<=9223372036854775807):
  RV P n f w ⟨dst,.binOp .add t x y t',ty,pos,af,gd⟩ (.string (p++q)) w:=by
 have h:¬((p.size+q.size:Nat):Int)>IntKind.i64.max:=by
  have e:IntKind.i64.max=9223372036854775807:=by decide
  rw[e];omega
 simp only[RV,execOp,hx,hy,eqGuard,binOp,Op.stringOp,if_neg h];rfl
end rules
end
section
def stk(h:Nat)(s:ByteArray):ByteArray:=⟨((bl s).take h).toArray⟩
def sdr(l:Nat)(s:ByteArray):ByteArray:=⟨((bl s).drop l).toArray⟩
theorem bl_stk(h:Nat)(s:ByteArray):bl (stk h s)=(bl s).take h:=rfl
theorem I0(l:Nat)(s:ByteArray):bl (sdr l s)=(bl s).drop l:=rfl
theorem yq(l:Nat)(s:ByteArray):(sdr l s).size=s.size-l:=by rw[<- Iw,<- Iw,I0,List.length_drop]
theorem stk_size{h:Nat}{s:ByteArray}(hh:h<=s.size):(stk h s).size=h:=by rw[<- Iw,bl_stk,List.length_take,Iw];omega
theorem ext_bl(s:ByteArray)(l h:Nat):bl (s.extract l h)=((bl s).drop l).take (h-l):=by
 unfold bl;rw[ByteArray.data_extract,Array.toList_extract,List.extract_eq_take_drop]
theorem ext_stk{s:ByteArray}{h:Nat}:s.extract 0 h=stk h s:=C4 (by rw[ext_bl,bl_stk,List.drop_zero,Nat.sub_zero])
theorem ext_sdr{s:ByteArray}{l:Nat}:s.extract l s.size=sdr l s:=C4 (by
 rw[ext_bl,I0,List.take_of_length_le]
 rw[List.length_drop,Iw]
 exact ae _)
section rules
variable {P:Program} {Q:Exit->Act->World->Prop} {n:Nw} {f:Fr} {w w':World} {ops:Array Oper} {rest:List Oper} {d:Nat} {ty:TypeId} {pos:String} {af:Array Edge} {x y z:Operand} {t t' e:TypeId}
theorem r_tkS{dst:Option Tmp}{gd:Option (Nat×Bool)}{s:ByteArray}{h:Nat}(hu:P.underlying t=some .string)(hx:ev n f x= .string s)(hy:ev n f y= .int .i64 (h:Int))(hh:h<=s.size):
  RV P n f w ⟨dst,.slice t x none (some y) none,ty,pos,af,gd⟩ (.string (stk h s)) w:=by
 have h1:(Instr.sliceBound (.int .i64 (h:Int)) s.size .sliceAlen).run P w= .ok h w:=by
  simp[Instr.sliceBound,asIntOf,hh]
 simp[RV,execOp,hx,hy,Instr.sliceAt,run_underlying hu,Instr.slice,Instr.sliceBounds,h1,ext_stk]
theorem Y3{dst:Option Tmp}{gd:Option (Nat×Bool)}{s:ByteArray}{l:Nat}(hu:P.underlying t=some .string)(hx:ev n f x= .string s)(hy:ev n f y= .int .i64 (l:Int))(hl:l<=s.size):
  RV P n f w ⟨dst,.slice t x (some y) none none,ty,pos,af,gd⟩ (.string (sdr l s)) w:=by
 have h1:(Instr.sliceBound (.int .i64 (l:Int)) s.size .sliceB).run P w= .ok l w:=by
  simp[Instr.sliceBound,asIntOf,hl]
 simp[RV,execOp,hx,hy,Instr.sliceAt,run_underlying hu,Instr.slice,Instr.sliceBounds,h1,ext_sdr]
end rules
def T6(c:UInt8):List UInt8->List (List UInt8)
 | []=>[[]]
 | x::xs=>if x=c then []::T6 c xs else (x::(T6 c xs).headD [])::(T6 c xs).tail
theorem ixb_pos{c:UInt8}:∀ {l:List UInt8} {m:Nat},Lib.indexByte l c=(m:Int)->m<l.length/\¬c∈l.take m/\l=l.take m++c::l.drop (m+1)
 | [],m,h=>by simp[Lib.indexByte]at h
 | b::l,m,h=>by
  unfold Lib.indexByte at h
  by_cases e:b=c
  ·have e2:(b==c)=true:=by simpa using e
   simp only[e2,if_true]at h
   have:m=0:=by omega
   subst this
   exact⟨by simp,by simp,by simp[e]⟩
  ·have e2:(b==c)=false:=by simpa using e
   simp only[e2,Bool.false_eq_true,if_false]at h
   by_cases q:Lib.indexByte l c= -1
   ·simp[q]at h
   ·have q2:(Lib.indexByte l c== -1)=false:=by simpa using q
    simp only[q2,Bool.false_eq_true,if_false]at h
    have h3:=Lib.indexByte_ge l c
    obtain⟨k,rfl⟩:∃ k,m=k+1:=⟨m-1,by omega⟩
    obtain⟨a1,a2,a3⟩:=ixb_pos (c:=c) (l:=l) (m:=k) oG
    refine⟨by simp;exact a1,?_,?_⟩
    ·rw[List.take_succ_cons]
     intro hm
     rcases ap.1 hm with q|q
     ·exact e q.symm
     ·exact a2 q
    ·rw[List.take_succ_cons,List.drop_succ_cons,List.cons_append,<- a3]
def sp(c:UInt8)(s:ByteArray):List ByteArray:=(T6 c (bl s)).map (fun p=>⟨p.toArray⟩)
def StrsIn(w:World)(A:Option Addr)(xs:List ByteArray):Prop:=
 xs.length<=jx/\(xs≠[]->∃ b o,A=some ⟨b,o,none⟩/\b<w.heap.size/\∀ k (h:k<xs.length),w.cell? ⟨b,o+k*1,none⟩=some (.string xs[k]))
theorem StrsIn.mono{w w':World}{A:Option Addr}{xs:List ByteArray}(h:StrsIn w A xs)(hb:Bel w w'):StrsIn w' A xs:=
 ⟨h.1,fun hn=>by
  obtain⟨b,o,e,hl,hc⟩:=h.2 hn
  exact⟨b,o,e,nLL hl hb.size,fun k hk=>hb.cell hl (hc k hk)⟩⟩
theorem StrsIn.at_{w:World}{A:Option Addr}{xs:List ByteArray}(h:StrsIn w A xs){k:Nat}(hk:k<xs.length):
  ∃ b o,A=some ⟨b,o,none⟩/\b<w.heap.size/\w.cell? ⟨b,o+k*1,none⟩=some (.string xs[k]):=by
 obtain⟨b,o,e,hl,hc⟩:=h.2 (by rintro rfl;simp at hk);exact⟨b,o,e,hl,hc k hk⟩
end
section
def ItIn(w:World)(b:Nat)(s:ByteArray)(p:Nat):Prop:=w.heap[b]? =some (.stringIter s p)
section it
variable {w w':World} {b p:Nat} {s:ByteArray} {X:List Nat}
theorem ItIn.lt(h:ItIn w b s p):b<w.heap.size:=u4 h
theorem ItIn.tr(h:ItIn w b s p)(hs:Same X w w')(hx:b∉X):ItIn w' b s p:=(hs.blk b h.lt hx).trans h
theorem ItIn.tr0(h:ItIn w b s p)(hs:Same [] w w'):ItIn w' b s p:=h.tr hs (by simp)
theorem ItIn.tr1{c:Nat}(h:ItIn w b s p)(hs:Same [c] w w')(hne:b≠c):ItIn w' b s p:=h.tr hs (by simpa using hne)
end it
section rules
variable {P:Program} {Q:Exit->Act->World->Prop} {n:Nw} {f:Fr} {w w':World} {ops:Array Oper} {rest:List Oper} {d:Nat} {ty:TypeId} {pos:String} {af:Array Edge} {x y z:Operand} {t t' e:TypeId}
theorem wl_rg{s:ByteArray}(hu:P.underlying t=some .string)(hx:ev n f x= .string s)
  (K:∀ b w1,ItIn w1 b s 0->Same [] w w1->w.heap.size<=b->WL P ops Q rest n (upd f d (.pointer (some ⟨b,0,none⟩))) w1):WL P ops Q (⟨some d,.range t x,ty,pos,af,none⟩::rest) n f w:=by
 refine wl (v:= .pointer (some ⟨w.heap.size,0,none⟩)) (w':=w.iter s 0) ?_ (K _ _ (World.iter_heap w s 0) (gY w _) (ae _));simp only[RV,execOp,hx,run_range_string w t s hu,Sem.run_bind,Result.andThen_ok];simp
theorem run_nx{b p:Nat}{s:ByteArray}(h:ItIn w b s p)(hp:p<s.size):
  (Instr.next (.pointer (some ⟨b,0,none⟩)) true ty).run P w= .ok (.tuple #[.bool true,.int .i64 p,.int .i32 ((Utf8.decode s p).1:Nat)]) { w with heap:=w.heap.setIfInBounds b (.stringIter s (p+(Utf8.decode s p).2)) }:=by
 have h':w.heap[b]? =some (.stringIter s p):=h;simp only[Instr.next,getObj,setObj,Sem.run_bind,Sem.run,h',Result.andThen,hp,if_true];simp[goInt]
theorem same_setO(w:World)(b:Nat)(o:Obj):Same [b] w { w with heap:=w.heap.setIfInBounds b o }:=
 ⟨rfl,rfl,rfl,by simp,fun k _ hx=>by
  have:k≠b:=fun e=>hx (aj.2 e)
  simp[Ne.symm this]⟩
theorem wl_nx{b p:Nat}{s:ByteArray}(h:ItIn w b s p)(hx:ev n f x= .pointer (some ⟨b,0,none⟩))(hp:p<s.size)
  (K:∀ w1,ItIn w1 b s (p+(Utf8.decode s p).2)->Same [b] w w1->WL P ops Q rest n (upd f d (.tuple #[.bool true,.int .i64 ((p:Nat):Int),.int .i32 (((Utf8.decode s p).1:Nat):Int)])) w1):WL P ops Q (⟨some d,.next x true,ty,pos,af,none⟩::rest) n f w:=by
 refine wl (v:= .tuple #[.bool true,.int .i64 p,.int .i32 ((Utf8.decode s p).1:Nat)]) (w':={ w with heap:=w.heap.setIfInBounds b (.stringIter s (p+(Utf8.decode s p).2)) }) ?_ (K _ ?_ (same_setO w b _))
 ·simp only[RV,execOp,hx,run_nx h hp,Sem.run_bind,Result.andThen_ok]
  simp
 ·show (w.heap.setIfInBounds b _)[b]? =_
  have:=h.lt;simp[this]
theorem r_ne{b p:Nat}{s:ByteArray}{dst:Option Tmp}{gd:Option (Nat×Bool)}(h:ItIn w b s p)(hx:ev n f x= .pointer (some ⟨b,0,none⟩))(hp:¬p<s.size):RV P n f w ⟨dst,.next x true,ty,pos,af,gd⟩ (.tuple #[.bool false]) w:=by
 have h':w.heap[b]? =some (.stringIter s p):=h;have h2:(Instr.next (.pointer (some ⟨b,0,none⟩)) true ty).run P w= .ok (.tuple #[.bool false]) w:=by
  simp[Instr.next,getObj,Sem.run,h',hp]
 simp only[RV,execOp,hx,h2,Sem.run_bind,Result.andThen_ok];simp
theorem NZ{k k':IntKind}{a:Int}{dd:TypeDesc}{dst:Option Tmp}{gd:Option (Nat×Bool)}(hs:P.underlying t=some dd)(hd:P.underlying t'=some (.int k'))(hx:ev n f x= .int k a)(ha:k'.wrap a=a):
  RV P n f w ⟨dst,.convert t t' x,ty,pos,af,gd⟩ (.int k' a) w:=by
 simp[RV,execOp,hx,convert,run_underlying hs,run_underlying hd,Conv.intToInt,ha]
theorem Mz{a b c:Nat}{kb:IntKind}{dst:Option Tmp}{gd:Option (Nat×Bool)}(hx:ev n f x= .int .u64 (a:Int))(hy:ev n f y= .int kb (b:Int))(hb:b<64)(ha:a*2^b<18446744073709551616)(hc:a*2^b=c):
  RV P n f w ⟨dst,.binOp .shl t x y t',ty,pos,af,gd⟩ (.int .u64 (c:Int)) w:=by
 subst hc;have h1:min b 64=b:=by omega
 have h2:IntKind.u64.wrap ((a:Int)*2^b)=((a*2^b:Nat):Int):=by
  rw[IntKind.wrap_u64];have:((a:Int)*2^b)=((a*2^b:Nat):Int):=by simp
  rw[this]
  generalize a*2^b=c at ha
  omega
 have h0:¬((b:Int)<0):=by omega
 simp only[RV,execOp,hx,hy,eqGuard,binOp,Op.shift,IntKind.bits,if_neg h0,Int.toNat_natCast,h1,h2];rfl
theorem r_shr8{a b c:Nat}{kb:IntKind}{dst:Option Tmp}{gd:Option (Nat×Bool)}(hx:ev n f x= .int .u8 (a:Int))(hy:ev n f y= .int kb (b:Int))(hb:b<8)(hc:a/2^b=c):
  RV P n f w ⟨dst,.binOp .shr t x y t',ty,pos,af,gd⟩ (.int .u8 (c:Int)) w:=by
 subst hc;have h1:min b 8=b:=by omega
 have h2:(a:Int).fdiv (2^b)=((a/2^b:Nat):Int):=by
  rw[Int.fdiv_eq_ediv_of_nonneg _ (by exact Int.le_of_lt (Int.pow_pos dE))];simp
 have h0:¬((b:Int)<0):=by omega
 simp only[RV,execOp,hx,hy,eqGuard,binOp,Op.shift,IntKind.bits,if_neg h0];simp[h1,h2]
theorem u8_and7:∀ a:Nat,a<256->bits .and .u8 (a:Int) 7=((a%8:Nat):Int):=by decide +kernel
theorem r_and7{a:Nat}{dst:Option Tmp}{gd:Option (Nat×Bool)}(hx:ev n f x= .int .u8 (a:Int))(hy:ev n f y= .int .u8 7)(ha:a<256):
  RV P n f w ⟨dst,.binOp .and t x y t',ty,pos,af,gd⟩ (.int .u8 ((a%8:Nat):Int)) w:=by
 have:=u8_and7 a ha;simp only[RV,execOp,hx,hy,eqGuard,binOp];simp[go_sem,this]
theorem r_rstr{r:Int}{dst:Option Tmp}{gd:Option (Nat×Bool)}(hs:P.underlying t=some (.int .i32))(hd:P.underlying t'=some .string)(hx:ev n f x= .int .i32 r):
  RV P n f w ⟨dst,.convert t t' x,ty,pos,af,gd⟩ (.string (Utf8.encode r)) w:=by
 simp[RV,execOp,hx,convert,run_underlying hs,run_underlying hd,Conv.intToString]
def QN(Q:Exit->Act->World->Prop):Exit->Act->World->Prop:=Exit.noGoto Q
theorem c_scope{c:Code}(h:WC P c (QN Q) n f w):WC P (.scope c) Q n f w:=by
 unfold WC at h ⊢;exact wp_scope_straight h
theorem e_Nr(h:EX Q .ret n f w):EX (QN Q) .ret n f w:=by unfold EX at h ⊢;exact h
end rules
end
end Go.Proofs.YtiofaflajkgiaaaGreatDoor
