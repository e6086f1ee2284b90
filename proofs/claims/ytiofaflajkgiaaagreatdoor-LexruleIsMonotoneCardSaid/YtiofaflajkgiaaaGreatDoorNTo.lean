/- What these functions compute, at every world: ref1.rows, ref1.binder, term.Typed, ref1.TypeOf; and plain laws. -/
import Derived.Test.YtiofaflajkgiaaaGreatDoorU
import Derived.Test.YtiofaflajkgiaaaGreatDoorZst
import Derived.Test.YtiofaflajkgiaaaGreatDoorNSw
import Derived.Test.YtiofaflajkgiaaaGreatDoorNTw
import Derived.Test.YtiofaflajkgiaaaGreatDoorGro
import Derived.Test.YtiofaflajkgiaaaGreatDoorDHo
namespace Go.Proofs.YtiofaflajkgiaaaGreatDoor
open Go.RowKit Go.Proofs.Tryz
theorem in172:(prog.info? 172).map (fun i=>(i.zero,i.size,i.bytes))=some (some (.agg #[.int .i64 0,.string ⟨#[]⟩,.string ⟨#[]⟩,.slice none 0 0,.int .i64 0,.slice none 0 0,.int .i64 0]),7,104):=by kernel_rfl
theorem Fq:(prog.info? 172).map (·.size)=some 7:=by kernel_rfl
theorem MV:(prog.info? 68).map (·.size)=some 1:=by kernel_rfl
theorem ze172:(prog.info? 172).map (·.zero)=some (some (.agg #[.int .i64 0,.string ⟨#[]⟩,.string ⟨#[]⟩,.slice none 0 0,.int .i64 0,.slice none 0 0,.int .i64 0])):=by kernel_rfl
set_option maxRecDepth 100000 in
set_option maxHeartbeats 4000000 in
theorem rows_step{w0:World}{v:Tv}{up:Int}{n:Nat}{vs:List Value}{A B R:Option Addr}{c m cap:Nat}{w:World}(hS:SimsIn w0 A v.tm.type.args)(hT:TmsIn w0 B v.tm.args)(hB:Bel w0 w)(ho:Own w w0.heap.size 172 7 R (n) cap (vs))(hlen:n+v.size<=1000)(IH:∀(x:Tv),x.size<v.size->∀(up2:Int) (n2:Nat) (vs2:List Value) (A2 B2 R2:Option Addr) (c2 m2 a6:Nat) (w2:World),SimsIn w0 A2 x.tm.type.args->TmsIn w0 B2 x.tm.args->Bel w0 w2->Own w2 w0.heap.size 172 7 R2 (n2) a6 (vs2)->n2+x.size<=1000->Calls prog 104 #[.agg #[.int .i64 (Tv.tm (x)).kind,.string (Tv.tm (x)).name,.int .i64 (Tv.tm (x)).index,.string (Tv.tm (x)).type.base,.slice A2 (Tv.tm (x)).type.args.length c2,.slice B2 (Tv.tm (x)).args.length m2],.int .i64 (up2),.slice R2 (n2) a6] w2 fun e w'=>∃(R':Option Addr) (an:Nat) (zs:List Value),e= .returned (.slice R' (n2+Tv.size (x)) an)/\Own w' w0.heap.size 172 7 R' (n2+Tv.size (x)) an (vs2++zs)/\RwsIn w0 w' (fun g=>w2.heap.size<=g) (rws (up2) (n2) (x)) zs/\ChG (fun g=>g∈aL R2) w2 w'/\∀ g∈aL R',g∈aL R2\/w2.heap.size<=g):Calls prog 104 #[.agg #[.int .i64 (Tv.tm (v)).kind,.string (Tv.tm (v)).name,.int .i64 (Tv.tm (v)).index,.string (Tv.tm (v)).type.base,.slice A (Tv.tm (v)).type.args.length c,.slice B (Tv.tm (v)).args.length m],.int .i64 (up),.slice R (n) cap] w fun e w'=>∃(R':Option Addr) (an:Nat) (zs:List Value),e= .returned (.slice R' (n+Tv.size (v)) an)/\Own w' w0.heap.size 172 7 R' (n+Tv.size (v)) an (vs++zs)/\RwsIn w0 w' (fun g=>w.heap.size<=g) (rws (up) (n) (v)) zs/\ChG (fun g=>g∈aL R) w w'/\∀ g∈aL R',g∈aL R\/w.heap.size<=g:=by
 have hw0:w0.heap.size<=w.heap.size:=Bel.size hB;have hC:ChG (fun g=>g∈aL R) w w:=ChG.refl _ _;have hA:∀ g∈aL R,g∈aL R\/w.heap.size<=g:=fun g hg=> .inl hg
 have hvl:=ho.len;have hps:=parts_sum v;have hpl:=parts_len v;have hvp:=v.pos;have hnk:v.tm.args.length=v.parts.length:=by rw[Dw,List.length_map]
 refine enter func104 ntmps104 rfl (ay rfl) (zn2 ?_);refine qY (v:= .agg #[_,_,_,_,_,_]) (cs:=#[_,_,_,_,_,_]) rfl rfl (fun b3 w1 a1 s1 hr=>?_);have a4:=(fun g hg=>nLL (ho.lt g hg).2 hr)
 have be:=(nLT hC.size hr)
 have lo3:=nLT (Bel.size hB) hr;replace hC:=hC.st s1 (by simp);refine kQ ?_;have hCs:=hC.size;refine zn7 ?_;refine wl (qZ U31 rfl rfl (a1.sub (n:=2) (xs:=[_,_]) rfl) xY) (zn3 ?_);refine wl (BW (v0:= .int _ _) (v1:= .string _) (v2:= .agg _) (v3:= .int _ _) (v4:= .int _ _) (fun v0 v1 v2 v3 v4=>#[v0,v1,(qz v2 0),(qz v2 1),v3,.slice none 0 0,v4]) rfl rfl rfl rfl rfl kR) ?_;refine qv (cs:=#[_,_,_,_,_,_,_]) [(0,.agg _)] rfl U169 Fq ze172 dE dE kR rfl (fun b22 w2 bi s2 hr=>?_);replace ho:=ho.tr0 s1;have ba:=(fun g hg=>nLL (ho.lt g hg).2 hr)
 have bc:=(nLT hC.size hr)
 have:=nLL a1.lt hr;have lo22:=nLT (Bel.size hB.u) hr;replace hC:=hC.st s2 (by simp);replace ho:=ho.tr0 s2;refine jv U169 in172 rfl dE ho bi rfl rfl rfl zJ dE oG oG (Bel.size hB.u) (fun bt cap23 w3 bo s3 hg=>?_);have b7:bt≠b3:=neB a1.u.lt hg (fun g hg=>by have:=a4 g hg;omega)
 replace hB:=hB.u.tr s3 (fun g hg=>nLT (ae _) (ho.lt g hg).1);replace hC:=hC.st s3 (fun g hg=>by first|exact hA g hg|exact .inr (ho.lt g hg).1);replace a1:=a1.tr0 s2;replace a1:=a1.tb s3 (fun g hg=>by have:=a4 g hg;omega);have hA:∀ g∈aL (some (⟨bt,0,none⟩:Addr)),g∈aL R\/w.heap.size<=g:=fun g hm=>by
   rw[List.mem_singleton.1 hm];rcases hg with h|h
   · exact .inl (by rw[h];exact aj.2 rfl)
   · exact .inr (by show w.heap.size<=bt;have:=bi.lt;omega)
 have ho:=bo;refine oJ ?_;refine qj (rg [2,8] 27 25) (fun mm g w'=>∃(j:Nat) (ks:List Int) (t:List Rw) (R2:Option Addr) (a6:Nat) (ys:List Value) (K:Option Addr) (ck:Nat),j<=v.parts.length/\mm=v.parts.length-j/\g 27= .int .i64 j/\g 2= .slice R2 (n+1+t.length) a6/\ks.length=j/\n+1+t.length+((v.parts.drop j).map Tv.size).sum=n+v.size/\WV n v.parts [] []=WV n (v.parts.drop j) ks t/\Bel w0 w'/\Blk w' b3 34 #[.int .i64 (Tv.tm v).kind,.string (Tv.tm v).name,.int .i64 (Tv.tm v).index,.string (Tv.tm v).type.base,.slice A (Tv.tm v).type.args.length c,.slice B (Tv.tm v).args.length m]/\Own w' w0.heap.size 172 7 R2 (n+1+t.length) a6 (vs++rwV (hd v up ks) A c K ck++ys)/\Own w' w.heap.size 3 1 K ks.length ck (iV ks)/\RwsIn w0 w' (fun g=>w.heap.size<=g/\g∉aL K) t ys/\ChG (fun g=>g∈aL R) w w'/\∀ g∈aL R2,g∈aL R\/w.heap.size<=g) (v.parts.length) ?_ (fun m g4 w4 hI=>?_)
 ·exact⟨0,[],[],_,_,[],none,0,ag _,rfl,rfl,rfl,rfl,by simp only[List.length_nil,List.drop_zero];omega,rfl,hB,a1,(by rw[List.append_nil];exact ho),Own.nil _ _ _ _,.nil,hC,hA⟩
 obtain⟨j,ks,t,R2,a6,ys,K,ck,hj,hmj,h27,h2,hkl,a9,ad,hB,a1,ho,a3,a8,hC,hA⟩:=hI;refine zK 27 _ h27 nu (zK 2 _ h2 nu (zn6 ?_));refine zV rfl (fun c28=>?_) (fun c28=>?_)
 ·have b1:j<v.parts.length:=by omega
  obtain⟨tb,to,A0,c0,B0,m0,rfl,htb,htr,ks0,kt0⟩:=tms_part hT b1;rw[List.drop_eq_getElem_cons b1]at ad a9;simp only[List.map_cons,List.sum_cons]at a9;simp only[WV]at ad;have hxp:=Tv.pos (v.parts[j]'b1);refine kQ ?_;obtain⟨q,cur,rfl,hqb,a7,hcs,bq,bm⟩:=ho.open_ oG;have a5:∀ g∈aL K,g≠q:=X4 a3 a7 dE;have a2:∀ g∈aL K,g≠b3:=X4 a3 a1 dE;have bj:b3≠q:=fun e=>absurd (vW (e ▸ a1) a7) dE
  have hk5:cur[0+n*7+5]? =some (.slice K ks.length ck):=(bq _ oG).trans (rw_kid hvl);obtain⟨z6,bk⟩:∃ z,z=w4.heap.size:=⟨_,rfl⟩
  have b8:z6<=w4.heap.size:=aC bk;replace a8:RwsIn w0 w4 (fun g=>w.heap.size<=g/\g∉aL K/\g<z6) t ys:=a8.weak (fun g h1 h2=>⟨h2.1,h2.2,by omega⟩);have hCs:=hC.size;refine zn7 ?_;refine wl (qW (v:= .slice _ _ _) U68 rfl rfl (a7.cell hk5)) (zn2 ?_);refine qv (cs:=#[_]) [(0,.int _ _)] rfl U68 xx Qj dE dE kR rfl (fun b39 w5 bh s4 hr=>?_);have:=nLL a1.lt hr;have b5:=(fun g hg=>nLL (a3.lt g hg).2 hr)
  have bb:=(nLT hC.size hr)
  have:=nLL a7.lt hr;have b4:=(nLT b8 hr)
  have lo39:=nLT (Bel.size hB) hr;replace hC:=hC.st s4 (by simp);replace a8:=a8.tr s4 (by simp);replace b8:=nLT b8 (Same.size s4);replace a3:=a3.tr0 s4;refine jv U68 in3 rfl dE a3 bh rfl rfl rfl zJ dE oG oG hC.size (fun b9 b2 w6 bn s5 hg=>?_);replace a7:=a7.tr0 s4;have b6:b9≠b3:=neB a1.u.lt hg (fun g hg=>by have:=a2 g hg;omega)
  have bd:b9≠q:=neB a7.lt hg (fun g hg=>by have:=a5 g hg;omega)
  replace hB:=hB.u.tr s5 (fun g hg=>nLT hw0 (a3.lt g hg).1);replace a1:=a1.tr0 s4;replace a1:=a1.tb s5 (fun g hg=>by have:=a2 g hg;omega);replace hC:=hC.st s5 (fun g hg=>by first|exact hA g hg|exact .inr (a3.lt g hg).1);replace a8:=a8.tr s5 (fun g hg=>by first|exact .inl (fun h=>h.2.1 hg)|(obtain⟨cs,hc⟩:=(a3).typ g hg;exact .inr ⟨cs,_,hc,by decide⟩));replace a7:=a7.tb s5 (fun g hg=>by have:=a5 g hg;omega);replace b8:=nLT b8 (Same.size s5)
  have a8:RwsIn w0 w6 (fun g=>w.heap.size<=g/\g∉aL (some (⟨b9,0,none⟩:Addr))) t ys:=a8.weak (fun g _ hd=>⟨hd.1,fun hm=>by
    have e:g=b9:=aj.1 hm;rcases hg with h|h
    · exact hd.2.1 (by rw[h,e];exact aj.2 rfl)
    · have:=bh.lt
      have:=hd.2.2
      omega⟩)
  have a3:Own w6 w.heap.size 3 1 (some ⟨b9,0,none⟩) (ks++[((n+1+t.length:Nat):Int)]).length b2 (iV (ks++[((n+1+t.length:Nat):Int)])):=by
    have e1:(ks++[((n+1+t.length:Nat):Int)]).length=ks.length+1:=by simp
    have e2:iV (ks++[((n+1+t.length:Nat):Int)])=iV ks++[.int .i64 ((n+1+t.length:Nat):Int)]:=by simp[iV]
    rw[e1,e2];exact bn
  refine zn2 ?_;refine xZ (v:= .slice _ _ _) a7 rfl rfl MV (by show 0+n*7+5<cur.size;omega) rfl rfl (fun w7 hq s6=>?_);replace hB:=hB.tr1 s6 hqb;replace hC:=hC.st s6 (fun g hg=>by rw[List.mem_singleton.1 hg];first|exact .inr or_hC_q|exact hA _ (aj.2 rfl));replace a8:=a8.tr s6 (fun g hg=>by rw[List.mem_singleton.1 hg];exact .inr ⟨_,_,a7,by decide⟩);replace b8:=nLT b8 (Same.size s6);replace a3:=a3.tr1 s6 (X4 a3 a7 dE);replace a7:=hq;have ho:Own w7 w0.heap.size 172 7 (some ⟨q,0,none⟩) (n+1+t.length) a6 (vs++rwV (hd v up (ks++[((n+1+t.length:Nat):Int)])) A c (some ⟨b9,0,none⟩) b2++ys):=by
    have h:=bm _ (0+n*7+5) _ a7;rw[show ks.length+1=(ks++[((n+1+t.length:Nat):Int)]).length by simp,rw_set hvl]at h;exact h
  have hA:∀ g∈aL (some (⟨q,0,none⟩:Addr)),g∈aL R\/w.heap.size<=g:=hA;refine vy ?_;refine zW kR (IH (v.parts[j]'b1) (parts_lt (ar b1)) n (n+1+t.length) _ A0 B0 _ c0 m0 _ _ ks0 kt0 hB ho oG) rfl (fun e' w8 hr=>?_);obtain⟨R3,bu,zs,rfl,ho3,br,hC3,hA3⟩:=hr;have hKl:=fun g hg=>(a3.lt g hg).2
  have bg:=hC3.same;have hCz:=hC.size;replace br:=br.weak (D':=fun g=>w.heap.size<=g/\g∉aL (some (⟨b9,0,none⟩:Addr))) (fun g _ hd=>⟨nLT hCz hd,fun hm=>by have:=hKl g hm;omega⟩);replace hB:=hB.tr bg (fun g hg=>(ho.lt g hg).1);replace a1:=a1.tr1 s6 oG;replace a1:=a1.tr bg (fun hx=>X4 ho a1 dE _ hx rfl);replace a3:=a3.tr bg (xj a3 ho dE);replace a8:=a8.tr bg (fun g hg=>by obtain⟨cs,hc⟩:=ho.typ g hg;exact .inr ⟨cs,_,hc,by decide⟩);replace hC:=hC.st bg hA;replace hA:∀ g∈aL R3,g∈aL R\/w.heap.size<=g:=fun g hg=>(hA3 g hg).elim (fun h=>hA g h) (fun h=> .inr (nLT hCz h))
  replace ho:=ho3;have e3:n+1+(t++rws n (n+1+t.length) (v.parts[j]'b1)).length=n+1+t.length+Tv.size (v.parts[j]'b1):=by rw[List.length_append,VQ];omega
  have bf:n+1+(t++rws n (n+1+t.length) (v.parts[j]'b1)).length+((v.parts.drop (j+1)).map Tv.size).sum=n+v.size:=by omega
  refine⟨_,rfl,?_⟩;refine zn8 ?_;refine xK (v.parts.length-(j+1)) oG agA ?_;exact⟨j+1,(ks++[((n+1+t.length:Nat):Int)]),t++rws n (n+1+t.length) (v.parts[j]'b1),R3,bu,ys++zs,_,_,by omega,rfl,rfl,(by rw[e3];rfl),(by simp[hkl]),bf,ad,hB,a1,(by rw[e3,<- List.append_assoc];exact ho),a3,a8.app br,hC,hA⟩
 have hje:j=v.parts.length:=by omega
 rw[hje,List.drop_length]at ad a9;simp only[List.map_nil,List.sum_nil,Nat.add_zero]at a9;have hrw:rws up n v=hd v up ks::t:=by rw[rws_acc,ad];rfl
 refine oJ ?_;rw[hrw];exact⟨R2,a6,rwV (hd v up ks) A c K ck++ys,(by rw[<- a9];rfl),(by rw[<- a9,<- List.append_assoc];exact ho),.cons hS (KidIn.own a3 rfl) (a8.weak (fun g _ h=>h.1)),hC,hA⟩
theorem rows_any{w0:World}:∀(k:Nat) (v:Tv),v.size<k->∀(up:Int) (n:Nat) (vs:List Value) (A B R:Option Addr) (c m cap:Nat) (w:World),SimsIn w0 A v.tm.type.args->TmsIn w0 B v.tm.args->Bel w0 w->Own w w0.heap.size 172 7 R (n) cap (vs)->n+v.size<=1000->Calls prog 104 #[.agg #[.int .i64 (Tv.tm (v)).kind,.string (Tv.tm (v)).name,.int .i64 (Tv.tm (v)).index,.string (Tv.tm (v)).type.base,.slice A (Tv.tm (v)).type.args.length c,.slice B (Tv.tm (v)).args.length m],.int .i64 (up),.slice R (n) cap] w fun e w'=>∃(R':Option Addr) (a1:Nat) (zs:List Value),e= .returned (.slice R' (n+Tv.size (v)) a1)/\Own w' w0.heap.size 172 7 R' (n+Tv.size (v)) a1 (vs++zs)/\RwsIn w0 w' (fun g=>w.heap.size<=g) (rws (up) (n) (v)) zs/\ChG (fun g=>g∈aL R) w w'/\∀ g∈aL R',g∈aL R\/w.heap.size<=g:=by
 intro k
 induction k with
 | zero=>intro v h;omega
 | succ k ih=>exact fun v h up n vs A B R c m cap w h1 h2 h3 h4 h5=>rows_step h1 h2 h3 h4 h5 (fun x hx=>ih x oG)
theorem rows0_any(v:Tv)(A B:Option Addr)(c m:Nat)(w:World)(hS:SimsIn w A v.tm.type.args)(hT:TmsIn w B v.tm.args)(hl:v.size<=1000)(w1:World)(hB:Bel w w1):Calls prog 104 #[.agg #[.int .i64 (Tv.tm (v)).kind,.string (Tv.tm (v)).name,.int .i64 (Tv.tm (v)).index,.string (Tv.tm (v)).type.base,.slice A (Tv.tm (v)).type.args.length c,.slice B (Tv.tm (v)).args.length m],.int .i64 (-1),.slice none (0) 0] w1 fun e w'=>(∃(q cap:Nat) (zs:List Value),e= .returned (.slice (some ⟨q,0,none⟩) v.size cap)/\Own w' w.heap.size 172 7 (some ⟨q,0,none⟩) v.size cap zs/\RwsIn w w' (fun g=>w1.heap.size<=g) (rws (-1) 0 v) zs)/\Bel w1 w':=by
 refine(rows_any (w0:=w) _ v (aG _) (-1) 0 [] A B none c m 0 w1 hS hT hB (Own.nil _ _ _ _) oG).mono ?_
 rintro e w' ⟨R,cap,zs,rfl,ho,hr,hc,_⟩
 rw[Nat.zero_add,List.nil_append]at ho;have hp:=v.pos;obtain⟨q,rfl,_,_⟩:=ho.cell (by intro e;have:=ho.len;rw[e]at this;simp at this;omega);exact⟨⟨q,cap,zs,by rw[Nat.zero_add],ho,hr⟩,Same.bel hc.same⟩
set_option maxHeartbeats 1000000 in
theorem binder_any{w0 wr w:World}{q n cap p i:Nat}{ls:List Rw}{r:Rw}{Γ:List Ts}{τ:Ts}(hrd:RdT w0 wr q ls)(hn:ls.length=n)(a5:Bel wr w)(a2:q<wr.heap.size)(hr:ls[p]? =some r)(hri:r.index=(i:Int))(_hup:r.up<(p:Int))(hch:Chn ls r.up Γ)(hti:Γ[i]? =some τ)(hi1:i<=1000):Calls Tryz.prog 105 #[.slice (some ⟨q,0,none⟩) n cap,.int .i64 ((p:Nat):Int)] w fun e w'=>(∃(u:Nat) (ru:Rw),e= .returned (.int .i64 ((u:Nat):Int))/\ls[u]? =some ru/\ru.typ=τ.sm)/\Bel w w':=by
 have hpl:=(av.1 hr).1;obtain⟨A7,c7,K7,ck7,a7,_,_,_⟩:=hrd p r hr;rw[hri]at a7;refine enter Tryz.func105 Tryz.ntmps105 rfl (ay rfl) (kQ ?_);refine wl (qW (v:= .int _ _) U3 rfl rfl (a5.cell a2 (a7 4 _ rfl))) (vy ?_);refine wl (qW (v:= .int _ _) U3 rfl rfl (a5.cell a2 (a7 6 _ rfl))) (zn4 ?_);refine qj (rg [4,5,6] 17 18) (fun m g w'=>∃(k:Nat) (z:Int) (Δ:List Ts),m=(z+1).toNat/\k<=i/\g 5= .int .i64 k/\g 6= .int .i64 z/\w=w'/\Chn ls z Δ/\Δ[k]? =some τ) ((r.up+1).toNat) ?_ (fun m g3 w1 hI=>?_)
 ·exact⟨i,r.up,Γ,rfl,ae _,rfl,rfl,rfl,hch,hti⟩
 obtain⟨k,z,Δ,hm,hki,h5,h6,rfl,hcz,hkz⟩:=hI;refine zK 5 _ h5 nu (zK 6 _ h6 nu (zn7 ?_));refine zV rfl (fun c18=>?_) (fun c18=>?_)
 ·obtain⟨u,rz,rfl,a6,hup2,hlow,a1⟩:=chn_row hcz hkz;have hul:=(av.1 a6).1;obtain⟨A8,c8,K8,ck8,a8,_,_,_⟩:=hrd u rz a6;refine vy ?_;refine wl (qW (v:= .int _ _) U3 rfl rfl (a5.cell a2 (a8 0 _ rfl))) (zn3 ?_);refine zV rfl (fun a9=>?_) (fun a9=>?_)
  ·have hq3:=a1.resolve_right (fun h=>h.1 a9);clear a1;obtain⟨_,a1⟩:=hq3;refine zn7 ?_;refine zV rfl (fun c31=>?_) (fun c31=>?_)
   ·have hty:rz.typ=τ.sm:=by
      rcases a1 with ⟨_,h⟩|⟨k',hk',_⟩
      ·exact h
      ·omega
    refine Jj ?_;exact⟨⟨u,rz,rfl,a6,hty⟩,Below.refl _ _⟩
   obtain⟨k2,rfl,Δ2,a3,a4⟩:=a1.resolve_left (fun h=>c31 (by rw[h.1];rfl));clear a1;refine zn4 ?_;refine wl (jX (c:=((k2:Nat):Int)) rfl rfl (show ((k2:Int)+1)-1=k2 from Int.add_sub_cancel _ _) oG) (zn9 ?_);refine wl (qW (v:= .int _ _) U3 rfl rfl (a5.cell a2 (a8 6 _ rfl))) (zn2 ?_);refine xK ((rz.up+1).toNat) oG agA ?_
   first
     | exact⟨k2,rz.up,Δ2,rfl,by omega,rfl,rfl,rfl,a4,a3⟩
     | exact⟨k,rz.up,Δ2,rfl,hki,rfl,rfl,rfl,a4,a3⟩
  obtain⟨_,Δ2,a3,a4⟩:=a1.resolve_left (fun h=>a9 h.1);clear a1;refine zn8 ?_;refine wl (qW (v:= .int _ _) U3 rfl rfl (a5.cell a2 (a8 6 _ rfl))) (zn2 ?_);refine xK ((rz.up+1).toNat) oG agA ?_
  first
    | exact⟨k2,rz.up,Δ2,rfl,by omega,rfl,rfl,rfl,a4,a3⟩
    | exact⟨k,rz.up,Δ2,rfl,hki,rfl,rfl,rfl,a4,a3⟩
 obtain⟨u,rz,rfl,_⟩:=chn_row hcz hkz;exact absurd (Int.natCast_nonneg u) c18
section
theorem tv_con{v:Tv}(h:v.tm.kind=1):∃ nm τ,v= .con nm τ:=by cases v<;>first|exact⟨_,_,rfl⟩|(exfalso;revert h;simp[Tv.tm,Tm.kind])
theorem tv_var{v:Tv}(h:v.tm.kind=2):∃ i,v= .var i:=by cases v<;>first|exact⟨_,rfl⟩|(exfalso;revert h;simp[Tv.tm,Tm.kind])
theorem tv_abs{v:Tv}(h:v.tm.kind=3):∃ τ x,v= .abs τ x:=by cases v<;>first|exact⟨_,_,rfl⟩|(exfalso;revert h;simp[Tv.tm,Tm.kind])
theorem tv_app{v:Tv}(h1:¬v.tm.kind=1)(h2:¬v.tm.kind=2)(h3:¬v.tm.kind=3):∃ x y,v= .app x y:=by
 cases v with
 | con nm τ=>exact absurd rfl h1
 | var i=>exact absurd rfl h2
 | abs τ x=>exact absurd rfl h3
 | app x y=>exact⟨_,_,rfl⟩
theorem ts_two{τ:Ts}(h:τ.sm.args.length=2):∃ x y,τ= .f x y:=by
 cases τ with
 | b t=>cases h
 | f x y=>exact⟨x,y,rfl⟩
section app
variable {Γ:List Ts} {x y:Tv}
theorem app_no1(h:(tyv Γ x).isSome=false):tyv Γ (.app x y)=none:=by
 simp only[tyv];cases e:tyv Γ x with
 | none=>rfl
 | some σ=>rw[e]at h;cases h
theorem app_no2(h:(tyv Γ y).isSome=false):tyv Γ (.app x y)=none:=by
 simp only[tyv];cases e:tyv Γ y with
 | none=>
  cases tyv Γ x with
  | none=>rfl
  | some σ=>cases σ<;>rfl
 | some σ=>rw[e]at h;cases h
theorem app_no3{σ:Ts}(h:tyv Γ x=some σ)(hn:¬σ.sm.args.length=2):tyv Γ (.app x y)=none:=by
 simp only[tyv,h];cases σ with
 | b t=>rfl
 | f a r=>exact absurd rfl hn
theorem app_no4{a r ζ:Ts}(h:tyv Γ x=some (.f a r))(k:tyv Γ y=some ζ)(e:a.eqb ζ=false):tyv Γ (.app x y)=none:=by
 simp only[tyv,h,k,e];rfl
theorem app_yes{a r ζ:Ts}(h:tyv Γ x=some (.f a r))(k:tyv Γ y=some ζ)(e:a.eqb ζ=true):tyv Γ (.app x y)=some r:=by
 simp only[tyv,h,k,e];rfl
end app
theorem in31:(prog.info? 31).map (fun i=>(i.zero,i.size,i.bytes))=some (some (.agg #[.string ⟨#[]⟩,.slice none 0 0]),2,40):=by kernel_rfl
set_option maxRecDepth 100000 in
set_option maxHeartbeats 4000000 in
theorem L7{v:Tv}{Γ:List Ts}{A B C:Option Addr}{c m cc:Nat}{w:World}(hS:SimsIn w A v.tm.type.args)(hT:TmsIn w B v.tm.args)(hG:CtxIn w C Γ)(bv:Γ.length<=cc)(bh:Γ.length+v.size<=1000)(bn:v.ok Γ.length)(IH:∀(x:Tv),x.size<v.size->∀(Γ:List Ts) (A2 B2 C2:Option Addr) (c2 m2 cc2:Nat) (w2:World),SimsIn w2 A2 (Tv.tm (x)).type.args->TmsIn w2 B2 (Tv.tm (x)).args->CtxIn w2 C2 Γ->List.length Γ<=cc2->List.length Γ+(x).size<=1000->Tv.ok (List.length Γ) (x)->Calls prog 91 #[.agg #[.int .i64 (Tv.tm (x)).kind,.string (Tv.tm (x)).name,.int .i64 (Tv.tm (x)).index,.string (Tv.tm (x)).type.base,.slice A2 (Tv.tm (x)).type.args.length c2,.slice B2 (Tv.tm (x)).args.length m2],.slice C2 (List.length Γ) cc2] w2 fun e w'=>(∃(s:ByteArray) (A':Option Addr) (n c':Nat),e= .returned (.tuple #[.agg #[.string s,.slice A' n c'],.bool (tyv (Γ) (x)).isSome])/\∀ τ,tyv (Γ) (x)=some τ->s=τ.sm.base/\n=τ.sm.args.length/\SimsIn w' A' τ.sm.args)/\Bel w2 w'):Calls prog 91 #[.agg #[.int .i64 (Tv.tm (v)).kind,.string (Tv.tm (v)).name,.int .i64 (Tv.tm (v)).index,.string (Tv.tm (v)).type.base,.slice A (Tv.tm (v)).type.args.length c,.slice B (Tv.tm (v)).args.length m],.slice C (List.length Γ) cc] w fun e w'=>(∃(s:ByteArray) (A':Option Addr) (n c':Nat),e= .returned (.tuple #[.agg #[.string s,.slice A' n c'],.bool (tyv (Γ) (v)).isSome])/\∀ τ,tyv (Γ) (v)=some τ->s=τ.sm.base/\n=τ.sm.args.length/\SimsIn w' A' τ.sm.args)/\Bel w w':=by
 refine enT func91 ntmps91 rfl rfl fun hB=>?_;refine zn2 ?_;refine qY (v:= .agg #[_,_,_,_,_,_]) (cs:=#[_,_,_,_,_,_]) rfl rfl (fun b2 w1 bo t1 hr=>?_);refine qk (cs:=#[.string ⟨#[]⟩,.slice none 0 0]) JQ rfl (fun b4 w2 a2 t2 hr=>?_);have ad:=nLT (Bel.size hB.u) hr;refine Ry ?_;refine zV rfl (fun cf=>?_) (fun cf=>?_)
 ·obtain⟨nm,τ,rfl⟩:=tv_con cf;refine zn3 ?_;refine wl (qZ U31 rfl rfl (bo.u.sub (n:=2) (xs:=[_,_]) rfl) xY) ?_;refine zk a2 rfl rfl xY rfl zJ (fun w3 hq t3=>?_);replace a2:=hq;refine zn6 ?_;refine kY (.inl rfl) rfl (zZ U31 rfl rfl a2.range0 xY) rfl ?_;replace hB:=(hB.tr0 (t1.t t2)).tr1 t3 ad;exact⟨⟨_,_,_,_,rfl,fun σ e=>by obtain rfl:τ=σ:=Option.some.inj e;exact⟨rfl,rfl,hS.mono hB⟩⟩,hB⟩
 refine zn6 ?_;refine zV rfl (fun ce=>?_) (fun ce=>?_)
 ·obtain⟨i,rfl⟩:=tv_var ce;have hil:i<Γ.length:=bn;obtain⟨cb,co,A7,c7,rfl,hcb,hcr,hcs⟩:=hG.at_ (aJ hil);refine zn5 ?_;refine wl (jX (c:=((Γ.length-1:Nat):Int)) rfl rfl oG oG) (zn1 ?_);refine wl (qW (v:= .int .i64 ((i:Nat):Int)) U3 rfl rfl (bo.u.cell rfl)) (wl (jX (c:=((Γ.length-1-i:Nat):Int)) rfl rfl oG oG) (wl (xX (i:=(Γ.length-1-i)) U29 xY rfl rfl oG rfl) (wl (qZ U31 rfl rfl (hB.u.range hcb hcr) xY) ?_)));refine zk a2 rfl rfl xY rfl zJ (fun w4 hq t4=>?_);replace a2:=hq;refine zn6 ?_;refine kY (.inl rfl) rfl (zZ U31 rfl rfl a2.range0 xY) rfl ?_;have hty:tyv Γ (.var i)=some Γ[i]:=aJ hil;replace hB:=(hB.tr0 (t1.t t2)).tr1 t4 ad;exact⟨⟨_,_,_,_,by rw[hty];rfl,fun σ e=>by rw[hty]at e;obtain rfl:=Option.some.inj e;exact⟨rfl,rfl,hcs.mono hB⟩⟩,hB⟩
 refine zn6 ?_;refine zV rfl (fun cd=>?_) (fun cd=>?_)
 ·obtain⟨τ,x,rfl⟩:=tv_abs cd;have hlx:Γ.length+(x.size+1)<=1000:=bh;obtain⟨tb,to,A0,c0,B0,m0,rfl,bm,a4,bb,ba⟩:=hT.at_ (k:=0) (by simp[Tv.tm,Tm.args])
  change w.rangeAt tb (to+0*6) [.int .i64 (x).tm.kind,.string (x).tm.name,.int .i64 (x).tm.index,.string (x).tm.type.base,.slice A0 (x).tm.type.args.length c0,.slice B0 (x).tm.args.length m0]at a4
  change SimsIn w A0 (x).tm.type.args at bb
  change TmsIn w B0 (x).tm.args at ba
  refine xy ?_;refine HQ 11 [32,33,34,35,36,37,38,39,40,41,6] [] (fun ix=>false) (fun st ix v la ha wv=>match ix with|0=>v= .slice C (List.length Γ) cc|1=>v= .slice C (List.length Γ) cc|2=>v= .int .i64 ((Γ.length:Nat):Int)|3=>v= .slice C (List.length Γ) cc|4=>v= .int .i64 ((Γ.length:Nat):Int)|5=>v= .slice C (List.length Γ) (List.length Γ)|6=>v= .pointer (some ⟨b2,0+3,none⟩)|7=>v= .agg #[.string τ.sm.base,.slice A τ.sm.args.length c]|8=>∃ b,v= .slice (some ⟨b,0,none⟩) 1 1/\Blk wv b 31 #[.string τ.sm.base,.slice A τ.sm.args.length c]|9=>∃ g cap,v= .slice (some ⟨g,0,none⟩) (Γ.length+1) cap/\CtxIn wv (some ⟨g,0,none⟩) (τ::Γ)/\Γ.length+1<=cap|10=>∃ g cap,v= .slice (some ⟨g,0,none⟩) (Γ.length+1) cap/\CtxIn wv (some ⟨g,0,none⟩) (τ::Γ)/\Γ.length+1<=cap|_=>True) kR kR kR ?_ ?_ ?_
  ·intro st ix v la ha wv wv2 h t5
   match ix,h with
   | 0,h=>exact h
   | 1,h=>exact h
   | 2,h=>exact h
   | 3,h=>exact h
   | 4,h=>exact h
   | 5,h=>exact h
   | 6,h=>exact h
   | 7,h=>exact h
   | 8,h=>
    obtain⟨cg,c9,a6⟩:=h;exact⟨cg,c9,a6.tr0 t5⟩
   | 9,h=>
    obtain⟨bz,a7,c8,b5,a3⟩:=h;exact⟨bz,a7,c8,b5.mono t5.bel,a3⟩
   | 10,h=>
    obtain⟨gx,b6,e6,bx,a5⟩:=h;exact⟨gx,b6,e6,bx.mono t5.bel,a5⟩
   | _+11,h=>exact trivial
  ·intro st ix o hix hoq hns gg wx la ha t6 hd
   match ix,hix,hoq,hns with
   | 0,_,hoq,hns=>
    cases sI hoq;show OS _ _ _ _ _ _;refine qQ (xz (v:= .slice _ _ _) rfl) ⟨Same.refl _ _,?_⟩;exact rfl
   | 1,_,hoq,hns=>
    cases sI hoq;show OS _ _ _ _ _ _;refine qQ (xz (v:= .slice _ _ _) rfl) ⟨Same.refl _ _,?_⟩;exact rfl
   | 2,_,hoq,hns=>
    cases sI hoq;show OS _ _ _ _ _ _;refine aW 33 (hd 1 _ aX rfl) ?_;refine qQ (Oj U29 rfl) ⟨Same.refl _ _,?_⟩;exact rfl
   | 3,_,hoq,hns=>
    cases sI hoq;show OS _ _ _ _ _ _;refine qQ (xz (v:= .slice _ _ _) rfl) ⟨Same.refl _ _,?_⟩;exact rfl
   | 4,_,hoq,hns=>
    cases sI hoq;show OS _ _ _ _ _ _;refine aW 35 (hd 3 _ aX rfl) ?_;refine qQ (Oj U29 rfl) ⟨Same.refl _ _,?_⟩;exact rfl
   | 5,_,hoq,hns=>
    cases sI hoq;show OS _ _ _ _ _ _;refine aW 32 (hd 0 _ aX rfl) (aW 34 (hd 2 _ aX rfl) (aW 36 (hd 4 _ aX rfl) ?_));refine qQ (r_slF U29 xY rfl rfl rfl bv) ⟨Same.refl _ _,?_⟩;exact rfl
   | 6,_,hoq,hns=>
    cases sI hoq;show OS _ _ _ _ _ _;refine qQ (uK U34 xY dE rfl rfl rfl) ⟨Same.refl _ _,?_⟩;exact rfl
   | 7,_,hoq,hns=>
    cases sI hoq;show OS _ _ _ _ _ _;refine aW 38 (hd 6 _ aX rfl) ?_;refine qQ (qZ U31 rfl rfl (bo.u.sub (n:=2) (xs:=[_,_]) rfl) xY) ⟨Same.refl _ _,?_⟩;exact rfl
   | 8,_,hoq,hns=>
    cases sI hoq;show OS _ _ _ _ _ _;refine aW 39 (hd 7 _ aX rfl) ?_;refine jZ (fun ops Q K=>?_);refine qv (cs:=#[_,_]) [(0,.agg _)] rfl U29 xY JQ dE dE kR rfl (fun cg w5 a6 t7 hr=>?_);exact K _ _ ⟨t7,⟨_,rfl,a6⟩⟩
   | 9,_,hoq,hns=>
    cases sI hoq;show OS _ _ _ _ _ _;obtain⟨cg,c9,a6⟩:=hd 8 _ (zj kR) rfl;refine aW 37 (hd 5 _ aX rfl) (zz 40 _ c9 nu ?_);refine jZ (fun ops Q K=>?_);replace hB:=hB.tr0 (t1.t (t2.t t6));obtain⟨vs,hv1,hv2,hv3,hv4⟩:=(hG.mono hB).row;refine wl_appFl U29 in31 rfl dE hv2 hv3 hv4 a6 rfl rfl rfl rfl dE oG oG (fun bz a7 w1 bg t8 hg=>?_);exact K _ _ ⟨t8,_,_,rfl,ctx_app bg (hv1.mono t8.bel) ((hS.mono hB).mono t8.bel) rfl,bg.cap_le⟩
   | 10,_,hoq,hns=>
    cases sI hoq;show OS _ _ _ _ _ _;obtain⟨bz,a7,c8,b5,a3⟩:=hd 9 _ (zj kR) rfl;refine zz 41 _ c8 nu ?_;refine qQ (gk (v:= .slice _ _ _) rfl) ⟨Same.refl _ _,?_⟩;exact⟨_,_,rfl,b5,a3⟩
   | _+11,hix,_,_=>exact absurd hix oG
  intro st gg w6 la ha hall t9 hR hI;obtain⟨gx,b6,e6,bx,a5⟩:=hR 10 _ rfl;refine x9 6 _ e6 nu (zn6 ?_);refine wl (xX (i:=0) U32 Zj rfl rfl (by show 0<1;decide) rfl) (wl (qZ U34 rfl rfl (hB.u.range bm a4) Zj) (wl (xz (v:= .slice _ _ _) rfl) ?_));replace hB:=hB.tr0 (t1.t (t2.t t9));refine zW kR (IH x (by simp only[Tv.size];omega) (τ::Γ) A0 B0 (some ⟨gx,0,none⟩) c0 m0 b6 _ (bb.mono hB) (ba.mono hB) bx a5 (by simp only[List.length_cons];omega) bn.2) rfl (fun e' w7 hr=>?_);obtain⟨⟨s3,A3,n3,c3,rfl,h3⟩,bk⟩:=hr;replace bk:=sB bk;have a9:Bel w7 w7:=Below.refl _ _;refine⟨_,rfl,?_⟩;refine wmT rfl (wl (y8 (v:= .agg _) rfl rfl) (wl (y8 (v:= .bool _) rfl rfl) ?_));refine yj (cs:=#[.string ⟨#[]⟩,.slice none 0 0]) JQ rfl (fun _=>rfl) (fun _=>rfl) xY rfl zJ (fun b7 w9 hb7 bt hr=>?_);refine zn4 ?_;have hZ:SameQ [b4] w9 w9:=Same.refl _ _;replace a2:=a2.tr0 (t9.t (bk.t bt));have b3:=a2;replace a9:=a9.tr0 bt;have a8:=a9;refine zn2 ?_;refine wl (qZ U31 rfl rfl (bo.u.sub (n:=2) (xs:=[_,_]) rfl) xY) (zn1 ?_);refine qv (cs:=#[_,_,_,_]) [(0,.agg _),(1,.agg _)] rfl U29 xY JQ dE dE kR rfl (fun b54 w10 bw t12 hr=>?_);have:=nLL a2.lt hr;replace hZ:=SameQ.trans hZ t12 (by simp);refine wl (ZY (v0:= .slice _ _ _) (fun v0=>#[.string ⟨#[]⟩,v0]) rfl kR) (wl (xz (v:= .bool _) rfl) ?_);refine zk a2.u rfl rfl xY rfl zJ (fun w11 hq t13=>?_);replace hZ:=SameQ.trans hZ t13 (by simp);replace a2:=hq;refine zn6 ?_;refine kY (.inl rfl) rfl (zZ U31 rfl rfl a2.range0 xY) rfl ?_;have e1:(tyv Γ (.abs τ x)).isSome=(tyv (τ::Γ) x).isSome:=by simp only[tyv,Option.isSome_map]
  replace hB:=(hB.tr0 (bk.t (bt.t t12))).tr1 t13 ad;refine⟨⟨_,_,_,_,by rw[e1];rfl,fun σ hσ=>?_⟩,hB⟩;obtain⟨ρ,h5,rfl⟩:=aR.1 hσ;obtain⟨rfl,rfl,h6⟩:=h3 ρ h5;exact⟨rfl,rfl,sm2_two bw.u (hS.mono hB) (Nq b3 hZ ρ (h6.mono a8))⟩
 obtain⟨x,y,rfl⟩:=tv_app cf ce cd;have hlx:Γ.length+(x.size+y.size+1)<=1000:=bh;have px:=x.pos;have py:=y.pos;obtain⟨tb,to,A0,c0,B0,m0,rfl,bm,a4,bb,ba⟩:=hT.at_ (k:=0) (by simp[Tv.tm,Tm.args])
 change w.rangeAt tb (to+0*6) [.int .i64 (x).tm.kind,.string (x).tm.name,.int .i64 (x).tm.index,.string (x).tm.type.base,.slice A0 (x).tm.type.args.length c0,.slice B0 (x).tm.args.length m0]at a4
 change SimsIn w A0 (x).tm.type.args at bb
 change TmsIn w B0 (x).tm.args at ba
 obtain⟨_,_,A1,c1,B1,m1,e1,_,be,ks1,kt1⟩:=hT.at_ (k:=1) (by simp[Tv.tm,Tm.args]);cases e1
 change w.rangeAt tb (to+1*6) [.int .i64 (y).tm.kind,.string (y).tm.name,.int .i64 (y).tm.index,.string (y).tm.type.base,.slice A1 (y).tm.type.args.length c1,.slice B1 (y).tm.args.length m1]at be
 change SimsIn w A1 (y).tm.type.args at ks1
 change TmsIn w B1 (y).tm.args at kt1
 refine zn7 ?_;refine wl (xX (i:=0) U32 Zj rfl rfl (by show 0<2;decide) rfl) (wl (qZ U34 rfl rfl (hB.u.range bm a4) Zj) (wl (xz (v:= .slice _ _ _) rfl) ?_));replace hB:=hB.tr0 (t1.t t2);refine zW kR (IH x (by simp only[Tv.size];omega) Γ A0 B0 C c0 m0 cc _ (bb.mono hB) (ba.mono hB) (hG.mono hB) bv oG bn.1) rfl (fun e' w12 hr=>?_);obtain⟨⟨s3,A3,n3,c3,rfl,h3⟩,bj⟩:=hr;replace bj:=sB bj;have a9:Bel w12 w12:=Below.refl _ _;refine⟨_,rfl,?_⟩;refine wmT rfl (wl (y8 (v:= .agg _) rfl rfl) (wl (y8 (v:= .bool _) rfl rfl) ?_));refine yj (cs:=#[.string ⟨#[]⟩,.slice none 0 0]) JQ rfl (fun _=>rfl) (fun _=>rfl) xY rfl zJ (fun b9 w14 hb9 br hr=>?_);refine zn7 ?_;refine wl (xX (i:=1) U32 Zj rfl rfl (by show 1<2;decide) rfl) (wl (qZ U34 rfl rfl (hB.u.range bm be) Zj) (wl (xz (v:= .slice _ _ _) rfl) ?_));replace hB:=hB.tr0 (bj.t br);refine zW kR (IH y (by simp only[Tv.size];omega) Γ A1 B1 C c1 m1 cc _ (ks1.mono hB) (kt1.mono hB) (hG.mono hB) bv oG bn.2) rfl (fun e' w15 hr=>?_);obtain⟨⟨s4,A4,n4,c4,rfl,h4⟩,b8⟩:=hr;replace b8:=sB b8;have hBy:Bel w15 w15:=Below.refl _ _;refine⟨_,rfl,?_⟩;refine wmT rfl (wl (y8 (v:= .agg _) rfl rfl) (wl (y8 (v:= .bool _) rfl rfl) ?_));refine yj (cs:=#[.string ⟨#[]⟩,.slice none 0 0]) JQ rfl (fun _=>rfl) (fun _=>rfl) xY rfl zJ (fun b11 w17 hb11 bq hr=>?_);refine zn5 ?_;replace a2:=a2.tr0 (bj.t (br.t (b8.t bq)));replace hB:=hB.tr0 (b8.t bq);rcases Bool.eq_false_or_eq_true ((tyv Γ x).isSome)with hk1|hk1
 ·refine zK 10 _ (ac hk1) nu ?_;rcases Bool.eq_false_or_eq_true ((tyv Γ y).isSome)with hk2|hk2
  ·refine zK 12 _ (ac hk2) nu ?_;by_cases q2:n3=2
   ·obtain⟨σ,hσ⟩:=aV.1 hk1;obtain⟨ζ,hζ⟩:=aV.1 hk2;obtain⟨rfl,e3,bu⟩:=h3 σ hσ;obtain⟨rfl,rfl,hs4⟩:=h4 ζ hζ;obtain⟨a,r,rfl⟩:=ts_two (e3.symm.trans q2);subst q2;obtain⟨ub,uo,A5,c5,rfl,hub,hur,hus⟩:=bu.at_ (k:=0) (by simp[Ts.sm,Sm.args]);obtain⟨_,_,A6,c6,e6,_,bd,bc⟩:=bu.at_ (k:=1) (by simp[Ts.sm,Sm.args]);cases e6
    change SimsIn _ A5 a.sm.args at hus
    change SimsIn _ A6 r.sm.args at bc
    change World.rangeAt _ ub (uo+0*2) [.string a.sm.base,.slice A5 a.sm.args.length c5]at hur
    change World.rangeAt _ ub (uo+1*2) [.string r.sm.base,.slice A6 r.sm.args.length c6]at bd
    refine u5 [] [0,1,2,3,4,5,6,7,8,9,10,11,12,13,14,15,16,17,18,19,20] rfl (fun w18 bi=>?_);refine vy ?_;refine hge 81 rfl rfl rfl (fun _ _=>r_neq rfl rfl) (ac (ao oG)) (zn4 ?_);refine hg 87 rfl rfl rfl (fun _ _=>xX (i:=0) U29 xY rfl rfl dE rfl) (hgS 87 rfl rfl rfl U31 rfl rfl (a9.u.range hub hur) xY (zn1 ?_));refine h1 rfl (zn1 ?_);refine zW kR (samE_any A5 A4 c5 c4 a ζ w18 (hus.mono a9.u) (hs4.mono hBy.u)) rfl (fun e' w19 hr=>?_);obtain⟨rfl,b1⟩:=hr;replace b1:=sB b1;have bf:=b1;refine⟨_,rfl,?_⟩;refine zQ (E2 bf (zn4 ?_));refine ky rfl (fun ca=>?_) (fun ca=>?_)
    ·have a1:tyv Γ (.app x y)=none:=app_no4 hσ hζ (by simpa using ca);refine zn2 ?_;refine wl (kK (vs:=#[]) (cs:=#[.string ⟨#[]⟩,.slice none 0 0]) (by simp) kR) ?_;refine zk a2.u rfl rfl xY rfl zJ (fun w20 hq t20=>?_);replace a2:=hq;refine zn5 ?_;refine kY (.inl rfl) rfl (zZ U31 rfl rfl a2.range0 xY) rfl ?_;replace hB:=(hB.tr0 (bi.t b1)).tr1 t20 ad;exact⟨⟨_,_,_,_,(by rw[a1];rfl),fun σ e=>by rw[a1]at e;cases e⟩,hB⟩
    have an:tyv Γ (.app x y)=some r:=app_yes hσ hζ (by simpa using ca);refine zn3 ?_;have hZ:SameQ [b4] w19 w19:=Same.refl _ _;replace a2:=a2.tr0 (bi.t b1);have b3:=a2;replace a9:=a9.tr0 (br.t (b8.t (bq.t (bi.t b1))));have a8:=a9;refine zn3 ?_;refine wl (xX (i:=1) U29 xY rfl rfl dE rfl) (wl (qZ U31 rfl rfl (a8.range hub bd) xY) ?_);refine zk a2 rfl rfl xY rfl zJ (fun w21 hq t21=>?_);replace hZ:=SameQ.trans hZ t21 (by simp);replace a2:=hq;refine zn4 ?_;refine kY (.inl rfl) rfl (zZ U31 rfl rfl a2.range0 xY) rfl ?_;replace hB:=(hB.tr0 (bi.t b1)).tr1 t21 ad;exact⟨⟨_,_,_,_,(by rw[an];rfl),fun σ e=>by rw[an]at e;obtain rfl:=Option.some.inj e;exact⟨rfl,rfl,Nq b3 hZ r (bc.mono a8)⟩⟩,hB⟩
   obtain⟨σ,hσ⟩:=aV.1 hk1;obtain⟨ζ,hζ⟩:=aV.1 hk2;obtain⟨rfl,e3,bu⟩:=h3 σ hσ;obtain⟨rfl,rfl,hs4⟩:=h4 ζ hζ;have a1:tyv Γ (.app x y)=none:=app_no3 hσ (fun h=>q2 (e3.trans h));refine u5 [] [0,1,2,3,4,5,6,7,8,9,10,11,12,13,14,15,16,17,18,19,20] rfl (fun w22 t22=>?_);refine vy ?_;refine hge 81 rfl rfl rfl (fun _ _=>r_neq rfl rfl) (ac (ah oG)) (My ?_);refine wl (kK (vs:=#[]) (cs:=#[.string ⟨#[]⟩,.slice none 0 0]) (by simp) kR) ?_;refine zk a2.u rfl rfl xY rfl zJ (fun w23 hq t23=>?_);replace a2:=hq;refine zn5 ?_;refine kY (.inl rfl) rfl (zZ U31 rfl rfl a2.range0 xY) rfl ?_;replace hB:=(hB.tr0 t22).tr1 t23 ad;exact⟨⟨_,_,_,_,(by rw[a1];rfl),fun σ e=>by rw[a1]at e;cases e⟩,hB⟩
  refine zK 12 _ (ac hk2) nu ?_;have a1:tyv Γ (.app x y)=none:=app_no2 hk2;refine u5 [] [0,1,2,3,4,5,6,7,8,9,10,11,12,13,14,15,16,17,18,19,20] rfl (fun w24 t24=>?_);refine zn26 ?_;refine wl (kK (vs:=#[]) (cs:=#[.string ⟨#[]⟩,.slice none 0 0]) (by simp) kR) ?_;refine zk a2.u rfl rfl xY rfl zJ (fun w25 hq t25=>?_);replace a2:=hq;refine zn5 ?_;refine kY (.inl rfl) rfl (zZ U31 rfl rfl a2.range0 xY) rfl ?_;replace hB:=(hB.tr0 t24).tr1 t25 ad;exact⟨⟨_,_,_,_,(by rw[a1];rfl),fun σ e=>by rw[a1]at e;cases e⟩,hB⟩
 refine zK 10 _ (ac hk1) nu ?_;have a1:tyv Γ (.app x y)=none:=app_no1 hk1;refine u5 [] [0,1,2,3,4,5,6,7,8,9,10,11,12,13,14,15,16,17,18,19,20] rfl (fun w26 t26=>?_);refine zn26 ?_;refine wl (kK (vs:=#[]) (cs:=#[.string ⟨#[]⟩,.slice none 0 0]) (by simp) kR) ?_;refine zk a2.u rfl rfl xY rfl zJ (fun w27 hq t27=>?_);replace a2:=hq;refine zn5 ?_;refine kY (.inl rfl) rfl (zZ U31 rfl rfl a2.range0 xY) rfl ?_;replace hB:=(hB.tr0 t26).tr1 t27 ad;exact⟨⟨_,_,_,_,(by rw[a1];rfl),fun σ e=>by rw[a1]at e;cases e⟩,hB⟩
theorem Bz:∀(k:Nat) (v:Tv),v.size<k->∀(Γ:List Ts) (A B C:Option Addr) (c m cc:Nat) (w:World),SimsIn w A (Tv.tm (v)).type.args->TmsIn w B (Tv.tm (v)).args->CtxIn w C Γ->List.length Γ<=cc->List.length Γ+(v).size<=1000->Tv.ok (List.length Γ) (v)->Calls prog 91 #[.agg #[.int .i64 (Tv.tm (v)).kind,.string (Tv.tm (v)).name,.int .i64 (Tv.tm (v)).index,.string (Tv.tm (v)).type.base,.slice A (Tv.tm (v)).type.args.length c,.slice B (Tv.tm (v)).args.length m],.slice C (List.length Γ) cc] w fun e w'=>(∃(s:ByteArray) (A':Option Addr) (n c':Nat),e= .returned (.tuple #[.agg #[.string s,.slice A' n c'],.bool (tyv (Γ) (v)).isSome])/\∀ τ,tyv (Γ) (v)=some τ->s=τ.sm.base/\n=τ.sm.args.length/\SimsIn w' A' τ.sm.args)/\Bel w w':=by
 intro k
 induction k with
 | zero=>intro v h;omega
 | succ k ih=>exact fun v h Γ A B C c m cc w h1 h2 h3 h4 h5 h6=>L7 h1 h2 h3 h4 h5 h6 (fun x hx=>ih x oG)
end
set_option maxRecDepth 100000 in
set_option maxHeartbeats 8000000 in
theorem L6(tv:Tv)(A B:Option Addr)(c m:Nat)(w0 w:World)(c1:Bel w0 w)(hS:SimsIn w0 A tv.tm.type.args)(hT:TmsIn w0 B tv.tm.args)(hv2:tv.size<=200)(hok:tv.ok 0):Calls Tryz.prog 74 #[.agg #[.int .i64 (Tv.tm tv).kind,.string (Tv.tm tv).name,.int .i64 (Tv.tm tv).index,.string (Tv.tm tv).type.base,.slice A (Tv.tm tv).type.args.length c,.slice B (Tv.tm tv).args.length m]] w fun e w'=>(∃(s:ByteArray) (A':Option Addr) (n c':Nat),e= .returned (.tuple #[.agg #[.string s,.slice A' n c'],.bool (tyv [] tv).isSome])/\∀ τ,tyv [] tv=some τ->s=τ.sm.base/\n=τ.sm.args.length/\TyS (nwX w0 w []) w' A' τ)/\Bel w w':=by
 refine enT Tryz.func74 Tryz.ntmps74 rfl rfl fun hB=>?_;refine zn2 ?_;refine qY (v:= .agg #[_,_,_,_,_,_]) (cs:=#[_,_,_,_,_,_]) rfl rfl (fun b1 w1 hb1 s1 hr=>?_);clear hr;refine qk (cs:=#[.string ⟨#[]⟩,.slice none 0 0]) JQ rfl (fun b2 w2 a2 s2 hr=>?_);have:=nLL hb1.lt hr;have cj:=nLT (Bel.size hB.u) hr;clear hr;refine zn6 ?_;refine zW kR (rows0_any tv A B c m w0 hS hT oG _ (c1.then hB.u)) rfl (fun e' w3 hr=>?_);obtain⟨⟨q,cap4,zs,rfl,ho4,hR4⟩,s3⟩:=hr;replace s3:=sB s3;obtain⟨wr,d5⟩:∃ z,z=w3:=⟨_,rfl⟩
 have a5:Bel wr w3:=by rw[d5];exact Below.refl _ _
 have dh:RdT w0 wr q (rws (-1) 0 tv):=by rw[d5];exact rdt_of ho4 hR4
 have di:q<wr.heap.size:=by rw[d5];exact(ho4.lt q (aj.2 rfl)).2
 have ca:(rws (-1) 0 tv).length=tv.size:=VQ _ _ _;have d6:=tv.pos;have hnd:J9 (rws (-1) 0 tv) 0 [] tv:=TZ (fun j h=>by rw[Nat.zero_add];exact aJ h) .nil dE;refine⟨_,rfl,?_⟩;refine zn7 ?_;refine wl_mk (m:=tv.size) U29 in31 rfl rfl oG oG (fun a6 w4 a1 s4 hr=>?_);have:=nLL hb1.u.lt hr;have:=nLL a2.u.lt hr;have cz:=nLT (Bel.size hB.u) hr;have bk:=nLT (Bel.size a5) hr;clear hr;refine zn5 ?_;have bg:¬nwX w0 w [b2,a6] a6:=nwX.no (by simp) c1 cz;have hS2:¬nwX w0 w [b2,a6] b2:=nwX.no (by simp) c1 cj;refine zn3 ?_;refine wl (jX (c:=((tv.size:Nat):Int)-1) rfl rfl rfl oG) (zn4 ?_);refine qj (rg [3,6,7,8,9] 18 86) (fun mm g w'=>∃(i:Nat) (z:Int) (F H:Nat->Value),i<=tv.size/\mm=i/\z+1=i/\g 6= .int .i64 z/\Bel w w'/\Bel wr w'/\Blk w' b2 31 #[.string ⟨#[]⟩,.slice none 0 0]/\Blk w' a6 31 (kX tv.size F H)/\TI (nwX w0 w [b2,a6]) (rws (-1) 0 tv) tv.size i F H w') (tv.size) ?_ (fun m g4 w5 hI=>?_)
 ·replace hB:=hB.tr0 (s1.t (s2.t (s3.t s4)));replace a2:=a2.tr0 (s3.t s4);replace a5:=a5.tr0 s4;exact⟨tv.size,_,_,_,ae _,rfl,by omega,rfl,hB,a5,a2,(by rw[<- EJ];exact a1),TI.start _ _ _ _⟩
 obtain⟨i,z,F,H,hi,hmi,hzi,h6,hB,a5,a2,a1,bh⟩:=hI;have a3:Bel w5 w5:=Below.refl _ _;refine zK 6 _ h6 nu (zn7 ?_);refine zV rfl (fun c19=>?_) (fun c19=>?_)
 ·obtain⟨p,rfl⟩:∃ p:Nat,z=p:=⟨z.toNat,by omega⟩
  obtain rfl:i=p+1:=by omega
  have bv:p<tv.size:=by omega
  have hpl:p<(nds [] tv).length:=by rw[NJ];exact bv
  obtain⟨bc,an,dy,bn,ad⟩:=Pj hnd hok (by simp) p hpl;rw[Nat.zero_add]at bc;have dn:=Px tv [] p hpl;rw[List.length_nil]at dn
  generalize (nds [] tv)[p].1=Γp at bc an dy ad dn
  generalize (nds [] tv)[p].2=vp at bc an bn ad dn
  obtain⟨r,hr,hkk⟩:=nd_row bc;obtain⟨A7,c7,K7,e6,hrr,hrt2,df,dg⟩:=dh p r hr;refine zn8 ?_;refine wl (xX (i:=p) U169 Fq rfl rfl bv rfl) (wl (qZ O7 rfl rfl (a5.range di hrr) Fq) ?_);refine yj (cs:=#[.int .i64 0,.string ⟨#[]⟩,.string ⟨#[]⟩,.slice none 0 0,.int .i64 0,.slice none 0 0,.int .i64 0]) ze172 rfl (fun _=>rfl) (fun _=>rfl) Fq rfl zJ (fun b7 w7 bw s5 hr=>?_);have:=nLL a2.lt hr;have:=nLL a1.lt hr;clear hr;refine My ?_;refine zV rfl (fun cv=>?_) (fun cv=>?_)
  ·obtain⟨nm,τ,rfl,bo⟩:=nd_con bc hr cv;rw[bo]at df;have hZ:SameQ [a6] w7 w7:=Same.refl _ _;replace a3:=a3.tr0 s5;have a9:=bh.mono a3;replace a1:=a1.tr0 s5;have bb:=a1;replace hB:=hB.tr0 s5;have bz:=hB;have b4:=a3;refine zn4 ?_;refine wl (qZ U31 rfl rfl (bw.sub (n:=2) (xs:=[_,_]) rfl) xY) (wl (xX (i:=p) U29 xY rfl rfl bv rfl) ?_);refine Vq a1 rfl rfl xY (by rw[gz];show 0+p*2+2<=tv.size*2;omega) zJ Nk (fun w8 hq s6=>?_);replace hZ:=SameQ.trans hZ s6 (by simp);replace a1:=hq;rw[bo]at a1;have a8:=a9.put (c:=c7) bg hZ (TyAt.con hr cv bo) (TyS.old df (c1.then bz) (fun _ h=> .inl h));refine zn6 ?_;refine wl (jX rfl rfl rfl oG) (zn2 ?_);refine xK (p) oG agA ?_;exact⟨p,_,_,_,by omega,rfl,by omega,rfl,hB.u,a5.u,a2.u,a1,a8⟩
  refine zn6 ?_;refine zV rfl (fun cu=>?_) (fun cu=>?_)
  ·obtain⟨i2,rfl,hri,hup,hch⟩:=nd_var bc hr cu;have hti:=aJ an;have hZ:SameQ [a6] w7 w7:=Same.refl _ _;replace a3:=a3.tr0 s5;have a9:=bh.mono a3;replace a1:=a1.tr0 s5;have bb:=a1;replace hB:=hB.tr0 s5;have bz:=hB;have b4:=a3;refine zn6 ?_;replace a5:=a5.tr0 s5;refine zW kR (binder_any dh ca a5 di hr hri hup hch hti (by have:i2<Γp.length:=an;omega)) rfl (fun e' w9 hr=>?_);obtain⟨⟨u,ru,rfl,hru,de⟩,s7⟩:=hr;replace s7:=sB s7;replace hZ:=SameQ.trans hZ s7 (by simp);obtain⟨A8,c8,K8,ck8,_,hr2,hs8,_⟩:=dh u ru hru;rw[de]at hr2 hs8;refine⟨_,rfl,?_⟩;refine wl (xX (i:=u) U169 Fq rfl rfl (by have h:=(av.1 hru).1;rw[ca]at h;exact h) rfl) ?_;refine zn1 ?_;refine wl (qZ U31 rfl rfl (a5.u.range di hr2) xY) (wl (xX (i:=p) U29 xY rfl rfl bv rfl) ?_);replace a1:=a1.tr0 s7;refine Vq a1 rfl rfl xY (by rw[gz];show 0+p*2+2<=tv.size*2;omega) zJ Nk (fun w10 hq s8=>?_);replace hZ:=SameQ.trans hZ s8 (by simp);replace a1:=hq;have a8:=a9.put (c:=c8) bg hZ (TyAt.var hr cu hri hch hti) (TyS.old hs8 (c1.then bz) (fun _ h=> .inl h));refine zn6 ?_;refine wl (jX rfl rfl rfl oG) (zn2 ?_);refine xK (p) oG agA ?_;exact⟨p,_,_,_,by omega,rfl,by omega,rfl,hB.u,a5.u,a2.u,a1,a8⟩
  refine zn6 ?_;refine zV rfl (fun cr=>?_) (fun cr=>?_)
  ·obtain⟨τ,x,rfl,bo,a4,cp⟩:=nd_abs bc hr cr;have bq:p+1<tv.size:=by have:=nd_lt cp;rw[ca]at this;exact this
   obtain⟨ρ,Aρ,cρ,hρ,dz,dx,hSρ⟩:=bh.t (p+1) (ae _) bq;have a7:0<r.kids.length:=by rw[a4];exact Nat.zero_lt_succ _
   obtain⟨kg,rfl,cq,cb⟩:=dg 0 a7;have e0:r.kids[0]'a7=((p+1:Nat):Int):=by simp[a4]
   rw[e0]at cb;replace a1:=a1.tr0 s5;have lt14:=a1.lt;replace a2:=a2.tr0 s5;have lt2:=a2.lt;replace hB:=hB.tr0 s5;have szw:=Bel.size hB;refine uw 13 (rg [] 49 13) (fun _=>false) (fun ix v wv=>match ix with|0=>v= .slice (some ⟨a6,0,none⟩) tv.size tv.size|1=>v= .int .i64 ((p:Nat):Int)|2=>v= .pointer (some ⟨b7,0+2,none⟩)|3=>v= .agg #[.string r.typ.base,.slice A7 r.typ.args.length c7]|4=>v= .slice (some ⟨a6,0,none⟩) tv.size tv.size|5=>v= .pointer (some ⟨b7,0+5,none⟩)|6=>v= .slice (some ⟨kg,0,none⟩) r.kids.length e6|7=>v= .pointer (some ⟨kg,0+0*1,none⟩)|8=>v= .int .i64 ((p+1:Nat):Int)|9=>v= .pointer (some ⟨a6,0+(p+1)*2,none⟩)|10=>v= .agg #[.string ρ.sm.base,.slice Aρ ρ.sm.args.length cρ]|11=>∃ b,v= .agg #[.string ⟨#[]⟩,.slice (some ⟨b,0,none⟩) 2 2]/\w7.heap.size<=b/\Blk wv b 31 #[.string r.typ.base,.slice A7 r.typ.args.length c7,.string ρ.sm.base,.slice Aρ ρ.sm.args.length cρ]|12=>v= .pointer (some ⟨a6,0+p*2,none⟩)|_=>True) kR kR ?_ ?_ ?_
   ·intro ix v wv wv2 h s9
    match ix,h with
    | 0,h=>exact h
    | 1,h=>exact h
    | 2,h=>exact h
    | 3,h=>exact h
    | 4,h=>exact h
    | 5,h=>exact h
    | 6,h=>exact h
    | 7,h=>exact h
    | 8,h=>exact h
    | 9,h=>exact h
    | 10,h=>exact h
    | 11,h=>
     obtain⟨cw,e5,b5,b3⟩:=h;exact⟨cw,e5,b5,b3.tr0 s9⟩
    | 12,h=>exact h
    | _+13,h=>exact trivial
   ·intro ix o hix hoq gg wx s10 hd dm
    match ix,hix,hoq with
    | 0,_,hoq=>
     cases sI hoq;exact oVq (xz (v:= .slice _ _ _) rfl) rfl
    | 1,_,hoq=>
     cases sI hoq;exact oVq (xz (v:= .int _ _) rfl) rfl
    | 2,_,hoq=>
     cases sI hoq;exact oVq (uK O7 xY dE rfl rfl rfl) rfl
    | 3,_,hoq=>
     cases sI hoq;refine aW 51 (hd 2 aX) ?_;exact oVq (qZ U31 rfl rfl (bw.u.sub (n:=2) (xs:=[_,_]) rfl) xY) rfl
    | 4,_,hoq=>
     cases sI hoq;exact oVq (xz (v:= .slice _ _ _) rfl) rfl
    | 5,_,hoq=>
     cases sI hoq;exact oVq (uK O7 MV dE rfl rfl rfl) rfl
    | 6,_,hoq=>
     cases sI hoq;refine aW 54 (hd 5 aX) ?_;exact oVq (qW (v:= .slice _ _ _) U68 rfl rfl (bw.u.cell rfl)) rfl
    | 7,_,hoq=>
     cases sI hoq;refine aW 55 (hd 6 aX) ?_;exact oVq (xX (i:=0) U68 xx rfl rfl a7 rfl) rfl
    | 8,_,hoq=>
     cases sI hoq;refine aW 56 (hd 7 aX) ?_;exact oVq (qW (v:= .int _ _) U3 rfl rfl (a5.u.cell cq cb)) rfl
    | 9,_,hoq=>
     cases sI hoq;refine aW 53 (hd 4 aX) (aW 57 (hd 8 aX) ?_);exact oVq (xX (i:=(p+1)) U29 xY rfl rfl bq rfl) rfl
    | 10,_,hoq=>
     cases sI hoq;refine aW 58 (hd 9 aX) ?_;exact oVq (qZ U31 rfl rfl (Nv a1.u bq dz dx) xY) rfl
    | 11,_,hoq=>
     cases sI hoq;have bf:=s10;refine aW 52 (hd 3 aX) (aW 59 (hd 10 aX) ?_);refine vw kR (to_any A7 Aρ c7 cρ r.typ ρ.sm wx) rfl (fun e' w2 hr=>?_);obtain⟨⟨cw,rfl,b5,b3⟩,s11⟩:=hr;exact⟨_,rfl,sB s11,⟨_,rfl,nLT bf.size b5,b3⟩,xQ⟩
    | 12,_,hoq=>
     cases sI hoq;refine aW 49 (hd 0 aX) (aW 50 (hd 1 aX) ?_);exact oVq (xX (i:=p) U29 xY rfl rfl bv rfl) rfl
    | _+13,hix,_=>exact absurd hix oG
   intro gg w11 cx hR dm;obtain⟨cw,e5,b5,b3⟩:=hR 11 dE;have hZ:SameQ [a6] w11 w11:=Same.refl _ _;replace a3:=a3.tr0 (s5.t cx);have a9:=bh.mono a3;replace a1:=a1.tr0 cx;have bb:=a1;replace hB:=hB.tr0 cx;have bz:=hB;have b4:=a3;have dk:nwX w0 w [b2,a6] cw:=nwX.yes (nLT szw b5) oG oG;rw[bo]at b3;refine x9 60 _ e5 nu (x9 61 _ (hR 12 dE) nu ?_);refine Vq a1 rfl rfl xY (by rw[gz];show 0+p*2+2<=tv.size*2;omega) zJ Nk (fun w12 hq s13=>?_);replace hZ:=SameQ.trans hZ s13 (by simp);replace a1:=hq;have a8:=a9.put (c:=2) bg hZ ((TyAt.abs hr cr bo hρ:TyAt _ _ (Ts.f τ ρ))) (TyS.mk b3 dk (TyS.old (bo ▸ df) (c1.then bz) (fun _ h=> .inl h)) (hSρ.mono b4));refine zn6 ?_;refine wl (jX rfl rfl rfl oG) (zn2 ?_);refine xK (p) oG agA ?_;exact⟨p,_,_,_,by omega,rfl,by omega,rfl,hB.u,a5.u,a2.u,a1,a8⟩
  refine zn6 ?_;refine zV rfl (fun c2=>?_) (fun c2=>?_)
  ·obtain⟨x,y,rfl,a4,cp,hny⟩:=nd_app bc hr c2;have bq:p+1<tv.size:=by have:=nd_lt cp;rw[ca]at this;exact this
   have dj:p+1+x.size<tv.size:=by have:=nd_lt hny;rw[ca]at this;exact this
   obtain⟨α,Aα,cα,hα,dz,dx,hSα⟩:=bh.t (p+1) (ae _) bq;obtain⟨β,Aβ,cβ,hβ,hF2,hH2,hSβ⟩:=bh.t (p+1+x.size) oG dj;have a7:0<r.kids.length:=by rw[a4];exact Nat.zero_lt_succ _
   have br:1<r.kids.length:=by rw[a4];exact Nat.one_lt_two
   obtain⟨kg,rfl,cq,cb⟩:=dg 0 a7;obtain⟨_,e9,_,hk1⟩:=dg 1 br;cases e9;have e0:r.kids[0]'a7=((p+1:Nat):Int):=by simp[a4]
   have e1:r.kids[1]'br=((p+1+x.size:Nat):Int):=by simp[a4]
   rw[e0]at cb;rw[e1]at hk1;refine xy ?_;replace hB:=hB.tr0 s5;have hszB:=Bel.size hB;replace a5:=a5.tr0 s5;have hszR:=Bel.size a5;replace a3:=a3.tr0 s5;have hszK:=Bel.size a3;replace a2:=a2.tr0 s5;have lt2W:=a2.lt;replace a1:=a1.tr0 s5;have lt14W:=a1.lt;have lt7W:=bw.lt;refine HQ 18 [64,65,66,67,68,69,70,71,72,73,74,75,76,77,8,9] [] (fun ix=>Nat.beq ix 16||Nat.beq ix 17) (fun st ix v la ha wv=>match ix with|0=>v= .slice (some ⟨a6,0,none⟩) tv.size tv.size|1=>v= .pointer (some ⟨b7,0+5,none⟩)|2=>v= .slice (some ⟨kg,0,none⟩) r.kids.length e6|3=>v= .pointer (some ⟨kg,0+0*1,none⟩)|4=>v= .int .i64 ((p+1:Nat):Int)|5=>v= .pointer (some ⟨a6,0+(p+1)*2,none⟩)|6=>v= .agg #[.string α.sm.base,.slice Aα α.sm.args.length cα]|7=>v= .slice (some ⟨a6,0,none⟩) tv.size tv.size|8=>v= .pointer (some ⟨b7,0+5,none⟩)|9=>v= .slice (some ⟨kg,0,none⟩) r.kids.length e6|10=>v= .pointer (some ⟨kg,0+1*1,none⟩)|11=>v= .int .i64 ((p+1+x.size:Nat):Int)|12=>v= .pointer (some ⟨a6,0+(p+1+x.size)*2,none⟩)|13=>v= .agg #[.string β.sm.base,.slice Aβ β.sm.args.length cβ]|14=>∃ b:Nat,v= .pointer (some ⟨b,0,none⟩)/\w7.heap.size<=b/\(st 16=false->Blk wv b 31 #[.string ⟨#[]⟩,.slice none 0 0])/\(st 16=true->Blk wv b 31 #[.string α.sm.base,.slice Aα α.sm.args.length cα])/\la<=b/\b<ha|15=>∃ b:Nat,v= .pointer (some ⟨b,0,none⟩)/\w7.heap.size<=b/\(st 17=false->Blk wv b 31 #[.string ⟨#[]⟩,.slice none 0 0])/\(st 17=true->Blk wv b 31 #[.string β.sm.base,.slice Aβ β.sm.args.length cβ])/\la<=b/\b<ha|16=>True|17=>True|_=>True) kR kR kR ?_ ?_ ?_
   ·intro st ix v la ha wv wv2 h s14
    match ix,h with
    | 0,h=>exact h
    | 1,h=>exact h
    | 2,h=>exact h
    | 3,h=>exact h
    | 4,h=>exact h
    | 5,h=>exact h
    | 6,h=>exact h
    | 7,h=>exact h
    | 8,h=>exact h
    | 9,h=>exact h
    | 10,h=>exact h
    | 11,h=>exact h
    | 12,h=>exact h
    | 13,h=>exact h
    | 14,h=>
     obtain⟨b8,e8,cg,cm,co,d3,dv⟩:=h;exact⟨b8,e8,cg,fun h=>(cm h).tr0 s14,fun h=>(co h).tr0 s14,d3,dv⟩
    | 15,h=>
     obtain⟨b9,e9,cf,ck,cn,d2,du⟩:=h;exact⟨b9,e9,cf,fun h=>(ck h).tr0 s14,fun h=>(cn h).tr0 s14,d2,du⟩
    | 16,h=>exact h
    | 17,h=>exact h
    | _+18,h=>exact trivial
   ·intro st ix o hix hoq hns gg wx la ha s15 hd
    match ix,hix,hoq,hns with
    | 0,_,hoq,hns=>
     cases sI hoq;show OS _ _ _ _ _ _;refine qQ (xz (v:= .slice _ _ _) rfl) ⟨Same.refl _ _,?_⟩;exact rfl
    | 1,_,hoq,hns=>
     cases sI hoq;show OS _ _ _ _ _ _;refine qQ (uK O7 MV dE rfl rfl rfl) ⟨Same.refl _ _,?_⟩;exact rfl
    | 2,_,hoq,hns=>
     cases sI hoq;show OS _ _ _ _ _ _;refine aW 65 (hd 1 _ aX rfl) ?_;refine qQ (qW (v:= .slice _ _ _) U68 rfl rfl (bw.u.cell rfl)) ⟨Same.refl _ _,?_⟩;exact rfl
    | 3,_,hoq,hns=>
     cases sI hoq;show OS _ _ _ _ _ _;refine aW 66 (hd 2 _ aX rfl) ?_;refine qQ (xX (i:=0) U68 xx rfl rfl a7 rfl) ⟨Same.refl _ _,?_⟩;exact rfl
    | 4,_,hoq,hns=>
     cases sI hoq;show OS _ _ _ _ _ _;refine aW 67 (hd 3 _ aX rfl) ?_;refine qQ (qW (v:= .int _ _) U3 rfl rfl (a5.u.cell cq cb)) ⟨Same.refl _ _,?_⟩;exact rfl
    | 5,_,hoq,hns=>
     cases sI hoq;show OS _ _ _ _ _ _;refine aW 64 (hd 0 _ aX rfl) (aW 68 (hd 4 _ aX rfl) ?_);refine qQ (xX (i:=(p+1)) U29 xY rfl rfl bq rfl) ⟨Same.refl _ _,?_⟩;exact rfl
    | 6,_,hoq,hns=>
     cases sI hoq;show OS _ _ _ _ _ _;refine aW 69 (hd 5 _ aX rfl) ?_;refine qQ (qZ U31 rfl rfl (Nv a1.u bq dz dx) xY) ⟨Same.refl _ _,?_⟩;exact rfl
    | 7,_,hoq,hns=>
     cases sI hoq;show OS _ _ _ _ _ _;refine qQ (xz (v:= .slice _ _ _) rfl) ⟨Same.refl _ _,?_⟩;exact rfl
    | 8,_,hoq,hns=>
     cases sI hoq;show OS _ _ _ _ _ _;refine qQ (uK O7 MV dE rfl rfl rfl) ⟨Same.refl _ _,?_⟩;exact rfl
    | 9,_,hoq,hns=>
     cases sI hoq;show OS _ _ _ _ _ _;refine aW 72 (hd 8 _ aX rfl) ?_;refine qQ (qW (v:= .slice _ _ _) U68 rfl rfl (bw.u.cell rfl)) ⟨Same.refl _ _,?_⟩;exact rfl
    | 10,_,hoq,hns=>
     cases sI hoq;show OS _ _ _ _ _ _;refine aW 73 (hd 9 _ aX rfl) ?_;refine qQ (xX (i:=1) U68 xx rfl rfl br rfl) ⟨Same.refl _ _,?_⟩;exact rfl
    | 11,_,hoq,hns=>
     cases sI hoq;show OS _ _ _ _ _ _;refine aW 74 (hd 10 _ aX rfl) ?_;refine qQ (qW (v:= .int _ _) U3 rfl rfl (a5.u.cell cq hk1)) ⟨Same.refl _ _,?_⟩;exact rfl
    | 12,_,hoq,hns=>
     cases sI hoq;show OS _ _ _ _ _ _;refine aW 71 (hd 7 _ aX rfl) (aW 75 (hd 11 _ aX rfl) ?_);refine qQ (xX (i:=(p+1+x.size)) U29 xY rfl rfl dj rfl) ⟨Same.refl _ _,?_⟩;exact rfl
    | 13,_,hoq,hns=>
     cases sI hoq;show OS _ _ _ _ _ _;refine aW 76 (hd 12 _ aX rfl) ?_;refine qQ (qZ U31 rfl rfl (Nv a1.u dj hF2 hH2) xY) ⟨Same.refl _ _,?_⟩;exact rfl
    | 14,_,hoq,hns=>
     cases sI hoq;show OS _ _ _ _ _ _;have bf:=s15;refine jZ (fun cy Q K=>?_);refine qk (cs:=#[.string ⟨#[]⟩,.slice none 0 0]) JQ rfl (fun b8 w1 dr s16 hr=>?_);exact K _ _ ⟨s16,_,rfl,nLT bf.size hr,fun _=>dr,(fun h=>absurd (hns 16 rfl kR) (by rw[h];decide)),hr,dr.lt⟩
    | 15,_,hoq,hns=>
     cases sI hoq;show OS _ _ _ _ _ _;have bf:=s15;refine jZ (fun cy Q K=>?_);refine qk (cs:=#[.string ⟨#[]⟩,.slice none 0 0]) JQ rfl (fun b9 w1 dq s17 hr=>?_);exact K _ _ ⟨s17,_,rfl,nLT bf.size hr,fun _=>dq,(fun h=>absurd (hns 17 rfl kR) (by rw[h];decide)),hr,dq.lt⟩
    | 16,_,hoq,hns=>
     cases sI hoq;show st 16=false->(∀ j k,j∈_->k∈_->j≠k->ha j<=la k\/ha k<=la j)->OS _ _ _ _ _ _;intro hn hI;have bf:=s15;obtain⟨b8,e8,cg,cm,co,d3,dv⟩:=hd 14 _ (zj kR) rfl;refine aW 70 (hd 6 _ aX rfl) (zz 8 _ e8 nu ?_);have d4:=cm hn;have hdj:=hI 14 15 (zj kR) (zj kR) dE;refine TX (fun cy Q K=>?_);refine zk d4 rfl rfl xY rfl zJ (fun w2 hq be=>?_);have K2:=K w2;refine K2 ⟨bf.freshL be (fun g hg=>by rw[List.mem_singleton.1 hg];exact .inr cg),be.size,?_,fun kx ox bd b6 h=>?_⟩
     ·exact trivial
     match kx,bd,b6,h with
     | 0,_,_,h=>exact h
     | 1,_,_,h=>exact h
     | 2,_,_,h=>exact h
     | 3,_,_,h=>exact h
     | 4,_,_,h=>exact h
     | 5,_,_,h=>exact h
     | 6,_,_,h=>exact h
     | 7,_,_,h=>exact h
     | 8,_,_,h=>exact h
     | 9,_,_,h=>exact h
     | 10,_,_,h=>exact h
     | 11,_,_,h=>exact h
     | 12,_,_,h=>exact h
     | 13,_,_,h=>exact h
     | 14,_,b6,h=>
      obtain rfl:_=ox:=Option.some.inj b6;obtain⟨bx,ex,bj,c3,c4,bm,bu⟩:=h;have dp:bx=b8:=by
        have h:=ex.symm.trans e8;cases h;rfl
      subst dp;exact⟨bx,ex,bj,(fun h=>by cases (show true=false from h)),fun _=>hq,bm,bu⟩
     | 15,_,b6,h=>
      obtain rfl:_=ox:=Option.some.inj b6;obtain⟨bx,ex,bj,c3,c4,bm,bu⟩:=h;exact⟨bx,ex,bj,fun h=>(c3 h).tr be (fun hm=>by have:=aj.1 hm;omega),fun h=>(c4 h).tr be (fun hm=>by have:=aj.1 hm;omega),bm,bu⟩
     | 16,bd,_,_=>exact absurd rfl bd
     | 17,_,_,h=>exact h
     | _+18,_,_,_=>exact trivial
    | 17,_,hoq,hns=>
     cases sI hoq;show st 17=false->(∀ j k,j∈_->k∈_->j≠k->ha j<=la k\/ha k<=la j)->OS _ _ _ _ _ _;intro hn hI;have bf:=s15;obtain⟨b9,e9,cf,ck,cn,d2,du⟩:=hd 15 _ (zj kR) rfl;refine aW 77 (hd 13 _ aX rfl) (zz 9 _ e9 nu ?_);have d4:=ck hn;have hdj:=hI 14 15 (zj kR) (zj kR) dE;refine TX (fun cy Q K=>?_);refine zk d4 rfl rfl xY rfl zJ (fun w2 hq be=>?_);have K2:=K w2;refine K2 ⟨bf.freshL be (fun g hg=>by rw[List.mem_singleton.1 hg];exact .inr cf),be.size,?_,fun kx ox bd b6 h=>?_⟩
     ·exact trivial
     match kx,bd,b6,h with
     | 0,_,_,h=>exact h
     | 1,_,_,h=>exact h
     | 2,_,_,h=>exact h
     | 3,_,_,h=>exact h
     | 4,_,_,h=>exact h
     | 5,_,_,h=>exact h
     | 6,_,_,h=>exact h
     | 7,_,_,h=>exact h
     | 8,_,_,h=>exact h
     | 9,_,_,h=>exact h
     | 10,_,_,h=>exact h
     | 11,_,_,h=>exact h
     | 12,_,_,h=>exact h
     | 13,_,_,h=>exact h
     | 14,_,b6,h=>
      obtain rfl:_=ox:=Option.some.inj b6;obtain⟨bx,ex,bj,c3,c4,bm,bu⟩:=h;exact⟨bx,ex,bj,fun h=>(c3 h).tr be (fun hm=>by have:=aj.1 hm;omega),fun h=>(c4 h).tr be (fun hm=>by have:=aj.1 hm;omega),bm,bu⟩
     | 15,_,b6,h=>
      obtain rfl:_=ox:=Option.some.inj b6;obtain⟨bx,ex,bj,c3,c4,bm,bu⟩:=h;have dp:bx=b9:=by
        have h:=ex.symm.trans e9;cases h;rfl
      subst dp;exact⟨bx,ex,bj,(fun h=>by cases (show true=false from h)),fun _=>hq,bm,bu⟩
     | 16,_,_,h=>exact h
     | 17,bd,_,_=>exact absurd rfl bd
     | _+18,_,_,_=>exact trivial
    | _+18,hix,_,_=>exact absurd hix oG
   intro st gg w13 la ha cc ce hR hI;obtain⟨b8,e8,cg,cm,co,d3,dv⟩:=hR 14 _ rfl;obtain⟨b9,e9,cf,ck,cn,d2,du⟩:=hR 15 _ rfl;have dr:=co (cc 16 dE rfl);have dq:=cn (cc 17 dE rfl);refine x9 70 _ (hR 6 _ rfl) nu (x9 77 _ (hR 13 _ rfl) nu (x9 8 _ e8 nu (x9 9 _ e9 nu (zn4 ?_))));replace hB:=hB.tr0 ce;replace a2:=a2.tr0 ce;by_cases qa:α.sm.base=⟨#[]⟩
   ·obtain⟨a,ρ,rfl⟩:=ts_fun qa;obtain⟨ub,uo,A5,c5,A6,c6,rfl,hub,hSub,d8,hus,d7⟩:=hSα;obtain⟨hur,d9⟩:=rng4 d8;have db:=nd_txt cp an.1 dy (by have:x.size+y.size+1<=tv.size:=bn;omega) hα;have da:=nd_txt hny an.2 dy (by have:x.size+y.size+1<=tv.size:=bn;omega) hβ;have dc:a.txt.length<=1000000:=by simp only[Ts.txt,List.length_cons,List.length_append]at db;omega
    refine u5 [] [0,1,2,3,4,5,6,7,8,9,10,11,12,13,14,15,16,17] rfl (fun w14 cd=>?_);refine zn2 ?_;refine hle rfl (fun _=>G5 rfl rfl) (ac (ao (fun h=>h rfl))) (zn4 ?_);refine hge 81 rfl rfl rfl (fun _ _=>r_neq rfl rfl) (ac (ao (fun h=>h rfl))) (zn4 ?_);refine hg 87 rfl rfl rfl (fun _ _=>xX (i:=0) U29 xY rfl rfl (by show 0<2;decide) rfl) (hgS 87 rfl rfl rfl U31 rfl rfl (a3.u.range hub hur) xY (zn1 ?_));refine h1 rfl (zn1 ?_);refine zW kR (samet_any A5 Aβ c5 cβ a β w14 ((hus.sims _).mono a3.u) ((hSβ.sims _).mono a3.u) dc da) rfl (fun e' w15 hr=>?_);obtain⟨rfl,bi⟩:=hr;replace bi:=sB bi;have c9:=bi;refine⟨_,rfl,?_⟩;refine zQ (E2 c9 (zn4 ?_));refine ky rfl (fun e7=>?_) (fun e7=>?_)
    ·have bd:a.eqb β=false:=by simpa using e7
     have ba:tyv Γp (.app x y)=none:=ty_no bc hr c2 a4 hα hβ (fun ρ2 e=>by rw[(Ts.f.inj e).1,Ts.eqb_iff.2 rfl]at bd;cases bd);have bt:(tyv [] tv).isSome=false:=by
       cases hq:(tyv [] tv).isSome with
       | false=>rfl
       | true=>have:=ad hq;rw[ba]at this;cases this
     refine zn2 ?_;refine wl (kK (vs:=#[]) (cs:=#[.string ⟨#[]⟩,.slice none 0 0]) (by simp) kR) ?_;refine zk a2.u rfl rfl xY rfl zJ (fun w16 hq s21=>?_);replace a2:=hq;refine kQ ?_;refine kY (.inl rfl) rfl (zZ U31 rfl rfl a2.range0 xY) rfl ?_;replace hB:=(hB.tr0 (cd.t bi)).tr1 s21 cj;exact⟨⟨_,_,_,_,by rw[bt];rfl,fun τ h=>by rw[h]at bt;cases bt⟩,hB⟩
    have heq:a=β:=Ts.eqb_iff.1 (by simpa using e7);refine J7 (e_S ?_);have hZ:SameQ [a6] w15 w15:=Same.refl _ _;replace a3:=a3.tr0 (ce.t (cd.t bi));have a9:=bh.mono a3;replace a1:=a1.tr0 (ce.t (cd.t bi));have bb:=a1;replace hB:=hB.tr0 (cd.t bi);have bz:=hB;have b4:=a3;refine zn5 ?_;refine wl (xX (i:=1) U29 xY rfl rfl (by show 1<2;decide) rfl) (wl (qZ U31 rfl rfl (b4.range hub d9) xY) (wl (xX (i:=p) U29 xY rfl rfl bv rfl) ?_));refine Vq a1 rfl rfl xY (by rw[gz];show 0+p*2+2<=tv.size*2;omega) zJ Nk (fun w17 hq s22=>?_);replace hZ:=SameQ.trans hZ s22 (by simp);replace a1:=hq;have a8:=a9.put (c:=c6) bg hZ (TyAt.app hr c2 a4 hα (heq ▸ hβ)) (d7.mono b4);refine zn6 ?_;refine wl (jX rfl rfl rfl oG) (zn2 ?_);refine xK (p) oG agA ?_;exact⟨p,_,_,_,by omega,rfl,by omega,rfl,hB.u,a5.u,a2.u,a1,a8⟩
   have ba:tyv Γp (.app x y)=none:=ty_no bc hr c2 a4 hα hβ (fun ρ e=>qa (by rw[e];rfl));have bt:(tyv [] tv).isSome=false:=by
     cases hq:(tyv [] tv).isSome with
     | false=>rfl
     | true=>have:=ad hq;rw[ba]at this;cases this
   refine u5 [] [0,1,2,3,4,5,6,7,8,9,10,11,12,13,14,15,16,17] rfl (fun w18 s23=>?_);refine zn2 ?_;refine hle rfl (fun _=>G5 rfl rfl) (ac (ah qa)) (zn20 ?_);refine wl (kK (vs:=#[]) (cs:=#[.string ⟨#[]⟩,.slice none 0 0]) (by simp) kR) ?_;refine zk a2.u rfl rfl xY rfl zJ (fun w19 hq s24=>?_);replace a2:=hq;refine kQ ?_;refine kY (.inl rfl) rfl (zZ U31 rfl rfl a2.range0 xY) rfl ?_;replace hB:=(hB.tr0 s23).tr1 s24 cj;exact⟨⟨_,_,_,_,by rw[bt];rfl,fun τ h=>by rw[h]at bt;cases bt⟩,hB⟩
  rcases hkk with h|h|h|h
  · exact absurd h cv
  · exact absurd h cu
  · exact absurd h cr
  · exact absurd h c2
 obtain⟨τ0,A0,c0,hT0,hF0,hH0,dw⟩:=bh.t 0 oG d6;have hty:tyv [] tv=some τ0:=hT0 _ _ hnd;refine zn8 ?_;refine wl (xX (i:=0) U29 xY rfl rfl d6 rfl) (wl (qZ U31 rfl rfl (Nv a1 d6 hF0 hH0) xY) ?_);refine zk a2 rfl rfl xY rfl zJ (fun w20 hq s25=>?_);replace dw:=dw.tr s25 (fun g hg=> .inl (by rw[List.mem_singleton.1 hg];exact hS2));replace a2:=hq;refine zn4 ?_;refine kY (.inl rfl) rfl (zZ U31 rfl rfl a2.range0 xY) rfl ?_;replace hB:=hB.tr1 s25 cj;exact⟨⟨_,_,_,_,by rw[hty];rfl,fun τ h=>by obtain rfl:=Option.some.inj (hty.symm.trans h);exact⟨rfl,rfl,dw.imp (fun b _ h=>h.imp id (fun h=>⟨h.1,by simp⟩)) _⟩⟩,hB⟩
end Go.Proofs.YtiofaflajkgiaaaGreatDoor
