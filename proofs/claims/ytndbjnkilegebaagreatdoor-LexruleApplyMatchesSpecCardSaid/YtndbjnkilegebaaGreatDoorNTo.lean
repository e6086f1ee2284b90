/- What these functions compute, at every world: ref1.rows, ref1.binder, term.Typed, ref1.TypeOf; and plain laws. -/
import Derived.Test.YtndbjnkilegebaaGreatDoorEng2
import Derived.Test.YtndbjnkilegebaaGreatDoorU
import Derived.Test.YtndbjnkilegebaaGreatDoorZst
import Derived.Test.YtndbjnkilegebaaGreatDoorTyp
import Derived.Test.YtndbjnkilegebaaGreatDoorNTw
import Derived.Test.YtndbjnkilegebaaGreatDoorGro
import Derived.Test.YtndbjnkilegebaaGreatDoorGSearch
namespace Go.Proofs.YtndbjnkilegebaaGreatDoor
open Go.RowKit Go.Proofs.Tryz
variable {v:Tv}{w w0:World}
section
section monok
variable {P:Program} {Q:Exit->Act->World->Prop} {n:Nw} {f:Fr} {w:World}
def monoKG(l:List Oper)(m:Nat)(S:List Nat):Bool:=J5 l m S (fun _=>true)&&decide (l.length=m)
theorem H3{Post:Value->World->Prop}{op:Op}{ty:TypeId}{pos:String}{af:Array Edge}(h:∀(ops:Array Oper) (Q:Exit->Act->World->Prop),(∀ w',Post undef w'->WL P ops Q [] n f w')->WL P ops Q [⟨none,op,ty,pos,af,none⟩] n f w):OS P n f w ⟨none,op,ty,pos,af,none⟩ Post:=by
 unfold OS;intro K Q hK
 have h1:=h #[] (F3 K Q) (fun w' hp=>by
  unfold WL;refine wpList_nil ?_;have:=hK undef w' hp
  exact this)
 unfold WL wpList at h1;rw[if_pos (by simp[Region.wanted])]at h1;have ho:¬LetsOut (F3 K Q):=fun⟨_,_,h⟩=>h
 rcases h1 with h1|⟨_,h1⟩
 ·exact MK (Q:=F3 K Q) (fun a w h=>h) (fun c a w h=>h) ho h1
 ·exact absurd h1 ho
theorem Fy{id:Nat}{l:List Oper}(m:Nat)(S X:List Nat)(R:Nat->Value->World->Prop)(J:World->Prop)(hm:P.follows .mixedOrders=true)(hB:monoKG l m S=true)
  (hst:∀ i v w1 w2,R i v w1->Same [] w1 w2->R i v w2) (hJ:∀ w1 w2,J w1->Same [] w1 w2->J w2) (hJ0:J w)
  (step:∀ i o,i<m->l[i]? =some o->∀ g w',Same X w w'->J w'->(∀ j o',j∈kw o->l[j]? =some o'->R j (vO g o') w')->(Region.wanted o (yielded l.toArray (AF n (ovr S g f)).tmps)=true->match o.dst with
   | some _=>OS P n (ovr S g f) w' o (fun v w''=>Same [] w' w''/\R i v w''/\Frsh false w' w'' v)
   | none=>OS P n (ovr S g f) w' o (fun _ w''=>Same X w' w''/\J w''/\R i undef w''/\∀ k v,k≠i->R k v w'->R k v w''))/\(Region.wanted o (yielded l.toArray (AF n (ovr S g f)).tmps)=false->R i undef w'))
  (fin:∀ g w',Same X w w'->J w'->(∀ i o,l[i]? =some o->R i (vO g o) w')->WL P l.toArray Q [] n (ovr S g f) w'):WC P (.region id l.toArray true) Q n f w:=by
 obtain⟨hB,hlm⟩:=aJ.1 hB;have hlm:l.length=m:=aO hlm
 refine any_m m S [] (fun d val w'=>Same X w w'/\J w'/\∀ i,i<m->d i=true->R i (val i) w') hm hB (fun _ i o hi hil=>absurd hil oG) (fun val w' hs=>⟨hs.weak (by simp),hJ _ _ hJ0 hs,fun _ _ h=>(aQ h).elim⟩) (fun i o d g w' hi ho _ hn hd _ hI=>?_) (fun listed g w' hz hD ht a1 hI=>any_done (fun i hi=>a1 i oG rfl) (fin g w' hI.1 hI.2.1 (fun i o ho=>by
  have hi:=(aC.1 ho).1;have:=hI.2.2 i oG (a1 i oG rfl)
  rwa[NQ ho]at this)))
 obtain⟨hs,hj,hR⟩:=hI;have h:=step i o hi ho g w' hs hj (fun j o' hjd ho'=>by have:=hR j (hd j hjd).1 (hd j hjd).2;rwa[NQ ho']at this);refine⟨fun hw=>?_,fun hw val hv=>⟨hs,hj,X2 (p:=fun i v=>R i v w') (q:=fun i v=>R i v w') hv hR (fun _ _ _ h=>h) (by rw[rv_undef];exact h.2 hw)⟩⟩;replace h:=h.1 hw;cases hdst:o.dst with
 | some d'=>
  simp only[hdst]at h;exact Vk h (fun v w'' ⟨h1,h2,_⟩ val hv=>⟨hs.t (h1.weak (by simp)),hJ _ _ hj h1,X2 (p:=fun i v=>R i v w') (q:=fun i v=>R i v w'') hv hR (fun j x _ hr=>hst _ _ _ _ hr h1) (by unfold rv;rw[hdst];exact h2)⟩)
 | none=>
  simp only[hdst]at h;exact Vk h (fun v w'' ⟨h1,h2,h3,h4⟩ val hv=>⟨hs.t h1,h2,X2 (p:=fun i v=>R i v w') (q:=fun i v=>R i v w'') hv hR h4 (by unfold rv;rw[hdst];exact h3)⟩)
end monok
end
theorem in152:(prog.info? 152).map (fun i=>(i.zero,i.size,i.bytes))=some (some (.agg #[.int .i64 0,.string ⟨#[]⟩,.string ⟨#[]⟩,.slice none 0 0,.int .i64 0,.slice none 0 0,.int .i64 0]),7,104):=by kernel_rfl
theorem Gw:(prog.info? 152).map (·.size)=some 7:=by kernel_rfl
theorem NW:(prog.info? 62).map (·.size)=some 1:=by kernel_rfl
theorem ze152:(prog.info? 152).map (·.zero)=some (some (.agg #[.int .i64 0,.string ⟨#[]⟩,.string ⟨#[]⟩,.slice none 0 0,.int .i64 0,.slice none 0 0,.int .i64 0])):=by kernel_rfl
set_option maxRecDepth 100000 in
set_option maxHeartbeats 4000000 in
theorem rows_step{up:Int}{n:Nat}{vs:List Value}{A B R:Option Addr}{c m cap:Nat}(hS:SimsIn w0 A v.tm.type.args)(hT:TmsIn w0 B v.tm.args)(hB:Bel w0 w)(ho:Own w w0.heap.size 152 7 R (n) cap (vs))(hlen:n+v.size<=1000)(IH:∀(x:Tv),x.size<v.size->∀(up2:Int) (n2:Nat) (vs2:List Value) (A2 B2 R2:Option Addr) (c2 m2 a8:Nat) (w2:World),SimsIn w0 A2 x.tm.type.args->TmsIn w0 B2 x.tm.args->Bel w0 w2->Own w2 w0.heap.size 152 7 R2 (n2) a8 (vs2)->n2+x.size<=1000->Calls prog 90 #[.agg (cD (Tv.tm (x)) A2 c2 B2 m2),.int .i64 (up2),.slice R2 (n2) a8] w2 fun e w'=>∃(R':Option Addr) (an:Nat) (zs:List Value),e= .returned (.slice R' (n2+Tv.size (x)) an)/\Own w' w0.heap.size 152 7 R' (n2+Tv.size (x)) an (vs2++zs)/\RwsIn w0 w' (fun g=>w2.heap.size<=g) (rws (up2) (n2) (x)) zs/\ChG (fun g=>g∈aL R2) w2 w'/\∀ g∈aL R',g∈aL R2\/w2.heap.size<=g):Calls prog 90 #[.agg (cD (Tv.tm (v)) A c B m),.int .i64 (up),.slice R (n) cap] w fun e w'=>∃(R':Option Addr) (an:Nat) (zs:List Value),e= .returned (.slice R' (n+Tv.size (v)) an)/\Own w' w0.heap.size 152 7 R' (n+Tv.size (v)) an (vs++zs)/\RwsIn w0 w' (fun g=>w.heap.size<=g) (rws (up) (n) (v)) zs/\ChG (fun g=>g∈aL R) w w'/\∀ g∈aL R',g∈aL R\/w.heap.size<=g:=by
 have hw0:w0.heap.size<=w.heap.size:=Bel.size hB;have hC:ChG (fun g=>g∈aL R) w w:=ChG.refl _ _;have hA:∀ g∈aL R,g∈aL R\/w.heap.size<=g:=fun g hg=> .inl hg
 have hvl:=ho.len;have hps:=parts_sum v;have hpl:=parts_len v;have hvp:=v.pos;have hnk:v.tm.args.length=v.parts.length:=by rw[S6,List.length_map]
 refine enter func90 ntmps90 rfl (aA rfl) (zn2 ?_);refine qv (cs:=#[_,_,_,_,_,_]) rfl (fun b3 w1 a1 s1 hr=>?_);have a4:=ho.ob hr;have bd:=(nLT hC.size hr)
 have lo3:=hB.ob hr;replace hC:=hC.st s1 (by simp);refine vJ ?_;have hCs:=hC.size;refine zn7 ?_;refine wl (qw U31 rfl rfl (a1.sub (n:=2) (xs:=[_,_]) rfl) vj) (zn3 ?_);refine wl (F1 (v0:= .int _ _) (v1:= .string _) (v2:= .agg _) (v3:= .int _ _) (v4:= .int _ _) (fun v0 v1 v2 v3 v4=>#[v0,v1,(qy v2 0),(qy v2 1),v3,.slice none 0 0,v4]) rfl rfl rfl rfl rfl kR) ?_;refine qZ (cs:=#[_,_,_,_,_,_,_]) [(0,.agg _)] rfl U149 Gw ze152 dE dE kR rfl (fun b22 w2 bh s2 hr=>?_);replace ho:=ho.tr0 s1;have b9:=ho.ob hr;have bb:=(nLT hC.size hr)
 have:=a1.ob hr;have lo22:=hB.u.ob hr;replace hC:=hC.st s2 (by simp);replace ho:=ho.tr0 s2;refine vV U149 in152 rfl dE ho bh rfl rfl rfl xW dE oG oG (Bel.size hB.u) (fun br cap23 w3 bn s3 hg=>?_);have b6:br≠b3:=neB a1.u.lt hg (fun g hg=>by have:=a4 g hg;omega)
 replace hB:=hB.u.tr s3 (fun g hg=>nLT (ai _) (ho.lt g hg).1);replace hC:=hC.st s3 (fun g hg=>by first|exact hA g hg|exact .inr (ho.lt g hg).1);replace a1:=a1.tr0 s2;replace a1:=a1.tb s3 (fun g hg=>by have:=a4 g hg;omega);have hA:∀ g∈aL (some (⟨br,0,none⟩:Addr)),g∈aL R\/w.heap.size<=g:=fun g hm=>by
   rw[List.mem_singleton.1 hm];rcases hg with h|h
   · exact .inl (by rw[h];exact ar.2 rfl)
   · exact .inr (by show w.heap.size<=br;have:=bh.lt;omega)
 have ho:=bn;refine uJ ?_;refine qz (rg [2,8] 27 25) (fun mm g w'=>∃(j:Nat) (ks:List Int) (t:List Rw) (R2:Option Addr) (a8:Nat) (ys:List Value) (K:Option Addr) (ck:Nat),j<=v.parts.length/\mm=v.parts.length-j/\g 27= .int .i64 j/\g 2= .slice R2 (n+1+t.length) a8/\ks.length=j/\n+1+t.length+((v.parts.drop j).map Tv.size).sum=n+v.size/\kacc n v.parts [] []=kacc n (v.parts.drop j) ks t/\Bel w0 w'/\Blk w' b3 34 (cD (Tv.tm v) A c B m)/\Own w' w0.heap.size 152 7 R2 (n+1+t.length) a8 (vs++rwV (hd v up ks) A c K ck++ys)/\Own w' w.heap.size 3 1 K ks.length ck (iV ks)/\RwsIn w0 w' (fun g=>w.heap.size<=g/\g∉aL K) t ys/\ChG (fun g=>g∈aL R) w w'/\∀ g∈aL R2,g∈aL R\/w.heap.size<=g) (v.parts.length) ?_ (fun m g4 w4 hI=>?_)
 ·exact⟨0,[],[],_,_,[],none,0,ah _,rfl,rfl,rfl,rfl,by simp only[List.length_nil,List.drop_zero];omega,rfl,hB,a1,(by rw[List.append_nil];exact ho),Own.nil _ _ _ _,.nil,hC,hA⟩
 obtain⟨j,ks,t,R2,a8,ys,K,ck,hj,hmj,h27,h2,hkl,ac,ad,hB,a1,ho,a3,ab,hC,hA⟩:=hI;refine zQ 27 _ h27 nu (zQ 2 _ h2 nu (zn6 ?_));refine zZ rfl (fun c28=>?_) (fun c28=>?_)
 ·have ao:j<v.parts.length:=by omega
  obtain⟨tb,to,A0,c0,B0,m0,rfl,htb,htr,ks0,kt0⟩:=tms_part hT ao;rw[List.drop_eq_getElem_cons ao]at ad ac;simp only[List.map_cons,List.sum_cons]at ac;simp only[kacc]at ad;have hxp:=Tv.pos (v.parts[j]'ao);refine vJ ?_;obtain⟨q,cur,rfl,hqb,a9,hcs,bo,bk⟩:=ho.open_ oG;have a5:∀ g∈aL K,g≠q:=Xv a3 a9 dE;have a2:∀ g∈aL K,g≠b3:=Xv a3 a1 dE;have bi:b3≠q:=fun e=>absurd (jz (e ▸ a1) a9) dE
  have hk5:cur[0+n*7+5]? =some (.slice K ks.length ck):=(bo _ oG).trans (rw_kid hvl);obtain⟨z6,bj⟩:∃ z,z=w4.heap.size:=⟨_,rfl⟩
  have b7:z6<=w4.heap.size:=ay bj;replace ab:RwsIn w0 w4 (fun g=>w.heap.size<=g/\g∉aL K/\g<z6) t ys:=ab.weak (fun g h1 h2=>⟨h2.1,h2.2,by omega⟩);have hCs:=hC.size;refine zn7 ?_;refine wl (qj (v:= .slice _ _ _) U62 rfl rfl (a9.cell hk5)) (zn2 ?_);refine qZ (cs:=#[_]) [(0,.int _ _)] rfl U62 qq ZV dE dE kR rfl (fun b39 w5 bg s4 hr=>?_);have:=a1.ob hr;have b4:=a3.ob hr;have ba:=(nLT hC.size hr)
  have:=a9.ob hr;have b2:=(nLT b7 hr)
  have lo39:=hB.ob hr;replace hC:=hC.st s4 (by simp);replace ab:=ab.tr s4 (by simp);replace b7:=zJ b7 s4;replace a3:=a3.tr0 s4;refine vV U62 in3 rfl dE a3 bg rfl rfl rfl xW dE oG oG hC.size (fun b8 b1 w6 bm s5 hg=>?_);replace a9:=a9.tr0 s4;have b5:b8≠b3:=neB a1.u.lt hg (fun g hg=>by have:=a2 g hg;omega)
  have bc:b8≠q:=neB a9.lt hg (fun g hg=>by have:=a5 g hg;omega)
  replace hB:=hB.u.tr s5 (fun g hg=>nLT hw0 (a3.lt g hg).1);replace a1:=a1.tr0 s4;replace a1:=a1.tb s5 (fun g hg=>by have:=a2 g hg;omega);replace hC:=hC.st s5 (fun g hg=>by first|exact hA g hg|exact .inr (a3.lt g hg).1);replace ab:=ab.tr s5 (fun g hg=>by first|exact .inl (fun h=>h.2.1 hg)|(obtain⟨cs,hc⟩:=(a3).typ g hg;exact .inr ⟨cs,_,hc,by decide⟩));replace a9:=a9.tb s5 (fun g hg=>by have:=a5 g hg;omega);replace b7:=zJ b7 s5
  have ab:RwsIn w0 w6 (fun g=>w.heap.size<=g/\g∉aL (some (⟨b8,0,none⟩:Addr))) t ys:=ab.weak (fun g _ hd=>⟨hd.1,fun hm=>by
    have e:g=b8:=ar.1 hm;rcases hg with h|h
    · exact hd.2.1 (by rw[h,e];exact ar.2 rfl)
    · have:=bg.lt
      have:=hd.2.2
      omega⟩)
  have a3:Own w6 w.heap.size 3 1 (some ⟨b8,0,none⟩) (ks++[((n+1+t.length:Nat):Int)]).length b1 (iV (ks++[((n+1+t.length:Nat):Int)])):=by
    have e1:(ks++[((n+1+t.length:Nat):Int)]).length=ks.length+1:=by simp
    have e2:iV (ks++[((n+1+t.length:Nat):Int)])=iV ks++[.int .i64 ((n+1+t.length:Nat):Int)]:=by simp[iV]
    rw[e1,e2];exact bm
  refine zn2 ?_;refine xx (v:= .slice _ _ _) a9 rfl rfl NW (by show 0+n*7+5<cur.size;omega) rfl rfl (fun w7 hq s6=>?_);replace hB:=hB.tr1 s6 hqb;replace hC:=hC.st s6 (fun g hg=>by rw[List.mem_singleton.1 hg];first|exact .inr or_hC_q|exact hA _ (ar.2 rfl));replace ab:=ab.tr s6 (fun g hg=>by rw[List.mem_singleton.1 hg];exact .inr ⟨_,_,a9,by decide⟩);replace b7:=zJ b7 s6;replace a3:=a3.tr1 s6 (Xv a3 a9 dE);replace a9:=hq;have ho:Own w7 w0.heap.size 152 7 (some ⟨q,0,none⟩) (n+1+t.length) a8 (vs++rwV (hd v up (ks++[((n+1+t.length:Nat):Int)])) A c (some ⟨b8,0,none⟩) b1++ys):=by
    have h:=bk _ (0+n*7+5) _ a9;rw[show ks.length+1=(ks++[((n+1+t.length:Nat):Int)]).length by simp,rw_set hvl]at h;exact h
  have hA:∀ g∈aL (some (⟨q,0,none⟩:Addr)),g∈aL R\/w.heap.size<=g:=hA;refine yj ?_;refine zW kR (IH (v.parts[j]'ao) (parts_lt (aq ao)) n (n+1+t.length) _ A0 B0 _ c0 m0 _ _ ks0 kt0 hB ho oG) rfl (fun e' w8 hr=>?_);obtain⟨R3,bt,zs,rfl,ho3,bq,hC3,hA3⟩:=hr;have hKl:=fun g hg=>(a3.lt g hg).2
  have bf:=hC3.same;have hCz:=hC.size;replace bq:=bq.weak (D':=fun g=>w.heap.size<=g/\g∉aL (some (⟨b8,0,none⟩:Addr))) (fun g _ hd=>⟨nLT hCz hd,fun hm=>by have:=hKl g hm;omega⟩);replace hB:=hB.tr bf (fun g hg=>(ho.lt g hg).1);replace a1:=a1.tr1 s6 oG;replace a1:=a1.tr bf (fun hx=>Xv ho a1 dE _ hx rfl);replace a3:=a3.tr bf (H2 a3 ho dE);replace ab:=ab.tr bf (fun g hg=>by obtain⟨cs,hc⟩:=ho.typ g hg;exact .inr ⟨cs,_,hc,by decide⟩);replace hC:=hC.st bf hA;replace hA:∀ g∈aL R3,g∈aL R\/w.heap.size<=g:=fun g hg=>(hA3 g hg).elim (fun h=>hA g h) (fun h=> .inr (nLT hCz h))
  replace ho:=ho3;have e3:n+1+(t++rws n (n+1+t.length) (v.parts[j]'ao)).length=n+1+t.length+Tv.size (v.parts[j]'ao):=by rw[List.length_append,JV];omega
  have be:n+1+(t++rws n (n+1+t.length) (v.parts[j]'ao)).length+((v.parts.drop (j+1)).map Tv.size).sum=n+v.size:=by omega
  refine⟨_,rfl,?_⟩;refine zn8 ?_;refine x9 (v.parts.length-(j+1)) oG agA ?_;exact⟨j+1,(ks++[((n+1+t.length:Nat):Int)]),t++rws n (n+1+t.length) (v.parts[j]'ao),R3,bt,ys++zs,_,_,by omega,rfl,rfl,(by rw[e3];rfl),(by simp[hkl]),be,ad,hB,a1,(by rw[e3,<- List.append_assoc];exact ho),a3,ab.app bq,hC,hA⟩
 have hje:j=v.parts.length:=by omega
 rw[hje,List.drop_length]at ad ac;simp only[List.map_nil,List.sum_nil,Nat.add_zero]at ac;have hrw:rws up n v=hd v up ks::t:=by rw[rws_acc,ad];rfl
 refine uJ ?_;rw[hrw];exact⟨R2,a8,rwV (hd v up ks) A c K ck++ys,(by rw[<- ac];rfl),(by rw[<- ac,<- List.append_assoc];exact ho),.cons hS (KidIn.own a3 rfl) (ab.weak (fun g _ h=>h.1)),hC,hA⟩
theorem rows_any:∀(k:Nat) (v:Tv),v.size<k->∀(up:Int) (n:Nat) (vs:List Value) (A B R:Option Addr) (c m cap:Nat) (w:World),SimsIn w0 A v.tm.type.args->TmsIn w0 B v.tm.args->Bel w0 w->Own w w0.heap.size 152 7 R (n) cap (vs)->n+v.size<=1000->Calls prog 90 #[.agg (cD (Tv.tm (v)) A c B m),.int .i64 (up),.slice R (n) cap] w fun e w'=>∃(R':Option Addr) (a1:Nat) (zs:List Value),e= .returned (.slice R' (n+Tv.size (v)) a1)/\Own w' w0.heap.size 152 7 R' (n+Tv.size (v)) a1 (vs++zs)/\RwsIn w0 w' (fun g=>w.heap.size<=g) (rws (up) (n) (v)) zs/\ChG (fun g=>g∈aL R) w w'/\∀ g∈aL R',g∈aL R\/w.heap.size<=g:=by
 intro k
 induction k with
 | zero=>intro v h;omega
 | succ k ih=>exact fun v h up n vs A B R c m cap w h1 h2 h3 h4 h5=>rows_step h1 h2 h3 h4 h5 (fun x hx=>ih x oG)
theorem rows0_any(v:Tv)(A B:Option Addr)(c m:Nat)(w:World)(hS:SimsIn w A v.tm.type.args)(hT:TmsIn w B v.tm.args)(hl:v.size<=1000)(w1:World)(hB:Bel w w1):Calls prog 90 #[.agg (cD (Tv.tm (v)) A c B m),.int .i64 (-1),.slice none (0) 0] w1 fun e w'=>(∃(q cap:Nat) (zs:List Value),e= .returned (.slice (some ⟨q,0,none⟩) v.size cap)/\Own w' w.heap.size 152 7 (some ⟨q,0,none⟩) v.size cap zs/\RwsIn w w' (fun g=>w1.heap.size<=g) (rws (-1) 0 v) zs)/\Bel w1 w':=by
 refine(rows_any (w0:=w) _ v (aH _) (-1) 0 [] A B none c m 0 w1 hS hT hB (Own.nil _ _ _ _) oG).mono ?_
 rintro e w' ⟨R,cap,zs,rfl,ho,hr,hc,_⟩
 rw[Nat.zero_add,List.nil_append]at ho;have hp:=v.pos;obtain⟨q,rfl,_,_⟩:=ho.cell (by intro e;have:=ho.len;rw[e]at this;simp at this;omega);exact⟨⟨q,cap,zs,by rw[Nat.zero_add],ho,hr⟩,Same.bel hc.same⟩
set_option maxHeartbeats 1000000 in
theorem binder_any{wr:World}{q n cap p i:Nat}{ls:List Rw}{r:Rw}{Γ:List Ts}{τ:Ts}(hrd:RdT w0 wr q ls)(hn:ls.length=n)(a5:Bel wr w)(a2:q<wr.heap.size)(hr:ls[p]? =some r)(hri:r.index=(i:Int))(_hup:r.up<(p:Int))(hch:Chn ls r.up Γ)(hti:Γ[i]? =some τ)(hi1:i<=1000):Calls Tryz.prog 91 #[.slice (some ⟨q,0,none⟩) n cap,.int .i64 ((p:Nat):Int)] w fun e w'=>(∃(u:Nat) (ru:Rw),e= .returned (.int .i64 ((u:Nat):Int))/\ls[u]? =some ru/\ru.typ=τ.sm)/\Bel w w':=by
 have hpl:=(aC.1 hr).1;obtain⟨A7,c7,K7,ck7,a9,_,_,_⟩:=hrd p r hr;rw[hri]at a9;refine enter Tryz.func91 Tryz.ntmps91 rfl (aA rfl) (vJ ?_);refine wl (qj (v:= .int _ _) U3 rfl rfl (a5.cell a2 (a9 4 _ rfl))) (yj ?_);refine wl (qj (v:= .int _ _) U3 rfl rfl (a5.cell a2 (a9 6 _ rfl))) (zn4 ?_);refine qz (rg [4,5,6] 17 18) (fun m g w'=>∃(k:Nat) (z:Int) (Δ:List Ts),m=(z+1).toNat/\k<=i/\g 5= .int .i64 k/\g 6= .int .i64 z/\w=w'/\Chn ls z Δ/\Δ[k]? =some τ) ((r.up+1).toNat) ?_ (fun m g3 w1 hI=>?_)
 ·exact⟨i,r.up,Γ,rfl,ai _,rfl,rfl,rfl,hch,hti⟩
 obtain⟨k,z,Δ,hm,hki,h5,h6,rfl,hcz,hkz⟩:=hI;refine zQ 5 _ h5 nu (zQ 6 _ h6 nu (zn7 ?_));refine zZ rfl (fun c18=>?_) (fun c18=>?_)
 ·obtain⟨u,rz,rfl,a8,hup2,hlow,a1⟩:=chn_row hcz hkz;have hul:=(aC.1 a8).1;obtain⟨A8,c8,K8,ck8,ab,_,_,_⟩:=hrd u rz a8;refine yj ?_;refine wl (qj (v:= .int _ _) U3 rfl rfl (a5.cell a2 (ab 0 _ rfl))) (zn3 ?_);refine zZ rfl (fun ac=>?_) (fun ac=>?_)
  ·have hq3:=a1.resolve_right (fun h=>h.1 ac);clear a1;obtain⟨_,a1⟩:=hq3;refine zn7 ?_;refine zZ rfl (fun c31=>?_) (fun c31=>?_)
   ·have hty:rz.typ=τ.sm:=by
      rcases a1 with ⟨_,h⟩|⟨k',hk',_⟩
      ·exact h
      ·omega
    refine QY ?_;exact⟨⟨u,rz,rfl,a8,hty⟩,Below.refl _ _⟩
   obtain⟨k2,rfl,Δ2,a3,a4⟩:=a1.resolve_left (fun h=>c31 (by rw[h.1];rfl));clear a1;refine zn4 ?_;refine wl (jJ (c:=((k2:Nat):Int)) rfl rfl (show ((k2:Int)+1)-1=k2 from Int.add_sub_cancel _ _) oG) (zn9 ?_);refine wl (qj (v:= .int _ _) U3 rfl rfl (a5.cell a2 (ab 6 _ rfl))) (zn2 ?_);refine x9 ((rz.up+1).toNat) oG agA ?_
   first
     | exact⟨k2,rz.up,Δ2,rfl,by omega,rfl,rfl,rfl,a4,a3⟩
     | exact⟨k,rz.up,Δ2,rfl,hki,rfl,rfl,rfl,a4,a3⟩
  obtain⟨_,Δ2,a3,a4⟩:=a1.resolve_left (fun h=>ac h.1);clear a1;refine zn8 ?_;refine wl (qj (v:= .int _ _) U3 rfl rfl (a5.cell a2 (ab 6 _ rfl))) (zn2 ?_);refine x9 ((rz.up+1).toNat) oG agA ?_
  first
    | exact⟨k2,rz.up,Δ2,rfl,by omega,rfl,rfl,rfl,a4,a3⟩
    | exact⟨k,rz.up,Δ2,rfl,hki,rfl,rfl,rfl,a4,a3⟩
 obtain⟨u,rz,rfl,_⟩:=chn_row hcz hkz;exact absurd (Int.natCast_nonneg u) c18
section
theorem tv_con(h:v.tm.kind=1):∃ nm τ,v= .con nm τ:=by cases v<;>first|exact⟨_,_,rfl⟩|(exfalso;revert h;simp[Tv.tm,Tm.kind])
theorem tv_var(h:v.tm.kind=2):∃ i,v= .var i:=by cases v<;>first|exact⟨_,rfl⟩|(exfalso;revert h;simp[Tv.tm,Tm.kind])
theorem tv_abs(h:v.tm.kind=3):∃ τ x,v= .abs τ x:=by cases v<;>first|exact⟨_,_,rfl⟩|(exfalso;revert h;simp[Tv.tm,Tm.kind])
theorem tv_app(h1:¬v.tm.kind=1)(h2:¬v.tm.kind=2)(h3:¬v.tm.kind=3):∃ x y,v= .app x y:=by
 cases v with
 | con nm τ=>exact absurd rfl h1
 | var i=>exact absurd rfl h2
 | abs τ x=>exact absurd rfl h3
 | app x y=>exact⟨_,_,rfl⟩
theorem ts_two{τ:Ts}(h:τ.sm.args.length=2):∃ x y,τ= .f x y:=by
 cases τ with
 | b t=>cases h
 | f x y=>exact⟨x,y,rfl⟩
section app
variable {Γ:List Ts} {x y:Tv}
theorem app_no1(h:(tyv Γ x).isSome=false):tyv Γ (.app x y)=none:=by
 simp only[tyv];cases e:tyv Γ x with
 | none=>rfl
 | some σ=>rw[e]at h;cases h
theorem app_no2(h:(tyv Γ y).isSome=false):tyv Γ (.app x y)=none:=by
 simp only[tyv];cases e:tyv Γ y with
 | none=>
  cases tyv Γ x with
  | none=>rfl
  | some σ=>cases σ<;>rfl
 | some σ=>rw[e]at h;cases h
theorem app_no3{σ:Ts}(h:tyv Γ x=some σ)(hn:¬σ.sm.args.length=2):tyv Γ (.app x y)=none:=by
 simp only[tyv,h];cases σ with
 | b t=>rfl
 | f a r=>exact absurd rfl hn
theorem app_no4{a r ζ:Ts}(h:tyv Γ x=some (.f a r))(k:tyv Γ y=some ζ)(e:a.eqb ζ=false):tyv Γ (.app x y)=none:=by
 simp only[tyv,h,k,e];rfl
theorem app_yes{a r ζ:Ts}(h:tyv Γ x=some (.f a r))(k:tyv Γ y=some ζ)(e:a.eqb ζ=true):tyv Γ (.app x y)=some r:=by
 simp only[tyv,h,k,e];rfl
end app
theorem in31:(prog.info? 31).map (fun i=>(i.zero,i.size,i.bytes))=some (some (.agg #[.string ⟨#[]⟩,.slice none 0 0]),2,40):=by kernel_rfl
set_option maxRecDepth 100000 in
set_option maxHeartbeats 4000000 in
theorem typed_step{Γ:List Ts}{A B C:Option Addr}{c m cc:Nat}(hS:SimsIn w A v.tm.type.args)(hT:TmsIn w B v.tm.args)(hG:CtxIn w C Γ)(bu:Γ.length<=cc)(bg:Γ.length+v.size<=1000)(bm:v.ok Γ.length)(IH:∀(x:Tv),x.size<v.size->∀(Γ:List Ts) (A2 B2 C2:Option Addr) (c2 m2 cc2:Nat) (w2:World),SimsIn w2 A2 (Tv.tm (x)).type.args->TmsIn w2 B2 (Tv.tm (x)).args->CtxIn w2 C2 Γ->List.length Γ<=cc2->List.length Γ+(x).size<=1000->Tv.ok (List.length Γ) (x)->Calls prog 79 #[.agg (cD (Tv.tm (x)) A2 c2 B2 m2),.slice C2 (List.length Γ) cc2] w2 fun e w'=>(∃(s:ByteArray) (A':Option Addr) (n c':Nat),e= .returned (.tuple #[.agg #[.string s,.slice A' n c'],.bool (tyv (Γ) (x)).isSome])/\∀ τ,tyv (Γ) (x)=some τ->s=τ.sm.base/\n=τ.sm.args.length/\SimsIn w' A' τ.sm.args)/\Bel w2 w'):Calls prog 79 #[.agg (cD (Tv.tm (v)) A c B m),.slice C (List.length Γ) cc] w fun e w'=>(∃(s:ByteArray) (A':Option Addr) (n c':Nat),e= .returned (.tuple #[.agg #[.string s,.slice A' n c'],.bool (tyv (Γ) (v)).isSome])/\∀ τ,tyv (Γ) (v)=some τ->s=τ.sm.base/\n=τ.sm.args.length/\SimsIn w' A' τ.sm.args)/\Bel w w':=by
 refine enT func79 ntmps79 rfl rfl fun hB=>?_;refine zn2 ?_;refine qv (cs:=#[_,_,_,_,_,_]) rfl (fun b2 w1 bn t1 hr=>?_);refine qQ (cs:=#[.string ⟨#[]⟩,.slice none 0 0]) KJ rfl (fun b4 w2 a2 t2 hr=>?_);have ad:=hB.u.ob hr;refine Nk ?_;refine zZ rfl (fun ce=>?_) (fun ce=>?_)
 ·obtain⟨nm,τ,rfl⟩:=tv_con ce;refine zn3 ?_;refine wl (qw U31 rfl rfl (bn.u.sub (n:=2) (xs:=[_,_]) rfl) vj) ?_;refine zV a2 (fun w3 hq t3=>?_);replace a2:=hq;refine zn6 ?_;refine uK (.inl rfl) rfl (zX U31 rfl rfl a2.range0 vj) rfl ?_;replace hB:=(hB.tr0 (t1.t t2)).tr1 t3 ad;exact⟨⟨_,_,_,_,rfl,fun σ e=>by obtain rfl:τ=σ:=Option.some.inj e;exact⟨rfl,rfl,hS.mono hB⟩⟩,hB⟩
 refine zn6 ?_;refine zZ rfl (fun cd=>?_) (fun cd=>?_)
 ·obtain⟨i,rfl⟩:=tv_var cd;have hil:i<Γ.length:=bm;obtain⟨cb,co,A7,c7,rfl,hcb,hcr,hcs⟩:=hG.at_ (aN hil);refine zn5 ?_;refine wl (jJ (c:=((Γ.length-1:Nat):Int)) rfl rfl oG oG) (zn1 ?_);refine wl (qj (v:= .int .i64 ((i:Nat):Int)) U3 rfl rfl (bn.u.cell rfl)) (wl (jJ (c:=((Γ.length-1-i:Nat):Int)) rfl rfl oG oG) (wl (x7 (i:=(Γ.length-1-i)) U29 vj rfl rfl oG rfl) (wl (qw U31 rfl rfl (hB.u.range hcb hcr) vj) ?_)));refine zV a2 (fun w4 hq t4=>?_);replace a2:=hq;refine zn6 ?_;refine uK (.inl rfl) rfl (zX U31 rfl rfl a2.range0 vj) rfl ?_;have hty:tyv Γ (.var i)=some Γ[i]:=aN hil;replace hB:=(hB.tr0 (t1.t t2)).tr1 t4 ad;exact⟨⟨_,_,_,_,by rw[hty];rfl,fun σ e=>by rw[hty]at e;obtain rfl:=Option.some.inj e;exact⟨rfl,rfl,hcs.mono hB⟩⟩,hB⟩
 refine zn6 ?_;refine zZ rfl (fun ca=>?_) (fun ca=>?_)
 ·obtain⟨τ,x,rfl⟩:=tv_abs ca;have hlx:Γ.length+(x.size+1)<=1000:=bg;obtain⟨tb,to,A0,c0,B0,m0,rfl,bk,a4,ba,b8⟩:=hT.at_ (k:=0) (by simp[Tv.tm,Tm.args])
  change w.rangeAt tb (to+0*6) [.int .i64 (x).tm.kind,.string (x).tm.name,.int .i64 (x).tm.index,.string (x).tm.type.base,.slice A0 (x).tm.type.args.length c0,.slice B0 (x).tm.args.length m0]at a4
  change SimsIn w A0 (x).tm.type.args at ba
  change TmsIn w B0 (x).tm.args at b8
  refine xQ ?_;refine SV 11 [32,33,34,35,36,37,38,39,40,41,6] [] (fun ix=>false) (fun st ix v la ha wv=>match ix with|0=>v= .slice C (List.length Γ) cc|1=>v= .slice C (List.length Γ) cc|2=>v= .int .i64 ((Γ.length:Nat):Int)|3=>v= .slice C (List.length Γ) cc|4=>v= .int .i64 ((Γ.length:Nat):Int)|5=>v= .slice C (List.length Γ) (List.length Γ)|6=>v= .pointer (some ⟨b2,0+3,none⟩)|7=>v= .agg #[.string τ.sm.base,.slice A τ.sm.args.length c]|8=>∃ b,v= .slice (some ⟨b,0,none⟩) 1 1/\Blk wv b 31 #[.string τ.sm.base,.slice A τ.sm.args.length c]|9=>∃ g cap,v= .slice (some ⟨g,0,none⟩) (Γ.length+1) cap/\CtxIn wv (some ⟨g,0,none⟩) (τ::Γ)/\Γ.length+1<=cap|10=>∃ g cap,v= .slice (some ⟨g,0,none⟩) (Γ.length+1) cap/\CtxIn wv (some ⟨g,0,none⟩) (τ::Γ)/\Γ.length+1<=cap|_=>True) kR kR kR ?_ ?_ ?_
  ·intro st ix v la ha wv wv2 h t5
   match ix,h with
   | 0,h=>exact h
   | 1,h=>exact h
   | 2,h=>exact h
   | 3,h=>exact h
   | 4,h=>exact h
   | 5,h=>exact h
   | 6,h=>exact h
   | 7,h=>exact h
   | 8,h=>
    obtain⟨cf,c8,a8⟩:=h;exact⟨cf,c8,a8.tr0 t5⟩
   | 9,h=>
    obtain⟨bx,a9,bz,b3,a3⟩:=h;exact⟨bx,a9,bz,b3.mono t5.bel,a3⟩
   | 10,h=>
    obtain⟨gx,b5,e6,bw,a5⟩:=h;exact⟨gx,b5,e6,bw.mono t5.bel,a5⟩
   | _+11,h=>exact trivial
  ·intro st ix o hix hoq hns gg wx la ha t6 hd
   match ix,hix,hoq,hns with
   | 0,_,hoq,hns=>
    cases sI hoq;show OS _ _ _ _ _ _;refine qk (x6 (v:= .slice _ _ _) rfl) ⟨Same.refl _ _,?_⟩;exact rfl
   | 1,_,hoq,hns=>
    cases sI hoq;show OS _ _ _ _ _ _;refine qk (x6 (v:= .slice _ _ _) rfl) ⟨Same.refl _ _,?_⟩;exact rfl
   | 2,_,hoq,hns=>
    cases sI hoq;show OS _ _ _ _ _ _;refine aZ 33 (hd 1 _ a6 rfl) ?_;refine qk (D4 U29 rfl) ⟨Same.refl _ _,?_⟩;exact rfl
   | 3,_,hoq,hns=>
    cases sI hoq;show OS _ _ _ _ _ _;refine qk (x6 (v:= .slice _ _ _) rfl) ⟨Same.refl _ _,?_⟩;exact rfl
   | 4,_,hoq,hns=>
    cases sI hoq;show OS _ _ _ _ _ _;refine aZ 35 (hd 3 _ a6 rfl) ?_;refine qk (D4 U29 rfl) ⟨Same.refl _ _,?_⟩;exact rfl
   | 5,_,hoq,hns=>
    cases sI hoq;show OS _ _ _ _ _ _;refine aZ 32 (hd 0 _ a6 rfl) (aZ 34 (hd 2 _ a6 rfl) (aZ 36 (hd 4 _ a6 rfl) ?_));refine qk (r_slF U29 vj rfl rfl rfl bu) ⟨Same.refl _ _,?_⟩;exact rfl
   | 6,_,hoq,hns=>
    cases sI hoq;show OS _ _ _ _ _ _;refine qk (jX U34 vj dE rfl rfl rfl) ⟨Same.refl _ _,?_⟩;exact rfl
   | 7,_,hoq,hns=>
    cases sI hoq;show OS _ _ _ _ _ _;refine aZ 38 (hd 6 _ a6 rfl) ?_;refine qk (qw U31 rfl rfl (bn.u.sub (n:=2) (xs:=[_,_]) rfl) vj) ⟨Same.refl _ _,?_⟩;exact rfl
   | 8,_,hoq,hns=>
    cases sI hoq;show OS _ _ _ _ _ _;refine aZ 39 (hd 7 _ a6 rfl) ?_;refine jq (fun ops Q K=>?_);refine qZ (cs:=#[_,_]) [(0,.agg _)] rfl U29 vj KJ dE dE kR rfl (fun cf w5 a8 t7 hr=>?_);exact K _ _ ⟨t7,⟨_,rfl,a8⟩⟩
   | 9,_,hoq,hns=>
    cases sI hoq;show OS _ _ _ _ _ _;obtain⟨cf,c8,a8⟩:=hd 8 _ (zj kR) rfl;refine aZ 37 (hd 5 _ a6 rfl) (zq 40 _ c8 nu ?_);refine jq (fun ops Q K=>?_);replace hB:=hB.tr0 (t1.t (t2.t t6));obtain⟨vs,hv1,hv2,hv3,hv4⟩:=(hG.mono hB).row;refine wl_appFl U29 in31 rfl dE hv2 hv3 hv4 a8 rfl rfl rfl rfl dE oG oG (fun bx a9 w1 bf t8 hg=>?_);exact K _ _ ⟨t8,_,_,rfl,ctx_app bf (hv1.mono t8.bel) ((hS.mono hB).mono t8.bel) rfl,bf.cap_le⟩
   | 10,_,hoq,hns=>
    cases sI hoq;show OS _ _ _ _ _ _;obtain⟨bx,a9,bz,b3,a3⟩:=hd 9 _ (zj kR) rfl;refine zq 41 _ bz nu ?_;refine qk (oz (v:= .slice _ _ _) rfl) ⟨Same.refl _ _,?_⟩;exact⟨_,_,rfl,b3,a3⟩
   | _+11,hix,_,_=>exact absurd hix oG
  intro st gg w6 la ha hall t9 hR hI;obtain⟨gx,b5,e6,bw,a5⟩:=hR 10 _ dE rfl;refine x8 6 _ e6 nu (zn6 ?_);refine wl (x7 (i:=0) U32 X7 rfl rfl (by show 0<1;decide) rfl) (wl (qw U34 rfl rfl (hB.u.range bk a4) X7) (wmS rfl ?_));replace hB:=hB.tr0 (t1.t (t2.t t9));refine zW kR (IH x (by simp only[Tv.size];omega) (τ::Γ) A0 B0 (some ⟨gx,0,none⟩) c0 m0 b5 _ (ba.mono hB) (b8.mono hB) bw a5 (by simp only[List.length_cons];omega) bm.2) rfl (fun e' w7 hr=>?_);obtain⟨⟨s3,A3,n3,c3,rfl,h3⟩,bj⟩:=hr;replace bj:=sB bj;have ac:Bel w7 w7:=Below.refl _ _;refine⟨_,rfl,?_⟩;refine wmT rfl (wl (yW (v:= .agg _) rfl rfl) (wl (yW (v:= .bool _) rfl rfl) ?_));refine y8 (cs:=#[.string ⟨#[]⟩,.slice none 0 0]) KJ rfl (fun _=>rfl) (fun _=>rfl) vj rfl xW (fun b7 w9 hb7 br hr=>?_);refine zn4 ?_;have hZ:SameQ [b4] w9 w9:=Same.refl _ _;replace a2:=a2.tr0 (t9.t (bj.t br));have b1:=a2;replace ac:=ac.tr0 br;have ab:=ac;refine zn2 ?_;refine wl (qw U31 rfl rfl (bn.u.sub (n:=2) (xs:=[_,_]) rfl) vj) (zn1 ?_);refine qZ (cs:=#[_,_,_,_]) [(0,.agg _),(1,.agg _)] rfl U29 vj KJ dE dE kR rfl (fun b54 w10 bv t12 hr=>?_);have:=a2.ob hr;replace hZ:=SameQ.trans hZ t12 (by simp);refine wl (Z1 (v0:= .slice _ _ _) (fun v0=>#[.string ⟨#[]⟩,v0]) rfl kR) (wl (x6 (v:= .bool _) rfl) ?_);refine zV a2.u (fun w11 hq t13=>?_);replace hZ:=SameQ.trans hZ t13 (by simp);replace a2:=hq;refine zn6 ?_;refine uK (.inl rfl) rfl (zX U31 rfl rfl a2.range0 vj) rfl ?_;have e1:(tyv Γ (.abs τ x)).isSome=(tyv (τ::Γ) x).isSome:=by simp only[tyv,Option.isSome_map]
  replace hB:=(hB.tr0 (bj.t (br.t t12))).tr1 t13 ad;refine⟨⟨_,_,_,_,by rw[e1];rfl,fun σ hσ=>?_⟩,hB⟩;obtain⟨ρ,h5,rfl⟩:=aT.1 hσ;obtain⟨rfl,rfl,h6⟩:=h3 ρ h5;exact⟨rfl,rfl,sm2_two bv.u (hS.mono hB) (Ej b1 hZ ρ (h6.mono ab))⟩
 obtain⟨x,y,rfl⟩:=tv_app ce cd ca;have hlx:Γ.length+(x.size+y.size+1)<=1000:=bg;have px:=x.pos;have py:=y.pos;obtain⟨tb,to,A0,c0,B0,m0,rfl,bk,a4,ba,b8⟩:=hT.at_ (k:=0) (by simp[Tv.tm,Tm.args])
 change w.rangeAt tb (to+0*6) [.int .i64 (x).tm.kind,.string (x).tm.name,.int .i64 (x).tm.index,.string (x).tm.type.base,.slice A0 (x).tm.type.args.length c0,.slice B0 (x).tm.args.length m0]at a4
 change SimsIn w A0 (x).tm.type.args at ba
 change TmsIn w B0 (x).tm.args at b8
 obtain⟨_,_,A1,c1,B1,m1,e1,_,bd,ks1,kt1⟩:=hT.at_ (k:=1) (by simp[Tv.tm,Tm.args]);cases e1
 change w.rangeAt tb (to+1*6) [.int .i64 (y).tm.kind,.string (y).tm.name,.int .i64 (y).tm.index,.string (y).tm.type.base,.slice A1 (y).tm.type.args.length c1,.slice B1 (y).tm.args.length m1]at bd
 change SimsIn w A1 (y).tm.type.args at ks1
 change TmsIn w B1 (y).tm.args at kt1
 refine zn7 ?_;refine wl (x7 (i:=0) U32 X7 rfl rfl (by show 0<2;decide) rfl) (wl (qw U34 rfl rfl (hB.u.range bk a4) X7) (wmS rfl ?_));replace hB:=hB.tr0 (t1.t t2);refine zW kR (IH x (by simp only[Tv.size];omega) Γ A0 B0 C c0 m0 cc _ (ba.mono hB) (b8.mono hB) (hG.mono hB) bu oG bm.1) rfl (fun e' w12 hr=>?_);obtain⟨⟨s3,A3,n3,c3,rfl,h3⟩,bi⟩:=hr;replace bi:=sB bi;have ac:Bel w12 w12:=Below.refl _ _;refine⟨_,rfl,?_⟩;refine wmT rfl (wl (yW (v:= .agg _) rfl rfl) (wl (yW (v:= .bool _) rfl rfl) ?_));refine y8 (cs:=#[.string ⟨#[]⟩,.slice none 0 0]) KJ rfl (fun _=>rfl) (fun _=>rfl) vj rfl xW (fun b9 w14 hb9 bq hr=>?_);refine zn7 ?_;refine wl (x7 (i:=1) U32 X7 rfl rfl (by show 1<2;decide) rfl) (wl (qw U34 rfl rfl (hB.u.range bk bd) X7) (wmS rfl ?_));replace hB:=hB.tr0 (bi.t bq);refine zW kR (IH y (by simp only[Tv.size];omega) Γ A1 B1 C c1 m1 cc _ (ks1.mono hB) (kt1.mono hB) (hG.mono hB) bu oG bm.2) rfl (fun e' w15 hr=>?_);obtain⟨⟨s4,A4,n4,c4,rfl,h4⟩,b6⟩:=hr;replace b6:=sB b6;have hBy:Bel w15 w15:=Below.refl _ _;refine⟨_,rfl,?_⟩;refine wmT rfl (wl (yW (v:= .agg _) rfl rfl) (wl (yW (v:= .bool _) rfl rfl) ?_));refine y8 (cs:=#[.string ⟨#[]⟩,.slice none 0 0]) KJ rfl (fun _=>rfl) (fun _=>rfl) vj rfl xW (fun b11 w17 hb11 bo hr=>?_);refine zn5 ?_;replace a2:=a2.tr0 (bi.t (bq.t (b6.t bo)));replace hB:=hB.tr0 (b6.t bo);rcases Bool.eq_false_or_eq_true ((tyv Γ x).isSome)with hk1|hk1
 ·refine zQ 10 _ (ag hk1) nu ?_;rcases Bool.eq_false_or_eq_true ((tyv Γ y).isSome)with hk2|hk2
  ·refine zQ 12 _ (ag hk2) nu ?_;by_cases q2:n3=2
   ·obtain⟨σ,hσ⟩:=aY.1 hk1;obtain⟨ζ,hζ⟩:=aY.1 hk2;obtain⟨rfl,e3,bt⟩:=h3 σ hσ;obtain⟨rfl,rfl,hs4⟩:=h4 ζ hζ;obtain⟨a,r,rfl⟩:=ts_two (e3.symm.trans q2);subst q2;obtain⟨ub,uo,A5,c5,rfl,hub,hur,hus⟩:=bt.at_ (k:=0) (by simp[Ts.sm,Sm.args]);obtain⟨_,_,A6,c6,e6,_,bc,bb⟩:=bt.at_ (k:=1) (by simp[Ts.sm,Sm.args]);cases e6
    change SimsIn _ A5 a.sm.args at hus
    change SimsIn _ A6 r.sm.args at bb
    change World.rangeAt _ ub (uo+0*2) [.string a.sm.base,.slice A5 a.sm.args.length c5]at hur
    change World.rangeAt _ ub (uo+1*2) [.string r.sm.base,.slice A6 r.sm.args.length c6]at bc
    refine jY [] [0,1,2,3,4,5,6,7,8,9,10,11,12,13,14,15,16,17,18,19,20] rfl (fun w18 bh=>?_);refine yj ?_;refine hge 81 rfl rfl rfl (fun _ _=>BV rfl rfl) (ag (ap oG)) (zn4 ?_);refine hg 87 rfl rfl rfl (fun _ _=>x7 (i:=0) U29 vj rfl rfl dE rfl) (hgS 87 rfl rfl rfl U31 rfl rfl (ac.u.range hub hur) vj (zn1 ?_));refine h1 rfl (zn1 ?_);refine zW kR (samE_any A5 A4 c5 c4 a ζ w18 (hus.mono ac.u) (hs4.mono hBy.u)) rfl (fun e' w19 hr=>?_);obtain⟨rfl,ao⟩:=hr;replace ao:=sB ao;have be:=ao;refine⟨_,rfl,?_⟩;refine qY (KQ be (zn4 ?_));refine jv rfl (fun c9=>?_) (fun c9=>?_)
    ·have a1:tyv Γ (.app x y)=none:=app_no4 hσ hζ (by simpa using c9);refine zn2 ?_;refine jW (cs:=#[.string ⟨#[]⟩,.slice none 0 0]) ?_;refine zV a2.u (fun w20 hq t20=>?_);replace a2:=hq;refine zn5 ?_;refine uK (.inl rfl) rfl (zX U31 rfl rfl a2.range0 vj) rfl ?_;replace hB:=(hB.tr0 (bh.t ao)).tr1 t20 ad;exact⟨⟨_,_,_,_,(by rw[a1];rfl),fun σ e=>by rw[a1]at e;cases e⟩,hB⟩
    have an:tyv Γ (.app x y)=some r:=app_yes hσ hζ (by simpa using c9);refine zn3 ?_;have hZ:SameQ [b4] w19 w19:=Same.refl _ _;replace a2:=a2.tr0 (bh.t ao);have b1:=a2;replace ac:=ac.tr0 (bq.t (b6.t (bo.t (bh.t ao))));have ab:=ac;refine zn3 ?_;refine wl (x7 (i:=1) U29 vj rfl rfl dE rfl) (wl (qw U31 rfl rfl (ab.range hub bc) vj) ?_);refine zV a2 (fun w21 hq t21=>?_);replace hZ:=SameQ.trans hZ t21 (by simp);replace a2:=hq;refine zn4 ?_;refine uK (.inl rfl) rfl (zX U31 rfl rfl a2.range0 vj) rfl ?_;replace hB:=(hB.tr0 (bh.t ao)).tr1 t21 ad;exact⟨⟨_,_,_,_,(by rw[an];rfl),fun σ e=>by rw[an]at e;obtain rfl:=Option.some.inj e;exact⟨rfl,rfl,Ej b1 hZ r (bb.mono ab)⟩⟩,hB⟩
   obtain⟨σ,hσ⟩:=aY.1 hk1;obtain⟨ζ,hζ⟩:=aY.1 hk2;obtain⟨rfl,e3,bt⟩:=h3 σ hσ;obtain⟨rfl,rfl,hs4⟩:=h4 ζ hζ;have a1:tyv Γ (.app x y)=none:=app_no3 hσ (fun h=>q2 (e3.trans h));refine jY [] [0,1,2,3,4,5,6,7,8,9,10,11,12,13,14,15,16,17,18,19,20] rfl (fun w22 t22=>?_);refine yj ?_;refine hge 81 rfl rfl rfl (fun _ _=>BV rfl rfl) (ag (aj oG)) (Ky ?_);refine jW (cs:=#[.string ⟨#[]⟩,.slice none 0 0]) ?_;refine zV a2.u (fun w23 hq t23=>?_);replace a2:=hq;refine zn5 ?_;refine uK (.inl rfl) rfl (zX U31 rfl rfl a2.range0 vj) rfl ?_;replace hB:=(hB.tr0 t22).tr1 t23 ad;exact⟨⟨_,_,_,_,(by rw[a1];rfl),fun σ e=>by rw[a1]at e;cases e⟩,hB⟩
  refine zQ 12 _ (ag hk2) nu ?_;have a1:tyv Γ (.app x y)=none:=app_no2 hk2;refine jY [] [0,1,2,3,4,5,6,7,8,9,10,11,12,13,14,15,16,17,18,19,20] rfl (fun w24 t24=>?_);refine zn26 ?_;refine jW (cs:=#[.string ⟨#[]⟩,.slice none 0 0]) ?_;refine zV a2.u (fun w25 hq t25=>?_);replace a2:=hq;refine zn5 ?_;refine uK (.inl rfl) rfl (zX U31 rfl rfl a2.range0 vj) rfl ?_;replace hB:=(hB.tr0 t24).tr1 t25 ad;exact⟨⟨_,_,_,_,(by rw[a1];rfl),fun σ e=>by rw[a1]at e;cases e⟩,hB⟩
 refine zQ 10 _ (ag hk1) nu ?_;have a1:tyv Γ (.app x y)=none:=app_no1 hk1;refine jY [] [0,1,2,3,4,5,6,7,8,9,10,11,12,13,14,15,16,17,18,19,20] rfl (fun w26 t26=>?_);refine zn26 ?_;refine jW (cs:=#[.string ⟨#[]⟩,.slice none 0 0]) ?_;refine zV a2.u (fun w27 hq t27=>?_);replace a2:=hq;refine zn5 ?_;refine uK (.inl rfl) rfl (zX U31 rfl rfl a2.range0 vj) rfl ?_;replace hB:=(hB.tr0 t26).tr1 t27 ad;exact⟨⟨_,_,_,_,(by rw[a1];rfl),fun σ e=>by rw[a1]at e;cases e⟩,hB⟩
theorem R7:∀(k:Nat) (v:Tv),v.size<k->∀(Γ:List Ts) (A B C:Option Addr) (c m cc:Nat) (w:World),SimsIn w A (Tv.tm (v)).type.args->TmsIn w B (Tv.tm (v)).args->CtxIn w C Γ->List.length Γ<=cc->List.length Γ+(v).size<=1000->Tv.ok (List.length Γ) (v)->Calls prog 79 #[.agg (cD (Tv.tm (v)) A c B m),.slice C (List.length Γ) cc] w fun e w'=>(∃(s:ByteArray) (A':Option Addr) (n c':Nat),e= .returned (.tuple #[.agg #[.string s,.slice A' n c'],.bool (tyv (Γ) (v)).isSome])/\∀ τ,tyv (Γ) (v)=some τ->s=τ.sm.base/\n=τ.sm.args.length/\SimsIn w' A' τ.sm.args)/\Bel w w':=by
 intro k
 induction k with
 | zero=>intro v h;omega
 | succ k ih=>exact fun v h Γ A B C c m cc w h1 h2 h3 h4 h5 h6=>typed_step h1 h2 h3 h4 h5 h6 (fun x hx=>ih x oG)
end
set_option maxRecDepth 100000 in
set_option maxHeartbeats 8000000 in
theorem typeof_any(tv:Tv)(A B:Option Addr)(c m:Nat)(w0 w:World)(bz:Bel w0 w)(hS:SimsIn w0 A tv.tm.type.args)(hT:TmsIn w0 B tv.tm.args)(hv2:tv.size<=200)(hok:tv.ok 0):Calls Tryz.prog 61 #[.agg (cD (Tv.tm tv) A c B m)] w fun e w'=>(∃(s:ByteArray) (A':Option Addr) (n c':Nat),e= .returned (.tuple #[.agg #[.string s,.slice A' n c'],.bool (tyv [] tv).isSome])/\∀ τ,tyv [] tv=some τ->s=τ.sm.base/\n=τ.sm.args.length/\TyS (nwX w0 w []) w' A' τ)/\Bel w w':=by
 refine enT Tryz.func61 Tryz.ntmps61 rfl rfl fun hB=>?_;refine zn2 ?_;refine qv (cs:=#[_,_,_,_,_,_]) rfl (fun b1 w1 hb1 s1 hr=>?_);clear hr;refine qQ (cs:=#[.string ⟨#[]⟩,.slice none 0 0]) KJ rfl (fun b2 w2 a2 s2 hr=>?_);have:=hb1.ob hr;have cg:=hB.u.ob hr;clear hr;refine zn6 ?_;refine zW kR (rows0_any tv A B c m w0 hS hT oG _ (bz.then hB.u)) rfl (fun e' w3 hr=>?_);obtain⟨⟨q,cap4,zs,rfl,ho4,hR4⟩,s3⟩:=hr;replace s3:=sB s3;obtain⟨wr,d3⟩:∃ z,z=w3:=⟨_,rfl⟩
 have a5:Bel wr w3:=by rw[d3];exact Below.refl _ _
 have df:RdT w0 wr q (rws (-1) 0 tv):=by rw[d3];exact rdt_of ho4 hR4
 have dg:q<wr.heap.size:=by rw[d3];exact(ho4.lt q (ar.2 rfl)).2
 have c9:(rws (-1) 0 tv).length=tv.size:=JV _ _ _;have d4:=tv.pos;have hnd:Kq (rws (-1) 0 tv) 0 [] tv:=WX (fun j h=>by rw[Nat.zero_add];exact aN h) .nil dE;refine⟨_,rfl,?_⟩;refine zn7 ?_;refine Lk (m:=tv.size) U29 in31 rfl rfl oG oG (fun a8 w4 a1 s4 hr=>?_);have:=hb1.u.ob hr;have:=a2.u.ob hr;have cx:=hB.u.ob hr;have bj:=a5.ob hr;clear hr;refine zn5 ?_;have bf:¬nwX w0 w [b2,a8] a8:=nwX.no (by simp) bz cx;have hS2:¬nwX w0 w [b2,a8] b2:=nwX.no (by simp) bz cg;refine zn3 ?_;refine wl (jJ (c:=((tv.size:Nat):Int)-1) rfl rfl rfl oG) (zn4 ?_);refine qz (rg [3,6,7,8,9] 18 86) (fun mm g w'=>∃(i:Nat) (z:Int) (F H:Nat->Value),i<=tv.size/\mm=i/\z+1=i/\g 6= .int .i64 z/\Bel w w'/\Bel wr w'/\Blk w' b2 31 #[.string ⟨#[]⟩,.slice none 0 0]/\Blk w' a8 31 (kz tv.size F H)/\TI (nwX w0 w [b2,a8]) (rws (-1) 0 tv) tv.size i F H w') (tv.size) ?_ (fun m g4 w5 hI=>?_)
 ·replace hB:=hB.tr0 (s1.t (s2.t (s3.t s4)));replace a2:=a2.tr0 (s3.t s4);replace a5:=a5.tr0 s4;exact⟨tv.size,_,_,_,ai _,rfl,by omega,rfl,hB,a5,a2,(by rw[<- M9];exact a1),TI.start _ _ _ _⟩
 obtain⟨i,z,F,H,hi,hmi,hzi,h6,hB,a5,a2,a1,bg⟩:=hI;have a3:Bel w5 w5:=Below.refl _ _;refine zQ 6 _ h6 nu (zn7 ?_);refine zZ rfl (fun c19=>?_) (fun c19=>?_)
 ·obtain⟨p,rfl⟩:∃ p:Nat,z=p:=⟨z.toNat,by omega⟩
  obtain rfl:i=p+1:=by omega
  have bu:p<tv.size:=by omega
  have hpl:p<(nds [] tv).length:=by rw[EW];exact bu
  obtain⟨bb,an,dw,bm,ad⟩:=C3 hnd hok (by simp) p hpl;rw[Nat.zero_add]at bb;have dk:=C1 tv [] p hpl;rw[List.length_nil]at dk
  generalize (nds [] tv)[p].1=Γp at bb an dw ad dk
  generalize (nds [] tv)[p].2=vp at bb an bm ad dk
  obtain⟨r,hr,hkk⟩:=nd_row bb;obtain⟨A7,c7,K7,dz,hrr,hrt2,dc,de⟩:=df p r hr;refine zn8 ?_;refine wl (x7 (i:=p) U149 Gw rfl rfl bu rfl) (wl (qw PW rfl rfl (a5.range dg hrr) Gw) ?_);refine y8 (cs:=#[.int .i64 0,.string ⟨#[]⟩,.string ⟨#[]⟩,.slice none 0 0,.int .i64 0,.slice none 0 0,.int .i64 0]) ze152 rfl (fun _=>rfl) (fun _=>rfl) Gw rfl xW (fun b7 w7 bv s5 hr=>?_);have:=a2.ob hr;have:=a1.ob hr;clear hr;refine Ky ?_;refine zZ rfl (fun cu=>?_) (fun cu=>?_)
  ·obtain⟨nm,τ,rfl,bn⟩:=nd_con bb hr cu;rw[bn]at dc;have hZ:SameQ [a8] w7 w7:=Same.refl _ _;replace a3:=a3.tr0 s5;have ac:=bg.mono a3;replace a1:=a1.tr0 s5;have ba:=a1;replace hB:=hB.tr0 s5;have bw:=hB;have b3:=a3;refine zn4 ?_;refine wl (qw U31 rfl rfl (bv.sub (n:=2) (xs:=[_,_]) rfl) vj) (wl (x7 (i:=p) U29 vj rfl rfl bu rfl) ?_);refine Jj a1 rfl rfl vj (by rw[u5];show 0+p*2+2<=tv.size*2;omega) xW Ey (fun w8 hq s6=>?_);replace hZ:=SameQ.trans hZ s6 (by simp);replace a1:=hq;rw[bn]at a1;have ab:=ac.put (c:=c7) bf hZ (TyAt.con hr cu bn) (TyS.old dc (bz.then bw) (fun _ h=> .inl h));refine zn6 ?_;refine wl (jJ rfl rfl rfl oG) (zn2 ?_);refine x9 (p) oG agA ?_;exact⟨p,_,_,_,by omega,rfl,by omega,rfl,hB.u,a5.u,a2.u,a1,ab⟩
  refine zn6 ?_;refine zZ rfl (fun cr=>?_) (fun cr=>?_)
  ·obtain⟨i2,rfl,hri,hup,hch⟩:=nd_var bb hr cr;have hti:=aN an;have hZ:SameQ [a8] w7 w7:=Same.refl _ _;replace a3:=a3.tr0 s5;have ac:=bg.mono a3;replace a1:=a1.tr0 s5;have ba:=a1;replace hB:=hB.tr0 s5;have bw:=hB;have b3:=a3;refine zn6 ?_;replace a5:=a5.tr0 s5;refine zW kR (binder_any df c9 a5 dg hr hri hup hch hti (by have:i2<Γp.length:=an;omega)) rfl (fun e' w9 hr=>?_);obtain⟨⟨u,ru,rfl,hru,db⟩,s7⟩:=hr;replace s7:=sB s7;replace hZ:=SameQ.trans hZ s7 (by simp);obtain⟨A8,c8,K8,ck8,_,hr2,hs8,_⟩:=df u ru hru;rw[db]at hr2 hs8;refine⟨_,rfl,?_⟩;refine wl (x7 (i:=u) U149 Gw rfl rfl (by have h:=(aC.1 hru).1;rw[c9]at h;exact h) rfl) ?_;refine zn1 ?_;refine wl (qw U31 rfl rfl (a5.u.range dg hr2) vj) (wl (x7 (i:=p) U29 vj rfl rfl bu rfl) ?_);replace a1:=a1.tr0 s7;refine Jj a1 rfl rfl vj (by rw[u5];show 0+p*2+2<=tv.size*2;omega) xW Ey (fun w10 hq s8=>?_);replace hZ:=SameQ.trans hZ s8 (by simp);replace a1:=hq;have ab:=ac.put (c:=c8) bf hZ (TyAt.var hr cr hri hch hti) (TyS.old hs8 (bz.then bw) (fun _ h=> .inl h));refine zn6 ?_;refine wl (jJ rfl rfl rfl oG) (zn2 ?_);refine x9 (p) oG agA ?_;exact⟨p,_,_,_,by omega,rfl,by omega,rfl,hB.u,a5.u,a2.u,a1,ab⟩
  refine zn6 ?_;refine zZ rfl (fun cq=>?_) (fun cq=>?_)
  ·obtain⟨τ,x,rfl,bn,a4,co⟩:=nd_abs bb hr cq;have bo:p+1<tv.size:=by have:=nd_lt co;rw[c9]at this;exact this
   obtain⟨ρ,Aρ,cρ,hρ,dx,dv,hSρ⟩:=bg.t (p+1) (ai _) bo;have a9:0<r.kids.length:=by rw[a4];exact Nat.zero_lt_succ _
   obtain⟨kg,rfl,cp,ca⟩:=de 0 a9;have e0:r.kids[0]'a9=((p+1:Nat):Int):=by simp[a4]
   rw[e0]at ca;replace a1:=a1.tr0 s5;have lt14:=a1.lt;replace a2:=a2.tr0 s5;have lt2:=a2.lt;replace hB:=hB.tr0 s5;have szw:=Bel.size hB;refine uX 13 (rg [] 49 13) (fun _=>false) (fun ix v wv=>match ix with|0=>v= .slice (some ⟨a8,0,none⟩) tv.size tv.size|1=>v= .int .i64 ((p:Nat):Int)|2=>v= .pointer (some ⟨b7,0+2,none⟩)|3=>v= .agg #[.string r.typ.base,.slice A7 r.typ.args.length c7]|4=>v= .slice (some ⟨a8,0,none⟩) tv.size tv.size|5=>v= .pointer (some ⟨b7,0+5,none⟩)|6=>v= .slice (some ⟨kg,0,none⟩) r.kids.length dz|7=>v= .pointer (some ⟨kg,0+0*1,none⟩)|8=>v= .int .i64 ((p+1:Nat):Int)|9=>v= .pointer (some ⟨a8,0+(p+1)*2,none⟩)|10=>v= .agg #[.string ρ.sm.base,.slice Aρ ρ.sm.args.length cρ]|11=>∃ b,v= .agg #[.string ⟨#[]⟩,.slice (some ⟨b,0,none⟩) 2 2]/\w7.heap.size<=b/\Blk wv b 31 #[.string r.typ.base,.slice A7 r.typ.args.length c7,.string ρ.sm.base,.slice Aρ ρ.sm.args.length cρ]|12=>v= .pointer (some ⟨a8,0+p*2,none⟩)|_=>True) kR kR ?_ ?_ ?_
   ·intro ix v wv wv2 h s9
    match ix,h with
    | 0,h=>exact h
    | 1,h=>exact h
    | 2,h=>exact h
    | 3,h=>exact h
    | 4,h=>exact h
    | 5,h=>exact h
    | 6,h=>exact h
    | 7,h=>exact h
    | 8,h=>exact h
    | 9,h=>exact h
    | 10,h=>exact h
    | 11,h=>
     obtain⟨cv,dy,b4,ao⟩:=h;exact⟨cv,dy,b4,ao.tr0 s9⟩
    | 12,h=>exact h
    | _+13,h=>exact trivial
   ·intro ix o hix hoq gg wx s10 hd dj
    match ix,hix,hoq with
    | 0,_,hoq=>
     cases sI hoq;exact oVq (x6 (v:= .slice _ _ _) rfl) rfl
    | 1,_,hoq=>
     cases sI hoq;exact oVq (x6 (v:= .int _ _) rfl) rfl
    | 2,_,hoq=>
     cases sI hoq;exact oVq (jX PW vj dE rfl rfl rfl) rfl
    | 3,_,hoq=>
     cases sI hoq;refine aZ 51 (hd 2 a6) ?_;exact oVq (qw U31 rfl rfl (bv.u.sub (n:=2) (xs:=[_,_]) rfl) vj) rfl
    | 4,_,hoq=>
     cases sI hoq;exact oVq (x6 (v:= .slice _ _ _) rfl) rfl
    | 5,_,hoq=>
     cases sI hoq;exact oVq (jX PW NW dE rfl rfl rfl) rfl
    | 6,_,hoq=>
     cases sI hoq;refine aZ 54 (hd 5 a6) ?_;exact oVq (qj (v:= .slice _ _ _) U62 rfl rfl (bv.u.cell rfl)) rfl
    | 7,_,hoq=>
     cases sI hoq;refine aZ 55 (hd 6 a6) ?_;exact oVq (x7 (i:=0) U62 qq rfl rfl a9 rfl) rfl
    | 8,_,hoq=>
     cases sI hoq;refine aZ 56 (hd 7 a6) ?_;exact oVq (qj (v:= .int _ _) U3 rfl rfl (a5.u.cell cp ca)) rfl
    | 9,_,hoq=>
     cases sI hoq;refine aZ 53 (hd 4 a6) (aZ 57 (hd 8 a6) ?_);exact oVq (x7 (i:=(p+1)) U29 vj rfl rfl bo rfl) rfl
    | 10,_,hoq=>
     cases sI hoq;refine aZ 58 (hd 9 a6) ?_;exact oVq (qw U31 rfl rfl (EZ a1.u bo dx dv) vj) rfl
    | 11,_,hoq=>
     cases sI hoq;have be:=s10;refine aZ 52 (hd 3 a6) (aZ 59 (hd 10 a6) ?_);refine vw kR (to_any A7 Aρ c7 cρ r.typ ρ.sm wx) rfl (fun e' w2 hr=>?_);obtain⟨⟨cv,rfl,b4,ao⟩,s11⟩:=hr;exact⟨_,rfl,sB s11,⟨_,rfl,nLT be.size b4,ao⟩,y6⟩
    | 12,_,hoq=>
     cases sI hoq;refine aZ 49 (hd 0 a6) (aZ 50 (hd 1 a6) ?_);exact oVq (x7 (i:=p) U29 vj rfl rfl bu rfl) rfl
    | _+13,hix,_=>exact absurd hix oG
   intro gg w11 cw hR dj;obtain⟨cv,dy,b4,ao⟩:=hR 11 dE;have hZ:SameQ [a8] w11 w11:=Same.refl _ _;replace a3:=a3.tr0 (s5.t cw);have ac:=bg.mono a3;replace a1:=a1.tr0 cw;have ba:=a1;replace hB:=hB.tr0 cw;have bw:=hB;have b3:=a3;have di:nwX w0 w [b2,a8] cv:=nwX.yes (nLT szw b4) oG oG;rw[bn]at ao;refine x8 60 _ dy nu (x8 61 _ (hR 12 dE) nu ?_);refine Jj a1 rfl rfl vj (by rw[u5];show 0+p*2+2<=tv.size*2;omega) xW Ey (fun w12 hq s13=>?_);replace hZ:=SameQ.trans hZ s13 (by simp);replace a1:=hq;have ab:=ac.put (c:=2) bf hZ ((TyAt.abs hr cq bn hρ:TyAt _ _ (Ts.f τ ρ))) (TyS.mk ao di (TyS.old (bn ▸ dc) (bz.then bw) (fun _ h=> .inl h)) (hSρ.mono b3));refine zn6 ?_;refine wl (jJ rfl rfl rfl oG) (zn2 ?_);refine x9 (p) oG agA ?_;exact⟨p,_,_,_,by omega,rfl,by omega,rfl,hB.u,a5.u,a2.u,a1,ab⟩
  refine zn6 ?_;refine zZ rfl (fun c1=>?_) (fun c1=>?_)
  ·obtain⟨x,y,rfl,a4,co,hny⟩:=nd_app bb hr c1;have bo:p+1<tv.size:=by have:=nd_lt co;rw[c9]at this;exact this
   have dh:p+1+x.size<tv.size:=by have:=nd_lt hny;rw[c9]at this;exact this
   obtain⟨α,Aα,cα,hα,dx,dv,hSα⟩:=bg.t (p+1) (ai _) bo;obtain⟨β,Aβ,cβ,hβ,hF2,hH2,hSβ⟩:=bg.t (p+1+x.size) oG dh;have a9:0<r.kids.length:=by rw[a4];exact Nat.zero_lt_succ _
   have bq:1<r.kids.length:=by rw[a4];exact Nat.one_lt_two
   obtain⟨kg,rfl,cp,ca⟩:=de 0 a9;obtain⟨_,e9,_,hk1⟩:=de 1 bq;cases e9;have e0:r.kids[0]'a9=((p+1:Nat):Int):=by simp[a4]
   have e1:r.kids[1]'bq=((p+1+x.size:Nat):Int):=by simp[a4]
   rw[e0]at ca;rw[e1]at hk1;refine xQ ?_;replace hB:=hB.tr0 s5;have hszB:=Bel.size hB;replace a5:=a5.tr0 s5;have hszR:=Bel.size a5;replace a3:=a3.tr0 s5;have hszK:=Bel.size a3;replace a2:=a2.tr0 s5;have lt2W:=a2.lt;replace a1:=a1.tr0 s5;have lt14W:=a1.lt;have lt7W:=bv.lt;refine SV 18 [64,65,66,67,68,69,70,71,72,73,74,75,76,77,8,9] [] (fun ix=>Nat.beq ix 16||Nat.beq ix 17) (fun st ix v la ha wv=>match ix with|0=>v= .slice (some ⟨a8,0,none⟩) tv.size tv.size|1=>v= .pointer (some ⟨b7,0+5,none⟩)|2=>v= .slice (some ⟨kg,0,none⟩) r.kids.length dz|3=>v= .pointer (some ⟨kg,0+0*1,none⟩)|4=>v= .int .i64 ((p+1:Nat):Int)|5=>v= .pointer (some ⟨a8,0+(p+1)*2,none⟩)|6=>v= .agg #[.string α.sm.base,.slice Aα α.sm.args.length cα]|7=>v= .slice (some ⟨a8,0,none⟩) tv.size tv.size|8=>v= .pointer (some ⟨b7,0+5,none⟩)|9=>v= .slice (some ⟨kg,0,none⟩) r.kids.length dz|10=>v= .pointer (some ⟨kg,0+1*1,none⟩)|11=>v= .int .i64 ((p+1+x.size:Nat):Int)|12=>v= .pointer (some ⟨a8,0+(p+1+x.size)*2,none⟩)|13=>v= .agg #[.string β.sm.base,.slice Aβ β.sm.args.length cβ]|14=>∃ b:Nat,v= .pointer (some ⟨b,0,none⟩)/\w7.heap.size<=b/\(st 16=false->Blk wv b 31 #[.string ⟨#[]⟩,.slice none 0 0])/\(st 16=true->Blk wv b 31 #[.string α.sm.base,.slice Aα α.sm.args.length cα])/\la<=b/\b<ha|15=>∃ b:Nat,v= .pointer (some ⟨b,0,none⟩)/\w7.heap.size<=b/\(st 17=false->Blk wv b 31 #[.string ⟨#[]⟩,.slice none 0 0])/\(st 17=true->Blk wv b 31 #[.string β.sm.base,.slice Aβ β.sm.args.length cβ])/\la<=b/\b<ha|16=>True|17=>True|_=>True) kR kR kR ?_ ?_ ?_
   ·intro st ix v la ha wv wv2 h s14
    match ix,h with
    | 0,h=>exact h
    | 1,h=>exact h
    | 2,h=>exact h
    | 3,h=>exact h
    | 4,h=>exact h
    | 5,h=>exact h
    | 6,h=>exact h
    | 7,h=>exact h
    | 8,h=>exact h
    | 9,h=>exact h
    | 10,h=>exact h
    | 11,h=>exact h
    | 12,h=>exact h
    | 13,h=>exact h
    | 14,h=>
     obtain⟨b8,e8,cf,ck,cn,cz,dr⟩:=h;exact⟨b8,e8,cf,fun h=>(ck h).tr0 s14,fun h=>(cn h).tr0 s14,cz,dr⟩
    | 15,h=>
     obtain⟨b9,e9,ce,cj,cm,cy,dq⟩:=h;exact⟨b9,e9,ce,fun h=>(cj h).tr0 s14,fun h=>(cm h).tr0 s14,cy,dq⟩
    | 16,h=>exact h
    | 17,h=>exact h
    | _+18,h=>exact trivial
   ·intro st ix o hix hoq hns gg wx la ha s15 hd
    match ix,hix,hoq,hns with
    | 0,_,hoq,hns=>
     cases sI hoq;show OS _ _ _ _ _ _;refine qk (x6 (v:= .slice _ _ _) rfl) ⟨Same.refl _ _,?_⟩;exact rfl
    | 1,_,hoq,hns=>
     cases sI hoq;show OS _ _ _ _ _ _;refine qk (jX PW NW dE rfl rfl rfl) ⟨Same.refl _ _,?_⟩;exact rfl
    | 2,_,hoq,hns=>
     cases sI hoq;show OS _ _ _ _ _ _;refine aZ 65 (hd 1 _ a6 rfl) ?_;refine qk (qj (v:= .slice _ _ _) U62 rfl rfl (bv.u.cell rfl)) ⟨Same.refl _ _,?_⟩;exact rfl
    | 3,_,hoq,hns=>
     cases sI hoq;show OS _ _ _ _ _ _;refine aZ 66 (hd 2 _ a6 rfl) ?_;refine qk (x7 (i:=0) U62 qq rfl rfl a9 rfl) ⟨Same.refl _ _,?_⟩;exact rfl
    | 4,_,hoq,hns=>
     cases sI hoq;show OS _ _ _ _ _ _;refine aZ 67 (hd 3 _ a6 rfl) ?_;refine qk (qj (v:= .int _ _) U3 rfl rfl (a5.u.cell cp ca)) ⟨Same.refl _ _,?_⟩;exact rfl
    | 5,_,hoq,hns=>
     cases sI hoq;show OS _ _ _ _ _ _;refine aZ 64 (hd 0 _ a6 rfl) (aZ 68 (hd 4 _ a6 rfl) ?_);refine qk (x7 (i:=(p+1)) U29 vj rfl rfl bo rfl) ⟨Same.refl _ _,?_⟩;exact rfl
    | 6,_,hoq,hns=>
     cases sI hoq;show OS _ _ _ _ _ _;refine aZ 69 (hd 5 _ a6 rfl) ?_;refine qk (qw U31 rfl rfl (EZ a1.u bo dx dv) vj) ⟨Same.refl _ _,?_⟩;exact rfl
    | 7,_,hoq,hns=>
     cases sI hoq;show OS _ _ _ _ _ _;refine qk (x6 (v:= .slice _ _ _) rfl) ⟨Same.refl _ _,?_⟩;exact rfl
    | 8,_,hoq,hns=>
     cases sI hoq;show OS _ _ _ _ _ _;refine qk (jX PW NW dE rfl rfl rfl) ⟨Same.refl _ _,?_⟩;exact rfl
    | 9,_,hoq,hns=>
     cases sI hoq;show OS _ _ _ _ _ _;refine aZ 72 (hd 8 _ a6 rfl) ?_;refine qk (qj (v:= .slice _ _ _) U62 rfl rfl (bv.u.cell rfl)) ⟨Same.refl _ _,?_⟩;exact rfl
    | 10,_,hoq,hns=>
     cases sI hoq;show OS _ _ _ _ _ _;refine aZ 73 (hd 9 _ a6 rfl) ?_;refine qk (x7 (i:=1) U62 qq rfl rfl bq rfl) ⟨Same.refl _ _,?_⟩;exact rfl
    | 11,_,hoq,hns=>
     cases sI hoq;show OS _ _ _ _ _ _;refine aZ 74 (hd 10 _ a6 rfl) ?_;refine qk (qj (v:= .int _ _) U3 rfl rfl (a5.u.cell cp hk1)) ⟨Same.refl _ _,?_⟩;exact rfl
    | 12,_,hoq,hns=>
     cases sI hoq;show OS _ _ _ _ _ _;refine aZ 71 (hd 7 _ a6 rfl) (aZ 75 (hd 11 _ a6 rfl) ?_);refine qk (x7 (i:=(p+1+x.size)) U29 vj rfl rfl dh rfl) ⟨Same.refl _ _,?_⟩;exact rfl
    | 13,_,hoq,hns=>
     cases sI hoq;show OS _ _ _ _ _ _;refine aZ 76 (hd 12 _ a6 rfl) ?_;refine qk (qw U31 rfl rfl (EZ a1.u dh hF2 hH2) vj) ⟨Same.refl _ _,?_⟩;exact rfl
    | 14,_,hoq,hns=>
     cases sI hoq;show OS _ _ _ _ _ _;have be:=s15;refine jq (fun ops Q K=>?_);refine qQ (cs:=#[.string ⟨#[]⟩,.slice none 0 0]) KJ rfl (fun b8 w1 dp s16 hr=>?_);exact K _ _ ⟨s16,_,rfl,nLT be.size hr,fun _=>dp,(fun h=>absurd (hns 16 rfl kR) (by rw[h];decide)),hr,dp.lt⟩
    | 15,_,hoq,hns=>
     cases sI hoq;show OS _ _ _ _ _ _;have be:=s15;refine jq (fun ops Q K=>?_);refine qQ (cs:=#[.string ⟨#[]⟩,.slice none 0 0]) KJ rfl (fun b9 w1 dn s17 hr=>?_);exact K _ _ ⟨s17,_,rfl,nLT be.size hr,fun _=>dn,(fun h=>absurd (hns 17 rfl kR) (by rw[h];decide)),hr,dn.lt⟩
    | 16,_,hoq,hns=>
     cases sI hoq;show st 16=false->(∀ j k,j∈_->k∈_->j≠k->ha j<=la k\/ha k<=la j)->OS _ _ _ _ _ _;intro hn hI;have be:=s15;obtain⟨b8,e8,cf,ck,cn,cz,dr⟩:=hd 14 _ (zj kR) rfl;refine aZ 70 (hd 6 _ a6 rfl) (zq 8 _ e8 nu ?_);have d2:=ck hn;have hdj:=hI 14 15 (zj kR) (zj kR) dE;refine H3 (fun ops Q K=>?_);refine zV d2 (fun w2 hq bd=>?_);have K2:=K w2;refine K2 ⟨be.freshL bd (fun g hg=>by rw[List.mem_singleton.1 hg];exact .inr cf),bd.size,?_,fun kx ox bc b5 h=>?_⟩
     ·exact trivial
     match kx,bc,b5,h with
     | 0,_,_,h=>exact h
     | 1,_,_,h=>exact h
     | 2,_,_,h=>exact h
     | 3,_,_,h=>exact h
     | 4,_,_,h=>exact h
     | 5,_,_,h=>exact h
     | 6,_,_,h=>exact h
     | 7,_,_,h=>exact h
     | 8,_,_,h=>exact h
     | 9,_,_,h=>exact h
     | 10,_,_,h=>exact h
     | 11,_,_,h=>exact h
     | 12,_,_,h=>exact h
     | 13,_,_,h=>exact h
     | 14,_,b5,h=>
      obtain rfl:_=ox:=Option.some.inj b5;obtain⟨bx,ex,bi,c2,c3,bk,bt⟩:=h;have dm:bx=b8:=by
        have h:=ex.symm.trans e8;cases h;rfl
      subst dm;exact⟨bx,ex,bi,(fun h=>by cases (show true=false from h)),fun _=>hq,bk,bt⟩
     | 15,_,b5,h=>
      obtain rfl:_=ox:=Option.some.inj b5;obtain⟨bx,ex,bi,c2,c3,bk,bt⟩:=h;exact⟨bx,ex,bi,fun h=>(c2 h).tr bd (fun hm=>by have:=ar.1 hm;omega),fun h=>(c3 h).tr bd (fun hm=>by have:=ar.1 hm;omega),bk,bt⟩
     | 16,bc,_,_=>exact absurd rfl bc
     | 17,_,_,h=>exact h
     | _+18,_,_,_=>exact trivial
    | 17,_,hoq,hns=>
     cases sI hoq;show st 17=false->(∀ j k,j∈_->k∈_->j≠k->ha j<=la k\/ha k<=la j)->OS _ _ _ _ _ _;intro hn hI;have be:=s15;obtain⟨b9,e9,ce,cj,cm,cy,dq⟩:=hd 15 _ (zj kR) rfl;refine aZ 77 (hd 13 _ a6 rfl) (zq 9 _ e9 nu ?_);have d2:=cj hn;have hdj:=hI 14 15 (zj kR) (zj kR) dE;refine H3 (fun ops Q K=>?_);refine zV d2 (fun w2 hq bd=>?_);have K2:=K w2;refine K2 ⟨be.freshL bd (fun g hg=>by rw[List.mem_singleton.1 hg];exact .inr ce),bd.size,?_,fun kx ox bc b5 h=>?_⟩
     ·exact trivial
     match kx,bc,b5,h with
     | 0,_,_,h=>exact h
     | 1,_,_,h=>exact h
     | 2,_,_,h=>exact h
     | 3,_,_,h=>exact h
     | 4,_,_,h=>exact h
     | 5,_,_,h=>exact h
     | 6,_,_,h=>exact h
     | 7,_,_,h=>exact h
     | 8,_,_,h=>exact h
     | 9,_,_,h=>exact h
     | 10,_,_,h=>exact h
     | 11,_,_,h=>exact h
     | 12,_,_,h=>exact h
     | 13,_,_,h=>exact h
     | 14,_,b5,h=>
      obtain rfl:_=ox:=Option.some.inj b5;obtain⟨bx,ex,bi,c2,c3,bk,bt⟩:=h;exact⟨bx,ex,bi,fun h=>(c2 h).tr bd (fun hm=>by have:=ar.1 hm;omega),fun h=>(c3 h).tr bd (fun hm=>by have:=ar.1 hm;omega),bk,bt⟩
     | 15,_,b5,h=>
      obtain rfl:_=ox:=Option.some.inj b5;obtain⟨bx,ex,bi,c2,c3,bk,bt⟩:=h;have dm:bx=b9:=by
        have h:=ex.symm.trans e9;cases h;rfl
      subst dm;exact⟨bx,ex,bi,(fun h=>by cases (show true=false from h)),fun _=>hq,bk,bt⟩
     | 16,_,_,h=>exact h
     | 17,bc,_,_=>exact absurd rfl bc
     | _+18,_,_,_=>exact trivial
    | _+18,hix,_,_=>exact absurd hix oG
   intro st gg w13 la ha cb cd hR hI;obtain⟨b8,e8,cf,ck,cn,cz,dr⟩:=hR 14 _ dE rfl;obtain⟨b9,e9,ce,cj,cm,cy,dq⟩:=hR 15 _ dE rfl;have dp:=cn (cb 16 dE rfl);have dn:=cm (cb 17 dE rfl);refine x8 70 _ (hR 6 _ dE rfl) nu (x8 77 _ (hR 13 _ dE rfl) nu (x8 8 _ e8 nu (x8 9 _ e9 nu (zn4 ?_))));replace hB:=hB.tr0 cd;replace a2:=a2.tr0 cd;by_cases qa:α.sm.base=⟨#[]⟩
   ·obtain⟨a,ρ,rfl⟩:=ts_fun qa;obtain⟨ub,uo,A5,c5,A6,c6,rfl,hub,hSub,d6,hus,d5⟩:=hSα;obtain⟨hur,d7⟩:=rng4 d6;have d9:=nd_txt co an.1 dw (by have:x.size+y.size+1<=tv.size:=bm;omega) hα;have d8:=nd_txt hny an.2 dw (by have:x.size+y.size+1<=tv.size:=bm;omega) hβ;have da:a.txt.length<=1000000:=by simp only[Ts.txt,List.length_cons,List.length_append]at d9;omega
    refine jY [] [0,1,2,3,4,5,6,7,8,9,10,11,12,13,14,15,16,17] rfl (fun w14 cc=>?_);refine zn2 ?_;refine hle rfl (fun _=>WW rfl rfl) (ag (ap (fun h=>h rfl))) (zn4 ?_);refine hge 81 rfl rfl rfl (fun _ _=>BV rfl rfl) (ag (ap (fun h=>h rfl))) (zn4 ?_);refine hg 87 rfl rfl rfl (fun _ _=>x7 (i:=0) U29 vj rfl rfl (by show 0<2;decide) rfl) (hgS 87 rfl rfl rfl U31 rfl rfl (a3.u.range hub hur) vj (zn1 ?_));refine h1 rfl (zn1 ?_);refine zW kR (samet_any A5 Aβ c5 cβ a β w14 ((hus.sims _).mono a3.u) ((hSβ.sims _).mono a3.u) da d8) rfl (fun e' w15 hr=>?_);obtain⟨rfl,bh⟩:=hr;replace bh:=sB bh;have c4:=bh;refine⟨_,rfl,?_⟩;refine qY (KQ c4 (zn4 ?_));refine jv rfl (fun e5=>?_) (fun e5=>?_)
    ·have bc:a.eqb β=false:=by simpa using e5
     have b6:tyv Γp (.app x y)=none:=ty_no bb hr c1 a4 hα hβ (fun ρ2 e=>by rw[(Ts.f.inj e).1,Ts.eqb_iff.2 rfl]at bc;cases bc);have br:(tyv [] tv).isSome=false:=by
       cases hq:(tyv [] tv).isSome with
       | false=>rfl
       | true=>have:=ad hq;rw[b6]at this;cases this
     refine zn2 ?_;refine jW (cs:=#[.string ⟨#[]⟩,.slice none 0 0]) ?_;refine zV a2.u (fun w16 hq s21=>?_);replace a2:=hq;refine vJ ?_;refine uK (.inl rfl) rfl (zX U31 rfl rfl a2.range0 vj) rfl ?_;replace hB:=(hB.tr0 (cc.t bh)).tr1 s21 cg;exact⟨⟨_,_,_,_,by rw[br];rfl,fun τ h=>by rw[h]at br;cases br⟩,hB⟩
    have heq:a=β:=Ts.eqb_iff.1 (by simpa using e5);refine QK (e_S ?_);have hZ:SameQ [a8] w15 w15:=Same.refl _ _;replace a3:=a3.tr0 (cd.t (cc.t bh));have ac:=bg.mono a3;replace a1:=a1.tr0 (cd.t (cc.t bh));have ba:=a1;replace hB:=hB.tr0 (cc.t bh);have bw:=hB;have b3:=a3;refine zn5 ?_;refine wl (x7 (i:=1) U29 vj rfl rfl (by show 1<2;decide) rfl) (wl (qw U31 rfl rfl (b3.range hub d7) vj) (wl (x7 (i:=p) U29 vj rfl rfl bu rfl) ?_));refine Jj a1 rfl rfl vj (by rw[u5];show 0+p*2+2<=tv.size*2;omega) xW Ey (fun w17 hq s22=>?_);replace hZ:=SameQ.trans hZ s22 (by simp);replace a1:=hq;have ab:=ac.put (c:=c6) bf hZ (TyAt.app hr c1 a4 hα (heq ▸ hβ)) (d5.mono b3);refine zn6 ?_;refine wl (jJ rfl rfl rfl oG) (zn2 ?_);refine x9 (p) oG agA ?_;exact⟨p,_,_,_,by omega,rfl,by omega,rfl,hB.u,a5.u,a2.u,a1,ab⟩
   have b6:tyv Γp (.app x y)=none:=ty_no bb hr c1 a4 hα hβ (fun ρ e=>qa (by rw[e];rfl));have br:(tyv [] tv).isSome=false:=by
     cases hq:(tyv [] tv).isSome with
     | false=>rfl
     | true=>have:=ad hq;rw[b6]at this;cases this
   refine jY [] [0,1,2,3,4,5,6,7,8,9,10,11,12,13,14,15,16,17] rfl (fun w18 s23=>?_);refine zn2 ?_;refine hle rfl (fun _=>WW rfl rfl) (ag (aj qa)) (zn20 ?_);refine jW (cs:=#[.string ⟨#[]⟩,.slice none 0 0]) ?_;refine zV a2.u (fun w19 hq s24=>?_);replace a2:=hq;refine vJ ?_;refine uK (.inl rfl) rfl (zX U31 rfl rfl a2.range0 vj) rfl ?_;replace hB:=(hB.tr0 s23).tr1 s24 cg;exact⟨⟨_,_,_,_,by rw[br];rfl,fun τ h=>by rw[h]at br;cases br⟩,hB⟩
  rcases hkk with h|h|h|h
  · exact absurd h cu
  · exact absurd h cr
  · exact absurd h cq
  · exact absurd h c1
 obtain⟨τ0,A0,c0,hT0,hF0,hH0,du⟩:=bg.t 0 oG d4;have hty:tyv [] tv=some τ0:=hT0 _ _ hnd;refine zn8 ?_;refine wl (x7 (i:=0) U29 vj rfl rfl d4 rfl) (wl (qw U31 rfl rfl (EZ a1 d4 hF0 hH0) vj) ?_);refine zV a2 (fun w20 hq s25=>?_);replace du:=du.tr s25 (fun g hg=> .inl (by rw[List.mem_singleton.1 hg];exact hS2));replace a2:=hq;refine zn4 ?_;refine uK (.inl rfl) rfl (zX U31 rfl rfl a2.range0 vj) rfl ?_;replace hB:=hB.tr1 s25 cg;exact⟨⟨_,_,_,_,by rw[hty];rfl,fun τ h=>by obtain rfl:=Option.some.inj (hty.symm.trans h);exact⟨rfl,rfl,du.imp (fun b _ h=>h.imp id (fun h=>⟨h.1,by simp⟩)) _⟩⟩,hB⟩
end Go.Proofs.YtndbjnkilegebaaGreatDoor
