/- What is reached from a node of a valid graph is a valid graph; a path in it leads where the path leads in the graph. No program in sight. Maps between feature graphs: when there is one, that there is one only, and the states of the two searches for it. No program in sight. What these functions of the program compute, at every world: glosswright/subsume.Both, glosswright/subsume.Find, glosswright/subsume.Subsumes. Maps between valid graphs: they compose, maps both ways are a renumbering, and a map keeps paths. No program in sight. -/
import Derived.Test.YtdgnllfbooklcaaDoorRng
import Derived.Test.YtdgnllfbooklcaaDoorTurn
namespace Go.Proofs.YtdgnllfbooklcaaDoor
open Go.RowKit
structure TrR (g:List Nd) (r:Nat) (o:List Nat):Prop where
  dl:DL g [r] [] o
  ok:OOk g.length o
  nodup:o.Nodup
  has:r ∈ o
  zero:o.idxOf r=0
  clo:∀ x ∈ o,∀ t ∈ yZ g x,t ∈ o
theorem DL.within {g:List Nd} {o:List Nat} (hc:∀ x ∈ o,∀ t ∈ yZ g x,t ∈ o) {is a b:List Nat} (h:DL g is a b):(∀ i ∈ is,i ∈ o)→(∀ x ∈ a,x ∈ o)→∀ x ∈ b,x ∈ o:=by
  induction h with
  | nil=>exact fun _ h=>h
  | old h t ih=>exact fun hi ha=>ih (fun i h=>hi i (List.mem_cons_of_mem _ h)) ha
  | new h s t ihs iht=>
    intro hi ha;have hio:=hi _ (List.mem_cons_self ..);refine iht (fun i h=>hi i (List.mem_cons_of_mem _ h)) (ihs (hc _ hio) (fun x hx=>?_));rcases List.mem_append.1 hx with hx | hx
    · exact ha x hx
    · rw [List.mem_singleton.1 hx];exact hio
theorem Lq {o:List Nat} {x y:Nat} (hx:x ∈ o) (hy:y ∈ o) (e:o.idxOf x=o.idxOf y):x=y:=by
  obtain⟨h1,h2⟩:=jw hx;obtain⟨h3,h4⟩:=jw hy;rw [← h2,← h4];simp only [e]
theorem TQ {o:List Nat} {x:Nat} (hx:x ∈ o):∀ {o2:List Nat},(∀ y ∈ o2,y ∈ o)→(o2.map (o.idxOf ·)).idxOf (o.idxOf x)=o2.idxOf x
  | [],_=>rfl
  | y :: o2,h=>by
    rw [List.map_cons,List.idxOf_cons,List.idxOf_cons,TQ hx (fun z hz=>h z (List.mem_cons_of_mem _ hz))]
    by_cases e:y=x
    · subst e;simp
    · have e2:¬o.idxOf y=o.idxOf x:=fun h2=>e (Lq (h y (List.mem_cons_self ..)) hx h2)
      have b1:(y == x)=false:=by simp [e]
      have b2:(o.idxOf y == o.idxOf x)=false:=by simp [e2]
      rw [b1,b2]
theorem num_map2 {o o2:List Nat} {x:Nat} (hx:x ∈ o) (h:∀ y ∈ o2,y ∈ o):u7 (o2.map (o.idxOf ·)) (o.idxOf x)=u7 o2 x:=by
  unfold u7
  have e:o.idxOf x ∈ o2.map (o.idxOf ·) ↔ x ∈ o2:=⟨fun hm=>by
    obtain⟨y,hy,e⟩:=List.mem_map.1 hm
    exact Lq (h y hy) hx e ▸ hy,fun h=>List.mem_map_of_mem h⟩
  by_cases h2:x ∈ o2
  · rw [if_pos h2,if_pos (e.2 h2),TQ hx h]
  · rw [if_neg h2,if_neg (fun h3=>h2 (e.1 h3))]
section sub
variable {g:List Nd} {r:Nat} {o:List Nat}
theorem TrR.mem (t:TrR g r o) {x:Nat} (hx:x ∈ o) {y:Int×Int} (hy:y ∈ (nd g x).ln):y.2.toNat ∈ o:=t.clo x hx _ (by simp only [yZ,List.mem_map];exact⟨y,hy,rfl⟩)
theorem TrR.lt (t:TrR g r o) {x:Nat} (hx:x ∈ o):x < g.length:=t.ok.lt x hx
theorem TrR.can2 (t:TrR g r o) {c:Nat} {o2:List Nat} (hc:c ∈ o) (h2:DL g [c] [] o2):y5 (y5 g o) (o2.map (o.idxOf ·))=y5 g o2:=by
  have hw:=h2.within t.clo (fun i hi=>by rw [List.mem_singleton.1 hi];exact hc) (fun x hx=>by cases hx);have hcl:=h2.clo;unfold y5;rw [List.map_map];refine List.map_congr_left (fun x hx=>?_);have hxo:=hw x hx;have e:=Ix (g:=g) hxo;unfold y5 at e;show Pj _ _ (o.idxOf x)=Pj g o2 x;unfold Pj at e ⊢;rw [e];refine Y0 rfl ?_;simp only [List.map_map];refine List.map_congr_left (fun y hy=>?_);have hyo:=t.mem hxo hy;simp only [Function.comp,JK,NV hyo,Int.toNat_natCast];rw [num_map2 hyo hw]
theorem TrR.dl2 (t:TrR g r o) {c:Nat} {o2:List Nat} (hc:c ∈ o) (h2:DL g [c] [] o2):DL (y5 g o) [o.idxOf c] [] (o2.map (o.idxOf ·)):=
  h2.map t.clo (h2.within t.clo (fun i hi=>by rw [List.mem_singleton.1 hi];exact hc) (fun x hx=>by cases hx))
theorem TrR.valid {l:List Ty} {fs:List Ft} (t:TrR g r o) (h:GV l fs g):(kj l fs (y5 g o)).1=0:=by
  have hlen:=ux g o;have hole:o.length≤g.length:=by have:=t.ok.cnt;omega
  have hpos:0 < o.length:=List.length_pos_of_mem t.has;have hle:=h.gok.le;have hget:∀ j (hj:j < o.length),o.idxOf o[j]=j:=fun j hj=>I4 t.nodup hj
  have hrg:∀ i,i < (y5 g o).length→∀ y ∈ yZ (y5 g o) i,y < (y5 g o).length:=fun i hi y hy=>by
    rw [hlen] at hi ⊢;rw [← hget i hi,Dw t.clo (List.getElem_mem hi)] at hy;obtain⟨z,hz,rfl⟩:=List.mem_map.1 hy;exact(jw (t.clo _ (List.getElem_mem hi) z hz)).1
  refine gv_img (σ:=(o.idxOf ·)) (τ:=fun j=>o.getD j 0) h om om (fun j hj=>?_) (fun j hj=>?_)
  · have hjo:j < o.length:=by omega
    have eg:o.getD j 0=o[j]:=by simp [List.getD,hjo]
    have hm:o[j] ∈ o:=List.getElem_mem hjo;have en:=Ix (g:=g) hm;rw [hget j hjo] at en;simp only [eg];refine⟨t.lt hm,?_,fun x hx=>?_⟩
    · rw [en]
      refine Y0 rfl ?_;simp only [Pj,trN];refine List.map_congr_left (fun y hy=>?_);simp only [JK,NV (t.mem hm hy)]
    · have hxo:=t.mem hm hx
      rw [Ix hxo,hlen];exact⟨(jw hxo).1,rfl⟩
  · have hd:=t.dl2 t.has t.dl
    rw [t.zero,CX t.nodup] at hd;have hR:=hd.rch hrg (fun i hi=>by rw [List.mem_singleton.1 hi];omega) (fun i hi=>by rw [List.mem_singleton.1 hi];exact .zero) (fun x hx=>by cases hx);exact hR j (List.mem_range.2 om)
end sub
section comp
variable {l:List Ty} {fs:List Ft} {g:List Nd} {p q:List Int}
end comp
end Go.Proofs.YtdgnllfbooklcaaDoor
namespace Go.Proofs.YtdgnllfbooklcaaDoor
open Go.RowKit
structure Hom (l:List Ty) (a b:List Nd) (φ:Nat→Nat):Prop where
  zero:φ 0=0
  lt:∀ i,i < a.length→φ i < b.length
  ty:∀ i,i < a.length→sub l (nd b (φ i)).ty.toNat (nd a i).ty.toNat=true
  ln:∀ i,i < a.length→∀ x ∈ (nd a i).ln,tgt (nd b (φ i)).ln x.1=((φ x.2.toNat:Nat):Int)
theorem Hom.uniq {l:List Ty} {a b:List Nd} {φ ψ:Nat→Nat} (h:Hom l a b φ) (k:Hom l a b ψ) {i:Nat} (hr:Rch a i):φ i=ψ i:=by
  induction hr with
  | zero=>rw [h.zero,k.zero]
  | step hr hi hx ih=>
    rename_i i x
    have e:=yy hi;have h1:=h.ln i hi x (by rw [e];exact hx);have h2:=k.ln i hi x (by rw [e];exact hx);rw [ih] at h1;rw [h1] at h2;exact Int.ofNat.inj h2
def Maps (l:List Ty) (a b:List Nd):Prop:=∃ φ,Hom l a b φ
noncomputable instance (l:List Ty) (a b:List Nd):Decidable (Maps l a b):=Classical.propDecidable _
def OJ (out:Nat→Int) (t:Nat) (v:Int) (x:Nat):Int:=if x=t then v else out x
theorem X5 (out:Nat→Int) (t:Nat) (v:Int):OJ out t v t=v:=by simp [OJ]
theorem kV {out:Nat→Int} {t x:Nat} {v:Int} (h:x≠t):OJ out t v x=out x:=by simp [OJ,h]
def LinksDone (a b:List Nd) (out:Nat→Int) (j k:Nat):Prop:=∀ x ∈ (nd a j).ln.take k,0≤out x.2.toNat∧tgt (nd b (out j).toNat).ln x.1=out x.2.toNat
def Rz (l:List Ty) (a b:List Nd) (out:Nat→Int) (j:Nat):Prop:=sub l (nd b (out j).toNat).ty.toNat (nd a j).ty.toNat=true∧LinksDone a b out j (nd a j).ln.length
structure FS (l:List Ty) (a b:List Nd) (out:Nat→Int) (st:List Int) (i k:Nat):Prop where
  zero:out 0=0
  rng:∀ j,-1≤out j∧out j < b.length
  only:∀ j,0≤out j→∀ φ,Hom l a b φ→out j=(φ j:Nat)
  stk:∀ s ∈ st,∃ n:Nat,s=(n:Int)∧n < a.length∧0≤out n
  cl:∀ j,j < a.length→0≤out j→j≠i→(j:Int) ∈ st∨Rz l a b out j
  me:i < a.length→0≤out i∧LinksDone a b out i k
  ty:i < a.length→0 < k→sub l (nd b (out i).toNat).ty.toNat (nd a i).ty.toNat=true
theorem FS.start {l:List Ty} {a b:List Nd} (ha:0 < a.length) (hb:0 < b.length):FS l a b (OJ (fun _=>-1) 0 0) [0] a.length 0:=by
  refine⟨by simp [OJ],fun j=>?_,fun j hj φ h=>?_,fun s hs=>?_,fun j _ hj _=>?_,fun hi=>absurd hi (Nat.lt_irrefl _),fun hi=>absurd hi (Nat.lt_irrefl _)⟩
  · by_cases e:j=0
    · subst e;rw [X5];omega
    · rw [kV e];show (-1:Int)≤-1∧(-1:Int) < _;omega
  · by_cases e:j=0
    · subst e;rw [h.zero];simp [OJ]
    · rw [kV e] at hj;omega
  · obtain rfl:=List.mem_singleton.1 hs
    exact⟨0,rfl,ha,by simp [OJ]⟩
  · by_cases e:j=0
    · subst e;exact .inl (by simp)
    · rw [kV e] at hj;omega
theorem FS.pop {l:List Ty} {a b:List Nd} {out:Nat→Int} {st:List Int} {z:Int} (h:FS l a b out (st ++ [z]) a.length 0):∃ n m:Nat,z=(n:Int)∧n < a.length∧out n=(m:Int)∧m < b.length∧FS l a b out st n 0:=by
  obtain⟨n,rfl,hn,hm⟩:=h.stk z (by simp);have hr:=h.rng n;refine⟨n,(out n).toNat,rfl,hn,by omega,by omega,h.zero,h.rng,h.only,fun s hs=>h.stk s (by simp [hs]),fun j hj hmj hne=>?_,fun _=>⟨hm,fun x hx=>by simp at hx⟩,fun _ hk=>absurd hk (Nat.lt_irrefl _)⟩;rcases h.cl j hj hmj om with h1 | h1
  · rcases List.mem_append.1 h1 with h2 | h2
    · exact .inl h2
    · have:=List.mem_singleton.1 h2
      omega
  · exact .inr h1
theorem Hz {a:List Nd} {i k:Nat} (hi:i < a.length) (hk:k < (a[i]).ln.length):(nd a i).ln.take (k + 1)=(nd a i).ln.take k ++ [(a[i]).ln[k]]:=by
  rw [yy hi,List.take_succ_eq_append_getElem hk]
theorem LinksDone.snoc {a b:List Nd} {out:Nat→Int} {i k:Nat} (h:LinksDone a b out i k) (hi:i < a.length) (hk:k < (a[i]).ln.length) (hx:0≤out ((a[i]).ln[k]).2.toNat∧tgt (nd b (out i).toNat).ln ((a[i]).ln[k]).1=out ((a[i]).ln[k]).2.toNat):LinksDone a b out i (k + 1):=fun x hxm=>by
  rw [Hz hi hk] at hxm
  rcases List.mem_append.1 hxm with h1 | h1
  · exact h x h1
  · rw [List.mem_singleton.1 h1];exact hx
theorem FS.old {l:List Ty} {a b:List Nd} {out:Nat→Int} {st:List Int} {i k:Nat} (h:FS l a b out st i k) (hi:i < a.length) (hk:k < (a[i]).ln.length) (hty:sub l (nd b (out i).toNat).ty.toNat (nd a i).ty.toNat=true)
    (hm:0≤out ((a[i]).ln[k]).2.toNat) (he:out ((a[i]).ln[k]).2.toNat=tgt (nd b (out i).toNat).ln ((a[i]).ln[k]).1):FS l a b out st i (k + 1):=
  ⟨h.zero,h.rng,h.only,h.stk,h.cl,fun _=>⟨(h.me hi).1,(h.me hi).2.snoc hi hk ⟨hm,he.symm⟩⟩,fun _ _=>hty⟩
theorem LinksDone.set {a b:List Nd} {out:Nat→Int} {j k t:Nat} {v:Int} (h:LinksDone a b out j k) (hj:0≤out j) (ht:out t < 0):LinksDone a b (OJ out t v) j k:=fun x hx=>by
  have h1:=h x hx
  rw [kV (x:=x.2.toNat) (fun e=>by rw [e] at h1;omega),kV (x:=j) (fun e=>by rw [e] at hj;omega)]
  exact h1
theorem FS.new {l:List Ty} {a b:List Nd} {out:Nat→Int} {st:List Int} {i k t:Nat} (h:FS l a b out st i k) (hi:i < a.length) (hk:k < (a[i]).ln.length) (hty:sub l (nd b (out i).toNat).ty.toNat (nd a i).ty.toNat=true)
    (htt:((a[i]).ln[k]).2=(t:Int)) (htl:t < a.length) (hn:out t < 0) (h0:0≤tgt (nd b (out i).toNat).ln ((a[i]).ln[k]).1) (hb:tgt (nd b (out i).toNat).ln ((a[i]).ln[k]).1 < b.length):FS l a b (OJ out t (tgt (nd b (out i).toNat).ln ((a[i]).ln[k]).1)) (st ++ [(t:Int)]) i (k + 1):=by
  have hme:=(h.me hi).1;have hit:i≠t:=fun e=>by rw [e] at hme;omega
  have h0t:0≠t:=fun e=>by have:=h.zero;rw [e] at this;omega
  have hxm:(a[i]).ln[k] ∈ (nd a i).ln:=by rw [yy hi];exact List.getElem_mem hk
  refine⟨by rw [kV h0t];exact h.zero,fun j=>?_,fun j hj φ hφ=>?_,fun s hs=>?_,fun j hj hm hne=>?_,fun _=>?_,fun _ _=>by rw [kV hit];exact hty⟩
  · by_cases e:j=t
    · subst e;rw [X5];omega
    · rw [kV e];exact h.rng j
  · by_cases e:j=t
    · subst e
      rw [X5,h.only i hme φ hφ,Int.toNat_natCast,hφ.ln i hi _ hxm,htt,Int.toNat_natCast]
    · rw [kV e] at hj ⊢;exact h.only j hj φ hφ
  · rcases List.mem_append.1 hs with hs | hs
    · obtain⟨n,h1,h2,h3⟩:=h.stk s hs
      refine⟨n,h1,h2,?_⟩;rw [kV (fun e=>by rw [e] at h3;omega)];exact h3
    · exact⟨t,List.mem_singleton.1 hs,htl,by rw [X5];exact h0⟩
  · by_cases e:j=t
    · subst e;exact .inl (by simp)
    · rw [kV e] at hm
      rcases h.cl j hj hm hne with h1 | h1
      · exact .inl (by simp [h1])
      · refine .inr ⟨by rw [kV e];exact h1.1,h1.2.set hm hn⟩
  · refine⟨by rw [kV hit];exact hme,?_⟩
    refine LinksDone.snoc ((h.me hi).2.set hme hn) hi hk ?_;rw [htt,Int.toNat_natCast,X5,kV hit];exact⟨h0,rfl⟩
theorem FS.done {l:List Ty} {a b:List Nd} {out:Nat→Int} {st:List Int} {i k:Nat} (h:FS l a b out st i k) (hi:i < a.length) (hk:k=(a[i]).ln.length) (hty:sub l (nd b (out i).toNat).ty.toNat (nd a i).ty.toNat=true):FS l a b out st a.length 0:=
  ⟨h.zero,h.rng,h.only,h.stk,fun j hj hm _=>by
    by_cases e:j=i
    · subst e
      refine .inr ⟨hty,?_⟩
      have h1:=(h.me hj).2
      rw [hk,← yy hj] at h1
      exact h1
    · exact h.cl j hj hm e,fun hi=>absurd hi (Nat.lt_irrefl _),fun hi=>absurd hi (Nat.lt_irrefl _)⟩
theorem FS.end_ {l:List Ty} {a b:List Nd} {out:Nat→Int} (hr:∀ i,i < a.length→Rch a i) (h:FS l a b out [] a.length 0):Hom l a b (fun i=>(out i).toNat)∧∀ i,i < a.length→0≤out i:=by
  have hd:∀ i,i < a.length→0≤out i→Rz l a b out i:=fun i hi hm=>by
    rcases h.cl i hi hm om with h1 | h1
    · cases h1
    · exact h1
  have hall:∀ i,Rch a i→i < a.length→0≤out i:=fun i hri=>by
    induction hri with
    | zero=>intro _;rw [h.zero];exact Int.le_refl _
    | step hr hi hx ih=>
      rename_i i x
      intro _;have h1:=(hd i hi (ih hi)).2 x (by rw [List.take_length,yy hi];exact hx);exact h1.1
  have hpos:∀ i,i < a.length→0≤out i:=fun i hi=>hall i (hr i hi) hi
  refine⟨⟨by show (out 0).toNat=0;rw [h.zero];rfl,fun i hi=>?_,fun i hi=>(hd i hi (hpos i hi)).1,fun i hi x hx=>?_⟩,hpos⟩
  · have h1:=h.rng i;have h2:=hpos i hi;show (out i).toNat < b.length;omega
  · have h1:=(hd i hi (hpos i hi)).2 x (by rw [List.take_length];exact hx)
    show tgt (nd b (out i).toNat).ln x.1=((out x.2.toNat).toNat:Nat);rw [h1.2];have:=h1.1;omega
def Ck (p:Nat→Nat→Bool) (i j:Nat) (x y:Nat):Bool:=if x=i∧y=j then true else p x y
theorem M1 (p:Nat→Nat→Bool) (i j:Nat):Ck p i j i j=true:=by simp [Ck]
theorem setP_mono {p:Nat→Nat→Bool} {i j x y:Nat} (h:p x y=true):Ck p i j x y=true:=by
  unfold Ck;split
  · rfl
  · exact h
theorem XK {p:Nat→Nat→Bool} {i j x y:Nat} (h:Ck p i j x y=true):(x=i∧y=j)∨p x y=true:=by
  unfold Ck at h;by_cases e:x=i∧y=j
  · exact .inl e
  · rw [if_neg e] at h;exact .inr h
def O2 (na nb:Nat) (p:Nat→Nat→Bool):Nat:=(List.range (na * nb)).countP (fun z=>!p (z / nb) (z % nb))
theorem lackP_lt {na nb i j:Nat} {p q:Nat→Nat→Bool} (hpq:∀ x y,p x y=true→q x y=true) (hi:i < na) (hj:j < nb) (h1:p i j=false) (h2:q i j=true):O2 na nb q < O2 na nb p:=by
  have hd:(i * nb + j) / nb=i:=by
    rw [Nat.mul_comm,Nat.mul_add_div om,Nat.div_eq_of_lt hj,Nat.add_zero]
  have hm:(i * nb + j) % nb=j:=by
    rw [Nat.mul_comm,Nat.mul_add_mod,Nat.mod_eq_of_lt hj]
  have hl:i * nb + j < na * nb:=by
    have:=Nat.mul_le_mul_right nb (show i + 1≤na from hi);rw [Nat.add_mul,Nat.one_mul] at this;omega
  refine jz (fun z hz=>?_) (List.range (na * nb)) (i * nb + j) (List.mem_range.2 hl) ?_ ?_
  · cases hp:p (z / nb) (z % nb) with
    | false=>rfl
    | true=>rw [hpq _ _ hp] at hz;cases hz
  · show (!p ((i * nb + j) / nb) ((i * nb + j) % nb))=true
    rw [hd,hm,h1];rfl
  · show (!q ((i * nb + j) / nb) ((i * nb + j) % nb))=false
    rw [hd,hm,h2];rfl
def PairLn (a b:List Nd) (p:Nat→Nat→Bool) (i j k:Nat):Prop:=∀ x ∈ (nd a i).ln.take k,∃ t:Nat,tgt (nd b j).ln x.1=(t:Int)∧p x.2.toNat t=true
def PairOk (l:List Ty) (a b:List Nd) (p:Nat→Nat→Bool) (i j:Nat):Prop:=sub l (nd b j).ty.toNat (nd a i).ty.toNat=true∧PairLn a b p i j (nd a i).ln.length
structure PB (l:List Ty) (a b:List Nd) (p:Nat→Nat→Bool):Prop where
  zero:p 0 0=true
  rng:∀ i j,p i j=true→i < a.length∧j < b.length
  only:∀ i j,p i j=true→∀ φ,Hom l a b φ→φ i=j
structure MPS (l:List Ty) (a b:List Nd) (p:Nat→Nat→Bool) (ch:Bool):Prop where
  pb:PB l a b p
  cl:ch=false→∀ i j,p i j=true→PairOk l a b p i j
structure MPP (l:List Ty) (a b:List Nd) (p0 p:Nat→Nat→Bool) (ch:Bool) (i j k:Nat):Prop where
  pb:PB l a b p
  sup:∀ x y,p0 x y=true→p x y=true
  same:ch=false→∀ x y,p x y=true→p0 x y=true
  more:ch=true→O2 a.length b.length p < O2 a.length b.length p0
  done:∀ x y,p0 x y=true→x < i∨x=i∧y < j→PairOk l a b p x y
  me:0 < k→i < a.length∧j < b.length∧p i j=true∧sub l (nd b j).ty.toNat (nd a i).ty.toNat=true∧PairLn a b p i j k
theorem MPS.start {l:List Ty} {a b:List Nd} (ha:0 < a.length) (hb:0 < b.length):MPS l a b (Ck (fun _ _=>false) 0 0) true:=
  ⟨⟨M1 _ _ _,(fun i j h=>by
    rcases XK h with ⟨rfl,rfl⟩ | h
    · exact⟨ha,hb⟩
    · cases h),(fun i j h φ hφ=>by
    rcases XK h with ⟨rfl,rfl⟩ | h
    · exact hφ.zero
    · cases h)⟩,fun h=>nomatch h⟩
theorem MPP.start {l:List Ty} {a b:List Nd} {p:Nat→Nat→Bool} {ch:Bool} (h:MPS l a b p ch):MPP l a b p p false 0 0 0:=
  ⟨h.pb,fun _ _ h=>h,fun _ _ _ h=>h,(fun h=>nomatch h),(fun x y _ hx=>by omega),fun hk=>absurd hk (Nat.lt_irrefl _)⟩
theorem MPP.row {l:List Ty} {a b:List Nd} {p0 p:Nat→Nat→Bool} {ch:Bool} {i:Nat} (h:MPP l a b p0 p ch i b.length 0):MPP l a b p0 p ch (i + 1) 0 0:=
  ⟨h.pb,h.sup,h.same,h.more,fun x y hp hx=>h.done x y hp (by
    have:=(h.pb.rng x y (h.sup x y hp)).2
    omega),fun hk=>absurd hk (Nat.lt_irrefl _)⟩
theorem MPP.skip {l:List Ty} {a b:List Nd} {p0 p:Nat→Nat→Bool} {ch:Bool} {i j:Nat} (h:MPP l a b p0 p ch i j 0) (hp:p i j=false):MPP l a b p0 p ch i (j + 1) 0:=
  ⟨h.pb,h.sup,h.same,h.more,fun x y h0 hx=>by
    by_cases e:x=i∧y=j
    · obtain⟨rfl,rfl⟩:=e
      rw [h.sup _ _ h0] at hp;cases hp
    · exact h.done x y h0 om,fun hk=>absurd hk (Nat.lt_irrefl _)⟩
theorem PairLn.snoc {a b:List Nd} {p:Nat→Nat→Bool} {i j k:Nat} (h:PairLn a b p i j k) (hi:i < a.length) (hk:k < (a[i]).ln.length) (hx:∃ t:Nat,tgt (nd b j).ln ((a[i]).ln[k]).1=(t:Int)∧p ((a[i]).ln[k]).2.toNat t=true):PairLn a b p i j (k + 1):=fun x hxm=>by
  rw [Hz hi hk] at hxm
  rcases List.mem_append.1 hxm with h1 | h1
  · exact h x h1
  · rw [List.mem_singleton.1 h1];exact hx
theorem PairLn.mono {a b:List Nd} {p q:Nat→Nat→Bool} {i j k:Nat} (h:PairLn a b p i j k) (hpq:∀ x y,p x y=true→q x y=true):PairLn a b q i j k:=fun x hx=>by
  obtain⟨t,h1,h2⟩:=h x hx
  exact⟨t,h1,hpq _ _ h2⟩
structure MPK (l:List Ty) (a b:List Nd) (p0 p:Nat→Nat→Bool) (ch:Bool) (i j k:Nat):Prop where
  pp:MPP l a b p0 p ch i j 0
  at_:p i j=true
  ty:sub l (nd b j).ty.toNat (nd a i).ty.toNat=true
  ln:PairLn a b p i j k
theorem MPK.start {l:List Ty} {a b:List Nd} {p0 p:Nat→Nat→Bool} {ch:Bool} {i j:Nat} (h:MPP l a b p0 p ch i j 0) (hp:p i j=true) (ht:sub l (nd b j).ty.toNat (nd a i).ty.toNat=true):MPK l a b p0 p ch i j 0:=⟨h,hp,ht,fun x hx=>by simp at hx⟩
theorem MPK.old {l:List Ty} {a b:List Nd} {p0 p:Nat→Nat→Bool} {ch:Bool} {i j k s t:Nat} (h:MPK l a b p0 p ch i j k) (hi:i < a.length) (hk:k < (a[i]).ln.length) (hs:((a[i]).ln[k]).2=(s:Int)) (ht:tgt (nd b j).ln ((a[i]).ln[k]).1=(t:Int)) (hp:p s t=true):MPK l a b p0 p ch i j (k + 1):=
  ⟨h.pp,h.at_,h.ty,h.ln.snoc hi hk ⟨t,ht,by rw [hs,Int.toNat_natCast];exact hp⟩⟩
theorem MPK.new {l:List Ty} {a b:List Nd} {p0 p:Nat→Nat→Bool} {ch:Bool} {i j k s t:Nat} (h:MPK l a b p0 p ch i j k) (hi:i < a.length) (hk:k < (a[i]).ln.length) (hs:((a[i]).ln[k]).2=(s:Int)) (hsl:s < a.length) (ht:tgt (nd b j).ln ((a[i]).ln[k]).1=(t:Int)) (htl:t < b.length) (hp:p s t=false):MPK l a b p0 (Ck p s t) true i j (k + 1):=by
  have hxm:(a[i]).ln[k] ∈ (nd a i).ln:=by rw [yy hi];exact List.getElem_mem hk
  have hm:∀ x y,p x y=true→Ck p s t x y=true:=fun x y h=>setP_mono h
  refine⟨⟨⟨hm _ _ h.pp.pb.zero,fun x y hx=>?_,fun x y hx φ hφ=>?_⟩,fun x y hx=>hm _ _ (h.pp.sup x y hx),(fun h=>nomatch h),fun _=>?_,fun x y h0 hx=>?_,fun hk=>absurd hk (Nat.lt_irrefl _)⟩,hm _ _ h.at_,h.ty,(h.ln.mono hm).snoc hi hk ⟨t,ht,by rw [hs,Int.toNat_natCast];exact M1 _ _ _⟩⟩
  · rcases XK hx with ⟨rfl,rfl⟩ | hx
    · exact⟨hsl,htl⟩
    · exact h.pp.pb.rng _ _ hx
  · rcases XK hx with ⟨rfl,rfl⟩ | hx
    · have e:=h.pp.pb.only i j h.at_ φ hφ
      have h1:=hφ.ln i hi _ hxm;rw [e,ht,hs,Int.toNat_natCast] at h1;exact(Int.ofNat.inj h1).symm
    · exact h.pp.pb.only x y hx φ hφ
  · have h1:=lackP_lt (na:=a.length) (nb:=b.length) hm hsl htl hp (M1 p s t)
    cases ch with
    | true=>exact Nat.lt_trans h1 (h.pp.more rfl)
    | false=>
      have e:O2 a.length b.length p0=O2 a.length b.length p:=by
        unfold O2;refine List.countP_congr (fun z _=>?_);cases hz:p0 (z / b.length) (z % b.length) with
        | true=>rw [h.pp.sup _ _ hz]
        | false=>
          cases hz2:p (z / b.length) (z % b.length) with
          | false=>rfl
          | true=>rw [h.pp.same rfl _ _ hz2] at hz;cases hz
      rw [e];exact h1
  · obtain⟨h1,h2⟩:=h.pp.done x y h0 hx
    exact⟨h1,h2.mono hm⟩
theorem MPK.done {l:List Ty} {a b:List Nd} {p0 p:Nat→Nat→Bool} {ch:Bool} {i j k:Nat} (h:MPK l a b p0 p ch i j k) (hi:i < a.length) (hk:k=(a[i]).ln.length):MPP l a b p0 p ch i (j + 1) 0:=
  ⟨h.pp.pb,h.pp.sup,h.pp.same,h.pp.more,fun x y h0 hx=>by
    by_cases e:x=i∧y=j
    · obtain⟨rfl,rfl⟩:=e
      have h1:=h.ln
      rw [hk,← yy hi] at h1
      exact⟨h.ty,h1⟩
    · exact h.pp.done x y h0 om,fun hk=>absurd hk (Nat.lt_irrefl _)⟩
theorem MPP.end_ {l:List Ty} {a b:List Nd} {p0 p:Nat→Nat→Bool} {ch:Bool} (h:MPP l a b p0 p ch a.length 0 0):MPS l a b p ch:=
  ⟨h.pb,fun hc i j hp=>h.done i j (h.same hc i j hp) (.inl (h.pb.rng i j hp).1)⟩
theorem MPS.two {l:List Ty} {a b:List Nd} {p:Nat→Nat→Bool} {ch:Bool} {i j k:Nat} (h:MPS l a b p ch) (h1:p i j=true) (h2:p i k=true) (hne:j≠k):¬Maps l a b:=by
  rintro ⟨φ,hφ⟩
  exact hne ((h.pb.only i j h1 φ hφ).symm.trans (h.pb.only i k h2 φ hφ))
end Go.Proofs.YtdgnllfbooklcaaDoor
namespace Go.Proofs.YtdgnllfbooklcaaDoor
open Go.RowKit
theorem fn59:zZ Tryd.prog 59=true:=by kernel_rfl
theorem Dq:(Tryd.prog.info? 3).map (fun i=>(i.zero,i.size,i.bytes))=some (some (.int .i64 0),1,8):=by kernel_rfl
theorem F4:(Tryd.prog.info? 25).map (·.size)=some 2:=by kernel_rfl
theorem qx:(Tryd.prog.info? 30).map (·.size)=some 1:=by kernel_rfl
theorem Jv:(Tryd.prog.info? 86).map (·.size)=some 2:=by kernel_rfl
theorem PX:(Tryd.prog.info? 3).map (·.zero)=some (some (.int .i64 0)):=by kernel_rfl
theorem vX:(Tryd.prog.info? 30).map (·.zero)=some (some (.agg #[.slice none 0 0])):=by kernel_rfl
theorem Z2:(Tryd.prog.info? 95).map (·.zero)=some (some (.agg #[.int .i64 0,.int .i64 0])):=by kernel_rfl
end Go.Proofs.YtdgnllfbooklcaaDoor
namespace Go.Proofs.YtdgnllfbooklcaaDoor
open Go.RowKit
section order
variable {l:List Ty} {fs:List Ft} {a b c:List Nd}
def Srt (xs:List (Int×Int)):Prop:=xs.Pairwise (fun x y=>x.1 < y.1)
theorem srt_of {nf n:Nat} {last:Int} {xs:List (Int×Int)} (h:y6 nf n last xs=0):Srt xs:=by
  have hs:=(J1 h).2;refine List.pairwise_iff_getElem.2 (fun i j hi hj hij=>hs i j hi hj hij)
theorem F2 {xs:List (Int×Int)} (hs:Srt xs) {x:Int×Int} (hx:x ∈ xs):tgt xs x.1=x.2:=by
  induction xs with
  | nil=>cases hx
  | cons y ys ih=>
    obtain⟨h1,h2⟩:=List.pairwise_cons.1 hs;rcases List.mem_cons.1 hx with e | e
    · subst e;simp [tgt]
    · have hne:¬y.1=x.1:=by have:=h1 x e;omega
      have:=ih h2 e;simp only [tgt,List.find?_cons,hne,decide_false] at this ⊢;exact this
theorem I2 {xs:List (Int×Int)} {f:Int} (h:0≤tgt xs f):(f,tgt xs f) ∈ xs:=by
  induction xs with
  | nil=>simp [tgt] at h
  | cons y ys ih=>
    by_cases e:y.1=f
    · have:tgt (y :: ys) f=y.2:=by simp [tgt,e]
      rw [this];have:(f,y.2)=y:=by rw [← e]
      rw [this];exact List.mem_cons_self ..
    · have:tgt (y :: ys) f=tgt ys f:=by simp [tgt,e]
      rw [this] at h ⊢;exact List.mem_cons_of_mem _ (ih h)
theorem Hv:∀ {xs ys:List (Int×Int)},Srt xs→Srt ys→(∀ z,z ∈ xs ↔ z ∈ ys)→xs=ys
  | [],[],_,_,_=>rfl
  | [],y :: ys,_,_,h=>by have:=(h y).2 (List.mem_cons_self ..);cases this
  | x :: xs,[],_,_,h=>by have:=(h x).1 (List.mem_cons_self ..);cases this
  | x :: xs,y :: ys,hx,hy,h=>by
    obtain⟨h1,h2⟩:=List.pairwise_cons.1 hx
    obtain⟨h3,h4⟩:=List.pairwise_cons.1 hy
    have e:x=y:=by
      rcases List.mem_cons.1 ((h x).1 (List.mem_cons_self ..)) with e | e
      · exact e
      · rcases List.mem_cons.1 ((h y).2 (List.mem_cons_self ..)) with e2 | e2
        · exact e2.symm
        · have:=h1 y e2;have:=h3 x e;omega
    subst e;refine congrArg _ (Hv h2 h4 (fun z=>⟨fun hz=>?_,fun hz=>?_⟩))
    · rcases List.mem_cons.1 ((h z).1 (List.mem_cons_of_mem _ hz)) with e | e
      · have:=h1 z hz;rw [e] at this;omega
      · exact e
    · rcases List.mem_cons.1 ((h z).2 (List.mem_cons_of_mem _ hz)) with e | e
      · have:=h3 z hz;rw [e] at this;omega
      · exact e
theorem EJ:∀ {xs ys:List Nat},xs.Nodup→(∀ x ∈ xs,x ∈ ys)→xs.length≤ys.length
  | [],_,_,_=>Nat.zero_le _
  | x :: xs,ys,hn,h=>by
    obtain⟨h1,h2⟩:=List.nodup_cons.1 hn
    have hx:=h x (List.mem_cons_self ..)
    have hl:=List.length_erase_of_mem hx
    have hp:=List.length_pos_of_mem hx
    have:=EJ (xs:=xs) (ys:=ys.erase x) h2 (fun y hy=>(List.mem_erase_of_ne (fun e:y=x=>h1 (by rw [← e];exact hy))).2 (h y (List.mem_cons_of_mem _ hy)))
    rw [List.length_cons];omega
structure GY (l:List Ty) (a:List Nd):Prop where
  vt:VT l
  pos:0 < a.length
  tr:∀ i,i < a.length→0≤(nd a i).ty∧(nd a i).ty < l.length
  srt:∀ i,i < a.length→Srt (nd a i).ln
  lr:∀ i,i < a.length→∀ x ∈ (nd a i).ln,0≤x.2∧x.2.toNat < a.length
structure GX (l:List Ty) (a:List Nd):Prop extends GY l a where
  rch:∀ i,i < a.length→Rch a i
theorem GV.gx (h:GV l fs a):GX l a:=
  ⟨⟨h.s.vt,h.gok.pos,fun i hi=>by rw [yy hi];exact h.gok.ty i hi,fun i hi=>by rw [yy hi];exact srt_of (Vw h.lo i hi),fun i hi x hx=>by
    rw [yy hi] at hx
    have:=h.gok.ln i hi x hx
    omega⟩,h.rch⟩
theorem O0 {nf n:Nat}:∀ {xs:List (Int×Int)} {last:Int},Srt xs→(∀ x ∈ xs,last < x.1∧0≤x.1∧x.1 < nf∧0≤x.2∧x.2 < n)→y6 nf n last xs=0
  | [],_,_,_=>rfl
  | x :: xs,last,hs,h=>by
    obtain⟨h1,h2⟩:=List.pairwise_cons.1 hs
    have h3:=h x (List.mem_cons_self ..)
    have h4:¬oJ nf n x:=by unfold oJ;omega
    unfold y6
    rw [if_neg h4,if_neg (show ¬x.1≤last by omega)]
    exact O0 h2 (fun y hy=>by
      have:=h y (List.mem_cons_of_mem _ hy)
      have:=h1 y hy
      omega)
theorem gf_mk (h:(qj l fs).1=0) (hx:GX l a) (hle:a.length≤60) (hf:∀ i,i < a.length→∀ x ∈ (nd a i).ln,0≤x.1∧x.1 < fs.length)
    (ht:∀ i,i < a.length→∀ x ∈ (nd a i).ln,sub l (nd a i).ty.toNat (Mv fs x.1).of.toNat=true∧sub l (nd a x.2.toNat).ty.toNat (Mv fs x.1).val.toNat=true):kj l fs a=(0,0):=by
  have hl:vw l.length fs.length a=(0,0):=by
    unfold vw;have:=hx.pos;rw [if_neg om];refine Z7 (fun k _ hk=>?_);have hk':k < a.length:=by omega
    have hty:=hx.tr k hk';rw [yy hk'] at hty;rw [Xj hk' om,List.drop_zero];refine O0 (by rw [← yy hk'];exact hx.srt k hk') (fun x hxm=>?_);rw [← yy hk'] at hxm;have h1:=hx.lr k hk' x hxm;have h2:=hf k hk' x hxm;omega
  have ht2:tyF l fs a=(0,0):=by
    refine Z7 (fun k _ hk=>?_);have hk':k < a.length:=by omega
    refine RY hk' (fun j hj=>?_);have hm:(a[k]).ln[j] ∈ (nd a k).ln:=by rw [yy hk'];exact List.getElem_mem hj
    obtain⟨h1,h2⟩:=ht k hk' _ hm;rw [yy hk'] at h1;unfold Mz;rw [h1,show (I0 a (a[k]).ln[j].2).ty.toNat=(nd a ((a[k]).ln[j]).2.toNat).ty.toNat from rfl,h2];rfl
  have hu:(-1:Int)=Jz a:=IQ (.inl ⟨rfl,hx.rch⟩);rw [Dj h,JY (by rw [hl]) ht2 om]
theorem GV.lt (h:GV l fs a) {i:Nat} (hi:i < a.length) {x:Int×Int} (hx:x ∈ (nd a i).ln):0≤x.1∧x.1 < fs.length∧sub l (nd a i).ty.toNat (Mv fs x.1).of.toNat=true∧sub l (nd a x.2.toNat).ty.toNat (Mv fs x.1).val.toNat=true:=by
  rw [yy hi] at hx;have h1:=h.gok.ln i hi x hx;have h0:tyN l fs a i=0:=jW (by rw [show qv (tyN l fs a) 0 a.length=tyF l fs a from rfl,h.t]) _ (Nat.zero_le _) om;have h2:Mz l fs a (a[i]).ty x=false:=by
    simp only [tyN,List.getElem?_eq_getElem hi] at h0;cases hb:Mz l fs a (a[i]).ty x with
    | false=>rfl
    | true=>rw [if_pos (List.any_eq_true.2 ⟨x,hx,hb⟩)] at h0;cases h0
  unfold Mz at h2;rw [show (I0 a x.2).ty.toNat=(nd a x.2.toNat).ty.toNat from rfl,Bool.or_eq_false_iff] at h2;rw [yy hi];simp only [Bool.not_eq_false'] at h2;exact⟨h1.1,h1.2.1,h2.1,h2.2⟩
theorem GY.rng (h:GY l a):∀ i,i < a.length→∀ t ∈ yZ a i,t < a.length:=fun i hi t ht=>by
  simp only [yZ,List.mem_map] at ht
  obtain⟨x,hx,rfl⟩:=ht
  exact(h.lr i hi x hx).2
theorem GY.trr (h:GY l a) {r:Nat} {o:List Nat} (hrl:r < a.length) (hd:DL a [r] [] o):TrR a r o:=by
  have hr:=h.rng;obtain⟨hok,_,_⟩:=hd.ok hr (fun i hi=>by rw [List.mem_singleton.1 hi];exact hrl) (OOk.nil _);have h0:=hd.has r (by simp);refine⟨hd,hok,hd.nodup List.nodup_nil,h0,?_,fun x hx=>hd.clo x hx (by simp)⟩;cases hd with
  | old h' t=>cases h'
  | new h' s t=>
    cases t;obtain⟨_,s1,e1⟩:=s.ok hr (hr r hrl) ((OOk.nil _).snoc hrl (by simp));rw [e1];simp
theorem Hom.refl (h:GX l a):Hom l a a (fun i=>i):=
  ⟨rfl,fun _ hi=>hi,fun _ _=>X2 h.vt _,fun i hi x hx=>by
    have:=h.lr i hi x hx
    rw [F2 (h.srt i hi) hx];omega⟩
theorem Hom.comp {φ ψ:Nat→Nat} (hl:VT l) (hφ:Hom l a b φ) (hψ:Hom l b c ψ):Hom l a c (fun i=>ψ (φ i)):=
  ⟨by show ψ (φ 0)=0;rw [hφ.zero,hψ.zero],fun i hi=>hψ.lt _ (hφ.lt i hi),fun i hi=>QK hl (hψ.ty _ (hφ.lt i hi)) (hφ.ty i hi),fun i hi x hx=>by
    have h1:=hφ.ln i hi x hx
    have hm:=I2 (xs:=(nd b (φ i)).ln) (f:=x.1) om
    rw [h1] at hm
    have:=hψ.ln _ (hφ.lt i hi) _ hm
    rw [Int.toNat_natCast] at this
    exact this⟩
theorem Maps.comp (hl:VT l) (h:Maps l a b) (k:Maps l b c):Maps l a c:=by
  obtain⟨φ,hφ⟩:=h;obtain⟨ψ,hψ⟩:=k;exact⟨_,hφ.comp hl hψ⟩
theorem turn_hom {φ ψ:Nat→Nat} (ha:GX l a) (hb:GX l b) (hφ:Hom l a b φ) (hψ:Hom l b a ψ):Turn a b φ ψ:=by
  have hvt:=ha.vt;have h1:∀ i,i < a.length→ψ (φ i)=i:=fun i hi=>(hφ.comp hvt hψ).uniq (Hom.refl ha) (ha.rch i hi)
  have h2:∀ i,i < b.length→φ (ψ i)=i:=fun i hi=>(hψ.comp hvt hφ).uniq (Hom.refl hb) (hb.rch i hi)
  have hlen:b.length=a.length:=by
    have n1:((List.range a.length).map φ).Nodup:=by
      refine List.nodup_iff_pairwise_ne.2 (List.pairwise_map.2 ?_);refine List.Pairwise.imp_of_mem (fun {x y} hx hy hne e=>hne ?_) List.nodup_range;rw [← h1 x (List.mem_range.1 hx),← h1 y (List.mem_range.1 hy),e]
    have n2:((List.range b.length).map ψ).Nodup:=by
      refine List.nodup_iff_pairwise_ne.2 (List.pairwise_map.2 ?_);refine List.Pairwise.imp_of_mem (fun {x y} hx hy hne e=>hne ?_) List.nodup_range;rw [← h2 x (List.mem_range.1 hx),← h2 y (List.mem_range.1 hy),e]
    have l1:=(EJ n1 (ys:=List.range b.length) (fun z hz=>by
      obtain⟨x,hx,rfl⟩:=List.mem_map.1 hz
      exact List.mem_range.2 (hφ.lt x (List.mem_range.1 hx))))
    have l2:=(EJ n2 (ys:=List.range a.length) (fun z hz=>by
      obtain⟨x,hx,rfl⟩:=List.mem_map.1 hz
      exact List.mem_range.2 (hψ.lt x (List.mem_range.1 hx))))
    simp at l1 l2;omega
  refine⟨hlen,hφ.zero,fun i hi=>by rw [← hlen];exact hφ.lt i hi,fun j hj=>?_,h1,fun i hi=>?_⟩
  · rw [← hlen] at hj
    exact⟨hψ.lt j hj,h2 j hj⟩
  · have hbi:=hφ.lt i hi
    have t1:=hφ.ty i hi;have t2:=hψ.ty _ hbi;rw [h1 i hi] at t2;have r1:=ha.tr i hi;have r2:=hb.tr _ hbi;have e:=Sj hvt t1 t2;refine Y0 (by show (nd b (φ i)).ty=(nd a i).ty;omega) ?_;show (nd b (φ i)).ln=(nd a i).ln.map (fun y=>(y.1,((φ y.2.toNat:Nat):Int)));refine Hv (hb.srt _ hbi) ?_ (fun z=>⟨fun hz=>?_,fun hz=>?_⟩)
    · exact List.pairwise_map.2 (ha.srt _ hi)
    · have g1:=hψ.ln _ hbi z hz
      rw [h1 i hi] at g1;have g2:=hb.lr _ hbi z hz;have hm:=I2 (xs:=(nd a i).ln) (f:=z.1) om;rw [g1] at hm;refine List.mem_map.2 ⟨_,hm,?_⟩;have e2:=h2 _ g2.2;show (z.1,((φ ((ψ z.2.toNat:Nat):Int).toNat:Nat):Int))=z;rw [Int.toNat_natCast,e2,Int.toNat_of_nonneg g2.1]
    · obtain⟨y,hy,rfl⟩:=List.mem_map.1 hz
      have g1:=hφ.ln i hi y hy;have hm:=I2 (xs:=(nd b (φ i)).ln) (f:=y.1) om;rw [g1] at hm;exact hm
theorem Wy (ha:GX l a) (hb:GX l b) (h:Maps l a b) (k:Maps l b a) {oa ob:List Nat} (ta:DL a [0] [] oa) (tb:DL b [0] [] ob):y5 b ob=y5 a oa:=by
  obtain⟨φ,hφ⟩:=h;obtain⟨ψ,hψ⟩:=k;have t:=turn_hom ha hb hφ hψ;have ho:=(ha.trr ha.pos ta).ok.lt;have hd2:=t.dl ha.rng ta (fun i hi=>by rw [List.mem_singleton.1 hi];exact ha.pos) ho;simp only [List.map_cons,List.map_nil,t.z] at hd2;rw [← hd2.det tb];exact t.can ha.rng ho
theorem Y4 {r:Nat} {o:List Nat} (t:TrR a r o) {x:Nat} (hx:x ∈ o):nd (y5 a o) (o.idxOf x)=trN (o.idxOf ·) (nd a x):=by
  rw [Ix hx];refine Y0 rfl ?_;simp only [Pj,trN];refine List.map_congr_left (fun y hy=>?_);simp only [JK,NV (t.mem hx hy)]
theorem LX {g:List Nd} (hr:∀ i,i < g.length→∀ t ∈ yZ g i,t < g.length):∀ (n:Nat) (is o:List Nat),kW g.length (Y2 o)≤n→(∀ i ∈ is,i < g.length)→∃ o',DL g is o o'
  | n,[],o,_,_=>⟨o,.nil⟩
  | n,i :: is,o,hn,hi=>by
    have hil:=hi i (List.mem_cons_self ..)
    have his:∀ j ∈ is,j < g.length:=fun j hj=>hi j (List.mem_cons_of_mem _ hj)
    by_cases h:i ∈ o
    · obtain⟨o',h1⟩:=LX hr n is o hn his
      exact⟨o',.old h h1⟩
    · have hl:=Mx hil h
      cases n with
      | zero=>omega
      | succ n=>
        obtain⟨o1,h1⟩:=LX hr n (yZ g i) (o ++ [i]) om (hr i hil)
        have hm:kW g.length (Y2 o1)≤kW g.length (Y2 (o ++ [i])):=by
          unfold kW;refine List.countP_mono_left (fun x _ hx=>?_);simp only [Y2,Bool.not_eq_true',decide_eq_false_iff_not] at hx ⊢;exact fun k=>hx (h1.sub x k)
        obtain⟨o',h2⟩:=LX hr n is o1 om his;exact⟨o',.new h h1 h2⟩
theorem GY.dl (h:GY l a) {r:Nat} (hr:r < a.length):∃ o,DL a [r] [] o:=LX h.rng _ [r] [] (Nat.le_refl _) (fun i hi=>by rw [List.mem_singleton.1 hi];exact hr)
theorem TrR.at_ {r:Nat} {o:List Nat} (t:TrR a r o) {j:Nat} (hj:j < (y5 a o).length):∃ x,x ∈ o∧o.idxOf x=j∧o.getD j 0=x∧nd (y5 a o) j=trN (o.idxOf ·) (nd a x):=by
  rw [ux] at hj;have hjo:=List.getElem_mem hj;have h1:=Y4 t hjo;rw [I4 t.nodup hj] at h1;exact⟨o[j],hjo,I4 t.nodup hj,by simp [List.getD,hj],h1⟩
theorem TrR.gx {r:Nat} {o:List Nat} (t:TrR a r o) (ha:GY l a):GX l (y5 a o):=by
  have hlen:=ux a o;have hrg:∀ i,i < (y5 a o).length→∀ x ∈ (nd (y5 a o) i).ln,0≤x.2∧x.2.toNat < (y5 a o).length:=fun j hj x hx=>by
    obtain⟨y,hy,_,_,e⟩:=t.at_ hj;rw [e] at hx;obtain⟨z,hz,rfl⟩:=List.mem_map.1 hx;have:=(jw (t.mem hy hz)).1;simp only [hlen];omega
  refine⟨⟨ha.vt,by rw [hlen];exact List.length_pos_of_mem t.has,fun j hj=>?_,fun j hj=>?_,hrg⟩,fun j hj=>?_⟩
  · obtain⟨y,hy,_,_,e⟩:=t.at_ hj
    rw [e];exact ha.tr _ (t.lt hy)
  · obtain⟨y,hy,_,_,e⟩:=t.at_ hj
    rw [e];exact List.pairwise_map.2 (ha.srt _ (t.lt hy))
  · have hd:=t.dl2 t.has t.dl
    rw [t.zero,CX t.nodup] at hd
    have hR:=hd.rch (fun i hi y hy=>by
      simp only [yZ,List.mem_map] at hy;obtain⟨x,hx,rfl⟩:=hy
      exact(hrg i hi x hx).2) (fun i hi=>by rw [List.mem_singleton.1 hi,hlen];exact List.length_pos_of_mem t.has) (fun i hi=>by rw [List.mem_singleton.1 hi];exact .zero) (fun x hx=>by cases hx)
    exact hR j (List.mem_range.2 (by rw [← hlen];exact hj))
theorem Hom.part {φ:Nat→Nat} (h:Hom l a b φ) (hb:GX l b) {i:Nat} {oa ob:List Nat} (ta:TrR a i oa) (tb:TrR b (φ i) ob):Maps l (y5 a oa) (y5 b ob):=by
  have hmem:∀ x,x ∈ oa→φ x ∈ ob:=by
    have hR:∀ x,x ∈ oa→x ∈ oa∧φ x ∈ ob:=by
      have hw:=DL.within (o:=oa.filter (fun x=>decide (φ x ∈ ob))) (g:=a) (fun x hx t ht=>by
        simp only [List.mem_filter,decide_eq_true_eq] at hx ⊢;refine⟨ta.clo x hx.1 t ht,?_⟩;simp only [yZ,List.mem_map] at ht;obtain⟨y,hy,rfl⟩:=ht;have h2:=h.ln x (ta.lt hx.1) y hy;have hm:=I2 (xs:=(nd b (φ x)).ln) (f:=y.1) om;rw [h2] at hm;have:=tb.mem hx.2 hm
        rwa [Int.toNat_natCast] at this) ta.dl (fun z hz=>by
          rw [List.mem_singleton.1 hz];simp only [List.mem_filter,decide_eq_true_eq]
          exact⟨ta.has,tb.has⟩) (fun x hx=>by cases hx)
      intro x hx;have:=hw x hx;simp only [List.mem_filter,decide_eq_true_eq] at this;exact this
    exact fun x hx=>(hR x hx).2
  have hgb:=tb.gx hb.toGY;have la:=ux a oa;have lb:=ux b ob;have hz:oa.getD 0 0=i:=by
    have h0:=jw ta.has;have hp:0 < oa.length:=by have:=h0.1;omega
    have:=h0.2;simp only [ta.zero] at this;simp [List.getD,hp,this]
  have hat:∀ j,j < (y5 a oa).length→oa.getD j 0 ∈ oa∧nd (y5 a oa) j=trN (oa.idxOf ·) (nd a (oa.getD j 0)):=fun j hj=>by
    rw [la] at hj;have e:oa.getD j 0=oa[j]:=by simp [List.getD,hj]
    have hjo:=List.getElem_mem hj;have h1:=Y4 ta hjo;rw [I4 ta.nodup hj] at h1;rw [e];exact⟨hjo,h1⟩
  refine⟨fun j=>ob.idxOf (φ (oa.getD j 0)),?_,fun j hj=>?_,fun j hj=>?_,fun j hj x hx=>?_⟩
  · show ob.idxOf (φ (oa.getD 0 0))=0
    rw [hz];exact tb.zero
  · rw [lb];exact(jw (hmem _ (hat j hj).1)).1
  · obtain⟨h1,h2⟩:=hat j hj
    show sub l (nd (y5 b ob) (ob.idxOf (φ (oa.getD j 0)))).ty.toNat _=true;rw [h2,Y4 tb (hmem _ h1)];exact h.ty _ (ta.lt h1)
  · obtain⟨h1,h2⟩:=hat j hj
    rw [h2] at hx;obtain⟨y,hy,rfl⟩:=List.mem_map.1 hx;have hb1:=jw (hmem _ h1);have hs:=hgb.srt (ob.idxOf (φ (oa.getD j 0))) (by rw [lb];exact hb1.1);have h3:=h.ln _ (ta.lt h1) y hy;have hm:=I2 (xs:=(nd b (φ (oa.getD j 0))).ln) (f:=y.1) om;rw [h3] at hm;show tgt (nd (y5 b ob) (ob.idxOf (φ (oa.getD j 0)))).ln y.1=((ob.idxOf (φ (oa.getD ((oa.idxOf y.2.toNat:Nat):Int).toNat 0)):Nat):Int);have hyo:=jw (ta.mem h1 hy);have e2:oa.getD (oa.idxOf y.2.toNat) 0=y.2.toNat:=by
      have:=hyo.2;simp [List.getD,hyo.1,this]
    rw [Int.toNat_natCast,e2];rw [Y4 tb (hmem _ h1)] at hs ⊢;have hm2:((y.1,((ob.idxOf (φ y.2.toNat):Nat):Int)):Int×Int) ∈ (trN (ob.idxOf ·) (nd b (φ (oa.getD j 0)))).ln:=List.mem_map.2 ⟨_,hm,by rw [Int.toNat_natCast]⟩;exact F2 hs hm2
end order
end Go.Proofs.YtdgnllfbooklcaaDoor
