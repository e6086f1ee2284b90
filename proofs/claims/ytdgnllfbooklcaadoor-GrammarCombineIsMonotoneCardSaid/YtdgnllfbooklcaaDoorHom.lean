/- What is reached from a node of a valid graph is a valid graph; a path in it leads where the path leads in the graph. No program in sight. Maps between feature graphs: when there is one, that there is one only, and the states of the two searches for it. No program in sight. -/
import Derived.Test.YtdgnllfbooklcaaDoorTurn
namespace Go.Proofs.YtdgnllfbooklcaaDoor
open Go.RowKit
structure TrR (g:List Nd) (r:Nat) (o:List Nat):Prop where
  dl:DL g [r] [] o
  ok:OOk g.length o
  nodup:o.Nodup
  has:r ∈ o
  zero:o.idxOf r=0
  clo:∀ x ∈ o,∀ t ∈ vz g x,t ∈ o
theorem DL.within {g:List Nd} {o:List Nat} (hc:∀ x ∈ o,∀ t ∈ vz g x,t ∈ o) {is a b:List Nat} (h:DL g is a b):(∀ i ∈ is,i ∈ o)→(∀ x ∈ a,x ∈ o)→∀ x ∈ b,x ∈ o:=by
  induction h with
  | nil=>exact fun _ h=>h
  | old h t ih=>exact fun hi ha=>ih (fun i h=>hi i (List.mem_cons_of_mem _ h)) ha
  | new h s t ihs iht=>
    intro hi ha;have hio:=hi _ (List.mem_cons_self ..);refine iht (fun i h=>hi i (List.mem_cons_of_mem _ h)) (ihs (hc _ hio) (fun x hx=>?_));rcases List.mem_append.1 hx with hx | hx
    · exact ha x hx
    · rw [List.mem_singleton.1 hx];exact hio
theorem Lv {o:List Nat} {x y:Nat} (hx:x ∈ o) (hy:y ∈ o) (e:o.idxOf x=o.idxOf y):x=y:=by
  obtain⟨h1,h2⟩:=ky hx;obtain⟨h3,h4⟩:=ky hy;rw [← h2,← h4];simp only [e]
theorem TJ {o:List Nat} {x:Nat} (hx:x ∈ o):∀ {o2:List Nat},(∀ y ∈ o2,y ∈ o)→(o2.map (o.idxOf ·)).idxOf (o.idxOf x)=o2.idxOf x
  | [],_=>rfl
  | y :: o2,h=>by
    rw [List.map_cons,List.idxOf_cons,List.idxOf_cons,TJ hx (fun z hz=>h z (List.mem_cons_of_mem _ hz))]
    by_cases e:y=x
    · subst e;simp
    · have e2:¬o.idxOf y=o.idxOf x:=fun h2=>e (Lv (h y (List.mem_cons_self ..)) hx h2)
      have b1:(y == x)=false:=by simp [e]
      have b2:(o.idxOf y == o.idxOf x)=false:=by simp [e2]
      rw [b1,b2]
theorem num_map2 {o o2:List Nat} {x:Nat} (hx:x ∈ o) (h:∀ y ∈ o2,y ∈ o):uW (o2.map (o.idxOf ·)) (o.idxOf x)=uW o2 x:=by
  unfold uW
  have e:o.idxOf x ∈ o2.map (o.idxOf ·) ↔ x ∈ o2:=⟨fun hm=>by
    obtain⟨y,hy,e⟩:=List.mem_map.1 hm
    exact Lv (h y hy) hx e ▸ hy,fun h=>List.mem_map_of_mem h⟩
  by_cases h2:x ∈ o2
  · rw [if_pos h2,if_pos (e.2 h2),TJ hx h]
  · rw [if_neg h2,if_neg (fun h3=>h2 (e.1 h3))]
section sub
variable {g:List Nd} {r:Nat} {o:List Nat}
theorem TrR.mem (t:TrR g r o) {x:Nat} (hx:x ∈ o) {y:Int×Int} (hy:y ∈ (nd g x).ln):y.2.toNat ∈ o:=t.clo x hx _ (by simp only [vz,List.mem_map];exact⟨y,hy,rfl⟩)
theorem TrR.lt (t:TrR g r o) {x:Nat} (hx:x ∈ o):x < g.length:=t.ok.lt x hx
theorem TrR.can2 (t:TrR g r o) {c:Nat} {o2:List Nat} (hc:c ∈ o) (h2:DL g [c] [] o2):yk (yk g o) (o2.map (o.idxOf ·))=yk g o2:=by
  have hw:=h2.within t.clo (fun i hi=>by rw [List.mem_singleton.1 hi];exact hc) (fun x hx=>by cases hx);have hcl:=h2.clo;unfold yk;rw [List.map_map];refine List.map_congr_left (fun x hx=>?_);have hxo:=hw x hx;have e:=Mq (g:=g) hxo;unfold yk at e;show PZ _ _ (o.idxOf x)=PZ g o2 x;unfold PZ at e ⊢;rw [e];refine YZ rfl ?_;simp only [List.map_map];refine List.map_congr_left (fun y hy=>?_);have hyo:=t.mem hxo hy;simp only [Function.comp,KV,Ev hyo,Int.toNat_natCast];rw [num_map2 hyo hw]
theorem TrR.dl2 (t:TrR g r o) {c:Nat} {o2:List Nat} (hc:c ∈ o) (h2:DL g [c] [] o2):DL (yk g o) [o.idxOf c] [] (o2.map (o.idxOf ·)):=
  h2.map t.clo (h2.within t.clo (fun i hi=>by rw [List.mem_singleton.1 hi];exact hc) (fun x hx=>by cases hx))
theorem TrR.valid {l:List Ty} {fs:List Ft} (t:TrR g r o) (h:GV l fs g):(vQ l fs (yk g o)).1=0:=by
  have hlen:=o6 g o;have hole:o.length≤g.length:=by have:=t.ok.cnt;omega
  have hpos:0 < o.length:=List.length_pos_of_mem t.has;have hle:=h.gok.le;have hget:∀ j (hj:j < o.length),o.idxOf o[j]=j:=fun j hj=>M3 t.nodup hj
  have hrg:∀ i,i < (yk g o).length→∀ y ∈ vz (yk g o) i,y < (yk g o).length:=fun i hi y hy=>by
    rw [hlen] at hi ⊢;rw [← hget i hi,DW t.clo (List.getElem_mem hi)] at hy;obtain⟨z,hz,rfl⟩:=List.mem_map.1 hy;exact(ky (t.clo _ (List.getElem_mem hi) z hz)).1
  refine gv_img (σ:=(o.idxOf ·)) (τ:=fun j=>o.getD j 0) h om om (fun j hj=>?_) (fun j hj=>?_)
  · have hjo:j < o.length:=by omega
    have eg:o.getD j 0=o[j]:=by simp [List.getD,hjo]
    have hm:o[j] ∈ o:=List.getElem_mem hjo;have en:=Mq (g:=g) hm;rw [hget j hjo] at en;simp only [eg];refine⟨t.lt hm,?_,fun x hx=>?_⟩
    · rw [en]
      refine YZ rfl ?_;simp only [PZ,trN];refine List.map_congr_left (fun y hy=>?_);simp only [KV,Ev (t.mem hm hy)]
    · have hxo:=t.mem hm hx
      rw [Mq hxo,hlen];exact⟨(ky hxo).1,rfl⟩
  · have hd:=t.dl2 t.has t.dl
    rw [t.zero,CK t.nodup] at hd;have hR:=hd.rch hrg (fun i hi=>by rw [List.mem_singleton.1 hi];omega) (fun i hi=>by rw [List.mem_singleton.1 hi];exact .zero) (fun x hx=>by cases hx);exact hR j (List.mem_range.2 om)
end sub
section comp
variable {l:List Ty} {fs:List Ft} {g:List Nd} {p q:List Int}
end comp
end Go.Proofs.YtdgnllfbooklcaaDoor
namespace Go.Proofs.YtdgnllfbooklcaaDoor
open Go.RowKit
structure Hom (l:List Ty) (a b:List Nd) (φ:Nat→Nat):Prop where
  zero:φ 0=0
  lt:∀ i,i < a.length→φ i < b.length
  ty:∀ i,i < a.length→sub l (nd b (φ i)).ty.toNat (nd a i).ty.toNat=true
  ln:∀ i,i < a.length→∀ x ∈ (nd a i).ln,tgt (nd b (φ i)).ln x.1=((φ x.2.toNat:Nat):Int)
theorem Hom.uniq {l:List Ty} {a b:List Nd} {φ ψ:Nat→Nat} (h:Hom l a b φ) (k:Hom l a b ψ) {i:Nat} (hr:Rch a i):φ i=ψ i:=by
  induction hr with
  | zero=>rw [h.zero,k.zero]
  | step hr hi hx ih=>
    rename_i i x
    have e:=yy hi;have h1:=h.ln i hi x (by rw [e];exact hx);have h2:=k.ln i hi x (by rw [e];exact hx);rw [ih] at h1;rw [h1] at h2;exact Int.ofNat.inj h2
def Maps (l:List Ty) (a b:List Nd):Prop:=∃ φ,Hom l a b φ
noncomputable instance (l:List Ty) (a b:List Nd):Decidable (Maps l a b):=Classical.propDecidable _
open Classical in
noncomputable def W4 (l:List Ty) (a b:List Nd):List Int:=if h:Maps l a b then (List.range a.length).map (fun i=>((Classical.choose h i:Nat):Int)) else []
theorem L7 {l:List Ty} {a b:List Nd} (h:¬Maps l a b):W4 l a b= []:=by unfold W4;rw [dif_neg h]
theorem Tq {l:List Ty} {a b:List Nd} {φ:Nat→Nat} (hr:∀ i,i < a.length→Rch a i) (h:Hom l a b φ):W4 l a b=(List.range a.length).map (fun i=>((φ i:Nat):Int)):=by
  have hm:Maps l a b:=⟨φ,h⟩
  unfold W4;rw [dif_pos hm];refine List.map_congr_left (fun i hi=>?_);rw [(Classical.choose_spec hm).uniq h (hr i (List.mem_range.1 hi))]
def Vq (out:Nat→Int) (t:Nat) (v:Int) (x:Nat):Int:=if x=t then v else out x
theorem Qx (out:Nat→Int) (t:Nat) (v:Int):Vq out t v t=v:=by simp [Vq]
theorem jW {out:Nat→Int} {t x:Nat} {v:Int} (h:x≠t):Vq out t v x=out x:=by simp [Vq,h]
theorem Sv {n j:Nat} {v:Int} {out:Nat→Int}:row n (fun x=>if x=j then Value.int .i64 v else .int .i64 (out x))=row n (fun x=> .int .i64 (Vq out j v x)):=
  yK (fun x _=>by by_cases e:x=j <;> simp [Vq,e])
def got (out:Nat→Int) (x:Nat):Bool:=decide (0≤out x)
def LinksDone (a b:List Nd) (out:Nat→Int) (j k:Nat):Prop:=∀ x ∈ (nd a j).ln.take k,0≤out x.2.toNat∧tgt (nd b (out j).toNat).ln x.1=out x.2.toNat
def Rx (l:List Ty) (a b:List Nd) (out:Nat→Int) (j:Nat):Prop:=sub l (nd b (out j).toNat).ty.toNat (nd a j).ty.toNat=true∧LinksDone a b out j (nd a j).ln.length
structure FS (l:List Ty) (a b:List Nd) (out:Nat→Int) (st:List Int) (i k:Nat):Prop where
  zero:out 0=0
  rng:∀ j,-1≤out j∧out j < b.length
  only:∀ j,0≤out j→∀ φ,Hom l a b φ→out j=(φ j:Nat)
  stk:∀ s ∈ st,∃ n:Nat,s=(n:Int)∧n < a.length∧0≤out n
  cl:∀ j,j < a.length→0≤out j→j≠i→(j:Int) ∈ st∨Rx l a b out j
  me:i < a.length→0≤out i∧LinksDone a b out i k
  ty:i < a.length→0 < k→sub l (nd b (out i).toNat).ty.toNat (nd a i).ty.toNat=true
theorem FS.start {l:List Ty} {a b:List Nd} (ha:0 < a.length) (hb:0 < b.length):FS l a b (Vq (fun _=>-1) 0 0) [0] a.length 0:=by
  refine⟨by simp [Vq],fun j=>?_,fun j hj φ h=>?_,fun s hs=>?_,fun j _ hj _=>?_,fun hi=>absurd hi (Nat.lt_irrefl _),fun hi=>absurd hi (Nat.lt_irrefl _)⟩
  · by_cases e:j=0
    · subst e;rw [Qx];omega
    · rw [jW e];show (-1:Int)≤-1∧(-1:Int) < _;omega
  · by_cases e:j=0
    · subst e;rw [h.zero];simp [Vq]
    · rw [jW e] at hj;omega
  · obtain rfl:=List.mem_singleton.1 hs
    exact⟨0,rfl,ha,by simp [Vq]⟩
  · by_cases e:j=0
    · subst e;exact .inl (by simp)
    · rw [jW e] at hj;omega
theorem FS.pop {l:List Ty} {a b:List Nd} {out:Nat→Int} {st:List Int} {z:Int} (h:FS l a b out (st ++ [z]) a.length 0):∃ n m:Nat,z=(n:Int)∧n < a.length∧out n=(m:Int)∧m < b.length∧FS l a b out st n 0:=by
  obtain⟨n,rfl,hn,hm⟩:=h.stk z (by simp);have hr:=h.rng n;refine⟨n,(out n).toNat,rfl,hn,by omega,by omega,h.zero,h.rng,h.only,fun s hs=>h.stk s (by simp [hs]),fun j hj hmj hne=>?_,fun _=>⟨hm,fun x hx=>by simp at hx⟩,fun _ hk=>absurd hk (Nat.lt_irrefl _)⟩;rcases h.cl j hj hmj om with h1 | h1
  · rcases List.mem_append.1 h1 with h2 | h2
    · exact .inl h2
    · have:=List.mem_singleton.1 h2
      omega
  · exact .inr h1
theorem FS.noTy {l:List Ty} {a b:List Nd} {out:Nat→Int} {st:List Int} {i k:Nat} (h:FS l a b out st i k) (hi:i < a.length) (ht:¬sub l (nd b (out i).toNat).ty.toNat (nd a i).ty.toNat=true):¬Maps l a b:=by
  rintro ⟨φ,hφ⟩
  have e:=h.only i (h.me hi).1 φ hφ;rw [e,Int.toNat_natCast] at ht;exact ht (hφ.ty i hi)
theorem FS.noLn {l:List Ty} {a b:List Nd} {out:Nat→Int} {st:List Int} {i k:Nat} (h:FS l a b out st i k) (hi:i < a.length) {x:Int×Int} (hx:x ∈ (nd a i).ln) (ht:tgt (nd b (out i).toNat).ln x.1 < 0∨0≤out x.2.toNat∧¬out x.2.toNat=tgt (nd b (out i).toNat).ln x.1):¬Maps l a b:=by
  rintro ⟨φ,hφ⟩
  have e:=h.only i (h.me hi).1 φ hφ;rw [e,Int.toNat_natCast,hφ.ln i hi x hx] at ht;rcases ht with ht | ⟨h1,h2⟩
  · omega
  · exact h2 (h.only _ h1 φ hφ)
theorem Hj {a:List Nd} {i k:Nat} (hi:i < a.length) (hk:k < (a[i]).ln.length):(nd a i).ln.take (k + 1)=(nd a i).ln.take k ++ [(a[i]).ln[k]]:=by
  rw [yy hi,List.take_succ_eq_append_getElem hk]
theorem LinksDone.snoc {a b:List Nd} {out:Nat→Int} {i k:Nat} (h:LinksDone a b out i k) (hi:i < a.length) (hk:k < (a[i]).ln.length) (hx:0≤out ((a[i]).ln[k]).2.toNat∧tgt (nd b (out i).toNat).ln ((a[i]).ln[k]).1=out ((a[i]).ln[k]).2.toNat):LinksDone a b out i (k + 1):=fun x hxm=>by
  rw [Hj hi hk] at hxm
  rcases List.mem_append.1 hxm with h1 | h1
  · exact h x h1
  · rw [List.mem_singleton.1 h1];exact hx
theorem FS.old {l:List Ty} {a b:List Nd} {out:Nat→Int} {st:List Int} {i k:Nat} (h:FS l a b out st i k) (hi:i < a.length) (hk:k < (a[i]).ln.length) (hty:sub l (nd b (out i).toNat).ty.toNat (nd a i).ty.toNat=true)
    (hm:0≤out ((a[i]).ln[k]).2.toNat) (he:out ((a[i]).ln[k]).2.toNat=tgt (nd b (out i).toNat).ln ((a[i]).ln[k]).1):FS l a b out st i (k + 1):=
  ⟨h.zero,h.rng,h.only,h.stk,h.cl,fun _=>⟨(h.me hi).1,(h.me hi).2.snoc hi hk ⟨hm,he.symm⟩⟩,fun _ _=>hty⟩
theorem LinksDone.set {a b:List Nd} {out:Nat→Int} {j k t:Nat} {v:Int} (h:LinksDone a b out j k) (hj:0≤out j) (ht:out t < 0):LinksDone a b (Vq out t v) j k:=fun x hx=>by
  have h1:=h x hx
  rw [jW (x:=x.2.toNat) (fun e=>by rw [e] at h1;omega),jW (x:=j) (fun e=>by rw [e] at hj;omega)]
  exact h1
theorem FS.new {l:List Ty} {a b:List Nd} {out:Nat→Int} {st:List Int} {i k t:Nat} (h:FS l a b out st i k) (hi:i < a.length) (hk:k < (a[i]).ln.length) (hty:sub l (nd b (out i).toNat).ty.toNat (nd a i).ty.toNat=true)
    (htt:((a[i]).ln[k]).2=(t:Int)) (htl:t < a.length) (hn:out t < 0) (h0:0≤tgt (nd b (out i).toNat).ln ((a[i]).ln[k]).1) (hb:tgt (nd b (out i).toNat).ln ((a[i]).ln[k]).1 < b.length):FS l a b (Vq out t (tgt (nd b (out i).toNat).ln ((a[i]).ln[k]).1)) (st ++ [(t:Int)]) i (k + 1):=by
  have hme:=(h.me hi).1;have hit:i≠t:=fun e=>by rw [e] at hme;omega
  have h0t:0≠t:=fun e=>by have:=h.zero;rw [e] at this;omega
  have hxm:(a[i]).ln[k] ∈ (nd a i).ln:=by rw [yy hi];exact List.getElem_mem hk
  refine⟨by rw [jW h0t];exact h.zero,fun j=>?_,fun j hj φ hφ=>?_,fun s hs=>?_,fun j hj hm hne=>?_,fun _=>?_,fun _ _=>by rw [jW hit];exact hty⟩
  · by_cases e:j=t
    · subst e;rw [Qx];omega
    · rw [jW e];exact h.rng j
  · by_cases e:j=t
    · subst e
      rw [Qx,h.only i hme φ hφ,Int.toNat_natCast,hφ.ln i hi _ hxm,htt,Int.toNat_natCast]
    · rw [jW e] at hj ⊢;exact h.only j hj φ hφ
  · rcases List.mem_append.1 hs with hs | hs
    · obtain⟨n,h1,h2,h3⟩:=h.stk s hs
      refine⟨n,h1,h2,?_⟩;rw [jW (fun e=>by rw [e] at h3;omega)];exact h3
    · exact⟨t,List.mem_singleton.1 hs,htl,by rw [Qx];exact h0⟩
  · by_cases e:j=t
    · subst e;exact .inl (by simp)
    · rw [jW e] at hm
      rcases h.cl j hj hm hne with h1 | h1
      · exact .inl (by simp [h1])
      · refine .inr ⟨by rw [jW e];exact h1.1,h1.2.set hm hn⟩
  · refine⟨by rw [jW hit];exact hme,?_⟩
    refine LinksDone.snoc ((h.me hi).2.set hme hn) hi hk ?_;rw [htt,Int.toNat_natCast,Qx,jW hit];exact⟨h0,rfl⟩
theorem FS.done {l:List Ty} {a b:List Nd} {out:Nat→Int} {st:List Int} {i k:Nat} (h:FS l a b out st i k) (hi:i < a.length) (hk:k=(a[i]).ln.length) (hty:sub l (nd b (out i).toNat).ty.toNat (nd a i).ty.toNat=true):FS l a b out st a.length 0:=
  ⟨h.zero,h.rng,h.only,h.stk,fun j hj hm _=>by
    by_cases e:j=i
    · subst e
      refine .inr ⟨hty,?_⟩
      have h1:=(h.me hj).2
      rw [hk,← yy hj] at h1
      exact h1
    · exact h.cl j hj hm e,fun hi=>absurd hi (Nat.lt_irrefl _),fun hi=>absurd hi (Nat.lt_irrefl _)⟩
theorem FS.end_ {l:List Ty} {a b:List Nd} {out:Nat→Int} (hr:∀ i,i < a.length→Rch a i) (h:FS l a b out [] a.length 0):Hom l a b (fun i=>(out i).toNat)∧∀ i,i < a.length→0≤out i:=by
  have hd:∀ i,i < a.length→0≤out i→Rx l a b out i:=fun i hi hm=>by
    rcases h.cl i hi hm om with h1 | h1
    · cases h1
    · exact h1
  have hall:∀ i,Rch a i→i < a.length→0≤out i:=fun i hri=>by
    induction hri with
    | zero=>intro _;rw [h.zero];exact Int.le_refl _
    | step hr hi hx ih=>
      rename_i i x
      intro _;have h1:=(hd i hi (ih hi)).2 x (by rw [List.take_length,yy hi];exact hx);exact h1.1
  have hpos:∀ i,i < a.length→0≤out i:=fun i hi=>hall i (hr i hi) hi
  refine⟨⟨by show (out 0).toNat=0;rw [h.zero];rfl,fun i hi=>?_,fun i hi=>(hd i hi (hpos i hi)).1,fun i hi x hx=>?_⟩,hpos⟩
  · have h1:=h.rng i;have h2:=hpos i hi;show (out i).toNat < b.length;omega
  · have h1:=(hd i hi (hpos i hi)).2 x (by rw [List.take_length];exact hx)
    show tgt (nd b (out i).toNat).ln x.1=((out x.2.toNat).toNat:Nat);rw [h1.2];have:=h1.1;omega
theorem Tk {n t:Nat} {out:Nat→Int} {v:Int} (ht:t < n) (h:out t < 0) (hv:0≤v):jq n (got (Vq out t v)) < jq n (got out):=
  jv (fun x hx=>by
    by_cases e:x=t
    · subst e;simp [got];omega
    · simp only [got,jW e] at hx ⊢;exact hx) (List.range n) t (List.mem_range.2 ht) (by simp [got];omega) (by simp [got,Qx,hv])
def CQ (p:Nat→Nat→Bool) (i j:Nat) (x y:Nat):Bool:=if x=i∧y=j then true else p x y
theorem MV (p:Nat→Nat→Bool) (i j:Nat):CQ p i j i j=true:=by simp [CQ]
theorem setP_mono {p:Nat→Nat→Bool} {i j x y:Nat} (h:p x y=true):CQ p i j x y=true:=by
  unfold CQ;split
  · rfl
  · exact h
theorem Yk {p:Nat→Nat→Bool} {i j x y:Nat} (h:CQ p i j x y=true):(x=i∧y=j)∨p x y=true:=by
  unfold CQ at h;by_cases e:x=i∧y=j
  · exact .inl e
  · rw [if_neg e] at h;exact .inr h
def Oy (na nb:Nat) (p:Nat→Nat→Bool):Nat:=(List.range (na * nb)).countP (fun z=>!p (z / nb) (z % nb))
theorem lackP_lt {na nb i j:Nat} {p q:Nat→Nat→Bool} (hpq:∀ x y,p x y=true→q x y=true) (hi:i < na) (hj:j < nb) (h1:p i j=false) (h2:q i j=true):Oy na nb q < Oy na nb p:=by
  have hd:(i * nb + j) / nb=i:=by
    rw [Nat.mul_comm,Nat.mul_add_div om,Nat.div_eq_of_lt hj,Nat.add_zero]
  have hm:(i * nb + j) % nb=j:=by
    rw [Nat.mul_comm,Nat.mul_add_mod,Nat.mod_eq_of_lt hj]
  have hl:i * nb + j < na * nb:=by
    have:=Nat.mul_le_mul_right nb (show i + 1≤na from hi);rw [Nat.add_mul,Nat.one_mul] at this;omega
  refine jv (fun z hz=>?_) (List.range (na * nb)) (i * nb + j) (List.mem_range.2 hl) ?_ ?_
  · cases hp:p (z / nb) (z % nb) with
    | false=>rfl
    | true=>rw [hpq _ _ hp] at hz;cases hz
  · show (!p ((i * nb + j) / nb) ((i * nb + j) % nb))=true
    rw [hd,hm,h1];rfl
  · show (!q ((i * nb + j) / nb) ((i * nb + j) % nb))=false
    rw [hd,hm,h2];rfl
def PairLn (a b:List Nd) (p:Nat→Nat→Bool) (i j k:Nat):Prop:=∀ x ∈ (nd a i).ln.take k,∃ t:Nat,tgt (nd b j).ln x.1=(t:Int)∧p x.2.toNat t=true
def PairOk (l:List Ty) (a b:List Nd) (p:Nat→Nat→Bool) (i j:Nat):Prop:=sub l (nd b j).ty.toNat (nd a i).ty.toNat=true∧PairLn a b p i j (nd a i).ln.length
structure PB (l:List Ty) (a b:List Nd) (p:Nat→Nat→Bool):Prop where
  zero:p 0 0=true
  rng:∀ i j,p i j=true→i < a.length∧j < b.length
  only:∀ i j,p i j=true→∀ φ,Hom l a b φ→φ i=j
structure MPS (l:List Ty) (a b:List Nd) (p:Nat→Nat→Bool) (ch:Bool):Prop where
  pb:PB l a b p
  cl:ch=false→∀ i j,p i j=true→PairOk l a b p i j
structure MPP (l:List Ty) (a b:List Nd) (p0 p:Nat→Nat→Bool) (ch:Bool) (i j k:Nat):Prop where
  pb:PB l a b p
  sup:∀ x y,p0 x y=true→p x y=true
  same:ch=false→∀ x y,p x y=true→p0 x y=true
  more:ch=true→Oy a.length b.length p < Oy a.length b.length p0
  done:∀ x y,p0 x y=true→x < i∨x=i∧y < j→PairOk l a b p x y
  me:0 < k→i < a.length∧j < b.length∧p i j=true∧sub l (nd b j).ty.toNat (nd a i).ty.toNat=true∧PairLn a b p i j k
theorem MPS.start {l:List Ty} {a b:List Nd} (ha:0 < a.length) (hb:0 < b.length):MPS l a b (CQ (fun _ _=>false) 0 0) true:=
  ⟨⟨MV _ _ _,(fun i j h=>by
    rcases Yk h with ⟨rfl,rfl⟩ | h
    · exact⟨ha,hb⟩
    · cases h),(fun i j h φ hφ=>by
    rcases Yk h with ⟨rfl,rfl⟩ | h
    · exact hφ.zero
    · cases h)⟩,fun h=>nomatch h⟩
theorem MPP.start {l:List Ty} {a b:List Nd} {p:Nat→Nat→Bool} {ch:Bool} (h:MPS l a b p ch):MPP l a b p p false 0 0 0:=
  ⟨h.pb,fun _ _ h=>h,fun _ _ _ h=>h,(fun h=>nomatch h),(fun x y _ hx=>by omega),fun hk=>absurd hk (Nat.lt_irrefl _)⟩
theorem MPP.row {l:List Ty} {a b:List Nd} {p0 p:Nat→Nat→Bool} {ch:Bool} {i:Nat} (h:MPP l a b p0 p ch i b.length 0):MPP l a b p0 p ch (i + 1) 0 0:=
  ⟨h.pb,h.sup,h.same,h.more,fun x y hp hx=>h.done x y hp (by
    have:=(h.pb.rng x y (h.sup x y hp)).2
    omega),fun hk=>absurd hk (Nat.lt_irrefl _)⟩
theorem MPP.skip {l:List Ty} {a b:List Nd} {p0 p:Nat→Nat→Bool} {ch:Bool} {i j:Nat} (h:MPP l a b p0 p ch i j 0) (hp:p i j=false):MPP l a b p0 p ch i (j + 1) 0:=
  ⟨h.pb,h.sup,h.same,h.more,fun x y h0 hx=>by
    by_cases e:x=i∧y=j
    · obtain⟨rfl,rfl⟩:=e
      rw [h.sup _ _ h0] at hp;cases hp
    · exact h.done x y h0 om,fun hk=>absurd hk (Nat.lt_irrefl _)⟩
theorem MPP.noTy {l:List Ty} {a b:List Nd} {p:Nat→Nat→Bool} {i j:Nat} (h:PB l a b p) (hp:p i j=true) (ht:¬sub l (nd b j).ty.toNat (nd a i).ty.toNat=true):¬Maps l a b:=by
  rintro ⟨φ,hφ⟩
  have e:=h.only i j hp φ hφ;subst e;exact ht (hφ.ty i (h.rng _ _ hp).1)
theorem MPP.noLn {l:List Ty} {a b:List Nd} {p:Nat→Nat→Bool} {i j:Nat} (h:PB l a b p) (hp:p i j=true) {x:Int×Int} (hx:x ∈ (nd a i).ln) (ht:tgt (nd b j).ln x.1 < 0):¬Maps l a b:=by
  rintro ⟨φ,hφ⟩
  have e:=h.only i j hp φ hφ;subst e;rw [hφ.ln i (h.rng _ _ hp).1 x hx] at ht;omega
theorem PairLn.snoc {a b:List Nd} {p:Nat→Nat→Bool} {i j k:Nat} (h:PairLn a b p i j k) (hi:i < a.length) (hk:k < (a[i]).ln.length) (hx:∃ t:Nat,tgt (nd b j).ln ((a[i]).ln[k]).1=(t:Int)∧p ((a[i]).ln[k]).2.toNat t=true):PairLn a b p i j (k + 1):=fun x hxm=>by
  rw [Hj hi hk] at hxm
  rcases List.mem_append.1 hxm with h1 | h1
  · exact h x h1
  · rw [List.mem_singleton.1 h1];exact hx
theorem PairLn.mono {a b:List Nd} {p q:Nat→Nat→Bool} {i j k:Nat} (h:PairLn a b p i j k) (hpq:∀ x y,p x y=true→q x y=true):PairLn a b q i j k:=fun x hx=>by
  obtain⟨t,h1,h2⟩:=h x hx
  exact⟨t,h1,hpq _ _ h2⟩
structure MPK (l:List Ty) (a b:List Nd) (p0 p:Nat→Nat→Bool) (ch:Bool) (i j k:Nat):Prop where
  pp:MPP l a b p0 p ch i j 0
  at_:p i j=true
  ty:sub l (nd b j).ty.toNat (nd a i).ty.toNat=true
  ln:PairLn a b p i j k
theorem MPK.start {l:List Ty} {a b:List Nd} {p0 p:Nat→Nat→Bool} {ch:Bool} {i j:Nat} (h:MPP l a b p0 p ch i j 0) (hp:p i j=true) (ht:sub l (nd b j).ty.toNat (nd a i).ty.toNat=true):MPK l a b p0 p ch i j 0:=⟨h,hp,ht,fun x hx=>by simp at hx⟩
theorem MPK.old {l:List Ty} {a b:List Nd} {p0 p:Nat→Nat→Bool} {ch:Bool} {i j k s t:Nat} (h:MPK l a b p0 p ch i j k) (hi:i < a.length) (hk:k < (a[i]).ln.length) (hs:((a[i]).ln[k]).2=(s:Int)) (ht:tgt (nd b j).ln ((a[i]).ln[k]).1=(t:Int)) (hp:p s t=true):MPK l a b p0 p ch i j (k + 1):=
  ⟨h.pp,h.at_,h.ty,h.ln.snoc hi hk ⟨t,ht,by rw [hs,Int.toNat_natCast];exact hp⟩⟩
theorem MPK.new {l:List Ty} {a b:List Nd} {p0 p:Nat→Nat→Bool} {ch:Bool} {i j k s t:Nat} (h:MPK l a b p0 p ch i j k) (hi:i < a.length) (hk:k < (a[i]).ln.length) (hs:((a[i]).ln[k]).2=(s:Int)) (hsl:s < a.length) (ht:tgt (nd b j).ln ((a[i]).ln[k]).1=(t:Int)) (htl:t < b.length) (hp:p s t=false):MPK l a b p0 (CQ p s t) true i j (k + 1):=by
  have hxm:(a[i]).ln[k] ∈ (nd a i).ln:=by rw [yy hi];exact List.getElem_mem hk
  have hm:∀ x y,p x y=true→CQ p s t x y=true:=fun x y h=>setP_mono h
  refine⟨⟨⟨hm _ _ h.pp.pb.zero,fun x y hx=>?_,fun x y hx φ hφ=>?_⟩,fun x y hx=>hm _ _ (h.pp.sup x y hx),(fun h=>nomatch h),fun _=>?_,fun x y h0 hx=>?_,fun hk=>absurd hk (Nat.lt_irrefl _)⟩,hm _ _ h.at_,h.ty,(h.ln.mono hm).snoc hi hk ⟨t,ht,by rw [hs,Int.toNat_natCast];exact MV _ _ _⟩⟩
  · rcases Yk hx with ⟨rfl,rfl⟩ | hx
    · exact⟨hsl,htl⟩
    · exact h.pp.pb.rng _ _ hx
  · rcases Yk hx with ⟨rfl,rfl⟩ | hx
    · have e:=h.pp.pb.only i j h.at_ φ hφ
      have h1:=hφ.ln i hi _ hxm;rw [e,ht,hs,Int.toNat_natCast] at h1;exact(Int.ofNat.inj h1).symm
    · exact h.pp.pb.only x y hx φ hφ
  · have h1:=lackP_lt (na:=a.length) (nb:=b.length) hm hsl htl hp (MV p s t)
    cases ch with
    | true=>exact Nat.lt_trans h1 (h.pp.more rfl)
    | false=>
      have e:Oy a.length b.length p0=Oy a.length b.length p:=by
        unfold Oy;refine List.countP_congr (fun z _=>?_);cases hz:p0 (z / b.length) (z % b.length) with
        | true=>rw [h.pp.sup _ _ hz]
        | false=>
          cases hz2:p (z / b.length) (z % b.length) with
          | false=>rfl
          | true=>rw [h.pp.same rfl _ _ hz2] at hz;cases hz
      rw [e];exact h1
  · obtain⟨h1,h2⟩:=h.pp.done x y h0 hx
    exact⟨h1,h2.mono hm⟩
theorem MPK.done {l:List Ty} {a b:List Nd} {p0 p:Nat→Nat→Bool} {ch:Bool} {i j k:Nat} (h:MPK l a b p0 p ch i j k) (hi:i < a.length) (hk:k=(a[i]).ln.length):MPP l a b p0 p ch i (j + 1) 0:=
  ⟨h.pp.pb,h.pp.sup,h.pp.same,h.pp.more,fun x y h0 hx=>by
    by_cases e:x=i∧y=j
    · obtain⟨rfl,rfl⟩:=e
      have h1:=h.ln
      rw [hk,← yy hi] at h1
      exact⟨h.ty,h1⟩
    · exact h.pp.done x y h0 om,fun hk=>absurd hk (Nat.lt_irrefl _)⟩
theorem MPP.end_ {l:List Ty} {a b:List Nd} {p0 p:Nat→Nat→Bool} {ch:Bool} (h:MPP l a b p0 p ch a.length 0 0):MPS l a b p ch:=
  ⟨h.pb,fun hc i j hp=>h.done i j (h.same hc i j hp) (.inl (h.pb.rng i j hp).1)⟩
theorem MPS.two {l:List Ty} {a b:List Nd} {p:Nat→Nat→Bool} {ch:Bool} {i j k:Nat} (h:MPS l a b p ch) (h1:p i j=true) (h2:p i k=true) (hne:j≠k):¬Maps l a b:=by
  rintro ⟨φ,hφ⟩
  exact hne ((h.pb.only i j h1 φ hφ).symm.trans (h.pb.only i k h2 φ hφ))
end Go.Proofs.YtdgnllfbooklcaaDoor
