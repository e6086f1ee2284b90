/- Maps between feature graphs: when there is one, that there is one only, and the states of the two searches for it. No program in sight. Maps between valid graphs: they compose, maps both ways are a renumbering, and a map keeps paths. No program in sight. What these functions of the program compute, at every world: . What these functions of the program compute, at every world: glosswright/glosswrightequal.Lex, glosswright/glosswrightequal.Lexes. What these functions of the program compute, at every world: glosswright/glosswrightequal.Rules. Structs of a string and two ints, compared. No program in sight. What these functions of the program compute, at every world: slices.Equal[[]int,int]. What these functions of the program compute, at every world: slices.Equal[[]glosswright/api.Feat,glosswright/api.Feat], glosswright/glosswrightequal.Types, glosswright/glosswrightequal.Hierarchies. What these functions of the program compute, at every world: glosswright/glosswrightequal.Grammars. -/
import Derived.Test.YtbcpgfnfiekbiaaGreatDoorComp
import Derived.Test.YtbcpgfnfiekbiaaGreatDoorNN1
import Derived.Test.YtbcpgfnfiekbiaaGreatDoorRng
import Derived.Test.YtbcpgfnfiekbiaaGreatDoorU
import Derived.Test.YtbcpgfnfiekbiaaGreatDoorTrm
import Derived.Test.YtbcpgfnfiekbiaaGreatDoorGNodes
import Derived.Test.YtbcpgfnfiekbiaaGreatDoorStk
import Derived.Test.YtbcpgfnfiekbiaaGreatDoorEng2
import Derived.Test.YtbcpgfnfiekbiaaGreatDoorOpen
import Derived.Test.YtbcpgfnfiekbiaaGreatDoorMeet
import Derived.Test.YtbcpgfnfiekbiaaGreatDoorEng4
namespace Go.Proofs.YtbcpgfnfiekbiaaGreatDoor
open Go.RowKit
structure Hom (l:List Ty) (a b:List Nd) (φ:Nat→Nat):Prop where
  zero:φ 0=0
  lt:∀ i,i < a.length→φ i < b.length
  ty:∀ i,i < a.length→sub l (nd b (φ i)).ty.toNat (nd a i).ty.toNat=true
  ln:∀ i,i < a.length→∀ x ∈ (nd a i).ln,tgt (nd b (φ i)).ln x.1=((φ x.2.toNat:Nat):Int)
theorem Hom.uniq {l:List Ty} {a b:List Nd} {φ ψ:Nat→Nat} (h:Hom l a b φ) (k:Hom l a b ψ) {i:Nat} (hr:Rch a i):φ i=ψ i:=by
  induction hr with
  | zero=>rw [h.zero,k.zero]
  | step hr hi hx ih=>
    rename_i i x
    have e:=j8 hi;have h1:=h.ln i hi x (by rw [e];exact hx);have h2:=k.ln i hi x (by rw [e];exact hx);rw [ih] at h1;rw [h1] at h2;exact Int.ofNat.inj h2
def Maps (l:List Ty) (a b:List Nd):Prop:=∃ φ,Hom l a b φ
noncomputable instance (l:List Ty) (a b:List Nd):Decidable (Maps l a b):=Classical.propDecidable _
def P9 (out:Nat→Int) (t:Nat) (v:Int) (x:Nat):Int:=if x=t then v else out x
theorem X4 (out:Nat→Int) (t:Nat) (v:Int):P9 out t v t=v:=by simp [P9]
theorem u3 {out:Nat→Int} {t x:Nat} {v:Int} (h:x≠t):P9 out t v x=out x:=by simp [P9,h]
def LinksDone (a b:List Nd) (out:Nat→Int) (j k:Nat):Prop:=∀ x ∈ (nd a j).ln.take k,0≤out x.2.toNat∧tgt (nd b (out j).toNat).ln x.1=out x.2.toNat
def W9 (l:List Ty) (a b:List Nd) (out:Nat→Int) (j:Nat):Prop:=sub l (nd b (out j).toNat).ty.toNat (nd a j).ty.toNat=true∧LinksDone a b out j (nd a j).ln.length
structure FS (l:List Ty) (a b:List Nd) (out:Nat→Int) (st:List Int) (i k:Nat):Prop where
  zero:out 0=0
  rng:∀ j,-1≤out j∧out j < b.length
  only:∀ j,0≤out j→∀ φ,Hom l a b φ→out j=(φ j:Nat)
  stk:∀ s ∈ st,∃ n:Nat,s=(n:Int)∧n < a.length∧0≤out n
  cl:∀ j,j < a.length→0≤out j→j≠i→(j:Int) ∈ st∨W9 l a b out j
  me:i < a.length→0≤out i∧LinksDone a b out i k
  ty:i < a.length→0 < k→sub l (nd b (out i).toNat).ty.toNat (nd a i).ty.toNat=true
theorem FS.start {l:List Ty} {a b:List Nd} (ha:0 < a.length) (hb:0 < b.length):FS l a b (P9 (fun _=>-1) 0 0) [0] a.length 0:=by
  refine⟨by simp [P9],fun j=>?_,fun j hj φ h=>?_,fun s hs=>?_,fun j _ hj _=>?_,fun hi=>absurd hi (Nat.lt_irrefl _),fun hi=>absurd hi (Nat.lt_irrefl _)⟩
  · by_cases e:j=0
    · subst e;rw [X4];omega
    · rw [u3 e];show (-1:Int)≤-1∧(-1:Int) < _;omega
  · by_cases e:j=0
    · subst e;rw [h.zero];simp [P9]
    · rw [u3 e] at hj;omega
  · obtain rfl:=List.mem_singleton.1 hs
    exact⟨0,rfl,ha,by simp [P9]⟩
  · by_cases e:j=0
    · subst e;exact .inl (by simp)
    · rw [u3 e] at hj;omega
theorem FS.pop {l:List Ty} {a b:List Nd} {out:Nat→Int} {st:List Int} {z:Int} (h:FS l a b out (st ++ [z]) a.length 0):∃ n m:Nat,z=(n:Int)∧n < a.length∧out n=(m:Int)∧m < b.length∧FS l a b out st n 0:=by
  obtain⟨n,rfl,hn,hm⟩:=h.stk z (by simp);have hr:=h.rng n;refine⟨n,(out n).toNat,rfl,hn,by omega,by omega,h.zero,h.rng,h.only,fun s hs=>h.stk s (by simp [hs]),fun j hj hmj hne=>?_,fun _=>⟨hm,fun x hx=>by simp at hx⟩,fun _ hk=>absurd hk (Nat.lt_irrefl _)⟩;rcases h.cl j hj hmj om with h1 | h1
  · rcases List.mem_append.1 h1 with h2 | h2
    · exact .inl h2
    · have:=List.mem_singleton.1 h2
      omega
  · exact .inr h1
theorem take_nd {a:List Nd} {i k:Nat} (hi:i < a.length) (hk:k < (a[i]).ln.length):(nd a i).ln.take (k + 1)=(nd a i).ln.take k ++ [(a[i]).ln[k]]:=by
  rw [j8 hi,List.take_succ_eq_append_getElem hk]
theorem LinksDone.snoc {a b:List Nd} {out:Nat→Int} {i k:Nat} (h:LinksDone a b out i k) (hi:i < a.length) (hk:k < (a[i]).ln.length) (hx:0≤out ((a[i]).ln[k]).2.toNat∧tgt (nd b (out i).toNat).ln ((a[i]).ln[k]).1=out ((a[i]).ln[k]).2.toNat):LinksDone a b out i (k + 1):=fun x hxm=>by
  rw [take_nd hi hk] at hxm
  rcases List.mem_append.1 hxm with h1 | h1
  · exact h x h1
  · rw [List.mem_singleton.1 h1];exact hx
theorem FS.old {l:List Ty} {a b:List Nd} {out:Nat→Int} {st:List Int} {i k:Nat} (h:FS l a b out st i k) (hi:i < a.length) (hk:k < (a[i]).ln.length) (hty:sub l (nd b (out i).toNat).ty.toNat (nd a i).ty.toNat=true)
    (hm:0≤out ((a[i]).ln[k]).2.toNat) (he:out ((a[i]).ln[k]).2.toNat=tgt (nd b (out i).toNat).ln ((a[i]).ln[k]).1):FS l a b out st i (k + 1):=
  ⟨h.zero,h.rng,h.only,h.stk,h.cl,fun _=>⟨(h.me hi).1,(h.me hi).2.snoc hi hk ⟨hm,he.symm⟩⟩,fun _ _=>hty⟩
theorem LinksDone.set {a b:List Nd} {out:Nat→Int} {j k t:Nat} {v:Int} (h:LinksDone a b out j k) (hj:0≤out j) (ht:out t < 0):LinksDone a b (P9 out t v) j k:=fun x hx=>by
  have h1:=h x hx
  rw [u3 (x:=x.2.toNat) (fun e=>by rw [e] at h1;omega),u3 (x:=j) (fun e=>by rw [e] at hj;omega)]
  exact h1
theorem FS.new {l:List Ty} {a b:List Nd} {out:Nat→Int} {st:List Int} {i k t:Nat} (h:FS l a b out st i k) (hi:i < a.length) (hk:k < (a[i]).ln.length) (hty:sub l (nd b (out i).toNat).ty.toNat (nd a i).ty.toNat=true)
    (htt:((a[i]).ln[k]).2=(t:Int)) (htl:t < a.length) (hn:out t < 0) (h0:0≤tgt (nd b (out i).toNat).ln ((a[i]).ln[k]).1) (hb:tgt (nd b (out i).toNat).ln ((a[i]).ln[k]).1 < b.length):FS l a b (P9 out t (tgt (nd b (out i).toNat).ln ((a[i]).ln[k]).1)) (st ++ [(t:Int)]) i (k + 1):=by
  have hme:=(h.me hi).1;have hit:i≠t:=fun e=>by rw [e] at hme;omega
  have h0t:0≠t:=fun e=>by have:=h.zero;rw [e] at this;omega
  have hxm:(a[i]).ln[k] ∈ (nd a i).ln:=by rw [j8 hi];exact List.getElem_mem hk
  refine⟨by rw [u3 h0t];exact h.zero,fun j=>?_,fun j hj φ hφ=>?_,fun s hs=>?_,fun j hj hm hne=>?_,fun _=>?_,fun _ _=>by rw [u3 hit];exact hty⟩
  · by_cases e:j=t
    · subst e;rw [X4];omega
    · rw [u3 e];exact h.rng j
  · by_cases e:j=t
    · subst e
      rw [X4,h.only i hme φ hφ,Int.toNat_natCast,hφ.ln i hi _ hxm,htt,Int.toNat_natCast]
    · rw [u3 e] at hj ⊢;exact h.only j hj φ hφ
  · rcases List.mem_append.1 hs with hs | hs
    · obtain⟨n,h1,h2,h3⟩:=h.stk s hs
      refine⟨n,h1,h2,?_⟩;rw [u3 (fun e=>by rw [e] at h3;omega)];exact h3
    · exact⟨t,List.mem_singleton.1 hs,htl,by rw [X4];exact h0⟩
  · by_cases e:j=t
    · subst e;exact .inl (by simp)
    · rw [u3 e] at hm
      rcases h.cl j hj hm hne with h1 | h1
      · exact .inl (by simp [h1])
      · refine .inr ⟨by rw [u3 e];exact h1.1,h1.2.set hm hn⟩
  · refine⟨by rw [u3 hit];exact hme,?_⟩
    refine LinksDone.snoc ((h.me hi).2.set hme hn) hi hk ?_;rw [htt,Int.toNat_natCast,X4,u3 hit];exact⟨h0,rfl⟩
theorem FS.done {l:List Ty} {a b:List Nd} {out:Nat→Int} {st:List Int} {i k:Nat} (h:FS l a b out st i k) (hi:i < a.length) (hk:k=(a[i]).ln.length) (hty:sub l (nd b (out i).toNat).ty.toNat (nd a i).ty.toNat=true):FS l a b out st a.length 0:=
  ⟨h.zero,h.rng,h.only,h.stk,fun j hj hm _=>by
    by_cases e:j=i
    · subst e
      refine .inr ⟨hty,?_⟩
      have h1:=(h.me hj).2
      rw [hk,← j8 hj] at h1
      exact h1
    · exact h.cl j hj hm e,fun hi=>absurd hi (Nat.lt_irrefl _),fun hi=>absurd hi (Nat.lt_irrefl _)⟩
theorem FS.end_ {l:List Ty} {a b:List Nd} {out:Nat→Int} (hr:∀ i,i < a.length→Rch a i) (h:FS l a b out [] a.length 0):Hom l a b (fun i=>(out i).toNat)∧∀ i,i < a.length→0≤out i:=by
  have hd:∀ i,i < a.length→0≤out i→W9 l a b out i:=fun i hi hm=>by
    rcases h.cl i hi hm om with h1 | h1
    · cases h1
    · exact h1
  have hall:∀ i,Rch a i→i < a.length→0≤out i:=fun i hri=>by
    induction hri with
    | zero=>intro _;rw [h.zero];exact Int.le_refl _
    | step hr hi hx ih=>
      rename_i i x
      intro _;have h1:=(hd i hi (ih hi)).2 x (by rw [List.take_length,j8 hi];exact hx);exact h1.1
  have hpos:∀ i,i < a.length→0≤out i:=fun i hi=>hall i (hr i hi) hi
  refine⟨⟨by show (out 0).toNat=0;rw [h.zero];rfl,fun i hi=>?_,fun i hi=>(hd i hi (hpos i hi)).1,fun i hi x hx=>?_⟩,hpos⟩
  · have h1:=h.rng i;have h2:=hpos i hi;show (out i).toNat < b.length;omega
  · have h1:=(hd i hi (hpos i hi)).2 x (by rw [List.take_length];exact hx)
    show tgt (nd b (out i).toNat).ln x.1=((out x.2.toNat).toNat:Nat);rw [h1.2];have:=h1.1;omega
def B5 (p:Nat→Nat→Bool) (i j:Nat) (x y:Nat):Bool:=if x=i∧y=j then true else p x y
theorem M5 (p:Nat→Nat→Bool) (i j:Nat):B5 p i j i j=true:=by simp [B5]
theorem setP_mono {p:Nat→Nat→Bool} {i j x y:Nat} (h:p x y=true):B5 p i j x y=true:=by
  unfold B5;split
  · rfl
  · exact h
theorem XQ {p:Nat→Nat→Bool} {i j x y:Nat} (h:B5 p i j x y=true):(x=i∧y=j)∨p x y=true:=by
  unfold B5 at h;by_cases e:x=i∧y=j
  · exact .inl e
  · rw [if_neg e] at h;exact .inr h
def Ok (na nb:Nat) (p:Nat→Nat→Bool):Nat:=(List.range (na * nb)).countP (fun z=>!p (z / nb) (z % nb))
theorem lackP_lt {na nb i j:Nat} {p q:Nat→Nat→Bool} (hpq:∀ x y,p x y=true→q x y=true) (hi:i < na) (hj:j < nb) (h1:p i j=false) (h2:q i j=true):Ok na nb q < Ok na nb p:=by
  have hd:(i * nb + j) / nb=i:=by
    rw [Nat.mul_comm,Nat.mul_add_div om,Nat.div_eq_of_lt hj,Nat.add_zero]
  have hm:(i * nb + j) % nb=j:=by
    rw [Nat.mul_comm,Nat.mul_add_mod,Nat.mod_eq_of_lt hj]
  have hl:i * nb + j < na * nb:=by
    have:=Nat.mul_le_mul_right nb (show i + 1≤na from hi);rw [Nat.add_mul,Nat.one_mul] at this;omega
  refine oQ (fun z hz=>?_) (List.range (na * nb)) (i * nb + j) (List.mem_range.2 hl) ?_ ?_
  · cases hp:p (z / nb) (z % nb) with
    | false=>rfl
    | true=>rw [hpq _ _ hp] at hz;cases hz
  · show (!p ((i * nb + j) / nb) ((i * nb + j) % nb))=true
    rw [hd,hm,h1];rfl
  · show (!q ((i * nb + j) / nb) ((i * nb + j) % nb))=false
    rw [hd,hm,h2];rfl
def PairLn (a b:List Nd) (p:Nat→Nat→Bool) (i j k:Nat):Prop:=∀ x ∈ (nd a i).ln.take k,∃ t:Nat,tgt (nd b j).ln x.1=(t:Int)∧p x.2.toNat t=true
def PairOk (l:List Ty) (a b:List Nd) (p:Nat→Nat→Bool) (i j:Nat):Prop:=sub l (nd b j).ty.toNat (nd a i).ty.toNat=true∧PairLn a b p i j (nd a i).ln.length
structure PB (l:List Ty) (a b:List Nd) (p:Nat→Nat→Bool):Prop where
  zero:p 0 0=true
  rng:∀ i j,p i j=true→i < a.length∧j < b.length
  only:∀ i j,p i j=true→∀ φ,Hom l a b φ→φ i=j
structure MPS (l:List Ty) (a b:List Nd) (p:Nat→Nat→Bool) (ch:Bool):Prop where
  pb:PB l a b p
  cl:ch=false→∀ i j,p i j=true→PairOk l a b p i j
structure MPP (l:List Ty) (a b:List Nd) (p0 p:Nat→Nat→Bool) (ch:Bool) (i j k:Nat):Prop where
  pb:PB l a b p
  sup:∀ x y,p0 x y=true→p x y=true
  same:ch=false→∀ x y,p x y=true→p0 x y=true
  more:ch=true→Ok a.length b.length p < Ok a.length b.length p0
  done:∀ x y,p0 x y=true→x < i∨x=i∧y < j→PairOk l a b p x y
  me:0 < k→i < a.length∧j < b.length∧p i j=true∧sub l (nd b j).ty.toNat (nd a i).ty.toNat=true∧PairLn a b p i j k
theorem MPS.start {l:List Ty} {a b:List Nd} (ha:0 < a.length) (hb:0 < b.length):MPS l a b (B5 (fun _ _=>false) 0 0) true:=
  ⟨⟨M5 _ _ _,(fun i j h=>by
    rcases XQ h with ⟨rfl,rfl⟩ | h
    · exact⟨ha,hb⟩
    · cases h),(fun i j h φ hφ=>by
    rcases XQ h with ⟨rfl,rfl⟩ | h
    · exact hφ.zero
    · cases h)⟩,fun h=>nomatch h⟩
theorem MPP.start {l:List Ty} {a b:List Nd} {p:Nat→Nat→Bool} {ch:Bool} (h:MPS l a b p ch):MPP l a b p p false 0 0 0:=
  ⟨h.pb,fun _ _ h=>h,fun _ _ _ h=>h,(fun h=>nomatch h),(fun x y _ hx=>by omega),fun hk=>absurd hk (Nat.lt_irrefl _)⟩
theorem MPP.row {l:List Ty} {a b:List Nd} {p0 p:Nat→Nat→Bool} {ch:Bool} {i:Nat} (h:MPP l a b p0 p ch i b.length 0):MPP l a b p0 p ch (i + 1) 0 0:=
  ⟨h.pb,h.sup,h.same,h.more,fun x y hp hx=>h.done x y hp (by
    have:=(h.pb.rng x y (h.sup x y hp)).2
    omega),fun hk=>absurd hk (Nat.lt_irrefl _)⟩
theorem MPP.skip {l:List Ty} {a b:List Nd} {p0 p:Nat→Nat→Bool} {ch:Bool} {i j:Nat} (h:MPP l a b p0 p ch i j 0) (hp:p i j=false):MPP l a b p0 p ch i (j + 1) 0:=
  ⟨h.pb,h.sup,h.same,h.more,fun x y h0 hx=>by
    by_cases e:x=i∧y=j
    · obtain⟨rfl,rfl⟩:=e
      rw [h.sup _ _ h0] at hp;cases hp
    · exact h.done x y h0 om,fun hk=>absurd hk (Nat.lt_irrefl _)⟩
theorem PairLn.snoc {a b:List Nd} {p:Nat→Nat→Bool} {i j k:Nat} (h:PairLn a b p i j k) (hi:i < a.length) (hk:k < (a[i]).ln.length) (hx:∃ t:Nat,tgt (nd b j).ln ((a[i]).ln[k]).1=(t:Int)∧p ((a[i]).ln[k]).2.toNat t=true):PairLn a b p i j (k + 1):=fun x hxm=>by
  rw [take_nd hi hk] at hxm
  rcases List.mem_append.1 hxm with h1 | h1
  · exact h x h1
  · rw [List.mem_singleton.1 h1];exact hx
theorem PairLn.mono {a b:List Nd} {p q:Nat→Nat→Bool} {i j k:Nat} (h:PairLn a b p i j k) (hpq:∀ x y,p x y=true→q x y=true):PairLn a b q i j k:=fun x hx=>by
  obtain⟨t,h1,h2⟩:=h x hx
  exact⟨t,h1,hpq _ _ h2⟩
structure MPK (l:List Ty) (a b:List Nd) (p0 p:Nat→Nat→Bool) (ch:Bool) (i j k:Nat):Prop where
  pp:MPP l a b p0 p ch i j 0
  at_:p i j=true
  ty:sub l (nd b j).ty.toNat (nd a i).ty.toNat=true
  ln:PairLn a b p i j k
theorem MPK.start {l:List Ty} {a b:List Nd} {p0 p:Nat→Nat→Bool} {ch:Bool} {i j:Nat} (h:MPP l a b p0 p ch i j 0) (hp:p i j=true) (ht:sub l (nd b j).ty.toNat (nd a i).ty.toNat=true):MPK l a b p0 p ch i j 0:=⟨h,hp,ht,fun x hx=>by simp at hx⟩
theorem MPK.old {l:List Ty} {a b:List Nd} {p0 p:Nat→Nat→Bool} {ch:Bool} {i j k s t:Nat} (h:MPK l a b p0 p ch i j k) (hi:i < a.length) (hk:k < (a[i]).ln.length) (hs:((a[i]).ln[k]).2=(s:Int)) (ht:tgt (nd b j).ln ((a[i]).ln[k]).1=(t:Int)) (hp:p s t=true):MPK l a b p0 p ch i j (k + 1):=
  ⟨h.pp,h.at_,h.ty,h.ln.snoc hi hk ⟨t,ht,by rw [hs,Int.toNat_natCast];exact hp⟩⟩
theorem MPK.new {l:List Ty} {a b:List Nd} {p0 p:Nat→Nat→Bool} {ch:Bool} {i j k s t:Nat} (h:MPK l a b p0 p ch i j k) (hi:i < a.length) (hk:k < (a[i]).ln.length) (hs:((a[i]).ln[k]).2=(s:Int)) (hsl:s < a.length) (ht:tgt (nd b j).ln ((a[i]).ln[k]).1=(t:Int)) (htl:t < b.length) (hp:p s t=false):MPK l a b p0 (B5 p s t) true i j (k + 1):=by
  have hxm:(a[i]).ln[k] ∈ (nd a i).ln:=by rw [j8 hi];exact List.getElem_mem hk
  have hm:∀ x y,p x y=true→B5 p s t x y=true:=fun x y h=>setP_mono h
  refine⟨⟨⟨hm _ _ h.pp.pb.zero,fun x y hx=>?_,fun x y hx φ hφ=>?_⟩,fun x y hx=>hm _ _ (h.pp.sup x y hx),(fun h=>nomatch h),fun _=>?_,fun x y h0 hx=>?_,fun hk=>absurd hk (Nat.lt_irrefl _)⟩,hm _ _ h.at_,h.ty,(h.ln.mono hm).snoc hi hk ⟨t,ht,by rw [hs,Int.toNat_natCast];exact M5 _ _ _⟩⟩
  · rcases XQ hx with ⟨rfl,rfl⟩ | hx
    · exact⟨hsl,htl⟩
    · exact h.pp.pb.rng _ _ hx
  · rcases XQ hx with ⟨rfl,rfl⟩ | hx
    · have e:=h.pp.pb.only i j h.at_ φ hφ
      have h1:=hφ.ln i hi _ hxm;rw [e,ht,hs,Int.toNat_natCast] at h1;exact(Int.ofNat.inj h1).symm
    · exact h.pp.pb.only x y hx φ hφ
  · have h1:=lackP_lt (na:=a.length) (nb:=b.length) hm hsl htl hp (M5 p s t)
    cases ch with
    | true=>exact Nat.lt_trans h1 (h.pp.more rfl)
    | false=>
      have e:Ok a.length b.length p0=Ok a.length b.length p:=by
        unfold Ok;refine List.countP_congr (fun z _=>?_);cases hz:p0 (z / b.length) (z % b.length) with
        | true=>rw [h.pp.sup _ _ hz]
        | false=>
          cases hz2:p (z / b.length) (z % b.length) with
          | false=>rfl
          | true=>rw [h.pp.same rfl _ _ hz2] at hz;cases hz
      rw [e];exact h1
  · obtain⟨h1,h2⟩:=h.pp.done x y h0 hx
    exact⟨h1,h2.mono hm⟩
theorem MPK.done {l:List Ty} {a b:List Nd} {p0 p:Nat→Nat→Bool} {ch:Bool} {i j k:Nat} (h:MPK l a b p0 p ch i j k) (hi:i < a.length) (hk:k=(a[i]).ln.length):MPP l a b p0 p ch i (j + 1) 0:=
  ⟨h.pp.pb,h.pp.sup,h.pp.same,h.pp.more,fun x y h0 hx=>by
    by_cases e:x=i∧y=j
    · obtain⟨rfl,rfl⟩:=e
      have h1:=h.ln
      rw [hk,← j8 hi] at h1
      exact⟨h.ty,h1⟩
    · exact h.pp.done x y h0 om,fun hk=>absurd hk (Nat.lt_irrefl _)⟩
theorem MPP.end_ {l:List Ty} {a b:List Nd} {p0 p:Nat→Nat→Bool} {ch:Bool} (h:MPP l a b p0 p ch a.length 0 0):MPS l a b p ch:=
  ⟨h.pb,fun hc i j hp=>h.done i j (h.same hc i j hp) (.inl (h.pb.rng i j hp).1)⟩
theorem MPS.two {l:List Ty} {a b:List Nd} {p:Nat→Nat→Bool} {ch:Bool} {i j k:Nat} (h:MPS l a b p ch) (h1:p i j=true) (h2:p i k=true) (hne:j≠k):¬Maps l a b:=by
  rintro ⟨φ,hφ⟩
  exact hne ((h.pb.only i j h1 φ hφ).symm.trans (h.pb.only i k h2 φ hφ))
end Go.Proofs.YtbcpgfnfiekbiaaGreatDoor
namespace Go.Proofs.YtbcpgfnfiekbiaaGreatDoor
open Go.RowKit
section order
variable {l:List Ty} {fs:List Ft} {a b c:List Nd}
def Srt (xs:List (Int×Int)):Prop:=xs.Pairwise (fun x y=>x.1 < y.1)
theorem srt_of {nf n:Nat} {last:Int} {xs:List (Int×Int)} (h:yj nf n last xs=0):Srt xs:=by
  have hs:=(J0 h).2;refine List.pairwise_iff_getElem.2 (fun i j hi hj hij=>hs i j hi hj hij)
theorem tgt_in {xs:List (Int×Int)} (hs:Srt xs) {x:Int×Int} (hx:x ∈ xs):tgt xs x.1=x.2:=by
  induction xs with
  | nil=>cases hx
  | cons y ys ih=>
    obtain⟨h1,h2⟩:=List.pairwise_cons.1 hs;rcases List.mem_cons.1 hx with e | e
    · subst e;simp [tgt]
    · have hne:¬y.1=x.1:=by have:=h1 x e;omega
      have:=ih h2 e;simp only [tgt,List.find?_cons,hne,decide_false] at this ⊢;exact this
theorem BJ {xs:List (Int×Int)} {f:Int} (h:0≤tgt xs f):(f,tgt xs f) ∈ xs:=by
  induction xs with
  | nil=>simp [tgt] at h
  | cons y ys ih=>
    by_cases e:y.1=f
    · have:tgt (y :: ys) f=y.2:=by simp [tgt,e]
      rw [this];have:(f,y.2)=y:=by rw [← e]
      rw [this];exact List.mem_cons_self ..
    · have:tgt (y :: ys) f=tgt ys f:=by simp [tgt,e]
      rw [this] at h ⊢;exact List.mem_cons_of_mem _ (ih h)
structure GY (l:List Ty) (a:List Nd):Prop where
  vt:VT l
  pos:0 < a.length
  tr:∀ i,i < a.length→0≤(nd a i).ty∧(nd a i).ty < l.length
  srt:∀ i,i < a.length→Srt (nd a i).ln
  lr:∀ i,i < a.length→∀ x ∈ (nd a i).ln,0≤x.2∧x.2.toNat < a.length
structure GX (l:List Ty) (a:List Nd):Prop extends GY l a where
  rch:∀ i,i < a.length→Rch a i
theorem GV.gx (h:GV l fs a):GX l a:=
  ⟨⟨h.s.vt,h.gok.pos,fun i hi=>by rw [j8 hi];exact h.gok.ty i hi,fun i hi=>by rw [j8 hi];exact srt_of (Oq h.lo i hi),fun i hi x hx=>by
    rw [j8 hi] at hx
    have:=h.gok.ln i hi x hx
    omega⟩,h.rch⟩
theorem GV.lt (h:GV l fs a) {i:Nat} (hi:i < a.length) {x:Int×Int} (hx:x ∈ (nd a i).ln):0≤x.1∧x.1 < fs.length∧sub l (nd a i).ty.toNat (ftAt fs x.1).of.toNat=true∧sub l (nd a x.2.toNat).ty.toNat (ftAt fs x.1).val.toNat=true:=by
  rw [j8 hi] at hx;have h1:=h.gok.ln i hi x hx;have h0:tyN l fs a i=0:=yJ (by rw [show zW (tyN l fs a) 0 a.length=tyF l fs a from rfl,h.t]) _ (Nat.zero_le _) om;have h2:Mk l fs a (a[i]).ty x=false:=by
    simp only [tyN,List.getElem?_eq_getElem hi] at h0;cases hb:Mk l fs a (a[i]).ty x with
    | false=>rfl
    | true=>rw [if_pos (List.any_eq_true.2 ⟨x,hx,hb⟩)] at h0;cases h0
  unfold Mk at h2;rw [show (Nx a x.2).ty.toNat=(nd a x.2.toNat).ty.toNat from rfl,Bool.or_eq_false_iff] at h2;rw [j8 hi];simp only [Bool.not_eq_false'] at h2;exact⟨h1.1,h1.2.1,h2.1,h2.2⟩
theorem GY.rng (h:GY l a):∀ i,i < a.length→∀ t ∈ yy a i,t < a.length:=fun i hi t ht=>by
  simp only [yy,List.mem_map] at ht
  obtain⟨x,hx,rfl⟩:=ht
  exact(h.lr i hi x hx).2
theorem Hom.refl (h:GX l a):Hom l a a (fun i=>i):=
  ⟨rfl,fun _ hi=>hi,fun _ _=>YZ h.vt _,fun i hi x hx=>by
    have:=h.lr i hi x hx
    rw [tgt_in (h.srt i hi) hx];omega⟩
theorem Hom.comp {φ ψ:Nat→Nat} (hl:VT l) (hφ:Hom l a b φ) (hψ:Hom l b c ψ):Hom l a c (fun i=>ψ (φ i)):=
  ⟨by show ψ (φ 0)=0;rw [hφ.zero,hψ.zero],fun i hi=>hψ.lt _ (hφ.lt i hi),fun i hi=>M2 hl (hψ.ty _ (hφ.lt i hi)) (hφ.ty i hi),fun i hi x hx=>by
    have h1:=hφ.ln i hi x hx
    have hm:=BJ (xs:=(nd b (φ i)).ln) (f:=x.1) om
    rw [h1] at hm
    have:=hψ.ln _ (hφ.lt i hi) _ hm
    rw [Int.toNat_natCast] at this
    exact this⟩
theorem Maps.comp (hl:VT l) (h:Maps l a b) (k:Maps l b c):Maps l a c:=by
  obtain⟨φ,hφ⟩:=h;obtain⟨ψ,hψ⟩:=k;exact⟨_,hφ.comp hl hψ⟩
theorem NY {r:Nat} {o:List Nat} (t:TrR a r o) {x:Nat} (hx:x ∈ o):nd (jK a o) (o.idxOf x)=trN (o.idxOf ·) (nd a x):=by
  rw [E0 hx];refine BQ rfl ?_;simp only [canN,trN];refine List.map_congr_left (fun y hy=>?_);simp only [QX,BZ (t.mem hx hy)]
theorem dl_ex {g:List Nd} (hr:∀ i,i < g.length→∀ t ∈ yy g i,t < g.length):∀ (n:Nat) (is o:List Nat),jy g.length (ZZ o)≤n→(∀ i ∈ is,i < g.length)→∃ o',DL g is o o'
  | n,[],o,_,_=>⟨o,.nil⟩
  | n,i :: is,o,hn,hi=>by
    have hil:=hi i (List.mem_cons_self ..)
    have his:∀ j ∈ is,j < g.length:=fun j hj=>hi j (List.mem_cons_of_mem _ hj)
    by_cases h:i ∈ o
    · obtain⟨o',h1⟩:=dl_ex hr n is o hn his
      exact⟨o',.old h h1⟩
    · have hl:=J1 hil h
      cases n with
      | zero=>omega
      | succ n=>
        obtain⟨o1,h1⟩:=dl_ex hr n (yy g i) (o ++ [i]) om (hr i hil)
        have hm:jy g.length (ZZ o1)≤jy g.length (ZZ (o ++ [i])):=by
          unfold jy;refine List.countP_mono_left (fun x _ hx=>?_);simp only [ZZ,Bool.not_eq_true',decide_eq_false_iff_not] at hx ⊢;exact fun k=>hx (h1.sub x k)
        obtain⟨o',h2⟩:=dl_ex hr n is o1 om his;exact⟨o',.new h h1 h2⟩
theorem GY.dl (h:GY l a) {r:Nat} (hr:r < a.length):∃ o,DL a [r] [] o:=dl_ex h.rng _ [r] [] (Nat.le_refl _) (fun i hi=>by rw [List.mem_singleton.1 hi];exact hr)
theorem TrR.at_ {r:Nat} {o:List Nat} (t:TrR a r o) {j:Nat} (hj:j < (jK a o).length):∃ x,x ∈ o∧o.idxOf x=j∧o.getD j 0=x∧nd (jK a o) j=trN (o.idxOf ·) (nd a x):=by
  rw [Zq] at hj;have hjo:=List.getElem_mem hj;have h1:=NY t hjo;rw [Ix t.nodup hj] at h1;exact⟨o[j],hjo,Ix t.nodup hj,by simp [List.getD,hj],h1⟩
theorem TrR.gx {r:Nat} {o:List Nat} (t:TrR a r o) (ha:GY l a):GX l (jK a o):=by
  have hlen:=Zq a o;have hrg:∀ i,i < (jK a o).length→∀ x ∈ (nd (jK a o) i).ln,0≤x.2∧x.2.toNat < (jK a o).length:=fun j hj x hx=>by
    obtain⟨y,hy,_,_,e⟩:=t.at_ hj;rw [e] at hx;obtain⟨z,hz,rfl⟩:=List.mem_map.1 hx;have:=(Z5 (t.mem hy hz)).1;simp only [hlen];omega
  refine⟨⟨ha.vt,by rw [hlen];exact List.length_pos_of_mem t.has,fun j hj=>?_,fun j hj=>?_,hrg⟩,fun j hj=>?_⟩
  · obtain⟨y,hy,_,_,e⟩:=t.at_ hj
    rw [e];exact ha.tr _ (t.lt hy)
  · obtain⟨y,hy,_,_,e⟩:=t.at_ hj
    rw [e];exact List.pairwise_map.2 (ha.srt _ (t.lt hy))
  · have hd:=t.dl2 t.has t.dl
    rw [t.zero,map_idx t.nodup] at hd
    have hR:=hd.rch (fun i hi y hy=>by
      simp only [yy,List.mem_map] at hy;obtain⟨x,hx,rfl⟩:=hy
      exact(hrg i hi x hx).2) (fun i hi=>by rw [List.mem_singleton.1 hi,hlen];exact List.length_pos_of_mem t.has) (fun i hi=>by rw [List.mem_singleton.1 hi];exact .zero) (fun x hx=>by cases hx)
    exact hR j (List.mem_range.2 (by rw [← hlen];exact hj))
theorem Hom.part {φ:Nat→Nat} (h:Hom l a b φ) (hb:GX l b) {i:Nat} {oa ob:List Nat} (ta:TrR a i oa) (tb:TrR b (φ i) ob):Maps l (jK a oa) (jK b ob):=by
  have hmem:∀ x,x ∈ oa→φ x ∈ ob:=by
    have hR:∀ x,x ∈ oa→x ∈ oa∧φ x ∈ ob:=by
      have hw:=DL.within (o:=oa.filter (fun x=>decide (φ x ∈ ob))) (g:=a) (fun x hx t ht=>by
        simp only [List.mem_filter,decide_eq_true_eq] at hx ⊢;refine⟨ta.clo x hx.1 t ht,?_⟩;simp only [yy,List.mem_map] at ht;obtain⟨y,hy,rfl⟩:=ht;have h2:=h.ln x (ta.lt hx.1) y hy;have hm:=BJ (xs:=(nd b (φ x)).ln) (f:=y.1) om;rw [h2] at hm;have:=tb.mem hx.2 hm
        rwa [Int.toNat_natCast] at this) ta.dl (fun z hz=>by
          rw [List.mem_singleton.1 hz];simp only [List.mem_filter,decide_eq_true_eq]
          exact⟨ta.has,tb.has⟩) (fun x hx=>by cases hx)
      intro x hx;have:=hw x hx;simp only [List.mem_filter,decide_eq_true_eq] at this;exact this
    exact fun x hx=>(hR x hx).2
  have hgb:=tb.gx hb.toGY;have la:=Zq a oa;have lb:=Zq b ob;have hz:oa.getD 0 0=i:=by
    have h0:=Z5 ta.has;have hp:0 < oa.length:=by have:=h0.1;omega
    have:=h0.2;simp only [ta.zero] at this;simp [List.getD,hp,this]
  have hat:∀ j,j < (jK a oa).length→oa.getD j 0 ∈ oa∧nd (jK a oa) j=trN (oa.idxOf ·) (nd a (oa.getD j 0)):=fun j hj=>by
    rw [la] at hj;have e:oa.getD j 0=oa[j]:=by simp [List.getD,hj]
    have hjo:=List.getElem_mem hj;have h1:=NY ta hjo;rw [Ix ta.nodup hj] at h1;rw [e];exact⟨hjo,h1⟩
  refine⟨fun j=>ob.idxOf (φ (oa.getD j 0)),?_,fun j hj=>?_,fun j hj=>?_,fun j hj x hx=>?_⟩
  · show ob.idxOf (φ (oa.getD 0 0))=0
    rw [hz];exact tb.zero
  · rw [lb];exact(Z5 (hmem _ (hat j hj).1)).1
  · obtain⟨h1,h2⟩:=hat j hj
    show sub l (nd (jK b ob) (ob.idxOf (φ (oa.getD j 0)))).ty.toNat _=true;rw [h2,NY tb (hmem _ h1)];exact h.ty _ (ta.lt h1)
  · obtain⟨h1,h2⟩:=hat j hj
    rw [h2] at hx;obtain⟨y,hy,rfl⟩:=List.mem_map.1 hx;have hb1:=Z5 (hmem _ h1);have hs:=hgb.srt (ob.idxOf (φ (oa.getD j 0))) (by rw [lb];exact hb1.1);have h3:=h.ln _ (ta.lt h1) y hy;have hm:=BJ (xs:=(nd b (φ (oa.getD j 0))).ln) (f:=y.1) om;rw [h3] at hm;show tgt (nd (jK b ob) (ob.idxOf (φ (oa.getD j 0)))).ln y.1=((ob.idxOf (φ (oa.getD ((oa.idxOf y.2.toNat:Nat):Int).toNat 0)):Nat):Int);have hyo:=Z5 (ta.mem h1 hy);have e2:oa.getD (oa.idxOf y.2.toNat) 0=y.2.toNat:=by
      have:=hyo.2;simp [List.getD,hyo.1,this]
    rw [Int.toNat_natCast,e2];rw [NY tb (hmem _ h1)] at hs ⊢;have hm2:((y.1,((ob.idxOf (φ y.2.toNat):Nat):Int)):Int×Int) ∈ (trN (ob.idxOf ·) (nd b (φ (oa.getD j 0)))).ln:=List.mem_map.2 ⟨_,hm,by rw [Int.toNat_natCast]⟩;exact tgt_in hs hm2
end order
end Go.Proofs.YtbcpgfnfiekbiaaGreatDoor
namespace Go.Proofs.YtbcpgfnfiekbiaaGreatDoor
open Go.RowKit
theorem JZ (A B:Option Addr) (n m c d:Nat) (ga gb:List Nd) (b:Bool) (w:World) (hA:NodesIn w A ga) (hBn:NodesIn w B gb) (ha:ga.length=n) (hb:gb.length=m) (he:decide (ga=gb)=b):Calls Tryz.prog 39 #[.agg #[.slice A n c],.agg #[.slice B m d]] w fun e w'=>e= .returned (.bool b)∧Bel w w':=by
  subst ha hb;have h:=nodes_any A B c d ga gb w hA hBn;rw [he] at h;exact h
end Go.Proofs.YtbcpgfnfiekbiaaGreatDoor
namespace Go.Proofs.YtbcpgfnfiekbiaaGreatDoor
open Go.RowKit
theorem fn39:zZ Tryz.prog 39=true:=by kernel_rfl
theorem fn72:zZ Tryz.prog 72=true:=by kernel_rfl
theorem K9:(Tryz.prog.info? 46).map (·.size)=some 9:=by kernel_rfl
set_option maxRecDepth 100000 in
set_option maxHeartbeats 2000000 in
theorem lexq_any (x:Lx) (G1 G2 S1 S2 B1 B2:Option Addr) (g1 g2 s1 s2 c1 c2:Nat) (w:World) (hK:TmK x.mean) (hG1:NodesIn w G1 (x).gr) (hS1:SimsIn w S1 (x).mean.type.args) (hT1:TmsIn w B1 (x).mean.args) (hG2:NodesIn w G2 (x).gr) (hS2:SimsIn w S2 (x).mean.type.args) (hT2:TmsIn w B2 (x).mean.args):Calls Tryz.prog 72 #[.agg #[.string (x).word,.slice G1 (x).gr.length g1,.int .i64 (x).wt,.int .i64 ((x).mean).kind,.string ((x).mean).name,.int .i64 ((x).mean).index,.string ((x).mean).type.base,.slice S1 ((x).mean).type.args.length s1,.slice B1 ((x).mean).args.length c1],.agg #[.string (x).word,.slice G2 (x).gr.length g2,.int .i64 (x).wt,.int .i64 ((x).mean).kind,.string ((x).mean).name,.int .i64 ((x).mean).index,.string ((x).mean).type.base,.slice S2 ((x).mean).type.args.length s2,.slice B2 ((x).mean).args.length c2]] w fun e w'=>e= .returned (.bool true)∧Bel w w':=by
 refine enT Tryz.func72 Tryz.ntmps72 rfl rfl fun hB=>?_;refine zn2 ?_;refine qK (v:= .agg #[_,_,_,_,_,_,_,_,_]) (cs:=#[_,_,_,_,_,_,_,_,_]) rfl rfl (fun b2 w1 hb2 t1 hr=>?_);refine qK (v:= .agg #[_,_,_,_,_,_,_,_,_]) (cs:=#[_,_,_,_,_,_,_,_,_]) rfl rfl (fun b3 w2 hb3 t2 hr=>?_);refine yw ?_;refine wl (xZ (v:= .bool true) (congrArg Value.bool (decide_eq_true rfl))) (yx ?_);refine wl (xZ (v:= .bool true) (congrArg Value.bool (decide_eq_true rfl))) (zn3 ?_);refine wl (zV U30 rfl rfl (hb2.u.sub (n:=1) (xs:=[_]) rfl) uj) (zn3 ?_);refine wl (zV U30 rfl rfl (hb3.sub (n:=1) (xs:=[_]) rfl) uj) (zn1 ?_);refine zJ fn39 (JZ G1 G2 _ _ g1 g2 x.gr x.gr true _ (hG1.mono hB.u) (hG2.mono hB.u) rfl rfl (decide_eq_true rfl)) rfl (fun e' w3 hr=>?_);obtain⟨rfl,t3⟩:=hr;replace t3:=sB t3;refine⟨_,rfl,?_⟩;refine zn1 ?_;refine wl (xZ (v:= .bool true) rfl) (zn3 ?_);refine wl (zV U44 rfl rfl (hb2.u.sub (n:=6) (xs:=[_,_,_,_,_,_]) rfl) QV) (zn3 ?_);refine wl (zV U44 rfl rfl (hb3.u.sub (n:=6) (xs:=[_,_,_,_,_,_]) rfl) QV) (zn1 ?_);refine zJ fn51 (stm_any hK S1 S2 B1 B2 s1 s2 c1 c2 _ (hS1.mono hB.u) (hS2.mono hB.u) (hT1.mono hB.u) (hT2.mono hB.u)) rfl (fun e' w4 hr=>?_);obtain⟨rfl,t4⟩:=hr;replace t4:=sB t4;refine⟨_,rfl,?_⟩;refine zn6 ?_;exact⟨rfl,hB.u⟩
set_option maxRecDepth 100000 in
set_option maxHeartbeats 2000000 in
theorem lexsq_any (A1 A2:Option Addr) (c1 c2:Nat) (l:List Lx) (w:World) (hl:l.length≤1000000) (hK:∀ i (h:i < l.length),TmK (l[i]).mean) (h1:LexesIn w A1 l) (h2:LexesIn w A2 l):Calls Tryz.prog 38 #[.slice A1 l.length c1,.slice A2 l.length c2] w fun e w'=>e= .returned (.bool true)∧Bel w w':=by
 refine enT Tryz.func38 Tryz.ntmps38 rfl rfl fun hB=>?_;refine Z6 ?_;refine zy rfl (fun c10=>?_) (fun c10=>?_)
 ·exact absurd rfl c10
 refine yx ?_;refine zK (rg [4,5] 13 14) (fun m g w'=>∃ j:Nat,j≤l.length∧m=l.length - j∧g 13= .int .i64 j∧Bel w w') (l.length) ?_ (fun m g4 w1 hI=>?_)
 ·exact⟨0,Nat.zero_le _,rfl,rfl,hB⟩
 obtain⟨j,hj,hmj,h13,hB⟩:=hI;refine zQ 13 _ h13 nu (zn6 ?_);refine zy rfl (fun c14=>?_) (fun c14=>?_)
 ·have hja:j < l.length:=by omega
  obtain⟨xb,xo,G1,g1,S1,s1,B1,e1,rfl,hxb,_,hxr,hG1,hS1,hT1⟩:=h1.at_ (Below.refl _ _:Bel w w) hja;obtain⟨yb,yo,G2,g2,S2,s2,B2,e2,rfl,hyb,_,hyr,hG2,hS2,hT2⟩:=h2.at_ (Below.refl _ _:Bel w w) hja;refine yx ?_;refine QJ 8 kR kR (fun w2 t1=>?_);refine zn2 ?_;refine ws (xw (i:=j) U27 K9 rfl rfl hja rfl) (zn3 ?_);refine ws (xw (i:=j) U27 K9 rfl rfl hja rfl) (zn1 ?_);refine Qk ?_;refine zJ fn72 (lexq_any (l[j]) G1 G2 S1 S2 B1 B2 g1 g2 s1 s2 e1 e2 _ (hK j hja) (hG1.mono hB.u) (hS1.mono hB.u) (hT1.mono hB.u) (hG2.mono hB.u) (hS2.mono hB.u) (hT2.mono hB.u)) rfl (fun e' w3 hr=>?_);obtain⟨rfl,t2⟩:=hr;replace t2:=sB t2;refine⟨_,rfl,?_⟩;refine zn3 ?_;refine vw rfl (fun c25=>?_) (fun c25=>?_)
  ·exact absurd c25 dE
  refine zn7 ?_;refine qV (l.length - (j + 1)) om agA ?_;exact⟨j + 1,by omega,rfl,rfl,hB.u⟩
 refine y8 ?_;exact⟨rfl,hB⟩
end Go.Proofs.YtbcpgfnfiekbiaaGreatDoor
namespace Go.Proofs.YtbcpgfnfiekbiaaGreatDoor
open Go.RowKit
theorem QK:(Tryz.prog.info? 54).map (·.size)=some 10:=by kernel_rfl
theorem SV:(Tryz.prog.info? 54).map (·.zero)=some (some (.agg #[.string ⟨#[]⟩,.slice none 0 0,.int .i64 0,.int .i64 0,.int .i64 0,.string ⟨#[]⟩,.int .i64 0,.string ⟨#[]⟩,.slice none 0 0,.slice none 0 0])):=by kernel_rfl
set_option maxRecDepth 100000 in
set_option maxHeartbeats 4000000 in
theorem Hq (A1 A2:Option Addr) (c1 c2:Nat) (l:List Rl) (w:World) (hl:l.length≤1000000) (hK:∀ i (h:i < l.length),TmK (l[i]).mean) (h1:RulesIn w A1 l) (h2:RulesIn w A2 l):Calls Tryz.prog 16 #[.slice A1 l.length c1,.slice A2 l.length c2] w fun e w'=>e= .returned (.bool true)∧Bel w w':=by
 refine enT Tryz.func16 Tryz.ntmps16 rfl rfl fun hB=>?_;refine Z6 ?_;refine zy rfl (fun c12=>?_) (fun c12=>?_)
 ·exact absurd rfl c12
 refine yx ?_;refine zK (rg [4,5,6,7] 15 47) (fun m g w'=>∃ j:Nat,j≤l.length∧m=l.length - j∧g 15= .int .i64 j∧Bel w w') (l.length) ?_ (fun m g4 w1 hI=>?_)
 ·exact⟨0,Nat.zero_le _,rfl,rfl,hB⟩
 obtain⟨j,hj,hmj,h15,hB⟩:=hI;refine zQ 15 _ h15 nu (zn6 ?_);refine zy rfl (fun c16=>?_) (fun c16=>?_)
 ·have hja:j < l.length:=by omega
  obtain⟨xb,xo,G1,g1,S1,s1,B1,e1,rfl,hxb,hxr,hG1,hS1,hT1⟩:=h1.at_ (Below.refl _ _:Bel w w) hja;obtain⟨yb,yo,G2,g2,S2,s2,B2,e2,rfl,hyb,hyr,hG2,hS2,hT2⟩:=h2.at_ (Below.refl _ _:Bel w w) hja;refine yx ?_;have hsz:=Bel.size hB;refine IZ 12 [18,19,20,21,22,23,24,25,6,7] [] (fun ix=>Nat.beq ix 10 || Nat.beq ix 11) (fun st ix v la ha wv=>match ix with | 0=>v= .slice (some ⟨xb,xo,none⟩) l.length c1 | 1=>v= .int .i64 (j:Nat) | 2=>v= .pointer (some ⟨xb,xo + j * 10,none⟩) | 3=>v= .agg #[.string ((l[j])).name,.slice G1 ((l[j])).gr.length g1,.int .i64 ((l[j])).kids,.int .i64 ((l[j])).wt,.int .i64 (((l[j])).mean).kind,.string (((l[j])).mean).name,.int .i64 (((l[j])).mean).index,.string (((l[j])).mean).type.base,.slice S1 (((l[j])).mean).type.args.length s1,.slice B1 (((l[j])).mean).args.length e1] | 4=>v= .slice (some ⟨yb,yo,none⟩) l.length c2 | 5=>v= .int .i64 (j:Nat) | 6=>v= .pointer (some ⟨yb,yo + j * 10,none⟩) | 7=>v= .agg #[.string ((l[j])).name,.slice G2 ((l[j])).gr.length g2,.int .i64 ((l[j])).kids,.int .i64 ((l[j])).wt,.int .i64 (((l[j])).mean).kind,.string (((l[j])).mean).name,.int .i64 (((l[j])).mean).index,.string (((l[j])).mean).type.base,.slice S2 (((l[j])).mean).type.args.length s2,.slice B2 (((l[j])).mean).args.length e2] | 8=>∃ b:Nat,v= .pointer (some ⟨b,0,none⟩)∧w1.heap.size≤b∧(st 10=false→Blk wv b 54 #[.string ⟨#[]⟩,.slice none 0 0,.int .i64 0,.int .i64 0,.int .i64 0,.string ⟨#[]⟩,.int .i64 0,.string ⟨#[]⟩,.slice none 0 0,.slice none 0 0])∧(st 10=true→Blk wv b 54 #[.string ((l[j])).name,.slice G1 ((l[j])).gr.length g1,.int .i64 ((l[j])).kids,.int .i64 ((l[j])).wt,.int .i64 (((l[j])).mean).kind,.string (((l[j])).mean).name,.int .i64 (((l[j])).mean).index,.string (((l[j])).mean).type.base,.slice S1 (((l[j])).mean).type.args.length s1,.slice B1 (((l[j])).mean).args.length e1])∧la≤b∧b < ha | 9=>∃ b:Nat,v= .pointer (some ⟨b,0,none⟩)∧w1.heap.size≤b∧(st 11=false→Blk wv b 54 #[.string ⟨#[]⟩,.slice none 0 0,.int .i64 0,.int .i64 0,.int .i64 0,.string ⟨#[]⟩,.int .i64 0,.string ⟨#[]⟩,.slice none 0 0,.slice none 0 0])∧(st 11=true→Blk wv b 54 #[.string ((l[j])).name,.slice G2 ((l[j])).gr.length g2,.int .i64 ((l[j])).kids,.int .i64 ((l[j])).wt,.int .i64 (((l[j])).mean).kind,.string (((l[j])).mean).name,.int .i64 (((l[j])).mean).index,.string (((l[j])).mean).type.base,.slice S2 (((l[j])).mean).type.args.length s2,.slice B2 (((l[j])).mean).args.length e2])∧la≤b∧b < ha | 10=>True | 11=>True | _=>True) kR kR kR ?_ ?_ ?_
  ·intro st ix v la ha wv wv2 h t1
   match ix,h with
   | 0,h=>exact h
   | 1,h=>exact h
   | 2,h=>exact h
   | 3,h=>exact h
   | 4,h=>exact h
   | 5,h=>exact h
   | 6,h=>exact h
   | 7,h=>exact h
   | 8,h=>
    obtain⟨b6,e6,lo6,hz6,hy6,la6,ha6⟩:=h;exact⟨b6,e6,lo6,fun h=>(hz6 h).tr0 t1,fun h=>(hy6 h).tr0 t1,la6,ha6⟩
   | 9,h=>
    obtain⟨b7,e7,lo7,hz7,hy7,la7,ha7⟩:=h;exact⟨b7,e7,lo7,fun h=>(hz7 h).tr0 t1,fun h=>(hy7 h).tr0 t1,la7,ha7⟩
   | 10,h=>exact h
   | 11,h=>exact h
   | _ + 12,h=>exact trivial
  ·intro st ix o hix hoq hns gg wx la ha t2 hd
   match ix,hix,hoq,hns with
   | 0,_,hoq,hns=>
    cases sI hoq;show OS _ _ _ _ _ _;refine xk (xZ (v:= .slice _ _ _) rfl) ⟨Same.refl _ _,?_⟩;exact rfl
   | 1,_,hoq,hns=>
    cases sI hoq;show OS _ _ _ _ _ _;refine xk (xZ (v:= .int _ _) rfl) ⟨Same.refl _ _,?_⟩;exact rfl
   | 2,_,hoq,hns=>
    cases sI hoq;show OS _ _ _ _ _ _;refine zz 18 _ (hd 0 _ (zq kR) rfl) nu (zz 19 _ (hd 1 _ (zq kR) rfl) nu ?_);refine xk (xw (i:=j) U26 QK rfl rfl hja rfl) ⟨Same.refl _ _,?_⟩;exact rfl
   | 3,_,hoq,hns=>
    cases sI hoq;show OS _ _ _ _ _ _;refine zz 20 _ (hd 2 _ (zq kR) rfl) nu ?_;refine xk (zV U54 rfl rfl (hB.u.range hxb hxr) QK) ⟨Same.refl _ _,?_⟩;exact rfl
   | 4,_,hoq,hns=>
    cases sI hoq;show OS _ _ _ _ _ _;refine xk (xZ (v:= .slice _ _ _) rfl) ⟨Same.refl _ _,?_⟩;exact rfl
   | 5,_,hoq,hns=>
    cases sI hoq;show OS _ _ _ _ _ _;refine xk (xZ (v:= .int _ _) rfl) ⟨Same.refl _ _,?_⟩;exact rfl
   | 6,_,hoq,hns=>
    cases sI hoq;show OS _ _ _ _ _ _;refine zz 22 _ (hd 4 _ (zq kR) rfl) nu (zz 23 _ (hd 5 _ (zq kR) rfl) nu ?_);refine xk (xw (i:=j) U26 QK rfl rfl hja rfl) ⟨Same.refl _ _,?_⟩;exact rfl
   | 7,_,hoq,hns=>
    cases sI hoq;show OS _ _ _ _ _ _;refine zz 24 _ (hd 6 _ (zq kR) rfl) nu ?_;refine xk (zV U54 rfl rfl (hB.u.range hyb hyr) QK) ⟨Same.refl _ _,?_⟩;exact rfl
   | 8,_,hoq,hns=>
    cases sI hoq;show OS _ _ _ _ _ _;have hs0:=t2;refine vK (fun ops Q K=>?_);refine zY (cs:=#[.string ⟨#[]⟩,.slice none 0 0,.int .i64 0,.int .i64 0,.int .i64 0,.string ⟨#[]⟩,.int .i64 0,.string ⟨#[]⟩,.slice none 0 0,.slice none 0 0]) SV rfl (fun b6 w1 hb6 t3 hr=>?_);exact K _ _ ⟨t3,_,rfl,nLT hs0.size hr,fun _=>hb6,(fun h=>absurd (hns 10 rfl kR) (by rw [h];decide)),hr,hb6.lt⟩
   | 9,_,hoq,hns=>
    cases sI hoq;show OS _ _ _ _ _ _;have hs0:=t2;refine vK (fun ops Q K=>?_);refine zY (cs:=#[.string ⟨#[]⟩,.slice none 0 0,.int .i64 0,.int .i64 0,.int .i64 0,.string ⟨#[]⟩,.int .i64 0,.string ⟨#[]⟩,.slice none 0 0,.slice none 0 0]) SV rfl (fun b7 w1 hb7 t4 hr=>?_);exact K _ _ ⟨t4,_,rfl,nLT hs0.size hr,fun _=>hb7,(fun h=>absurd (hns 11 rfl kR) (by rw [h];decide)),hr,hb7.lt⟩
   | 10,_,hoq,hns=>
    cases sI hoq;show st 10=false→(∀ j k,j ∈ _→k ∈ _→j≠k→ha j≤la k∨ha k≤la j)→OS _ _ _ _ _ _;intro hn hI;have hs0:=t2;obtain⟨b6,e6,lo6,hz6,hy6,la6,ha6⟩:=hd 8 _ (zq kR) rfl;refine zz 21 _ (hd 3 _ (zq kR) rfl) nu (zz 6 _ e6 nu ?_);have hzb:=hz6 hn;have hdj:=hI 8 9 (zq kR) (zq kR) dE;refine Mx (fun ops Q K=>?_);refine zj hzb rfl rfl QK rfl zX (fun w2 hq hs2=>?_);have K2:=K w2;refine K2 ⟨hs0.freshL hs2 (fun g hg=>by rw [List.mem_singleton.1 hg];exact .inr lo6),hs2.size,?_,fun kx ox hne hox h=>?_⟩
    ·exact trivial
    match kx,hne,hox,h with
    | 0,_,_,h=>exact h
    | 1,_,_,h=>exact h
    | 2,_,_,h=>exact h
    | 3,_,_,h=>exact h
    | 4,_,_,h=>exact h
    | 5,_,_,h=>exact h
    | 6,_,_,h=>exact h
    | 7,_,_,h=>exact h
    | 8,_,hox,h=>
     obtain rfl:_=ox:=Option.some.inj hox;obtain⟨bx,ex,lox,hzx,hyx,lax,hax⟩:=h;have hbx:bx=b6:=by
       have h:=ex.symm.trans e6;cases h;rfl
     subst hbx;exact⟨bx,ex,lox,(fun h=>by cases (show true=false from h)),fun _=>hq,lax,hax⟩
    | 9,_,hox,h=>
     obtain rfl:_=ox:=Option.some.inj hox;obtain⟨bx,ex,lox,hzx,hyx,lax,hax⟩:=h;exact⟨bx,ex,lox,fun h=>(hzx h).tr hs2 (fun hm=>by have:=List.mem_singleton.1 hm;omega),fun h=>(hyx h).tr hs2 (fun hm=>by have:=List.mem_singleton.1 hm;omega),lax,hax⟩
    | 10,hne,_,_=>exact absurd rfl hne
    | 11,_,_,h=>exact h
    | _ + 12,_,_,_=>exact trivial
   | 11,_,hoq,hns=>
    cases sI hoq;show st 11=false→(∀ j k,j ∈ _→k ∈ _→j≠k→ha j≤la k∨ha k≤la j)→OS _ _ _ _ _ _;intro hn hI;have hs0:=t2;obtain⟨b7,e7,lo7,hz7,hy7,la7,ha7⟩:=hd 9 _ (zq kR) rfl;refine zz 25 _ (hd 7 _ (zq kR) rfl) nu (zz 7 _ e7 nu ?_);have hzb:=hz7 hn;have hdj:=hI 8 9 (zq kR) (zq kR) dE;refine Mx (fun ops Q K=>?_);refine zj hzb rfl rfl QK rfl zX (fun w2 hq hs2=>?_);have K2:=K w2;refine K2 ⟨hs0.freshL hs2 (fun g hg=>by rw [List.mem_singleton.1 hg];exact .inr lo7),hs2.size,?_,fun kx ox hne hox h=>?_⟩
    ·exact trivial
    match kx,hne,hox,h with
    | 0,_,_,h=>exact h
    | 1,_,_,h=>exact h
    | 2,_,_,h=>exact h
    | 3,_,_,h=>exact h
    | 4,_,_,h=>exact h
    | 5,_,_,h=>exact h
    | 6,_,_,h=>exact h
    | 7,_,_,h=>exact h
    | 8,_,hox,h=>
     obtain rfl:_=ox:=Option.some.inj hox;obtain⟨bx,ex,lox,hzx,hyx,lax,hax⟩:=h;exact⟨bx,ex,lox,fun h=>(hzx h).tr hs2 (fun hm=>by have:=List.mem_singleton.1 hm;omega),fun h=>(hyx h).tr hs2 (fun hm=>by have:=List.mem_singleton.1 hm;omega),lax,hax⟩
    | 9,_,hox,h=>
     obtain rfl:_=ox:=Option.some.inj hox;obtain⟨bx,ex,lox,hzx,hyx,lax,hax⟩:=h;have hbx:bx=b7:=by
       have h:=ex.symm.trans e7;cases h;rfl
     subst hbx;exact⟨bx,ex,lox,(fun h=>by cases (show true=false from h)),fun _=>hq,lax,hax⟩
    | 10,_,_,h=>exact h
    | 11,hne,_,_=>exact absurd rfl hne
    | _ + 12,_,_,_=>exact trivial
   | _ + 12,hix,_,_=>exact absurd hix om
  intro st gg w2 la ha hall t5 hR hI;obtain⟨b6,e6,lo6,hz6,hy6,la6,ha6⟩:=hR 8 _ rfl;obtain⟨b7,e7,lo7,hz7,hy7,la7,ha7⟩:=hR 9 _ rfl;have hb6:=hy6 (hall 10 dE rfl);have hb7:=hy7 (hall 11 dE rfl);refine x7 21 _ (hR 3 _ rfl) nu (x7 25 _ (hR 7 _ rfl) nu (x7 6 _ e6 nu (x7 7 _ e7 nu (zn9 ?_))));refine wl (xZ (v:= .bool false) (congrArg Value.bool (decide_eq_false (fun h=>h rfl)))) (yx ?_);refine wl (xZ (v:= .bool false) (congrArg Value.bool (decide_eq_false (fun h=>h rfl)))) (yx ?_);refine wl (xZ (v:= .bool false) (congrArg Value.bool (decide_eq_false (fun h=>h rfl)))) (zn3 ?_);refine wl (zV U30 rfl rfl (hb6.sub (n:=1) (xs:=[_]) rfl) uj) (zn3 ?_);refine wl (zV U30 rfl rfl (hb7.sub (n:=1) (xs:=[_]) rfl) uj) (zn1 ?_);refine zJ fn39 (JZ G1 G2 _ _ g1 g2 (l[j]).gr (l[j]).gr true _ (hG1.mono hB.u) (hG2.mono hB.u) rfl rfl (decide_eq_true rfl)) rfl (fun e' w3 hr=>?_);obtain⟨rfl,t6⟩:=hr;replace t6:=sB t6;refine⟨_,rfl,?_⟩;refine zn3 ?_;refine wl (xZ (v:= .bool false) rfl) (zn3 ?_);refine wl (zV U44 rfl rfl (hb6.u.sub (n:=6) (xs:=[_,_,_,_,_,_]) rfl) QV) (zn3 ?_);refine wl (zV U44 rfl rfl (hb7.u.sub (n:=6) (xs:=[_,_,_,_,_,_]) rfl) QV) (zn1 ?_);refine zJ fn51 (stm_any (hK j hja) S1 S2 B1 B2 s1 s2 e1 e2 _ (hS1.mono hB.u) (hS2.mono hB.u) (hT1.mono hB.u) (hT2.mono hB.u)) rfl (fun e' w4 hr=>?_);obtain⟨rfl,t7⟩:=hr;replace t7:=sB t7;refine⟨_,rfl,?_⟩;refine zn5 ?_;refine vw rfl (fun c60=>?_) (fun c60=>?_)
  ·exact absurd c60 dE
  refine zn7 ?_;refine qV (l.length - (j + 1)) om agA ?_;exact⟨j + 1,by omega,rfl,rfl,hB.u⟩
 refine y8 ?_;exact⟨rfl,hB⟩
end Go.Proofs.YtbcpgfnfiekbiaaGreatDoor
namespace Go.Proofs.YtbcpgfnfiekbiaaGreatDoor
open Go.RowKit
theorem ft_ext {a b:Ft} (h:a.name=b.name∧a.of=b.of∧a.val=b.val):a=b:=by
  cases a;cases b;obtain⟨h1,h2,h3⟩:=h;simp only at h1 h2 h3;rw [h1,h2,h3]
theorem ty_ext {a b:Ty} (h1:a.name=b.name) (h2:a.par=b.par):a=b:=by
  cases a;cases b;simp only at h1 h2;rw [h1,h2]
section eqs
variable {P:Program} {Q:Exit→Act→World→Prop} {n:Nat} {f:Fr} {w w':World} {ty t':TypeId} {pos:String} {af:Array Edge} {dst:Option Tmp} {gd:Option (Nat×Bool)} {x y:Operand} {t ts ti:TypeId} {s s':ByteArray} {a b a' b':Int}
theorem run_eq3 (ht:P.underlying t=some (.struct (P.fieldsOf t))) (hs:P.stoodInHeld t=false) (hf:(P.fieldsOf t).toList.map (fun f=>(f.name == "_",f.type,f.offset))= [(false,ts,0),(false,ti,1),(false,ti,2)]) (hst:P.underlying ts=some .string) (hi:P.underlying ti=some (.int .i64)):
    (Op.equalIn 10000 t (.agg #[.string s,.int .i64 a,.int .i64 b]) (.agg #[.string s',.int .i64 a',.int .i64 b'])).run P w= .ok (decide (s=s'∧a=a'∧b=b')) w:=by
  rw [run_equalIn_agg w 9999 t _ _ ht hs]
  generalize (P.fieldsOf t).toList=fs at hf
  obtain⟨f0,f1,f2,rfl⟩:∃ f0 f1 f2,fs= [f0,f1,f2]:=by
    have hl:=congrArg List.length hf;simp only [List.length_map,List.length_cons,List.length_nil] at hl
    match fs,hl with
    | [f0,f1,f2],_=>exact⟨f0,f1,f2,rfl⟩
  simp only [List.map_cons,List.map_nil,List.cons.injEq,Prod.mk.injEq,and_true,beq_eq_false_iff_ne] at hf;obtain⟨⟨h1,h2,h3⟩,⟨h4,h5,h6⟩,h7,h8,h9⟩:=hf;have p1:(part f0.type #[.string s,.int .i64 a,.int .i64 b] f0.offset).run P w= .ok (.string s) w:=by rw [h2,h3];exact kz hst rfl rfl
  have p2:(part f0.type #[.string s',.int .i64 a',.int .i64 b'] f0.offset).run P w= .ok (.string s') w:=by rw [h2,h3];exact kz hst rfl rfl
  have p3:(part f1.type #[.string s,.int .i64 a,.int .i64 b] f1.offset).run P w= .ok (.int .i64 a) w:=by rw [h5,h6];exact kz hi rfl rfl
  have p4:(part f1.type #[.string s',.int .i64 a',.int .i64 b'] f1.offset).run P w= .ok (.int .i64 a') w:=by rw [h5,h6];exact kz hi rfl rfl
  have p5:(part f2.type #[.string s,.int .i64 a,.int .i64 b] f2.offset).run P w= .ok (.int .i64 b) w:=by rw [h8,h9];exact kz hi rfl rfl
  have p6:(part f2.type #[.string s',.int .i64 a',.int .i64 b'] f2.offset).run P w= .ok (.int .i64 b') w:=by rw [h8,h9];exact kz hi rfl rfl
  have e0:=run_equalIn_string (P:=P) w 9998 f0.type s s' (by rw [h2];exact hst);have es:(s.toList == s'.toList)=decide (s=s'):=by rw [Bool.eq_iff_iff];simp [Qj]
  rw [es] at e0;have e1:=run_equalIn_int (P:=P) w 9998 f1.type .i64 .i64 a a' (by rw [h5];exact hi);have e2:=run_equalIn_int (P:=P) w 9998 f2.type .i64 .i64 b b' (by rw [h8];exact hi);simp only [Op.eqFields,h1,h4,h7,ne_eq,not_false_eq_true,if_true,Sem.run_bind,p1,p2,Result.andThen_ok,e0];by_cases hs1:s=s'
  · subst hs1
    simp only [decide_true,Bool.not_true,Bool.false_eq_true,if_false,Sem.run_bind,p3,p4,Result.andThen_ok,e1];by_cases hac:a=a'
    · subst hac
      simp only [beq_self_eq_true,Bool.not_true,Bool.false_eq_true,if_false,Sem.run_bind,p5,p6,Result.andThen_ok,e2];by_cases hbd:b=b'
      · simp [hbd,Sem.run_pure]
      · simp [hbd,Sem.run_pure]
    · simp [hac,Sem.run_pure]
  · simp [hs1,Sem.run_pure]
theorem r_ne3 (hm:P.eqGuardType P.depth t=false) (ht:P.underlying t=some (.struct (P.fieldsOf t))) (hs:P.stoodInHeld t=false) (hf:(P.fieldsOf t).toList.map (fun f=>(f.name == "_",f.type,f.offset))= [(false,ts,0),(false,ti,1),(false,ti,2)]) (hst:P.underlying ts=some .string) (hi:P.underlying ti=some (.int .i64))
    (hx:ev n f x= .agg #[.string s,.int .i64 a,.int .i64 b]) (hy:ev n f y= .agg #[.string s',.int .i64 a',.int .i64 b']):RV P n f w ⟨dst,.binOp .neq t x y t',ty,pos,af,gd⟩ (.bool (decide (¬(s=s'∧a=a'∧b=b')))) w:=by
  have h1:=run_eq3 (P:=P) (w:=w) (s:=s) (s':=s') (a:=a) (b:=b) (a':=a') (b':=b') ht hs hf hst hi;have h2:=run_eqGuard_agg (P:=P) w .neq t x y #[.string s,.int .i64 a,.int .i64 b] #[.string s',.int .i64 a',.int .i64 b'] hm;simp only [RV,execOp,hx,hy,Sem.run_bind,h2,Result.andThen_ok,run_neq_struct,h1,Sem.run_pure,decide_not]
end eqs
end Go.Proofs.YtbcpgfnfiekbiaaGreatDoor
namespace Go.Proofs.YtbcpgfnfiekbiaaGreatDoor
open Go.RowKit
theorem ieq_any (A B:Option Addr) (c d:Nat) (xs ys:List Int) (w:World) (hX:IntsIn w A xs) (hY:IntsIn w B ys):Calls Tryz.prog 103 #[.slice A xs.length c,.slice B ys.length d] w fun e w'=>e= .returned (.bool (decide (xs=ys)))∧Bel w w':=by
 have hmx:=hX.1;unfold vQ at hmx;refine enT Tryz.func103 Tryz.ntmps103 rfl rfl fun hB=>?_;refine Z6 ?_;refine zy rfl (fun c10=>?_) (fun c10=>?_)
 ·have hne:¬xs=ys:=fun e=>c10 (by rw [e])
  refine zn8 ?_;exact⟨yZ (decide_eq_false hne),hB⟩
 have hle:xs.length=ys.length:=by omega
 refine yx ?_;refine zK (rg [4,5] 13 13) (fun m g w'=>∃ k:Nat,k≤xs.length∧m=xs.length - k∧g 13= .int .i64 k∧Bel w w'∧(∀ j (hj:j < xs.length) (hj2:j < ys.length),j < k→xs[j]=ys[j])) (xs.length) ?_ (fun m g4 w1 hI=>?_)
 ·exact⟨0,Nat.zero_le _,rfl,rfl,hB,fun j _ _ h=>by omega⟩
 obtain⟨k,hk,hm,h13,hB,hall⟩:=hI;refine zQ 13 _ h13 nu (zn6 ?_);refine zy rfl (fun c14=>?_) (fun c14=>?_)
 ·have hlt:k < xs.length:=by omega
  have hlt2:k < ys.length:=by omega
  obtain⟨xb,xo,rfl,hxb,hxc⟩:=hX.at_ hlt;obtain⟨yb,yo,rfl,hyb,hyc⟩:=hY.at_ hlt2;refine yx ?_;refine gQ kR kR (fun w2 s1=>?_);refine zn3 ?_;refine ws (qZ (v:= .int _ _) U3 rfl rfl (hB.u.cell hxb hxc)) (zn3 ?_);refine ws (qZ (v:= .int _ _) U3 rfl rfl (hB.u.cell hyb hyc)) (zn1 ?_);refine u4 (e_S ?_);refine zy rfl (fun c24=>?_) (fun c24=>?_)
  ·have hne:¬xs=ys:=fun e=>c24 (by simp only [e])
   refine y8 ?_;exact⟨yZ (decide_eq_false hne),hB.u⟩
  refine zn7 ?_;refine qV (xs.length - (k + 1)) om agA ?_;replace hB:=hB.tr0 s1
  exact⟨k + 1,by omega,rfl,rfl,hB,fun j hj hj2 h=>by
    by_cases e:j=k
    · subst e;exact Decidable.not_not.1 c24
    · exact hall j hj hj2 om⟩
 have heq:xs=ys:=List.ext_getElem hle (fun j h1 h2=>hall j h1 h2 om);refine y8 ?_;exact⟨yZ (decide_eq_true heq),hB⟩
end Go.Proofs.YtbcpgfnfiekbiaaGreatDoor
namespace Go.Proofs.YtbcpgfnfiekbiaaGreatDoor
open Go.RowKit
theorem fd68:(Tryz.prog.fieldsOf 68).toList.map (fun f=>(f.name == "_",f.type,f.offset))= [(false,9,0),(false,3,1),(false,3,2)]:=by kernel_rfl
theorem fn103:zZ Tryz.prog 103=true:=by kernel_rfl
theorem fn70:zZ Tryz.prog 70=true:=by kernel_rfl
theorem fn71:zZ Tryz.prog 71=true:=by kernel_rfl
theorem ft68:Tryz.prog.underlying 68=some (.struct (Tryz.prog.fieldsOf 68)):=by kernel_rfl
theorem feq_any (A B:Option Addr) (c d:Nat) (xs ys:List Ft) (w:World) (hX:FeatsIn w A xs) (hY:FeatsIn w B ys):Calls Tryz.prog 71 #[.slice A xs.length c,.slice B ys.length d] w fun e w'=>(∃ b,e= .returned (.bool b)∧(b=true ↔ xs=ys))∧Bel w w':=by
 have hmx:=hX.1;unfold vQ at hmx;refine enT Tryz.func71 Tryz.ntmps71 rfl rfl fun hB=>?_;refine Z6 ?_;refine zy rfl (fun c10=>?_) (fun c10=>?_)
 ·refine zn8 ?_;exact⟨⟨false,rfl,⟨fun h=>Bool.noConfusion h,fun h=>absurd (by rw [h]) c10⟩⟩,hB⟩
 refine yx ?_;refine zK (rg [4,5] 13 13) (fun m g w'=>∃ k:Nat,k≤xs.length∧m=xs.length - k∧g 13= .int .i64 k∧Bel w w'∧xs.take k=ys.take k) (xs.length) ?_ (fun m g4 w1 hI=>?_)
 ·exact⟨0,Nat.zero_le _,rfl,rfl,hB,rfl⟩
 obtain⟨k,hk,hm,h13,hB,hE⟩:=hI;refine zQ 13 _ h13 nu (zn6 ?_);refine zy rfl (fun c14=>?_) (fun c14=>?_)
 ·have hlt:k < xs.length:=by omega
  have hly:k < ys.length:=by omega
  obtain⟨pb,po,rfl,hpb,hpc⟩:=hX.at_ (Below.refl _ _:Bel w w) hlt;obtain⟨qb,qo,rfl,hqb,hqc⟩:=hY.at_ (Below.refl _ _:Bel w w) hly;refine yx ?_;refine gQ kR kR (fun w2 s1=>?_);refine zn8 ?_;refine ws (r_ne3 Tryz.eqGuardType68 ft68 Tryz.stoodInHeld68 fd68 U9 U3 rfl rfl) (u4 (e_S ?_));refine zy rfl (fun c24=>?_) (fun c24=>?_)
  ·refine y8 ?_;replace hB:=hB.tr0 s1;exact⟨⟨false,rfl,⟨fun h=>Bool.noConfusion h,fun h=>absurd (by subst h;exact⟨rfl,rfl,rfl⟩) c24⟩⟩,hB⟩
  have hx:xs[k]'hlt=ys[k]'hly:=ft_ext (Decidable.not_not.1 c24);refine zn7 ?_;refine qV (xs.length - (k + 1)) om agA ?_;replace hB:=hB.tr0 s1;exact⟨k + 1,by omega,rfl,rfl,hB,by rw [List.take_succ_eq_append_getElem hlt,List.take_succ_eq_append_getElem hly,hE,hx]⟩
 have hek:k=xs.length:=by omega
 have hfin:xs=ys:=by
   rw [hek] at hE;have e2:ys.take xs.length=ys:=List.take_of_length_le om;rw [List.take_length,e2] at hE;exact hE
 refine y8 ?_;exact⟨⟨true,rfl,⟨fun _=>hfin,fun _=>rfl⟩⟩,hB⟩
set_option maxHeartbeats 1000000 in
theorem teq_any (A B:Option Addr) (c d:Nat) (xs ys:List Ty) (w:World) (hX:TypesIn w A xs) (hY:TypesIn w B ys):Calls Tryz.prog 70 #[.slice A xs.length c,.slice B ys.length d] w fun e w'=>(∃ b,e= .returned (.bool b)∧(b=true ↔ xs=ys))∧Bel w w':=by
 have hmx:=hX.1;unfold vQ at hmx;refine enT Tryz.func70 Tryz.ntmps70 rfl rfl fun hB=>?_;refine Z6 ?_;refine zy rfl (fun c10=>?_) (fun c10=>?_)
 ·refine zn8 ?_;exact⟨⟨false,rfl,⟨fun h=>Bool.noConfusion h,fun h=>absurd (by rw [h]) c10⟩⟩,hB⟩
 refine yx ?_;refine zK (rg [4,5] 13 29) (fun m g w'=>∃ k:Nat,k≤xs.length∧m=xs.length - k∧g 13= .int .i64 k∧Bel w w'∧xs.take k=ys.take k) (xs.length) ?_ (fun m g4 w1 hI=>?_)
 ·exact⟨0,Nat.zero_le _,rfl,rfl,hB,rfl⟩
 obtain⟨k,hk,hm,h13,hB,hE⟩:=hI;refine zQ 13 _ h13 nu (zn6 ?_);refine zy rfl (fun c14=>?_) (fun c14=>?_)
 ·have hlt:k < xs.length:=by omega
  have hly:k < ys.length:=by omega
  obtain⟨ab,ao,LA,la,rfl,hab,har,haln⟩:=hX.at_ (Below.refl _ _:Bel w w) hlt;obtain⟨bb,bo,LB,lb,rfl,hbb,hbr,hbln⟩:=hY.at_ (Below.refl _ _:Bel w w) hly;refine yx ?_;refine y7 (rg [] 16 25) (fun g w'=>g 40= .bool (decide ((xs[k]'hlt).name≠(ys[k]'hly).name) || !decide ((xs[k]'hlt).par=(ys[k]'hly).par))∧Same [] w1 w') ?_ (fun g6 w2 hI=>?_)
  ·refine kZ [] [0,1,2,3,4,5,6,7,8,9,10,11,12,13,14,15,16,17,18,19,20,21,22,23,24] rfl (fun w3 s1=>?_);have hs0:=s1;refine zn4 ?_;refine hl1 (v:= .string _) rfl U9 rfl rfl (hB.u.cell hab (har 0 _ rfl)) (zn4 ?_);refine hl1 (v:= .string _) rfl U9 rfl rfl (hB.u.cell hbb (hbr 0 _ rfl)) (zn2 ?_);refine FQ 27 rfl (fun g27=>?_) (fun g27=>?_)
   ·refine gV ?_;refine e_R ⟨agA,?_,hs0⟩;show Value.bool _=Value.bool _;exact congrArg Value.bool (by simp [g27])
   refine zn4 ?_;refine hg1 (v:= .slice _ _ _) 27 rfl rfl rfl U66 rfl rfl (hB.u.cell hab (har 1 _ rfl)) (zn4 ?_);refine hg1 (v:= .slice _ _ _) 27 rfl rfl rfl U66 rfl rfl (hB.u.cell hbb (hbr 1 _ rfl)) (h1 rfl (zn1 ?_));refine zJ fn103 (ieq_any _ _ _ _ _ _ w3 (haln.mono hB.u) (hbln.mono hB.u)) rfl (fun e' w4 hr=>?_);obtain⟨rfl,s2⟩:=hr;replace s2:=sB s2;have hsH22:=s2;refine⟨_,rfl,?_⟩;refine zw (J5 hsH22 (zn3 ?_));replace hs0:=hs0.trans s2;refine e_R ⟨agA,?_,hs0⟩;show Value.bool _=Value.bool _;exact congrArg Value.bool (by simp [g27])
  obtain⟨h40,s3⟩:=hI;refine ky 40 _ h40 nu (e_S ?_);refine vw rfl (fun c40=>?_) (fun c40=>?_)
  ·refine y8 ?_;replace hB:=hB.tr0 s3
   exact⟨⟨false,rfl,⟨fun h=>Bool.noConfusion h,fun h=>by
     subst h
     simp at c40⟩⟩,hB⟩
  have hx:xs[k]'hlt=ys[k]'hly:=by
    simp only [Bool.or_eq_false_iff,decide_eq_false_iff_not,Bool.not_eq_false',decide_eq_true_eq] at c40;exact ty_ext (Decidable.not_not.1 c40.1) c40.2
  refine zn7 ?_;refine qV (xs.length - (k + 1)) om agA ?_;replace hB:=hB.tr0 s3;exact⟨k + 1,by omega,rfl,rfl,hB,by rw [List.take_succ_eq_append_getElem hlt,List.take_succ_eq_append_getElem hly,hE,hx]⟩
 have hek:k=xs.length:=by omega
 have hfin:xs=ys:=by
   rw [hek] at hE;have e2:ys.take xs.length=ys:=List.take_of_length_le om;rw [List.take_length,e2] at hE;exact hE
 refine y8 ?_;exact⟨⟨true,rfl,⟨fun _=>hfin,fun _=>rfl⟩⟩,hB⟩
set_option maxHeartbeats 1000000 in
theorem hieq_any (A B A' B':Option Addr) (c d c' d':Nat) (l l':List Ty) (fs fs':List Ft) (w:World) (hT:TypesIn w A l) (hF:FeatsIn w B fs) (hT':TypesIn w A' l') (hF':FeatsIn w B' fs'):Calls Tryz.prog 37 #[.agg #[.slice A l.length c,.slice B fs.length d],.agg #[.slice A' l'.length c',.slice B' fs'.length d']] w fun e w'=>(∃ b,e= .returned (.bool b)∧(b=true ↔ l=l'∧fs=fs'))∧Bel w w':=by
 refine enT Tryz.func37 Tryz.ntmps37 rfl rfl fun hB=>?_;refine zn2 ?_;refine qK (v:= .agg #[_,_]) (cs:=#[_,_]) rfl rfl (fun b2 w1 hb2 s1 hr=>?_);refine qK (v:= .agg #[_,_]) (cs:=#[_,_]) rfl rfl (fun b3 w2 hb3 s2 hr=>?_);refine zn9 ?_;refine zJ fn70 (teq_any A A' c c' l l' _ (hT.mono hB.u) (hT'.mono hB.u)) rfl (fun e' w3 hr=>?_);obtain⟨⟨b1,rfl,hb1⟩,s3⟩:=hr;replace s3:=sB s3;refine⟨_,rfl,?_⟩;refine wl (xZ (v:= .bool _) rfl) ?_;refine Yk 10 rfl (fun g10=>?_) (fun g10=>?_)
 ·refine zn9 ?_;refine zJ fn71 (feq_any B B' d d' fs fs' _ (hF.mono hB.u) (hF'.mono hB.u)) rfl (fun e' w4 hr=>?_);obtain⟨⟨bF,rfl,hbF⟩,s4⟩:=hr;replace s4:=sB s4;refine⟨_,rfl,?_⟩;refine zn6 ?_;replace hB:=hB.tr0 (s1.trans (s2.trans (s3.trans s4)))
  first
    | exact⟨⟨_,rfl,⟨fun h=>⟨hb1.1 g10,hbF.1 h⟩,fun h=>hbF.2 h.2⟩⟩,hB⟩
    | exact⟨⟨false,rfl,⟨fun h=>Bool.noConfusion h,fun h=>by rw [hb1.2 h.1] at g10;exact Bool.noConfusion g10⟩⟩,hB⟩
 refine yx ?_;replace hB:=hB.tr0 (s1.trans (s2.trans s3))
 first
   | exact⟨⟨_,rfl,⟨fun h=>⟨hb1.1 g10,hbF.1 h⟩,fun h=>hbF.2 h.2⟩⟩,hB⟩
   | exact⟨⟨false,rfl,⟨fun h=>Bool.noConfusion h,fun h=>by rw [hb1.2 h.1] at g10;exact Bool.noConfusion g10⟩⟩,hB⟩
end Go.Proofs.YtbcpgfnfiekbiaaGreatDoor
namespace Go.Proofs.YtbcpgfnfiekbiaaGreatDoor
open Go.RowKit
theorem fn16:zZ Tryz.prog 16=true:=by kernel_rfl
theorem fn37:zZ Tryz.prog 37=true:=by kernel_rfl
theorem fn38:zZ Tryz.prog 38=true:=by kernel_rfl
set_option maxRecDepth 100000 in
set_option maxHeartbeats 2000000 in
theorem grmq_any (T1 F1 R1 X1 G1 T2 F2 R2 X2 G2:Option Addr) (a1 b1 c1 d1 e1 a2 b2 c2 d2 e2:Nat) (l:List Ty) (fs:List Ft) (rs:List Rl) (xs:List Lx) (st:List Nd) (w:World) (hr:rs.length≤1000000) (hx:xs.length≤1000000) (hKr:∀ i (h:i < rs.length),TmK (rs[i]).mean) (hKx:∀ i (h:i < xs.length),TmK (xs[i]).mean) (hT1:TypesIn w T1 l) (hF1:FeatsIn w F1 fs) (hR1:RulesIn w R1 rs) (hX1:LexesIn w X1 xs) (hG1:NodesIn w G1 st) (hT2:TypesIn w T2 l) (hF2:FeatsIn w F2 fs) (hR2:RulesIn w R2 rs) (hX2:LexesIn w X2 xs) (hG2:NodesIn w G2 st):Calls Tryz.prog 9 #[.agg #[.slice T1 l.length a1,.slice F1 fs.length b1,.slice R1 rs.length c1,.slice X1 xs.length d1,.slice G1 st.length e1],.agg #[.slice T2 l.length a2,.slice F2 fs.length b2,.slice R2 rs.length c2,.slice X2 xs.length d2,.slice G2 st.length e2]] w fun e w'=>e= .returned (.bool true)∧Bel w w':=by
 refine enT Tryz.func9 Tryz.ntmps9 rfl rfl fun hB=>?_;refine zn2 ?_;refine qK (v:= .agg #[_,_,_,_,_]) (cs:=#[_,_,_,_,_]) rfl rfl (fun b2 w1 hb2 s1 hr=>?_);clear hr;refine qK (v:= .agg #[_,_,_,_,_]) (cs:=#[_,_,_,_,_]) rfl rfl (fun b3 w2 hb3 s2 hr=>?_);clear hr;refine zn6 ?_;refine wl (zV U25 rfl rfl (hb2.u.sub (n:=2) (xs:=[_,_]) rfl) IY) (zn1 ?_);refine wl (zV U25 rfl rfl (hb3.sub (n:=2) (xs:=[_,_]) rfl) IY) ?_;refine zJ fn37 (hieq_any _ _ _ _ _ _ _ _ l l fs fs _ (hT1.mono hB.u) (hF1.mono hB.u) (hT2.mono hB.u) (hF2.mono hB.u)) rfl (fun e' w3 hr=>?_);obtain⟨⟨bE,rfl,hbE⟩,s3⟩:=hr;replace s3:=sB s3;obtain rfl:=hbE.2 ⟨rfl,rfl⟩;refine⟨_,rfl,?_⟩;refine wl (xZ (v:= .bool true) rfl) (zn9 ?_);refine zJ fn16 (Hq _ _ _ _ rs _ hr hKr (hR1.mono hB.u) (hR2.mono hB.u)) rfl (fun e' w4 hr=>?_);obtain⟨rfl,s4⟩:=hr;replace s4:=sB s4;refine⟨_,rfl,?_⟩;refine zn1 ?_;refine wl (xZ (v:= .bool true) rfl) (zn9 ?_);refine zJ fn38 (lexsq_any _ _ _ _ xs _ hx hKx (hX1.mono hB.u) (hX2.mono hB.u)) rfl (fun e' w5 hr=>?_);obtain⟨rfl,s5⟩:=hr;replace s5:=sB s5;refine⟨_,rfl,?_⟩;refine zn1 ?_;refine wl (xZ (v:= .bool true) rfl) (zn3 ?_);refine wl (zV U30 rfl rfl (hb2.u.sub (n:=1) (xs:=[_]) rfl) uj) (zn3 ?_);refine wl (zV U30 rfl rfl (hb3.u.sub (n:=1) (xs:=[_]) rfl) uj) (zn1 ?_);refine zJ fn39 (JZ _ _ _ _ _ _ st st true _ (hG1.mono hB.u) (hG2.mono hB.u) rfl rfl (decide_eq_true rfl)) rfl (fun e' w6 hr=>?_);obtain⟨rfl,s6⟩:=hr;replace s6:=sB s6;refine⟨_,rfl,?_⟩;refine zn6 ?_;exact⟨rfl,hB.u⟩
end Go.Proofs.YtbcpgfnfiekbiaaGreatDoor
