/- Unification as the least bound: the states of a pool of nodes, and what its graph maps to. No program in sight. Suffixes of rows of links, and slices of such: what the walks of a pool of nodes read. No program in sight. What these functions of the program compute, at every world: (*glosswright/unify.pool).find, slices.Grow[[]glosswright/api.Link,glosswright/api.Link], slices.Concat[[]glosswright/api.Link,glosswright/api.Link]. -/
import Derived.Test.YtdgnllfbooklcaaDoorOrd
import Derived.Test.YtdgnllfbooklcaaDoorGro
import Derived.Test.YtdgnllfbooklcaaDoorU
import Derived.Test.YtdgnllfbooklcaaDoorSim
namespace Go.Proofs.YtdgnllfbooklcaaDoor
open Go.RowKit
structure UF (n:Nat) (P rep ρ:Nat→Nat):Prop where
  ex:∀ i,i < n→P i≠i→ρ (P i) < ρ i
  lt:∀ i,i < n→P i < n
  rl:∀ i,i < n→rep i < n
  rr:∀ i,i < n→P (rep i)=rep i
  rp:∀ i,i < n→rep (P i)=rep i
  fx:∀ i,i < n→P i=i→rep i=i
def Yj (P:Nat→Nat) (t v x:Nat):Nat:=if x=t then v else P x
theorem uw (P:Nat→Nat) (t v:Nat):Yj P t v t=v:=by simp [Yj]
theorem gv {P:Nat→Nat} {t v x:Nat} (h:x≠t):Yj P t v x=P x:=by simp [Yj,h]
namespace UF
variable {n:Nat} {P rep ρ:Nat→Nat}
theorem two (h:UF n P rep ρ) {i:Nat} (hi:i < n):rep (rep i)=rep i:=h.fx _ (h.rl i hi) (h.rr i hi)
theorem half (h:UF n P rep ρ) {i:Nat} (hi:i < n) (hne:P i≠i):UF n (Yj P i (P (P i))) rep ρ:=by
  have h1:=h.ex i hi hne;have hpi:=h.lt i hi;have h2:ρ (P (P i)) < ρ i:=by
    by_cases e:P (P i)=P i
    · rw [e];exact h1
    · exact Nat.lt_trans (h.ex _ hpi e) h1
  refine⟨fun j hj hjn=>?_,fun j hj=>?_,h.rl,fun j hj=>?_,fun j hj=>?_,fun j hj hjn=>?_⟩
  · by_cases e:j=i
    · subst e;rw [uw];exact h2
    · rw [gv e] at hjn ⊢;exact h.ex j hj hjn
  · by_cases e:j=i
    · subst e;rw [uw];exact h.lt _ hpi
    · rw [gv e];exact h.lt j hj
  · have e:rep j≠i:=fun e=>hne (by rw [← e];exact h.rr j hj)
    rw [gv e];exact h.rr j hj
  · by_cases e:j=i
    · subst e;rw [uw,h.rp _ hpi,h.rp j hj]
    · rw [gv e];exact h.rp j hj
  · by_cases e:j=i
    · subst e;rw [uw] at hjn;rw [hjn] at h2;exact absurd h2 (Nat.lt_irrefl _)
    · rw [gv e] at hjn;exact h.fx j hj hjn
def un (rep:Nat→Nat) (a b x:Nat):Nat:=if rep x=b then a else rep x
def rk (rep ρ:Nat→Nat) (a b x:Nat):Nat:=if rep x=b then ρ x + ρ a + 1 else ρ x
theorem join (h:UF n P rep ρ) {a b:Nat} (ha:a < n) (hb:b < n) (ra:rep a=a) (rb:rep b=b) (hne:a≠b):UF n (Yj P b a) (un rep a b) (rk rep ρ a b):=by
  have hab:¬rep a=b:=fun e=>hne (ra.symm.trans e)
  have pb:P b=b:=by have:=h.rr b hb;rwa [rb] at this
  have pa:P a=a:=by have:=h.rr a ha;rwa [ra] at this
  refine⟨fun j hj hjn=>?_,fun j hj=>?_,fun j hj=>?_,fun j hj=>?_,fun j hj=>?_,fun j hj hjn=>?_⟩
  · by_cases e:j=b
    · subst e
      rw [uw];simp only [rk,if_neg hab,if_pos rb];omega
    · rw [gv e] at hjn ⊢
      have h1:=h.ex j hj hjn;simp only [rk,h.rp j hj];by_cases e2:rep j=b
      · rw [if_pos e2,if_pos e2];omega
      · rw [if_neg e2,if_neg e2];exact h1
  · by_cases e:j=b
    · subst e;rw [uw];exact ha
    · rw [gv e];exact h.lt j hj
  · unfold un;split
    · exact ha
    · exact h.rl j hj
  · unfold un
    by_cases e:rep j=b
    · rw [if_pos e,gv hne];exact pa
    · rw [if_neg e,gv e];exact h.rr j hj
  · unfold un
    by_cases e:j=b
    · subst e;rw [uw,if_neg hab,if_pos rb];exact ra
    · rw [gv e,h.rp j hj]
  · unfold un
    by_cases e:j=b
    · subst e;rw [uw] at hjn;exact absurd hjn hne
    · rw [gv e] at hjn
      have:=h.fx j hj hjn;rw [this,if_neg e]
theorem more (h:UF n P rep ρ) {m:Nat}:UF (n + m) (fun x=>if x < n then P x else x) (fun x=>if x < n then rep x else x) ρ:=by
  refine⟨fun j hj hjn=>?_,fun j hj=>?_,fun j hj=>?_,fun j hj=>?_,fun j hj=>?_,fun j hj hjn=>?_⟩ <;> (try dsimp only at hjn) <;> (try dsimp only) <;> by_cases e:j < n
  · rw [if_pos e] at hjn ⊢;exact h.ex j e hjn
  · rw [if_neg e] at hjn;exact absurd rfl hjn
  · rw [if_pos e];have:=h.lt j e;omega
  · rw [if_neg e];exact hj
  · rw [if_pos e];have:=h.rl j e;omega
  · rw [if_neg e];exact hj
  · rw [if_pos e,if_pos (h.rl j e)];exact h.rr j e
  · rw [if_neg e,if_neg e]
  · rw [if_pos e,if_pos (h.lt j e),if_pos e];exact h.rp j e
  · rw [if_neg e,if_neg e]
  · rw [if_pos e] at hjn ⊢;exact h.fx j e hjn
  · rw [if_neg e]
theorem nil (P rep ρ:Nat→Nat):UF 0 P rep ρ:=⟨fun _ h=>absurd h (Nat.not_lt_zero _),fun _ h=>absurd h (Nat.not_lt_zero _),fun _ h=>absurd h (Nat.not_lt_zero _),fun _ h=>absurd h (Nat.not_lt_zero _),fun _ h=>absurd h (Nat.not_lt_zero _),fun _ h=>absurd h (Nat.not_lt_zero _)⟩
end UF
def roots (n:Nat) (rep:Nat→Nat):Nat:=(List.range n).countP (fun i=>decide (rep i=i))
theorem roots_le (n:Nat) (rep:Nat→Nat):roots n rep≤n:=by
  have:=List.countP_le_length (p:=fun i=>decide (rep i=i)) (l:=List.range n)
  simpa [roots] using this
theorem Fv {n:Nat} {rep:Nat→Nat} {a b:Nat} (hb:b < n) (rb:rep b=b) (ra:rep a=a) (hne:a≠b):roots n (UF.un rep a b) < roots n rep:=
  jz (fun x hx=>by
    have h1:=of_decide_eq_true hx
    unfold UF.un at h1
    by_cases e:rep x=b
    · rw [if_pos e] at h1;rw [← h1,ra] at e;exact absurd e hne
    · rw [if_neg e] at h1;exact decide_eq_true h1) (List.range n) b (List.mem_range.2 hb) (by simp [rb]) (by simp [UF.un,rb,hne])
def xQ:List (Int×Int)→List (Int×Int)→List (Int×Int)
  | [],ys=>ys
  | x :: xs,[]=>x :: xs
  | x :: xs,y :: ys=>if x.1 < y.1 then x :: xQ xs (y :: ys) else if y.1 < x.1 then y :: xQ (x :: xs) ys else x :: xQ xs ys
termination_by xs ys=>xs.length + ys.length
def Zz:List (Int×Int)→List (Int×Int)→List (Int×Int)
  | [],_=>[]
  | _ :: _,[]=>[]
  | x :: xs,y :: ys=>if x.1 < y.1 then Zz xs (y :: ys) else if y.1 < x.1 then Zz (x :: xs) ys else (x.2,y.2) :: Zz xs ys
termination_by xs ys=>xs.length + ys.length
theorem Z5 {z:Int×Int}:∀ {xs ys:List (Int×Int)},z ∈ xQ xs ys→z ∈ xs∨z ∈ ys
  | [],ys,h=> .inr (by simpa [xQ] using h)
  | x :: xs,[],h=> .inl (by simpa [xQ] using h)
  | x :: xs,y :: ys,h=>by
    unfold xQ at h
    by_cases h1:x.1 < y.1
    · rw [if_pos h1] at h
      rcases List.mem_cons.1 h with e | h
      · exact .inl (by simp [e])
      · rcases Z5 h with h | h
        · exact .inl (List.mem_cons_of_mem _ h)
        · exact .inr h
    · rw [if_neg h1] at h
      by_cases h2:y.1 < x.1
      · rw [if_pos h2] at h
        rcases List.mem_cons.1 h with e | h
        · exact .inr (by simp [e])
        · rcases Z5 h with h | h
          · exact .inl h
          · exact .inr (List.mem_cons_of_mem _ h)
      · rw [if_neg h2] at h
        rcases List.mem_cons.1 h with e | h
        · exact .inl (by simp [e])
        · rcases Z5 h with h | h
          · exact .inl (List.mem_cons_of_mem _ h)
          · exact .inr (List.mem_cons_of_mem _ h)
termination_by xs ys=>xs.length + ys.length
theorem Q6 {z:Int×Int}:∀ {xs ys:List (Int×Int)},z ∈ xs→z ∈ xQ xs ys
  | [],ys,h=>by cases h
  | x :: xs,[],h=>by simpa [xQ] using h
  | x :: xs,y :: ys,h=>by
    unfold xQ
    by_cases h1:x.1 < y.1
    · rw [if_pos h1]
      rcases List.mem_cons.1 h with e | h
      · simp [e]
      · exact List.mem_cons_of_mem _ (Q6 h)
    · rw [if_neg h1]
      by_cases h2:y.1 < x.1
      · rw [if_pos h2];exact List.mem_cons_of_mem _ (Q6 h)
      · rw [if_neg h2]
        rcases List.mem_cons.1 h with e | h
        · simp [e]
        · exact List.mem_cons_of_mem _ (Q6 h)
termination_by xs ys=>xs.length + ys.length
theorem Qv {z:Int×Int}:∀ {xs ys:List (Int×Int)},z ∈ ys→z ∈ xQ xs ys∨∃ t,(z.1,t) ∈ xs∧(t,z.2) ∈ Zz xs ys
  | [],ys,h=> .inl (by simpa [xQ] using h)
  | x :: xs,[],h=>by cases h
  | x :: xs,y :: ys,h=>by
    unfold xQ Zz
    by_cases h1:x.1 < y.1
    · rw [if_pos h1,if_pos h1]
      rcases Qv (xs:=xs) h with h | ⟨t,h3,h4⟩
      · exact .inl (List.mem_cons_of_mem _ h)
      · exact .inr ⟨t,List.mem_cons_of_mem _ h3,h4⟩
    · rw [if_neg h1,if_neg h1]
      by_cases h2:y.1 < x.1
      · rw [if_pos h2,if_pos h2]
        rcases List.mem_cons.1 h with e | h
        · exact .inl (by simp [e])
        · rcases Qv (xs:=x :: xs) h with h | ⟨t,h3,h4⟩
          · exact .inl (List.mem_cons_of_mem _ h)
          · exact .inr ⟨t,h3,h4⟩
      · rw [if_neg h2,if_neg h2]
        rcases List.mem_cons.1 h with e | h
        · refine .inr ⟨x.2,?_,?_⟩
          · have:z.1=x.1:=by rw [e];omega
            rw [this];exact List.mem_cons_self ..
          · rw [e];exact List.mem_cons_self ..
        · rcases Qv (xs:=xs) h with h | ⟨t,h3,h4⟩
          · exact .inl (List.mem_cons_of_mem _ h)
          · exact .inr ⟨t,List.mem_cons_of_mem _ h3,List.mem_cons_of_mem _ h4⟩
termination_by xs ys=>xs.length + ys.length
theorem Vx {p:Int×Int}:∀ {xs ys:List (Int×Int)},p ∈ Zz xs ys→∃ f,(f,p.1) ∈ xs∧(f,p.2) ∈ ys
  | [],ys,h=>by simp [Zz] at h
  | x :: xs,[],h=>by simp [Zz] at h
  | x :: xs,y :: ys,h=>by
    unfold Zz at h
    by_cases h1:x.1 < y.1
    · rw [if_pos h1] at h
      obtain⟨f,h3,h4⟩:=Vx h
      exact⟨f,List.mem_cons_of_mem _ h3,h4⟩
    · rw [if_neg h1] at h
      by_cases h2:y.1 < x.1
      · rw [if_pos h2] at h
        obtain⟨f,h3,h4⟩:=Vx h
        exact⟨f,h3,List.mem_cons_of_mem _ h4⟩
      · rw [if_neg h2] at h
        rcases List.mem_cons.1 h with e | h
        · refine⟨x.1,?_,?_⟩
          · rw [e];exact List.mem_cons_self ..
          · rw [e,show x.1=y.1 by omega];exact List.mem_cons_self ..
        · obtain⟨f,h3,h4⟩:=Vx h
          exact⟨f,List.mem_cons_of_mem _ h3,List.mem_cons_of_mem _ h4⟩
termination_by xs ys=>xs.length + ys.length
theorem VY:∀ {xs ys:List (Int×Int)},Srt xs→Srt ys→Srt (xQ xs ys)
  | [],ys,_,h=>by simpa [xQ] using h
  | x :: xs,[],h,_=>by simpa [xQ] using h
  | x :: xs,y :: ys,hx,hy=>by
    obtain⟨a1,a2⟩:=List.pairwise_cons.1 hx
    obtain⟨b1,b2⟩:=List.pairwise_cons.1 hy
    unfold xQ
    by_cases h1:x.1 < y.1
    · rw [if_pos h1]
      refine List.pairwise_cons.2 ⟨fun z hz=>?_,VY a2 hy⟩
      rcases Z5 hz with h | h
      · exact a1 z h
      · rcases List.mem_cons.1 h with e | h
        · rw [e];exact h1
        · have:=b1 z h;omega
    · rw [if_neg h1]
      by_cases h2:y.1 < x.1
      · rw [if_pos h2]
        refine List.pairwise_cons.2 ⟨fun z hz=>?_,VY hx b2⟩
        rcases Z5 hz with h | h
        · rcases List.mem_cons.1 h with e | h
          · rw [e];exact h2
          · have:=a1 z h;omega
        · exact b1 z h
      · rw [if_neg h2]
        refine List.pairwise_cons.2 ⟨fun z hz=>?_,VY a2 b2⟩
        rcases Z5 hz with h | h
        · exact a1 z h
        · have:=b1 z h;omega
termination_by xs ys=>xs.length + ys.length
structure Adm (l:List Ty) (U c:List Nd) (θ:Nat→Nat):Prop where
  lt:∀ i,i < U.length→θ i < c.length
  ty:∀ i,i < U.length→sub l (nd c (θ i)).ty.toNat (nd U i).ty.toNat=true
  ln:∀ i,i < U.length→∀ x ∈ (nd U i).ln,tgt (nd c (θ i)).ln x.1=((θ x.2.toNat:Nat):Int)
def Ov (n:Nat) (rep:Nat→Nat) (W:List (Int×Int)) (κ:Nat→Nat):Prop:=(∀ i,i < n→κ i=κ (rep i))∧∀ w ∈ W,κ w.1.toNat=κ w.2.toNat
structure US (l:List Ty) (U:List Nd) (J:List (Nat×Nat)) (P rep ρ:Nat→Nat) (T:Nat→Int) (L:Nat→List (Int×Int)) (W:List (Int×Int)):Prop where
  uf:UF U.length P rep ρ
  ty:∀ i,i < U.length→0≤T i∧T i < l.length
  srt:∀ i,i < U.length→Srt (L i)
  wr:∀ w ∈ W,(0≤w.1∧w.1.toNat < U.length)∧0≤w.2∧w.2.toNat < U.length
  only:∀ c θ,(∀ i,i < c.length→0≤(nd c i).ty∧(nd c i).ty < l.length)→Adm l U c θ→(∀ p ∈ J,θ p.1=θ p.2)→Ov U.length rep W θ∧∀ i,i < U.length→rep i=i→sub l (nd c (θ i)).ty.toNat (T i).toNat=true
  tcov:∀ i,i < U.length→sub l (T (rep i)).toNat (nd U i).ty.toNat=true
  lcov:∀ i,i < U.length→∀ x ∈ (nd U i).ln,∃ t,(x.1,t) ∈ L (rep i)∧∀ κ,Ov U.length rep W κ→κ x.2.toNat=κ t.toNat
  jcov:∀ p ∈ J,∀ κ,Ov U.length rep W κ→κ p.1=κ p.2
  val:∀ i,i < U.length→rep i=i→∀ x ∈ L i,∃ u,u < U.length∧rep u=i∧x ∈ (nd U u).ln
  ur:∀ i,i < U.length→∀ x ∈ (nd U i).ln,0≤x.2∧x.2.toNat < U.length
section us
variable {l:List Ty} {U:List Nd} {J:List (Nat×Nat)} {P rep ρ:Nat→Nat} {T:Nat→Int} {L:Nat→List (Int×Int)} {W:List (Int×Int)}
theorem US.half (h:US l U J P rep ρ T L W) {i:Nat} (hi:i < U.length) (hne:P i≠i):US l U J (Yj P i (P (P i))) rep ρ T L W:=
  ⟨h.uf.half hi hne,h.ty,h.srt,h.wr,h.only,h.tcov,h.lcov,h.jcov,h.val,h.ur⟩
theorem US.skip {p:Int×Int} (h:US l U J P rep ρ T L (W ++ [p])) (he:rep p.1.toNat=rep p.2.toNat):US l U J P rep ρ T L W:=by
  have hp:=h.wr p (by simp)
  have hr:∀ κ,Ov U.length rep W κ→Ov U.length rep (W ++ [p]) κ:=fun κ hκ=>⟨hκ.1,fun w hw=>by
    rcases List.mem_append.1 hw with hw | hw
    · exact hκ.2 w hw
    · rw [List.mem_singleton.1 hw,hκ.1 _ hp.1.2,he,← hκ.1 _ hp.2.2]⟩
  refine⟨h.uf,h.ty,h.srt,fun w hw=>h.wr w (by simp [hw]),fun c θ hc hθ hj=>?_,h.tcov,fun i hi x hx=>?_,fun p hp κ hκ=>h.jcov p hp κ (hr κ hκ),h.val,h.ur⟩
  · obtain⟨h1,h2⟩:=h.only c θ hc hθ hj
    exact⟨⟨h1.1,fun w hw=>h1.2 w (by simp [hw])⟩,h2⟩
  · obtain⟨t,h1,h2⟩:=h.lcov i hi x hx
    exact⟨t,h1,fun κ hκ=>h2 κ (hr κ hκ)⟩
def DQ (l:List Ty) (U:List Nd) (J:List (Nat×Nat)):Prop:=∃ c θ,(∀ i,i < c.length→0≤(nd c i).ty∧(nd c i).ty < l.length)∧Adm l U c θ∧∀ p ∈ J,θ p.1=θ p.2
theorem US.fail (hs:Ok l) {p:Int×Int} (h:US l U J P rep ρ T L (W ++ [p])) (hm:(jj l (T (rep p.1.toNat)).toNat (T (rep p.2.toNat)).toNat).2.1=false):¬DQ l U J:=by
  rintro ⟨c,θ,hc,hθ,hj⟩
  have hp:=h.wr p (by simp);obtain⟨h1,h2⟩:=h.only c θ hc hθ hj;have e:=h1.2 p (by simp);have ha:=h.uf.rl _ hp.1.2;have hb:=h.uf.rl _ hp.2.2;have e1:=h1.1 _ hp.1.2;have e2:=h1.1 _ hp.2.2;have s1:=h2 _ ha (h.uf.two hp.1.2);have s2:=h2 _ hb (h.uf.two hp.2.2);rw [← e1] at s1;rw [← e2,← e] at s2;have hlt:=hθ.lt _ hp.1.2;have hct:=hc _ hlt;have t1:=h.ty _ ha;have t2:=h.ty _ hb;have:=hs.all (T (rep p.1.toNat)).toNat (T (rep p.2.toNat)).toNat (nd c (θ p.1.toNat)).ty.toNat om om om (by simp [oj,s1,s2]);rw [hm] at this;cases this
theorem US.join (hs:Ok l) {p:Int×Int} {a b m:Nat} (h:US l U J P rep ρ T L (W ++ [p])) (ha:rep p.1.toNat=a) (hb:rep p.2.toNat=b) (hne:a≠b) (hm:jj l (T a).toNat (T b).toNat=(m,true,false)):
    US l U J (Yj P b a) (UF.un rep a b) (UF.rk rep ρ a b) (fun x=>if x=a then (m:Int) else T x) (fun x=>if x=a then xQ (L a) (L b) else L x) (W ++ Zz (L a) (L b)):=by
  have hp:=h.wr p (by simp);have hal:a < U.length:=by rw [← ha];exact h.uf.rl _ hp.1.2
  have hbl:b < U.length:=by rw [← hb];exact h.uf.rl _ hp.2.2
  have ra:rep a=a:=by rw [← ha];exact h.uf.two hp.1.2
  have rb:rep b=b:=by rw [← hb];exact h.uf.two hp.2.2
  obtain⟨m1,m2,m3⟩:=meet_spec hs.le (a:=(T a).toNat) (b:=(T b).toNat) (by rw [hm]);rw [hm] at m1 m2 m3;simp only at m1 m2 m3;have m2':sub l m (T a).toNat=true∧sub l m (T b).toNat=true:=by simpa [oj] using m2
  have hLr:∀ i,i < U.length→rep i=i→∀ x ∈ L i,∃ u,u < U.length∧rep u=i∧x ∈ (nd U u).ln:=h.val;have un_a:∀ x,UF.un rep a b x=a ↔ rep x=a∨rep x=b:=fun x=>by
    unfold UF.un;by_cases e:rep x=b
    · simp [e]
    · simp [e]
  have un_o:∀ x,¬(rep x=a∨rep x=b)→UF.un rep a b x=rep x:=fun x hx=>by
    unfold UF.un;rw [if_neg (fun e=>hx (.inr e))]
  have hr:∀ κ,Ov U.length (UF.un rep a b) (W ++ Zz (L a) (L b)) κ→Ov U.length rep (W ++ [p]) κ:=fun κ hκ=>by
    have kb:κ b=κ a:=by have:=hκ.1 b hbl;rwa [(un_a b).2 (.inr rb)] at this
    have k1:∀ i,i < U.length→κ i=κ (rep i):=fun i hi=>by
      have:=hκ.1 i hi;by_cases e:rep i=b
      · rw [(un_a i).2 (.inr e)] at this;rw [this,e,kb]
      · by_cases e2:rep i=a
        · rw [(un_a i).2 (.inl e2)] at this;rw [this,e2]
        · rwa [un_o i (fun h=>h.elim e2 e)] at this
    refine⟨k1,fun w hw=>?_⟩;rcases List.mem_append.1 hw with hw | hw
    · exact hκ.2 w (by simp [hw])
    · rw [List.mem_singleton.1 hw,k1 _ hp.1.2,k1 _ hp.2.2,ha,hb,kb]
  refine⟨h.uf.join hal hbl ra rb hne,fun i hi=>?_,fun i hi=>?_,fun w hw=>?_,fun c θ hc hθ hj=>?_,fun i hi=>?_,fun i hi x hx=>?_,fun q hq κ hκ=>h.jcov q hq κ (hr κ hκ),fun i hi hri x hx=>?_,h.ur⟩
  · (try dsimp only)
    split
    · omega
    · exact h.ty i hi
  · (try dsimp only)
    split
    · exact VY (h.srt a hal) (h.srt b hbl)
    · exact h.srt i hi
  · rcases List.mem_append.1 hw with hw | hw
    · exact h.wr w (by simp [hw])
    · obtain⟨f,f1,f2⟩:=Vx hw
      obtain⟨u,u1,_,u2⟩:=h.val a hal ra _ f1;obtain⟨v,v1,_,v2⟩:=h.val b hbl rb _ f2;have g1:=h.ur u u1 _ u2;have g2:=h.ur v v1 _ v2;exact⟨g1,g2⟩
  · obtain⟨h1,h2⟩:=h.only c θ hc hθ hj
    have ep:=h1.2 p (by simp);have eab:θ a=θ b:=by rw [← ha,← hb,← h1.1 _ hp.1.2,← h1.1 _ hp.2.2];exact ep
    have hlk:∀ r,r < U.length→rep r=r→∀ x ∈ L r,tgt (nd c (θ r)).ln x.1=((θ x.2.toNat:Nat):Int):=fun r hr hrr x hx=>by
      obtain⟨u,hu,hur,hxu⟩:=h.val r hr hrr x hx;have:=hθ.ln u hu x hxu;rw [h1.1 u hu,hur] at this;exact this
    refine⟨⟨fun i hi=>?_,fun w hw=>?_⟩,fun i hi hri=>?_⟩
    · have:=h1.1 i hi
      by_cases e:rep i=b
      · rw [(un_a i).2 (.inr e),eab,this,e]
      · by_cases e2:rep i=a
        · rw [(un_a i).2 (.inl e2),this,e2]
        · rw [un_o i (fun h=>h.elim e2 e)];exact this
    · rcases List.mem_append.1 hw with hw | hw
      · exact h1.2 w (by simp [hw])
      · obtain⟨f,f1,f2⟩:=Vx hw
        have g1:=hlk a hal ra _ f1;have g2:=hlk b hbl rb _ f2;rw [← eab,g1] at g2;exact Int.ofNat.inj g2
    · (try dsimp only)
      by_cases e:i=a
      · subst e
        rw [if_pos rfl];have s1:=h2 i hal ra;have s2:=h2 b hbl rb;rw [← eab] at s2;have hct:=hc _ (hθ.lt i hal);have:=m3 (nd c (θ i)).ty.toNat om (by simp [oj,s1,s2]);rw [Int.toNat_natCast];exact this
      · rw [if_neg e]
        refine h2 i hi ?_;by_cases e2:rep i=a∨rep i=b
        · rw [(un_a i).2 e2] at hri;exact absurd hri.symm e
        · rwa [un_o i e2] at hri
  · have ht:=h.tcov i hi
    (try dsimp only)
    by_cases e:rep i=a∨rep i=b
    · rw [(un_a i).2 e,if_pos rfl,Int.toNat_natCast]
      rcases e with e | e
      · rw [e] at ht;exact QK hs.vt m2'.1 ht
      · rw [e] at ht;exact QK hs.vt m2'.2 ht
    · rw [un_o i e,if_neg (fun e2=>e (.inl e2))];exact ht
  · obtain⟨t,h1,h2⟩:=h.lcov i hi x hx
    (try dsimp only)
    by_cases e:rep i=a∨rep i=b
    · rw [(un_a i).2 e,if_pos rfl]
      rcases e with e | e
      · rw [e] at h1
        exact⟨t,Q6 h1,fun κ hκ=>h2 κ (hr κ hκ)⟩
      · rw [e] at h1
        rcases Qv (xs:=L a) h1 with h3 | ⟨s,h3,h4⟩
        · exact⟨t,h3,fun κ hκ=>h2 κ (hr κ hκ)⟩
        · refine⟨s,Q6 h3,fun κ hκ=>?_⟩
          have:=hκ.2 _ (List.mem_append_right _ h4);rw [h2 κ (hr κ hκ)];exact this.symm
    · rw [un_o i e,if_neg (fun e2=>e (.inl e2))]
      exact⟨t,h1,fun κ hκ=>h2 κ (hr κ hκ)⟩
  · (try dsimp only at hx)
    by_cases e:i=a
    · subst e
      rw [if_pos rfl] at hx;rcases Z5 hx with hx | hx
      · obtain⟨u,h1,h2,h3⟩:=h.val i hal ra x hx
        exact⟨u,h1,(un_a u).2 (.inl h2),h3⟩
      · obtain⟨u,h1,h2,h3⟩:=h.val b hbl rb x hx
        exact⟨u,h1,(un_a u).2 (.inr h2),h3⟩
    · rw [if_neg e] at hx
      have e2:¬(rep i=a∨rep i=b):=fun e2=>by rw [(un_a i).2 e2] at hri;exact e hri.symm
      have hri2:=hri;rw [un_o i e2] at hri2;obtain⟨u,h1,h2,h3⟩:=h.val i hi hri2 x hx;refine⟨u,h1,?_,h3⟩;rw [un_o u (by rw [h2,← hri2];exact e2),h2]
theorem US.push (h:US l U J P rep ρ T L []) {a b:Nat} (ha:a < U.length) (hb:b < U.length):US l U (J ++ [(a,b)]) P rep ρ T L [((a:Int),(b:Int))]:=by
  have hr:∀ κ,Ov U.length rep [((a:Int),(b:Int))] κ→Ov U.length rep [] κ:=fun κ hκ=>⟨hκ.1,fun w hw=>by cases hw⟩
  refine⟨h.uf,h.ty,h.srt,fun w hw=>?_,fun c θ hc hθ hj=>?_,h.tcov,fun i hi x hx=>?_,fun q hq κ hκ=>?_,h.val,h.ur⟩
  · rw [List.mem_singleton.1 hw];simp only [Int.toNat_natCast];omega
  · obtain⟨h1,h2⟩:=h.only c θ hc hθ (fun q hq=>hj q (by simp [hq]))
    refine⟨⟨h1.1,fun w hw=>?_⟩,h2⟩;rw [List.mem_singleton.1 hw];simp only [Int.toNat_natCast];exact hj (a,b) (by simp)
  · obtain⟨t,h1,h2⟩:=h.lcov i hi x hx
    exact⟨t,h1,fun κ hκ=>h2 κ (hr κ hκ)⟩
  · rcases List.mem_append.1 hq with hq | hq
    · exact h.jcov q hq κ (hr κ hκ)
    · rw [List.mem_singleton.1 hq]
      have:=hκ.2 _ (List.mem_singleton.2 rfl)
      simpa using this
def shN (k:Nat) (x:Nd):Nd:=⟨x.ty,x.ln.map (fun y=>(y.1,y.2 + (k:Int)))⟩
theorem ZJ {U V:List Nd} {i:Nat} (h:i < U.length):nd (U ++ V) i=nd U i:=by simp [nd,List.getD,List.getElem?_append_left h]
theorem Vj {U g:List Nd} {i:Nat} (h:i < g.length):nd (U ++ g.map (shN U.length)) (U.length + i)=shN U.length (nd g i):=by
  simp [nd,List.getD,h]
theorem US.add {g:List Nd} (h:US l U J P rep ρ T L []) (hg:GY l g) (_hJ:∀ p ∈ J,p.1 < U.length∧p.2 < U.length):
    US l (U ++ g.map (shN U.length)) J (fun x=>if x < U.length then P x else x) (fun x=>if x < U.length then rep x else x) ρ (fun x=>if x < U.length then T x else (nd g (x - U.length)).ty) (fun x=>if x < U.length then L x else (nd g (x - U.length)).ln.map (fun y=>(y.1,y.2 + (U.length:Int)))) []:=by
  have hlen:(U ++ g.map (shN U.length)).length=U.length + g.length:=by simp
  have hnd:∀ i,i < U.length + g.length→¬i < U.length→nd (U ++ g.map (shN U.length)) i=shN U.length (nd g (i - U.length))∧i - U.length < g.length:=fun i hi hn=>by
    have e:i=U.length + (i - U.length):=by omega
    have hlt:i - U.length < g.length:=by omega
    refine⟨?_,hlt⟩;have:=Vj (U:=U) hlt
    rwa [← e] at this
  have hro:∀ κ,Ov (U ++ g.map (shN U.length)).length (fun x=>if x < U.length then rep x else x) [] κ→Ov U.length rep [] κ:=fun κ hκ=>⟨fun i hi=>by
    have:=hκ.1 i (by rw [hlen];omega)
    simpa [hi] using this,fun w hw=>by cases hw⟩
  refine⟨by rw [hlen];exact h.uf.more,fun i hi=>?_,fun i hi=>?_,(fun w hw=>by cases hw),fun c θ hc hθ hj=>?_,fun i hi=>?_,fun i hi x hx=>?_,fun q hq κ hκ=>h.jcov q hq κ (hro κ hκ),fun i hi hri x hx=>?_,fun i hi x hx=>?_⟩ <;> (try rw [hlen] at hi)
  · (try dsimp only)
    by_cases e:i < U.length
    · rw [if_pos e];exact h.ty i e
    · rw [if_neg e];exact hg.tr _ (hnd i hi e).2
  · (try dsimp only)
    by_cases e:i < U.length
    · rw [if_pos e];exact h.srt i e
    · rw [if_neg e];exact List.pairwise_map.2 (hg.srt _ (hnd i hi e).2)
  · have hθU:Adm l U c θ:=⟨fun i hi=>hθ.lt i (by rw [hlen];omega),fun i hi=>by
      have:=hθ.ty i (by rw [hlen];omega)
      rwa [ZJ hi] at this,fun i hi x hx=>hθ.ln i (by rw [hlen];omega) x (by rw [ZJ hi];exact hx)⟩
    obtain⟨h1,h2⟩:=h.only c θ hc hθU hj;refine⟨⟨fun i hi=>?_,fun w hw=>by cases hw⟩,fun i hi hri=>?_⟩
    · (try dsimp only)
      by_cases e:i < U.length
      · rw [if_pos e];exact h1.1 i e
      · rw [if_neg e]
    · (try dsimp only at hri ⊢)
      by_cases e:i < U.length
      · rw [if_pos e] at hri ⊢;exact h2 i e hri
      · rw [if_neg e]
        have:=hθ.ty i hi;rw [hlen] at hi
        rwa [(hnd i hi e).1] at this
  · (try dsimp only)
    by_cases e:i < U.length
    · rw [if_pos e,if_pos (h.uf.rl i e),ZJ e];exact h.tcov i e
    · rw [if_neg e,if_neg e,(hnd i hi e).1];exact X2 hg.vt _
  · (try dsimp only)
    by_cases e:i < U.length
    · rw [ZJ e] at hx
      obtain⟨t,h1,h2⟩:=h.lcov i e x hx;refine⟨t,?_,fun κ hκ=>h2 κ (hro κ hκ)⟩;rw [if_pos e,if_pos (h.uf.rl i e)];exact h1
    · rw [(hnd i hi e).1] at hx
      refine⟨x.2,?_,fun κ _=>rfl⟩;rw [if_neg e,if_neg e];exact hx
  · (try dsimp only at hri hx)
    by_cases e:i < U.length
    · rw [if_pos e] at hri hx
      obtain⟨u,h1,h2,h3⟩:=h.val i e hri x hx;exact⟨u,by rw [hlen];omega,by rw [if_pos h1];exact h2,by rw [ZJ h1];exact h3⟩
    · rw [if_neg e] at hx
      exact⟨i,by rw [hlen];exact hi,by rw [if_neg e],by rw [(hnd i hi e).1];exact hx⟩
  · by_cases e:i < U.length
    · rw [ZJ e] at hx
      have:=h.ur i e x hx;rw [hlen];omega
    · obtain⟨h1,h2⟩:=hnd i hi e
      rw [h1] at hx;obtain⟨y,hy,rfl⟩:=List.mem_map.1 hx;have:=hg.lr _ h2 y hy;simp only [hlen];omega
theorem US.nil {P rep ρ:Nat→Nat} {T:Nat→Int} {L:Nat→List (Int×Int)}:US l [] [] P rep ρ T L []:=
  ⟨UF.nil _ _ _,fun _ h=>absurd h (Nat.not_lt_zero _),fun _ h=>absurd h (Nat.not_lt_zero _),fun _ h=>(by cases h),fun _ _ _ _ _=>⟨⟨fun _ h=>absurd h (Nat.not_lt_zero _),fun _ h=>(by cases h)⟩,fun _ h=>absurd h (Nat.not_lt_zero _)⟩,fun _ h=>absurd h (Nat.not_lt_zero _),fun _ h=>absurd h (Nat.not_lt_zero _),fun _ h=>(by cases h),fun _ h=>absurd h (Nat.not_lt_zero _),fun _ h=>absurd h (Nat.not_lt_zero _)⟩
def xY (n:Nat) (rep:Nat→Nat) (T:Nat→Int) (L:Nat→List (Int×Int)):List Nd:=(List.range n).map (fun i=>⟨T i,if rep i=i then (L i).map (fun x=>(x.1,((rep x.2.toNat:Nat):Int))) else []⟩)
theorem yY (n:Nat) (rep:Nat→Nat) (T:Nat→Int) (L:Nat→List (Int×Int)):(xY n rep T L).length=n:=by simp [xY]
theorem uK {n:Nat} {rep:Nat→Nat} {T:Nat→Int} {L:Nat→List (Int×Int)} {i:Nat} (hi:i < n):nd (xY n rep T L) i=⟨T i,if rep i=i then (L i).map (fun x=>(x.1,((rep x.2.toNat:Nat):Int))) else []⟩:=by
  rw [yy (by rw [yY];exact hi)];simp [xY]
theorem US.gy (hv:VT l) (hp:0 < U.length) (h:US l U J P rep ρ T L []):GY l (xY U.length rep T L):=by
  refine⟨hv,by rw [yY];exact hp,fun i hi=>?_,fun i hi=>?_,fun i hi x hx=>?_⟩ <;> rw [yY] at hi
  · rw [uK hi];exact h.ty i hi
  · rw [uK hi]
    (try dsimp only)
    split
    · exact List.pairwise_map.2 (h.srt i hi)
    · exact List.Pairwise.nil
  · rw [uK hi] at hx
    (try dsimp only at hx)
    split at hx
    · rename_i hri
      obtain⟨y,hy,rfl⟩:=List.mem_map.1 hx;obtain⟨u,h1,_,h3⟩:=h.val i hi hri y hy;have:=h.ur u h1 y h3;have h4:=h.uf.rl _ this.2;simp only [yY];omega
    · cases hx
theorem US.roots (h:US l U J P rep ρ T L []) {r:Nat} (_hr:r < U.length) (hrr:rep r=r) {o:List Nat} (t:TrR (xY U.length rep T L) r o):∀ x ∈ o,x < U.length∧rep x=x:=by
  have hw:=DL.within (o:=o.filter (fun x=>decide (rep x=x))) (g:=xY U.length rep T L) (fun x hx z hz=>by
    simp only [List.mem_filter,decide_eq_true_eq] at hx ⊢;refine⟨t.clo x hx.1 z hz,?_⟩;have hxl:=t.lt hx.1;rw [yY] at hxl;simp only [yZ,uK hxl,if_pos hx.2,List.mem_map] at hz;obtain⟨_,⟨y,hy,rfl⟩,rfl⟩:=hz;obtain⟨u,h1,_,h3⟩:=h.val x hxl hx.2 y hy;have:=h.ur u h1 y h3;simp only [Int.toNat_natCast];exact h.uf.two this.2) t.dl (fun z hz=>by
      rw [List.mem_singleton.1 hz];simp only [List.mem_filter,decide_eq_true_eq]
      exact⟨t.has,hrr⟩) (fun x hx=>by cases hx)
  intro x hx;have:=hw x hx;simp only [List.mem_filter,decide_eq_true_eq] at this;have hl:=t.lt hx;rw [yY] at hl;exact⟨hl,this.2⟩
theorem US.nd_o (h:US l U J P rep ρ T L []) {r:Nat} (hr:r < U.length) (hrr:rep r=r) {o:List Nat} (t:TrR (xY U.length rep T L) r o) {x:Nat} (hx:x ∈ o):nd (xY U.length rep T L) x=⟨T x,(L x).map (fun y=>(y.1,((rep y.2.toNat:Nat):Int)))⟩:=by
  obtain⟨h1,h2⟩:=h.roots hr hrr t x hx;rw [uK h1,if_pos h2]
theorem US.into (hv:VT l) (h:US l U J P rep ρ T L []) {r:Nat} (hr:r < U.length) (hrr:rep r=r) {o:List Nat} (t:TrR (xY U.length rep T L) r o) {g:List Nd} {s:Nat} (hg:GX l g)
    (hs:∀ i,i < g.length→s + i < U.length∧nd U (s + i)=shN s (nd g i)) (h0:rep s ∈ o):∃ φ:Nat→Nat,φ 0=o.idxOf (rep s)∧(∀ i,i < g.length→rep (s + i) ∈ o∧φ i=o.idxOf (rep (s + i)))∧(∀ i,i < g.length→φ i < (y5 (xY U.length rep T L) o).length)∧(∀ i,i < g.length→sub l (nd (y5 (xY U.length rep T L) o) (φ i)).ty.toNat (nd g i).ty.toNat=true)∧∀ i,i < g.length→∀ x ∈ (nd g i).ln,tgt (nd (y5 (xY U.length rep T L) o) (φ i)).ln x.1=((φ x.2.toNat:Nat):Int):=by
  have hgy:=h.gy hv om;have hgx:=t.gx hgy;have hstep:∀ i,i < g.length→rep (s + i) ∈ o→∀ x ∈ (nd g i).ln,rep (s + x.2.toNat) ∈ o∧∃ z,(x.1,z) ∈ L (rep (s + i))∧rep z.toNat=rep (s + x.2.toNat):=fun i hi hio x hx=>by
    obtain⟨h1,h2⟩:=hs i hi;have hxr:=hg.lr i hi x hx;have hm:(x.1,x.2 + (s:Int)) ∈ (nd U (s + i)).ln:=by rw [h2];exact List.mem_map.2 ⟨x,hx,rfl⟩
    obtain⟨z,h3,h4⟩:=h.lcov _ h1 _ hm;have h5:=h4 rep ⟨fun j hj=>(h.uf.two hj).symm,fun w hw=>by cases hw⟩;have e:(x.2 + (s:Int)).toNat=s + x.2.toNat:=by omega
    simp only [e] at h5;refine⟨?_,z,h3,h5.symm⟩;rw [h5];have:=t.mem hio (y:=(x.1,((rep z.toNat:Nat):Int))) (by rw [h.nd_o hr hrr t hio];exact List.mem_map.2 ⟨_,h3,rfl⟩)
    simpa using this
  have hall:∀ i,i < g.length→rep (s + i) ∈ o:=fun i hi=>by
    have:=hg.rch i hi
    induction this with
    | zero=>exact h0
    | step hr2 hi2 hx2 ih=>
      exact(hstep _ hi2 (ih hi2) _ (by rw [yy hi2];exact hx2)).1
  refine⟨fun i=>o.idxOf (rep (s + i)),rfl,fun i hi=>⟨hall i hi,rfl⟩,fun i hi=>?_,fun i hi=>?_,fun i hi x hx=>?_⟩
  · rw [ux];exact(jw (hall i hi)).1
  · obtain⟨h1,h2⟩:=hs i hi
    (try dsimp only)
    rw [Y4 t (hall i hi)];show sub l (nd (xY U.length rep T L) (rep (s + i))).ty.toNat _=true;rw [h.nd_o hr hrr t (hall i hi)];have:=h.tcov _ h1;rw [h2] at this;exact this
  · obtain⟨h1,z,h3,h4⟩:=hstep i hi (hall i hi) x hx
    (try dsimp only)
    have hb1:=jw (hall i hi);have hsr:=hgx.srt (o.idxOf (rep (s + i))) (by rw [ux];exact hb1.1);rw [Y4 t (hall i hi)] at hsr ⊢;have hm2:((x.1,((o.idxOf (rep (s + x.2.toNat)):Nat):Int)):Int×Int) ∈ (trN (o.idxOf ·) (nd (xY U.length rep T L) (rep (s + i)))).ln:=by
      refine List.mem_map.2 ⟨(x.1,((rep z.toNat:Nat):Int)),?_,?_⟩
      · rw [h.nd_o hr hrr t (hall i hi)];exact List.mem_map.2 ⟨_,h3,rfl⟩
      · simp only [Int.toNat_natCast,h4]
    exact F2 hsr hm2
theorem US.least (h:US l U J P rep ρ T L []) {r:Nat} (hr:r < U.length) (hrr:rep r=r) {o:List Nat} (t:TrR (xY U.length rep T L) r o) {c:List Nd} {θ:Nat→Nat} (hc:∀ i,i < c.length→0≤(nd c i).ty∧(nd c i).ty < l.length) (hθ:Adm l U c θ) (hj:∀ p ∈ J,θ p.1=θ p.2) (h0:θ r=0):Maps l (y5 (xY U.length rep T L) o) c:=by
  obtain⟨h1,h2⟩:=h.only c θ hc hθ hj;refine⟨fun j=>θ (o.getD j 0),?_,fun j hj=>?_,fun j hj=>?_,fun j hj x hx=>?_⟩
  · have hz:=jw t.has
    have hp:0 < o.length:=by have:=hz.1;omega
    have:=hz.2;simp only [t.zero] at this;have e:o.getD 0 0=r:=by simp [List.getD,hp,this]
    show θ (o.getD 0 0)=0;rw [e];exact h0
  · obtain⟨x,hx,_,e,_⟩:=t.at_ hj
    (try dsimp only)
    rw [e];exact hθ.lt x (h.roots hr hrr t x hx).1
  · obtain⟨x,hx,_,e,e2⟩:=t.at_ hj
    obtain⟨hxl,hxr⟩:=h.roots hr hrr t x hx
    (try dsimp only)
    rw [e,e2];show sub l _ (nd (xY U.length rep T L) x).ty.toNat=true;rw [h.nd_o hr hrr t hx];exact h2 x hxl hxr
  · obtain⟨y,hy,_,e,e2⟩:=t.at_ hj
    obtain⟨hyl,hyr⟩:=h.roots hr hrr t y hy;rw [e2] at hx;obtain⟨z,hz,rfl⟩:=List.mem_map.1 hx;have hz2:=hz;rw [h.nd_o hr hrr t hy] at hz2;obtain⟨q,hq,rfl⟩:=List.mem_map.1 hz2;obtain⟨u,u1,u2,u3⟩:=h.val y hyl hyr q hq;have hqr:=h.ur u u1 q u3;have h3:=hθ.ln u u1 q u3;rw [h1.1 u u1,u2] at h3
    (try dsimp only)
    rw [e,h3,h1.1 _ hqr.2];have hm:=jw (t.mem hy hz);simp only [Int.toNat_natCast] at hm ⊢;have e3:o.getD (o.idxOf (rep q.2.toNat)) 0=rep q.2.toNat:=by
      have:=hm.2;simp [List.getD,hm.1,this]
    rw [e3]
theorem US.fit {fs:List Ft} (hv:VT l) (h:US l U J P rep ρ T L []) {r:Nat} (hr:r < U.length) (hrr:rep r=r) {o:List Nat} (t:TrR (xY U.length rep T L) r o)
    (hU:∀ i,i < U.length→∀ x ∈ (nd U i).ln,(0≤x.1∧x.1 < fs.length)∧sub l (nd U i).ty.toNat (Mv fs x.1).of.toNat=true∧sub l (nd U x.2.toNat).ty.toNat (Mv fs x.1).val.toNat=true):
    (∀ i,i < (y5 (xY U.length rep T L) o).length→∀ x ∈ (nd (y5 (xY U.length rep T L) o) i).ln,0≤x.1∧x.1 < fs.length)∧∀ i,i < (y5 (xY U.length rep T L) o).length→∀ x ∈ (nd (y5 (xY U.length rep T L) o) i).ln,sub l (nd (y5 (xY U.length rep T L) o) i).ty.toNat (Mv fs x.1).of.toNat=true∧sub l (nd (y5 (xY U.length rep T L) o) x.2.toNat).ty.toNat (Mv fs x.1).val.toNat=true:=by
  have key:∀ i,i < (y5 (xY U.length rep T L) o).length→∀ x ∈ (nd (y5 (xY U.length rep T L) o) i).ln,(0≤x.1∧x.1 < fs.length)∧sub l (nd (y5 (xY U.length rep T L) o) i).ty.toNat (Mv fs x.1).of.toNat=true∧sub l (nd (y5 (xY U.length rep T L) o) x.2.toNat).ty.toNat (Mv fs x.1).val.toNat=true:=fun i hi x hx=>by
    obtain⟨y,hy,_,e,e2⟩:=t.at_ hi;obtain⟨hyl,hyr⟩:=h.roots hr hrr t y hy;rw [e2] at hx ⊢;obtain⟨z,hz,rfl⟩:=List.mem_map.1 hx;have hz2:=hz;have hzo:=t.mem hy hz;rw [h.nd_o hr hrr t hy] at hz2;obtain⟨q,hq,rfl⟩:=List.mem_map.1 hz2;obtain⟨u,u1,u2,u3⟩:=h.val y hyl hyr q hq;have hqr:=h.ur u u1 q u3;obtain⟨f1,f2,f3⟩:=hU u u1 q u3;have t1:=h.tcov u u1;have t2:=h.tcov _ hqr.2;rw [u2] at t1;refine⟨f1,?_,?_⟩
    · show sub l (nd (xY U.length rep T L) y).ty.toNat _=true
      rw [h.nd_o hr hrr t hy];exact QK hv t1 f2
    · simp only [Int.toNat_natCast] at hzo ⊢
      rw [Y4 t hzo];show sub l (nd (xY U.length rep T L) (rep q.2.toNat)).ty.toNat _=true;rw [h.nd_o hr hrr t hzo];exact QK hv t2 f3
  exact⟨fun i hi x hx=>(key i hi x hx).1,fun i hi x hx=>(key i hi x hx).2⟩
end us
end Go.Proofs.YtdgnllfbooklcaaDoor
namespace Go.Proofs.YtdgnllfbooklcaaDoor
open Go.RowKit
theorem Own.rowq {w:World} {base q m cap:Nat} {e:TypeId} {g:Nat→Value} (h:Own w base e 1 (some ⟨q,0,none⟩) m cap (vj m g)) {j:Nat} (hj:j < m):w.cell? ⟨q,0 + j * 1,none⟩=some (g j):=by
  obtain⟨q',h1,_,_,h2⟩:=h.rowc hj;cases h1;exact h2
def vN (P:Nat→Nat) (x:Nat):Value:= .int .i64 ((P x:Nat):Int)
def vI (T:Nat→Int) (x:Nat):Value:= .int .i64 (T x)
theorem Qy (xs:List (Int×Int)):(lnV xs).length=xs.length * 2:=by
  induction xs with
  | nil=>rfl
  | cons x xs ih=>rw [show lnV (x :: xs)= [Value.int .i64 x.1,Value.int .i64 x.2] ++ lnV xs from rfl,List.length_append,ih];simp;omega
theorem lnV_one (xs:List (Int×Int)):(lnV xs).all (·.oneCell')=true:=by
  induction xs with
  | nil=>rfl
  | cons x xs ih=>rw [show lnV (x :: xs)= [Value.int .i64 x.1,Value.int .i64 x.2] ++ lnV xs from rfl,List.all_append,ih];rfl
theorem L6 (xs ys:List (Int×Int)):lnV (xs ++ ys)=lnV xs ++ lnV ys:=by simp [lnV]
theorem lnV_take (xs:List (Int×Int)) (k:Nat):(lnV xs).take (k * 2)=lnV (xs.take k):=by
  induction xs generalizing k with
  | nil=>simp [lnV]
  | cons x xs ih=>
    cases k with
    | zero=>simp [lnV]
    | succ k=>
      rw [show (k + 1) * 2=k * 2 + 1 + 1 from by omega,show lnV (x :: xs)=Value.int .i64 x.1 :: Value.int .i64 x.2 :: lnV xs from rfl,List.take_succ_cons,List.take_succ_cons,ih];rfl
theorem LinksIn.news {w:World} {A:Option Addr} {xs:List (Int×Int)} (h:LinksIn w A xs):0 < xs.length→∃ b o',A=some ⟨b,o',none⟩∧∀ j u,(lnV xs)[j]? =some u→w.cell? ⟨b,o' + j,none⟩=some u:=fun hm=>by
  obtain⟨b,o,rfl,_,hc⟩:=h.2 (fun e=>by rw [e] at hm;simp at hm)
  refine⟨b,o,rfl,fun j u hu=>?_⟩
  have hj:j < xs.length * 2:=by
    have:=(List.getElem?_eq_some_iff.1 hu).1
    rwa [Qy] at this
  have hk:j / 2 < xs.length:=by omega
  have h2:=Y3 xs (j / 2) hk;have h3:=hc (j / 2) hk;rcases Nat.mod_two_eq_zero_or_one j with e | e
  · have e2:j=j / 2 * 2:=by omega
    rw [e2] at hu;rw [h2.1] at hu;cases hu;have:=h3 0 (.int .i64 (xs[j / 2]).1) rfl;rw [show o + j=o + j / 2 * 2 + 0 by omega];exact this
  · have e2:j=j / 2 * 2 + 1:=by omega
    rw [e2] at hu;rw [h2.2] at hu;cases hu;have:=h3 1 (.int .i64 (xs[j / 2]).2) rfl;rw [show o + j=o + j / 2 * 2 + 1 by omega];exact this
def Suf (w:World) (lo bs:Nat) (v:Value) (xs:List (Int×Int)):Prop:=∃ (A0:Option Addr) (c0 k:Nat) (ys:List (Int×Int)) (A:Option Addr),RowO w lo bs (.slice A0 ys.length c0) ys∧k≤ys.length∧xs=ys.drop k∧v= .slice A xs.length (c0 - k)∧(xs≠[]→∃ g,A0=some ⟨g,0,none⟩∧A=some ⟨g,k * 2,none⟩)
theorem Suf.tr {w w':World} {lo bs:Nat} {v:Value} {xs:List (Int×Int)} {X:List Nat} (h:Suf w lo bs v xs) (hs:Same X w w') (hx:∀ g ∈ X,bs≤g∨∃ cs t,Blk w g t cs∧t≠95):Suf w' lo bs v xs:=by
  obtain⟨A0,c0,k,ys,A,h1,h2⟩:=h;exact⟨A0,c0,k,ys,A,h1.tr hs hx,h2⟩
theorem RowO.own {w:World} {lo bs:Nat} {A:Option Addr} {n c:Nat} {xs:List (Int×Int)} (h:RowO w lo bs (.slice A n c) xs):n=xs.length∧Own w lo 95 2 A xs.length c (lnV xs)∧∀ g ∈ aL A,g < bs:=by
  obtain⟨A',c',e,h1,h2⟩:=h;cases e;exact⟨rfl,h1,h2⟩
theorem Suf.of {w:World} {lo bs:Nat} {v:Value} {xs:List (Int×Int)} (h:RowO w lo bs v xs):Suf w lo bs v xs:=by
  obtain⟨A,c,rfl,h1,h2⟩:=h;refine⟨A,c,0,xs,A,⟨A,c,rfl,h1,h2⟩,Nat.zero_le _,rfl,rfl,fun hne=>?_⟩;obtain⟨g,hg,_⟩:=h1.cell (fun e=>hne (by have:=congrArg List.length e;rw [Qy] at this;exact List.length_eq_zero_iff.1 (by simp at this;omega)));exact⟨g,hg,by rw [hg,Nat.zero_mul]⟩
structure SufC (w:World) (lo bs:Nat) (A:Option Addr) (n c:Nat) (x:Int×Int) (xs:List (Int×Int)):Prop where
  len:n=xs.length + 1
  at_:∃ g o,A=some ⟨g,o,none⟩∧g < w.heap.size∧w.rangeAt g o [.int .i64 x.1,.int .i64 x.2]
  next:Suf w lo bs (.slice (if c=1 then A else A.map (·.add (1 * 2))) (n - 1) (c - 1)) xs
theorem Suf.slice {w:World} {lo bs:Nat} {v:Value} {xs:List (Int×Int)} (h:Suf w lo bs v xs):∃ A c,v= .slice A xs.length c:=by
  obtain⟨A0,c0,k,ys,A,h1,h2,h3,h4,h5⟩:=h;exact⟨A,c0 - k,h4⟩
theorem Suf.cons {w:World} {lo bs n c:Nat} {A:Option Addr} {x:Int×Int} {xs:List (Int×Int)} (h:Suf w lo bs (.slice A n c) (x :: xs)):SufC w lo bs A n c x xs:=by
  obtain⟨A0,c0,k,ys,A',h1,h2,h3,h4,h5⟩:=h;obtain⟨g,e0,e1⟩:=h5 (by simp);cases h4;subst e0;obtain⟨_,ho,hb⟩:=h1.own;have hcl:=ho.cap_le;have hk:k < ys.length:=by
    have:=congrArg List.length h3;simp at this;omega
  have hx:ys[k]=x:=by
    have h6:(ys.drop k)[0]? =some x:=by rw [← h3];rfl
    rw [List.getElem?_drop,Nat.add_zero,List.getElem?_eq_getElem hk] at h6;exact Option.some.inj h6
  have hxs:xs=ys.drop (k + 1):=by
    have:(x :: xs).tail=(ys.drop k).tail:=by rw [h3]
    simpa [List.tail_drop] using this
  obtain⟨q,e2,_,hql,hqc⟩:=ho.cell (fun e=>by have:=congrArg List.length e;rw [Qy] at this;simp at this;omega);cases e2;have h7:=Y3 ys k hk;rw [hx] at h7;refine⟨by simp,⟨g,k * 2,e1,hql,fun j v hj=>?_⟩,?_⟩
  · match j,hj with
    | 0,hj=>cases hj;exact hqc _ _ h7.1
    | 1,hj=>cases hj;exact hqc _ _ h7.2
    | _ + 2,hj=>cases hj
  · subst e1
    refine⟨some ⟨g,0,none⟩,c0,k + 1,ys,(if c0 - k=1 then some (⟨g,k * 2,none⟩:Addr) else Option.map (fun z:Addr=>z.add (1 * 2)) (some (⟨g,k * 2,none⟩:Addr))),h1,by omega,hxs,?_,fun hne=>⟨g,rfl,?_⟩⟩
    · rw [show (x :: xs).length - 1=xs.length by simp,show c0 - k - 1=c0 - (k + 1) by omega]
    · have hl:0 < xs.length:=List.length_pos_iff.2 hne
      have:xs.length=ys.length - (k + 1):=by rw [hxs];simp
      rw [if_neg om];show some ((⟨g,k * 2,none⟩:Addr).add (1 * 2))=_;rw [Addr.add_mid,show k * 2 + 1 * 2=(k + 1) * 2 by omega]
theorem Suf.links {w:World} {lo bs n c:Nat} {A:Option Addr} {xs:List (Int×Int)} (h:Suf w lo bs (.slice A n c) xs):n=xs.length∧LinksIn w A xs:=by
  obtain⟨A0,c0,k,ys,A',h1,h2,h3,h4,h5⟩:=h;cases h4;obtain⟨_,ho,hb⟩:=h1.own;have hm:=ho.max;have hl:xs.length=ys.length - k:=by rw [h3];simp
  refine⟨rfl,by unfold vz;omega,fun hne=>?_⟩;obtain⟨g,e0,e1⟩:=h5 hne;subst e0;have hp:0 < xs.length:=List.length_pos_iff.2 hne;obtain⟨q,e2,_,hql,hqc⟩:=ho.cell (fun e=>by have:=congrArg List.length e;rw [Qy] at this;simp at this;omega);cases e2;refine⟨g,k * 2,e1,hql,fun j hj i v hi=>?_⟩;have hjk:k + j < ys.length:=by omega
  have h7:=Y3 ys (k + j) hjk;have hx:xs[j]=ys[k + j]:=by simp only [h3,List.getElem_drop]
  rw [hx] at hi
  match i,hi with
  | 0,hi=>cases hi;rw [show k * 2 + j * 2 + 0=(k + j) * 2 by omega];exact hqc _ _ h7.1
  | 1,hi=>cases hi;rw [show k * 2 + j * 2 + 1=(k + j) * 2 + 1 by omega];exact hqc _ _ h7.2
  | _ + 2,hi=>cases hi
theorem RowO.links {w:World} {lo bs n c:Nat} {A:Option Addr} {xs:List (Int×Int)} (h:RowO w lo bs (.slice A n c) xs):n=xs.length∧LinksIn w A xs:=(Suf.of h).links
def LMat (w:World) (A:Option Addr) (L:List (List (Int×Int))):Prop:=L.length≤vz∧(L≠[]→∃ b o,A=some ⟨b,o,none⟩∧b < w.heap.size∧∀ k (hk:k < L.length),∃ A' c',w.cell? ⟨b,o + k * 1,none⟩=some (.slice A' (L[k]).length c')∧LinksIn w A' L[k])
theorem W3 {w:World} {b t:Nat} {A1 A2 A3:Option Addr} {c1 c2 c3:Nat} {p q r:List (Int×Int)} (h:Blk w b t #[.slice A1 p.length c1,.slice A2 q.length c2,.slice A3 r.length c3]) (h1:LinksIn w A1 p) (h2:LinksIn w A2 q) (h3:LinksIn w A3 r):LMat w (some ⟨b,0,none⟩) [p,q,r]:=
  ⟨by simp [vz],fun _=>⟨b,0,rfl,h.lt,fun k hk=>by
    match k,hk with
    | 0,_=>exact⟨A1,c1,h.cell rfl,h1⟩
    | 1,_=>exact⟨A2,c2,h.cell rfl,h2⟩
    | 2,_=>exact⟨A3,c3,h.cell rfl,h3⟩⟩⟩
theorem LMat.mono {w w':World} {A:Option Addr} {L:List (List (Int×Int))} (h:LMat w A L) (hb:Bel w w'):LMat w' A L:=
  ⟨h.1,fun hne=>by
    obtain⟨b,o,h1,h2,h3⟩:=h.2 hne
    refine⟨b,o,h1,nLL h2 hb.size,fun k hk=>?_⟩
    obtain⟨A',c',h4,h5⟩:=h3 k hk
    exact⟨A',c',hb.cell h2 h4,h5.mono hb⟩⟩
theorem LMat.at_ {w w':World} {A:Option Addr} {L:List (List (Int×Int))} (h:LMat w A L) (hb:Bel w w') {k:Nat} (hk:k < L.length):∃ b o A' c',A=some ⟨b,o,none⟩∧w'.cell? ⟨b,o + k * 1,none⟩=some (.slice A' (L[k]).length c')∧LinksIn w' A' L[k]:=by
  obtain⟨b,o,h1,h2,h3⟩:=h.2 (fun e=>by rw [e] at hk;exact absurd hk (Nat.not_lt_zero _));obtain⟨A',c',h4,h5⟩:=h3 k hk;exact⟨b,o,A',c',h1,hb.cell h2 h4,h5.mono hb⟩
def Ej (L:List (List (Int×Int))) (k:Nat):Nat:=(L.take k).flatten.length
theorem JX {L:List (List (Int×Int))} {k:Nat} (hk:k < L.length):(L.take (k + 1)).flatten=(L.take k).flatten ++ L[k]:=by
  rw [List.take_succ_eq_append_getElem hk,List.flatten_append];simp
theorem PV {L:List (List (Int×Int))} {k:Nat} (hk:k < L.length):Ej L (k + 1)=Ej L k + (L[k]).length:=by
  unfold Ej;rw [JX hk,List.length_append]
theorem Hj (L:List (List (Int×Int))) (k:Nat):Ej L k≤L.flatten.length:=by
  unfold Ej;have h:L.flatten=(L.take k).flatten ++ (L.drop k).flatten:=by rw [← List.flatten_append,List.take_append_drop]
  rw [h,List.length_append];omega
theorem Sx {L:List (List (Int×Int))} {k:Nat} (h:L.length≤k):(L.take k).flatten=L.flatten:=by rw [List.take_of_length_le h]
end Go.Proofs.YtdgnllfbooklcaaDoor
namespace Go.Proofs.YtdgnllfbooklcaaDoor
open Go.RowKit
theorem fn86:zZ Tryd.prog 86=true:=by kernel_rfl
theorem XQ:(Tryd.prog.info? 70).map (·.size)=some 1:=by kernel_rfl
set_option maxHeartbeats 1000000 in
theorem Xq {ob bp n cp ct cl i:Nat} {PA TA LA:Option Addr} {c0 c1:Value} {P rep ρ:Nat→Nat} (w:World) (hbp:Blk w bp 125 #[c0,c1,.slice PA n cp,.slice TA n ct,.slice LA n cl]) (hpa:Own w ob 3 1 PA n cp (vj n (vN P))) (hbo:bp < ob) (hu:UF n P rep ρ) (hi:i < n):Calls Tryd.prog 68 #[.pointer (some ⟨bp,0,none⟩),.int .i64 (i:Nat)] w fun e w'=>∃ P',e= .returned (.int .i64 ((rep i:Nat):Int))∧Own w' ob 3 1 PA n cp (vj n (vN P'))∧UF n P' rep ρ∧Same (aL PA) w w':=by
 obtain⟨q,rfl,hqb,hql,_⟩:=hpa.rowc hi;have hS:SameQ [q] w w:=Same.refl _ _;have hnm:=hpa.max;refine enter Tryd.func68 Tryd.ntmps68 rfl (Nat.le_of_ble_eq_true rfl) (zn7 ?_);refine qJ [1,5,6,7,8,9,10,11,12,13,14,15,16,17,18,19,20,21,22,23,24,25,26,27,28,29,30,31,32,33,34,35,36,37,38,39] (fun m g w'=>∃ (j:Nat) (Q:Nat→Nat),j < n∧m=ρ j∧g 1= .int .i64 (j:Nat)∧Blk w' bp 125 #[c0,c1,.slice (some ⟨q,0,none⟩) n cp,.slice TA n ct,.slice LA n cl]∧Own w' ob 3 1 (some ⟨q,0,none⟩) n cp (vj n (vN Q))∧SameQ [q] w w'∧UF n Q rep ρ∧rep j=rep i) (ρ i) ?_ (fun m g1 w1 hI=>?_)
 ·exact⟨i,P,hi,rfl,rfl,hbp,hpa,hS,hu,rfl⟩
 obtain⟨j,Q,hj,hm,h1,hbp,hpa,hS,hu,hrj⟩:=hI;refine zQ 1 _ h1 nu (zn3 ?_);refine wl (x5 (v:= .pointer (some _)) rfl) (wl (ZQ rfl) (zn3 ?_));refine wl (yJ (i:=j) U70 xq rfl rfl hj rfl) (wl (qK (v:= .int _ _) U3 rfl rfl (hpa.rowq hj)) (zn4 ?_));refine zJ rfl (fun c13=>?_) (fun c13=>?_)
 ·have hne:Q j≠j:=fun e=>c13 (by rw [e])
  have hu2:=hu.half hj hne;have hlt:ρ (Q (Q j)) < ρ j:=by
    have h1:=hu.ex j hj hne;by_cases e:Q (Q j)=Q j
    · rw [e];exact h1
    · exact Nat.lt_trans (hu.ex _ (hu.lt j hj) e) h1
  have hq1:=hu.lt j hj;obtain⟨g0,cur,hA0,_,hbA,hszA,hrdA,hclA⟩:=hpa.open_ om;cases hA0;refine zn4 ?_;refine X1 19 kR kR (fun w2 s1=>?_);replace hS:=SameQ.trans hS s1 (by simp);refine ws (x5 (v:= .pointer (some _)) rfl) (ws (ZQ rfl) (zn3 ?_));refine ws (x5 (v:= .pointer (some _)) rfl) (ws (ZQ rfl) (zn2 ?_));refine ws (x5 (v:= .pointer (some _)) rfl) (ws (ZQ rfl) (zn3 ?_));refine ws (yJ (i:=j) U70 xq rfl rfl hj rfl) ?_;replace hpa:=hpa.tr0 s1;refine ws (qK (v:= .int _ _) U3 rfl rfl (hpa.rowq hj)) (ws (yJ (i:=(Q j)) U70 xq rfl rfl hq1 rfl) (ws (qK (v:= .int _ _) U3 rfl rfl (hpa.rowq hq1)) (ws (yJ (i:=j) U70 xq rfl rfl hj rfl) (QV ?_))));replace hbA:=hbA.tr0 s1;refine xZ (v:= .int _ _) hbA rfl rfl xq om rfl rfl (fun w3 hq s2=>?_);replace hS:=SameQ.trans hS s2 (by simp);replace hbA:=hq;have hpa:Own w3 ob 3 1 (some ⟨q,0,none⟩) n cp (vj n (vN (Yj Q j (Q (Q j))))):=by
    have h:=hclA _ _ _ hbA;rw [show 0 + j * 1=j by omega,KJ,u5 (g':=vN (Yj Q j (Q (Q j)))) (fun x _=>by by_cases e:x=j <;> simp [vN,Yj,e])] at h;exact h
  refine zn3 ?_;refine wl (x5 (v:= .pointer (some _)) rfl) (wl (ZQ rfl) (zn3 ?_));refine wl (yJ (i:=j) U70 xq rfl rfl hj rfl) (wl (qK (v:= .int _ _) U3 rfl rfl (by have h:=hpa.rowq hj;unfold vN at h;rw [uw] at h;exact h)) (zn3 ?_));refine yq (ρ (Q (Q j))) om agA ?_;replace hbp:=(hbp.tr0 s1).tr1 s2 om;exact⟨Q (Q j),Yj Q j (Q (Q j)),hu.lt _ (hu.lt j hj),rfl,rfl,hbp,hpa,hS,hu2,by rw [hu.rp _ (hu.lt j hj),hu.rp j hj];exact hrj⟩
 have heq:Q j=j:=by omega
 have hfx:=hu.fx j hj heq;refine Zk ?_;exact⟨Q,XW (by rw [← hrj,hfx]),hpa,hu,by simpa [aL,SameQ] using hS⟩
theorem growl_any (k:Nat) (w:World) (hk:k≤8796093022208):Calls Tryd.prog 86 #[.slice none 0 0,.int .i64 k] w fun e w'=>(∃ A cap,e= .returned (.slice A 0 cap)∧Own w' w.heap.size 95 2 A 0 cap [])∧Bel w w':=by
 refine enter Tryd.func86 Tryd.ntmps86 rfl (Nat.le_of_ble_eq_true rfl) ?_;have hB:Bel w w:=Below.refl _ _;refine vQ ?_;refine zJ rfl (fun c6=>?_) (fun c6=>?_)
 ·exact absurd c6 om
 refine zn7 ?_;refine wl (r_cap U91 rfl) (zn2 ?_);refine wl (J7 rfl rfl rfl dE) (wl (J7 (c:=k) rfl rfl om om) (zn9 ?_));refine zJ rfl (fun c16=>?_) (fun c16=>?_)
 ·have hpos:0 < k:=by omega
  refine zn3 ?_;refine wl (r_cap U91 rfl) (wl (HZ (h:=0) U91 qX rfl rfl om) (wmI rfl ?_));refine wl_appZ U91 U3 in95 rfl hpos dE om om rfl rfl (fun b22 cap22 w22 ho22 hs22 hg22 hge hle=>?_);have hB2:Bel w w22:=hB.tr0 hs22;refine zn2 ?_;refine wl (HZ (h:=0) U91 qX rfl rfl om) (gj ?_)
  first
    | exact⟨⟨_,_,rfl,ho22⟩,hB2⟩
    | exact⟨⟨none,0,rfl,Own.nil _ _ _ _⟩,hB⟩
 refine jy ?_
 first
   | exact⟨⟨_,_,rfl,ho22⟩,hB2⟩
   | exact⟨⟨none,0,rfl,Own.nil _ _ _ _⟩,hB⟩
theorem concl_any (A:Option Addr) (c:Nat) (L:List (List (Int×Int))) (w:World) (hM:LMat w A L) (hl:L.length≤1000) (hs:L.flatten.length≤8796093022208):Calls Tryd.prog 70 #[.slice A L.length c] w fun e w'=>(∃ A' cap',e= .returned (.slice A' L.flatten.length cap')∧Own w' w.heap.size 95 2 A' L.flatten.length cap' (lnV L.flatten))∧Bel w w':=by
 refine enter Tryd.func70 Tryd.ntmps70 rfl (Nat.le_of_ble_eq_true rfl) ?_;have hB:Bel w w:=Below.refl _ _;refine zn19 ?_;refine qJ [3,5,11,12,13,14,15,16,17,18,19,20,21,22] (fun m g w'=>∃ k:Nat,k≤L.length∧m=L.length - k∧g 11= .int .i64 k∧g 3= .int .i64 (Ej L k)∧Bel w w') (L.length) ?_ (fun m g3 w1 hI=>?_)
 ·exact⟨0,Nat.zero_le _,rfl,rfl,rfl,hB⟩
 obtain⟨k,hk,hm,h11,h3,hB⟩:=hI;refine zQ 11 _ h11 nu (zQ 3 _ h3 nu (zn6 ?_));refine zJ rfl (fun c12=>?_) (fun c12=>?_)
 ·have hlt:k < L.length:=by omega
  obtain⟨mb,mo,MA,mc,rfl,hmr,hmi⟩:=hM.at_ hB hlt;have hss:=PV hlt;have hsl:=Hj L (k + 1);refine zn7 ?_;refine wl (qK (v:= .slice _ _ _) U91 rfl rfl hmr) (zn8 ?_);refine wl (Q5 (c:=(Ej L (k + 1):Nat)) rfl rfl om om) (zn9 ?_);refine zJ rfl (fun c20=>?_) (fun c20=>?_)
  ·exact absurd c20 om
  refine zn7 ?_;refine yq (L.length - (k + 1)) om agA ?_;exact⟨k + 1,by omega,rfl,rfl,rfl,hB⟩
 have hke:Ej L k=L.flatten.length:=by unfold Ej;rw [Sx om]
 obtain⟨bz,hbz⟩:∃ z,z=w1.heap.size:=⟨_,rfl⟩
 refine zn8 ?_;have hbs:=Bel.size hB;refine zX fn86 (growl_any (Ej L k) _ om) rfl (fun e' w2 hr=>?_);obtain⟨⟨A6,cap6,rfl,ho6⟩,s1⟩:=hr;replace s1:=sB s1;replace ho6:=ho6.low hbs;refine⟨_,rfl,?_⟩;refine vQ ?_;replace hB:=hB.tr0 s1;refine qJ [6,8,27,28,29,30,31,32,33,34] (fun m g w'=>∃ (k cap6:Nat) (A6:Option Addr),k≤L.length∧m=L.length - k∧g 27= .int .i64 k∧g 6= .slice A6 (L.take k).flatten.length cap6∧Bel w w'∧Own w' w.heap.size 95 2 A6 (L.take k).flatten.length cap6 (lnV (L.take k).flatten)) (L.length) ?_ (fun m g11 w3 hI=>?_)
 ·exact⟨0,cap6,A6,Nat.zero_le _,rfl,rfl,rfl,hB,ho6⟩
 obtain⟨k,cap6,A6,hk,hm,h27,h6,hB,ho6⟩:=hI;refine zQ 27 _ h27 nu (zQ 6 _ h6 nu (zn6 ?_));refine zJ rfl (fun c28=>?_) (fun c28=>?_)
 ·have hlt:k < L.length:=by omega
  obtain⟨mb,mo,MA,mc,rfl,hmr,hmi⟩:=hM.at_ hB hlt;have hss:=PV hlt;have hsl:=Hj L (k + 1);have hsk:(L.take k).flatten.length=Ej L k:=rfl;refine zn7 ?_;refine wl (qK (v:= .slice _ _ _) U91 rfl rfl hmr) (zn6 ?_);have hbb:=Bel.size hB;refine WK (e:=95) (news:=lnV (L[k]'hlt)) U91 in95 rfl dE ho6 rfl rfl hmi.news (Qy _) (lnV_one _) om om hbb (fun AN capN wN hoN hsN hgN=>?_);have hBN:Bel w wN:=hB.tr hsN (fun g hg=>(ho6.lt g hg).1);replace hoN:Own wN w.heap.size 95 2 AN (L.take (k + 1)).flatten.length capN (lnV (L.take (k + 1)).flatten):=by
    rw [JX hlt,List.length_append,L6];exact hoN
  refine zn8 ?_;refine yq (L.length - (k + 1)) om agA ?_;refine⟨k + 1,capN,AN,by omega,rfl,rfl,?_,hBN,hoN⟩;rw [JX hlt,List.length_append];rfl
 have hke:(L.take k).flatten=L.flatten:=Sx om;refine Zk ?_;refine⟨⟨A6,cap6,?_,?_⟩,hB⟩
 · show Ending.returned (.slice A6 (L.take k).flatten.length cap6)=_
   rw [hke]
 · rw [hke] at ho6
   exact ho6
end Go.Proofs.YtdgnllfbooklcaaDoor
