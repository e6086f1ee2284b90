/- Terms written as tables: each node with its parts' places and the place above; what the types of the places are. No program in sight. Stacks of types and terms that a world holds. No program in sight. Slices cut at their length, and what is appended to them; rows of types. No program in sight. The engine's third part: regions that draw their order, with intervals of blocks. Slices of slices of ints, as they lie in a world. No program in sight. Lines that describe a hierarchy: what they make, and how a hierarchy that grows lies in a world. No program in sight. Rows of a table of terms, as a world holds them. No program in sight. The types of the places of a table, as a world holds them. No program in sight. -/
import Derived.Test.YtdkfnakncaggoaaGreatDoorMask
import Derived.Test.YtdkfnakncaggoaaGreatDoorGrm
import Derived.ArgAppend
import Derived.Test.YtdkfnakncaggoaaGreatDoorData
import Derived.Lib.AppendZerosOnto
import Derived.Test.YtdkfnakncaggoaaGreatDoorDfs
import Derived.Test.YtdkfnakncaggoaaGreatDoorUnmet
namespace Go.Proofs.YtdkfnakncaggoaaGreatDoor
open Go.RowKit
structure Rw where
  kind:Int
  name:ByteArray
  typ:Sm
  index:Int
  kids:List Int
  up:Int
def rws:Int→Nat→Tv→List Rw
  | up,_,.con nm τ=>[⟨1,nm,τ.sm,0,[],up⟩]
  | up,_,.var i=>[⟨2,⟨#[]⟩,smZ,i,[],up⟩]
  | up,p,.abs τ x=>⟨3,⟨#[]⟩,τ.sm,0,[((p + 1:Nat):Int)],up⟩ :: rws p (p + 1) x
  | up,p,.app x y=>⟨4,⟨#[]⟩,smZ,0,[((p + 1:Nat):Int),((p + 1 + x.size:Nat):Int)],up⟩ :: (rws p (p + 1) x ++ rws p (p + 1 + x.size) y)
theorem Q6:∀ (up:Int) (p:Nat) (v:Tv),(rws up p v).length=v.size
  | _,_,.con _ _=>rfl
  | _,_,.var _=>rfl
  | _,p,.abs τ x=>by simp only [rws,List.length_cons,Q6 _ _ x,Tv.size]
  | _,p,.app x y=>by simp only [rws,List.length_cons,List.length_append,Q6 _ _ x,Q6 _ _ y,Tv.size]
def RwAt (l:List Rw) (p:Nat) (s:List Rw):Prop:=∀ j (h:j < s.length),l[p + j]? =some s[j]
theorem RwAt.app {l:List Rw} {p:Nat} {s t:List Rw} (h:RwAt l p (s ++ t)):RwAt l p s∧RwAt l (p + s.length) t:=by
  refine⟨fun j hj=>?_,fun j hj=>?_⟩
  · have:=h j (by rw [List.length_append];omega)
    rwa [List.getElem_append_left hj] at this
  · have:=h (s.length + j) (by rw [List.length_append];omega)
    rw [List.getElem_append_right om,← Nat.add_assoc] at this;rw [this];simp
theorem RwAt.cons {l:List Rw} {p:Nat} {r:Rw} {t:List Rw} (h:RwAt l p (r :: t)):l[p]? =some r∧RwAt l (p + 1) t:=by
  refine⟨h 0 (by simp),fun j hj=>?_⟩;have:=h (j + 1) (by rw [List.length_cons];omega);rw [List.getElem_cons_succ,show p + (j + 1)=p + 1 + j by omega] at this;exact this
inductive Chn (l:List Rw):Int→List Ts→Prop
  | nil:Chn l (-1) []
  | abs {u:Nat} {r:Rw} {τ:Ts} {Γ:List Ts} (h:l[u]? =some r) (hk:r.kind=3) (ht:r.typ=τ.sm) (hu:r.up < u) (hc:Chn l r.up Γ):Chn l u (τ :: Γ)
  | app {u:Nat} {r:Rw} {Γ:List Ts} (h:l[u]? =some r) (hk:r.kind≠3) (hu:r.up < u) (hc:Chn l r.up Γ):Chn l u Γ
def QZ (l:List Rw):Nat→List Ts→Tv→Prop
  | p,_,.con _ τ=>∃ r,l[p]? =some r∧r.kind=1∧r.typ=τ.sm
  | p,Γ,.var i=>∃ r,l[p]? =some r∧r.kind=2∧r.index=i∧r.up < p∧Chn l r.up Γ
  | p,Γ,.abs τ x=>(∃ r,l[p]? =some r∧r.kind=3∧r.typ=τ.sm∧r.kids= [((p + 1:Nat):Int)])∧QZ l (p + 1) (τ :: Γ) x
  | p,Γ,.app x y=>(∃ r,l[p]? =some r∧r.kind=4∧r.kids= [((p + 1:Nat):Int),((p + 1 + x.size:Nat):Int)])∧QZ l (p + 1) Γ x∧QZ l (p + 1 + x.size) Γ y
theorem O3 {l:List Rw}:∀ {v:Tv} {up:Int} {p:Nat} {Γ:List Ts},RwAt l p (rws up p v)→Chn l up Γ→up < p→QZ l p Γ v
  | .con nm τ,up,p,Γ,h,hc,hu=>⟨_,(h.cons).1,rfl,rfl⟩
  | .var i,up,p,Γ,h,hc,hu=>⟨_,(h.cons).1,rfl,rfl,hu,hc⟩
  | .abs τ x,up,p,Γ,h,hc,hu=>by
    obtain⟨h1,h2⟩:=RwAt.cons h
    exact⟨⟨_,h1,rfl,rfl,rfl⟩,O3 h2 (.abs h1 rfl rfl hu hc) om⟩
  | .app x y,up,p,Γ,h,hc,hu=>by
    obtain⟨h1,h2⟩:=RwAt.cons h
    obtain⟨h3,h4⟩:=h2.app
    rw [Q6] at h4
    have hC:Chn l p Γ:= .app h1 (show (4:Int)≠3 by decide) hu hc
    exact⟨⟨_,h1,rfl,rfl⟩,O3 h3 hC om,O3 h4 hC om⟩
def nds:List Ts→Tv→List (List Ts×Tv)
  | Γ,.con nm τ=>[(Γ,.con nm τ)]
  | Γ,.var i=>[(Γ,.var i)]
  | Γ,.abs τ x=>(Γ,.abs τ x) :: nds (τ :: Γ) x
  | Γ,.app x y=>(Γ,.app x y) :: (nds Γ x ++ nds Γ y)
theorem JZ:∀ (Γ:List Ts) (v:Tv),(nds Γ v).length=v.size
  | _,.con _ _=>rfl
  | _,.var _=>rfl
  | _,.abs τ x=>by simp only [nds,List.length_cons,JZ _ x,Tv.size]
  | _,.app x y=>by simp only [nds,List.length_cons,List.length_append,JZ _ x,JZ _ y,Tv.size]
theorem IK {l:List Rw}:∀ {v:Tv} {p:Nat} {Γ:List Ts},QZ l p Γ v→v.ok Γ.length→(∀ σ ∈ Γ,σ.size≤200)→∀ j (h:j < (nds Γ v).length),QZ l (p + j) (nds Γ v)[j].1 (nds Γ v)[j].2∧(nds Γ v)[j].2.ok (nds Γ v)[j].1.length∧(∀ σ ∈ (nds Γ v)[j].1,σ.size≤200)∧(nds Γ v)[j].2.size≤v.size∧((tyv Γ v).isSome=true→(tyv (nds Γ v)[j].1 (nds Γ v)[j].2).isSome=true)
  | .con nm τ,p,Γ,h,ho,hG,j,hj=>by
    obtain rfl:j=0:=by simp [nds] at hj;omega
    exact⟨h,ho,hG,Nat.le_refl _,id⟩
  | .var i,p,Γ,h,ho,hG,j,hj=>by
    obtain rfl:j=0:=by simp [nds] at hj;omega
    exact⟨h,ho,hG,Nat.le_refl _,id⟩
  | .abs τ x,p,Γ,h,ho,hG,j,hj=>by
    cases j with
    | zero=>exact⟨h,ho,hG,Nat.le_refl _,id⟩
    | succ j=>
      have:=IK (v:=x) h.2 ho.2 (fun q hq=>by
        rcases List.mem_cons.1 hq with rfl | hq
        · exact ho.1
        · exact hG q hq) j (by simp only [nds,List.length_cons] at hj;omega)
      obtain⟨a1,a2,a3,a5,a4⟩:=this
      have hp:p + (j + 1)=p + 1 + j:=by omega
      refine⟨by rw [hp];exact a1,a2,a3,nLT a5 (by simp [Tv.size]),fun hs=>a4 ?_⟩
      simp only [tyv,Option.isSome_map] at hs
      exact hs
  | .app x y,p,Γ,h,ho,hG,j,hj=>by
    cases j with
    | zero=>exact⟨h,ho,hG,Nat.le_refl _,id⟩
    | succ j=>
      have hs:(tyv Γ (.app x y)).isSome=true→(tyv Γ x).isSome=true∧(tyv Γ y).isSome=true:=by
        intro e;simp only [tyv] at e
        split at e
        · rename_i a r z h1 h2
          rw [h1,h2];exact⟨rfl,rfl⟩
        · cases e
      by_cases hx:j < (nds Γ x).length
      · obtain⟨a1,a2,a3,a5,a4⟩:=IK (v:=x) h.2.1 ho.1 hG j hx
        have hp:p + (j + 1)=p + 1 + j:=by omega
        have e:(nds Γ (.app x y))[j + 1]=(nds Γ x)[j]:=by simp only [nds,List.getElem_cons_succ];exact List.getElem_append_left hx
        rw [e];exact⟨by rw [hp];exact a1,a2,a3,nLT a5 (by simp only [Tv.size];omega),fun k=>a4 (hs k).1⟩
      · have hl:=JZ Γ x
        have hj2:j - x.size < (nds Γ y).length:=by simp only [nds,List.length_cons,List.length_append] at hj;omega
        obtain⟨a1,a2,a3,a5,a4⟩:=IK (v:=y) h.2.2 ho.2 hG (j - x.size) hj2;have hp:p + (j + 1)=p + 1 + x.size + (j - x.size):=by omega
        have e:(nds Γ (.app x y))[j + 1]=(nds Γ y)[j - x.size]:=by
          simp only [nds,List.getElem_cons_succ];rw [List.getElem_append_right om];simp only [hl]
        rw [e];exact⟨by rw [hp];exact a1,a2,a3,nLT a5 (by simp only [Tv.size];omega),fun k=>a4 (hs k).2⟩
def TyAt (l:List Rw) (p:Nat) (τ:Ts):Prop:=∀ Γ v,QZ l p Γ v→tyv Γ v=some τ
theorem xj {α:Type} {o:Option α} {a b:α} (h:o=some a) (k:o=some b):a=b:=Option.some.inj (h.symm.trans k)
theorem TyAt.con {l:List Rw} {p:Nat} {r:Rw} {τ:Ts} (h:l[p]? =some r) (hk:r.kind=1) (ht:r.typ=τ.sm):TyAt l p τ:=by
  intro Γ v hv;cases v with
  | con nm σ=>
    obtain⟨r',h1,_,h2⟩:=hv;cases xj h h1;rw [Ts.sm_inj (h2.symm.trans ht)];rfl
  | var i=>obtain⟨r',h1,h2,_⟩:=hv;cases xj h h1;rw [hk] at h2;cases h2
  | abs σ x=>obtain⟨⟨r',h1,h2,_⟩,_⟩:=hv;cases xj h h1;rw [hk] at h2;cases h2
  | app x y=>obtain⟨⟨r',h1,h2,_⟩,_⟩:=hv;cases xj h h1;rw [hk] at h2;cases h2
theorem Chn.uniq {l:List Rw} {u:Int} {Γ Δ:List Ts} (h:Chn l u Γ) (k:Chn l u Δ):Γ=Δ:=by
  induction h generalizing Δ with
  | nil=>
    generalize e:(-1:Int)=z at k
    cases k with
    | nil=>rfl
    | @abs u=>omega
    | @app u=>omega
  | @abs u r τ Γ h hk ht hu hc ih=>
    generalize e:(u:Int)=z at k
    cases k with
    | nil=>omega
    | @abs u2 r2 τ2 Γ2 h2 hk2 ht2 hu2 hc2=>
      obtain rfl:u=u2:=by omega
      cases xj h h2;rw [ih hc2,Ts.sm_inj (ht.symm.trans ht2)]
    | @app u2 r2 Γ2 h2 hk2 hu2 hc2=>
      obtain rfl:u=u2:=by omega
      cases xj h h2;exact absurd hk hk2
  | @app u r Γ h hk hu hc ih=>
    generalize e:(u:Int)=z at k
    cases k with
    | nil=>omega
    | @abs u2 r2 τ2 Γ2 h2 hk2 ht2 hu2 hc2=>
      obtain rfl:u=u2:=by omega
      cases xj h h2;exact absurd hk2 hk
    | @app u2 r2 Γ2 h2 hk2 hu2 hc2=>
      obtain rfl:u=u2:=by omega
      cases xj h h2;exact ih hc2
theorem TyAt.var {l:List Rw} {p i:Nat} {r:Rw} {τ:Ts} {Γ:List Ts} (h:l[p]? =some r) (hk:r.kind=2) (hi:r.index=i) (hc:Chn l r.up Γ) (ht:Γ[i]? =some τ):TyAt l p τ:=by
  intro Δ v hv;cases v with
  | con nm σ=>obtain⟨r',h1,h2,_⟩:=hv;cases xj h h1;rw [hk] at h2;cases h2
  | var j=>
    obtain⟨r',h1,_,h2,_,h3⟩:=hv;cases xj h h1;rw [hi] at h2;rw [show j=i by omega,← hc.uniq h3];exact ht
  | abs σ x=>obtain⟨⟨r',h1,h2,_⟩,_⟩:=hv;cases xj h h1;rw [hk] at h2;cases h2
  | app x y=>obtain⟨⟨r',h1,h2,_⟩,_⟩:=hv;cases xj h h1;rw [hk] at h2;cases h2
theorem TyAt.abs {l:List Rw} {p:Nat} {r:Rw} {τ ρ:Ts} (h:l[p]? =some r) (hk:r.kind=3) (ht:r.typ=τ.sm) (hx:TyAt l (p + 1) ρ):TyAt l p (.f τ ρ):=by
  intro Γ v hv;cases v with
  | con nm σ=>obtain⟨r',h1,h2,_⟩:=hv;cases xj h h1;rw [hk] at h2;cases h2
  | var i=>obtain⟨r',h1,h2,_⟩:=hv;cases xj h h1;rw [hk] at h2;cases h2
  | abs σ x=>
    obtain⟨⟨r',h1,h2,h3,_⟩,h4⟩:=hv;cases xj h h1;show (tyv (σ :: Γ) x).map (Ts.f σ)=_;rw [hx _ _ h4,Ts.sm_inj (h3.symm.trans ht)];rfl
  | app x y=>obtain⟨⟨r',h1,h2,_⟩,_⟩:=hv;cases xj h h1;rw [hk] at h2;cases h2
theorem TyAt.app {l:List Rw} {p q:Nat} {r:Rw} {a ρ:Ts} (h:l[p]? =some r) (hk:r.kind=4) (hq:r.kids= [((p + 1:Nat):Int),(q:Int)]) (hx:TyAt l (p + 1) (.f a ρ)) (hy:TyAt l q a):TyAt l p ρ:=by
  intro Γ v hv;cases v with
  | con nm σ=>obtain⟨r',h1,h2,_⟩:=hv;cases xj h h1;rw [hk] at h2;cases h2
  | var i=>obtain⟨r',h1,h2,_⟩:=hv;cases xj h h1;rw [hk] at h2;cases h2
  | abs σ x=>obtain⟨⟨r',h1,h2,_⟩,_⟩:=hv;cases xj h h1;rw [hk] at h2;cases h2
  | app x y=>
    obtain⟨⟨r',h1,_,h2⟩,h3,h4⟩:=hv;cases xj h h1;rw [hq] at h2;simp only [List.cons.injEq,and_true,true_and] at h2;rw [show p + 1 + x.size=q by omega] at h4;simp only [tyv,hx _ _ h3,hy _ _ h4];rw [if_pos (Ts.eqb_iff.2 rfl)]
theorem ty_no {l:List Rw} {p q:Nat} {r:Rw} {α β:Ts} {Γ:List Ts} {v:Tv} (hv:QZ l p Γ v) (h:l[p]? =some r) (hk:r.kind=4) (hq:r.kids= [((p + 1:Nat):Int),(q:Int)]) (hx:TyAt l (p + 1) α) (hy:TyAt l q β) (hn:∀ ρ:Ts,α≠Ts.f β ρ):tyv Γ v=none:=by
  cases v with
  | con nm σ=>obtain⟨r',h1,h2,_⟩:=hv;cases xj h h1;rw [hk] at h2;cases h2
  | var i=>obtain⟨r',h1,h2,_⟩:=hv;cases xj h h1;rw [hk] at h2;cases h2
  | abs σ x=>obtain⟨⟨r',h1,h2,_⟩,_⟩:=hv;cases xj h h1;rw [hk] at h2;cases h2
  | app x y=>
    obtain⟨⟨r',h1,_,h2⟩,h3,h4⟩:=hv;cases xj h h1;rw [hq] at h2;simp only [List.cons.injEq,and_true,true_and] at h2;rw [show p + 1 + x.size=q by omega] at h4;simp only [tyv,hx _ _ h3,hy _ _ h4];cases α with
    | b t=>rfl
    | f a ρ=>
      by_cases e:a=β
      · subst e;exact absurd rfl (hn ρ)
      · simp only []
        rw [if_neg (fun k=>e (Ts.eqb_iff.1 k))]
end Go.Proofs.YtdkfnakncaggoaaGreatDoor
namespace Go.Proofs.YtdkfnakncaggoaaGreatDoor
open Go.RowKit
theorem H6 {w:World} {base sz cap n g:Nat} {e:TypeId} {xs ys:List Value} {m:Nat} (h:Own w base e sz (some ⟨g,0,none⟩) m cap (xs ++ ys)) (hx:xs.length=n * sz):w.rangeAt g (0 + n * sz) ys:=fun i v hv=>by
  have hi:i < ys.length:=(List.getElem?_eq_some_iff.1 hv).1
  obtain⟨g',e,_,_,hc⟩:=h.cell (by intro e;rw [List.append_eq_nil_iff] at e;rw [e.2] at hi;simp at hi)
  cases e
  have:=hc (xs.length + i) v (by rw [List.getElem?_append_right om];rw [Nat.add_sub_cancel_left];exact hv)
  rw [hx] at this
  rw [Nat.zero_add]
  exact this
theorem Blk.sub {w:World} {b t o n:Nat} {cs:Array Value} {xs:List Value} (h:Blk w b t cs) (hx:(cs.toList.drop o).take n=xs):w.rangeAt b o xs:=h.range (fun j v hj=>by
  subst hx
  rw [List.getElem?_take] at hj
  split at hj
  · rw [List.getElem?_drop] at hj
    simpa using hj
  · cases hj)
inductive StkS (w:World):List (Sm×Nat)→List Value→Prop
  | nil:StkS w [] []
  | snoc {l:List (Sm×Nat)} {vs:List Value} {s:Sm} {d:Nat} {A:Option Addr} {c:Nat} (h:StkS w l vs) (hs:SimsIn w A s.args):StkS w (l ++ [(s,d)]) (vs ++ [.string s.base,.slice A s.args.length c,.int .i64 d])
theorem StkS.len {w:World} {l:List (Sm×Nat)} {vs:List Value} (h:StkS w l vs):vs.length=l.length * 3:=by
  induction h with
  | nil=>rfl
  | snoc h hs ih=>simp only [List.length_append,ih,List.length_cons,List.length_nil];omega
theorem StkS.pop {w:World} {l:List (Sm×Nat)} {vs:List Value} (h:StkS w l vs) (hl:0 < l.length):∃ l' vs' s d A c,l=l' ++ [(s,d)]∧vs=vs' ++ [.string s.base,.slice A s.args.length c,.int .i64 (d:Nat)]∧StkS w l' vs'∧SimsIn w A s.args:=by
  cases h with
  | nil=>simp at hl
  | snoc h hs=>exact⟨_,_,_,_,_,_,rfl,rfl,h,hs⟩
inductive StkT (w:World):List (Tm×Nat×Nat)→List Value→Prop
  | nil:StkT w [] []
  | snoc {l:List (Tm×Nat×Nat)} {vs:List Value} {t:Tm} {d b:Nat} {A B:Option Addr} {c m:Nat} (h:StkT w l vs) (hs:SimsIn w A t.type.args) (ht:TmsIn w B t.args):StkT w (l ++ [(t,d,b)]) (vs ++ [.int .i64 t.kind,.string t.name,.int .i64 t.index,.string t.type.base,.slice A t.type.args.length c,.slice B t.args.length m,.int .i64 d,.int .i64 b])
theorem StkT.len {w:World} {l:List (Tm×Nat×Nat)} {vs:List Value} (h:StkT w l vs):vs.length=l.length * 8:=by
  induction h with
  | nil=>rfl
  | snoc h hs ht ih=>simp only [List.length_append,ih,List.length_cons,List.length_nil];omega
theorem StkT.pop {w:World} {l:List (Tm×Nat×Nat)} {vs:List Value} (h:StkT w l vs) (hl:0 < l.length):∃ l' vs' t d b A B c m,l=l' ++ [(t,d,b)]∧vs=vs' ++ [.int .i64 t.kind,.string t.name,.int .i64 t.index,.string t.type.base,.slice A t.type.args.length c,.slice B t.args.length m,.int .i64 (d:Nat),.int .i64 (b:Nat)]∧StkT w l' vs'∧SimsIn w A t.type.args∧TmsIn w B t.args:=by
  cases h with
  | nil=>simp at hl
  | snoc h hs ht=>exact⟨_,_,_,_,_,_,_,_,_,rfl,rfl,h,hs,ht⟩
theorem XK {α:Type} (l:List α) (x:α):(l ++ [x]).reverse=x :: l.reverse:=by simp
theorem Ts.kids_len (τ:Ts):τ.sm.args.length≤2:=by cases τ <;> simp [Ts.sm,Sm.args]
def Ts.kids:Ts→List Ts
  | .b _=>[]
  | .f x y=>[x,y]
theorem Ts.kids_sm (τ:Ts):τ.sm.args=τ.kids.map Ts.sm:=by cases τ <;> rfl
theorem Ts.kids_lt {τ x:Ts} (h:x ∈ τ.kids):x.size < τ.size:=by
  cases τ with
  | b t=>cases h
  | f a b=>
    simp only [Ts.kids,List.mem_cons,List.not_mem_nil,or_false] at h;rcases h with rfl | rfl <;> simp only [Ts.size] <;> omega
theorem Ts.ext {a b:Ts} (hb:a.sm.base=b.sm.base) (hk:a.kids=b.kids):a=b:=by
  cases a with
  | b s=>cases b with
    | b t=>cases s <;> cases t <;> first | rfl | (exfalso;revert hb;simp [Ts.sm,Sm.base,smE,smT])
    | f x y=>cases hk
  | f x y=>cases b with
    | b t=>cases hk
    | f u v=>simp only [Ts.kids,List.cons.injEq,and_true] at hk;rw [hk.1,hk.2]
theorem BX {w:World} {A:Option Addr} {τ:Ts} (h:SimsIn w A τ.sm.args) {k:Nat} (hk:k < τ.kids.length):∃ b o A' c,A=some ⟨b,o,none⟩∧b < w.heap.size∧w.rangeAt b (o + k * 2) [Value.string (τ.kids[k]).sm.base,.slice A' (τ.kids[k]).sm.args.length c]∧SimsIn w A' (τ.kids[k]).sm.args:=by
  obtain⟨b,o,A',c,h1,h2,h3,h4⟩:=h.at_ (k:=k) (by rw [Ts.kids_sm,List.length_map];exact hk);have e:τ.sm.args[k]'(by rw [Ts.kids_sm,List.length_map];exact hk)=(τ.kids[k]).sm:=by simp only [Ts.kids_sm,List.getElem_map]
  rw [e] at h3 h4;exact⟨b,o,A',c,h1,h2,h3,h4⟩
theorem take_kid {a b:List Ts} {j:Nat} (h:a.take j=b.take j) (ha:j < a.length) (hb:j < b.length) (e:a[j]=b[j]):a.take (j + 1)=b.take (j + 1):=by
  rw [List.take_succ_eq_append_getElem ha,List.take_succ_eq_append_getElem hb,h,e]
end Go.Proofs.YtdkfnakncaggoaaGreatDoor
namespace Go.Proofs.YtdkfnakncaggoaaGreatDoor
open Go.RowKit
section rules
variable {P:Program} {Q:Exit→Act→World→Prop} {n:Nat} {f:Fr} {w w':World} {ops:Array Oper} {rest:List Oper} {d:Nat} {ty:TypeId} {pos:String} {af:Array Edge} {x y z:Operand} {t t' e:TypeId}
theorem r_slF {dst:Option Tmp} {gd:Option (Nat×Bool)} {A:Option Addr} {m c h:Nat} {sz:Nat} (hu:P.underlying t=some (.slice e)) (hs:(P.info? e).map (·.size)=some sz) (hx:ev n f x= .slice A m c) (hy:ev n f y= .int .i64 (h:Int)) (hz:ev n f z= .int .i64 (h:Int)) (hh:h≤c):
    RV P n f w ⟨dst,.slice t x none (some y) (some z),ty,pos,af,gd⟩ (.slice A h h) w:=by
  cases hq:P.info? e with
  | none=>simp [hq] at hs
  | some i=>
    have h1:(Instr.sliceBound (.int .i64 (h:Int)) h .slice3C).run P w= .ok h w:=by simp [Instr.sliceBound,asIntOf]
    have h2:(Instr.sliceBound (.int .i64 (h:Int)) c .slice3Acap).run P w= .ok h w:=by simp [Instr.sliceBound,asIntOf,hh]
    have h3:(Instr.sliceBound (.int .i64 (h:Int)) h .slice3B).run P w= .ok h w:=by simp [Instr.sliceBound,asIntOf]
    cases A <;> simp [RV,execOp,hx,hy,hz,Instr.sliceAt,run_underlying hu,Instr.slice,Instr.sliceBounds,h1,h2,h3,sizeOf,typeInfo,hq,Ej]
theorem wl_appFl {zv:Value} {by' k m c b sz:Nat} {A:Option Addr} {cs:Array Value} {olds:List Value} (hu:P.underlying t=some (.slice e)) (hi:(P.info? e).map (fun i=>(i.zero,i.size,i.bytes))=some (some zv,sz,by')) (hzs:zv.cells.size=sz) (hsz:0 < sz)
    (hlo:olds.length=k * sz) (holds:∀ b',A=some b'→∀ j u,olds[j]? =some u→w.cell? (b'.add j)=some u) (hno:A=none→k=0) (hb:Blk w b e cs) (hx:ev n f x= .slice A k k) (hy:ev n f y= .slice (some ⟨b,0,none⟩) m c) (hl:cs.size=m * sz) (h1:cs.toList.all (·.oneCell')=true) (hm:0 < m) (h63:k + m≤9223372036854775807) (hbytes:(k + m) * by'≤140737488355328)
    (K:∀ g cap' w1,Own w1 w.heap.size e sz (some ⟨g,0,none⟩) (k + m) cap' (olds ++ cs.toList)→Same [] w w1→w.heap.size≤g→WL P ops Q rest n (upd f d (.slice (some ⟨g,0,none⟩) (k + m) cap')) w1):
    WL P ops Q (⟨some d,.call { callee:= .builtin .append,args:=#[x,y],argTypes:=#[t,t] },ty,pos,af,none⟩ :: rest) n f w:=by
  cases A with
  | none=>
    obtain rfl:=hno rfl;obtain rfl:olds= []:=List.eq_nil_of_length_eq_zero (by simpa using hlo);refine o8 hu hi hzs hsz (Own.nil w w.heap.size e sz) hb hx hy hl h1 hm h63 hbytes (Nat.le_refl _) (fun g cap' w1 ho hs hg=>K g cap' w1 ho hs ?_);rcases hg with h | h
    · cases h
    · exact h
  | some b'=>
    obtain⟨i,hq,hzz⟩:=Option.map_eq_some_iff.1 hi;simp only [Prod.mk.injEq] at hzz;obtain⟨v',w1,hr,ho,hg⟩:=run_append_arg_grows (P:=P) w t ty e i zv sz by' hu hq hzz.1 hzz.2.1 hzz.2.2 hzs hsz b' k k olds hlo (holds b' rfl) ⟨b,0,none⟩ m c cs.toList (by simpa using hl) (World.news_of_block hb) om h63 hbytes;have hv:∃ g cap',v'= .slice (some ⟨g,0,none⟩) (k + m) cap'∧w.heap.size≤g:=by
      rcases ho.2 with ⟨_,h0⟩ | ⟨g,cap',_,rfl,hg',_⟩
      · omega
      · exact⟨g,cap',rfl,hg'⟩
    obtain⟨g,cap',rfl,hgl⟩:=hv;refine wl (v:= .slice (some ⟨g,0,none⟩) (k + m) cap') (w':=w1) ?_ (K g cap' w1 ho (Vz (A:=none) (k:=0) (cap:=0) hg) hgl);simp only [RV,execOp,resolve,invoke,builtin,Sem.run_bind,Sem.run_pure,Result.andThen_ok,List.map_toArray,List.map_cons,List.map_nil,hx,hy,hr]
end rules
inductive SimR (w:World):List Sm→List Value→Prop
  | nil:SimR w [] []
  | snoc {l:List Sm} {vs:List Value} {s:Sm} {A:Option Addr} {c:Nat} (h:SimR w l vs) (hs:SimsIn w A s.args):SimR w (l ++ [s]) (vs ++ [.string s.base,.slice A s.args.length c])
theorem SimR.len {w:World} {l:List Sm} {vs:List Value} (h:SimR w l vs):vs.length=l.length * 2:=by
  induction h with
  | nil=>rfl
  | snoc h hs ih=>simp only [List.length_append,ih,List.length_cons,List.length_nil];omega
theorem SimR.mono {w w':World} {l:List Sm} {vs:List Value} (h:SimR w l vs) (hb:Bel w w'):SimR w' l vs:=by
  induction h with
  | nil=>exact .nil
  | snoc h hs ih=>exact .snoc ih (hs.mono hb)
theorem SimR.at_ {w:World} {l:List Sm} {vs:List Value} (h:SimR w l vs):∀ {k:Nat} (hk:k < l.length),∃ A c,vs[k * 2]? =some (.string (l[k]).base)∧vs[k * 2 + 1]? =some (.slice A (l[k]).args.length c)∧SimsIn w A (l[k]).args:=by
  induction h with
  | nil=>intro k hk;simp at hk
  | @snoc l vs s A c h hs ih=>
    intro k hk;have hl:=h.len;by_cases e:k < l.length
    · obtain⟨A',c',h1,h2,h3⟩:=ih e
      rw [List.getElem_append_left e];exact⟨A',c',by rw [List.getElem?_append_left om];exact h1,by rw [List.getElem?_append_left om];exact h2,h3⟩
    · have ek:k=l.length:=by rw [List.length_append] at hk;simp at hk;omega
      subst ek;rw [List.getElem_append_right (Nat.le_refl _)];simp only [Nat.sub_self,List.getElem_cons_zero];refine⟨A,c,?_,?_,hs⟩
      · rw [List.getElem?_append_right om,hl,Nat.sub_self];rfl
      · rw [List.getElem?_append_right om,hl,show l.length * 2 + 1 - l.length * 2=1 by omega];rfl
theorem SimsIn.row {w:World} {b o:Nat} {l:List Sm} (h:SimsIn w (some ⟨b,o,none⟩) l):∃ vs,SimR w l vs∧∀ j u,vs[j]? =some u→w.cell? ⟨b,o + j,none⟩=some u:=by
  have key:∀ k,k≤l.length→∃ vs,SimR w (l.take k) vs∧∀ j u,vs[j]? =some u→w.cell? ⟨b,o + j,none⟩=some u:=by
    intro k
    induction k with
    | zero=>exact fun _=>⟨[],.nil,fun j u hj=>by simp at hj⟩
    | succ k ih=>
      intro hk;obtain⟨vs,h1,h2⟩:=ih om;obtain⟨b',o',A',c',e,_,hr,hs⟩:=h.at_ (k:=k) om;cases e;have hl:=h1.len;rw [List.length_take,Nat.min_eq_left om] at hl;refine⟨vs ++ [.string (l[k]).base,.slice A' (l[k]).args.length c'],?_,fun j u hj=>?_⟩
      · rw [uz l om];exact .snoc h1 hs
      · by_cases e:j < vs.length
        · rw [List.getElem?_append_left e] at hj;exact h2 j u hj
        · rw [List.getElem?_append_right om] at hj
          have:=hr (j - vs.length) u hj
          rwa [hl,show o + k * 2 + (j - k * 2)=o + j by omega] at this
  obtain⟨vs,h1,h2⟩:=key l.length (Nat.le_refl _);rw [List.take_of_length_le (Nat.le_refl _)] at h1;exact⟨vs,h1,h2⟩
theorem sims_own {w:World} {base n cap g:Nat} {l:List Sm} {vs:List Value} (ho:Own w base 52 2 (some ⟨g,0,none⟩) n cap vs) (h:SimR w l vs) (hn:l.length=n) (hp:0 < n):SimsIn w (some ⟨g,0,none⟩) l:=by
  have hl:=h.len;obtain⟨g',e,_,hg,hc⟩:=ho.cell (by intro e;rw [e] at hl;simp at hl;omega);cases e;refine .more (by have:=ho.max;unfold yJ;omega) hg (fun k hk=>?_);obtain⟨A,c,h1,h2,h3⟩:=h.at_ hk;rw [show l[k]=Sm.mk (l[k]).base (l[k]).args from Sm.eta _];refine SimAt.mk (c:=c) hg (fun i v hv=>?_) h3
  match i,hv with
  | 0,hv=>cases hv;have:=hc _ _ h1;rwa [Nat.zero_add]
  | 1,hv=>cases hv;have:=hc _ _ h2;rwa [Nat.zero_add]
  | i + 2,hv=>simp at hv
def CtxIn (w:World) (C:Option Addr) (Γ:List Ts):Prop:=SimsIn w C (Γ.reverse.map Ts.sm)∧(C=none→Γ= [])
theorem CtxIn.mono {w w':World} {C:Option Addr} {Γ:List Ts} (h:CtxIn w C Γ) (hb:Bel w w'):CtxIn w' C Γ:=⟨h.1.mono hb,h.2⟩
theorem CtxIn.nil (w:World):CtxIn w none []:=⟨.nil,fun _=>rfl⟩
theorem CtxIn.at_ {w:World} {C:Option Addr} {Γ:List Ts} (h:CtxIn w C Γ) {i:Nat} {τ:Ts} (hi:Γ[i]? =some τ):∃ b o A c,C=some ⟨b,o,none⟩∧b < w.heap.size∧w.rangeAt b (o + (Γ.length - 1 - i) * 2) [.string τ.sm.base,.slice A τ.sm.args.length c]∧SimsIn w A τ.sm.args:=by
  obtain⟨hl,rfl⟩:=List.getElem?_eq_some_iff.1 hi;obtain⟨b,o,A,c,h1,h2,h3,h4⟩:=h.1.at_ (k:=Γ.length - 1 - i) (by rw [List.length_map,List.length_reverse];omega);have e:(Γ.reverse.map Ts.sm)[Γ.length - 1 - i]'(by rw [List.length_map,List.length_reverse];omega)=(Γ[i]).sm:=by
    rw [List.getElem_map,List.getElem_reverse]
    congr 2;omega
  rw [e] at h3 h4;exact⟨b,o,A,c,h1,h2,h3,h4⟩
theorem CtxIn.row {w:World} {C:Option Addr} {Γ:List Ts} (h:CtxIn w C Γ):∃ vs,SimR w (Γ.reverse.map Ts.sm) vs∧vs.length=Γ.length * 2∧(∀ b',C=some b'→∀ j u,vs[j]? =some u→w.cell? (b'.add j)=some u)∧(C=none→Γ.length=0):=by
  have hn:C=none→Γ.length=0:=fun e=>by rw [h.2 e];rfl
  cases C with
  | none=>
    have:=h.2 rfl;subst this;exact⟨[],.nil,rfl,fun b' e=>(by cases e),hn⟩
  | some a=>
    cases hq:Γ with
    | nil=>exact⟨[],.nil,rfl,fun b' e j u hj=>by simp at hj,fun e=>by cases e⟩
    | cons τ Γ'=>
      have h1:=h.1;rw [hq] at h1
      generalize el:List.map Ts.sm (τ :: Γ').reverse=l at h1
      cases h1 with
      | nil=>rw [List.map_eq_nil_iff] at el;simp at el
      | @more b o _ hl hb hx=>
        obtain⟨vs,h2,h3⟩:=SimsIn.row (.more hl hb hx);refine⟨vs,h2,by rw [h2.len,← el,List.length_map,List.length_reverse],fun b' e j u hj=>?_,fun e=>by cases e⟩;cases e;rw [Addr.add_mid];exact h3 j u hj
theorem ctx_app {w:World} {base n cap g c:Nat} {A:Option Addr} {Γ:List Ts} {τ:Ts} {vs:List Value} (ho:Own w base 52 2 (some ⟨g,0,none⟩) n cap (vs ++ [.string τ.sm.base,.slice A τ.sm.args.length c])) (h:SimR w (Γ.reverse.map Ts.sm) vs) (hs:SimsIn w A τ.sm.args) (hn:Γ.length + 1=n):CtxIn w (some ⟨g,0,none⟩) (τ :: Γ):=by
  refine⟨?_,fun e=>by cases e⟩;have e:(τ :: Γ).reverse.map Ts.sm=Γ.reverse.map Ts.sm ++ [τ.sm]:=by simp
  rw [e];exact sims_own ho (.snoc h hs) (by simp;exact hn) om
theorem I0 {w w':World} {X:List Nat} {b o:Nat} {v:Value} (hs:Same X w w') (hb:b < w.heap.size) (hx:b ∉ X) (h:w.cell? ⟨b,o,none⟩=some v):w'.cell? ⟨b,o,none⟩=some v:=by
  have e:=hs.blk b hb hx;unfold World.cell? at h ⊢;simp only [e];exact h
theorem Jz {w w':World} {b:Nat} (hb:Blk w b 52 #[.string ⟨#[]⟩,.slice none 0 0]) (hs:Same [b] w w'):∀ (τ:Ts) {A:Option Addr},SimsIn w A τ.sm.args→SimsIn w' A τ.sm.args
  | .b t,A,h=>by cases t <;> exact .nil
  | .f x y,A,h=>by
    have far:∀ (τ:Ts) (o c:Nat) (A':Option Addr),w.rangeAt b o [.string τ.sm.base,.slice A' τ.sm.args.length c]→False:=fun τ o c A' hr=>by
      have h0:=hr 0 _ rfl
      have h1:=hr 1 _ rfl
      rw [Nat.add_zero,cell_of_row w b o _ _ _ hb] at h0
      rw [cell_of_row w b (o + 1) _ _ _ hb] at h1
      match o,h0,h1 with
      | 0,h0,h1=>
        simp only [List.getElem?_toArray,List.getElem?_cons_zero,Option.some.injEq,Value.string.injEq,List.getElem?_cons_succ,Value.slice.injEq,Nat.zero_add] at h0 h1
        obtain⟨p,q,rfl⟩:∃ p q,τ= .f p q:=by
          cases τ with
          | b t=>exfalso;revert h0;cases t <;> decide
          | f p q=>exact⟨p,q,rfl⟩
        have h2:0=2:=h1.2.1;cases h2
      | 1,h0,_=>simp at h0
      | o + 2,h0,_=>simp at h0
    obtain⟨b1,o1,A0,c0,rfl,hl,hr0,hs0⟩:=h.at_ (k:=0) (by simp [Ts.sm,Sm.args]);obtain⟨_,_,A1,c1,e1,_,hr1,hs1⟩:=h.at_ (k:=1) (by simp [Ts.sm,Sm.args]);cases e1;have hne:b1 ∉ [b]:=fun hm=>by
      obtain rfl:=List.mem_singleton.1 hm;exact far x _ _ _ hr0
    refine .more (show 2≤yJ by decide) (nLL hl hs.size) (fun k hk=>?_)
    match k,hk with
    | 0,_=>
      show SimAt w' b1 (o1 + 0 * 2) x.sm;rw [Sm.eta x.sm];exact SimAt.mk (nLL hl hs.size) (fun i v hv=>I0 hs hl hne (hr0 i v hv)) (Jz hb hs x hs0)
    | 1,_=>
      show SimAt w' b1 (o1 + 1 * 2) y.sm;rw [Sm.eta y.sm];exact SimAt.mk (nLL hl hs.size) (fun i v hv=>I0 hs hl hne (hr1 i v hv)) (Jz hb hs y hs1)
end Go.Proofs.YtdkfnakncaggoaaGreatDoor
namespace Go.Proofs.YtdkfnakncaggoaaGreatDoor
open Go.RowKit
section monoi
variable {P:Program} {Q:Exit→Act→World→Prop} {n:Nat} {f:Fr} {w:World}
def FinAll (p:List Nat→Prop):List (List Nat)→Prop
  | []=>True
  | x :: r=>p x∧FinAll p r
theorem FinAll.get {p:List Nat→Prop}:∀ {xs:List (List Nat)},FinAll p xs→∀ x ∈ xs,p x
  | _ :: _,h,x,hx=>by
    rcases List.mem_cons.1 hx with rfl | hx
    · exact h.1
    · exact FinAll.get h.2 x hx
end monoi
def Kept (lo hi:Nat) (w:World) (p:World→Prop):Prop:=hi≤w.heap.size∧∀ w2:World,hi≤w2.heap.size→(∀ b,lo≤b→b < hi→w2.heap[b]? =w.heap[b]?)→p w2
theorem Kept.now {lo hi:Nat} {w:World} {p:World→Prop} (h:Kept lo hi w p):p w:=h.2 w h.1 (fun _ _ _=>rfl)
theorem Kept.tr {lo hi:Nat} {w w':World} {p:World→Prop} {X:List Nat} (h:Kept lo hi w p) (hs:Same X w w') (hx:∀ g ∈ X,g < lo∨hi≤g):Kept lo hi w' p:=
  ⟨nLT h.1 hs.size,fun w2 h2 hb=>h.2 w2 h2 (fun b h3 h4=>(hb b h3 h4).trans (hs.blk b (nLL h4 h.1) (fun hX=>by rcases hx b hX with h5 | h5 <;> omega)))⟩
theorem Kept.tr0 {lo hi:Nat} {w w':World} {p:World→Prop} (h:Kept lo hi w p) (hs:Same [] w w'):Kept lo hi w' p:=h.tr hs (by simp)
theorem Kept.tr1 {lo hi b:Nat} {w w':World} {p:World→Prop} (h:Kept lo hi w p) (hs:Same [b] w w') (hx:b < lo∨hi≤b):Kept lo hi w' p:=h.tr hs (fun g hg=>by rw [List.mem_singleton.1 hg];exact hx)
theorem Kept.imp {lo hi:Nat} {w:World} {p q:World→Prop} (h:Kept lo hi w p) (k:∀ w2,p w2→q w2):Kept lo hi w q:=⟨h.1,fun w2 h2 hb=>k w2 (h.2 w2 h2 hb)⟩
end Go.Proofs.YtdkfnakncaggoaaGreatDoor
namespace Go.Proofs.YtdkfnakncaggoaaGreatDoor
open Go.RowKit
def iV (xs:List Int):List Value:=xs.map (Value.int .i64)
theorem iV_len (xs:List Int):(iV xs).length=xs.length:=by simp [iV]
theorem IntsIn.news {w:World} {A:Option Addr} {xs:List Int} (h:IntsIn w A xs):0 < xs.length→∃ b o',A=some ⟨b,o',none⟩∧∀ j u,(iV xs)[j]? =some u→w.cell? ⟨b,o' + j,none⟩=some u:=fun hm=>by
  obtain⟨b,o,e,_,hc⟩:=h.2 (by rintro rfl;simp at hm)
  refine⟨b,o,e,fun j u hj=>?_⟩
  simp only [iV,List.getElem?_map,Option.map_eq_some_iff] at hj
  obtain⟨x,hx,rfl⟩:=hj
  obtain⟨hk,rfl⟩:=List.getElem?_eq_some_iff.1 hx
  simpa using hc j hk
def MatIn (w:World) (A:Option Addr) (L:List (List Int)):Prop:=
  L.length≤yJ∧(L≠[]→∃ b o,A=some ⟨b,o,none⟩∧b < w.heap.size∧∀ k (hk:k < L.length),∃ A' c,w.cell? ⟨b,o + k * 1,none⟩=some (.slice A' (L[k]).length c)∧IntsIn w A' L[k])
theorem MatIn.mono {w w':World} {A:Option Addr} {L:List (List Int)} (h:MatIn w A L) (hb:Bel w w'):MatIn w' A L:=
  ⟨h.1,fun hn=>by
    obtain⟨b,o,e,hl,hc⟩:=h.2 hn
    refine⟨b,o,e,nLL hl hb.size,fun k hk=>?_⟩
    obtain⟨A',c,h1,h2⟩:=hc k hk
    exact⟨A',c,hb.cell hl h1,h2.mono hb⟩⟩
theorem MatIn.at_ {w w':World} {A:Option Addr} {L:List (List Int)} (h:MatIn w A L) (hb:Bel w w') {k:Nat} (hk:k < L.length):
    ∃ b o A' c,A=some ⟨b,o,none⟩∧w'.cell? ⟨b,o + k * 1,none⟩=some (.slice A' (L[k]).length c)∧IntsIn w A' L[k]:=by
  obtain⟨b,o,e,hl,hc⟩:=h.2 (by rintro rfl;simp at hk);obtain⟨A',c,h1,h2⟩:=hc k hk;exact⟨b,o,A',c,e,hb.cell hl h1,h2⟩
end Go.Proofs.YtdkfnakncaggoaaGreatDoor
namespace Go.Proofs.YtdkfnakncaggoaaGreatDoor
open Go.RowKit
theorem gk {w:World} {base b sz k c:Nat} {e t:TypeId} {A:Option Addr} {xs:List Value} {cs:Array Value} (h:Own w base e sz A k c xs) (hb:Blk w b t cs) (hne:e≠t):∀ g ∈ aL A,g≠b:=fun g hg e1=>by
  obtain⟨c2,h2⟩:=h.typ g hg
  subst e1
  exact hne (jQ h2 hb)
def fnd (l:List Ty) (s:ByteArray):Int:=match l.findIdx? (fun t=>decide (t.name=s)) with
  | some k=>(k:Int)
  | none=>-1
def ats (l:List Ty):List ByteArray→Option (List Int)
  | []=>some []
  | x :: xs=>if fnd l x < 0 then none else (ats l xs).map (fun r=>fnd l x :: r)
def PrIn (lo hi:Nat) (w:World) (A:Option Addr) (xs:List Int):Prop:=xs.length≤yJ∧(xs≠[]→∃ g cs,A=some ⟨g,0,none⟩∧lo≤g∧g < hi∧Blk w g 3 cs∧cs.toList.take xs.length=iV xs)
theorem PrIn.tr {lo hi:Nat} {w w':World} {A:Option Addr} {xs:List Int} {X:List Nat} (h:PrIn lo hi w A xs) (hs:Same X w w') (hx:∀ g ∈ X,hi≤g∨∃ cs t,Blk w g t cs∧t≠3):PrIn lo hi w' A xs:=
  ⟨h.1,fun hn=>by
    obtain⟨g,cs,e,hlo,hl,hb,ht⟩:=h.2 hn
    refine⟨g,cs,e,hlo,hl,hb.tr hs (fun hm=>?_),ht⟩
    rcases hx g hm with h1 | ⟨cs2,t,hb2,hne⟩
    · omega
    · exact hne (jQ hb2 hb)⟩
theorem PrIn.up {lo hi hi':Nat} {w:World} {A:Option Addr} {xs:List Int} (h:PrIn lo hi w A xs) (hl:hi≤hi'):PrIn lo hi' w A xs:=
  ⟨h.1,fun hn=>by
    obtain⟨g,cs,e,hlo,hg,hb,ht⟩:=h.2 hn
    exact⟨g,cs,e,hlo,by omega,hb,ht⟩⟩
theorem PrIn.low {lo lo' hi:Nat} {w:World} {A:Option Addr} {xs:List Int} (h:PrIn lo hi w A xs) (hl:lo'≤lo):PrIn lo' hi w A xs:=
  ⟨h.1,fun hn=>by
    obtain⟨g,cs,e,hlo,hg,hb,ht⟩:=h.2 hn
    exact⟨g,cs,e,by omega,hg,hb,ht⟩⟩
theorem PrIn.fr {lo hi:Nat} {w w':World} {A:Option Addr} {xs:List Int} (h:PrIn lo hi w A xs) (hf:FrSame lo w w'):PrIn lo hi w' A xs:=
  ⟨h.1,fun hn=>by
    obtain⟨g,cs,e,hlo,hg,hb,ht⟩:=h.2 hn
    exact⟨g,cs,e,hlo,hg,hf.at_ hb hlo,ht⟩⟩
theorem own_pr {w:World} {base k cap:Nat} {A:Option Addr} {xs:List Int} (h:Own w base 3 1 A k cap (iV xs)):PrIn base w.heap.size w A xs:=by
  have h1:=h.len;have h2:=h.max;rw [iV_len,Nat.mul_one] at h1;refine⟨by unfold yJ;omega,fun hn=>?_⟩;have hp:=List.length_pos_iff.2 hn;obtain⟨g,cur,e,hlo,hb,_,_,ht⟩:=h.whole om;rw [Nat.mul_one,← h1] at ht;exact⟨g,cur,e,hlo,hb.lt,hb,ht⟩
def RowT (lo hi:Nat) (w:World) (l:List Ty) (vs:List Value):Prop:=vs.length=l.length * 2∧∀ k (hk:k < l.length),∃ A c,vs[k * 2]? =some (.string (l[k]).name)∧vs[k * 2 + 1]? =some (.slice A (l[k]).par.length c)∧PrIn lo hi w A (l[k]).par
theorem RowT.nil (lo hi:Nat) (w:World):RowT lo hi w [] []:=⟨rfl,fun k hk=>by simp at hk⟩
theorem RowT.tr {lo hi:Nat} {w w':World} {l:List Ty} {vs:List Value} {X:List Nat} (h:RowT lo hi w l vs) (hs:Same X w w') (hx:∀ g ∈ X,hi≤g∨∃ cs t,Blk w g t cs∧t≠3):RowT lo hi w' l vs:=
  ⟨h.1,fun k hk=>by obtain⟨A,c,e1,e2,hp⟩:=h.2 k hk;exact⟨A,c,e1,e2,hp.tr hs hx⟩⟩
theorem RowT.up {lo hi hi':Nat} {w:World} {l:List Ty} {vs:List Value} (h:RowT lo hi w l vs) (hl:hi≤hi'):RowT lo hi' w l vs:=
  ⟨h.1,fun k hk=>by obtain⟨A,c,e1,e2,hp⟩:=h.2 k hk;exact⟨A,c,e1,e2,hp.up hl⟩⟩
theorem RowT.fr {lo hi:Nat} {w w':World} {l:List Ty} {vs:List Value} (h:RowT lo hi w l vs) (hf:FrSame lo w w'):RowT lo hi w' l vs:=
  ⟨h.1,fun k hk=>by obtain⟨A,c,e1,e2,hp⟩:=h.2 k hk;exact⟨A,c,e1,e2,hp.fr hf⟩⟩
theorem RowT.snoc {lo hi:Nat} {w:World} {l:List Ty} {vs:List Value} {s:ByteArray} {xs:List Int} {A:Option Addr} {c:Nat} (h:RowT lo hi w l vs) (hp:PrIn lo hi w A xs):RowT lo hi w (l ++ [⟨s,xs⟩]) (vs ++ [.string s,.slice A xs.length c]):=by
  have h1:=h.1;refine⟨by simp [h1];omega,fun k hk=>?_⟩;by_cases e:k < l.length
  · obtain⟨A2,c2,e1,e2,hp2⟩:=h.2 k e
    refine⟨A2,c2,?_,?_,?_⟩
    · rw [List.getElem?_append_left om,List.getElem_append_left e];exact e1
    · rw [List.getElem?_append_left om,List.getElem_append_left e];exact e2
    · rw [List.getElem_append_left e];exact hp2
  · have e2:k=l.length:=by simp at hk;omega
    subst e2;refine⟨A,c,?_,?_,?_⟩
    · rw [List.getElem?_append_right om,h1,Nat.sub_self];simp
    · rw [List.getElem?_append_right om,h1,show l.length * 2 + 1 - l.length * 2=1 by omega];simp
    · simpa using hp
section rules
variable {P:Program} {n:Nat} {f:Fr} {w:World} {ty:TypeId} {pos:String} {af:Array Edge} {x y:Operand} {t e:TypeId}
end rules
end Go.Proofs.YtdkfnakncaggoaaGreatDoor
namespace Go.Proofs.YtdkfnakncaggoaaGreatDoor
open Go.RowKit
def KidIn (w:World) (D:Nat→Prop) (A:Option Addr) (xs:List Int):Prop:=xs.length≤yJ∧(xs≠[]→∃ g cs,A=some ⟨g,0,none⟩∧D g∧Blk w g 3 cs∧cs.toList.take xs.length=iV xs)
theorem KidIn.nil (w:World) (D:Nat→Prop) (A:Option Addr):KidIn w D A []:=⟨Nat.zero_le _,fun h=>absurd rfl h⟩
theorem KidIn.chG {w w':World} {D Z:Nat→Prop} {A:Option Addr} {xs:List Int} (h:KidIn w D A xs) (hc:ChG Z w w') (hz:∀ g,Z g→¬D g∨∃ cs t,Blk w g t cs∧t≠3):KidIn w' D A xs:=
  ⟨h.1,fun hn=>by
    obtain⟨g,cs,e,hd,hb,ht⟩:=h.2 hn
    refine⟨g,cs,e,hd,hb.chG hc (fun hm=>?_),ht⟩
    rcases hz g hm with h1 | ⟨c2,t2,h1,h2⟩
    · exact h1 hd
    · exact h2 (jQ h1 hb)⟩
theorem ChG.of_same {X:List Nat} {w w':World} (h:Same X w w'):ChG (fun g=>g ∈ X) w w':=⟨h.os,h.tape,h.output,h.size,fun k hk hx=>h.blk k hk hx⟩
theorem KidIn.weak {w:World} {D D':Nat→Prop} {A:Option Addr} {xs:List Int} (h:KidIn w D A xs) (hd:∀ g,g < w.heap.size→D g→D' g):KidIn w D' A xs:=
  ⟨h.1,fun hn=>by
    obtain⟨g,cs,e,h1,hb,ht⟩:=h.2 hn
    exact⟨g,cs,e,hd g hb.lt h1,hb,ht⟩⟩
theorem KidIn.own {w:World} {base k cap:Nat} {A:Option Addr} {xs:List Int} (h:Own w base 3 1 A k cap (iV xs)) (hk:k=xs.length):KidIn w (fun g=>base≤g) A xs:=by
  subst hk;have h2:=own_pr h
  exact⟨h2.1,fun hn=>by
    obtain⟨g,cs,e,h3,_,h4,h5⟩:=h2.2 hn
    exact⟨g,cs,e,h3,h4,h5⟩⟩
theorem KidIn.cell {w:World} {D:Nat→Prop} {A:Option Addr} {xs:List Int} (h:KidIn w D A xs) {j:Nat} (hj:j < xs.length):∃ g,A=some ⟨g,0,none⟩∧g < w.heap.size∧w.cell? ⟨g,0 + j * 1,none⟩=some (.int .i64 xs[j]):=by
  obtain⟨g,cs,e,_,hb,ht⟩:=h.2 (by intro e;rw [e] at hj;simp at hj);refine⟨g,e,hb.lt,hb.cell ?_⟩;have h1:(cs.toList.take xs.length)[j]? =some (.int .i64 xs[j]):=by rw [ht];simp [iV,hj]
  rw [List.getElem?_take_of_lt hj,Array.getElem?_toList] at h1;rw [Nat.zero_add,Nat.mul_one];exact h1
def rwV (r:Rw) (A:Option Addr) (c:Nat) (K:Option Addr) (ck:Nat):List Value:=[.int .i64 r.kind,.string r.name,.string r.typ.base,.slice A r.typ.args.length c,.int .i64 r.index,.slice K r.kids.length ck,.int .i64 r.up]
inductive RwsIn (w0 w:World) (D:Nat→Prop):List Rw→List Value→Prop
  | nil:RwsIn w0 w D [] []
  | cons {r:Rw} {l:List Rw} {vs:List Value} {A K:Option Addr} {c ck:Nat} (hs:SimsIn w0 A r.typ.args) (hk:KidIn w D K r.kids) (h:RwsIn w0 w D l vs):RwsIn w0 w D (r :: l) (rwV r A c K ck ++ vs)
theorem RwsIn.len {w0 w:World} {D:Nat→Prop} {l:List Rw} {vs:List Value} (h:RwsIn w0 w D l vs):vs.length=l.length * 7:=by
  induction h with
  | nil=>rfl
  | cons hs hk h ih=>simp only [List.length_append,ih,List.length_cons,rwV,List.length_nil];omega
theorem RwsIn.chG {w0 w w':World} {D Z:Nat→Prop} {l:List Rw} {vs:List Value} (h:RwsIn w0 w D l vs) (hc:ChG Z w w') (hz:∀ g,Z g→¬D g∨∃ cs t,Blk w g t cs∧t≠3):RwsIn w0 w' D l vs:=by
  induction h with
  | nil=>exact .nil
  | cons hs hk h ih=>exact .cons hs (hk.chG hc hz) ih
theorem RwsIn.tr {w0 w w':World} {D:Nat→Prop} {X:List Nat} {l:List Rw} {vs:List Value} (h:RwsIn w0 w D l vs) (hs:Same X w w') (hz:∀ g,g ∈ X→¬D g∨∃ cs t,Blk w g t cs∧t≠3):RwsIn w0 w' D l vs:=h.chG (ChG.of_same hs) hz
theorem RwsIn.weak {w0 w:World} {D D':Nat→Prop} {l:List Rw} {vs:List Value} (h:RwsIn w0 w D l vs) (hd:∀ g,g < w.heap.size→D g→D' g):RwsIn w0 w D' l vs:=by
  induction h with
  | nil=>exact .nil
  | cons hs hk h ih=>exact .cons hs (hk.weak hd) ih
theorem RwsIn.app {w0 w:World} {D:Nat→Prop} {l m:List Rw} {vs us:List Value} (h:RwsIn w0 w D l vs) (k:RwsIn w0 w D m us):RwsIn w0 w D (l ++ m) (vs ++ us):=by
  induction h with
  | nil=>exact k
  | cons hs hk h ih=>rw [List.append_assoc];exact .cons hs hk ih
theorem RwsIn.at_ {w0 w:World} {D:Nat→Prop} {l:List Rw} {vs:List Value} (h:RwsIn w0 w D l vs):∀ {k:Nat} {r:Rw},l[k]? =some r→∃ A c K ck,(vs.drop (k * 7)).take 7=rwV r A c K ck∧SimsIn w0 A r.typ.args∧KidIn w D K r.kids:=by
  induction h with
  | nil=>intro k r hk;simp at hk
  | @cons r' l vs A K c ck hs hk h ih=>
    intro k r hr;cases k with
    | zero=>
      obtain rfl:=Option.some.inj hr;exact⟨A,c,K,ck,by rw [Nat.zero_mul,List.drop_zero];exact List.take_left' rfl,hs,hk⟩
    | succ k=>
      obtain⟨A',c',K',ck',h1,h2⟩:=ih (k:=k) (r:=r) hr;refine⟨A',c',K',ck',?_,h2⟩;rw [show (k + 1) * 7=7 + k * 7 by omega,← List.drop_drop,show List.drop 7 (rwV r' A c K ck ++ vs)=vs from List.drop_left' rfl];exact h1
theorem own_mid {w:World} {base sz cap g m o n:Nat} {e:TypeId} {xs ys:List Value} (h:Own w base e sz (some ⟨g,0,none⟩) m cap xs) (hx:(xs.drop o).take n=ys):w.rangeAt g (0 + o) ys:=fun i v hv=>by
  subst hx
  rw [List.getElem?_take] at hv
  split at hv
  · rw [List.getElem?_drop] at hv
    have hi:=(List.getElem?_eq_some_iff.1 hv).1
    obtain⟨g',e,_,_,hc⟩:=h.cell (by intro e;rw [e] at hi;simp at hi)
    cases e
    rw [Nat.zero_add]
    exact hc _ v hv
  · cases hv
def Tv.parts:Tv→List Tv
  | .con _ _=>[]
  | .var _=>[]
  | .abs _ x=>[x]
  | .app x y=>[x,y]
def hd (v:Tv) (up:Int) (ks:List Int):Rw:=⟨v.tm.kind,v.tm.name,v.tm.type,v.tm.index,ks,up⟩
def Sy (p:Nat):List Tv→List Int→List Rw→List Int×List Rw
  | [],ks,t=>(ks,t)
  | x :: r,ks,t=>Sy p r (ks ++ [((p + 1 + t.length:Nat):Int)]) (t ++ rws p (p + 1 + t.length) x)
theorem rws_acc (up:Int) (p:Nat) (v:Tv):rws up p v=hd v up (Sy p v.parts [] []).1 :: (Sy p v.parts [] []).2:=by
  cases v with
  | con nm τ=>rfl
  | var i=>rfl
  | abs τ x=>simp [rws,Sy,Tv.parts,hd,Tv.tm,Tm.kind,Tm.name,Tm.type,Tm.index]
  | app x y=>simp [rws,Sy,Tv.parts,hd,Tv.tm,Tm.kind,Tm.name,Tm.type,Tm.index,Q6]
theorem MV (v:Tv):v.tm.args=v.parts.map Tv.tm:=by cases v <;> rfl
theorem parts_lt {v x:Tv} (h:x ∈ v.parts):x.size < v.size:=by
  cases v with
  | con nm τ=>cases h
  | var i=>cases h
  | abs τ y=>simp only [Tv.parts,List.mem_singleton] at h;subst h;simp [Tv.size]
  | app y z=>
    simp only [Tv.parts,List.mem_cons,List.not_mem_nil,or_false] at h;rcases h with rfl | rfl <;> simp only [Tv.size] <;> omega
theorem parts_len (v:Tv):v.parts.length≤2:=by cases v <;> simp [Tv.parts]
theorem parts_sum (v:Tv):(v.parts.map Tv.size).sum + 1=v.size:=by cases v <;> simp [Tv.parts,Tv.size]
theorem tms_part {w:World} {A:Option Addr} {v:Tv} (h:TmsIn w A v.tm.args) {k:Nat} (hk:k < v.parts.length):∃ b o A' c B d,A=some ⟨b,o,none⟩∧b < w.heap.size∧w.rangeAt b (o + k * 6) [Value.int .i64 (v.parts[k]).tm.kind,.string (v.parts[k]).tm.name,.int .i64 (v.parts[k]).tm.index,.string (v.parts[k]).tm.type.base,.slice A' (v.parts[k]).tm.type.args.length c,.slice B (v.parts[k]).tm.args.length d]∧SimsIn w A' (v.parts[k]).tm.type.args∧TmsIn w B (v.parts[k]).tm.args:=by
  have hk2:k < v.tm.args.length:=by rw [MV,List.length_map];exact hk
  obtain⟨b,o,A',c,B,d,h1,h2,h3,h4,h5⟩:=h.at_ hk2;have e:v.tm.args[k]'hk2=(v.parts[k]).tm:=by simp only [MV,List.getElem_map]
  rw [e] at h3 h4 h5;exact⟨b,o,A',c,B,d,h1,h2,h3,h4,h5⟩
theorem DZ {α:Type} (a:List α) (x y:α) (b:List α) (i:Nat) (h:i=a.length):(a ++ x :: b).set i y=a ++ y :: b:=by
  subst h
  induction a with
  | nil=>rfl
  | cons z a ih=>simp only [List.cons_append,List.length_cons,List.set_cons_succ,ih]
theorem rw_set {vs ys:List Value} {r:Rw} {A K K':Option Addr} {c ck ck' n:Nat} {ks:List Int} (h:vs.length=n * 7):(vs ++ rwV r A c K ck ++ ys).set (0 + n * 7 + 5) (.slice K' ks.length ck')=vs ++ rwV { r with kids:=ks } A c K' ck' ++ ys:=by
  have h2:=DZ (vs ++ [.int .i64 r.kind,.string r.name,.string r.typ.base,.slice A r.typ.args.length c,.int .i64 r.index]) (.slice K r.kids.length ck) (.slice K' ks.length ck') ([.int .i64 r.up] ++ ys) (0 + n * 7 + 5) (by simp [h])
  simpa [rwV] using h2
theorem rw_kid {vs ys:List Value} {r:Rw} {A K:Option Addr} {c ck n:Nat} (h:vs.length=n * 7):(vs ++ rwV r A c K ck ++ ys)[0 + n * 7 + 5]? =some (.slice K r.kids.length ck):=by
  rw [List.append_assoc,List.getElem?_append_right om,h,show 0 + n * 7 + 5 - n * 7=5 by omega];rfl
theorem ChG.same {X:List Nat} {w w':World} (h:ChG (fun g=>g ∈ X) w w'):Same X w w':=⟨h.os,h.tape,h.output,h.size,fun k hk hx=>h.blk k hk hx⟩
end Go.Proofs.YtdkfnakncaggoaaGreatDoor
namespace Go.Proofs.YtdkfnakncaggoaaGreatDoor
open Go.RowKit
def RdT (w0 w:World) (q:Nat) (ls:List Rw):Prop:=∀ k r,ls[k]? =some r→∃ A c K ck,w.rangeAt q (0 + k * 7) [.int .i64 r.kind,.string r.name,.string r.typ.base,.slice A r.typ.args.length c,.int .i64 r.index,.slice K r.kids.length ck,.int .i64 r.up]∧w.rangeAt q (0 + k * 7 + 2) [.string r.typ.base,.slice A r.typ.args.length c]∧SimsIn w0 A r.typ.args∧∀ j (hj:j < r.kids.length),∃ g,K=some ⟨g,0,none⟩∧g < w.heap.size∧w.cell? ⟨g,0 + j * 1,none⟩=some (.int .i64 r.kids[j])
theorem rdt_of {w0 w:World} {q n cap base:Nat} {D:Nat→Prop} {ls:List Rw} {zs:List Value} (ho:Own w base 170 7 (some ⟨q,0,none⟩) n cap zs) (h:RwsIn w0 w D ls zs):RdT w0 w q ls:=fun k r hr=>by
  obtain⟨A,c,K,ck,h1,h2,h3⟩:=h.at_ hr
  have hm:=own_mid ho h1
  refine⟨A,c,K,ck,hm,fun i v hv=>?_,h2,fun j hj=>h3.cell hj⟩
  match i,hv with
  | 0,hv=>exact hm 2 v hv
  | 1,hv=>exact hm 3 v hv
  | i + 2,hv=>simp at hv
theorem nd_row {l:List Rw} {p:Nat} {Γ:List Ts} {v:Tv} (h:QZ l p Γ v):∃ r,l[p]? =some r∧(r.kind=1∨r.kind=2∨r.kind=3∨r.kind=4):=by
  cases v with
  | con nm τ=>obtain⟨r,h1,h2,_⟩:=h;exact⟨r,h1,.inl h2⟩
  | var i=>obtain⟨r,h1,h2,_⟩:=h;exact⟨r,h1,.inr (.inl h2)⟩
  | abs τ x=>obtain⟨⟨r,h1,h2,_⟩,_⟩:=h;exact⟨r,h1,.inr (.inr (.inl h2))⟩
  | app x y=>obtain⟨⟨r,h1,h2,_⟩,_⟩:=h;exact⟨r,h1,.inr (.inr (.inr h2))⟩
theorem nd_lt {l:List Rw} {p:Nat} {Γ:List Ts} {v:Tv} (h:QZ l p Γ v):p < l.length:=by
  obtain⟨r,h1,_⟩:=nd_row h;exact(List.getElem?_eq_some_iff.1 h1).1
section nd
variable {l:List Rw} {p:Nat} {r:Rw} {Γ:List Ts} {v:Tv}
theorem nd_con (h:QZ l p Γ v) (hr:l[p]? =some r) (hk:r.kind=1):∃ nm τ,v= .con nm τ∧r.typ=τ.sm:=by
  cases v with
  | con nm τ=>obtain⟨r',h1,_,h2⟩:=h;cases xj hr h1;exact⟨nm,τ,rfl,h2⟩
  | var i=>obtain⟨r',h1,h2,_⟩:=h;cases xj hr h1;rw [hk] at h2;cases h2
  | abs σ x=>obtain⟨⟨r',h1,h2,_⟩,_⟩:=h;cases xj hr h1;rw [hk] at h2;cases h2
  | app x y=>obtain⟨⟨r',h1,h2,_⟩,_⟩:=h;cases xj hr h1;rw [hk] at h2;cases h2
theorem nd_var (h:QZ l p Γ v) (hr:l[p]? =some r) (hk:r.kind=2):∃ i,v= .var i∧r.index=(i:Int)∧r.up < (p:Int)∧Chn l r.up Γ:=by
  cases v with
  | con nm τ=>obtain⟨r',h1,h2,_⟩:=h;cases xj hr h1;rw [hk] at h2;cases h2
  | var i=>obtain⟨r',h1,_,h2,h3,h4⟩:=h;cases xj hr h1;exact⟨i,rfl,h2,h3,h4⟩
  | abs σ x=>obtain⟨⟨r',h1,h2,_⟩,_⟩:=h;cases xj hr h1;rw [hk] at h2;cases h2
  | app x y=>obtain⟨⟨r',h1,h2,_⟩,_⟩:=h;cases xj hr h1;rw [hk] at h2;cases h2
theorem nd_abs (h:QZ l p Γ v) (hr:l[p]? =some r) (hk:r.kind=3):∃ τ x,v= .abs τ x∧r.typ=τ.sm∧r.kids= [((p + 1:Nat):Int)]∧QZ l (p + 1) (τ :: Γ) x:=by
  cases v with
  | con nm τ=>obtain⟨r',h1,h2,_⟩:=h;cases xj hr h1;rw [hk] at h2;cases h2
  | var i=>obtain⟨r',h1,h2,_⟩:=h;cases xj hr h1;rw [hk] at h2;cases h2
  | abs σ x=>obtain⟨⟨r',h1,_,h2,h3⟩,h4⟩:=h;cases xj hr h1;exact⟨σ,x,rfl,h2,h3,h4⟩
  | app x y=>obtain⟨⟨r',h1,h2,_⟩,_⟩:=h;cases xj hr h1;rw [hk] at h2;cases h2
theorem nd_app (h:QZ l p Γ v) (hr:l[p]? =some r) (hk:r.kind=4):∃ x y,v= .app x y∧r.kids= [((p + 1:Nat):Int),((p + 1 + x.size:Nat):Int)]∧QZ l (p + 1) Γ x∧QZ l (p + 1 + x.size) Γ y:=by
  cases v with
  | con nm τ=>obtain⟨r',h1,h2,_⟩:=h;cases xj hr h1;rw [hk] at h2;cases h2
  | var i=>obtain⟨r',h1,h2,_⟩:=h;cases xj hr h1;rw [hk] at h2;cases h2
  | abs σ x=>obtain⟨⟨r',h1,h2,_⟩,_⟩:=h;cases xj hr h1;rw [hk] at h2;cases h2
  | app x y=>obtain⟨⟨r',h1,_,h2⟩,h3,h4⟩:=h;cases xj hr h1;exact⟨x,y,rfl,h2,h3,h4⟩
end nd
theorem HW {l:List Rw} {u:Int} {Γ:List Ts} {k:Nat} {τ:Ts} (h:Chn l u Γ) (hk:Γ[k]? =some τ):∃ (m:Nat) (r:Rw),u=(m:Int)∧l[m]? =some r∧r.up < (m:Int)∧-1≤r.up∧((r.kind=3∧((k=0∧r.typ=τ.sm)∨∃ k',k=k' + 1∧∃ Δ,Δ[k']? =some τ∧Chn l r.up Δ))∨(r.kind≠3∧∃ Δ,Δ[k]? =some τ∧Chn l r.up Δ)):=by
  have low:∀ {u:Int} {Γ:List Ts},Chn l u Γ→-1≤u:=fun h=>by cases h <;> omega
  cases h with
  | nil=>simp at hk
  | @abs m r σ Δ h1 h2 h3 h4 h5=>
    refine⟨m,r,rfl,h1,h4,low h5,.inl ⟨h2,?_⟩⟩;cases k with
    | zero=>obtain rfl:σ=τ:=Option.some.inj hk;exact .inl ⟨rfl,h3⟩
    | succ k=>exact .inr ⟨k,rfl,Δ,hk,h5⟩
  | @app m r _ h1 h2 h4 h5=>exact⟨m,r,rfl,h1,h4,low h5,.inr ⟨h2,Γ,hk,h5⟩⟩
theorem IJ:∀ (v:Tv) (Γ:List Ts) (j:Nat) (h:j < (nds Γ v).length),(nds Γ v)[j].1.length + (nds Γ v)[j].2.size≤Γ.length + v.size
  | .con nm τ,Γ,j,h=>by
    obtain rfl:j=0:=by simp [nds] at h;omega
    exact Nat.le_refl _
  | .var i,Γ,j,h=>by
    obtain rfl:j=0:=by simp [nds] at h;omega
    exact Nat.le_refl _
  | .abs τ x,Γ,j,h=>by
    cases j with
    | zero=>exact Nat.le_refl _
    | succ j=>
      have:=IJ x (τ :: Γ) j (by simp only [nds,List.length_cons] at h;omega)
      simp only [nds,List.getElem_cons_succ,List.length_cons,Tv.size] at this ⊢
      omega
  | .app x y,Γ,j,h=>by
    cases j with
    | zero=>exact Nat.le_refl _
    | succ j=>
      simp only [nds,List.getElem_cons_succ,Tv.size]
      by_cases e:j < (nds Γ x).length
      · rw [List.getElem_append_left e]
        have:=IJ x Γ j e
        omega
      · rw [List.getElem_append_right om]
        have:=IJ y Γ (j - (nds Γ x).length) (by simp only [nds,List.length_cons,List.length_append] at h;omega)
        omega
theorem IX {m j:Nat} {f h:Nat→Value} (hj:j < m * 2):(o6 m f h)[j]? =some (if j % 2=0 then f (j / 2) else h (j / 2)):=by
  unfold o6;rw [Array.getElem?_ofFn,dif_pos hj]
theorem Jx {m i:Nat} {f h:Nat→Value} {a b:Value}:O1 (o6 m f h) (0 + i * 2) [a,b]=o6 m (fun j=>if j=i then a else f j) (fun j=>if j=i then b else h j):=by
  show ((o6 m f h).setIfInBounds (0 + i * 2 + 0) a).setIfInBounds (0 + i * 2 + 1) b=_;rw [row2_set0,row2_set1]
theorem Jj {w:World} {b t n k:Nat} {F H:Nat→Value} {x y:Value} (hb:Blk w b t (o6 n F H)) (hk:k < n) (hF:F k=x) (hH:H k=y):w.rangeAt b (0 + k * 2) [x,y]:=fun i v hv=>by
  match i,hv with
  | 0,hv=>obtain rfl:=Option.some.inj hv;rw [cell_of_row w b _ _ _ _ hb,row2_get0 hk,hF]
  | 1,hv=>obtain rfl:=Option.some.inj hv;rw [cell_of_row w b _ _ _ _ hb,row2_get1 hk,hH]
  | i + 2,hv=>simp at hv
theorem Kv {w w':World} {b:Nat} (hs:Same [b] w w') (hk:∀ (τ:Ts) (o c:Nat) (A:Option Addr),w.rangeAt b o [.string τ.sm.base,.slice A τ.sm.args.length c]→w'.rangeAt b o [.string τ.sm.base,.slice A τ.sm.args.length c]):∀ (τ:Ts) {A:Option Addr},SimsIn w A τ.sm.args→SimsIn w' A τ.sm.args
  | .b t,A,h=>by cases t <;> exact .nil
  | .f x y,A,h=>by
    obtain⟨b1,o1,A0,c0,rfl,hl,hr0,hs0⟩:=h.at_ (k:=0) (by simp [Ts.sm,Sm.args])
    obtain⟨_,_,A1,c1,e1,_,hr1,hs1⟩:=h.at_ (k:=1) (by simp [Ts.sm,Sm.args])
    cases e1
    have mv:∀ (τ:Ts) (o c:Nat) (A:Option Addr),w.rangeAt b1 o [.string τ.sm.base,.slice A τ.sm.args.length c]→w'.rangeAt b1 o [.string τ.sm.base,.slice A τ.sm.args.length c]:=fun τ o c A h=>by
      by_cases e:b1=b
      · subst e;exact hk τ o c A h
      · exact fun i v hv=>I0 hs hl (fun hm=>e (List.mem_singleton.1 hm)) (h i v hv)
    refine .more (show 2≤yJ by decide) (nLL hl hs.size) (fun k hk2=>?_)
    match k,hk2 with
    | 0,_=>
      show SimAt w' b1 (o1 + 0 * 2) x.sm
      rw [Sm.eta x.sm]
      exact SimAt.mk (nLL hl hs.size) (mv x _ _ _ hr0) (Kv hs hk x hs0)
    | 1,_=>
      show SimAt w' b1 (o1 + 1 * 2) y.sm
      rw [Sm.eta y.sm]
      exact SimAt.mk (nLL hl hs.size) (mv y _ _ _ hr1) (Kv hs hk y hs1)
theorem keep_row2 {w w':World} {b n p:Nat} {F H:Nat→Value} {x y:Value} (hb:Blk w b 52 (o6 n F H)) (hF:F p= .string ⟨#[]⟩) (hH:H p= .slice none 0 0) (hb':Blk w' b 52 (o6 n (fun j=>if j=p then x else F j) (fun j=>if j=p then y else H j))) (τ:Ts) (o c:Nat) (A:Option Addr) (h:w.rangeAt b o [.string τ.sm.base,.slice A τ.sm.args.length c]):w'.rangeAt b o [.string τ.sm.base,.slice A τ.sm.args.length c]:=by
  have h0:=h 0 _ rfl;have h1:=h 1 _ rfl;rw [Nat.add_zero,cell_of_row w b o _ _ _ hb] at h0;rw [cell_of_row w b (o + 1) _ _ _ hb] at h1;have hlt:o + 1 < n * 2:=by
    have:=(Array.getElem?_eq_some_iff.1 h1).1
    rwa [ZQ] at this
  rw [IX om] at h0;rw [IX hlt] at h1;have n0:o / 2≠p:=fun e=>by
    by_cases ev:o % 2=0
    · rw [if_pos ev,e,hF] at h0
      rw [if_neg (show ¬(o + 1) % 2=0 by omega),show (o + 1) / 2=p by omega,hH] at h1;simp only [Option.some.injEq,Value.string.injEq] at h0;simp only [Option.some.injEq,Value.slice.injEq] at h1;obtain⟨u,v,rfl⟩:∃ u v,τ= .f u v:=by
        cases τ with
        | b t=>exfalso;revert h0;cases t <;> decide
        | f u v=>exact⟨u,v,rfl⟩
      have h2:0=2:=h1.2.1;cases h2
    · rw [if_neg ev,e,hH] at h0;cases h0
  have n1:(o + 1) / 2≠p:=fun e=>by
    have ev:(o + 1) % 2=0:=by omega
    rw [if_pos ev,e,hF] at h1;cases h1
  intro i v hv
  match i,hv with
  | 0,hv=>
    obtain rfl:=Option.some.inj hv;rw [Nat.add_zero,cell_of_row w' b o _ _ _ hb',IX om];simp only [if_neg n0];exact h0
  | 1,hv=>
    obtain rfl:=Option.some.inj hv;rw [cell_of_row w' b (o + 1) _ _ _ hb',IX hlt];simp only [if_neg n1];exact h1
  | i + 2,hv=>simp at hv
structure TI (ls:List Rw) (n i:Nat) (F H:Nat→Value) (w:World):Prop where
  z:∀ k,k < i→F k= .string ⟨#[]⟩∧H k= .slice none 0 0
  t:∀ k,i≤k→k < n→∃ τ A c,TyAt ls k τ∧F k= .string τ.sm.base∧H k= .slice A τ.sm.args.length c∧SimsIn w A τ.sm.args
theorem TI.start (ls:List Rw) (n:Nat) (w:World):TI ls n n (fun _=> .string ⟨#[]⟩) (fun _=> .slice none 0 0) w:=⟨fun _ _=>⟨rfl,rfl⟩,fun k h1 h2=>by omega⟩
theorem TI.mono {ls:List Rw} {n i:Nat} {F H:Nat→Value} {w w':World} (h:TI ls n i F H w) (hb:Bel w w'):TI ls n i F H w':=⟨h.z,fun k h1 h2=>by
  obtain⟨τ,A,c,a1,a2,a3,a4⟩:=h.t k h1 h2
  exact⟨τ,A,c,a1,a2,a3,a4.mono hb⟩⟩
theorem TI.put {ls:List Rw} {n p b c:Nat} {F H:Nat→Value} {w w':World} {τ:Ts} {A:Option Addr} (h:TI ls n (p + 1) F H w) (hp:p < n) (hb:Blk w b 52 (o6 n F H)) (hb':Blk w' b 52 (o6 n (fun j=>if j=p then .string τ.sm.base else F j) (fun j=>if j=p then .slice A τ.sm.args.length c else H j))) (hs:Same [b] w w') (hT:TyAt ls p τ) (hS:SimsIn w A τ.sm.args):TI ls n p (fun j=>if j=p then .string τ.sm.base else F j) (fun j=>if j=p then .slice A τ.sm.args.length c else H j) w':=by
  obtain⟨z1,z2⟩:=h.z p (Nat.lt_succ_self _);have mv:∀ (σ:Ts) {B:Option Addr},SimsIn w B σ.sm.args→SimsIn w' B σ.sm.args:=fun σ _ hσ=>Kv hs (fun σ o c A hr=>keep_row2 hb z1 z2 hb' σ o c A hr) σ hσ
  refine⟨fun k hk=>?_,fun k h1 h2=>?_⟩
  · have ne:¬k=p:=by omega
    simp only [if_neg ne];exact h.z k om
  · by_cases e:k=p
    · subst e
      simp only [if_true];exact⟨τ,A,c,hT,rfl,rfl,mv τ hS⟩
    · simp only [if_neg e]
      obtain⟨σ,B,d,a1,a2,a3,a4⟩:=h.t k om h2;exact⟨σ,B,d,a1,a2,a3,mv σ a4⟩
theorem nd_txt {l:List Rw} {p:Nat} {Γ:List Ts} {v:Tv} {τ:Ts} (h:QZ l p Γ v) (ho:v.ok Γ.length) (hG:∀ σ ∈ Γ,σ.size≤200) (hs:v.size≤200) (ht:TyAt l p τ):τ.txt.length≤1000000:=by
  have h1:=M7 ho hG (ht Γ v h);have h2:=Ts.txt_le τ;omega
end Go.Proofs.YtdkfnakncaggoaaGreatDoor
