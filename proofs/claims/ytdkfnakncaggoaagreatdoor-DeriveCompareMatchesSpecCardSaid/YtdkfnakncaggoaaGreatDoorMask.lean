/- Terms of the typed lambda calculus as plain trees, how a world holds them, and what is wrong with them. No program in sight. What these functions of the program compute, at every world: glosswright/hierarchy.Types. What these functions of the program compute, at every world: glosswright/glosswrightref3.Name, glosswright/glosswrightref3.TypesFault. What these functions of the program compute, at every world: glosswright/glosswrightref3.Sub. Sets of small numbers as bits. -/
import Derived.Test.YtdkfnakncaggoaaGreatDoorName
import Derived.Test.YtdkfnakncaggoaaGreatDoorU
import Derived.Lib.TrailingZeros
namespace Go.Proofs.YtdkfnakncaggoaaGreatDoor
open Go.RowKit
inductive Tm where
  | mk (kind:Int) (name:ByteArray) (index:Int) (type:Sm) (args:List Tm)
def Tm.kind:Tm→Int | .mk k _ _ _ _=>k
def Tm.name:Tm→ByteArray | .mk _ n _ _ _=>n
def Tm.index:Tm→Int | .mk _ _ i _ _=>i
def Tm.type:Tm→Sm | .mk _ _ _ t _=>t
def Tm.args:Tm→List Tm | .mk _ _ _ _ a=>a
theorem Tm.eta (t:Tm):t= .mk t.kind t.name t.index t.type t.args:=by cases t;rfl
mutual
inductive TmAt (w:World):Nat→Nat→Tm→Prop
  | mk {b o:Nat} {k i:Int} {nm:ByteArray} {s:Sm} {args:List Tm} {A B:Option Addr} {c d:Nat} (hb:b < w.heap.size) (h:w.rangeAt b o [.int .i64 k,.string nm,.int .i64 i,.string s.base,.slice A s.args.length c,.slice B (List.length args) d]) (hs:SimsIn w A s.args) (ht:TmsIn w B args):TmAt w b o (.mk k nm i s args)
inductive TmsIn (w:World):Option Addr→List Tm→Prop
  | nil {A:Option Addr}:TmsIn w A []
  | more {b o:Nat} {args:List Tm} (hl:args.length≤yJ) (hb:b < w.heap.size) (h:∀ k (hk:k < args.length),TmAt w b (o + k * 6) args[k]):TmsIn w (some ⟨b,o,none⟩) args
end
theorem TmAt.both {w w':World} (hw:Bel w w'):(∀ {b o:Nat} {s:Tm},TmAt w b o s→TmAt w' b o s)∧∀ {A:Option Addr} {l:List Tm},TmsIn w A l→TmsIn w' A l:=by
  have h1:∀ {b o:Nat} {s:Tm} (h:TmAt w b o s),TmAt w' b o s:=fun h=>
    TmAt.rec (motive_1:=fun b o s _=>TmAt w' b o s) (motive_2:=fun A l _=>TmsIn w' A l)
      (fun hb h hs _ ih=> .mk (nLL hb hw.size) (hw.range hb h) (hs.mono hw) ih) .nil (fun hl hb _ ih=> .more hl (nLL hb hw.size) ih) h
  have h2:∀ {A:Option Addr} {l:List Tm} (h:TmsIn w A l),TmsIn w' A l:=fun h=>
    TmsIn.rec (motive_1:=fun b o s _=>TmAt w' b o s) (motive_2:=fun A l _=>TmsIn w' A l)
      (fun hb h hs _ ih=> .mk (nLL hb hw.size) (hw.range hb h) (hs.mono hw) ih) .nil (fun hl hb _ ih=> .more hl (nLL hb hw.size) ih) h
  exact⟨h1,h2⟩
theorem TmAt.mono {w w':World} {b o:Nat} {s:Tm} (h:TmAt w b o s) (hw:Bel w w'):TmAt w' b o s:=(TmAt.both hw).1 h
theorem TmsIn.mono {w w':World} {A:Option Addr} {l:List Tm} (h:TmsIn w A l) (hw:Bel w w'):TmsIn w' A l:=(TmAt.both hw).2 h
theorem TmsIn.le {w:World} {A:Option Addr} {l:List Tm} (h:TmsIn w A l):l.length≤yJ:=by
  cases h with
  | nil=>exact Nat.zero_le _
  | more hl=>exact hl
theorem TmsIn.at_ {w:World} {A:Option Addr} {l:List Tm} (h:TmsIn w A l) {k:Nat} (hk:k < l.length):∃ b o A' c B d,A=some ⟨b,o,none⟩∧b < w.heap.size∧w.rangeAt b (o + k * 6) [Value.int .i64 (l[k]).kind,.string (l[k]).name,.int .i64 (l[k]).index,.string (l[k]).type.base,.slice A' (l[k]).type.args.length c,.slice B (l[k]).args.length d]∧SimsIn w A' (l[k]).type.args∧TmsIn w B (l[k]).args:=by
  cases h with
  | nil=>simp at hk
  | @more b o _ _ hb h=>
    have hx:=h k hk
    generalize l[k]=s at hx
    cases hx with
    | mk _ hr hs ht=>exact⟨b,o,_,_,_,_,rfl,hb,hr,hs,ht⟩
def QV (s:Sm):Prop:=s.base=⟨#[]⟩∧s.args.length=0
instance (s:Sm):Decidable (QV s):=by unfold QV;infer_instance
def ndC (b:Nat) (t:Tm):Int:=
  if t.kind=1 then (if t.index=0∧t.args.length=0 then (if y6 t.name=true then (if smF t.type=0 then 0 else 12) else 10) else 5)
  else if t.kind=2 then (if t.name=⟨#[]⟩∧QV t.type∧t.args.length=0 then (if t.index < 0∨(b:Int)≤t.index then 15 else 0) else 5)
  else if t.kind=3 then (if t.name=⟨#[]⟩∧t.index=0∧t.args.length=1 then (if smF t.type=0 then 0 else 12) else 5)
  else if t.kind=4 then (if t.name=⟨#[]⟩∧t.index=0∧QV t.type∧t.args.length=2 then 0 else 5)
  else 4
theorem ndC_mk (b:Nat) (k:Int) (nm:ByteArray) (i:Int) (s:Sm) (l:List Tm):ndC b (.mk k nm i s l) =
  if k=1 then (if i=0∧l.length=0 then (if y6 nm=true then (if smF s=0 then 0 else 12) else 10) else 5)
  else if k=2 then (if nm=⟨#[]⟩∧QV s∧l.length=0 then (if i < 0∨(b:Int)≤i then 15 else 0) else 5)
  else if k=3 then (if nm=⟨#[]⟩∧i=0∧l.length=1 then (if smF s=0 then 0 else 12) else 5)
  else if k=4 then (if nm=⟨#[]⟩∧i=0∧QV s∧l.length=2 then 0 else 5)
  else 4:=rfl
def inB (t:Tm) (b:Nat):Nat:=if t.kind=3 then b + 1 else b
mutual
def twk:Tm→Nat→Nat→Nat→Nat×Fl
  | .mk k nm i s l,d,b,n=>if 200 < n + 1∨40 < d then (n + 1,(1,(n:Int))) else if ndC b (.mk k nm i s l)=0 then Z8 l (d + 1) (inB (.mk k nm i s l) b) (n + 1) else (n + 1,(ndC b (.mk k nm i s l),(n:Int)))
def Z8:List Tm→Nat→Nat→Nat→Nat×Fl
  | [],_,_,n=>(n,(0,0))
  | x :: r,d,b,n=>if (twk x d b n).2.1=0 then Z8 r d b (twk x d b n).1 else twk x d b n
end
theorem Q2 (t:Tm) (d b n:Nat):twk t d b n=if 200 < n + 1∨40 < d then (n + 1,(1,(n:Int))) else if ndC b t=0 then Z8 t.args (d + 1) (inB t b) (n + 1) else (n + 1,(ndC b t,(n:Int))):=by
  cases t;rw [twk];rfl
def tst:List (Tm×Nat×Nat)→Nat→Nat×Fl
  | [],n=>(n,(0,0))
  | x :: r,n=>if (twk x.1 x.2.1 x.2.2 n).2.1=0 then tst r (twk x.1 x.2.1 x.2.2 n).1 else twk x.1 x.2.1 x.2.2 n
theorem Wq (d b:Nat):∀ (l:List Tm) (n:Nat),Z8 l d b n=tst (l.map (fun y=>(y,d,b))) n
  | [],_=>by rw [Z8];rfl
  | x :: r,n=>by
    rw [Z8,Wq d b r];rfl
theorem Wv:∀ (l r:List (Tm×Nat×Nat)) (n:Nat),tst (l ++ r) n=if (tst l n).2.1=0 then tst r (tst l n).1 else tst l n
  | [],_,_=>rfl
  | x :: l,r,n=>by
    show (if (twk x.1 x.2.1 x.2.2 n).2.1=0 then tst (l ++ r) (twk x.1 x.2.1 x.2.2 n).1 else twk x.1 x.2.1 x.2.2 n)=_
    rw [Wv l r]
    show _=if (if (twk x.1 x.2.1 x.2.2 n).2.1=0 then tst l (twk x.1 x.2.1 x.2.2 n).1 else twk x.1 x.2.1 x.2.2 n).2.1=0 then tst r (if (twk x.1 x.2.1 x.2.2 n).2.1=0 then tst l (twk x.1 x.2.1 x.2.2 n).1 else twk x.1 x.2.1 x.2.2 n).1 else (if (twk x.1 x.2.1 x.2.2 n).2.1=0 then tst l (twk x.1 x.2.1 x.2.2 n).1 else twk x.1 x.2.1 x.2.2 n)
    by_cases h:(twk x.1 x.2.1 x.2.2 n).2.1=0
    · simp only [if_pos h]
    · simp only [if_neg h]
theorem tst_out {n d b:Nat} {t:Tm} {r:List (Tm×Nat×Nat)} (h:200 < n + 1∨40 < d):tst ((t,d,b) :: r) n=(n + 1,(1,(n:Int))):=by
  have e:twk t d b n=(n + 1,(1,(n:Int))):=by rw [Q2,if_pos h]
  show (if (twk t d b n).2.1=0 then _ else twk t d b n)=_;rw [e];rfl
theorem tst_bad {n d b:Nat} {t:Tm} {r:List (Tm×Nat×Nat)} (h:¬(200 < n + 1∨40 < d)) (ho:ndC b t≠0):tst ((t,d,b) :: r) n=(n + 1,(ndC b t,(n:Int))):=by
  have e:twk t d b n=(n + 1,(ndC b t,(n:Int))):=by rw [Q2,if_neg h,if_neg ho]
  show (if (twk t d b n).2.1=0 then _ else twk t d b n)=_;rw [e,if_neg ho]
theorem twks_z:∀ (l:List Tm) (d b n:Nat),(Z8 l d b n).2.1=0→(Z8 l d b n).2=(0,0)
  | [],_,_,_,_=>by rw [Z8]
  | .mk k nm i s a :: r,d,b,n,h=>by
    rw [Z8] at h ⊢
    by_cases h1:(twk (.mk k nm i s a) d b n).2.1=0
    · rw [if_pos h1] at h ⊢;exact twks_z r d b _ h
    · rw [if_neg h1] at h;exact absurd h h1
theorem twk_z {t:Tm} {d b n:Nat} (h:(twk t d b n).2.1=0):(twk t d b n).2=(0,0):=by
  rw [Q2] at h ⊢;by_cases h1:200 < n + 1∨40 < d
  · rw [if_pos h1] at h;cases h
  · rw [if_neg h1] at h ⊢
    by_cases h2:ndC b t=0
    · rw [if_pos h2] at h ⊢;exact twks_z _ _ _ _ h
    · rw [if_neg h2] at h;exact absurd h h2
theorem tst_go {n d b:Nat} {t:Tm} {r:List (Tm×Nat×Nat)} (h:¬(200 < n + 1∨40 < d)) (ho:ndC b t=0):tst ((t,d,b) :: r) n=tst (t.args.map (fun y=>(y,d + 1,inB t b)) ++ r) (n + 1):=by
  have e:twk t d b n=tst (t.args.map (fun y=>(y,d + 1,inB t b))) (n + 1):=by rw [Q2,if_neg h,if_pos ho,Wq]
  rw [Wv,← e];rfl
theorem tst_one (t:Tm) (d b n:Nat):tst [(t,d,b)] n=twk t d b n:=by
  show (if (twk t d b n).2.1=0 then ((twk t d b n).1,(0,0)) else twk t d b n)=_;by_cases h:(twk t d b n).2.1=0
  · rw [if_pos h,← twk_z h]
  · rw [if_neg h]
inductive Tv where
  | con (nm:ByteArray) (τ:Ts)
  | var (i:Nat)
  | abs (τ:Ts) (x:Tv)
  | app (x y:Tv)
def smZ:Sm:= .mk ⟨#[]⟩ []
def Tv.tm:Tv→Tm
  | .con nm τ=> .mk 1 nm 0 τ.sm []
  | .var i=> .mk 2 ⟨#[]⟩ i smZ []
  | .abs τ x=> .mk 3 ⟨#[]⟩ 0 τ.sm [x.tm]
  | .app x y=> .mk 4 ⟨#[]⟩ 0 smZ [x.tm,y.tm]
def Tv.size:Tv→Nat
  | .con _ _=>1
  | .var _=>1
  | .abs _ x=>x.size + 1
  | .app x y=>x.size + y.size + 1
theorem Tv.pos (v:Tv):0 < v.size:=by cases v <;> simp [Tv.size]
def Tv.ok:Nat→Tv→Prop
  | _,.con _ τ=>τ.size≤200
  | b,.var i=>i < b
  | b,.abs τ x=>τ.size≤200∧x.ok (b + 1)
  | b,.app x y=>x.ok b∧y.ok b
theorem smNo_z {s:Sm} (h:QV s):s=smZ:=by
  rw [Sm.eta s,h.1,List.length_eq_zero_iff.1 h.2];rfl
theorem nil_of {α:Type} {l:List α} (h:l.length=0):l= []:=List.length_eq_zero_iff.1 h
mutual
theorem EQ:∀ (t:Tm) (d b n:Nat),(twk t d b n).2.1=0→∃ v:Tv,t=v.tm∧v.ok b∧(twk t d b n).1=n + v.size∧n + v.size≤200
  | .mk k nm i s l,d,b,n,h=>by
    rw [twk] at h ⊢
    by_cases h1:200 < n + 1∨40 < d
    · rw [if_pos h1] at h;cases h
    rw [if_neg h1] at h ⊢
    by_cases h2:ndC b (.mk k nm i s l)=0
    · rw [if_pos h2] at h ⊢
      obtain⟨vs,e1,e0,e2,e3⟩:=Wz l (d + 1) (inB (.mk k nm i s l) b) (n + 1) h om
      rw [e2]
      rw [ndC_mk] at h2
      by_cases k1:k=1
      · subst k1
        rw [if_pos rfl] at h2
        by_cases q:i=0∧l.length=0
        · rw [if_pos q] at h2
          obtain⟨rfl,q2⟩:=q
          obtain rfl:=nil_of q2
          by_cases q3:y6 nm=true
          · rw [if_pos q3] at h2
            by_cases q4:smF s=0
            · obtain⟨τ,rfl,hτ⟩:=smF_ts q4
              obtain rfl:vs= []:=by cases vs with | nil=>rfl | cons a r=>cases e1
              exact⟨.con nm τ,rfl,hτ,by simp [Tv.size],by simp [Tv.size];omega⟩
            · rw [if_neg q4] at h2;cases h2
          · rw [if_neg q3] at h2;cases h2
        · rw [if_neg q] at h2;cases h2
      rw [if_neg k1] at h2
      by_cases k2:k=2
      · subst k2
        rw [if_pos rfl] at h2
        by_cases q:nm=⟨#[]⟩∧QV s∧l.length=0
        · rw [if_pos q] at h2
          obtain⟨rfl,qs,q2⟩:=q
          obtain rfl:=nil_of q2
          obtain rfl:=smNo_z qs
          by_cases q3:i < 0∨(b:Int)≤i
          · rw [if_pos q3] at h2;cases h2
          · obtain⟨j,rfl⟩:∃ j:Nat,i=j:=⟨i.toNat,by omega⟩
            obtain rfl:vs= []:=by cases vs with | nil=>rfl | cons a r=>cases e1
            exact⟨.var j,rfl,show j < b by omega,by simp [Tv.size],by simp [Tv.size];omega⟩
        · rw [if_neg q] at h2;cases h2
      rw [if_neg k2] at h2
      by_cases k3:k=3
      · subst k3
        rw [if_pos rfl] at h2
        by_cases q:nm=⟨#[]⟩∧i=0∧l.length=1
        · rw [if_pos q] at h2
          obtain⟨rfl,rfl,q2⟩:=q
          by_cases q4:smF s=0
          · obtain⟨τ,rfl,hτ⟩:=smF_ts q4
            match l,vs,e1,q2 with
            | [x],[v],e1,_=>
              simp only [List.map_cons,List.map_nil,List.cons.injEq,and_true] at e1
              simp only [List.map_cons,List.map_nil,List.sum_cons,List.sum_nil] at e3 ⊢
              have eb:=e0 v (List.mem_singleton.2 rfl)
              have hin:inB (.mk 3 ⟨#[]⟩ 0 τ.sm [x]) b=b + 1:=rfl
              rw [hin] at eb
              exact⟨.abs τ v,by rw [e1];rfl,⟨hτ,eb⟩,by simp only [Tv.size];omega,by simp only [Tv.size];omega⟩
          · rw [if_neg q4] at h2;cases h2
        · rw [if_neg q] at h2;cases h2
      rw [if_neg k3] at h2
      by_cases k4:k=4
      · subst k4
        rw [if_pos rfl] at h2
        by_cases q:nm=⟨#[]⟩∧i=0∧QV s∧l.length=2
        · obtain⟨rfl,rfl,qs,q2⟩:=q
          obtain rfl:=smNo_z qs
          match l,vs,e1,q2 with
          | [x,y],[v,u],e1,_=>
            simp only [List.map_cons,List.map_nil,List.cons.injEq,and_true] at e1
            simp only [List.map_cons,List.map_nil,List.sum_cons,List.sum_nil] at e3 ⊢
            have eb:=e0 v (by simp)
            have eu:=e0 u (by simp)
            have hin:inB (.mk 4 ⟨#[]⟩ 0 smZ [x,y]) b=b:=rfl
            rw [hin] at eb eu
            exact⟨.app v u,by rw [e1.1,e1.2];rfl,⟨eb,eu⟩,by simp only [Tv.size];omega,by simp only [Tv.size];omega⟩
        · rw [if_neg q] at h2;cases h2
      · rw [if_neg k4] at h2;cases h2
    · rw [if_neg h2] at h;exact absurd h h2
theorem Wz:∀ (l:List Tm) (d b n:Nat),(Z8 l d b n).2.1=0→n≤200→∃ vs:List Tv,l=vs.map Tv.tm∧(∀ v ∈ vs,v.ok b)∧(Z8 l d b n).1=n + (vs.map Tv.size).sum∧n + (vs.map Tv.size).sum≤200
  | [],d,b,n,_,hn=>⟨[],rfl,(fun _ h=>by cases h),(by rw [Z8];rfl),hn⟩
  | x :: r,d,b,n,h,hn=>by
    rw [Z8] at h ⊢
    by_cases h1:(twk x d b n).2.1=0
    · rw [if_pos h1] at h ⊢
      obtain⟨v,e1,e0,e2,e3⟩:=EQ x d b n h1
      rw [e2] at h ⊢
      obtain⟨vs,k1,k0,k2,k3⟩:=Wz r d b (n + v.size) h e3
      refine⟨v :: vs,by rw [e1,k1];rfl,fun u hu=>?_,by rw [k2];simp;omega,by simp;omega⟩
      rcases List.mem_cons.1 hu with rfl | hu
      · exact e0
      · exact k0 u hu
    · rw [if_neg h1] at h;exact absurd h h1
end
theorem Tv.tm_inj:∀ {a b:Tv},a.tm=b.tm→a=b
  | .con n s,.con m t,h=>by
    simp only [Tv.tm,Tm.mk.injEq,and_true,true_and] at h
    rw [h.1,Ts.sm_inj h.2]
  | .var i,.var j,h=>by
    simp only [Tv.tm,Tm.mk.injEq,and_true,true_and] at h
    rw [show i=j by omega]
  | .abs s x,.abs t y,h=>by
    simp only [Tv.tm,Tm.mk.injEq,List.cons.injEq,and_true,true_and] at h
    rw [Ts.sm_inj h.1,Tv.tm_inj h.2]
  | .app x y,.app u v,h=>by
    simp only [Tv.tm,Tm.mk.injEq,List.cons.injEq,and_true,true_and] at h
    rw [Tv.tm_inj h.1,Tv.tm_inj h.2]
  | .con _ _,.var _,h=>by simp [Tv.tm] at h
  | .con _ _,.abs _ _,h=>by simp [Tv.tm] at h
  | .con _ _,.app _ _,h=>by simp [Tv.tm] at h
  | .var _,.con _ _,h=>by simp [Tv.tm] at h
  | .var _,.abs _ _,h=>by simp [Tv.tm] at h
  | .var _,.app _ _,h=>by simp [Tv.tm] at h
  | .abs _ _,.con _ _,h=>by simp [Tv.tm] at h
  | .abs _ _,.var _,h=>by simp [Tv.tm] at h
  | .abs _ _,.app _ _,h=>by simp [Tv.tm] at h
  | .app _ _,.con _ _,h=>by simp [Tv.tm] at h
  | .app _ _,.var _,h=>by simp [Tv.tm] at h
  | .app _ _,.abs _ _,h=>by simp [Tv.tm] at h
def tyv:List Ts→Tv→Option Ts
  | _,.con _ τ=>some τ
  | Γ,.var i=>Γ[i]?
  | Γ,.abs τ x=>(tyv (τ :: Γ) x).map (.f τ)
  | Γ,.app x y=>match tyv Γ x,tyv Γ y with
    | some (.f a r),some z=>if a.eqb z=true then some r else none
    | _,_=>none
theorem M7:∀ {v:Tv} {Γ:List Ts} {τ:Ts},v.ok Γ.length→(∀ σ ∈ Γ,σ.size≤200)→tyv Γ v=some τ→τ.size≤201 * v.size
  | .con _ τ,Γ,τ',h,_,e=>by
    obtain rfl:τ=τ':=Option.some.inj e
    have:τ.size≤200:=h
    simp only [Tv.size];omega
  | .var i,Γ,τ,h,hG,e=>by
    have:=hG τ (List.mem_of_getElem? e)
    simp only [Tv.size];omega
  | .abs σ x,Γ,τ,h,hG,e=>by
    simp only [tyv,Option.map_eq_some_iff] at e
    obtain⟨ρ,e1,rfl⟩:=e
    have h1:=M7 (v:=x) (Γ:=σ :: Γ) h.2 (fun q hq=>by
      rcases List.mem_cons.1 hq with rfl | hq
      · exact h.1
      · exact hG q hq) e1
    have:=h.1
    simp only [Tv.size,Ts.size];omega
  | .app x y,Γ,τ,h,hG,e=>by
    simp only [tyv] at e
    split at e
    · rename_i a r z h1 h2
      split at e
      · obtain rfl:r=τ:=Option.some.inj e
        have h3:=M7 (v:=x) h.1 hG h1
        simp only [Tv.size,Ts.size] at h3 ⊢;omega
      · cases e
    · cases e
open Classical in
noncomputable def tmF (t:Tm):Fl:=if (twk t 1 0 0).2.1=0 then (if ∃ v τ,t=Tv.tm v∧tyv [] v=some τ then (0,0) else (12,-1)) else (twk t 1 0 0).2
theorem Wy {t:Tm} (h:¬(twk t 1 0 0).2.1=0):tmF t=(twk t 1 0 0).2:=by unfold tmF;rw [if_neg h]
theorem tmF_ok {v:Tv} (h:(twk v.tm 1 0 0).2.1=0):tmF v.tm=if (tyv [] v).isSome then (0,0) else (12,-1):=by
  unfold tmF;rw [if_pos h];cases e:tyv [] v with
  | none=>
    rw [if_neg]
    · rfl
    · rintro ⟨u,τ,h1,h2⟩
      rw [← Tv.tm_inj h1,e] at h2;cases h2
  | some τ=>rw [if_pos ⟨v,τ,rfl,e⟩];rfl
end Go.Proofs.YtdkfnakncaggoaaGreatDoor
namespace Go.Proofs.YtdkfnakncaggoaaGreatDoor
open Go.RowKit
def yv (l:List Ty) (i:Nat):Int:=match l[i]? with
  | none=>0
  | some t=>if y6 t.name=false then 10 else if j9 ((l.take i).map (·.name)) t.name=true then 7 else if (decide (i=0) == t.par.isEmpty)=false then 5 else vJ i (-1) t.par
def xx (l:List Ty):Fl:=if l.length=0∨60 < l.length then (2,-1) else qy (yv l) 0 l.length
theorem JW (xs:List Int):decide ((xs.length:Int)=0)=xs.isEmpty:=by cases xs <;> simp;omega
theorem Hx {k:Nat} {xs:List Int} (h:(!(decide ((k:Int)=0) == decide ((xs.length:Int)=0)))=true):(decide (k=0) == xs.isEmpty)=false:=by
  rw [JW] at h
  simpa using h
theorem mal_no {k:Nat} {xs:List Int} (h:(!(decide ((k:Int)=0) == decide ((xs.length:Int)=0)))=false):(decide (k=0) == xs.isEmpty)=true:=by
  rw [JW] at h
  simpa using h
theorem ty10 (l:List Ty) (k:Nat) (hlt:k < l.length) (h1:y6 l[k].name=false):yv l k=10:=by
  simp only [yv,List.getElem?_eq_getElem hlt,h1,if_true]
theorem ty7 (l:List Ty) (k:Nat) (hlt:k < l.length) (h1:y6 l[k].name=true) (h2:j9 ((l.take k).map (·.name)) l[k].name=true):yv l k=7:=by
  simp only [yv,List.getElem?_eq_getElem hlt,h1,h2,if_true];rfl
theorem ty5 (l:List Ty) (k:Nat) (hlt:k < l.length) (h1:y6 l[k].name=true) (h2:j9 ((l.take k).map (·.name)) l[k].name=false) (h3:(decide (k=0) == l[k].par.isEmpty)=false):yv l k=5:=by
  simp only [yv,List.getElem?_eq_getElem hlt,h1,h2,h3,if_true];rfl
theorem EZ (l:List Ty) (k:Nat) (hlt:k < l.length) (h1:y6 l[k].name=true) (h2:j9 ((l.take k).map (·.name)) l[k].name=false) (h3:(decide (k=0) == l[k].par.isEmpty)=true):yv l k=vJ k (-1) (l[k].par.drop 0):=by
  simp only [yv,List.getElem?_eq_getElem hlt,h1,h2,h3,List.drop_zero];rfl
theorem fn62:zQ Tryz.prog 62=true:=by kernel_rfl
theorem fn78:zQ Tryz.prog 78=true:=by kernel_rfl
theorem Mk:(Tryz.prog.info? 113).map (·.size)=some 2:=by kernel_rfl
theorem sz3:(Tryz.prog.info? 3).map (·.size)=some 1:=by kernel_rfl
theorem ze113:(Tryz.prog.info? 113).map (·.zero)=some (some (.agg #[.string ⟨#[]⟩,.slice none 0 0])):=by kernel_rfl
theorem ze3:(Tryz.prog.info? 3).map (·.zero)=some (some (.int .i64 0)):=by kernel_rfl
theorem Lz (A:Option Addr) (c:Nat) (l:List Ty) (w:World) (hT:TypesIn w A l):Calls Tryz.prog 79 #[.slice A l.length c] w fun e w'=>e= .returned (flV (xx l))∧Bel w w':=by
 refine enter Tryz.func79 Tryz.ntmps79 rfl (Nat.le_of_ble_eq_true rfl) ?_;have hB:Bel w w:=Below.refl _ _;refine zn2 ?_;refine qZ (cs:=#[.int .i64 0,.int .i64 0]) ze37 rfl (fun b2 w1 hb2 hs hr=>?_);have lo2:=nLT (Bel.size hB) hr;replace hB:=hB.tr0 hs;refine zn4 ?_;refine x7 [11,12,13,14,15,16,17,18] 18 (.bool (decide (l.length=0∨60 < l.length))) nu ?_ (fun gq=>?_)
 ·refine zn5 ?_;refine zj 14 rfl (fun g14=>?_) (fun g14=>?_)
  ·refine zn4 ?_;refine zZ (e_R ⟨rfl,agA,?_⟩);exact clA
  refine zn7 ?_;refine zZ (e_R ⟨rfl,agA,?_⟩);exact clA
 refine e_S ?_;refine zw rfl (fun c18=>?_) (fun c18=>?_)
 ·refine zn2 ?_;refine zV fn78 (jZ _ _ _) rfl (fun e' w2 hr=>?_);obtain⟨rfl,hs⟩:=hr;replace hs:=sB hs;replace hB:=hB.tr0 hs;replace hb2:=hb2.tr0 hs;refine⟨_,rfl,?_⟩;refine zk hb2 rfl rfl uk rfl zK (fun w3 hq hs=>?_);replace hB:=hB.tr1 hs lo2;replace hb2:=hq;refine zn4 ?_;refine x5 (.inl rfl) rfl (zy U37 rfl rfl hb2.range0 uk) ?_;exact⟨qQ (by simp only [xx,if_pos c18]),hB⟩
 have hR:=Lib.hid (show xx l=qy (yv l) 0 (l.length - 0) by simp only [xx,if_neg c18,Nat.sub_zero]);refine zn4 ?_;refine wl_mm (fun b20 w4 hb20 hs hr=>?_);have:=nLL hb2.lt hr;have lo20:=nLT (Bel.size hB) hr;replace hB:=hB.tr0 hs;replace hb2:=hb2.tr0 hs;refine wl (u7 (v:= .map _) rfl) (vx ?_);refine q8 [4,5,6,7,8,10,23,24,25,26,27,28,29,30,31,32,33,34,35,36,37,38,39,40,41,42,43,44,45,46,47,48,49,50,51,52,53,54,55,56,57,58,59,60,61,62,63,64,65,66,67,68,69,70,71,72,73,74,75,76,77,78,79,80] (fun m g w'=>∃ (k:Nat) (mp:List (ByteArray×Value)),k≤l.length∧m=l.length - k∧g 23= .int .i64 k∧Bel w w'∧Blk w' b2 37 #[.int .i64 0,.int .i64 0]∧MapS w' b20 mp∧(∀ s,lkB mp s=j9 ((l.take k).map (·.name)) s)∧xx l=qy (yv l) k (l.length - k)) (l.length) ?_ (fun m g5 w5 hI=>?_)
 ·exact⟨0,[],Nat.zero_le _,rfl,rfl,hB,hb2,hb20,fun s=>rfl,hR.out⟩
 obtain⟨k,mp,hk,hm,h23,hB,hb2,hb20,hmp,hR'⟩:=hI;refine zJ 23 (.int .i64 k) h23 nu (zn6 ?_);refine zw rfl (fun c24=>?_) (fun c24=>?_)
 ·have hlt:k < l.length:=by omega
  obtain⟨tb,to,A',cp,rfl,htb,htr,hpar⟩:=hT.at_ hB hlt;refine zn8 ?_;refine wl (zW C9 rfl rfl htr Mk) ?_;refine qZ (cs:=#[.string ⟨#[]⟩,.slice none 0 0]) ze113 rfl (fun b5 w6 hb5 hs hr=>?_);have:=nLL hb2.lt hr;have:=nLL hb20.lt hr;have lo5:=nLT (Bel.size hB) hr;replace hB:=hB.tr0 hs;replace hb2:=hb2.tr0 hs;replace hb20:=hb20.tr0 hs;refine waI rfl ?_;refine zk hb5 rfl rfl Mk rfl zK (fun w7 hq hs=>?_);replace hB:=hB.tr1 hs lo5;replace hb2:=hb2.tr1 hs om;replace hb20:=hb20.tr1 hs om;replace hb5:=hq;refine zn7 ?_;refine zV fn62 (JK _ _) rfl (fun e' w8 hr=>?_);obtain⟨rfl,rfl⟩:=hr;refine⟨_,rfl,?_⟩;refine zn3 ?_;refine j7 rfl (fun c31=>?_) (fun c31=>?_)
  ·have hty:=ty10 l k hlt (by simpa using c31);refine zn3 ?_;refine zV fn78 (jZ _ _ _) rfl (fun e' w9 hr=>?_);obtain⟨rfl,hs⟩:=hr;replace hs:=sB hs;replace hB:=hB.tr0 hs;replace hb2:=hb2.tr0 hs;refine⟨_,rfl,?_⟩;refine zk hb2 rfl rfl uk rfl zK (fun w10 hq hs=>?_);replace hB:=hB.tr1 hs lo2;replace hb2:=hq;refine zn9 ?_;refine x5 (.inl rfl) rfl (zy U37 rfl rfl hb2.range0 uk) ?_;exact⟨qQ (hR'.trans (qV (c:=10) om hty dE)),hB⟩
  have hnm:y6 (l[k]'hlt).name=true:=by simpa using c31
  refine zn5 ?_;refine wl (x9 (v:= .map _) rfl) (zn2 ?_);refine wl (r_lkS hb20 Tj U9 ze3 rfl rfl) (wmT rfl (wl (jv (v:=_) rfl rfl) (wl (jv (v:= .bool _) rfl rfl) (wl (u7 (v:=_) rfl) (zn8 ?_)))));refine j7 rfl (fun c41=>?_) (fun c41=>?_)
  ·have hty:=ty7 l k hlt hnm ((hmp _).symm.trans c41);refine zn3 ?_;refine zV fn78 (jZ _ _ _) rfl (fun e' w11 hr=>?_);obtain⟨rfl,hs⟩:=hr;replace hs:=sB hs;replace hB:=hB.tr0 hs;replace hb2:=hb2.tr0 hs;refine⟨_,rfl,?_⟩;refine zk hb2 rfl rfl uk rfl zK (fun w12 hq hs=>?_);replace hB:=hB.tr1 hs lo2;replace hb2:=hq;refine zn9 ?_;refine x5 (.inl rfl) rfl (zy U37 rfl rfl hb2.range0 uk) ?_;exact⟨qQ (hR'.trans (qV (c:=7) om hty dE)),hB⟩
  have hsn:j9 ((l.take k).map (·.name)) (l[k]'hlt).name=false:=by rw [← hmp];exact c41
  have hmp':∀ s,lkB (Kw mp (l[k]'hlt).name (.int .i64 k)) s=j9 ((l.take (k + 1)).map (·.name)) s:=fun s=>by
    rw [kV _ _ _ c41,uz l hlt,List.map_append,List.map_cons,List.map_nil,gv,← hmp];simp [lkB]
  refine zn4 ?_;refine wl (x9 (v:= .map _) rfl) (zn3 ?_);refine TX (v:= .int _ _) hb20 Tj U9 rfl rfl rfl (fun w13 hq hs=>?_);replace hB:=hB.tr1 hs lo20;replace hb2:=hb2.tr1 hs om;replace hb5:=hb5.tr1 hs om;replace hb20:=hq;refine vx ?_;refine wl (O8 U4 rfl rfl) (zZ (e_S ?_));refine j7 rfl (fun c54=>?_) (fun c54=>?_)
  ·have hty:=ty5 l k hlt hnm hsn (Hx c54);refine zn3 ?_;refine zV fn78 (jZ _ _ _) rfl (fun e' w14 hr=>?_);obtain⟨rfl,hs⟩:=hr;replace hs:=sB hs;replace hB:=hB.tr0 hs;replace hb2:=hb2.tr0 hs;refine⟨_,rfl,?_⟩;refine zk hb2 rfl rfl uk rfl zK (fun w15 hq hs=>?_);replace hB:=hB.tr1 hs lo2;replace hb2:=hq;refine zn9 ?_;refine x5 (.inl rfl) rfl (zy U37 rfl rfl hb2.range0 uk) ?_;exact⟨qQ (hR'.trans (qV (c:=5) om hty dE)),hB⟩
  have hmal:=mal_no c54;refine M1 ?_;refine q8 [8,10,60,61,62,63,64,65,66,67,68,69,70,71,72,73,74,75,76,77,78,79] (fun m g w'=>∃ (j:Nat) (last:Int),j≤(l[k]'hlt).par.length∧m=(l[k]'hlt).par.length - j∧g 60= .int .i64 j∧g 8= .int .i64 last∧w13=w'∧yv l k=vJ k last ((l[k]'hlt).par.drop j)) ((l[k]'hlt).par.length) ?_ (fun m g17 w16 hI=>?_)
  ·exact⟨0,-1,Nat.zero_le _,rfl,rfl,rfl,rfl,EZ l k hlt hnm hsn hmal⟩
  obtain⟨j,last,hj,hmj,h60,h8,rfl,hP⟩:=hI;refine zJ 60 (.int .i64 j) h60 nu (zJ 8 (.int .i64 last) h8 nu (zn6 ?_));refine zw rfl (fun c61=>?_) (fun c61=>?_)
  ·have hlj:j < (l[k]'hlt).par.length:=by omega
   have hmx:=hpar.1;unfold yJ at hmx;obtain⟨pb,po,rfl,hpb,hpc⟩:=hpar.at_ hlj;replace hpc:=hB.cell hpb hpc;refine zn7 ?_;refine wl (qk (v:= .int _ _) U3 rfl rfl hpc) (zn5 ?_);refine x7 [64,65,66,67,68,69,70] 70 (.bool (decide ((l[k]'hlt).par[j] < 0∨(k:Int)≤(l[k]'hlt).par[j]))) nu ?_ (fun gq=>?_)
   ·refine zn4 ?_;refine zj 66 rfl (fun g66=>?_) (fun g66=>?_)
    ·refine zn4 ?_;refine zZ (e_R ⟨rfl,agA,?_⟩);exact clA
    refine zn7 ?_;refine zZ (e_R ⟨rfl,agA,?_⟩);exact clA
   refine e_S ?_;refine zw rfl (fun c70=>?_) (fun c70=>?_)
   ·have hty:yv l k=3:=by rw [hP,List.drop_eq_getElem_cons hlj];simp only [vJ,if_pos c70]
    refine zn3 ?_;refine zV fn78 (jZ _ _ _) rfl (fun e' w17 hr=>?_);obtain⟨rfl,hs⟩:=hr;replace hs:=sB hs;replace hB:=hB.tr0 hs;replace hb2:=hb2.tr0 hs;refine⟨_,rfl,?_⟩;refine zk hb2 rfl rfl uk rfl zK (fun w18 hq hs=>?_);replace hB:=hB.tr1 hs lo2;replace hb2:=hq;refine jq ?_;refine x5 (.inl rfl) rfl (zy U37 rfl rfl hb2.range0 uk) ?_;exact⟨qQ (hR'.trans (qV (c:=3) om hty dE)),hB⟩
   refine yq ?_;refine zw rfl (fun c75=>?_) (fun c75=>?_)
   ·have hty:yv l k=13:=by rw [hP,List.drop_eq_getElem_cons hlj];simp only [vJ,if_neg c70,if_pos c75]
    refine zn3 ?_;refine zV fn78 (jZ _ _ _) rfl (fun e' w19 hr=>?_);obtain⟨rfl,hs⟩:=hr;replace hs:=sB hs;replace hB:=hB.tr0 hs;replace hb2:=hb2.tr0 hs;refine⟨_,rfl,?_⟩;refine zk hb2 rfl rfl uk rfl zK (fun w20 hq hs=>?_);replace hB:=hB.tr1 hs lo2;replace hb2:=hq;refine jq ?_;refine x5 (.inl rfl) rfl (zy U37 rfl rfl hb2.range0 uk) ?_;exact⟨qQ (hR'.trans (qV (c:=13) om hty dE)),hB⟩
   have hP':yv l k=vJ k (l[k]'hlt).par[j] ((l[k]'hlt).par.drop (j + 1)):=by rw [hP,List.drop_eq_getElem_cons hlj];simp only [vJ,if_neg c70,if_neg c75]
   refine yj ?_;refine xv ((l[k]'hlt).par.length - (j + 1)) om agA ?_;exact⟨j + 1,(l[k]'hlt).par[j],by omega,rfl,rfl,rfl,rfl,hP'⟩
  have hty:=Lib.hid (show yv l k=0 by rw [hP,List.drop_eq_nil_of_le om];rfl);refine yq ?_;refine xv (l.length - (k + 1)) om agA ?_;exact⟨k + 1,Kw mp (l[k]'hlt).name (.int .i64 k),by omega,rfl,rfl,hB,hb2,hb20,hmp',hR'.trans (yx hlt hty.out)⟩
 refine zn7 ?_;refine wl (uw (vs:=#[]) (cs:=#[.int .i64 0,.int .i64 0]) (by simp) kR) ?_;refine zk hb2 rfl rfl uk rfl zK (fun w21 hq hs=>?_);replace hB:=hB.tr1 hs lo2;replace hb2:=hq;refine zn3 ?_;refine x5 (.inl rfl) rfl (zy U37 rfl rfl hb2.range0 uk) ?_;exact⟨qQ (hR'.trans (yK om)),hB⟩
end Go.Proofs.YtdkfnakncaggoaaGreatDoor
namespace Go.Proofs.YtdkfnakncaggoaaGreatDoor
open Go.RowKit
theorem seen_yes {l:List Ty} {j k:Nat} {s:ByteArray} (hk:k < l.length) (hj:j < k) (h:(l[j]'om).name=s):j9 ((l.take k).map (·.name)) s=true:=by
  simp only [j9,List.any_eq_true,decide_eq_true_eq,List.mem_map];refine⟨_,⟨l[j]'om,?_,rfl⟩,h⟩;rw [List.mem_take_iff_getElem];exact⟨j,by omega,rfl⟩
theorem fn31:zQ Tryz.prog 31=true:=by kernel_rfl
theorem KZ (s:ByteArray) (w:World):Calls Tryz.prog 31 #[.string s] w fun e w'=>e= .returned (.bool (y6 s))∧Bel w w':=by
 obtain⟨c0,e0⟩:=Fj s;have hN:=Lib.hid (KV s c0 e0);refine enter Tryz.func31 Tryz.ntmps31 rfl (Nat.le_of_ble_eq_true rfl) ?_;have hB:Bel w w:=Below.refl _ _;refine zn7 ?_;refine x7 [7,8,9,10,11,12,13,14] 14 (.bool (decide (s.size < 1∨30 < s.size))) nu ?_ (fun gq=>?_)
 ·refine zn5 ?_;refine zj 10 rfl (fun g10=>?_) (fun g10=>?_)
  ·refine zn4 ?_;refine zZ (e_R ⟨rfl,agA,?_⟩);exact clA
  refine zn7 ?_;refine zZ (e_R ⟨rfl,agA,?_⟩);exact clA
 refine e_S ?_;refine zw rfl (fun c14=>?_) (fun c14=>?_)
 ·refine zn8 ?_;exact⟨jK (by rw [hN.out];exact decide_eq_false (fun h=>by omega)),hB⟩
 refine zn6 ?_;refine wl_cvB U9 Tryz.underlying116 U5 rfl (fun b16 c16 w1 hc16 hs hr=>?_);replace hB:=hB.tr0 hs;refine zn5 ?_;refine q8 [2,3,4,5,6,18,19,20,21,22,23,24,25,26,27,28,29,30,31,32,33,34,35,36,37,38,39,40,41,42,43,44,45,46,47,48,49,50,51,52,53] (fun m g w'=>∃ k:Nat,k≤s.size∧m=s.size - k∧g 18= .int .i64 k∧w1=w'∧(0 < k→97≤c0∧c0≤122)∧(∀ j (hj:j < s.size),j < k→uJ (s[j]'hj)=true)) (s.size) ?_ (fun m g4 w2 hI=>?_)
 ·exact⟨0,Nat.zero_le _,rfl,rfl,rfl,fun h=>by omega,fun j hj h=>by omega⟩
 obtain⟨k,hk,hm,h18,rfl,hz,hall⟩:=hI;refine zJ 18 (.int .i64 k) h18 nu (zn6 ?_);refine zw rfl (fun c19=>?_) (fun c19=>?_)
 ·refine zn8 ?_;refine wl (qk (v:= .int _ _) U5 rfl rfl (hc16 k om)) (zn5 ?_);refine x7 [5,23,24,25,26,27,28] 5 (.bool (decide (97≤(s[k]'om).toNat∧(s[k]'om).toNat≤122))) nu ?_ (fun gq=>?_)
  ·refine zn4 ?_;refine zj 25 rfl (fun g25=>?_) (fun g25=>?_)
   ·refine zn6 ?_;refine zZ (e_R ⟨rfl,agA,?_⟩);exact clA
   refine zn4 ?_;refine zZ (e_R ⟨rfl,agA,?_⟩);exact clA
  refine e_S (xX ?_);refine x7 [6,29,30,31,32,33,34,35,36,37,38,39,40,41,42] 6 (.bool (decide ((48≤(s[k]'om).toNat∧(s[k]'om).toNat≤57)∨(s[k]'om).toNat=95∨(s[k]'om).toNat=45))) nu ?_ (fun gq=>?_)
  ·refine zn4 ?_;refine zj 31 rfl (fun g31=>?_) (fun g31=>?_)
   ·refine zn6 ?_;refine zj 35 rfl (fun g35=>?_) (fun g35=>?_)
    ·refine zn8 ?_;refine zZ (e_R ⟨rfl,agA,?_⟩);exact clA
    refine zn6 ?_;refine zj 39 rfl (fun g39=>?_) (fun g39=>?_)
    ·refine zn4 ?_;refine zZ (e_R ⟨rfl,agA,?_⟩);exact clA
    refine zn6 ?_;refine zZ (e_R ⟨rfl,agA,?_⟩);exact clA
   refine yq ?_;refine zj 39 rfl (fun g39=>?_) (fun g39=>?_)
   ·refine zn4 ?_;refine zZ (e_R ⟨rfl,agA,?_⟩);exact clA
   refine zn6 ?_;refine zZ (e_R ⟨rfl,agA,?_⟩);exact clA
  refine e_S (xX ?_);refine x7 [43,44,45,46,47,48,49,50,51,52] 52 (.bool (decide (¬(97≤(s[k]'om).toNat∧(s[k]'om).toNat≤122)∧(¬((48≤(s[k]'om).toNat∧(s[k]'om).toNat≤57)∨(s[k]'om).toNat=95∨(s[k]'om).toNat=45)∨k=0)))) nu ?_ (fun gq=>?_)
  ·refine zn4 ?_;refine zj 45 rfl (fun g45=>?_) (fun g45=>?_)
   ·refine zn6 ?_;refine zj 48 rfl (fun g48=>?_) (fun g48=>?_)
    ·refine zn5 ?_;refine zZ (e_R ⟨rfl,agA,?_⟩);exact clA
    refine zn7 ?_;refine zZ (e_R ⟨rfl,agA,?_⟩);exact clA
   refine zn7 ?_;refine zZ (e_R ⟨rfl,agA,?_⟩);exact clA
  refine e_S ?_;refine zw rfl (fun c52=>?_) (fun c52=>?_)
  ·have hno:¬((97≤c0∧c0≤122)∧∀ j (hj:j < s.size),uJ (s[j]'hj)=true):=fun h=>by
     have h1:=(oq _).1 (h.2 k om);have h2:k=0:=by omega
     subst h2;have:=e0 om;omega
   refine yj ?_;exact⟨jK (by rw [hN.out];exact decide_eq_false (fun h=>hno h.2)),hB⟩
  have hz':97≤c0∧c0≤122:=by
    by_cases e:k=0
    · subst e;have:=e0 om;omega
    · exact hz om
  have hall':∀ j (hj:j < s.size),j < k + 1→uJ (s[j]'hj)=true:=fun j hj h=>by
    by_cases e:j=k
    · subst e;exact(oq _).2 om
    · exact hall j hj om
  refine zn7 ?_;refine xv (s.size - (k + 1)) om agA ?_;exact⟨k + 1,by omega,rfl,rfl,rfl,fun _=>hz',fun j hj h=>hall' j hj h⟩
 refine yj ?_;exact⟨jK (by rw [hN.out];exact decide_eq_true ⟨by omega,hz om,fun j hj=>hall j hj om⟩),hB⟩
theorem M8 (A:Option Addr) (c:Nat) (l:List Ty) (w:World) (hc:l.length≤c) (hT:TypesIn w A l):Calls Tryz.prog 57 #[.slice A l.length c] w fun e w'=>e= .returned (flV (xx l))∧Bel w w':=by
 refine enter Tryz.func57 Tryz.ntmps57 rfl (Nat.le_of_ble_eq_true rfl) ?_;have hB:Bel w w:=Below.refl _ _;refine zn2 ?_;refine qZ (cs:=#[.int .i64 0,.int .i64 0]) ze37 rfl (fun b2 w1 hb2 hs hr=>?_);have lo2:=nLT (Bel.size hB) hr;replace hB:=hB.tr0 hs;refine zn4 ?_;refine x7 [9,10,11,12,13,14,15,16] 16 (.bool (decide (l.length=0∨60 < l.length))) nu ?_ (fun gq=>?_)
 ·refine zn5 ?_;refine zj 12 rfl (fun g12=>?_) (fun g12=>?_)
  ·refine zn4 ?_;refine zZ (e_R ⟨rfl,agA,?_⟩);exact clA
  refine zn7 ?_;refine zZ (e_R ⟨rfl,agA,?_⟩);exact clA
 refine e_S ?_;refine zw rfl (fun c16=>?_) (fun c16=>?_)
 ·refine zn2 ?_;refine wl (yz (v0:= .int _ _) (v1:= .int _ _) (fun v0 v1=>#[v0,v1]) rfl rfl kR) ?_;refine zk hb2 rfl rfl uk rfl zK (fun w2 hq hs=>?_);replace hB:=hB.tr1 hs lo2;replace hb2:=hq;refine zn4 ?_;refine x5 (.inl rfl) rfl (zy U37 rfl rfl hb2.range0 uk) ?_;exact⟨qQ (by simp only [xx,if_pos c16]),hB⟩
 have hR:=Lib.hid (show xx l=qy (yv l) 0 (l.length - 0) by simp only [xx,if_neg c16,Nat.sub_zero]);refine vx ?_;refine q8 [3,4,6,7,8,20,21,22,23,24,25,26,27,28,29,30,31,32,33,34,35,36,37,38,39,40,41,42,43,44,45,46,47,48,49,50,51,52,53,54,55,56,57,58,59,60,61,62,63,64,65,66,67,68,69,70,71,72,73,74,75,76,77,78,79,80,81,82,83,84,85,86,87,88] (fun m g w'=>∃ (k:Nat),k≤l.length∧m=l.length - k∧g 20= .int .i64 k∧Bel w w'∧Blk w' b2 37 #[.int .i64 0,.int .i64 0]∧xx l=qy (yv l) k (l.length - k)) (l.length) ?_ (fun m g4 w3 hI=>?_)
 ·exact⟨0,Nat.zero_le _,rfl,rfl,hB,hb2,hR.out⟩
 obtain⟨k,hk,hm,h20,hB,hb2,hR'⟩:=hI;refine zJ 20 (.int .i64 k) h20 nu (zn6 ?_);refine zw rfl (fun c21=>?_) (fun c21=>?_)
 ·have hlt:k < l.length:=by omega
  obtain⟨tb,to,A',cp,rfl,htb,htr,hpar⟩:=hT.at_ hB hlt;refine zn8 ?_;refine wl (zW C9 rfl rfl htr Mk) ?_;refine qZ (cs:=#[.string ⟨#[]⟩,.slice none 0 0]) ze113 rfl (fun b4 w4 hb4 hs hr=>?_);have:=nLL hb2.lt hr;have lo4:=nLT (Bel.size hB) hr;replace hB:=hB.tr0 hs;replace hb2:=hb2.tr0 hs;refine waI rfl ?_;refine zk hb4 rfl rfl Mk rfl zK (fun w5 hq hs=>?_);replace hB:=hB.tr1 hs lo4;replace hb2:=hb2.tr1 hs om;replace hb4:=hq;refine zn7 ?_;refine zV fn31 (KZ _ _) rfl (fun e' w6 hr=>?_);obtain⟨rfl,hs⟩:=hr;replace hs:=sB hs;replace hB:=hB.tr0 hs;replace hb2:=hb2.tr0 hs;replace hb4:=hb4.tr0 hs;refine⟨_,rfl,?_⟩;refine zn3 ?_;refine j7 rfl (fun c28=>?_) (fun c28=>?_)
  ·have hty:=ty10 l k hlt (by simpa using c28);refine zn3 ?_;refine wl (yz (v0:= .int _ _) (v1:= .int _ _) (fun v0 v1=>#[v0,v1]) rfl rfl kR) ?_;refine zk hb2 rfl rfl uk rfl zK (fun w7 hq hs=>?_);replace hB:=hB.tr1 hs lo2;replace hb2:=hq;refine zn9 ?_;refine x5 (.inl rfl) rfl (zy U37 rfl rfl hb2.range0 uk) ?_;exact⟨qQ (hR'.trans (qV (c:=10) om hty dE)),hB⟩
  have hnm:y6 (l[k]'hlt).name=true:=by simpa using c28
  refine zn7 ?_;refine wl (E2 (h:=k) U22 Mk rfl rfl om) (zn5 ?_);refine q8 [6,35,36,37,38,39,40,41,42,43,44,45,46] (fun m g w'=>∃ (j:Nat),j≤k∧m=k - j∧g 35= .int .i64 j∧Bel w w'∧Blk w' b2 37 #[.int .i64 0,.int .i64 0]∧Blk w' b4 113 #[.string (l[k]'hlt).name,.slice A' (l[k]'hlt).par.length cp]∧j9 ((l.take j).map (·.name)) (l[k]'hlt).name=false) (k) ?_ (fun m g9 w8 hI=>?_)
  ·exact⟨0,Nat.zero_le _,rfl,rfl,hB,hb2,hb4,rfl⟩
  obtain⟨j,hj,hmj,h35,hB,hb2,hb4,hse⟩:=hI;refine zJ 35 (.int .i64 j) h35 nu (zn6 ?_);refine zw rfl (fun c36=>?_) (fun c36=>?_)
  ·have hjt:j < l.length:=by omega
   obtain⟨ub,uo,B',cq,he,hub,hur,_⟩:=hT.at_ hB hjt;cases he;refine zn7 ?_;refine wl (zW C9 rfl rfl hur Mk) ?_;refine xV (cs:=#[.string ⟨#[]⟩,.slice none 0 0]) ze113 rfl (fun _=>rfl) (fun _=>rfl) Mk rfl zK (fun b6 w10 hb6 hs hr=>?_);replace hB:=hB.tr0 hs;replace hb2:=hb2.tr0 hs;replace hb4:=hb4.tr0 hs;refine vx ?_;refine zw rfl (fun c43=>?_) (fun c43=>?_)
   ·have hty:=ty7 l k hlt hnm (seen_yes hlt om c43);refine zn3 ?_;refine wl (yz (v0:= .int _ _) (v1:= .int _ _) (fun v0 v1=>#[v0,v1]) rfl rfl kR) ?_;refine zk hb2 rfl rfl uk rfl zK (fun w11 hq hs=>?_);replace hB:=hB.tr1 hs lo2;replace hb2:=hq;refine jq ?_;refine x5 (.inl rfl) rfl (zy U37 rfl rfl hb2.range0 uk) ?_;exact⟨qQ (hR'.trans (qV (c:=7) om hty dE)),hB⟩
   have hse':j9 ((l.take (j + 1)).map (·.name)) (l[k]'hlt).name=false:=by rw [uz l hjt,List.map_append,List.map_cons,List.map_nil,gv,hse];simp [c43]
   refine zn7 ?_;refine xv (k - (j + 1)) om agA ?_;exact⟨j + 1,by omega,rfl,rfl,hB,hb2,hb4,hse'⟩
  have hsn:j9 ((l.take k).map (·.name)) (l[k]'hlt).name=false:=by
    have e:k=j:=by omega
    subst e;exact hse
  refine oY ?_;refine wl (O8 U4 rfl rfl) (zZ (e_S ?_));refine j7 rfl (fun c53=>?_) (fun c53=>?_)
  ·have hty:=ty5 l k hlt hnm hsn (Hx c53);refine zn3 ?_;refine wl (yz (v0:= .int _ _) (v1:= .int _ _) (fun v0 v1=>#[v0,v1]) rfl rfl kR) ?_;refine zk hb2 rfl rfl uk rfl zK (fun w12 hq hs=>?_);replace hB:=hB.tr1 hs lo2;replace hb2:=hq;refine zn9 ?_;refine x5 (.inl rfl) rfl (zy U37 rfl rfl hb2.range0 uk) ?_;exact⟨qQ (hR'.trans (qV (c:=5) om hty dE)),hB⟩
  have hmal:=mal_no c53;refine vx ?_;refine q8 [7,8,59,60,61,62,63,64,65,66,67,68,69,70,71,72,73,74,75,76,77,78,79,80,81,82,83,84,85,86,87] (fun m g w'=>∃ (j:Nat) (last:Int),j≤(l[k]'hlt).par.length∧m=(l[k]'hlt).par.length - j∧g 59= .int .i64 j∧w8=w'∧(j=0→last= -1)∧(∀ h:0 < j∧j - 1 < (l[k]'hlt).par.length,last=((l[k]'hlt).par[j - 1]'h.2))∧yv l k=vJ k last ((l[k]'hlt).par.drop j)) ((l[k]'hlt).par.length) ?_ (fun m g17 w13 hI=>?_)
  ·exact⟨0,-1,Nat.zero_le _,rfl,rfl,rfl,fun _=>rfl,fun h=>by omega,EZ l k hlt hnm hsn hmal⟩
  obtain⟨j,last,hj,hmj,h59,rfl,hl0,hl1,hP⟩:=hI;refine zJ 59 (.int .i64 j) h59 nu (zn6 ?_);refine zw rfl (fun c60=>?_) (fun c60=>?_)
  ·have hlj:j < (l[k]'hlt).par.length:=by omega
   have hmx:=hpar.1;unfold yJ at hmx;have hpar':=hpar;obtain⟨pb,po,rfl,hpb,hpc⟩:=hpar.at_ hlj;replace hpc:=hB.cell hpb hpc;have hpd:∀ h:j - 1 < (l[k]'hlt).par.length,w8.cell? ⟨pb,po + (j - 1) * 1,none⟩=some (.int .i64 ((l[k]'hlt).par[j - 1]'h)):=fun h=>by
     obtain⟨pb2,po2,he,hpb2,hpc2⟩:=hpar'.at_ h;cases he;exact hB.cell hpb2 hpc2
   refine zn8 ?_;refine wl (qk (v:= .int _ _) U3 rfl rfl hpc) (zn6 ?_);refine x7 [64,65,66,67,68,69,70] 70 (.bool (decide ((l[k]'hlt).par[j] < 0∨(k:Int)≤(l[k]'hlt).par[j]))) nu ?_ (fun gq=>?_)
   ·refine zn4 ?_;refine zj 66 rfl (fun g66=>?_) (fun g66=>?_)
    ·refine zn4 ?_;refine zZ (e_R ⟨rfl,agA,?_⟩);exact clA
    refine zn7 ?_;refine zZ (e_R ⟨rfl,agA,?_⟩);exact clA
   refine e_S ?_;refine zw rfl (fun c70=>?_) (fun c70=>?_)
   ·have hty:yv l k=3:=by rw [hP,List.drop_eq_getElem_cons hlj];simp only [vJ,if_pos c70]
    refine zn3 ?_;refine wl (yz (v0:= .int _ _) (v1:= .int _ _) (fun v0 v1=>#[v0,v1]) rfl rfl kR) ?_;refine zk hb2 rfl rfl uk rfl zK (fun w14 hq hs=>?_);replace hB:=hB.tr1 hs lo2;replace hb2:=hq;refine jq ?_;refine x5 (.inl rfl) rfl (zy U37 rfl rfl hb2.range0 uk) ?_;exact⟨qQ (hR'.trans (qV (c:=3) om hty dE)),hB⟩
   refine zn3 ?_;refine x7 [73,74,75,76,77,78,79,80,81,82,83,84] 84 (.bool (decide (0 < j∧(l[k]'hlt).par[j]≤((l[k]'hlt).par[j - 1]'om)))) nu ?_ (fun gq=>?_)
   ·refine zn4 ?_;refine zj 75 rfl (fun g75=>?_) (fun g75=>?_)
    ·refine zn9 ?_;refine wl (jV (c:=((j - 1:Nat):Int)) rfl rfl om om) (zn1 ?_);refine wl (yQ (i:=j - 1) U69 sz3 rfl rfl om rfl) (zn1 ?_);refine wl (qk (v:= .int _ _) U3 rfl rfl (hpd om)) (zn3 ?_);refine zZ (e_R ⟨rfl,agA,?_⟩);exact clA
    refine zn9 ?_;refine zZ (e_R ⟨rfl,agA,?_⟩);exact clA
   refine e_S ?_;refine zw rfl (fun c84=>?_) (fun c84=>?_)
   ·have hty:yv l k=13:=by rw [hP,List.drop_eq_getElem_cons hlj,hl1 ⟨c84.1,by omega⟩];simp only [vJ,if_neg c70,if_pos c84.2]
    refine zn3 ?_;refine wl (yz (v0:= .int _ _) (v1:= .int _ _) (fun v0 v1=>#[v0,v1]) rfl rfl kR) ?_;refine zk hb2 rfl rfl uk rfl zK (fun w15 hq hs=>?_);replace hB:=hB.tr1 hs lo2;replace hb2:=hq;refine yj ?_;refine x5 (.inl rfl) rfl (zy U37 rfl rfl hb2.range0 uk) ?_;exact⟨qQ (hR'.trans (qV (c:=13) om hty dE)),hB⟩
   have hP':yv l k=vJ k (l[k]'hlt).par[j] ((l[k]'hlt).par.drop (j + 1)):=by
     have hnl:¬(l[k]'hlt).par[j]≤last:=fun h=>by
       by_cases e:j=0
       · have:=hl0 e;omega
       · have:=hl1 ⟨by omega,by omega⟩;exact c84 ⟨by omega,by omega⟩
     rw [hP,List.drop_eq_getElem_cons hlj];simp only [vJ,if_neg c70,if_neg hnl]
   refine zn7 ?_;refine xv ((l[k]'hlt).par.length - (j + 1)) om agA ?_;exact⟨j + 1,(l[k]'hlt).par[j],by omega,rfl,rfl,rfl,fun h=>by omega,fun h=>rfl,hP'⟩
  have hty:=Lib.hid (show yv l k=0 by rw [hP,List.drop_eq_nil_of_le om];rfl);refine yq ?_;refine xv (l.length - (k + 1)) om agA ?_;exact⟨k + 1,by omega,rfl,rfl,hB,hb2,hR'.trans (yx hlt hty.out)⟩
 refine zn7 ?_;refine wl (uw (vs:=#[]) (cs:=#[.int .i64 0,.int .i64 0]) (by simp) kR) ?_;refine zk hb2 rfl rfl uk rfl zK (fun w16 hq hs=>?_);replace hB:=hB.tr1 hs lo2;replace hb2:=hq;refine zn3 ?_;refine x5 (.inl rfl) rfl (zy U37 rfl rfl hb2.range0 uk) ?_;exact⟨qQ (hR'.trans (yK om)),hB⟩
end Go.Proofs.YtdkfnakncaggoaaGreatDoor
namespace Go.Proofs.YtdkfnakncaggoaaGreatDoor
open Go.RowKit
def Ik (l:List Ty) (i:Nat):List Nat:=match l[i]? with
  | none=>[]
  | some t=>t.par.map Int.toNat
def Bw (l:List Ty):Nat→Nat→Nat→Bool
  | 0,a,b=>decide (a=b)
  | f + 1,a,b=>decide (a=b) || (Ik l a).any (fun p=>Bw l f p b)
def sub (l:List Ty) (a b:Nat):Bool:=Bw l a a b
def VT (l:List Ty):Prop:=∀ i (h:i < l.length),∀ p ∈ (l[i]).par,0≤p∧p < (i:Int)
theorem VT.par {l:List Ty} (h:VT l) {a p:Nat} (hp:p ∈ Ik l a):p < a:=by
  unfold Ik at hp;by_cases ha:a < l.length
  · rw [List.getElem?_eq_getElem ha] at hp
    simp only [List.mem_map] at hp;obtain⟨q,hq,rfl⟩:=hp;have:=h a ha q hq;omega
  · rw [List.getElem?_eq_none om] at hp;cases hp
theorem N7 {α:Type} {l:List α} {p q:α→Bool} (h:∀ x ∈ l,p x=q x):l.any p=l.any q:=by
  induction l with
  | nil=>rfl
  | cons a r ih=>
    simp only [List.any_cons];rw [h a (by simp),ih (fun x hx=>h x (by simp [hx]))]
theorem LX {l:List Ty} (hv:VT l) (b:Nat):∀ (n a:Nat),a≤n→∀ f,a≤f→Bw l f a b=Bw l a a b:=by
  intro n
  induction n with
  | zero=>
    intro a ha f hf;have:a=0:=by omega
    subst this;have hp:Ik l 0= []:=by
      cases h:Ik l 0 with
      | nil=>rfl
      | cons p r=>exact absurd (hv.par (a:=0) (p:=p) (by rw [h];simp)) om
    cases f <;> simp [Bw,hp]
  | succ n ih=>
    intro a ha f hf;cases a with
    | zero=>exact ih 0 om f om
    | succ a=>
      cases f with
      | zero=>omega
      | succ f=>
        simp only [Bw]
        congr 1
        apply N7
        intro p hp;have:=hv.par hp;rw [ih p om f om,ih p om a om]
theorem Rx {l:List Ty} (hv:VT l) (a b:Nat):sub l a b=(decide (a=b) || (Ik l a).any (fun p=>sub l p b)):=by
  unfold sub;cases a with
  | zero=>
    have hp:Ik l 0= []:=by
      cases h:Ik l 0 with
      | nil=>rfl
      | cons p r=>exact absurd (hv.par (a:=0) (p:=p) (by rw [h];simp)) om
    simp [Bw,hp]
  | succ a=>
    conv=>lhs;unfold Bw
    congr 1
    apply N7
    intro p hp;have:=hv.par hp;rw [LX hv b (a + 1) p om a om]
theorem VW {l:List Ty} (hv:VT l) (a:Nat):sub l a a=true:=by rw [Rx hv];simp
theorem Q4 {l:List Ty} (hv:VT l) (a b:Nat):sub l a b=true ↔ a=b∨∃ p ∈ Ik l a,sub l p b=true:=by
  rw [Rx hv];simp
theorem sub_le {l:List Ty} (hv:VT l):∀ (n a b:Nat),a≤n→sub l a b=true→b≤a:=by
  intro n
  induction n with
  | zero=>
    intro a b ha h;rcases(Q4 hv a b).1 h with rfl | ⟨p,hp,_⟩
    · omega
    · have:=hv.par hp;omega
  | succ n ih=>
    intro a b ha h;rcases(Q4 hv a b).1 h with rfl | ⟨p,hp,hs⟩
    · omega
    · have:=hv.par hp
      have:=ih p b om hs;omega
theorem VY {l:List Ty} (hv:VT l) {a b:Nat} (h:sub l a b=true):b≤a:=sub_le hv a a b (Nat.le_refl _) h
theorem LQ {l:List Ty} (hv:VT l) (c:Nat):∀ (n a b:Nat),a≤n→sub l a b=true→sub l b c=true→sub l a c=true:=by
  intro n
  induction n with
  | zero=>
    intro a b ha h h2;rcases(Q4 hv a b).1 h with rfl | ⟨p,hp,_⟩
    · exact h2
    · have:=hv.par hp;omega
  | succ n ih=>
    intro a b ha h h2;rcases(Q4 hv a b).1 h with rfl | ⟨p,hp,hs⟩
    · exact h2
    · have:=hv.par hp
      exact(Q4 hv a c).2 (.inr ⟨p,hp,ih p b om hs h2⟩)
theorem Mv {l:List Ty} (hv:VT l) {a b c:Nat} (h:sub l a b=true) (h2:sub l b c=true):sub l a c=true:=LQ hv c a a b (Nat.le_refl _) h h2
theorem sub_par {l:List Ty} (hv:VT l) {i:Nat} (hi:i < l.length) {p:Int} (hp:p ∈ (l[i]).par):sub l i p.toNat=true:=by
  refine(Q4 hv i _).2 (.inr ⟨p.toNat,?_,VW hv _⟩);simp only [Ik,List.getElem?_eq_getElem hi,List.mem_map];exact⟨p,hp,rfl⟩
def KQ (ps:List Int) (x:Nat):Bool:=ps.any (fun p=>decide (p=(x:Int)))
theorem S8 (ps:List Int) (x:Nat):KQ ps x=true ↔ (x:Int) ∈ ps:=by simp [KQ]
theorem parB_snoc (ps:List Int) {j:Nat} (hj:j < ps.length) (x:Nat):KQ (ps.take (j + 1)) x=(KQ (ps.take j) x || decide (ps[j]=(x:Int))):=by
  simp only [KQ];rw [List.take_succ_eq_append_getElem hj,List.any_append];simp
structure Marks (l:List Ty) (a i:Nat) (mk:Nat→Bool):Prop where
  ok:∀ j,mk j=true→sub l a j=true
  all:∀ c,c≤i→sub l a c=true→∃ j,j≤i∧mk j=true∧sub l j c=true
theorem Marks.start {l:List Ty} (hv:VT l) (a:Nat):Marks l a a (fun j=>if j=a then true else false):=
  ⟨fun j h=>by
    by_cases e:j=a
    · subst e;exact VW hv _
    · simp [e] at h,fun c _ h=>⟨a,Nat.le_refl _,by simp,h⟩⟩
theorem Marks.yes {l:List Ty} (hv:VT l) {a i:Nat} {mk:Nat→Bool} (h:Marks l a i mk) (hi:i < l.length) (hm:mk i=true):Marks l a (i - 1) (fun x=>mk x || KQ (l[i]).par x):=
  ⟨fun j hj=>by
    simp only [Bool.or_eq_true] at hj
    rcases hj with hj | hj
    · exact h.ok j hj
    · have:=sub_par hv hi ((S8 _ _).1 hj)
      simp only [Int.toNat_natCast] at this
      exact Mv hv (h.ok i hm) this,fun c hc hs=>by
    by_cases hi0:i=0
    · subst hi0
      obtain⟨j,hj,h1,h2⟩:=h.all c om hs
      exact⟨j,by omega,by simp [h1],h2⟩
    obtain⟨j,hj,h1,h2⟩:=h.all c om hs
    by_cases e:j=i
    · subst e
      rcases(Q4 hv j c).1 h2 with rfl | ⟨p,hp,hps⟩
      · omega
      · have hlt:=hv.par hp
        refine⟨p,by omega,?_,hps⟩
        simp only [Ik,List.getElem?_eq_getElem hi,List.mem_map] at hp
        obtain⟨q,hq,rfl⟩:=hp
        have:=hv j hi q hq
        have hq':((q.toNat:Nat):Int) ∈ (l[j]).par:=by rw [Int.toNat_of_nonneg this.1];exact hq
        simp only [Bool.or_eq_true]
        exact .inr ((S8 _ _).2 hq')
    · exact⟨j,by omega,by simp [h1],h2⟩⟩
theorem Marks.no {l:List Ty} {a i:Nat} {mk:Nat→Bool} (h:Marks l a i mk) (hm:mk i=false):Marks l a (i - 1) mk:=
  ⟨h.ok,fun c hc hs=>by
    obtain⟨j,hj,h1,h2⟩:=h.all c om hs
    by_cases e:j=i
    · subst e;rw [hm] at h1;cases h1
    · exact⟨j,by omega,h1,h2⟩⟩
theorem Marks.end_ {l:List Ty} (hv:VT l) {a b i:Nat} {mk:Nat→Bool} (h:Marks l a i mk) (hi:i≤b) (hb:b≤a→b≤i):mk b=sub l a b:=by
  cases hs:sub l a b
  · cases hm:mk b
    · rfl
    · rw [h.ok b hm] at hs;cases hs
  · have hle:=VY hv hs
    have hib:i=b:=Nat.le_antisymm hi (hb hle);subst hib;obtain⟨j,hj,h1,h2⟩:=h.all i (Nat.le_refl _) hs;have:=VY hv h2;have:j=i:=by omega
    subst this;exact h1
theorem in4:(Tryz.prog.info? 4).map (fun i=>(i.zero,i.size,i.bytes))=some (some (.bool false),1,1):=by kernel_rfl
theorem sz4:(Tryz.prog.info? 4).map (·.size)=some 1:=by kernel_rfl
theorem EY (A:Option Addr) (c:Nat) (l:List Ty) (a b:Nat) (w:World) (hT:TypesIn w A l) (hv:VT l) (h60:l.length≤60) (ha:a < l.length) (hb:b < l.length):Calls Tryz.prog 46 #[.slice A l.length c,.int .i64 a,.int .i64 b] w fun e w'=>e= .returned (.bool (sub l a b))∧Bel w w':=by
 have hmx:=hT.1;unfold yJ at hmx;refine enter Tryz.func46 Tryz.ntmps46 rfl (Nat.le_of_ble_eq_true rfl) ?_;have hB:Bel w w:=Below.refl _ _;refine zn9 ?_;refine V2 (m:=l.length) Y5 in4 rfl rfl rfl om hmx (fun b13 w1 hb13 hs hr=>?_);have lo13:=nLT (Bel.size hB) hr;replace hB:=hB.tr0 hs;refine zn8 ?_;refine xY (v:= .bool _) hb13 rfl rfl sz4 (by rw [row_size];omega) rfl u3 (fun w2 hq hs=>?_);replace hB:=hB.tr1 hs lo13;replace hb13:=hq;refine zn4 ?_;have hb13':Blk w2 b13 4 (row l.length (fun j=> .bool (if j=a then true else false))):=by
   rw [show (row l.length (fun j=>Value.bool (if j=a then true else false)))=row l.length (fun j=>if j=a then Value.bool true else Value.bool false) from yy (fun j _=>by split <;> rfl)];exact hb13
 refine zn6 ?_;refine q8 [8,10,18,19,20,21,22,23,24,25,26,27,28,29,30,31,32,33,34,35,36,37,38,39,40] (fun m g w'=>∃ (i:Nat) (mk:Nat→Bool),i≤a∧m=i∧g 8= .int .i64 i∧(b≤a→b≤i)∧Bel w w'∧Blk w' b13 4 (row l.length (fun j=> .bool (mk j)))∧Marks l a i mk) (a) ?_ (fun m g4 w3 hI=>?_)
 ·exact⟨a,_,Nat.le_refl _,rfl,rfl,fun h=>h,hB,hb13',Marks.start hv a⟩
 obtain⟨i,mk,hi,hm,h8,hbi,hB,hb13,hM⟩:=hI;refine zJ 8 (.int .i64 i) h8 nu (zn8 ?_);refine zw rfl (fun c20=>?_) (fun c20=>?_)
 ·refine zn9 ?_;refine wl (qk (v:= .bool _) U4 rfl rfl (hb13.cell (vK om))) (zZ (e_S ?_));refine j7 rfl (fun c26=>?_) (fun c26=>?_)
  ·have hil:i < l.length:=by omega
   obtain⟨tb,to,A',cp,rfl,htb,htr,hpar⟩:=hT.at_ hB hil;have hpx:=hpar.1;unfold yJ at hpx;refine zn6 ?_;refine wl (qk (v:= .slice _ _ _) U69 rfl rfl (htr 1 _ rfl)) (zn5 ?_);refine q8 [10,33,34,35,36,37,38,39,40] (fun m g w'=>∃ (j:Nat),j≤(l[i]'hil).par.length∧m=(l[i]'hil).par.length - j∧g 33= .int .i64 j∧Bel w w'∧Blk w' b13 4 (row l.length (fun x=> .bool (mk x || KQ ((l[i]'hil).par.take j) x)))) ((l[i]'hil).par.length) ?_ (fun m g8 w4 hI=>?_)
   ·refine⟨0,Nat.zero_le _,rfl,rfl,hB,?_⟩;rw [show (row l.length (fun x=>Value.bool (mk x || KQ ((l[i]'hil).par.take 0) x)))=row l.length (fun j=> .bool (mk j)) from yy (fun x _=>by simp [KQ])];exact hb13
   obtain⟨j,hj,hmj,h33,hB,hb13⟩:=hI;refine zJ 33 (.int .i64 j) h33 nu (zn6 ?_);refine zw rfl (fun c34=>?_) (fun c34=>?_)
   ·have hlj:j < (l[i]'hil).par.length:=by omega
    obtain⟨pb,po,rfl,hpb,hpc⟩:=hpar.at_ hlj;replace hpc:=hB.cell hpb hpc;have hpr:=hv i hil _ (List.getElem_mem hlj);refine zn7 ?_;refine wl (qk (v:= .int _ _) U3 rfl rfl hpc) (zn6 ?_);refine wl (yQ (i:=((l[i]'hil).par[j]).toNat) Y5 sz4 rfl (show ev _ _ _=_ from congrArg (Value.int .i64) (Int.toNat_of_nonneg hpr.1).symm) om rfl) ?_;refine xY (v:= .bool _) hb13 rfl rfl sz4 (by rw [row_size];omega) rfl u3 (fun w5 hq hs=>?_);replace hB:=hB.tr1 hs lo13;replace hb13:=hq;refine zn7 ?_;refine xv ((l[i]'hil).par.length - (j + 1)) om agA ?_;refine⟨j + 1,by omega,rfl,rfl,hB,?_⟩
    rw [show (row l.length (fun x=>Value.bool (mk x || KQ ((l[i]'hil).par.take (j + 1)) x)))=row l.length (fun x=>if x=((l[i]'hil).par[j]).toNat then Value.bool true else .bool (mk x || KQ ((l[i]'hil).par.take j) x)) from yy (fun x _=>by
      rw [parB_snoc _ hlj];by_cases e:x=((l[i]'hil).par[j]).toNat
      · rw [if_pos e];have:(l[i]'hil).par[j]=(x:Int):=by omega
        simp [this]
      · rw [if_neg e];have:¬(l[i]'hil).par[j]=(x:Int):=by omega
        simp [this])]
    exact hb13
   have hM':=hM.yes hv hil c26;have hjl:j=(l[i]'hil).par.length:=by omega
   rw [hjl,List.take_length] at hb13;obtain⟨mk',hmk'⟩:∃ mk':Nat→Bool,mk'=fun x=>mk x || KQ (l[i]'hil).par x:=⟨_,rfl⟩
   rw [show (row l.length (fun x=>Value.bool (mk x || KQ (l[i]'hil).par x)))=row l.length (fun x=> .bool (mk' x)) from yy (fun x _=>by rw [hmk'])] at hb13;rw [← hmk'] at hM';refine zn8 ?_;refine wl (jV (c:=((i - 1:Nat):Int)) rfl rfl om om) (zn2 ?_);refine xv (i - 1) om agA ?_;exact⟨i - 1,mk',by omega,rfl,rfl,fun h=>by omega,hB,hb13,hM'⟩
  have hM':=hM.no c26;obtain⟨mk',hmk'⟩:∃ mk',mk'=mk:=⟨_,rfl⟩
  rw [← hmk'] at hM' hb13;clear hmk';refine zn5 ?_;refine wl (jV (c:=((i - 1:Nat):Int)) rfl rfl om om) (zn2 ?_);refine xv (i - 1) om agA ?_;exact⟨i - 1,mk',by omega,rfl,rfl,fun h=>by omega,hB,hb13,hM'⟩
 refine yq ?_;refine wl (qk (v:= .bool _) U4 rfl rfl (hb13.cell (vK om))) (zn5 ?_);exact⟨jK (hM.end_ hv om hbi).symm,hB⟩
end Go.Proofs.YtdkfnakncaggoaaGreatDoor
namespace Go.Proofs.YtdkfnakncaggoaaGreatDoor
open Go.RowKit
def j6 (p:Nat→Bool):Nat→Nat
  | 0=>0
  | n + 1=>j6 p n ||| (if p n then 2 ^ n else 0)
theorem j5 (p:Nat→Bool):∀ (n j:Nat),(j6 p n).testBit j=(decide (j < n) && p j)
  | 0,j=>by simp [j6]
  | n + 1,j=>by
    rw [j6,Nat.testBit_or,j5 p n j]
    by_cases h:j=n
    · subst h
      cases hp:p j <;> simp [Nat.testBit_two_pow_self]
    · have h1:(if p n then 2 ^ n else 0:Nat).testBit j=false:=by
        cases hp:p n
        · simp
        · simp [Ne.symm h]
      have h2:decide (j < n + 1)=decide (j < n):=by simp;omega
      rw [h1,h2];simp
theorem mask_lt (p:Nat→Bool) (n:Nat):j6 p n < 2 ^ n:=by
  apply Nat.lt_pow_two_of_testBit
  intro i hi;rw [j5];simp;omega
theorem gw (p:Nat→Bool) {n:Nat} (h:n≤60):j6 p n < 18446744073709551616:=by
  have h1:=mask_lt p n;have h2:2 ^ n≤2 ^ 60:=Nat.pow_le_pow_right dE h;have h3:(2:Nat) ^ 60=1152921504606846976:=by decide
  omega
theorem XW {x:Nat} {p:Nat→Bool} {n:Nat} (h:∀ j,x.testBit j=(decide (j < n) && p j)):x=j6 p n:=
  Nat.eq_of_testBit_eq (fun j=>by rw [h,j5])
theorem vY {p q:Nat→Bool} {n:Nat} (h:∀ j,j < n→p j=q j):j6 p n=j6 q n:=by
  apply XW
  intro j;rw [j5];by_cases hj:j < n
  · rw [h j hj]
  · simp [hj]
theorem Hq (p q:Nat→Bool) (n:Nat):j6 p n ||| j6 q n=j6 (fun j=>p j || q j) n:=
  XW (fun j=>by rw [Nat.testBit_or,j5,j5];cases decide (j < n) <;> simp)
theorem mask_and (p q:Nat→Bool) (n:Nat):j6 p n &&& j6 q n=j6 (fun j=>p j && q j) n:=
  XW (fun j=>by rw [Nat.testBit_and,j5,j5];cases decide (j < n) <;> simp)
theorem Sx {k n:Nat} (h:k < n):2 ^ k=j6 (fun j=>decide (j=k)) n:=by
  apply XW
  intro j;rw [Nat.testBit_two_pow];by_cases e:k=j
  · subst e;simp [h]
  · simp [e,Ne.symm e]
theorem mask_zero (n:Nat):j6 (fun _=>false) n=0:=by
  symm;apply XW;intro j;simp
theorem mask_eq_zero {p:Nat→Bool} {n:Nat}:j6 p n=0 ↔ ∀ j,j < n→p j=false:=by
  constructor
  · intro h j hj
    have:=j5 p n j;rw [h] at this
    simpa [hj] using this.symm
  · intro h
    rw [← mask_zero n];exact vY h
theorem mask_inj {p q:Nat→Bool} {n:Nat}:j6 p n=j6 q n ↔ ∀ j,j < n→p j=q j:=by
  constructor
  · intro h j hj
    have h1:=j5 p n j;have h2:=j5 q n j;rw [h] at h1;rw [h1] at h2
    simpa [hj] using h2
  · exact vY
theorem NY (x j:Nat):decide (((x >>> j) &&& 1)=1)=x.testBit j:=by
  rw [Nat.testBit_eq_decide_div_mod_eq,Nat.shiftRight_eq_div_pow,Nat.and_one_is_mod]
theorem K1 {p:Nat→Bool} {n:Nat} (hn:n≤60) (h0:j6 p n≠0):Lib.ctz 64 (j6 p n) < n∧p (Lib.ctz 64 (j6 p n))=true∧∀ j,j < Lib.ctz 64 (j6 p n)→p j=false:=by
  have hlt:j6 p n < 2 ^ 64:=by
    have h1:=gw p hn;have h2:(2:Nat) ^ 64=18446744073709551616:=by decide
    omega
  obtain⟨m,hm,hk⟩:=Lib.ctzFrom_spec 64 (j6 p n) om hlt;have e:Lib.ctz 64 (j6 p n)=Lib.ctzFrom 64 (j6 p n):=by simp [Lib.ctz,h0]
  rw [e]
  generalize hc:Lib.ctzFrom 64 (j6 p n)=c at *
  have hb:∀ j,(j6 p n).testBit j=(decide (c≤j) && (2 * m + 1).testBit (j - c)):=by
    intro j;rw [hm,Nat.mul_comm,Nat.testBit_mul_two_pow]
  have hcb:(j6 p n).testBit c=true:=by rw [hb];simp
  rw [j5] at hcb;simp only [Bool.and_eq_true,decide_eq_true_eq] at hcb;refine⟨hcb.1,hcb.2,fun j hj=>?_⟩;have:=hb j;rw [j5] at this;have hcj:¬c≤j:=by omega
  simp only [hcj,decide_false,Bool.false_and] at this;have hjn:j < n:=by omega
  simpa [hjn] using this
def TabIn (w:World):Prop:=0 < w.heap.size∧∀ k,k < 64→w.cell? ⟨0,0 + k * 1,none⟩=some (.int .u8 ((Lib.deBruijn64tab.getD k 0:Nat):Int))
theorem TabIn.mono {w w':World} (h:TabIn w) (hb:Bel w w'):TabIn w':=⟨nLL h.1 hb.size,fun k hk=>hb.cell h.1 (h.2 k hk)⟩
theorem ctz_eq {x c:Nat} (h0:x≠0) (hx:x < 18446744073709551616) (hc:18446744073709551616 - x=c):x &&& c=2 ^ Lib.ctz 64 x∧Lib.ctz 64 x < 64:=by
  subst hc
  exact Lib.lowest_bit 64 x h0 (by have : (2 : Nat) ^ 64 = 18446744073709551616 := by decide
                                   omega)
def tzI (x:Nat):Nat:=((x &&& (18446744073709551616 - x)) * 285870213051353865 % 18446744073709551616) >>> 58
theorem tzI_spec {x:Nat} (h0:x≠0) (hx:x < 18446744073709551616):tzI x < 64∧Lib.deBruijn64tab.getD (tzI x) 0=Lib.ctz 64 x:=by
  have h:=ctz_eq h0 hx rfl;have h2:=Lib.deBruijn64_at (Lib.ctz 64 x) h.2;unfold tzI;rw [h.1,Nat.shiftRight_eq_div_pow];exact h2
def upN (l:List Ty) (i:Nat):Nat:=j6 (fun j=>sub l i j) l.length
def oJ (l:List Ty) (j:Nat):Nat:=j6 (fun i=>sub l i j) l.length
def rU (n:Nat) (g:Nat→Nat):Array Value:=row n (fun i=> .int .u64 (g i))
def TableIn (w:World) (l:List Ty) (bu bd:Nat):Prop:=Blk w bu 122 (rU l.length (upN l))∧Blk w bd 122 (rU l.length (oJ l))
theorem Blk.bel {w w':World} {b:Nat} {t:TypeId} {cs:Array Value} (h:Blk w b t cs) (hb:Bel w w'):Blk w' b t cs:=(hb.block b h.lt).trans h
theorem TableIn.mono {w w':World} {l:List Ty} {bu bd:Nat} (h:TableIn w l bu bd) (hb:Bel w w'):TableIn w' l bu bd:=⟨h.1.bel hb,h.2.bel hb⟩
theorem TableIn.up {w:World} {l:List Ty} {bu bd i:Nat} (h:TableIn w l bu bd) (hi:i < l.length):w.cell? ⟨bu,0 + i * 1,none⟩=some (.int .u64 (upN l i)):=h.1.cell (vK hi)
theorem TableIn.down {w:World} {l:List Ty} {bu bd i:Nat} (h:TableIn w l bu bd) (hi:i < l.length):w.cell? ⟨bd,0 + i * 1,none⟩=some (.int .u64 (oJ l i)):=h.2.cell (vK hi)
theorem TJ {l:List Ty} (h:l.length≤60) (i:Nat):upN l i < 18446744073709551616:=gw _ h
theorem T7 {l:List Ty} (h:l.length≤60) (i:Nat):oJ l i < 18446744073709551616:=gw _ h
def VQ (n bu bd:Nat):Value:= .agg #[.slice (some ⟨bu,0,none⟩) n n,.slice (some ⟨bd,0,none⟩) n n]
def kZ (l:List Ty) (a b:Nat) (i:Nat):Bool:=sub l i a && sub l i b
def yV (l:List Ty) (a b:Nat):Nat:=j6 (kZ l a b) l.length
theorem comm_and (l:List Ty) (a b:Nat):oJ l a &&& oJ l b=yV l a b:=mask_and _ _ _
def oj (l:List Ty) (a b:Nat):Nat×Bool×Bool:=
  if yV l a b=0 then (0,false,false)
  else if oJ l (Lib.ctz 64 (yV l a b))≠yV l a b then (0,false,true)
  else (Lib.ctz 64 (yV l a b),true,false)
def meetV (r:Nat×Bool×Bool):Value:= .tuple #[.int .i64 r.1,.bool r.2.1,.bool r.2.2]
theorem MQ {m:Nat} {p q:Bool} {r:Nat×Bool×Bool} (h:r=(m,p,q)):Ending.returned (.tuple #[.int .i64 (m:Int),.bool p,.bool q])= .returned (meetV r):=by rw [h];rfl
end Go.Proofs.YtdkfnakncaggoaaGreatDoor
