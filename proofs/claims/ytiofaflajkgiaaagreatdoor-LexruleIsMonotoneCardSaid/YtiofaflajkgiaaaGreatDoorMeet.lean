/- What these functions compute, at every world: term.Name, hierarchy.fault, hierarchy.Types, ref3.Sub, math/bits.TrailingZeros64, (hierarchy.Table).Meet, (hierarchy.Table).Sub; and plain laws. -/
import Derived.Test.YtiofaflajkgiaaaGreatDoorZst
import Derived.Test.YtiofaflajkgiaaaGreatDoorU
import Derived.Test.YtiofaflajkgiaaaGreatDoorProg
import Derived.Lib.TrailingZeros
namespace Go.Proofs.YtiofaflajkgiaaaGreatDoor
open Go.RowKit Go.Proofs.Tryz
inductive Sm where
 | mk (base:ByteArray) (args:List Sm)
def Sm.base:Sm->ByteArray | .mk b _=>b
def Sm.args:Sm->List Sm | .mk _ a=>a
theorem Sm.eta(s:Sm):s= .mk s.base s.args:=by cases s;rfl
mutual
inductive SimAt(w:World):Nat->Nat->Sm->Prop
 | mk {b o:Nat} {base:ByteArray} {args:List Sm} {A:Option Addr} {c:Nat} (hb:b<w.heap.size) (h:w.rangeAt b o [.string base,.slice A (List.length args) c]) (hs:SimsIn w A args):SimAt w b o (.mk base args)
inductive SimsIn(w:World):Option Addr->List Sm->Prop
 | nil {A:Option Addr}:SimsIn w A []
 | more {b o:Nat} {args:List Sm} (hl:args.length<=jx) (hb:b<w.heap.size) (h:∀ k (hk:k<args.length),SimAt w b (o+k*2) args[k]):SimsIn w (some ⟨b,o,none⟩) args
end
theorem SimAt.both{w w':World}(hw:Bel w w'):(∀ {b o:Nat} {s:Sm},SimAt w b o s->SimAt w' b o s)/\∀ {A:Option Addr} {l:List Sm},SimsIn w A l->SimsIn w' A l:=by
 have h1:∀ {b o:Nat} {s:Sm} (h:SimAt w b o s),SimAt w' b o s:=fun h=>
  SimAt.rec (motive_1:=fun b o s _=>SimAt w' b o s) (motive_2:=fun A l _=>SimsIn w' A l)
   (fun hb h _ ih=> .mk (nLL hb hw.size) (hw.range hb h) ih) .nil (fun hl hb _ ih=> .more hl (nLL hb hw.size) ih) h
 have h2:∀ {A:Option Addr} {l:List Sm} (h:SimsIn w A l),SimsIn w' A l:=fun h=>
  SimsIn.rec (motive_1:=fun b o s _=>SimAt w' b o s) (motive_2:=fun A l _=>SimsIn w' A l)
   (fun hb h _ ih=> .mk (nLL hb hw.size) (hw.range hb h) ih) .nil (fun hl hb _ ih=> .more hl (nLL hb hw.size) ih) h
 exact⟨h1,h2⟩
theorem SimAt.mono{w w':World}{b o:Nat}{s:Sm}(h:SimAt w b o s)(hw:Bel w w'):SimAt w' b o s:=(SimAt.both hw).1 h
theorem SimsIn.mono{w w':World}{A:Option Addr}{l:List Sm}(h:SimsIn w A l)(hw:Bel w w'):SimsIn w' A l:=(SimAt.both hw).2 h
theorem SimsIn.le{w:World}{A:Option Addr}{l:List Sm}(h:SimsIn w A l):l.length<=jx:=by
 cases h with
 | nil=>exact ag _
 | more hl=>exact hl
theorem SimsIn.at_{w:World}{A:Option Addr}{l:List Sm}(h:SimsIn w A l){k:Nat}(hk:k<l.length):∃ b o A' c,A=some ⟨b,o,none⟩/\b<w.heap.size/\w.rangeAt b (o+k*2) [Value.string (l[k]).base,.slice A' (l[k]).args.length c]/\SimsIn w A' (l[k]).args:=by
 cases h with
 | nil=>simp at hk
 | @more b o _ _ hb h=>
  have hx:=h k hk
  generalize l[k]=s at hx
  cases hx with
  | mk _ hr hs=>exact⟨b,o,_,_,rfl,hb,hr,hs⟩
def smE:ByteArray:=⟨#[101]⟩
def smT:ByteArray:=⟨#[116]⟩
def YJ(s:Sm):Prop:=((s.base=smE\/s.base=smT)/\s.args.length=0)\/(s.base=⟨#[]⟩/\s.args.length=2)
instance(s:Sm):Decidable (YJ s):=by unfold YJ;infer_instance
mutual
def swk:Sm->Nat->Nat->Nat×Int
 | .mk b l,d,n=>if 200<n+1\/40<d then (n+1,1)else if YJ (.mk b l)then M9 l (d+1) (n+1)else (n+1,5)
def M9:List Sm->Nat->Nat->Nat×Int
 | [],_,n=>(n,0)
 | x::r,d,n=>if (swk x d n).2=0 then M9 r d (swk x d n).1 else swk x d n
end
theorem Ev(s:Sm)(d n:Nat):swk s d n=if 200<n+1\/40<d then (n+1,1)else if YJ s then M9 s.args (d+1) (n+1)else (n+1,5):=by
 cases s;rw[swk];rfl
def sst:List (Sm×Nat)->Nat->Nat×Int
 | [],n=>(n,0)
 | x::r,n=>if (swk x.1 x.2 n).2=0 then sst r (swk x.1 x.2 n).1 else swk x.1 x.2 n
theorem swks_st(d:Nat):∀(l:List Sm) (n:Nat),M9 l d n=sst (l.map (fun y=>(y,d))) n
 | [],_=>by rw[M9];rfl
 | x::r,n=>by
  rw[M9,swks_st d r];rfl
theorem sst_app:∀(l r:List (Sm×Nat)) (n:Nat),sst (l++r) n=if (sst l n).2=0 then sst r (sst l n).1 else sst l n
 | [],_,_=>rfl
 | x::l,r,n=>by
  show (if (swk x.1 x.2 n).2=0 then sst (l++r) (swk x.1 x.2 n).1 else swk x.1 x.2 n)=_
  rw[sst_app l r]
  show _=if (if (swk x.1 x.2 n).2=0 then sst l (swk x.1 x.2 n).1 else swk x.1 x.2 n).2=0 then sst r (if (swk x.1 x.2 n).2=0 then sst l (swk x.1 x.2 n).1 else swk x.1 x.2 n).1 else (if (swk x.1 x.2 n).2=0 then sst l (swk x.1 x.2 n).1 else swk x.1 x.2 n)
  by_cases h:(swk x.1 x.2 n).2=0
  ·simp only[if_pos h]
  ·simp only[if_neg h]
theorem sst_out{n d:Nat}{s:Sm}{r:List (Sm×Nat)}(h:200<n+1\/40<d):sst ((s,d)::r) n=(n+1,1):=by
 have e:swk s d n=(n+1,1):=by rw[Ev,if_pos h]
 show (if (swk s d n).2=0 then _ else swk s d n)=_;rw[e];rfl
theorem sst_bad{n d:Nat}{s:Sm}{r:List (Sm×Nat)}(h:¬(200<n+1\/40<d))(ho:¬YJ s):sst ((s,d)::r) n=(n+1,5):=by
 have e:swk s d n=(n+1,5):=by rw[Ev,if_neg h,if_neg ho]
 show (if (swk s d n).2=0 then _ else swk s d n)=_;rw[e];rfl
theorem sst_go{n d:Nat}{s:Sm}{r:List (Sm×Nat)}(h:¬(200<n+1\/40<d))(ho:YJ s):sst ((s,d)::r) n=sst (s.args.map (fun y=>(y,d+1))++r) (n+1):=by
 have e:swk s d n=sst (s.args.map (fun y=>(y,d+1))) (n+1):=by rw[Ev,if_neg h,if_pos ho,swks_st]
 rw[sst_app,<- e];rfl
theorem sst_one(s:Sm)(d n:Nat):sst [(s,d)] n=swk s d n:=by
 show (if (swk s d n).2=0 then ((swk s d n).1,0)else swk s d n)=_;by_cases h:(swk s d n).2=0
 ·rw[if_pos h,<- h]
 ·rw[if_neg h]
def smF(s:Sm):Int:=(swk s 1 0).2
inductive Ts where
 | b (t:Bool)
 | f (x y:Ts)
def Ts.sm:Ts->Sm
 | .b t=> .mk (if t then smT else smE) []
 | .f x y=> .mk ⟨#[]⟩ [x.sm,y.sm]
def Ts.size:Ts->Nat
 | .b _=>1
 | .f x y=>x.size+y.size+1
def Ts.eqb:Ts->Ts->Bool
 | .b s,.b t=>s==t
 | .f x y,.f p q=>x.eqb p&&y.eqb q
 | _,_=>false
theorem Ts.eqb_iff:∀ {a b:Ts},a.eqb b=true↔a=b
 | .b s,.b t=>by simp[Ts.eqb]
 | .f x y,.f p q=>by simp[Ts.eqb,Ts.eqb_iff (a:=x),Ts.eqb_iff (a:=y)]
 | .b s,.f p q=>by simp[Ts.eqb]
 | .f x y,.b t=>by simp[Ts.eqb]
theorem smOk_leaf{s:Sm}(h:YJ s)(hl:s.args.length=0):∃ t,s=(Ts.b t).sm:=by
 rcases h with ⟨hb,_⟩|⟨_,h2⟩
 ·have ha:s.args= []:=aB.1 hl
  rcases hb with hb|hb
  ·exact⟨false,by rw[Sm.eta s,hb,ha];rfl⟩
  ·exact⟨true,by rw[Sm.eta s,hb,ha];rfl⟩
 ·omega
mutual
theorem LZ:∀(s:Sm) (d n:Nat),(swk s d n).2=0->∃ τ:Ts,s=τ.sm/\(swk s d n).1=n+τ.size/\n+τ.size<=200
 | .mk b l,d,n,h=>by
  rw[swk]at h ⊢
  by_cases h1:200<n+1\/40<d
  ·rw[if_pos h1]at h;cases h
  ·rw[if_neg h1]at h ⊢
   by_cases h2:YJ (.mk b l)
   ·rw[if_pos h2]at h ⊢
    obtain⟨ts,e1,e2,e3⟩:=swks_ts l (d+1) (n+1) h oG
    match l,ts,e1,h2 with
    | [],ts,e1,h2=>
     obtain⟨t,ht⟩:=smOk_leaf h2 rfl
     cases ts with
     | nil=>exact⟨.b t,ht,e2,by simp[Ts.size]at e3 ⊢;omega⟩
     | cons a r=>cases e1
    | [x,y],[p,q],e1,h2=>
     simp only[List.map_cons,List.map_nil,List.cons.injEq,and_true]at e1
     rcases h2 with ⟨_,h2⟩|⟨h2,_⟩
     ·cases h2
     ·have h2:b=⟨#[]⟩:=h2
      simp only[List.map_cons,List.map_nil,List.sum_cons,List.sum_nil]at e2 e3
      refine⟨.f p q,?_,?_,?_⟩
      ·rw[h2,e1.1,e1.2];rfl
      ·rw[e2];show _=n+(p.size+q.size+1);omega
      ·show n+(p.size+q.size+1)<=200;omega
    | [x],ts,_,h2=>rcases h2 with ⟨_,h2⟩|⟨_,h2⟩<;>cases h2
    | x::y::z::r,ts,_,h2=>rcases h2 with ⟨_,h2⟩|⟨_,h2⟩<;>cases h2
   ·rw[if_neg h2]at h;cases h
theorem swks_ts:∀(l:List Sm) (d n:Nat),(M9 l d n).2=0->n<=200->∃ ts:List Ts,l=ts.map Ts.sm/\(M9 l d n).1=n+(ts.map Ts.size).sum/\n+(ts.map Ts.size).sum<=200
 | [],d,n,_,hn=>⟨[],rfl,by rw[M9];rfl,hn⟩
 | x::r,d,n,h,hn=>by
  rw[M9]at h ⊢
  by_cases h1:(swk x d n).2=0
  ·rw[if_pos h1]at h ⊢
   obtain⟨τ,e1,e2,e3⟩:=LZ x d n h1
   rw[e2]at h ⊢
   obtain⟨ts,k1,k2,k3⟩:=swks_ts r d (n+τ.size) h e3
   exact⟨τ::ts,by rw[e1,k1];rfl,by rw[k2];simp;omega,by simp;omega⟩
  ·rw[if_neg h1]at h;exact absurd h h1
end
theorem smF_ts{s:Sm}(h:smF s=0):∃ τ:Ts,s=τ.sm/\τ.size<=200:=by
 obtain⟨τ,e,_,e2⟩:=LZ s 1 0 h;exact⟨τ,e,by omega⟩
theorem Ts.sm_inj:∀ {a b:Ts},a.sm=b.sm->a=b
 | .b s,.b t,h=>by
  cases s<;>cases t<;>first|rfl|(exfalso;revert h;simp[Ts.sm,smE,smT])
 | .b s,.f x y,h=>by exfalso;revert h;cases s<;>simp[Ts.sm]
 | .f x y,.b t,h=>by exfalso;revert h;cases t<;>simp[Ts.sm]
 | .f x y,.f p q,h=>by
  simp only[Ts.sm,Sm.mk.injEq,List.cons.injEq,and_true,true_and]at h
  rw[Ts.sm_inj h.1,Ts.sm_inj h.2]
def Ts.txt:Ts->List UInt8
 | .b t=>if t then [116]else [101]
 | .f x y=>40::(x.txt++32::(y.txt++[41]))
theorem Ts.txt_le:∀ τ:Ts,τ.txt.length<=4*τ.size
 | .b t=>by cases t<;>simp[Ts.txt,Ts.size]
 | .f x y=>by
  have h1:=Ts.txt_le x
  have h2:=Ts.txt_le y
  simp[Ts.txt,Ts.size];omega
theorem Ts.txt_pre:∀ {a b:Ts} {p q:List UInt8},a.txt++p=b.txt++q->a=b/\p=q
 | .b s,.b t,p,q,h=>by cases s<;>cases t<;>simp_all[Ts.txt]
 | .b s,.f x y,p,q,h=>by cases s<;>simp[Ts.txt]at h
 | .f x y,.b t,p,q,h=>by cases t<;>simp[Ts.txt]at h
 | .f x y,.f u v,p,q,h=>by
  simp only[Ts.txt,List.cons_append,List.append_assoc,List.cons.injEq,true_and,List.nil_append]at h
  obtain⟨rfl,h2⟩:=Ts.txt_pre h
  simp only[List.cons.injEq,true_and]at h2
  obtain⟨rfl,h3⟩:=Ts.txt_pre h2
  simp only[List.cons.injEq,true_and]at h3
  exact⟨rfl,h3⟩
theorem Ts.txt_inj{a b:Ts}(h:a.txt=b.txt):a=b:=(Ts.txt_pre (p:=[]) (q:=[]) (by rw[h])).1
def Xy(c:UInt8):Bool:=decide (97<=c.toNat/\c.toNat<=122)||decide (48<=c.toNat/\c.toNat<=57)||decide (c.toNat=95)||decide (c.toNat=45)
theorem J0(c:UInt8):Xy c=true↔((97<=c.toNat/\c.toNat<=122)\/(48<=c.toNat/\c.toNat<=57)\/c.toNat=95\/c.toNat=45):=by simp[Xy,or_assoc]
def Gq:List UInt8->Bool
 | []=>false
 | c::_=>decide (97<=c.toNat/\c.toNat<=122)
def vK(s:ByteArray):Bool:=decide (s.size<=30)&&Gq s.data.toList&&s.data.toList.all Xy
theorem Zy{a b:Bool}(h:a=b):Ending.returned (.bool b)= .returned (.bool a):=by rw[h]
theorem hd_num(s:ByteArray):∃ c0:Nat,∀ h:0<s.size,(s[0]'h).toNat=c0:=by
 by_cases h:0<s.size
 ·exact⟨(s[0]'h).toNat,fun _=>rfl⟩
 ·exact⟨0,fun h'=>absurd h' h⟩
theorem S6(s:ByteArray)(c0:Nat)(e0:∀ h:0<s.size,(s[0]'h).toNat=c0):
  vK s=decide ((s.size≠0/\s.size<=30)/\(97<=c0/\c0<=122)/\(∀ k (hk:k<s.size),Xy (s[k]'hk)=true)):=by
 have ha:(s.data.toList.all Xy=true)↔(∀ k (hk:k<s.size),Xy (s[k]'hk)=true):=by
  rw[List.all_eq_true]
  constructor
  ·intro h k hk
   exact h _ (ar (l:=s.data.toList) (n:=k) (by simpa using hk))
  ·intro h x hx
   obtain⟨k,hk,rfl⟩:=List.mem_iff_getElem.1 hx;exact h k (by simpa using hk)
 have hh:∀ h:0<s.size,Gq s.data.toList=decide (97<=c0/\c0<=122):=by
  intro h;rw[<- e0 h];obtain⟨⟨l⟩⟩:=s;cases l with
  | nil=>exact absurd h dE
  | cons c l=>rfl
 by_cases h0:s.size=0
 ·have:s.data.toList= []:=by
   apply List.eq_nil_of_length_eq_zero;simpa using h0
  simp[vK,this,Gq,h0]
 ·have h:=hh oG
  rw[Bool.eq_iff_iff];simp only[vK,h,Bool.and_eq_true,decide_eq_true_eq,ha]
  constructor
  ·rintro⟨⟨a,b⟩,c⟩;exact⟨⟨h0,a⟩,b,c⟩
  ·rintro⟨⟨_,a⟩,b,c⟩;exact⟨⟨a,b⟩,c⟩
theorem Iy:(prog.info? 45).map (·.size)=some 2:=by kernel_rfl
theorem ze45:(prog.info? 45).map (·.zero)=some (some (.agg #[.int .i64 0,.int .i64 0])):=by kernel_rfl
theorem NV(s:ByteArray)(w:World):Calls prog 60 #[.string s] w fun e w'=>e= .returned (.bool (vK s))/\w=w':=by
 obtain⟨c0,e0⟩:=hd_num s;have hN:=Lib.hid (S6 s c0 e0);refine enter func60 ntmps60 rfl (ay rfl) (zn7 ?_);refine xk (rg [] 5 18) 22 (.bool (decide (s.size=0\/30<s.size\/c0<97\/122<c0))) nu ?_ (fun gq=>?_)
 ·refine zn5 ?_;refine zw 8 rfl (fun g8=>?_) (fun g8=>?_)
  ·refine Jj ?_;refine zQ (e_R ⟨rfl,agA,?_⟩);show Value.bool _=Value.bool _
   try have a6:=e0 oG
   first|exact ac (ah oG).symm|exact ac (ao oG).symm|exact ac (ai.2 oG)|exact ac ((decide_not).symm.trans (ai.2 oG))
  refine zn8 ?_;refine zw 13 rfl (fun g13=>?_) (fun g13=>?_)
  ·refine zn9 ?_;refine zQ (e_R ⟨rfl,agA,?_⟩);show Value.bool _=Value.bool _
   try have a6:=e0 oG
   first|exact ac (ah oG).symm|exact ac (ao oG).symm|exact ac (ai.2 oG)|exact ac ((decide_not).symm.trans (ai.2 oG))
  refine zn3 ?_;refine wl (Jz (i:=0) U9 rfl rfl oG) (zn4 ?_);refine zw 18 rfl (fun g18=>?_) (fun g18=>?_)
  ·refine zn4 ?_;refine zQ (e_R ⟨rfl,agA,?_⟩);show Value.bool _=Value.bool _
   try have a6:=e0 oG
   first|exact ac (ah oG).symm|exact ac (ao oG).symm|exact ac (ai.2 oG)|exact ac ((decide_not).symm.trans (ai.2 oG))
  refine zn3 ?_;refine wl (Jz (i:=0) U9 rfl rfl oG) (zn3 ?_);refine zQ (e_R ⟨rfl,agA,?_⟩);show Value.bool _=Value.bool _
  try have a6:=e0 oG
  first|exact ac (ah oG).symm|exact ac (ao oG).symm|exact ac (ai.2 oG)|exact ac ((decide_not).symm.trans (ai.2 oG))
 refine e_S ?_;refine zV rfl (fun c22=>?_) (fun c22=>?_)
 ·refine zn8 ?_;exact⟨Zy (by rw[hN.out];exact ao (fun h=>by omega)),rfl⟩
 refine kQ ?_;refine qj (rg [2,3,4] 25 30) (fun m g w'=>∃ k:Nat,k<=s.size/\m=s.size-k/\g 25= .int .i64 k/\w=w'/\(∀ j (hj:j<s.size),j<k->Xy (s[j]'hj)=true)) (s.size) ?_ (fun m g4 w1 hI=>?_)
 ·exact⟨0,ag _,rfl,rfl,rfl,fun j hj h=>by omega⟩
 obtain⟨k,hk,hm,h25,rfl,a3⟩:=hI;refine zK 25 _ h25 nu (zn6 ?_);refine zV rfl (fun c26=>?_) (fun c26=>?_)
 ·refine Jj ?_;refine wl (Jz (i:=k) U9 rfl rfl oG) (zn4 ?_);refine xk (rg [] 31 23) 53 (.bool (decide (¬((97<=(s[k]'oG).toNat/\(s[k]'oG).toNat<=122)\/(48<=(s[k]'oG).toNat/\(s[k]'oG).toNat<=57)\/(s[k]'oG).toNat=95\/(s[k]'oG).toNat=45)))) nu ?_ (fun gq=>?_)
  ·refine zn4 ?_;refine zw 33 rfl (fun g33=>?_) (fun g33=>?_)
   ·refine zn6 ?_;refine zw 37 rfl (fun g37=>?_) (fun g37=>?_)
    ·refine M2 ?_;refine zQ (e_R ⟨rfl,agA,?_⟩);exact clA
    refine zn6 ?_;refine zw 40 rfl (fun a5=>?_) (fun a5=>?_)
    ·refine zn8 ?_;refine zw 45 rfl (fun a4=>?_) (fun a4=>?_)
     ·refine zn8 ?_;refine zQ (e_R ⟨rfl,agA,?_⟩);exact clA
     refine zn6 ?_;refine zw 49 rfl (fun a1=>?_) (fun a1=>?_)
     ·refine zn4 ?_;refine zQ (e_R ⟨rfl,agA,?_⟩);exact clA
     refine zn6 ?_;refine zQ (e_R ⟨rfl,agA,?_⟩);exact clA
    refine jz ?_;refine zw 49 rfl (fun a1=>?_) (fun a1=>?_)
    ·refine zn4 ?_;refine zQ (e_R ⟨rfl,agA,?_⟩);exact clA
    refine zn6 ?_;refine zQ (e_R ⟨rfl,agA,?_⟩);exact clA
   refine vy ?_;refine zw 40 rfl (fun a5=>?_) (fun a5=>?_)
   ·refine zn8 ?_;refine zw 45 rfl (fun a4=>?_) (fun a4=>?_)
    ·refine zn8 ?_;refine zQ (e_R ⟨rfl,agA,?_⟩);exact clA
    refine zn6 ?_;refine zw 49 rfl (fun a1=>?_) (fun a1=>?_)
    ·refine zn4 ?_;refine zQ (e_R ⟨rfl,agA,?_⟩);exact clA
    refine zn6 ?_;refine zQ (e_R ⟨rfl,agA,?_⟩);exact clA
   refine jz ?_;refine zw 49 rfl (fun a1=>?_) (fun a1=>?_)
   ·refine zn4 ?_;refine zQ (e_R ⟨rfl,agA,?_⟩);exact clA
   refine zn6 ?_;refine zQ (e_R ⟨rfl,agA,?_⟩);exact clA
  refine e_S ?_;refine zV rfl (fun c53=>?_) (fun c53=>?_)
  ·refine jz ?_;exact⟨Zy (by rw[hN.out];exact ao (fun h=>c53 ((J0 _).1 (h.2.2 k oG)))),rfl⟩
  have a2:∀ j (hj:j<s.size),j<k+1->Xy (s[j]'hj)=true:=fun j hj h=>by
    by_cases e:j=k
    · subst e;exact(J0 _).2 oG
    · exact a3 j hj oG
  refine zn7 ?_;refine xK (s.size-(k+1)) oG agA ?_;exact⟨k+1,by omega,rfl,rfl,rfl,fun j hj h=>a2 j hj h⟩
 refine jz ?_;exact⟨Zy (by rw[hN.out];exact ah ⟨by omega,by omega,fun j hj=>a3 j hj oG⟩),rfl⟩
theorem uz(a b:Int)(w:World):Calls prog 96 #[.int .i64 a,.int .i64 b] w fun e w'=>e= .returned (flV (a,b))/\Bel w w':=by
 refine enT func96 ntmps96 rfl rfl fun hB=>?_;refine zn2 ?_;refine qk (cs:=#[.int .i64 0,.int .i64 0]) ze45 rfl (fun b4 w1 a1 s1 hr=>?_);have lo4:=nLT (Bel.size hB) hr;refine zn6 ?_;refine wl (jk (v0:= .int _ _) (v1:= .int _ _) (fun v0 v1=>#[v0,v1]) rfl rfl kR) ?_;refine zk a1 rfl rfl Iy rfl zJ (fun w2 hq s2=>?_);replace a1:=hq;refine zn3 ?_;refine yx (.inl rfl) rfl (zZ U45 rfl rfl a1.range0 Iy) ?_;exact⟨rfl,hB.u⟩
inductive Tm where
 | mk (kind:Int) (name:ByteArray) (index:Int) (type:Sm) (args:List Tm)
def Tm.kind:Tm->Int | .mk k _ _ _ _=>k
def Tm.name:Tm->ByteArray | .mk _ n _ _ _=>n
def Tm.index:Tm->Int | .mk _ _ i _ _=>i
def Tm.type:Tm->Sm | .mk _ _ _ t _=>t
def Tm.args:Tm->List Tm | .mk _ _ _ _ a=>a
theorem Tm.eta(t:Tm):t= .mk t.kind t.name t.index t.type t.args:=by cases t;rfl
mutual
inductive TmAt(w:World):Nat->Nat->Tm->Prop
 | mk {b o:Nat} {k i:Int} {nm:ByteArray} {s:Sm} {args:List Tm} {A B:Option Addr} {c d:Nat} (hb:b<w.heap.size) (h:w.rangeAt b o [.int .i64 k,.string nm,.int .i64 i,.string s.base,.slice A s.args.length c,.slice B (List.length args) d]) (hs:SimsIn w A s.args) (ht:TmsIn w B args):TmAt w b o (.mk k nm i s args)
inductive TmsIn(w:World):Option Addr->List Tm->Prop
 | nil {A:Option Addr}:TmsIn w A []
 | more {b o:Nat} {args:List Tm} (hl:args.length<=jx) (hb:b<w.heap.size) (h:∀ k (hk:k<args.length),TmAt w b (o+k*6) args[k]):TmsIn w (some ⟨b,o,none⟩) args
end
theorem TmAt.both{w w':World}(hw:Bel w w'):(∀ {b o:Nat} {s:Tm},TmAt w b o s->TmAt w' b o s)/\∀ {A:Option Addr} {l:List Tm},TmsIn w A l->TmsIn w' A l:=by
 have h1:∀ {b o:Nat} {s:Tm} (h:TmAt w b o s),TmAt w' b o s:=fun h=>
  TmAt.rec (motive_1:=fun b o s _=>TmAt w' b o s) (motive_2:=fun A l _=>TmsIn w' A l)
   (fun hb h hs _ ih=> .mk (nLL hb hw.size) (hw.range hb h) (hs.mono hw) ih) .nil (fun hl hb _ ih=> .more hl (nLL hb hw.size) ih) h
 have h2:∀ {A:Option Addr} {l:List Tm} (h:TmsIn w A l),TmsIn w' A l:=fun h=>
  TmsIn.rec (motive_1:=fun b o s _=>TmAt w' b o s) (motive_2:=fun A l _=>TmsIn w' A l)
   (fun hb h hs _ ih=> .mk (nLL hb hw.size) (hw.range hb h) (hs.mono hw) ih) .nil (fun hl hb _ ih=> .more hl (nLL hb hw.size) ih) h
 exact⟨h1,h2⟩
theorem TmAt.mono{w w':World}{b o:Nat}{s:Tm}(h:TmAt w b o s)(hw:Bel w w'):TmAt w' b o s:=(TmAt.both hw).1 h
theorem TmsIn.mono{w w':World}{A:Option Addr}{l:List Tm}(h:TmsIn w A l)(hw:Bel w w'):TmsIn w' A l:=(TmAt.both hw).2 h
theorem TmsIn.le{w:World}{A:Option Addr}{l:List Tm}(h:TmsIn w A l):l.length<=jx:=by
 cases h with
 | nil=>exact ag _
 | more hl=>exact hl
theorem TmsIn.at_{w:World}{A:Option Addr}{l:List Tm}(h:TmsIn w A l){k:Nat}(hk:k<l.length):∃ b o A' c B d,A=some ⟨b,o,none⟩/\b<w.heap.size/\w.rangeAt b (o+k*6) [Value.int .i64 (l[k]).kind,.string (l[k]).name,.int .i64 (l[k]).index,.string (l[k]).type.base,.slice A' (l[k]).type.args.length c,.slice B (l[k]).args.length d]/\SimsIn w A' (l[k]).type.args/\TmsIn w B (l[k]).args:=by
 cases h with
 | nil=>simp at hk
 | @more b o _ _ hb h=>
  have hx:=h k hk
  generalize l[k]=s at hx
  cases hx with
  | mk _ hr hs ht=>exact⟨b,o,_,_,_,_,rfl,hb,hr,hs,ht⟩
def IZ(s:Sm):Prop:=s.base=⟨#[]⟩/\s.args.length=0
instance(s:Sm):Decidable (IZ s):=by unfold IZ;infer_instance
def ndC(b:Nat)(t:Tm):Int:=
 if t.kind=1 then (if t.index=0/\t.args.length=0 then (if vK t.name=true then (if smF t.type=0 then 0 else 12)else 10)else 5)
 else if t.kind=2 then (if t.name=⟨#[]⟩/\IZ t.type/\t.args.length=0 then (if t.index<0\/(b:Int)<=t.index then 15 else 0)else 5)
 else if t.kind=3 then (if t.name=⟨#[]⟩/\t.index=0/\t.args.length=1 then (if smF t.type=0 then 0 else 12)else 5)
 else if t.kind=4 then (if t.name=⟨#[]⟩/\t.index=0/\IZ t.type/\t.args.length=2 then 0 else 5)
 else 4
theorem ndC_mk(b:Nat)(k:Int)(nm:ByteArray)(i:Int)(s:Sm)(l:List Tm):ndC b (.mk k nm i s l) =
 if k=1 then (if i=0/\l.length=0 then (if vK nm=true then (if smF s=0 then 0 else 12)else 10)else 5)
 else if k=2 then (if nm=⟨#[]⟩/\IZ s/\l.length=0 then (if i<0\/(b:Int)<=i then 15 else 0)else 5)
 else if k=3 then (if nm=⟨#[]⟩/\i=0/\l.length=1 then (if smF s=0 then 0 else 12)else 5)
 else if k=4 then (if nm=⟨#[]⟩/\i=0/\IZ s/\l.length=2 then 0 else 5)
 else 4:=rfl
def inB(t:Tm)(b:Nat):Nat:=if t.kind=3 then b+1 else b
mutual
def twk:Tm->Nat->Nat->Nat->Nat×Fl
 | .mk k nm i s l,d,b,n=>if 200<n+1\/40<d then (n+1,(1,(n:Int)))else if ndC b (.mk k nm i s l)=0 then Yq l (d+1) (inB (.mk k nm i s l) b) (n+1)else (n+1,(ndC b (.mk k nm i s l),(n:Int)))
def Yq:List Tm->Nat->Nat->Nat->Nat×Fl
 | [],_,_,n=>(n,(0,0))
 | x::r,d,b,n=>if (twk x d b n).2.1=0 then Yq r d b (twk x d b n).1 else twk x d b n
end
theorem Vx(t:Tm)(d b n:Nat):twk t d b n=if 200<n+1\/40<d then (n+1,(1,(n:Int)))else if ndC b t=0 then Yq t.args (d+1) (inB t b) (n+1)else (n+1,(ndC b t,(n:Int))):=by
 cases t;rw[twk];rfl
def tst:List (Tm×Nat×Nat)->Nat->Nat×Fl
 | [],n=>(n,(0,0))
 | x::r,n=>if (twk x.1 x.2.1 x.2.2 n).2.1=0 then tst r (twk x.1 x.2.1 x.2.2 n).1 else twk x.1 x.2.1 x.2.2 n
theorem twks_st(d b:Nat):∀(l:List Tm) (n:Nat),Yq l d b n=tst (l.map (fun y=>(y,d,b))) n
 | [],_=>by rw[Yq];rfl
 | x::r,n=>by
  rw[Yq,twks_st d b r];rfl
theorem tst_app:∀(l r:List (Tm×Nat×Nat)) (n:Nat),tst (l++r) n=if (tst l n).2.1=0 then tst r (tst l n).1 else tst l n
 | [],_,_=>rfl
 | x::l,r,n=>by
  show (if (twk x.1 x.2.1 x.2.2 n).2.1=0 then tst (l++r) (twk x.1 x.2.1 x.2.2 n).1 else twk x.1 x.2.1 x.2.2 n)=_
  rw[tst_app l r]
  show _=if (if (twk x.1 x.2.1 x.2.2 n).2.1=0 then tst l (twk x.1 x.2.1 x.2.2 n).1 else twk x.1 x.2.1 x.2.2 n).2.1=0 then tst r (if (twk x.1 x.2.1 x.2.2 n).2.1=0 then tst l (twk x.1 x.2.1 x.2.2 n).1 else twk x.1 x.2.1 x.2.2 n).1 else (if (twk x.1 x.2.1 x.2.2 n).2.1=0 then tst l (twk x.1 x.2.1 x.2.2 n).1 else twk x.1 x.2.1 x.2.2 n)
  by_cases h:(twk x.1 x.2.1 x.2.2 n).2.1=0
  ·simp only[if_pos h]
  ·simp only[if_neg h]
theorem tst_out{n d b:Nat}{t:Tm}{r:List (Tm×Nat×Nat)}(h:200<n+1\/40<d):tst ((t,d,b)::r) n=(n+1,(1,(n:Int))):=by
 have e:twk t d b n=(n+1,(1,(n:Int))):=by rw[Vx,if_pos h]
 show (if (twk t d b n).2.1=0 then _ else twk t d b n)=_;rw[e];rfl
theorem tst_bad{n d b:Nat}{t:Tm}{r:List (Tm×Nat×Nat)}(h:¬(200<n+1\/40<d))(ho:ndC b t≠0):tst ((t,d,b)::r) n=(n+1,(ndC b t,(n:Int))):=by
 have e:twk t d b n=(n+1,(ndC b t,(n:Int))):=by rw[Vx,if_neg h,if_neg ho]
 show (if (twk t d b n).2.1=0 then _ else twk t d b n)=_;rw[e,if_neg ho]
theorem twks_z:∀(l:List Tm) (d b n:Nat),(Yq l d b n).2.1=0->(Yq l d b n).2=(0,0)
 | [],_,_,_,_=>by rw[Yq]
 | .mk k nm i s a::r,d,b,n,h=>by
  rw[Yq]at h ⊢
  by_cases h1:(twk (.mk k nm i s a) d b n).2.1=0
  ·rw[if_pos h1]at h ⊢;exact twks_z r d b _ h
  ·rw[if_neg h1]at h;exact absurd h h1
theorem twk_z{t:Tm}{d b n:Nat}(h:(twk t d b n).2.1=0):(twk t d b n).2=(0,0):=by
 rw[Vx]at h ⊢;by_cases h1:200<n+1\/40<d
 ·rw[if_pos h1]at h;cases h
 ·rw[if_neg h1]at h ⊢
  by_cases h2:ndC b t=0
  ·rw[if_pos h2]at h ⊢;exact twks_z _ _ _ _ h
  ·rw[if_neg h2]at h;exact absurd h h2
theorem tst_go{n d b:Nat}{t:Tm}{r:List (Tm×Nat×Nat)}(h:¬(200<n+1\/40<d))(ho:ndC b t=0):tst ((t,d,b)::r) n=tst (t.args.map (fun y=>(y,d+1,inB t b))++r) (n+1):=by
 have e:twk t d b n=tst (t.args.map (fun y=>(y,d+1,inB t b))) (n+1):=by rw[Vx,if_neg h,if_pos ho,twks_st]
 rw[tst_app,<- e];rfl
theorem tst_one(t:Tm)(d b n:Nat):tst [(t,d,b)] n=twk t d b n:=by
 show (if (twk t d b n).2.1=0 then ((twk t d b n).1,(0,0))else twk t d b n)=_;by_cases h:(twk t d b n).2.1=0
 ·rw[if_pos h,<- twk_z h]
 ·rw[if_neg h]
inductive Tv where
 | con (nm:ByteArray) (τ:Ts)
 | var (i:Nat)
 | abs (τ:Ts) (x:Tv)
 | app (x y:Tv)
def smZ:Sm:= .mk ⟨#[]⟩ []
def Tv.tm:Tv->Tm
 | .con nm τ=> .mk 1 nm 0 τ.sm []
 | .var i=> .mk 2 ⟨#[]⟩ i smZ []
 | .abs τ x=> .mk 3 ⟨#[]⟩ 0 τ.sm [x.tm]
 | .app x y=> .mk 4 ⟨#[]⟩ 0 smZ [x.tm,y.tm]
def Tv.size:Tv->Nat
 | .con _ _=>1
 | .var _=>1
 | .abs _ x=>x.size+1
 | .app x y=>x.size+y.size+1
theorem Tv.pos(v:Tv):0<v.size:=by cases v<;>simp[Tv.size]
def Tv.ok:Nat->Tv->Prop
 | _,.con _ τ=>τ.size<=200
 | b,.var i=>i<b
 | b,.abs τ x=>τ.size<=200/\x.ok (b+1)
 | b,.app x y=>x.ok b/\y.ok b
theorem smNo_z{s:Sm}(h:IZ s):s=smZ:=by
 rw[Sm.eta s,h.1,List.length_eq_zero_iff.1 h.2];rfl
theorem nil_of{α:Type}{l:List α}(h:l.length=0):l= []:=aB.1 h
mutual
theorem Ex:∀(t:Tm) (d b n:Nat),(twk t d b n).2.1=0->∃ v:Tv,t=v.tm/\v.ok b/\(twk t d b n).1=n+v.size/\n+v.size<=200
 | .mk k nm i s l,d,b,n,h=>by
  rw[twk]at h ⊢
  by_cases h1:200<n+1\/40<d
  ·rw[if_pos h1]at h;cases h
  rw[if_neg h1]at h ⊢
  by_cases h2:ndC b (.mk k nm i s l)=0
  ·rw[if_pos h2]at h ⊢
   obtain⟨vs,e1,e0,e2,e3⟩:=twks_tv l (d+1) (inB (.mk k nm i s l) b) (n+1) h oG
   rw[e2]
   rw[ndC_mk]at h2
   by_cases k1:k=1
   ·subst k1
    rw[if_pos rfl]at h2
    by_cases q:i=0/\l.length=0
    ·rw[if_pos q]at h2
     obtain⟨rfl,q2⟩:=q
     obtain rfl:=nil_of q2
     by_cases q3:vK nm=true
     ·rw[if_pos q3]at h2
      by_cases q4:smF s=0
      ·obtain⟨τ,rfl,hτ⟩:=smF_ts q4
       obtain rfl:vs= []:=by cases vs with|nil=>rfl|cons a r=>cases e1
       exact⟨.con nm τ,rfl,hτ,by simp[Tv.size],by simp[Tv.size];omega⟩
      ·rw[if_neg q4]at h2;cases h2
     ·rw[if_neg q3]at h2;cases h2
    ·rw[if_neg q]at h2;cases h2
   rw[if_neg k1]at h2
   by_cases k2:k=2
   ·subst k2
    rw[if_pos rfl]at h2
    by_cases q:nm=⟨#[]⟩/\IZ s/\l.length=0
    ·rw[if_pos q]at h2
     obtain⟨rfl,qs,q2⟩:=q
     obtain rfl:=nil_of q2
     obtain rfl:=smNo_z qs
     by_cases q3:i<0\/(b:Int)<=i
     ·rw[if_pos q3]at h2;cases h2
     ·obtain⟨j,rfl⟩:∃ j:Nat,i=j:=⟨i.toNat,by omega⟩
      obtain rfl:vs= []:=by cases vs with|nil=>rfl|cons a r=>cases e1
      exact⟨.var j,rfl,show j<b by omega,by simp[Tv.size],by simp[Tv.size];omega⟩
    ·rw[if_neg q]at h2;cases h2
   rw[if_neg k2]at h2
   by_cases k3:k=3
   ·subst k3
    rw[if_pos rfl]at h2
    by_cases q:nm=⟨#[]⟩/\i=0/\l.length=1
    ·rw[if_pos q]at h2
     obtain⟨rfl,rfl,q2⟩:=q
     by_cases q4:smF s=0
     ·obtain⟨τ,rfl,hτ⟩:=smF_ts q4
      match l,vs,e1,q2 with
      | [x],[v],e1,_=>
       simp only[List.map_cons,List.map_nil,List.cons.injEq,and_true]at e1
       simp only[List.map_cons,List.map_nil,List.sum_cons,List.sum_nil]at e3 ⊢
       have eb:=e0 v (aj.2 rfl)
       have a1:inB (.mk 3 ⟨#[]⟩ 0 τ.sm [x]) b=b+1:=rfl
       rw[a1]at eb
       exact⟨.abs τ v,by rw[e1];rfl,⟨hτ,eb⟩,by simp only[Tv.size];omega,by simp only[Tv.size];omega⟩
     ·rw[if_neg q4]at h2;cases h2
    ·rw[if_neg q]at h2;cases h2
   rw[if_neg k3]at h2
   by_cases k4:k=4
   ·subst k4
    rw[if_pos rfl]at h2
    by_cases q:nm=⟨#[]⟩/\i=0/\IZ s/\l.length=2
    ·obtain⟨rfl,rfl,qs,q2⟩:=q
     obtain rfl:=smNo_z qs
     match l,vs,e1,q2 with
     | [x,y],[v,u],e1,_=>
      simp only[List.map_cons,List.map_nil,List.cons.injEq,and_true]at e1
      simp only[List.map_cons,List.map_nil,List.sum_cons,List.sum_nil]at e3 ⊢
      have eb:=e0 v (by simp)
      have eu:=e0 u (by simp)
      have a1:inB (.mk 4 ⟨#[]⟩ 0 smZ [x,y]) b=b:=rfl
      rw[a1]at eb eu
      exact⟨.app v u,by rw[e1.1,e1.2];rfl,⟨eb,eu⟩,by simp only[Tv.size];omega,by simp only[Tv.size];omega⟩
    ·rw[if_neg q]at h2;cases h2
   ·rw[if_neg k4]at h2;cases h2
  ·rw[if_neg h2]at h;exact absurd h h2
theorem twks_tv:∀(l:List Tm) (d b n:Nat),(Yq l d b n).2.1=0->n<=200->∃ vs:List Tv,l=vs.map Tv.tm/\(∀ v∈vs,v.ok b)/\(Yq l d b n).1=n+(vs.map Tv.size).sum/\n+(vs.map Tv.size).sum<=200
 | [],d,b,n,_,hn=>⟨[],rfl,(fun _ h=>by cases h),(by rw[Yq];rfl),hn⟩
 | x::r,d,b,n,h,hn=>by
  rw[Yq]at h ⊢
  by_cases h1:(twk x d b n).2.1=0
  ·rw[if_pos h1]at h ⊢
   obtain⟨v,e1,e0,e2,e3⟩:=Ex x d b n h1
   rw[e2]at h ⊢
   obtain⟨vs,k1,k0,k2,k3⟩:=twks_tv r d b (n+v.size) h e3
   refine⟨v::vs,by rw[e1,k1];rfl,fun u hu=>?_,by rw[k2];simp;omega,by simp;omega⟩
   rcases ap.1 hu with rfl|hu
   ·exact e0
   ·exact k0 u hu
  ·rw[if_neg h1]at h;exact absurd h h1
end
theorem Tv.tm_inj:∀ {a b:Tv},a.tm=b.tm->a=b
 | .con n s,.con m t,h=>by
  simp only[Tv.tm,Tm.mk.injEq,and_true,true_and]at h
  rw[h.1,Ts.sm_inj h.2]
 | .var i,.var j,h=>by
  simp only[Tv.tm,Tm.mk.injEq,and_true,true_and]at h
  rw[show i=j by omega]
 | .abs s x,.abs t y,h=>by
  simp only[Tv.tm,Tm.mk.injEq,List.cons.injEq,and_true,true_and]at h
  rw[Ts.sm_inj h.1,Tv.tm_inj h.2]
 | .app x y,.app u v,h=>by
  simp only[Tv.tm,Tm.mk.injEq,List.cons.injEq,and_true,true_and]at h
  rw[Tv.tm_inj h.1,Tv.tm_inj h.2]
 | .con _ _,.var _,h=>by simp[Tv.tm]at h
 | .con _ _,.abs _ _,h=>by simp[Tv.tm]at h
 | .con _ _,.app _ _,h=>by simp[Tv.tm]at h
 | .var _,.con _ _,h=>by simp[Tv.tm]at h
 | .var _,.abs _ _,h=>by simp[Tv.tm]at h
 | .var _,.app _ _,h=>by simp[Tv.tm]at h
 | .abs _ _,.con _ _,h=>by simp[Tv.tm]at h
 | .abs _ _,.var _,h=>by simp[Tv.tm]at h
 | .abs _ _,.app _ _,h=>by simp[Tv.tm]at h
 | .app _ _,.con _ _,h=>by simp[Tv.tm]at h
 | .app _ _,.var _,h=>by simp[Tv.tm]at h
 | .app _ _,.abs _ _,h=>by simp[Tv.tm]at h
def tyv:List Ts->Tv->Option Ts
 | _,.con _ τ=>some τ
 | Γ,.var i=>Γ[i]?
 | Γ,.abs τ x=>(tyv (τ::Γ) x).map (.f τ)
 | Γ,.app x y=>match tyv Γ x,tyv Γ y with
  | some (.f a r),some z=>if a.eqb z=true then some r else none
  | _,_=>none
theorem PV:∀ {v:Tv} {Γ:List Ts} {τ:Ts},v.ok Γ.length->(∀ σ∈Γ,σ.size<=200)->tyv Γ v=some τ->τ.size<=201*v.size
 | .con _ τ,Γ,τ',h,_,e=>by
  obtain rfl:τ=τ':=Option.some.inj e
  have:τ.size<=200:=h
  simp only[Tv.size];omega
 | .var i,Γ,τ,h,hG,e=>by
  have:=hG τ (List.mem_of_getElem? e)
  simp only[Tv.size];omega
 | .abs σ x,Γ,τ,h,hG,e=>by
  simp only[tyv,Option.map_eq_some_iff]at e
  obtain⟨ρ,e1,rfl⟩:=e
  have h1:=PV (v:=x) (Γ:=σ::Γ) h.2 (fun q hq=>by
   rcases ap.1 hq with rfl|hq
   ·exact h.1
   ·exact hG q hq) e1
  have:=h.1
  simp only[Tv.size,Ts.size];omega
 | .app x y,Γ,τ,h,hG,e=>by
  simp only[tyv]at e
  split at e
  ·rename_i a r z h1 h2
   split at e
   ·obtain rfl:r=τ:=Option.some.inj e
    have h3:=PV (v:=x) h.1 hG h1
    simp only[Tv.size,Ts.size]at h3 ⊢;omega
   ·cases e
  ·cases e
open Classical in
noncomputable def tmF(t:Tm):Fl:=if (twk t 1 0 0).2.1=0 then (if ∃ v τ,t=Tv.tm v/\tyv [] v=some τ then (0,0)else (12,-1))else (twk t 1 0 0).2
theorem P7{t:Tm}(h:¬(twk t 1 0 0).2.1=0):tmF t=(twk t 1 0 0).2:=by unfold tmF;rw[if_neg h]
theorem tmF_ok{v:Tv}(h:(twk v.tm 1 0 0).2.1=0):tmF v.tm=if (tyv [] v).isSome then (0,0)else (12,-1):=by
 unfold tmF;rw[if_pos h];cases e:tyv [] v with
 | none=>
  rw[if_neg]
  ·rfl
  ·rintro⟨u,τ,h1,h2⟩
   rw[<- Tv.tm_inj h1,e]at h2;cases h2
 | some τ=>rw[if_pos ⟨v,τ,rfl,e⟩];rfl
def kw(l:List Ty)(i:Nat):Int:=match l[i]? with
 | none=>0
 | some t=>if vK t.name=false then 10 else if Yk ((l.take i).map (·.name)) t.name=true then 7 else if (decide (i=0)==t.par.isEmpty)=false then 5 else o7 i (-1) t.par
def xV(l:List Ty):Fl:=if l.length=0\/60<l.length then (2,-1)else vk (kw l) 0 l.length
theorem E0(xs:List Int):decide ((xs.length:Int)=0)=xs.isEmpty:=by cases xs<;>simp;omega
theorem mal_yes{k:Nat}{xs:List Int}(h:(!(decide ((k:Int)=0)==decide ((xs.length:Int)=0)))=true):(decide (k=0)==xs.isEmpty)=false:=by
 rw[E0]at h
 simpa using h
theorem mal_no{k:Nat}{xs:List Int}(h:(!(decide ((k:Int)=0)==decide ((xs.length:Int)=0)))=false):(decide (k=0)==xs.isEmpty)=true:=by
 rw[E0]at h
 simpa using h
theorem ty10(l:List Ty)(k:Nat)(hlt:k<l.length)(h1:vK l[k].name=false):kw l k=10:=by
 simp only[kw,List.getElem?_eq_getElem hlt,h1,if_true]
theorem ty7(l:List Ty)(k:Nat)(hlt:k<l.length)(h1:vK l[k].name=true)(h2:Yk ((l.take k).map (·.name)) l[k].name=true):kw l k=7:=by
 simp only[kw,List.getElem?_eq_getElem hlt,h1,h2,if_true];rfl
theorem ty5(l:List Ty)(k:Nat)(hlt:k<l.length)(h1:vK l[k].name=true)(h2:Yk ((l.take k).map (·.name)) l[k].name=false)(h3:(decide (k=0)==l[k].par.isEmpty)=false):kw l k=5:=by
 simp only[kw,List.getElem?_eq_getElem hlt,h1,h2,h3,if_true];rfl
theorem tyF_par(l:List Ty)(k:Nat)(hlt:k<l.length)(h1:vK l[k].name=true)(h2:Yk ((l.take k).map (·.name)) l[k].name=false)(h3:(decide (k=0)==l[k].par.isEmpty)=true):kw l k=o7 k (-1) (l[k].par.drop 0):=by
 simp only[kw,List.getElem?_eq_getElem hlt,h1,h2,h3,List.drop_zero];rfl
theorem sz113:(prog.info? 113).map (·.size)=some 2:=by kernel_rfl
theorem ze113:(prog.info? 113).map (·.zero)=some (some (.agg #[.string ⟨#[]⟩,.slice none 0 0])):=by kernel_rfl
theorem ze3:(prog.info? 3).map (·.zero)=some (some (.int .i64 0)):=by kernel_rfl
theorem types_any(A:Option Addr)(c:Nat)(l:List Ty)(w:World)(hT:TypesIn w A l):Calls prog 97 #[.slice A l.length c] w fun e w'=>e= .returned (flV (xV l))/\Bel w w':=by
 refine enT func97 ntmps97 rfl rfl fun hB=>?_;refine zn2 ?_;refine qk (cs:=#[.int .i64 0,.int .i64 0]) ze45 rfl (fun b2 w1 a1 s1 hr=>?_);have lo2:=nLT (Bel.size hB) hr;refine zn4 ?_;replace hB:=hB.tr0 s1;refine xk (rg [] 11 8) 18 (.bool (decide (l.length=0\/60<l.length))) nu ?_ (fun gq=>?_)
 ·refine zn5 ?_;refine zw 14 rfl (fun g14=>?_) (fun g14=>?_)
  ·refine zn4 ?_;refine zQ (e_R ⟨rfl,agA,?_⟩);exact clA
  refine zn7 ?_;refine zQ (e_R ⟨rfl,agA,?_⟩);exact clA
 refine e_S ?_;refine zV rfl (fun bb=>?_) (fun bb=>?_)
 ·refine zn2 ?_;refine aY kR (uz _ _ _) rfl (fun w2 s2=>?_);refine zk a1.u rfl rfl Iy rfl zJ (fun w3 hq s3=>?_);replace a1:=hq;refine zn4 ?_;refine yx (.inl rfl) rfl (zZ U45 rfl rfl a1.range0 Iy) ?_;replace hB:=(hB.tr0 s2).tr1 s3 lo2;exact⟨vj (by simp only[xV,if_pos bb]),hB⟩
 have hR:=Lib.hid (show xV l=vk (kw l) 0 (l.length-0) by simp only[xV,if_neg bb,Nat.sub_zero]);refine zn4 ?_;refine wl_mm (fun b20 w4 a3 s4 hr=>?_);have:=nLL a1.lt hr;have an:=nLT (Bel.size hB) hr;refine wl (gk (v:= .map _) rfl) (kQ ?_);refine qj [4,5,6,7,8,10,23,24,25,26,27,28,29,30,31,32,33,34,35,36,37,38,39,40,41,42,43,44,45,46,47,48,49,50,51,52,53,54,55,56,57,58,59,60,61,62,63,64,65,66,67,68,69,70,71,72,73,74,75,76,77,78,79,80] (fun m g w'=>∃(k:Nat) (mp:List (ByteArray×Value)),k<=l.length/\m=l.length-k/\g 23= .int .i64 k/\Bel w w'/\Blk w' b2 45 #[.int .i64 0,.int .i64 0]/\MapS w' b20 mp/\(∀ s,lkB mp s=Yk ((l.take k).map (·.name)) s)/\xV l=vk (kw l) k (l.length-k)) (l.length) ?_ (fun m g5 w5 hI=>?_)
 ·exact⟨0,[],ag _,rfl,rfl,hB.u,a1.u,a3,fun s=>rfl,hR.out⟩
 obtain⟨k,mp,hk,hm,h23,hB,a1,a3,b6,a6⟩:=hI;refine zK 23 _ h23 nu (zn6 ?_);refine zV rfl (fun c24=>?_) (fun c24=>?_)
 ·have a2:k<l.length:=by omega
  obtain⟨tb,to,A',cp,rfl,htb,htr,a7⟩:=hT.at_ hB a2;refine zn8 ?_;refine wl (qZ U113 rfl rfl htr sz113) ?_;refine qk (cs:=#[.string ⟨#[]⟩,.slice none 0 0]) ze113 rfl (fun b5 w6 hb5 s5 hr=>?_);have:=nLL a1.lt hr;have:=nLL a3.lt hr;have lo5:=nLT (Bel.size hB) hr;refine waI rfl ?_;refine zk hb5 rfl rfl sz113 rfl zJ (fun w7 hq s6=>?_);replace hb5:=hq;refine zn7 ?_;refine zW kR (NV _ _) rfl (fun e' w8 hr=>?_);obtain⟨rfl,rfl⟩:=hr;refine⟨_,rfl,?_⟩;refine zn3 ?_;refine ky rfl (fun ba=>?_) (fun ba=>?_)
  ·have a4:=ty10 l k a2 (by simpa using ba);refine zn3 ?_;refine aY kR (uz _ _ _) rfl (fun w9 s7=>?_);refine zk a1.u rfl rfl Iy rfl zJ (fun w10 hq s8=>?_);replace a1:=hq;refine zn9 ?_;refine yx (.inl rfl) rfl (zZ U45 rfl rfl a1.range0 Iy) ?_;exact⟨vj (a6.trans (yW (c:=10) oG a4 dE)),hB.u⟩
  have b3:vK (l[k]'a2).name=true:=by simpa using ba
  refine zn5 ?_;refine wl (xz (v:= .map _) rfl) (zn2 ?_);replace a3:=(a3.tr0 s5).tr1 s6 oG;refine wl (r_lkS a3 U156 U9 ze3 rfl rfl) (wmT rfl (wl (y8 (v:=_) rfl rfl) (wl (y8 (v:= .bool _) rfl rfl) (wl (gk (v:=_) rfl) (zn8 ?_)))));refine ky rfl (fun ad=>?_) (fun ad=>?_)
  ·have a4:=ty7 l k a2 b3 ((b6 _).symm.trans ad);refine zn3 ?_;refine aY kR (uz _ _ _) rfl (fun w11 s9=>?_);refine zk a1.u rfl rfl Iy rfl zJ (fun w12 hq s10=>?_);replace a1:=hq;refine zn9 ?_;refine yx (.inl rfl) rfl (zZ U45 rfl rfl a1.range0 Iy) ?_;exact⟨vj (a6.trans (yW (c:=7) oG a4 dE)),hB.u⟩
  have hsn:Yk ((l.take k).map (·.name)) (l[k]'a2).name=false:=by rw[<- b6];exact ad
  have b4:∀ s,lkB (D7 mp (l[k]'a2).name (.int .i64 k)) s=Yk ((l.take (k+1)).map (·.name)) s:=fun s=>by
    rw[Qq _ _ _ ad,I5 l a2,List.map_append,List.map_cons,List.map_nil,BX,<- b6];simp[lkB]
  refine zn4 ?_;refine wl (xz (v:= .map _) rfl) (zn3 ?_);refine wl_muS (v:= .int _ _) a3 U156 U9 rfl rfl rfl (fun w13 hq s11=>?_);replace a3:=hq;refine kQ ?_;refine wl (r_neqB U4 rfl rfl) (zQ (e_S ?_));refine ky rfl (fun b9=>?_) (fun b9=>?_)
  ·have a4:=ty5 l k a2 b3 hsn (mal_yes b9);refine zn3 ?_;refine aY kR (uz _ _ _) rfl (fun w14 s12=>?_);refine zk a1.u rfl rfl Iy rfl zJ (fun w15 hq s13=>?_);replace a1:=hq;refine zn9 ?_;refine yx (.inl rfl) rfl (zZ U45 rfl rfl a1.range0 Iy) ?_;exact⟨vj (a6.trans (yW (c:=5) oG a4 dE)),hB.u⟩
  have b7:=mal_no b9;refine M2 ?_;refine qj (rg [8,10] 60 20) (fun m g w'=>∃(j:Nat) (a5:Int),j<=(l[k]'a2).par.length/\m=(l[k]'a2).par.length-j/\g 60= .int .i64 j/\g 8= .int .i64 a5/\w13=w'/\kw l k=o7 k a5 ((l[k]'a2).par.drop j)) ((l[k]'a2).par.length) ?_ (fun m g17 w16 hI=>?_)
  ·exact⟨0,-1,ag _,rfl,rfl,rfl,rfl,tyF_par l k a2 b3 hsn b7⟩
  obtain⟨j,a5,hj,hmj,h60,h8,rfl,hP⟩:=hI;refine zK 60 _ h60 nu (zK 8 _ h8 nu (zn6 ?_));refine zV rfl (fun c61=>?_) (fun c61=>?_)
  ·have a8:j<(l[k]'a2).par.length:=by omega
   have hmx:=a7.1;unfold jx at hmx;obtain⟨pb,po,rfl,hpb,b1⟩:=a7.at_ a8;replace hB:=((hB.tr0 s5).tr1 s6 lo5).tr1 s11 an;replace b1:=hB.cell hpb b1;refine zn7 ?_;refine wl (qW (v:= .int _ _) U3 rfl rfl b1) (zn5 ?_);replace a1:=((a1.tr0 s5).tr1 s6 oG).tr1 s11 oG;refine xk [64,65,66,67,68,69,70] 70 (.bool (decide ((l[k]'a2).par[j]<0\/(k:Int)<=(l[k]'a2).par[j]))) nu ?_ (fun gq=>?_)
   ·refine zn4 ?_;refine zw 66 rfl (fun g66=>?_) (fun g66=>?_)
    ·refine zn4 ?_;refine zQ (e_R ⟨rfl,agA,?_⟩);exact clA
    refine zn7 ?_;refine zQ (e_R ⟨rfl,agA,?_⟩);exact clA
   refine e_S ?_;refine zV rfl (fun a9=>?_) (fun a9=>?_)
   ·have a4:kw l k=3:=by rw[hP,List.drop_eq_getElem_cons a8];simp only[o7,if_pos a9]
    refine zn3 ?_;refine aY kR (uz _ _ _) rfl (fun w17 s14=>?_);refine zk a1.u rfl rfl Iy rfl zJ (fun w18 hq s15=>?_);replace a1:=hq;refine oJ ?_;refine yx (.inl rfl) rfl (zZ U45 rfl rfl a1.range0 Iy) ?_;exact⟨vj (a6.trans (yW (c:=3) oG a4 dE)),hB.u⟩
   refine vy ?_;refine zV rfl (fun b8=>?_) (fun b8=>?_)
   ·have a4:kw l k=13:=by rw[hP,List.drop_eq_getElem_cons a8];simp only[o7,if_neg a9,if_pos b8]
    refine zn3 ?_;refine aY kR (uz _ _ _) rfl (fun w19 s16=>?_);refine zk a1.u rfl rfl Iy rfl zJ (fun w20 hq s17=>?_);replace a1:=hq;refine oJ ?_;refine yx (.inl rfl) rfl (zZ U45 rfl rfl a1.range0 Iy) ?_;exact⟨vj (a6.trans (yW (c:=13) oG a4 dE)),hB.u⟩
   have hP':kw l k=o7 k (l[k]'a2).par[j] ((l[k]'a2).par.drop (j+1)):=by rw[hP,List.drop_eq_getElem_cons a8];simp only[o7,if_neg a9,if_neg b8]
   refine jz ?_;refine xK ((l[k]'a2).par.length-(j+1)) oG agA ?_;exact⟨j+1,(l[k]'a2).par[j],by omega,rfl,rfl,rfl,rfl,hP'⟩
  have a4:=Lib.hid (show kw l k=0 by rw[hP,List.drop_eq_nil_of_le oG];rfl);refine vy ?_;refine xK (l.length-(k+1)) oG agA ?_;exact⟨k+1,D7 mp (l[k]'a2).name (.int .i64 k),by omega,rfl,rfl,hB.u,a1.u,a3,b4,a6.trans (ov a2 a4.out)⟩
 refine zn7 ?_;refine wl (kK (vs:=#[]) (cs:=#[.int .i64 0,.int .i64 0]) (by simp) kR) ?_;refine zk a1 rfl rfl Iy rfl zJ (fun w21 hq s18=>?_);replace a1:=hq;refine zn3 ?_;refine yx (.inl rfl) rfl (zZ U45 rfl rfl a1.range0 Iy) ?_;exact⟨vj (a6.trans (Z4 oG)),hB.u⟩
def OW(l:List Ty)(i:Nat):List Nat:=match l[i]? with
 | none=>[]
 | some t=>t.par.map Int.toNat
def Fv(l:List Ty):Nat->Nat->Nat->Bool
 | 0,a,b=>decide (a=b)
 | f+1,a,b=>decide (a=b)||(OW l a).any (fun p=>Fv l f p b)
def sub(l:List Ty)(a b:Nat):Bool:=Fv l a a b
def VT(l:List Ty):Prop:=∀ i (h:i<l.length),∀ p∈(l[i]).par,0<=p/\p<(i:Int)
theorem VT.par{l:List Ty}(h:VT l){a p:Nat}(hp:p∈OW l a):p<a:=by
 unfold OW at hp;by_cases ha:a<l.length
 ·rw[List.getElem?_eq_getElem ha]at hp
  simp only[List.mem_map]at hp;obtain⟨q,hq,rfl⟩:=hp;have:=h a ha q hq;omega
 ·rw[List.getElem?_eq_none oG]at hp;cases hp
theorem C5{α:Type}{l:List α}{p q:α->Bool}(h:∀ x∈l,p x=q x):l.any p=l.any q:=by
 induction l with
 | nil=>rfl
 | cons a r ih=>
  simp only[List.any_cons];rw[h a (by simp),ih (fun x hx=>h x (by simp[hx]))]
theorem subF_fuel{l:List Ty}(hv:VT l)(b:Nat):∀(n a:Nat),a<=n->∀ f,a<=f->Fv l f a b=Fv l a a b:=by
 intro n
 induction n with
 | zero=>
  intro a ha f hf;have:a=0:=by omega
  subst this;have hp:OW l 0= []:=by
   cases h:OW l 0 with
   | nil=>rfl
   | cons p r=>exact absurd (hv.par (a:=0) (p:=p) (by rw[h];simp)) oG
  cases f<;>simp[Fv,hp]
 | succ n ih=>
  intro a ha f hf;cases a with
  | zero=>exact ih 0 oG f oG
  | succ a=>
   cases f with
   | zero=>omega
   | succ f=>
    simp only[Fv]
    congr 1
    apply C5
    intro p hp;have:=hv.par hp;rw[ih p oG f oG,ih p oG a oG]
theorem LQ{l:List Ty}(hv:VT l)(a b:Nat):sub l a b=(decide (a=b)||(OW l a).any (fun p=>sub l p b)):=by
 unfold sub;cases a with
 | zero=>
  have hp:OW l 0= []:=by
   cases h:OW l 0 with
   | nil=>rfl
   | cons p r=>exact absurd (hv.par (a:=0) (p:=p) (by rw[h];simp)) oG
  simp[Fv,hp]
 | succ a=>
  conv=>lhs;unfold Fv
  congr 1
  apply C5
  intro p hp;have:=hv.par hp;rw[subF_fuel hv b (a+1) p oG a oG]
theorem YX{l:List Ty}(hv:VT l)(a:Nat):sub l a a=true:=by rw[LQ hv];simp
theorem Vy{l:List Ty}(hv:VT l)(a b:Nat):sub l a b=true↔a=b\/∃ p∈OW l a,sub l p b=true:=by
 rw[LQ hv];simp
theorem sub_le{l:List Ty}(hv:VT l):∀(n a b:Nat),a<=n->sub l a b=true->b<=a:=by
 intro n
 induction n with
 | zero=>
  intro a b ha h;rcases(Vy hv a b).1 h with rfl|⟨p,hp,_⟩
  ·omega
  ·have:=hv.par hp;omega
 | succ n ih=>
  intro a b ha h;rcases(Vy hv a b).1 h with rfl|⟨p,hp,hs⟩
  ·omega
  ·have:=hv.par hp
   have:=ih p b oG hs;omega
theorem MY{l:List Ty}(hv:VT l){a b:Nat}(h:sub l a b=true):b<=a:=sub_le hv a a b (ae _) h
theorem sub_trans{l:List Ty}(hv:VT l)(c:Nat):∀(n a b:Nat),a<=n->sub l a b=true->sub l b c=true->sub l a c=true:=by
 intro n
 induction n with
 | zero=>
  intro a b ha h h2;rcases(Vy hv a b).1 h with rfl|⟨p,hp,_⟩
  ·exact h2
  ·have:=hv.par hp;omega
 | succ n ih=>
  intro a b ha h h2;rcases(Vy hv a b).1 h with rfl|⟨p,hp,hs⟩
  ·exact h2
  ·have:=hv.par hp
   exact(Vy hv a c).2 (.inr ⟨p,hp,ih p b oG hs h2⟩)
theorem QK{l:List Ty}(hv:VT l){a b c:Nat}(h:sub l a b=true)(h2:sub l b c=true):sub l a c=true:=sub_trans hv c a a b (ae _) h h2
theorem sub_par{l:List Ty}(hv:VT l){i:Nat}(hi:i<l.length){p:Int}(hp:p∈(l[i]).par):sub l i p.toNat=true:=by
 refine(Vy hv i _).2 (.inr ⟨p.toNat,?_,YX hv _⟩);simp only[OW,List.getElem?_eq_getElem hi,List.mem_map];exact⟨p,hp,rfl⟩
def EW(ps:List Int)(x:Nat):Bool:=ps.any (fun p=>decide (p=(x:Int)))
theorem W8(ps:List Int)(x:Nat):EW ps x=true↔(x:Int)∈ps:=by simp[EW]
theorem parB_snoc(ps:List Int){j:Nat}(hj:j<ps.length)(x:Nat):EW (ps.take (j+1)) x=(EW (ps.take j) x||decide (ps[j]=(x:Int))):=by
 simp only[EW];rw[List.take_succ_eq_append_getElem hj,List.any_append];simp
structure Marks(l:List Ty)(a i:Nat)(mk:Nat->Bool):Prop where
 ok:∀ j,mk j=true->sub l a j=true
 all:∀ c,c<=i->sub l a c=true->∃ j,j<=i/\mk j=true/\sub l j c=true
theorem Marks.start{l:List Ty}(hv:VT l)(a:Nat):Marks l a a (fun j=>if j=a then true else false):=
 ⟨fun j h=>by
  by_cases e:j=a
  ·subst e;exact YX hv _
  ·simp[e]at h,fun c _ h=>⟨a,ae _,by simp,h⟩⟩
theorem Marks.yes{l:List Ty}(hv:VT l){a i:Nat}{mk:Nat->Bool}(h:Marks l a i mk)(hi:i<l.length)(hm:mk i=true):Marks l a (i-1) (fun x=>mk x||EW (l[i]).par x):=
 ⟨fun j hj=>by
  simp only[Bool.or_eq_true]at hj
  rcases hj with hj|hj
  ·exact h.ok j hj
  ·have:=sub_par hv hi ((W8 _ _).1 hj)
   simp only[Int.toNat_natCast]at this
   exact QK hv (h.ok i hm) this,fun c hc hs=>by
  by_cases hi0:i=0
  ·subst hi0
   obtain⟨j,hj,h1,h2⟩:=h.all c oG hs
   exact⟨j,by omega,by simp[h1],h2⟩
  obtain⟨j,hj,h1,h2⟩:=h.all c oG hs
  by_cases e:j=i
  ·subst e
   rcases(Vy hv j c).1 h2 with rfl|⟨p,hp,hps⟩
   ·omega
   ·have hlt:=hv.par hp
    refine⟨p,by omega,?_,hps⟩
    simp only[OW,List.getElem?_eq_getElem hi,List.mem_map]at hp
    obtain⟨q,hq,rfl⟩:=hp
    have:=hv j hi q hq
    have hq':((q.toNat:Nat):Int)∈(l[j]).par:=by rw[Int.toNat_of_nonneg this.1];exact hq
    simp only[Bool.or_eq_true]
    exact .inr ((W8 _ _).2 hq')
  ·exact⟨j,by omega,by simp[h1],h2⟩⟩
theorem Marks.no{l:List Ty}{a i:Nat}{mk:Nat->Bool}(h:Marks l a i mk)(hm:mk i=false):Marks l a (i-1) mk:=
 ⟨h.ok,fun c hc hs=>by
  obtain⟨j,hj,h1,h2⟩:=h.all c oG hs
  by_cases e:j=i
  ·subst e;rw[hm]at h1;cases h1
  ·exact⟨j,by omega,h1,h2⟩⟩
theorem Marks.end_{l:List Ty}(hv:VT l){a b i:Nat}{mk:Nat->Bool}(h:Marks l a i mk)(hi:i<=b)(hb:b<=a->b<=i):mk b=sub l a b:=by
 cases hs:sub l a b
 ·cases hm:mk b
  ·rfl
  ·rw[h.ok b hm]at hs;cases hs
 ·have hle:=MY hv hs
  have hib:i=b:=Nat.le_antisymm hi (hb hle);subst hib;obtain⟨j,hj,h1,h2⟩:=h.all i (ae _) hs;have:=MY hv h2;have:j=i:=by omega
  subst this;exact h1
theorem in4:(Tryz.prog.info? 4).map (fun i=>(i.zero,i.size,i.bytes))=some (some (.bool false),1,1):=by kernel_rfl
theorem sz4:(Tryz.prog.info? 4).map (·.size)=some 1:=by kernel_rfl
theorem sub_any(A:Option Addr)(c:Nat)(l:List Ty)(a b:Nat)(w:World)(hT:TypesIn w A l)(hv:VT l)(h60:l.length<=60)(ha:a<l.length)(hb:b<l.length):Calls Tryz.prog 38 #[.slice A l.length c,.int .i64 a,.int .i64 b] w fun e w'=>e= .returned (.bool (sub l a b))/\Bel w w':=by
 have hmx:=hT.1;unfold jx at hmx;refine enT Tryz.func38 Tryz.ntmps38 rfl rfl fun hB=>?_;refine zn9 ?_;refine M3 (m:=l.length) C9 in4 rfl rfl rfl oG hmx (fun an w1 a1 s1 hr=>?_);have lo13:=nLT (Bel.size hB) hr;refine zn8 ?_;refine xZ (v:= .bool _) a1 rfl rfl sz4 (by rw[row_size];omega) rfl uk (fun w2 hq s2=>?_);replace a1:=hq;refine zn4 ?_;have a6:Blk w2 an 4 (row l.length (fun j=> .bool (if j=a then true else false))):=by
   rw[show (row l.length (fun j=>Value.bool (if j=a then true else false)))=row l.length (fun j=>if j=a then Value.bool true else Value.bool false)from vx (fun j _=>by split<;>rfl)];exact a1
 refine zn6 ?_;refine qj (rg [8,10] 18 23) (fun m g w'=>∃(i:Nat) (mk:Nat->Bool),i<=a/\m=i/\g 8= .int .i64 i/\(b<=a->b<=i)/\Bel w w'/\Blk w' an 4 (row l.length (fun j=> .bool (mk j)))/\Marks l a i mk) (a) ?_ (fun m g4 w3 hI=>?_)
 ·exact⟨a,_,ae _,rfl,rfl,fun h=>h,hB.u,a6,Marks.start hv a⟩
 obtain⟨i,mk,hi,hm,h8,hbi,hB,a1,hM⟩:=hI;refine zK 8 _ h8 nu (zn8 ?_);refine zV rfl (fun c20=>?_) (fun c20=>?_)
 ·refine zn9 ?_;refine wl (qW (v:= .bool _) U4 rfl rfl (a1.cell (jJ oG))) (zQ (e_S ?_));refine ky rfl (fun ad=>?_) (fun ad=>?_)
  ·have a2:i<l.length:=by omega
   obtain⟨tb,to,A',cp,rfl,htb,htr,a5⟩:=hT.at_ hB a2;have hpx:=a5.1;unfold jx at hpx;refine zn6 ?_;refine wl (qW (v:= .slice _ _ _) U68 rfl rfl (htr 1 _ rfl)) (zn5 ?_);refine qj (rg [10] 33 8) (fun m g w'=>∃(j:Nat),j<=(l[i]'a2).par.length/\m=(l[i]'a2).par.length-j/\g 33= .int .i64 j/\Bel w w'/\Blk w' an 4 (row l.length (fun x=> .bool (mk x||EW ((l[i]'a2).par.take j) x)))) ((l[i]'a2).par.length) ?_ (fun m g8 w4 hI=>?_)
   ·refine⟨0,ag _,rfl,rfl,hB,?_⟩;rw[show (row l.length (fun x=>Value.bool (mk x||EW ((l[i]'a2).par.take 0) x)))=row l.length (fun j=> .bool (mk j))from vx (fun x _=>by simp[EW])];exact a1
   obtain⟨j,hj,hmj,h33,hB,a1⟩:=hI;refine zK 33 _ h33 nu (zn6 ?_);refine zV rfl (fun c34=>?_) (fun c34=>?_)
   ·have a9:j<(l[i]'a2).par.length:=by omega
    obtain⟨pb,po,rfl,hpb,a8⟩:=a5.at_ a9;replace a8:=hB.cell hpb a8;have hpr:=hv i a2 _ (ar a9);refine zn7 ?_;refine wl (qW (v:= .int _ _) U3 rfl rfl a8) (zn6 ?_);refine wl (xX (i:=((l[i]'a2).par[j]).toNat) C9 sz4 rfl (show ev _ _ _=_ from congrArg (Value.int .i64) (Int.toNat_of_nonneg hpr.1).symm) oG rfl) ?_;refine xZ (v:= .bool _) a1 rfl rfl sz4 (by rw[row_size];omega) rfl uk (fun w5 hq s3=>?_);replace a1:=hq;refine zn7 ?_;refine xK ((l[i]'a2).par.length-(j+1)) oG agA ?_;refine⟨j+1,by omega,rfl,rfl,hB.u,?_⟩
    rw[show (row l.length (fun x=>Value.bool (mk x||EW ((l[i]'a2).par.take (j+1)) x)))=row l.length (fun x=>if x=((l[i]'a2).par[j]).toNat then Value.bool true else .bool (mk x||EW ((l[i]'a2).par.take j) x))from vx (fun x _=>by
     rw[parB_snoc _ a9];by_cases e:x=((l[i]'a2).par[j]).toNat
     ·rw[if_pos e];have:(l[i]'a2).par[j]=(x:Int):=by omega
      simp[this]
     ·rw[if_neg e];have:¬(l[i]'a2).par[j]=(x:Int):=by omega
      simp[this])]
    exact a1
   have a7:=hM.yes hv a2 ad;have hjl:j=(l[i]'a2).par.length:=by omega
   rw[hjl,List.take_length]at a1;obtain⟨a4,a3⟩:∃ a4:Nat->Bool,a4=fun x=>mk x||EW (l[i]'a2).par x:=⟨_,rfl⟩
   rw[show (row l.length (fun x=>Value.bool (mk x||EW (l[i]'a2).par x)))=row l.length (fun x=> .bool (a4 x))from vx (fun x _=>by rw[a3])]at a1;rw[<- a3]at a7;refine zn8 ?_;refine wl (jX (c:=((i-1:Nat):Int)) rfl rfl oG oG) (zn2 ?_);refine xK (i-1) oG agA ?_;exact⟨i-1,a4,by omega,rfl,rfl,fun h=>by omega,hB,a1,a7⟩
  have a7:=hM.no ad;obtain⟨a4,a3⟩:∃ a4,a4=mk:=⟨_,rfl⟩
  rw[<- a3]at a7 a1;clear a3;refine zn5 ?_;refine wl (jX (c:=((i-1:Nat):Int)) rfl rfl oG oG) (zn2 ?_);refine xK (i-1) oG agA ?_;exact⟨i-1,a4,by omega,rfl,rfl,fun h=>by omega,hB,a1,a7⟩
 refine vy ?_;refine wl (qW (v:= .bool _) U4 rfl rfl (a1.cell (jJ oG))) (zn5 ?_);exact⟨Zy (hM.end_ hv oG hbi).symm,hB⟩
def kv(p:Nat->Bool):Nat->Nat
 | 0=>0
 | n+1=>kv p n|||(if p n then 2^n else 0)
theorem kj(p:Nat->Bool):∀(n j:Nat),(kv p n).testBit j=(decide (j<n)&&p j)
 | 0,j=>by simp[kv]
 | n+1,j=>by
  rw[kv,Nat.testBit_or,kj p n j]
  by_cases h:j=n
  ·subst h
   cases hp:p j<;>simp[Nat.testBit_two_pow_self]
  ·have h1:(if p n then 2^n else 0:Nat).testBit j=false:=by
    cases hp:p n
    ·simp
    ·simp[Ne.symm h]
   have h2:decide (j<n+1)=decide (j<n):=by simp;omega
   rw[h1,h2];simp
theorem mask_lt(p:Nat->Bool)(n:Nat):kv p n<2^n:=by
 apply Nat.lt_pow_two_of_testBit
 intro i hi;rw[kj];simp;omega
theorem X8(p:Nat->Bool){n:Nat}(h:n<=60):kv p n<18446744073709551616:=by
 have h1:=mask_lt p n;have h2:2^n<=2^60:=Nat.pow_le_pow_right dE h;have h3:(2:Nat)^60=1152921504606846976:=by decide
 omega
theorem KJ{x:Nat}{p:Nat->Bool}{n:Nat}(h:∀ j,x.testBit j=(decide (j<n)&&p j)):x=kv p n:=
 Nat.eq_of_testBit_eq (fun j=>by rw[h,kj])
theorem kz{p q:Nat->Bool}{n:Nat}(h:∀ j,j<n->p j=q j):kv p n=kv q n:=by
 apply KJ
 intro j;rw[kj];by_cases hj:j<n
 ·rw[h j hj]
 ·simp[hj]
theorem mask_or(p q:Nat->Bool)(n:Nat):kv p n|||kv q n=kv (fun j=>p j||q j) n:=
 KJ (fun j=>by rw[Nat.testBit_or,kj,kj];cases decide (j<n)<;>simp)
theorem mask_and(p q:Nat->Bool)(n:Nat):kv p n&&&kv q n=kv (fun j=>p j&&q j) n:=
 KJ (fun j=>by rw[Nat.testBit_and,kj,kj];cases decide (j<n)<;>simp)
theorem Wv{k n:Nat}(h:k<n):2^k=kv (fun j=>decide (j=k)) n:=by
 apply KJ
 intro j;rw[Nat.testBit_two_pow];by_cases e:k=j
 ·subst e;simp[h]
 ·simp[e,Ne.symm e]
theorem mask_zero(n:Nat):kv (fun _=>false) n=0:=by
 symm;apply KJ;intro j;simp
theorem mask_eq_zero{p:Nat->Bool}{n:Nat}:kv p n=0↔∀ j,j<n->p j=false:=by
 constructor
 ·intro h j hj
  have:=kj p n j;rw[h]at this
  simpa[hj]using this.symm
 ·intro h
  rw[<- mask_zero n];exact kz h
theorem mask_inj{p q:Nat->Bool}{n:Nat}:kv p n=kv q n↔∀ j,j<n->p j=q j:=by
 constructor
 ·intro h j hj
  have h1:=kj p n j;have h2:=kj q n j;rw[h]at h1;rw[h1]at h2
  simpa[hj]using h2
 ·exact kz
theorem BQ(x j:Nat):decide (((x>>>j)&&&1)=1)=x.testBit j:=by
 rw[Nat.testBit_eq_decide_div_mod_eq,Nat.shiftRight_eq_div_pow,Nat.and_one_is_mod]
theorem E3{p:Nat->Bool}{n:Nat}(hn:n<=60)(h0:kv p n≠0):Lib.ctz 64 (kv p n)<n/\p (Lib.ctz 64 (kv p n))=true/\∀ j,j<Lib.ctz 64 (kv p n)->p j=false:=by
 have hlt:kv p n<2^64:=by
  have h1:=X8 p hn;have h2:(2:Nat)^64=18446744073709551616:=by decide
  omega
 obtain⟨m,hm,hk⟩:=Lib.ctzFrom_spec 64 (kv p n) oG hlt;have e:Lib.ctz 64 (kv p n)=Lib.ctzFrom 64 (kv p n):=by simp[Lib.ctz,h0]
 rw[e]
 generalize hc:Lib.ctzFrom 64 (kv p n)=c at *
 have hb:∀ j,(kv p n).testBit j=(decide (c<=j)&&(2*m+1).testBit (j-c)):=by
  intro j;rw[hm,Nat.mul_comm,Nat.testBit_mul_two_pow]
 have a1:(kv p n).testBit c=true:=by rw[hb];simp
 rw[kj]at a1;simp only[Bool.and_eq_true,decide_eq_true_eq]at a1;refine⟨a1.1,a1.2,fun j hj=>?_⟩;have:=hb j;rw[kj]at this;have hcj:¬c<=j:=by omega
 simp only[hcj,decide_false,Bool.false_and]at this;have hjn:j<n:=by omega
 simpa[hjn]using this
def TabIn(w:World):Prop:=2<w.heap.size/\∀ k,k<64->w.cell? ⟨2,0+k*1,none⟩=some (.int .u8 ((Lib.deBruijn64tab.getD k 0:Nat):Int))
theorem TabIn.mono{w w':World}(h:TabIn w)(hb:Bel w w'):TabIn w':=⟨nLL h.1 hb.size,fun k hk=>hb.cell h.1 (h.2 k hk)⟩
theorem ctz_eq{x c:Nat}(h0:x≠0)(hx:x<18446744073709551616)(hc:18446744073709551616-x=c):x&&&c=2^Lib.ctz 64 x/\Lib.ctz 64 x<64:=by
 subst hc
 exact Lib.lowest_bit 64 x h0 (by
  have:(2:Nat)^64=18446744073709551616 := by decide
  omega)
def tzI(x:Nat):Nat:=((x&&&(18446744073709551616-x))*285870213051353865%18446744073709551616)>>>58
theorem tzI_spec{x:Nat}(h0:x≠0)(hx:x<18446744073709551616):tzI x<64/\Lib.deBruijn64tab.getD (tzI x) 0=Lib.ctz 64 x:=by
 have h:=ctz_eq h0 hx rfl;have h2:=Lib.deBruijn64_at (Lib.ctz 64 x) h.2;unfold tzI;rw[h.1,Nat.shiftRight_eq_div_pow];exact h2
def upN(l:List Ty)(i:Nat):Nat:=kv (fun j=>sub l i j) l.length
def ZJ(l:List Ty)(j:Nat):Nat:=kv (fun i=>sub l i j) l.length
def rU(n:Nat)(g:Nat->Nat):Array Value:=row n (fun i=> .int .u64 (g i))
def TableIn(w:World)(l:List Ty)(bu bd:Nat):Prop:=Blk w bu 114 (rU l.length (upN l))/\Blk w bd 114 (rU l.length (ZJ l))
theorem Blk.bel{w w':World}{b:Nat}{t:TypeId}{cs:Array Value}(h:Blk w b t cs)(hb:Bel w w'):Blk w' b t cs:=(hb.block b h.lt).trans h
theorem TableIn.mono{w w':World}{l:List Ty}{bu bd:Nat}(h:TableIn w l bu bd)(hb:Bel w w'):TableIn w' l bu bd:=⟨h.1.bel hb,h.2.bel hb⟩
theorem TableIn.up{w:World}{l:List Ty}{bu bd i:Nat}(h:TableIn w l bu bd)(hi:i<l.length):w.cell? ⟨bu,0+i*1,none⟩=some (.int .u64 (upN l i)):=h.1.cell (jJ hi)
theorem TableIn.down{w:World}{l:List Ty}{bu bd i:Nat}(h:TableIn w l bu bd)(hi:i<l.length):w.cell? ⟨bd,0+i*1,none⟩=some (.int .u64 (ZJ l i)):=h.2.cell (jJ hi)
theorem L2{l:List Ty}(h:l.length<=60)(i:Nat):upN l i<18446744073709551616:=X8 _ h
theorem Hk{l:List Ty}(h:l.length<=60)(i:Nat):ZJ l i<18446744073709551616:=X8 _ h
def Lv(n bu bd:Nat):Value:= .agg #[.slice (some ⟨bu,0,none⟩) n n,.slice (some ⟨bd,0,none⟩) n n]
def Z5(l:List Ty)(a b:Nat)(i:Nat):Bool:=sub l i a&&sub l i b
def j9(l:List Ty)(a b:Nat):Nat:=kv (Z5 l a b) l.length
theorem comm_and(l:List Ty)(a b:Nat):ZJ l a&&&ZJ l b=j9 l a b:=mask_and _ _ _
def kW(l:List Ty)(a b:Nat):Nat×Bool×Bool:=
 if j9 l a b=0 then (0,false,false)
 else if ZJ l (Lib.ctz 64 (j9 l a b))≠j9 l a b then (0,false,true)
 else (Lib.ctz 64 (j9 l a b),true,false)
def meetV(r:Nat×Bool×Bool):Value:= .tuple #[.int .i64 r.1,.bool r.2.1,.bool r.2.2]
theorem D9{m:Nat}{p q:Bool}{r:Nat×Bool×Bool}(h:r=(m,p,q)):Ending.returned (.tuple #[.int .i64 (m:Int),.bool p,.bool q])= .returned (meetV r):=by rw[h];rfl
theorem sz114:(prog.info? 114).map (·.size)=some 1:=by kernel_rfl
theorem sz5_Meet:(prog.info? 5).map (·.size)=some 1:=by kernel_rfl
theorem tz_any(x:Nat)(w:World)(h0:x≠0)(hx:x<18446744073709551616)(a1:TabIn w):Calls prog 119 #[.int .u64 x] w fun e w'=>e= .returned (.int .i64 (Lib.ctz 64 x:Nat))/\w=w':=by
 have hz:=tzI_spec h0 hx;have hgd:=a1.2 (tzI x) hz.1;rw[hz.2]at hgd;refine enter func119 ntmps119 rfl (ay rfl) (jz ?_);refine zV rfl (fun c4=>?_) (fun c4=>?_)
 ·exact absurd c4 oG
 refine zn6 ?_;refine wl (r_negU rfl oG hx rfl) (wl (Mq (b:=18446744073709551616-x) rfl rfl hx oG) (wl (r_mulU (b:=285870213051353865) rfl rfl rfl) (wl (r_shr (b:=58) rfl rfl dE rfl) (wl (Dx (i:=tzI x) underlying198 sz5_Meet rfl rfl hz.1 rfl) (wl (qW (v:= .int _ _) U5 rfl rfl hgd) (wl (Dk U5 U3 rfl (by have:=(ctz_eq h0 hx rfl).2;omega)) (zn5 ?_)))))));exact⟨rfl,rfl⟩
theorem Wk(l:List Ty)(bu bd a b:Nat)(w:World)(a4:TabIn w)(hI:TableIn w l bu bd)(_hv:VT l)(a2:l.length<=60)(ha:a<l.length)(hb:b<l.length):Calls prog 98 #[Lv l.length bu bd,.int .i64 a,.int .i64 b] w fun e w'=>e= .returned (meetV (kW l a b))/\Bel w w':=by
 have hca:=Hk a2 a;have hcb:=Hk a2 b;have hcc:j9 l a b<18446744073709551616:=X8 _ a2;refine enT func98 ntmps98 rfl rfl fun hB=>?_;refine zn2 ?_;refine qY (v:= .agg #[_,_]) (cs:=#[_,_]) rfl rfl (fun b3 w1 hb3 s1 hr=>?_);refine zn6 ?_;refine Qx kR kR (fun w2 s2=>?_);refine zn4 ?_;refine ws (qW (v:= .int _ _) JZ rfl rfl ((hI.mono hB.u).down ha)) (zn4 ?_);refine ws (qW (v:= .int _ _) JZ rfl rfl ((hI.mono hB.u).down hb)) (ws (Mq rfl rfl hca hcb) (ws (gk (v:= .int .u64 (j9 l a b:Nat)) (congrArg (fun z:Nat=>Value.int .u64 (z:Int)) (comm_and l a b))) (uW (zn8 ?_))));refine zV rfl (fun c22=>?_) (fun c22=>?_)
 ·have hz0:j9 l a b=0:=by omega
  refine zn9 ?_;refine P4 (.inl rfl) rfl rfl rfl rfl ?_;replace hB:=hB.tr0 (s1.t s2);exact⟨D9 (by simp only[kW,if_pos hz0]),hB⟩
 have a1:j9 l a b≠0:=fun h=>c22 (by rw[h];rfl)
 have hz:=E3 a2 a1;refine zn5 ?_;refine zW kR (tz_any _ _ a1 hcc (a4.mono hB.u)) rfl (fun e' w3 hr=>?_);obtain⟨rfl,rfl⟩:=hr;refine⟨_,rfl,?_⟩;refine zn9 ?_;refine wl (xX (i:=Lib.ctz 64 (j9 l a b)) U82 sz114 rfl rfl hz.1 rfl) (wl (qW (v:= .int _ _) JZ rfl rfl ((hI.mono hB.u).down hz.1)) (zn4 ?_));refine zV rfl (fun c31=>?_) (fun c31=>?_)
 ·have a3:ZJ l (Lib.ctz 64 (j9 l a b))≠j9 l a b:=by omega
  refine zn9 ?_;refine P4 (.inl rfl) rfl rfl rfl rfl ?_;replace hB:=hB.tr0 (s1.t s2);exact⟨D9 (by simp only[kW,if_neg a1,if_pos a3]),hB⟩
 have heq:ZJ l (Lib.ctz 64 (j9 l a b))=j9 l a b:=by omega
 refine kQ ?_;refine P4 (.inl rfl) rfl rfl rfl rfl ?_;replace hB:=hB.tr0 (s1.t s2);exact⟨D9 (by simp only[kW,if_neg a1,heq,ne_eq,not_true_eq_false,if_false]),hB⟩
theorem PY(l:List Ty)(bu bd a b:Nat)(w:World)(hI:TableIn w l bu bd)(h60:l.length<=60)(ha:a<l.length)(hb:b<l.length):Calls prog 67 #[Lv l.length bu bd,.int .i64 a,.int .i64 b] w fun e w'=>e= .returned (.bool (sub l a b))/\Bel w w':=by
 have hca:=L2 h60 a;refine enT func67 ntmps67 rfl rfl fun hB=>?_;refine zn2 ?_;refine qY (v:= .agg #[_,_]) (cs:=#[_,_]) rfl rfl (fun b3 w1 hb3 s1 hr=>?_);refine zn9 ?_;refine wl (qW (v:= .int _ _) JZ rfl rfl ((hI.mono hB.u).up ha)) (wmI rfl (wl (r_shr (b:=b) rfl rfl oG rfl) (wl (Mq (b:=1) rfl rfl (Nat.lt_of_le_of_lt (Nat.shiftRight_le _ _) hca) dE) (zn6 ?_))));refine⟨Zy ?_,hB.u⟩;have h1:=BQ (upN l a) b;unfold upN at h1;rw[kj]at h1;simp only[hb,decide_true,Bool.true_and]at h1;rw[<- h1];exact ai.2 (by unfold upN;omega)
end Go.Proofs.YtiofaflajkgiaaaGreatDoor
