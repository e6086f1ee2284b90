/- What these functions compute, at every world: term.Name, hierarchy.fault, hierarchy.Types, ref3.Name, ref3.TypesFault, ref3.Sub; and plain laws. -/
import Derived.Test.YtndbjnkilegebaaGreatDoorZst
import Derived.Test.YtndbjnkilegebaaGreatDoorU
import Derived.Test.YtndbjnkilegebaaGreatDoorProg
namespace Go.Proofs.YtndbjnkilegebaaGreatDoor
open Go.RowKit Go.Proofs.Tryz
variable {A:Option Addr}{a b d i k n:Nat}{l:List Ty}{mk:Nat->Bool}{w w':World}
inductive Sm where
 | mk (base:ByteArray) (args:List Sm)
def Sm.base:Sm->ByteArray | .mk b _=>b
def Sm.args:Sm->List Sm | .mk _ a=>a
theorem Sm.eta(s:Sm):s= .mk s.base s.args:=by cases s;rfl
mutual
inductive SimAt(w:World):Nat->Nat->Sm->Prop
 | mk {b o:Nat} {base:ByteArray} {args:List Sm} {A:Option Addr} {c:Nat} (hb:b<w.heap.size) (h:w.rangeAt b o [.string base,.slice A (List.length args) c]) (hs:SimsIn w A args):SimAt w b o (.mk base args)
inductive SimsIn(w:World):Option Addr->List Sm->Prop
 | nil {A:Option Addr}:SimsIn w A []
 | more {b o:Nat} {args:List Sm} (hl:args.length<=vX) (hb:b<w.heap.size) (h:∀ k (hk:k<args.length),SimAt w b (o+k*2) args[k]):SimsIn w (some ⟨b,o,none⟩) args
end
theorem SimAt.both(hw:Bel w w'):(∀ {b o:Nat} {s:Sm},SimAt w b o s->SimAt w' b o s)/\∀ {A:Option Addr} {l:List Sm},SimsIn w A l->SimsIn w' A l:=by
 have h1:∀ {b o:Nat} {s:Sm} (h:SimAt w b o s),SimAt w' b o s:=fun h=>
  SimAt.rec (motive_1:=fun b o s _=>SimAt w' b o s) (motive_2:=fun A l _=>SimsIn w' A l)
   (fun hb h _ ih=> .mk (nLL hb hw.size) (hw.range hb h) ih) .nil (fun hl hb _ ih=> .more hl (nLL hb hw.size) ih) h
 have h2:∀ {A:Option Addr} {l:List Sm} (h:SimsIn w A l),SimsIn w' A l:=fun h=>
  SimsIn.rec (motive_1:=fun b o s _=>SimAt w' b o s) (motive_2:=fun A l _=>SimsIn w' A l)
   (fun hb h _ ih=> .mk (nLL hb hw.size) (hw.range hb h) ih) .nil (fun hl hb _ ih=> .more hl (nLL hb hw.size) ih) h
 exact⟨h1,h2⟩
theorem SimAt.mono{o:Nat}{s:Sm}(h:SimAt w b o s)(hw:Bel w w'):SimAt w' b o s:=(SimAt.both hw).1 h
theorem SimsIn.mono{l:List Sm}(h:SimsIn w A l)(hw:Bel w w'):SimsIn w' A l:=(SimAt.both hw).2 h
theorem SimsIn.le{l:List Sm}(h:SimsIn w A l):l.length<=vX:=by
 cases h with
 | nil=>exact ah _
 | more hl=>exact hl
theorem SimsIn.at_{l:List Sm}(h:SimsIn w A l)(hk:k<l.length):∃ b o A' c,A=some ⟨b,o,none⟩/\b<w.heap.size/\w.rangeAt b (o+k*2) [Value.string (l[k]).base,.slice A' (l[k]).args.length c]/\SimsIn w A' (l[k]).args:=by
 cases h with
 | nil=>simp at hk
 | @more b o _ _ hb h=>
  have hx:=h k hk
  generalize l[k]=s at hx
  cases hx with
  | mk _ hr hs=>exact⟨b,o,_,_,rfl,hb,hr,hs⟩
def smE:ByteArray:=⟨#[101]⟩
def smT:ByteArray:=⟨#[116]⟩
def VK(s:Sm):Prop:=((s.base=smE\/s.base=smT)/\s.args.length=0)\/(s.base=⟨#[]⟩/\s.args.length=2)
instance(s:Sm):Decidable (VK s):=by unfold VK;infer_instance
mutual
def swk:Sm->Nat->Nat->Nat×Int
 | .mk b l,d,n=>if 200<n+1\/40<d then (n+1,1)else if VK (.mk b l)then N3 l (d+1) (n+1)else (n+1,5)
def N3:List Sm->Nat->Nat->Nat×Int
 | [],_,n=>(n,0)
 | x::r,d,n=>if (swk x d n).2=0 then N3 r d (swk x d n).1 else swk x d n
end
theorem P4(s:Sm)(d n:Nat):swk s d n=if 200<n+1\/40<d then (n+1,1)else if VK s then N3 s.args (d+1) (n+1)else (n+1,5):=by
 cases s;rw[swk];rfl
def sst:List (Sm×Nat)->Nat->Nat×Int
 | [],n=>(n,0)
 | x::r,n=>if (swk x.1 x.2 n).2=0 then sst r (swk x.1 x.2 n).1 else swk x.1 x.2 n
theorem swks_st(d:Nat):∀(l:List Sm) (n:Nat),N3 l d n=sst (l.map (fun y=>(y,d))) n
 | [],_=>by rw[N3];rfl
 | x::r,n=>by
  rw[N3,swks_st d r];rfl
theorem sst_app:∀(l r:List (Sm×Nat)) (n:Nat),sst (l++r) n=if (sst l n).2=0 then sst r (sst l n).1 else sst l n
 | [],_,_=>rfl
 | x::l,r,n=>by
  show (if (swk x.1 x.2 n).2=0 then sst (l++r) (swk x.1 x.2 n).1 else swk x.1 x.2 n)=_
  rw[sst_app l r]
  grind[swk,sst]
theorem sst_out{s:Sm}{r:List (Sm×Nat)}(h:200<n+1\/40<d):sst ((s,d)::r) n=(n+1,1):=by
 have e:swk s d n=(n+1,1):=by rw[P4,if_pos h]
 show (if (swk s d n).2=0 then _ else swk s d n)=_;rw[e];rfl
theorem sst_bad{s:Sm}{r:List (Sm×Nat)}(h:¬(200<n+1\/40<d))(ho:¬VK s):sst ((s,d)::r) n=(n+1,5):=by
 have e:swk s d n=(n+1,5):=by rw[P4,if_neg h,if_neg ho]
 show (if (swk s d n).2=0 then _ else swk s d n)=_;rw[e];rfl
theorem sst_go{s:Sm}{r:List (Sm×Nat)}(h:¬(200<n+1\/40<d))(ho:VK s):sst ((s,d)::r) n=sst (s.args.map (fun y=>(y,d+1))++r) (n+1):=by
 grind[swk,sst,P4,swks_st,sst_app]
theorem sst_one(s:Sm)(d n:Nat):sst [(s,d)] n=swk s d n:=by
 show (if (swk s d n).2=0 then ((swk s d n).1,0)else swk s d n)=_
 grind
def smF(s:Sm):Int:=(swk s 1 0).2
inductive Ts where
 | b (t:Bool)
 | f (x y:Ts)
def Ts.sm:Ts->Sm
 | .b t=> .mk (if t then smT else smE) []
 | .f x y=> .mk ⟨#[]⟩ [x.sm,y.sm]
def Ts.size:Ts->Nat
 | .b _=>1
 | .f x y=>x.size+y.size+1
def Ts.eqb:Ts->Ts->Bool
 | .b s,.b t=>s==t
 | .f x y,.f p q=>x.eqb p&&y.eqb q
 | _,_=>false
theorem Ts.eqb_iff:∀ {a b:Ts},a.eqb b=true↔a=b
 | .b s,.b t=>by simp[Ts.eqb]
 | .f x y,.f p q=>by simp[Ts.eqb,Ts.eqb_iff (a:=x),Ts.eqb_iff (a:=y)]
 | .b s,.f p q=>by simp[Ts.eqb]
 | .f x y,.b t=>by simp[Ts.eqb]
theorem smOk_leaf{s:Sm}(h:VK s)(hl:s.args.length=0):∃ t,s=(Ts.b t).sm:=by
 rcases h with ⟨hb,_⟩|⟨_,h2⟩
 ·have ha:s.args= []:=aM.1 hl
  rcases hb with hb|hb
  ·exact⟨false,by rw[Sm.eta s,hb,ha];rfl⟩
  ·exact⟨true,by rw[Sm.eta s,hb,ha];rfl⟩
 ·omega
mutual
theorem swk_ts:∀(s:Sm) (d n:Nat),(swk s d n).2=0->∃ τ:Ts,s=τ.sm/\(swk s d n).1=n+τ.size/\n+τ.size<=200
 | .mk b l,d,n,h=>by
  rw[swk]at h ⊢
  by_cases h1:200<n+1\/40<d
  ·rw[if_pos h1]at h;cases h
  ·rw[if_neg h1]at h ⊢
   by_cases h2:VK (.mk b l)
   ·rw[if_pos h2]at h ⊢
    obtain⟨ts,e1,e2,e3⟩:=swks_ts l (d+1) (n+1) h oG
    match l,ts,e1,h2 with
    | [],ts,e1,h2=>
     obtain⟨t,ht⟩:=smOk_leaf h2 rfl
     cases ts with
     | nil=>exact⟨.b t,ht,e2,by simp[Ts.size]at e3 ⊢;omega⟩
     | cons a r=>cases e1
    | [x,y],[p,q],e1,h2=>
     simp only[List.map_cons,List.map_nil,List.cons.injEq,and_true]at e1
     rcases h2 with ⟨_,h2⟩|⟨h2,_⟩
     ·cases h2
     ·have h2:b=⟨#[]⟩:=h2
      simp only[List.map_cons,List.map_nil,List.sum_cons,List.sum_nil]at e2 e3
      refine⟨.f p q,?_,?_,?_⟩
      ·rw[h2,e1.1,e1.2];rfl
      ·rw[e2];show _=n+(p.size+q.size+1);omega
      ·show n+(p.size+q.size+1)<=200;omega
    | [x],ts,_,h2=>rcases h2 with ⟨_,h2⟩|⟨_,h2⟩<;>cases h2
    | x::y::z::r,ts,_,h2=>rcases h2 with ⟨_,h2⟩|⟨_,h2⟩<;>cases h2
   ·rw[if_neg h2]at h;cases h
theorem swks_ts:∀(l:List Sm) (d n:Nat),(N3 l d n).2=0->n<=200->∃ ts:List Ts,l=ts.map Ts.sm/\(N3 l d n).1=n+(ts.map Ts.size).sum/\n+(ts.map Ts.size).sum<=200
 | [],d,n,_,hn=>⟨[],rfl,by rw[N3];rfl,hn⟩
 | x::r,d,n,h,hn=>by
  rw[N3]at h ⊢
  by_cases h1:(swk x d n).2=0
  ·rw[if_pos h1]at h ⊢
   obtain⟨τ,e1,e2,e3⟩:=swk_ts x d n h1
   rw[e2]at h ⊢
   obtain⟨ts,k1,k2,k3⟩:=swks_ts r d (n+τ.size) h e3
   exact⟨τ::ts,by rw[e1,k1];rfl,by rw[k2];simp;omega,by simp;omega⟩
  ·rw[if_neg h1]at h;exact absurd h h1
end
theorem smF_ts{s:Sm}(h:smF s=0):∃ τ:Ts,s=τ.sm/\τ.size<=200:=by
 obtain⟨τ,e,_,e2⟩:=swk_ts s 1 0 h;exact⟨τ,e,by omega⟩
theorem Ts.sm_inj:∀ {a b:Ts},a.sm=b.sm->a=b
 | .b s,.b t,h=>by
  cases s<;>cases t<;>first|rfl|(exfalso;revert h;simp[Ts.sm,smE,smT])
 | .b s,.f x y,h=>by exfalso;revert h;cases s<;>simp[Ts.sm]
 | .f x y,.b t,h=>by exfalso;revert h;cases t<;>simp[Ts.sm]
 | .f x y,.f p q,h=>by
  simp only[Ts.sm,Sm.mk.injEq,List.cons.injEq,and_true,true_and]at h
  rw[Ts.sm_inj h.1,Ts.sm_inj h.2]
def Ts.txt:Ts->List UInt8
 | .b t=>if t then [116]else [101]
 | .f x y=>40::(x.txt++32::(y.txt++[41]))
theorem Ts.txt_le:∀ τ:Ts,τ.txt.length<=4*τ.size
 | .b t=>by cases t<;>simp[Ts.txt,Ts.size]
 | .f x y=>by
  have h1:=Ts.txt_le x
  have h2:=Ts.txt_le y
  grind[Ts.txt,Ts.size]
theorem Ts.txt_pre:∀ {a b:Ts} {p q:List UInt8},a.txt++p=b.txt++q->a=b/\p=q
 | .b s,.b t,p,q,h=>by cases s<;>cases t<;>simp_all[Ts.txt]
 | .b s,.f x y,p,q,h=>by cases s<;>simp[Ts.txt]at h
 | .f x y,.b t,p,q,h=>by cases t<;>simp[Ts.txt]at h
 | .f x y,.f u v,p,q,h=>by
  simp only[Ts.txt,List.cons_append,List.append_assoc,List.cons.injEq,true_and,List.nil_append]at h
  obtain⟨rfl,h2⟩:=Ts.txt_pre h
  simp only[List.cons.injEq,true_and]at h2
  obtain⟨rfl,h3⟩:=Ts.txt_pre h2
  grind
theorem Ts.txt_inj{a b:Ts}(h:a.txt=b.txt):a=b:=(Ts.txt_pre (p:=[]) (q:=[]) (by rw[h])).1
def Q6(c:UInt8):Bool:=decide (97<=c.toNat/\c.toNat<=122)||decide (48<=c.toNat/\c.toNat<=57)||decide (c.toNat=95)||decide (c.toNat=45)
theorem QZ(c:UInt8):Q6 c=true↔((97<=c.toNat/\c.toNat<=122)\/(48<=c.toNat/\c.toNat<=57)\/c.toNat=95\/c.toNat=45):=by simp[Q6,or_assoc]
def nameHd:List UInt8->Bool
 | []=>false
 | c::_=>decide (97<=c.toNat/\c.toNat<=122)
def vY(s:ByteArray):Bool:=decide (s.size<=30)&&nameHd s.data.toList&&s.data.toList.all Q6
theorem jQ{a b:Bool}(h:a=b):Ending.returned (.bool b)= .returned (.bool a):=by rw[h]
theorem hd_num(s:ByteArray):∃ c0:Nat,∀ h:0<s.size,(s[0]'h).toNat=c0:=by
 by_cases h:0<s.size
 ·exact⟨(s[0]'h).toNat,fun _=>rfl⟩
 ·exact⟨0,fun h'=>absurd h' h⟩
theorem PX(s:ByteArray)(c0:Nat)(e0:∀ h:0<s.size,(s[0]'h).toNat=c0):
  vY s=decide ((s.size≠0/\s.size<=30)/\(97<=c0/\c0<=122)/\(∀ k (hk:k<s.size),Q6 (s[k]'hk)=true)):=by
 have ha:(s.data.toList.all Q6=true)↔(∀ k (hk:k<s.size),Q6 (s[k]'hk)=true):=by
  rw[List.all_eq_true]
  constructor
  ·intro h k hk
   exact h _ (aq (l:=s.data.toList) (n:=k) (by simpa using hk))
  ·intro h x hx
   obtain⟨k,hk,rfl⟩:=List.mem_iff_getElem.1 hx;exact h k (by simpa using hk)
 have hh:∀ h:0<s.size,nameHd s.data.toList=decide (97<=c0/\c0<=122):=by
  intro h;rw[<- e0 h];obtain⟨⟨l⟩⟩:=s;cases l with
  | nil=>exact absurd h dE
  | cons c l=>rfl
 by_cases h0:s.size=0
 ·have:s.data.toList= []:=by
   apply List.eq_nil_of_length_eq_zero;simpa using h0
  simp[vY,this,nameHd,h0]
 ·have h:=hh oG
  rw[Bool.eq_iff_iff];simp only[vY,h,Bool.and_eq_true,decide_eq_true_eq,ha]
  constructor
  ·rintro⟨⟨a,b⟩,c⟩;exact⟨⟨h0,a⟩,b,c⟩
  ·rintro⟨⟨_,a⟩,b,c⟩;exact⟨⟨a,b⟩,c⟩
theorem N2:(prog.info? 45).map (·.size)=some 2:=by kernel_rfl
theorem ze45:(prog.info? 45).map (·.zero)=some (some (.agg #[.int .i64 0,.int .i64 0])):=by kernel_rfl
theorem EY(s:ByteArray)(w:World):Calls prog 50 #[.string s] w fun e w'=>e= .returned (.bool (vY s))/\w=w':=by
 obtain⟨c0,e0⟩:=hd_num s;have hN:=Lib.hid (PX s c0 e0);refine enter func50 ntmps50 rfl (aA rfl) (zn7 ?_);refine xj (rg [] 5 18) 22 (.bool (decide (s.size=0\/30<s.size\/c0<97\/122<c0))) nu ?_ (fun gq=>?_)
 ·refine zn5 ?_;refine zk 8 rfl (fun g8=>?_) (fun g8=>?_)
  ·refine QY ?_;refine gk ?_
   try have a8:=e0 oG
   first|exact ag (aj oG).symm|exact ag (ap oG).symm|exact ag (am.2 oG)|exact ag ((decide_not).symm.trans (am.2 oG))
  refine zn8 ?_;refine zk 13 rfl (fun g13=>?_) (fun g13=>?_)
  ·refine zn9 ?_;refine gk ?_
   try have a8:=e0 oG
   first|exact ag (aj oG).symm|exact ag (ap oG).symm|exact ag (am.2 oG)|exact ag ((decide_not).symm.trans (am.2 oG))
  refine zn3 ?_;refine wl (Kx (i:=0) U9 rfl rfl oG) (zn4 ?_);refine zk 18 rfl (fun g18=>?_) (fun g18=>?_)
  ·refine zn4 ?_;refine gk ?_
   try have a8:=e0 oG
   first|exact ag (aj oG).symm|exact ag (ap oG).symm|exact ag (am.2 oG)|exact ag ((decide_not).symm.trans (am.2 oG))
  refine zn3 ?_;refine wl (Kx (i:=0) U9 rfl rfl oG) (zn3 ?_);refine gk ?_
  try have a8:=e0 oG
  first|exact ag (aj oG).symm|exact ag (ap oG).symm|exact ag (am.2 oG)|exact ag ((decide_not).symm.trans (am.2 oG))
 refine e_S ?_;refine zZ rfl (fun c22=>?_) (fun c22=>?_)
 ·refine zn8 ?_;exact⟨jQ (by rw[hN.out];exact ap (fun h=>by omega)),rfl⟩
 refine vJ ?_;refine qz (rg [2,3,4] 25 30) (fun m g w'=>∃ k:Nat,k<=s.size/\m=s.size-k/\g 25= .int .i64 k/\w=w'/\(∀ j (hj:j<s.size),j<k->Q6 (s[j]'hj)=true)) (s.size) ?_ (fun m g4 w1 hI=>?_)
 ·exact⟨0,ah _,rfl,rfl,rfl,fun j hj h=>by omega⟩
 obtain⟨k,hk,hm,h25,rfl,a3⟩:=hI;refine zQ 25 _ h25 nu (zn6 ?_);refine zZ rfl (fun c26=>?_) (fun c26=>?_)
 ·refine QY ?_;refine wl (Kx (i:=k) U9 rfl rfl oG) (zn4 ?_);refine xj (rg [] 31 23) 53 (.bool (decide (¬((97<=(s[k]'oG).toNat/\(s[k]'oG).toNat<=122)\/(48<=(s[k]'oG).toNat/\(s[k]'oG).toNat<=57)\/(s[k]'oG).toNat=95\/(s[k]'oG).toNat=45)))) nu ?_ (fun gq=>?_)
  ·refine zn4 ?_;refine zk 33 rfl (fun g33=>?_) (fun g33=>?_)
   ·refine zn6 ?_;refine zk 37 rfl (fun g37=>?_) (fun g37=>?_)
    ·refine Jq ?_;exact xq
    refine zn6 ?_;refine zk 40 rfl (fun a5=>?_) (fun a5=>?_)
    ·refine zn8 ?_;refine zk 45 rfl (fun a4=>?_) (fun a4=>?_)
     ·refine zn8 ?_;exact xq
     refine zn6 ?_;refine zk 49 rfl (fun a1=>?_) (fun a1=>?_)
     ·refine zn4 ?_;exact xq
     refine zn6 ?_;exact xq
    refine yZ ?_;refine zk 49 rfl (fun a1=>?_) (fun a1=>?_)
    ·refine zn4 ?_;exact xq
    refine zn6 ?_;exact xq
   refine yj ?_;refine zk 40 rfl (fun a5=>?_) (fun a5=>?_)
   ·refine zn8 ?_;refine zk 45 rfl (fun a4=>?_) (fun a4=>?_)
    ·refine zn8 ?_;exact xq
    refine zn6 ?_;refine zk 49 rfl (fun a1=>?_) (fun a1=>?_)
    ·refine zn4 ?_;exact xq
    refine zn6 ?_;exact xq
   refine yZ ?_;refine zk 49 rfl (fun a1=>?_) (fun a1=>?_)
   ·refine zn4 ?_;exact xq
   refine zn6 ?_;exact xq
  refine e_S ?_;refine zZ rfl (fun c53=>?_) (fun c53=>?_)
  ·refine yZ ?_;exact⟨jQ (by rw[hN.out];exact ap (fun h=>c53 ((QZ _).1 (h.2.2 k oG)))),rfl⟩
  have a2:∀ j (hj:j<s.size),j<k+1->Q6 (s[j]'hj)=true:=fun j hj h=>by
    by_cases e:j=k
    · subst e;exact(QZ _).2 oG
    · exact a3 j hj oG
  refine zn7 ?_;refine x9 (s.size-(k+1)) oG agA ?_;exact⟨k+1,by omega,rfl,rfl,rfl,fun j hj h=>a2 j hj h⟩
 refine yZ ?_;exact⟨jQ (by rw[hN.out];exact aj ⟨by omega,by omega,fun j hj=>a3 j hj oG⟩),rfl⟩
theorem uZ(a b:Int)(w:World):Calls prog 86 #[.int .i64 a,.int .i64 b] w fun e w'=>e= .returned (flV (a,b))/\Bel w w':=by
 refine enT func86 ntmps86 rfl rfl fun hB=>?_;refine zn2 ?_;refine qQ (cs:=#[.int .i64 0,.int .i64 0]) ze45 rfl (fun b4 w1 a1 s1 hr=>?_);have lo4:=hB.ob hr;refine zn6 ?_;refine vy ?_;refine zV a1 (fun w2 hq s2=>?_);replace a1:=hq;refine zn3 ?_;refine xK (.inl rfl) rfl (zX U45 rfl rfl a1.range0 N2) ?_;exact⟨rfl,hB.u⟩
abbrev cK(a:Sm)(b:Option Addr)(c:Nat):Array Value:=#[.string a.base,.slice b a.args.length c]
inductive Tm where
 | mk (kind:Int) (name:ByteArray) (index:Int) (type:Sm) (args:List Tm)
def Tm.kind:Tm->Int | .mk k _ _ _ _=>k
def Tm.name:Tm->ByteArray | .mk _ n _ _ _=>n
def Tm.index:Tm->Int | .mk _ _ i _ _=>i
def Tm.type:Tm->Sm | .mk _ _ _ t _=>t
def Tm.args:Tm->List Tm | .mk _ _ _ _ a=>a
theorem Tm.eta(t:Tm):t= .mk t.kind t.name t.index t.type t.args:=by cases t;rfl
mutual
inductive TmAt(w:World):Nat->Nat->Tm->Prop
 | mk {b o:Nat} {k i:Int} {nm:ByteArray} {s:Sm} {args:List Tm} {A B:Option Addr} {c d:Nat} (hb:b<w.heap.size) (h:w.rangeAt b o [.int .i64 k,.string nm,.int .i64 i,.string s.base,.slice A s.args.length c,.slice B (List.length args) d]) (hs:SimsIn w A s.args) (ht:TmsIn w B args):TmAt w b o (.mk k nm i s args)
inductive TmsIn(w:World):Option Addr->List Tm->Prop
 | nil {A:Option Addr}:TmsIn w A []
 | more {b o:Nat} {args:List Tm} (hl:args.length<=vX) (hb:b<w.heap.size) (h:∀ k (hk:k<args.length),TmAt w b (o+k*6) args[k]):TmsIn w (some ⟨b,o,none⟩) args
end
theorem TmAt.both(hw:Bel w w'):(∀ {b o:Nat} {s:Tm},TmAt w b o s->TmAt w' b o s)/\∀ {A:Option Addr} {l:List Tm},TmsIn w A l->TmsIn w' A l:=by
 have h1:∀ {b o:Nat} {s:Tm} (h:TmAt w b o s),TmAt w' b o s:=fun h=>
  TmAt.rec (motive_1:=fun b o s _=>TmAt w' b o s) (motive_2:=fun A l _=>TmsIn w' A l)
   (fun hb h hs _ ih=> .mk (nLL hb hw.size) (hw.range hb h) (hs.mono hw) ih) .nil (fun hl hb _ ih=> .more hl (nLL hb hw.size) ih) h
 have h2:∀ {A:Option Addr} {l:List Tm} (h:TmsIn w A l),TmsIn w' A l:=fun h=>
  TmsIn.rec (motive_1:=fun b o s _=>TmAt w' b o s) (motive_2:=fun A l _=>TmsIn w' A l)
   (fun hb h hs _ ih=> .mk (nLL hb hw.size) (hw.range hb h) (hs.mono hw) ih) .nil (fun hl hb _ ih=> .more hl (nLL hb hw.size) ih) h
 exact⟨h1,h2⟩
theorem TmAt.mono{o:Nat}{s:Tm}(h:TmAt w b o s)(hw:Bel w w'):TmAt w' b o s:=(TmAt.both hw).1 h
theorem TmsIn.mono{l:List Tm}(h:TmsIn w A l)(hw:Bel w w'):TmsIn w' A l:=(TmAt.both hw).2 h
theorem TmsIn.le{l:List Tm}(h:TmsIn w A l):l.length<=vX:=by
 cases h with
 | nil=>exact ah _
 | more hl=>exact hl
theorem TmsIn.at_{l:List Tm}(h:TmsIn w A l)(hk:k<l.length):∃ b o A' c B d,A=some ⟨b,o,none⟩/\b<w.heap.size/\w.rangeAt b (o+k*6) [Value.int .i64 (l[k]).kind,.string (l[k]).name,.int .i64 (l[k]).index,.string (l[k]).type.base,.slice A' (l[k]).type.args.length c,.slice B (l[k]).args.length d]/\SimsIn w A' (l[k]).type.args/\TmsIn w B (l[k]).args:=by
 cases h with
 | nil=>simp at hk
 | @more b o _ _ hb h=>
  have hx:=h k hk
  generalize l[k]=s at hx
  cases hx with
  | mk _ hr hs ht=>exact⟨b,o,_,_,_,_,rfl,hb,hr,hs,ht⟩
def My(s:Sm):Prop:=s.base=⟨#[]⟩/\s.args.length=0
instance(s:Sm):Decidable (My s):=by unfold My;infer_instance
def ndC(b:Nat)(t:Tm):Int:=
 if t.kind=1 then (if t.index=0/\t.args.length=0 then (if vY t.name=true then (if smF t.type=0 then 0 else 12)else 10)else 5)
 else if t.kind=2 then (if t.name=⟨#[]⟩/\My t.type/\t.args.length=0 then (if t.index<0\/(b:Int)<=t.index then 15 else 0)else 5)
 else if t.kind=3 then (if t.name=⟨#[]⟩/\t.index=0/\t.args.length=1 then (if smF t.type=0 then 0 else 12)else 5)
 else if t.kind=4 then (if t.name=⟨#[]⟩/\t.index=0/\My t.type/\t.args.length=2 then 0 else 5)
 else 4
theorem ndC_mk(b:Nat)(k:Int)(nm:ByteArray)(i:Int)(s:Sm)(l:List Tm):ndC b (.mk k nm i s l) =
 if k=1 then (if i=0/\l.length=0 then (if vY nm=true then (if smF s=0 then 0 else 12)else 10)else 5)
 else if k=2 then (if nm=⟨#[]⟩/\My s/\l.length=0 then (if i<0\/(b:Int)<=i then 15 else 0)else 5)
 else if k=3 then (if nm=⟨#[]⟩/\i=0/\l.length=1 then (if smF s=0 then 0 else 12)else 5)
 else if k=4 then (if nm=⟨#[]⟩/\i=0/\My s/\l.length=2 then 0 else 5)
 else 4:=rfl
def inB(t:Tm)(b:Nat):Nat:=if t.kind=3 then b+1 else b
mutual
def twk:Tm->Nat->Nat->Nat->Nat×Fl
 | .mk k nm i s l,d,b,n=>if 200<n+1\/40<d then (n+1,(1,(n:Int)))else if ndC b (.mk k nm i s l)=0 then Z5 l (d+1) (inB (.mk k nm i s l) b) (n+1)else (n+1,(ndC b (.mk k nm i s l),(n:Int)))
def Z5:List Tm->Nat->Nat->Nat->Nat×Fl
 | [],_,_,n=>(n,(0,0))
 | x::r,d,b,n=>if (twk x d b n).2.1=0 then Z5 r d b (twk x d b n).1 else twk x d b n
end
theorem Jk(t:Tm)(d b n:Nat):twk t d b n=if 200<n+1\/40<d then (n+1,(1,(n:Int)))else if ndC b t=0 then Z5 t.args (d+1) (inB t b) (n+1)else (n+1,(ndC b t,(n:Int))):=by
 cases t;rw[twk];rfl
def tst:List (Tm×Nat×Nat)->Nat->Nat×Fl
 | [],n=>(n,(0,0))
 | x::r,n=>if (twk x.1 x.2.1 x.2.2 n).2.1=0 then tst r (twk x.1 x.2.1 x.2.2 n).1 else twk x.1 x.2.1 x.2.2 n
theorem twks_st(d b:Nat):∀(l:List Tm) (n:Nat),Z5 l d b n=tst (l.map (fun y=>(y,d,b))) n
 | [],_=>by rw[Z5];rfl
 | x::r,n=>by
  rw[Z5,twks_st d b r];rfl
theorem tst_app:∀(l r:List (Tm×Nat×Nat)) (n:Nat),tst (l++r) n=if (tst l n).2.1=0 then tst r (tst l n).1 else tst l n
 | [],_,_=>rfl
 | x::l,r,n=>by
  show (if (twk x.1 x.2.1 x.2.2 n).2.1=0 then tst (l++r) (twk x.1 x.2.1 x.2.2 n).1 else twk x.1 x.2.1 x.2.2 n)=_
  rw[tst_app l r]
  grind[twk,tst]
theorem tst_out{t:Tm}{r:List (Tm×Nat×Nat)}(h:200<n+1\/40<d):tst ((t,d,b)::r) n=(n+1,(1,(n:Int))):=by
 have e:twk t d b n=(n+1,(1,(n:Int))):=by rw[Jk,if_pos h]
 show (if (twk t d b n).2.1=0 then _ else twk t d b n)=_;rw[e];rfl
theorem tst_bad{t:Tm}{r:List (Tm×Nat×Nat)}(h:¬(200<n+1\/40<d))(ho:ndC b t≠0):tst ((t,d,b)::r) n=(n+1,(ndC b t,(n:Int))):=by
 have e:twk t d b n=(n+1,(ndC b t,(n:Int))):=by rw[Jk,if_neg h,if_neg ho]
 show (if (twk t d b n).2.1=0 then _ else twk t d b n)=_;rw[e,if_neg ho]
theorem twks_z:∀(l:List Tm) (d b n:Nat),(Z5 l d b n).2.1=0->(Z5 l d b n).2=(0,0)
 | [],_,_,_,_=>by rw[Z5]
 | .mk k nm i s a::r,d,b,n,h=>by
  rw[Z5]at h ⊢
  by_cases h1:(twk (.mk k nm i s a) d b n).2.1=0
  ·rw[if_pos h1]at h ⊢;exact twks_z r d b _ h
  ·grind
theorem twk_z{t:Tm}(h:(twk t d b n).2.1=0):(twk t d b n).2=(0,0):=by
 grind[Jk,h1,ndC,twks_z]
theorem tst_go{t:Tm}{r:List (Tm×Nat×Nat)}(h:¬(200<n+1\/40<d))(ho:ndC b t=0):tst ((t,d,b)::r) n=tst (t.args.map (fun y=>(y,d+1,inB t b))++r) (n+1):=by
 have e:twk t d b n=tst (t.args.map (fun y=>(y,d+1,inB t b))) (n+1):=by rw[Jk,if_neg h,if_pos ho,twks_st]
 rw[tst_app,<- e];rfl
theorem tst_one(t:Tm)(d b n:Nat):tst [(t,d,b)] n=twk t d b n:=by
 show (if (twk t d b n).2.1=0 then ((twk t d b n).1,(0,0))else twk t d b n)=_;by_cases h:(twk t d b n).2.1=0
 ·rw[if_pos h,<- twk_z h]
 ·rw[if_neg h]
inductive Tv where
 | con (nm:ByteArray) (τ:Ts)
 | var (i:Nat)
 | abs (τ:Ts) (x:Tv)
 | app (x y:Tv)
def smZ:Sm:= .mk ⟨#[]⟩ []
def Tv.tm:Tv->Tm
 | .con nm τ=> .mk 1 nm 0 τ.sm []
 | .var i=> .mk 2 ⟨#[]⟩ i smZ []
 | .abs τ x=> .mk 3 ⟨#[]⟩ 0 τ.sm [x.tm]
 | .app x y=> .mk 4 ⟨#[]⟩ 0 smZ [x.tm,y.tm]
def Tv.size:Tv->Nat
 | .con _ _=>1
 | .var _=>1
 | .abs _ x=>x.size+1
 | .app x y=>x.size+y.size+1
theorem Tv.pos(v:Tv):0<v.size:=by cases v<;>simp[Tv.size]
def Tv.ok:Nat->Tv->Prop
 | _,.con _ τ=>τ.size<=200
 | b,.var i=>i<b
 | b,.abs τ x=>τ.size<=200/\x.ok (b+1)
 | b,.app x y=>x.ok b/\y.ok b
theorem smNo_z{s:Sm}(h:My s):s=smZ:=by
 rw[Sm.eta s,h.1,List.length_eq_zero_iff.1 h.2];rfl
theorem nil_of{α:Type}{l:List α}(h:l.length=0):l= []:=aM.1 h
mutual
theorem OV:∀(t:Tm) (d b n:Nat),(twk t d b n).2.1=0->∃ v:Tv,t=v.tm/\v.ok b/\(twk t d b n).1=n+v.size/\n+v.size<=200
 | .mk k nm i s l,d,b,n,h=>by
  rw[twk]at h ⊢
  by_cases h1:200<n+1\/40<d
  ·rw[if_pos h1]at h;cases h
  rw[if_neg h1]at h ⊢
  by_cases h2:ndC b (.mk k nm i s l)=0
  ·rw[if_pos h2]at h ⊢
   obtain⟨vs,e1,e0,e2,e3⟩:=twks_tv l (d+1) (inB (.mk k nm i s l) b) (n+1) h oG
   rw[e2]
   rw[ndC_mk]at h2
   by_cases k1:k=1
   ·subst k1
    rw[if_pos rfl]at h2
    by_cases q:i=0/\l.length=0
    ·rw[if_pos q]at h2
     obtain⟨rfl,q2⟩:=q
     obtain rfl:=nil_of q2
     by_cases q3:vY nm=true
     ·rw[if_pos q3]at h2
      by_cases q4:smF s=0
      ·obtain⟨τ,rfl,hτ⟩:=smF_ts q4
       obtain rfl:vs= []:=by cases vs with|nil=>rfl|cons a r=>cases e1
       exact⟨.con nm τ,rfl,hτ,by simp[Tv.size],by simp[Tv.size];omega⟩
      ·rw[if_neg q4]at h2;cases h2
     ·rw[if_neg q3]at h2;cases h2
    ·rw[if_neg q]at h2;cases h2
   rw[if_neg k1]at h2
   by_cases k2:k=2
   ·subst k2
    rw[if_pos rfl]at h2
    by_cases q:nm=⟨#[]⟩/\My s/\l.length=0
    ·rw[if_pos q]at h2
     obtain⟨rfl,qs,q2⟩:=q
     obtain rfl:=nil_of q2
     obtain rfl:=smNo_z qs
     by_cases q3:i<0\/(b:Int)<=i
     ·rw[if_pos q3]at h2;cases h2
     ·obtain⟨j,rfl⟩:∃ j:Nat,i=j:=⟨i.toNat,by omega⟩
      obtain rfl:vs= []:=by cases vs with|nil=>rfl|cons a r=>cases e1
      exact⟨.var j,rfl,show j<b by omega,by simp[Tv.size],by simp[Tv.size];omega⟩
    ·rw[if_neg q]at h2;cases h2
   rw[if_neg k2]at h2
   by_cases k3:k=3
   ·subst k3
    rw[if_pos rfl]at h2
    by_cases q:nm=⟨#[]⟩/\i=0/\l.length=1
    ·rw[if_pos q]at h2
     obtain⟨rfl,rfl,q2⟩:=q
     by_cases q4:smF s=0
     ·obtain⟨τ,rfl,hτ⟩:=smF_ts q4
      match l,vs,e1,q2 with
      | [x],[v],e1,_=>
       simp only[List.map_cons,List.map_nil,List.cons.injEq,and_true]at e1
       simp only[List.map_cons,List.map_nil,List.sum_cons,List.sum_nil]at e3 ⊢
       have eb:=e0 v (ar.2 rfl)
       have a1:inB (.mk 3 ⟨#[]⟩ 0 τ.sm [x]) b=b+1:=rfl
       rw[a1]at eb
       exact⟨.abs τ v,by rw[e1];rfl,⟨hτ,eb⟩,by simp only[Tv.size];omega,by simp only[Tv.size];omega⟩
     ·rw[if_neg q4]at h2;cases h2
    ·rw[if_neg q]at h2;cases h2
   rw[if_neg k3]at h2
   by_cases k4:k=4
   ·subst k4
    rw[if_pos rfl]at h2
    by_cases q:nm=⟨#[]⟩/\i=0/\My s/\l.length=2
    ·obtain⟨rfl,rfl,qs,q2⟩:=q
     obtain rfl:=smNo_z qs
     match l,vs,e1,q2 with
     | [x,y],[v,u],e1,_=>
      simp only[List.map_cons,List.map_nil,List.cons.injEq,and_true]at e1
      simp only[List.map_cons,List.map_nil,List.sum_cons,List.sum_nil]at e3 ⊢
      have eb:=e0 v (by simp)
      have eu:=e0 u (by simp)
      have a1:inB (.mk 4 ⟨#[]⟩ 0 smZ [x,y]) b=b:=rfl
      rw[a1]at eb eu
      exact⟨.app v u,by rw[e1.1,e1.2];rfl,⟨eb,eu⟩,by simp only[Tv.size];omega,by simp only[Tv.size];omega⟩
    ·rw[if_neg q]at h2;cases h2
   ·rw[if_neg k4]at h2;cases h2
  ·rw[if_neg h2]at h;exact absurd h h2
theorem twks_tv:∀(l:List Tm) (d b n:Nat),(Z5 l d b n).2.1=0->n<=200->∃ vs:List Tv,l=vs.map Tv.tm/\(∀ v∈vs,v.ok b)/\(Z5 l d b n).1=n+(vs.map Tv.size).sum/\n+(vs.map Tv.size).sum<=200
 | [],d,b,n,_,hn=>⟨[],rfl,(fun _ h=>by cases h),(by rw[Z5];rfl),hn⟩
 | x::r,d,b,n,h,hn=>by
  rw[Z5]at h ⊢
  by_cases h1:(twk x d b n).2.1=0
  ·rw[if_pos h1]at h ⊢
   obtain⟨v,e1,e0,e2,e3⟩:=OV x d b n h1
   rw[e2]at h ⊢
   obtain⟨vs,k1,k0,k2,k3⟩:=twks_tv r d b (n+v.size) h e3
   refine⟨v::vs,by rw[e1,k1];rfl,fun u hu=>?_,by rw[k2];simp;omega,by simp;omega⟩
   rcases av.1 hu with rfl|hu
   ·exact e0
   ·exact k0 u hu
  ·rw[if_neg h1]at h;exact absurd h h1
end
theorem Tv.tm_inj:∀ {a b:Tv},a.tm=b.tm->a=b
 | .con n s,.con m t,h=>by
  grind[Tv.tm,Ts.sm_inj]
 | .var i,.var j,h=>by
  grind[Tv.tm]
 | .abs s x,.abs t y,h=>by
  simp only[Tv.tm,Tm.mk.injEq,List.cons.injEq,and_true,true_and]at h
  rw[Ts.sm_inj h.1,Tv.tm_inj h.2]
 | .app x y,.app u v,h=>by
  simp only[Tv.tm,Tm.mk.injEq,List.cons.injEq,and_true,true_and]at h
  rw[Tv.tm_inj h.1,Tv.tm_inj h.2]
 | .con _ _,.var _,h=>by simp[Tv.tm]at h
 | .con _ _,.abs _ _,h=>by simp[Tv.tm]at h
 | .con _ _,.app _ _,h=>by simp[Tv.tm]at h
 | .var _,.con _ _,h=>by simp[Tv.tm]at h
 | .var _,.abs _ _,h=>by simp[Tv.tm]at h
 | .var _,.app _ _,h=>by simp[Tv.tm]at h
 | .abs _ _,.con _ _,h=>by simp[Tv.tm]at h
 | .abs _ _,.var _,h=>by simp[Tv.tm]at h
 | .abs _ _,.app _ _,h=>by simp[Tv.tm]at h
 | .app _ _,.con _ _,h=>by simp[Tv.tm]at h
 | .app _ _,.var _,h=>by simp[Tv.tm]at h
 | .app _ _,.abs _ _,h=>by simp[Tv.tm]at h
def tyv:List Ts->Tv->Option Ts
 | _,.con _ τ=>some τ
 | Γ,.var i=>Γ[i]?
 | Γ,.abs τ x=>(tyv (τ::Γ) x).map (.f τ)
 | Γ,.app x y=>match tyv Γ x,tyv Γ y with
  | some (.f a r),some z=>if a.eqb z=true then some r else none
  | _,_=>none
theorem CX:∀ {v:Tv} {Γ:List Ts} {τ:Ts},v.ok Γ.length->(∀ σ∈Γ,σ.size<=200)->tyv Γ v=some τ->τ.size<=201*v.size
 | .con _ τ,Γ,τ',h,_,e=>by
  obtain rfl:τ=τ':=Option.some.inj e
  have:τ.size<=200:=h
  simp only[Tv.size];omega
 | .var i,Γ,τ,h,hG,e=>by
  have:=hG τ (List.mem_of_getElem? e)
  simp only[Tv.size];omega
 | .abs σ x,Γ,τ,h,hG,e=>by
  simp only[tyv,Option.map_eq_some_iff]at e
  obtain⟨ρ,e1,rfl⟩:=e
  have h1:=CX (v:=x) (Γ:=σ::Γ) h.2 (fun q hq=>by
   rcases av.1 hq with rfl|hq
   ·exact h.1
   ·exact hG q hq) e1
  have:=h.1
  simp only[Tv.size,Ts.size];omega
 | .app x y,Γ,τ,h,hG,e=>by
  simp only[tyv]at e
  split at e
  ·rename_i a r z h1 h2
   split at e
   ·obtain rfl:r=τ:=Option.some.inj e
    have h3:=CX (v:=x) h.1 hG h1
    simp only[Tv.size,Ts.size]at h3 ⊢;omega
   ·cases e
  ·cases e
open Classical in
noncomputable def tmF(t:Tm):Fl:=if (twk t 1 0 0).2.1=0 then (if ∃ v τ,t=Tv.tm v/\tyv [] v=some τ then (0,0)else (12,-1))else (twk t 1 0 0).2
theorem NV{t:Tm}(h:¬(twk t 1 0 0).2.1=0):tmF t=(twk t 1 0 0).2:=by unfold tmF;rw[if_neg h]
theorem tmF_ok{v:Tv}(h:(twk v.tm 1 0 0).2.1=0):tmF v.tm=if (tyv [] v).isSome then (0,0)else (12,-1):=by
 unfold tmF;rw[if_pos h];cases e:tyv [] v with
 | none=>
  grind[h1,Tv.tm_inj]
 | some τ=>rw[if_pos ⟨v,τ,rfl,e⟩];rfl
def j6(l:List Ty)(i:Nat):Int:=match l[i]? with
 | none=>0
 | some t=>if vY t.name=false then 10 else if seen ((l.take i).map (·.name)) t.name=true then 7 else if (decide (i=0)==t.par.isEmpty)=false then 5 else kj i (-1) t.par
def xk(l:List Ty):Fl:=if l.length=0\/60<l.length then (2,-1)else yX (j6 l) 0 l.length
theorem O5(xs:List Int):decide ((xs.length:Int)=0)=xs.isEmpty:=by cases xs<;>simp;omega
theorem mal_yes{xs:List Int}(h:(!(decide ((k:Int)=0)==decide ((xs.length:Int)=0)))=true):(decide (k=0)==xs.isEmpty)=false:=by
 rw[O5]at h
 simpa using h
theorem mal_no{xs:List Int}(h:(!(decide ((k:Int)=0)==decide ((xs.length:Int)=0)))=false):(decide (k=0)==xs.isEmpty)=true:=by
 rw[O5]at h
 simpa using h
theorem ty10(l:List Ty)(k:Nat)(hlt:k<l.length)(h1:vY l[k].name=false):j6 l k=10:=by
 simp only[j6,List.getElem?_eq_getElem hlt,h1,if_true]
theorem ty7(l:List Ty)(k:Nat)(hlt:k<l.length)(h1:vY l[k].name=true)(h2:seen ((l.take k).map (·.name)) l[k].name=true):j6 l k=7:=by
 simp only[j6,List.getElem?_eq_getElem hlt,h1,h2,if_true];rfl
theorem ty5(l:List Ty)(k:Nat)(hlt:k<l.length)(h1:vY l[k].name=true)(h2:seen ((l.take k).map (·.name)) l[k].name=false)(h3:(decide (k=0)==l[k].par.isEmpty)=false):j6 l k=5:=by
 simp only[j6,List.getElem?_eq_getElem hlt,h1,h2,h3,if_true];rfl
theorem FW(l:List Ty)(k:Nat)(hlt:k<l.length)(h1:vY l[k].name=true)(h2:seen ((l.take k).map (·.name)) l[k].name=false)(h3:(decide (k=0)==l[k].par.isEmpty)=true):j6 l k=kj k (-1) (l[k].par.drop 0):=by
 simp only[j6,List.getElem?_eq_getElem hlt,h1,h2,h3,List.drop_zero];rfl
theorem Gy:(prog.info? 102).map (·.size)=some 2:=by kernel_rfl
theorem sz3:(prog.info? 3).map (·.size)=some 1:=by kernel_rfl
theorem ze102:(prog.info? 102).map (·.zero)=some (some (.agg #[.string ⟨#[]⟩,.slice none 0 0])):=by kernel_rfl
theorem ze3:(prog.info? 3).map (·.zero)=some (some (.int .i64 0)):=by kernel_rfl
theorem types_any(A:Option Addr)(c:Nat)(l:List Ty)(w:World)(hT:TypesIn w A l):Calls prog 87 #[.slice A l.length c] w fun e w'=>e= .returned (flV (xk l))/\Bel w w':=by
 refine enT func87 ntmps87 rfl rfl fun hB=>?_;refine zn2 ?_;refine qQ (cs:=#[.int .i64 0,.int .i64 0]) ze45 rfl (fun b2 w1 a1 s1 hr=>?_);have lo2:=hB.ob hr;refine zn4 ?_;replace hB:=hB.tr0 s1;refine xj (rg [] 11 8) 18 (.bool (decide (l.length=0\/60<l.length))) nu ?_ (fun gq=>?_)
 ·refine zn5 ?_;refine zk 14 rfl (fun g14=>?_) (fun g14=>?_)
  ·refine zn4 ?_;exact xq
  refine zn7 ?_;exact xq
 refine e_S ?_;refine zZ rfl (fun ba=>?_) (fun ba=>?_)
 ·refine zn2 ?_;refine a7 kR (uZ _ _ _) rfl (fun w2 s2=>?_);refine zV a1.u (fun w3 hq s3=>?_);replace a1:=hq;refine zn4 ?_;refine xK (.inl rfl) rfl (zX U45 rfl rfl a1.range0 N2) ?_;replace hB:=(hB.tr0 s2).tr1 s3 lo2;exact⟨xX (by simp only[xk,if_pos ba]),hB⟩
 have hR:=Lib.hid (show xk l=yX (j6 l) 0 (l.length-0) by simp only[xk,if_neg ba,Nat.sub_zero]);refine zn4 ?_;refine wl_mm (fun b20 w4 a3 s4 hr=>?_);have:=nLL a1.lt hr;have an:=hB.ob hr;refine wl (oz (v:= .map _) rfl) (vJ ?_);refine qz [4,5,6,7,8,10,23,24,25,26,27,28,29,30,31,32,33,34,35,36,37,38,39,40,41,42,43,44,45,46,47,48,49,50,51,52,53,54,55,56,57,58,59,60,61,62,63,64,65,66,67,68,69,70,71,72,73,74,75,76,77,78,79,80] (fun m g w'=>∃(k:Nat) (mp:List (ByteArray×Value)),k<=l.length/\m=l.length-k/\g 23= .int .i64 k/\Bel w w'/\Blk w' b2 45 #[.int .i64 0,.int .i64 0]/\MapS w' b20 mp/\(∀ s,lkB mp s=seen ((l.take k).map (·.name)) s)/\xk l=yX (j6 l) k (l.length-k)) (l.length) ?_ (fun m g5 w5 hI=>?_)
 ·exact⟨0,[],ah _,rfl,rfl,hB.u,a1.u,a3,fun s=>rfl,hR.out⟩
 obtain⟨k,mp,hk,hm,h23,hB,a1,a3,b4,a8⟩:=hI;refine zQ 23 _ h23 nu (zn6 ?_);refine zZ rfl (fun c24=>?_) (fun c24=>?_)
 ·have a2:k<l.length:=by omega
  obtain⟨tb,to,A',cp,rfl,htb,htr,a9⟩:=hT.at_ hB a2;refine zn8 ?_;refine wl (qw L9 rfl rfl htr Gy) ?_;refine qQ (cs:=#[.string ⟨#[]⟩,.slice none 0 0]) ze102 rfl (fun b5 w6 hb5 s5 hr=>?_);have:=nLL a1.lt hr;have:=nLL a3.lt hr;have lo5:=hB.ob hr;refine waI rfl ?_;refine zV hb5 (fun w7 hq s6=>?_);replace hb5:=hq;refine zn7 ?_;refine zW kR (EY _ _) rfl (fun e' w8 hr=>?_);obtain⟨rfl,rfl⟩:=hr;refine⟨_,rfl,?_⟩;refine zn3 ?_;refine jv rfl (fun b9=>?_) (fun b9=>?_)
  ·have a4:=ty10 l k a2 (by simpa using b9);refine zn3 ?_;refine a7 kR (uZ _ _ _) rfl (fun w9 s7=>?_);refine zV a1.u (fun w10 hq s8=>?_);replace a1:=hq;refine zn9 ?_;refine xK (.inl rfl) rfl (zX U45 rfl rfl a1.range0 N2) ?_;exact⟨xX (a8.trans (xZ (c:=10) oG a4 dE)),hB.u⟩
  have b1:vY (l[k]'a2).name=true:=by simpa using b9
  refine zn5 ?_;refine wl (x6 (v:= .map _) rfl) (zn2 ?_);replace a3:=(a3.tr0 s5).tr1 s6 oG;refine wl (r_lkS a3 U142 U9 ze3 rfl rfl) (wmT rfl (wl (yW (v:=_) rfl rfl) (wl (yW (v:= .bool _) rfl rfl) (wl (oz (v:=_) rfl) (zn8 ?_)))));refine jv rfl (fun ad=>?_) (fun ad=>?_)
  ·have a4:=ty7 l k a2 b1 ((b4 _).symm.trans ad);refine zn3 ?_;refine a7 kR (uZ _ _ _) rfl (fun w11 s9=>?_);refine zV a1.u (fun w12 hq s10=>?_);replace a1:=hq;refine zn9 ?_;refine xK (.inl rfl) rfl (zX U45 rfl rfl a1.range0 N2) ?_;exact⟨xX (a8.trans (xZ (c:=7) oG a4 dE)),hB.u⟩
  have hsn:seen ((l.take k).map (·.name)) (l[k]'a2).name=false:=by rw[<- b4];exact ad
  have b3:∀ s,lkB (Bv mp (l[k]'a2).name (.int .i64 k)) s=seen ((l.take (k+1)).map (·.name)) s:=fun s=>by
    rw[QW _ _ _ ad,XJ l a2,List.map_append,List.map_cons,List.map_nil,M7,<- b4];simp[lkB]
  refine zn4 ?_;refine wl (x6 (v:= .map _) rfl) (zn3 ?_);refine wl_muS (v:= .int _ _) a3 U142 U9 rfl rfl rfl (fun w13 hq s11=>?_);replace a3:=hq;refine vJ ?_;refine wl (WY U4 rfl rfl) (qY (e_S ?_));refine jv rfl (fun b8=>?_) (fun b8=>?_)
  ·have a4:=ty5 l k a2 b1 hsn (mal_yes b8);refine zn3 ?_;refine a7 kR (uZ _ _ _) rfl (fun w14 s12=>?_);refine zV a1.u (fun w15 hq s13=>?_);replace a1:=hq;refine zn9 ?_;refine xK (.inl rfl) rfl (zX U45 rfl rfl a1.range0 N2) ?_;exact⟨xX (a8.trans (xZ (c:=5) oG a4 dE)),hB.u⟩
  have b6:=mal_no b8;refine Jq ?_;refine qz (rg [8,10] 60 20) (fun m g w'=>∃(j:Nat) (a5:Int),j<=(l[k]'a2).par.length/\m=(l[k]'a2).par.length-j/\g 60= .int .i64 j/\g 8= .int .i64 a5/\w13=w'/\j6 l k=kj k a5 ((l[k]'a2).par.drop j)) ((l[k]'a2).par.length) ?_ (fun m g17 w16 hI=>?_)
  ·exact⟨0,-1,ah _,rfl,rfl,rfl,rfl,FW l k a2 b1 hsn b6⟩
  obtain⟨j,a5,hj,hmj,h60,h8,rfl,hP⟩:=hI;refine zQ 60 _ h60 nu (zQ 8 _ h8 nu (zn6 ?_));refine zZ rfl (fun c61=>?_) (fun c61=>?_)
  ·have ab:j<(l[k]'a2).par.length:=by omega
   have hmx:=a9.1;unfold vX at hmx;obtain⟨pb,po,rfl,hpb,ao⟩:=a9.at_ ab;replace hB:=((hB.tr0 s5).tr1 s6 lo5).tr1 s11 an;replace ao:=hB.cell hpb ao;refine zn7 ?_;refine wl (qj (v:= .int _ _) U3 rfl rfl ao) (zn5 ?_);replace a1:=((a1.tr0 s5).tr1 s6 oG).tr1 s11 oG;refine xj [64,65,66,67,68,69,70] 70 (.bool (decide ((l[k]'a2).par[j]<0\/(k:Int)<=(l[k]'a2).par[j]))) nu ?_ (fun gq=>?_)
   ·refine zn4 ?_;refine zk 66 rfl (fun g66=>?_) (fun g66=>?_)
    ·refine zn4 ?_;exact xq
    refine zn7 ?_;exact xq
   refine e_S ?_;refine zZ rfl (fun ac=>?_) (fun ac=>?_)
   ·have a4:j6 l k=3:=by rw[hP,List.drop_eq_getElem_cons ab];simp only[kj,if_pos ac]
    refine zn3 ?_;refine a7 kR (uZ _ _ _) rfl (fun w17 s14=>?_);refine zV a1.u (fun w18 hq s15=>?_);replace a1:=hq;refine uJ ?_;refine xK (.inl rfl) rfl (zX U45 rfl rfl a1.range0 N2) ?_;exact⟨xX (a8.trans (xZ (c:=3) oG a4 dE)),hB.u⟩
   refine yj ?_;refine zZ rfl (fun b7=>?_) (fun b7=>?_)
   ·have a4:j6 l k=13:=by rw[hP,List.drop_eq_getElem_cons ab];simp only[kj,if_neg ac,if_pos b7]
    refine zn3 ?_;refine a7 kR (uZ _ _ _) rfl (fun w19 s16=>?_);refine zV a1.u (fun w20 hq s17=>?_);replace a1:=hq;refine uJ ?_;refine xK (.inl rfl) rfl (zX U45 rfl rfl a1.range0 N2) ?_;exact⟨xX (a8.trans (xZ (c:=13) oG a4 dE)),hB.u⟩
   have hP':j6 l k=kj k (l[k]'a2).par[j] ((l[k]'a2).par.drop (j+1)):=by rw[hP,List.drop_eq_getElem_cons ab];simp only[kj,if_neg ac,if_neg b7]
   refine yZ ?_;refine x9 ((l[k]'a2).par.length-(j+1)) oG agA ?_;exact⟨j+1,(l[k]'a2).par[j],by omega,rfl,rfl,rfl,rfl,hP'⟩
  have a4:=Lib.hid (show j6 l k=0 by rw[hP,List.drop_eq_nil_of_le oG];rfl);refine yj ?_;refine x9 (l.length-(k+1)) oG agA ?_;exact⟨k+1,Bv mp (l[k]'a2).name (.int .i64 k),by omega,rfl,rfl,hB.u,a1.u,a3,b3,a8.trans (kZ a2 a4.out)⟩
 refine zn7 ?_;refine jW (cs:=#[.int .i64 0,.int .i64 0]) ?_;refine zV a1 (fun w21 hq s18=>?_);replace a1:=hq;refine zn3 ?_;refine xK (.inl rfl) rfl (zX U45 rfl rfl a1.range0 N2) ?_;exact⟨xX (a8.trans (uk oG)),hB.u⟩
theorem seen_yes{j:Nat}{s:ByteArray}(hk:k<l.length)(hj:j<k)(h:(l[j]'oG).name=s):seen ((l.take k).map (·.name)) s=true:=by
 simp only[seen,List.any_eq_true,decide_eq_true_eq,List.mem_map];refine⟨_,⟨l[j]'oG,?_,rfl⟩,h⟩;rw[List.mem_take_iff_getElem];exact⟨j,by omega,rfl⟩
theorem P7(s:ByteArray)(w:World):Calls prog 33 #[.string s] w fun e w'=>e= .returned (.bool (vY s))/\Bel w w':=by
 obtain⟨c0,e0⟩:=hd_num s;have hN:=Lib.hid (PX s c0 e0);refine enT func33 ntmps33 rfl rfl fun hB=>?_;refine zn7 ?_;refine xj (rg [] 7 8) 14 (.bool (decide (s.size<1\/30<s.size))) nu ?_ (fun gq=>?_)
 ·refine zn5 ?_;refine zk 10 rfl (fun g10=>?_) (fun g10=>?_)
  ·refine zn4 ?_;exact xq
  refine zn7 ?_;exact xq
 refine e_S ?_;refine zZ rfl (fun c14=>?_) (fun c14=>?_)
 ·refine zn8 ?_;exact⟨jQ (by rw[hN.out];exact ap (fun h=>by omega)),hB⟩
 refine zn6 ?_;refine wl_cvB U9 underlying114 U5 rfl (fun b16 c16 w1 a3 s1 hr=>?_);refine zn5 ?_;refine qz (rg (rg [] 2 5) 18 36) (fun m g w'=>∃ k:Nat,k<=s.size/\m=s.size-k/\g 18= .int .i64 k/\w1=w'/\(0<k->97<=c0/\c0<=122)/\(∀ j (hj:j<s.size),j<k->Q6 (s[j]'hj)=true)) (s.size) ?_ (fun m g4 w2 hI=>?_)
 ·exact⟨0,ah _,rfl,rfl,rfl,fun h=>by omega,fun j hj h=>by omega⟩
 obtain⟨k,hk,hm,h18,rfl,hz,a2⟩:=hI;refine zQ 18 _ h18 nu (zn6 ?_);refine zZ rfl (fun c19=>?_) (fun c19=>?_)
 ·refine zn8 ?_;refine wl (qj (v:= .int _ _) U5 rfl rfl (a3 k oG)) (zn5 ?_);refine xj [5,23,24,25,26,27,28] 5 (.bool (decide (97<=(s[k]'oG).toNat/\(s[k]'oG).toNat<=122))) nu ?_ (fun gq=>?_)
  ·refine zn4 ?_;refine zk 25 rfl (fun g25=>?_) (fun g25=>?_)
   ·refine zn6 ?_;exact xq
   refine zn4 ?_;exact xq
  refine e_S (xQ ?_);refine xj (rg [6] 29 14) 6 (.bool (decide ((48<=(s[k]'oG).toNat/\(s[k]'oG).toNat<=57)\/(s[k]'oG).toNat=95\/(s[k]'oG).toNat=45))) nu ?_ (fun gq=>?_)
  ·refine zn4 ?_;refine zk 31 rfl (fun g31=>?_) (fun g31=>?_)
   ·refine zn6 ?_;refine zk 35 rfl (fun g35=>?_) (fun g35=>?_)
    ·refine zn8 ?_;exact xq
    refine zn6 ?_;refine zk 39 rfl (fun a4=>?_) (fun a4=>?_)
    ·refine zn4 ?_;exact xq
    refine zn6 ?_;exact xq
   refine yj ?_;refine zk 39 rfl (fun a4=>?_) (fun a4=>?_)
   ·refine zn4 ?_;exact xq
   refine zn6 ?_;exact xq
  refine e_S (xQ ?_);refine xj (rg [] 43 10) 52 (.bool (decide (¬(97<=(s[k]'oG).toNat/\(s[k]'oG).toNat<=122)/\(¬((48<=(s[k]'oG).toNat/\(s[k]'oG).toNat<=57)\/(s[k]'oG).toNat=95\/(s[k]'oG).toNat=45)\/k=0)))) nu ?_ (fun gq=>?_)
  ·refine zn4 ?_;refine zk 45 rfl (fun g45=>?_) (fun g45=>?_)
   ·refine zn6 ?_;refine zk 48 rfl (fun g48=>?_) (fun g48=>?_)
    ·refine zn5 ?_;exact xq
    refine zn7 ?_;exact xq
   refine zn7 ?_;exact xq
  refine e_S ?_;refine zZ rfl (fun c52=>?_) (fun c52=>?_)
  ·have hno:¬((97<=c0/\c0<=122)/\∀ j (hj:j<s.size),Q6 (s[j]'hj)=true):=fun h=>by
     have h1:=(QZ _).1 (h.2 k oG);have h2:k=0:=by omega
     subst h2;have:=e0 oG;omega
   refine yZ ?_;replace hB:=hB.tr0 s1;exact⟨jQ (by rw[hN.out];exact ap (fun h=>hno h.2)),hB⟩
  have hz':97<=c0/\c0<=122:=by
    by_cases e:k=0
    · subst e;have:=e0 oG;omega
    · exact hz oG
  have a1:∀ j (hj:j<s.size),j<k+1->Q6 (s[j]'hj)=true:=fun j hj h=>by
    by_cases e:j=k
    · subst e;exact(QZ _).2 oG
    · exact a2 j hj oG
  refine zn7 ?_;refine x9 (s.size-(k+1)) oG agA ?_;exact⟨k+1,by omega,rfl,rfl,rfl,fun _=>hz',fun j hj h=>a1 j hj h⟩
 refine yZ ?_;replace hB:=hB.tr0 s1;exact⟨jQ (by rw[hN.out];exact aj ⟨by omega,hz oG,fun j hj=>a2 j hj oG⟩),hB⟩
theorem CJ(A:Option Addr)(c:Nat)(l:List Ty)(w:World)(hc:l.length<=c)(hT:TypesIn w A l):Calls prog 52 #[.slice A l.length c] w fun e w'=>e= .returned (flV (xk l))/\Bel w w':=by
 refine enT func52 ntmps52 rfl rfl fun hB=>?_;refine zn2 ?_;refine qQ (cs:=#[.int .i64 0,.int .i64 0]) ze45 rfl (fun b2 w1 a2 s1 hr=>?_);have lo2:=hB.ob hr;refine zn4 ?_;replace hB:=hB.tr0 s1;refine xj (rg [] 9 8) 16 (.bool (decide (l.length=0\/60<l.length))) nu ?_ (fun gq=>?_)
 ·refine zn5 ?_;refine zk 12 rfl (fun g12=>?_) (fun g12=>?_)
  ·refine zn4 ?_;exact xq
  refine zn7 ?_;exact xq
 refine e_S ?_;refine zZ rfl (fun bc=>?_) (fun bc=>?_)
 ·refine zn2 ?_;refine vy ?_;refine zV a2 (fun w2 hq s2=>?_);replace a2:=hq;refine zn4 ?_;refine xK (.inl rfl) rfl (zX U45 rfl rfl a2.range0 N2) ?_;replace hB:=hB.tr1 s2 lo2;exact⟨xX (by simp only[xk,if_pos bc]),hB⟩
 have hR:=Lib.hid (show xk l=yX (j6 l) 0 (l.length-0) by simp only[xk,if_neg bc,Nat.sub_zero]);refine vJ ?_;refine qz (rg [3,4,6,7,8] 20 69) (fun m g w'=>∃(k:Nat),k<=l.length/\m=l.length-k/\g 20= .int .i64 k/\Bel w w'/\Blk w' b2 45 #[.int .i64 0,.int .i64 0]/\xk l=yX (j6 l) k (l.length-k)) (l.length) ?_ (fun m g4 w3 hI=>?_)
 ·exact⟨0,ah _,rfl,rfl,hB,a2,hR.out⟩
 obtain⟨k,hk,hm,h20,hB,a2,a8⟩:=hI;refine zQ 20 _ h20 nu (zn6 ?_);refine zZ rfl (fun c21=>?_) (fun c21=>?_)
 ·have a1:k<l.length:=by omega
  obtain⟨tb,to,A',cp,rfl,htb,htr,a5⟩:=hT.at_ hB a1;refine zn8 ?_;refine wl (qw L9 rfl rfl htr Gy) ?_;refine qQ (cs:=#[.string ⟨#[]⟩,.slice none 0 0]) ze102 rfl (fun b4 w4 ab s3 hr=>?_);have:=a2.ob hr;have lo4:=hB.ob hr;refine waI rfl ?_;refine zV ab (fun w5 hq s4=>?_);replace ab:=hq;refine zn7 ?_;refine a7 kR (P7 _ _) rfl (fun w6 s5=>?_);refine zn3 ?_;refine jv rfl (fun bb=>?_) (fun bb=>?_)
  ·have a4:=ty10 l k a1 (by simpa using bb);refine zn3 ?_;refine vy ?_;refine zV a2.u (fun w7 hq s6=>?_);replace a2:=hq;refine zn9 ?_;refine xK (.inl rfl) rfl (zX U45 rfl rfl a2.range0 N2) ?_;exact⟨xX (a8.trans (xZ (c:=10) oG a4 dE)),hB.u⟩
  have b7:vY (l[k]'a1).name=true:=by simpa using bb
  refine zn7 ?_;refine wl (MX (h:=k) U22 Gy rfl rfl oG) (zn5 ?_);refine qz (rg [6] 35 12) (fun m g w'=>∃(j:Nat),j<=k/\m=k-j/\g 35= .int .i64 j/\Bel w w'/\Blk w' b2 45 #[.int .i64 0,.int .i64 0]/\Blk w' b4 102 #[.string (l[k]'a1).name,.slice A' (l[k]'a1).par.length cp]/\seen ((l.take j).map (·.name)) (l[k]'a1).name=false) (k) ?_ (fun m g9 w8 hI=>?_)
  ·exact⟨0,ah _,rfl,rfl,hB.u,a2.u,ab.u,rfl⟩
  obtain⟨j,hj,hmj,h35,hB,a2,ab,hse⟩:=hI;refine zQ 35 _ h35 nu (zn6 ?_);refine zZ rfl (fun c36=>?_) (fun c36=>?_)
  ·have hjt:j<l.length:=by omega
   obtain⟨ub,uo,B',cq,he,hub,hur,_⟩:=hT.at_ hB hjt;cases he;refine zn7 ?_;refine wl (qw L9 rfl rfl hur Gy) ?_;refine y8 (cs:=#[.string ⟨#[]⟩,.slice none 0 0]) ze102 rfl (fun _=>rfl) (fun _=>rfl) Gy rfl xW (fun b6 w10 hb6 s7 hr=>?_);refine vJ ?_;refine zZ rfl (fun ba=>?_) (fun ba=>?_)
   ·have a4:=ty7 l k a1 b7 (seen_yes a1 oG ba);refine zn3 ?_;refine vy ?_;refine zV a2.u (fun w11 hq s8=>?_);replace a2:=hq;refine uJ ?_;refine xK (.inl rfl) rfl (zX U45 rfl rfl a2.range0 N2) ?_;exact⟨xX (a8.trans (xZ (c:=7) oG a4 dE)),hB.u⟩
   have ao:seen ((l.take (j+1)).map (·.name)) (l[k]'a1).name=false:=by rw[XJ l hjt,List.map_append,List.map_cons,List.map_nil,M7,hse];simp[ba]
   refine zn7 ?_;refine x9 (k-(j+1)) oG agA ?_;exact⟨j+1,by omega,rfl,rfl,hB.u,a2.u,ab.u,ao⟩
  have hsn:seen ((l.take k).map (·.name)) (l[k]'a1).name=false:=by
    have e:k=j:=by omega
    subst e;exact hse
  refine QY ?_;refine wl (WY U4 rfl rfl) (qY (e_S ?_));refine jv rfl (fun b9=>?_) (fun b9=>?_)
  ·have a4:=ty5 l k a1 b7 hsn (mal_yes b9);refine zn3 ?_;refine vy ?_;refine zV a2 (fun w12 hq s9=>?_);replace a2:=hq;refine zn9 ?_;refine xK (.inl rfl) rfl (zX U45 rfl rfl a2.range0 N2) ?_;exact⟨xX (a8.trans (xZ (c:=5) oG a4 dE)),hB.u⟩
  have b8:=mal_no b9;refine vJ ?_;refine qz (rg [7,8] 59 29) (fun m g w'=>∃(j:Nat) (a3:Int),j<=(l[k]'a1).par.length/\m=(l[k]'a1).par.length-j/\g 59= .int .i64 j/\w8=w'/\(j=0->a3= -1)/\(∀ h:0<j/\j-1<(l[k]'a1).par.length,a3=((l[k]'a1).par[j-1]'h.2))/\j6 l k=kj k a3 ((l[k]'a1).par.drop j)) ((l[k]'a1).par.length) ?_ (fun m g17 w13 hI=>?_)
  ·exact⟨0,-1,ah _,rfl,rfl,rfl,fun _=>rfl,fun h=>by omega,FW l k a1 b7 hsn b8⟩
  obtain⟨j,a3,hj,hmj,h59,rfl,hl0,hl1,hP⟩:=hI;refine zQ 59 _ h59 nu (zn6 ?_);refine zZ rfl (fun c60=>?_) (fun c60=>?_)
  ·have ac:j<(l[k]'a1).par.length:=by omega
   have hmx:=a5.1;unfold vX at hmx;have a9:=a5;obtain⟨pb,po,rfl,hpb,b3⟩:=a5.at_ ac;replace b3:=hB.cell hpb b3;have hpd:∀ h:j-1<(l[k]'a1).par.length,w8.cell? ⟨pb,po+(j-1)*1,none⟩=some (.int .i64 ((l[k]'a1).par[j-1]'h)):=fun h=>by
     obtain⟨pb2,po2,he,b5,b1⟩:=a9.at_ h;cases he;exact hB.cell b5 b1
   refine zn8 ?_;refine wl (qj (v:= .int _ _) U3 rfl rfl b3) (zn6 ?_);refine xj [64,65,66,67,68,69,70] 70 (.bool (decide ((l[k]'a1).par[j]<0\/(k:Int)<=(l[k]'a1).par[j]))) nu ?_ (fun gq=>?_)
   ·refine zn4 ?_;refine zk 66 rfl (fun g66=>?_) (fun g66=>?_)
    ·refine zn4 ?_;exact xq
    refine zn7 ?_;exact xq
   refine e_S ?_;refine zZ rfl (fun an=>?_) (fun an=>?_)
   ·have a4:j6 l k=3:=by rw[hP,List.drop_eq_getElem_cons ac];simp only[kj,if_pos an]
    refine zn3 ?_;refine vy ?_;refine zV a2 (fun w14 hq s10=>?_);replace a2:=hq;refine uJ ?_;refine xK (.inl rfl) rfl (zX U45 rfl rfl a2.range0 N2) ?_;exact⟨xX (a8.trans (xZ (c:=3) oG a4 dE)),hB.u⟩
   refine zn3 ?_;refine xj (rg [] 73 12) 84 (.bool (decide (0<j/\(l[k]'a1).par[j]<=((l[k]'a1).par[j-1]'oG)))) nu ?_ (fun gq=>?_)
   ·refine zn4 ?_;refine zk 75 rfl (fun g75=>?_) (fun g75=>?_)
    ·refine zn9 ?_;refine wl (jJ (c:=((j-1:Nat):Int)) rfl rfl oG oG) (zn1 ?_);refine wl (x7 (i:=j-1) U62 sz3 rfl rfl oG rfl) (zn1 ?_);refine wl (qj (v:= .int _ _) U3 rfl rfl (hpd oG)) (zn3 ?_);exact xq
    refine zn9 ?_;exact xq
   refine e_S ?_;refine zZ rfl (fun ad=>?_) (fun ad=>?_)
   ·have a4:j6 l k=13:=by rw[hP,List.drop_eq_getElem_cons ac,hl1 ⟨ad.1,by omega⟩];simp only[kj,if_neg an,if_pos ad.2]
    refine zn3 ?_;refine vy ?_;refine zV a2 (fun w15 hq s11=>?_);replace a2:=hq;refine yZ ?_;refine xK (.inl rfl) rfl (zX U45 rfl rfl a2.range0 N2) ?_;exact⟨xX (a8.trans (xZ (c:=13) oG a4 dE)),hB.u⟩
   have hP':j6 l k=kj k (l[k]'a1).par[j] ((l[k]'a1).par.drop (j+1)):=by
     have hnl:¬(l[k]'a1).par[j]<=a3:=fun h=>by
      by_cases e:j=0
      ·have:=hl0 e;omega
      ·have:=hl1 ⟨by omega,by omega⟩;exact ad ⟨by omega,by omega⟩
     rw[hP,List.drop_eq_getElem_cons ac];simp only[kj,if_neg an,if_neg hnl]
   refine zn7 ?_;refine x9 ((l[k]'a1).par.length-(j+1)) oG agA ?_;exact⟨j+1,(l[k]'a1).par[j],by omega,rfl,rfl,rfl,fun h=>by omega,fun h=>rfl,hP'⟩
  have a4:=Lib.hid (show j6 l k=0 by rw[hP,List.drop_eq_nil_of_le oG];rfl);refine yj ?_;refine x9 (l.length-(k+1)) oG agA ?_;exact⟨k+1,by omega,rfl,rfl,hB,a2,a8.trans (kZ a1 a4.out)⟩
 refine zn7 ?_;refine jW (cs:=#[.int .i64 0,.int .i64 0]) ?_;refine zV a2 (fun w16 hq s12=>?_);replace a2:=hq;refine zn3 ?_;refine xK (.inl rfl) rfl (zX U45 rfl rfl a2.range0 N2) ?_;exact⟨xX (a8.trans (uk oG)),hB.u⟩
def Dw(l:List Ty)(i:Nat):List Nat:=match l[i]? with
 | none=>[]
 | some t=>t.par.map Int.toNat
def GJ(l:List Ty):Nat->Nat->Nat->Bool
 | 0,a,b=>decide (a=b)
 | f+1,a,b=>decide (a=b)||(Dw l a).any (fun p=>GJ l f p b)
def sub(l:List Ty)(a b:Nat):Bool:=GJ l a a b
def VT(l:List Ty):Prop:=∀ i (h:i<l.length),∀ p∈(l[i]).par,0<=p/\p<(i:Int)
theorem VT.par(h:VT l){p:Nat}(hp:p∈Dw l a):p<a:=by
 unfold Dw at hp;by_cases ha:a<l.length
 ·rw[List.getElem?_eq_getElem ha]at hp
  simp only[List.mem_map]at hp;obtain⟨q,hq,rfl⟩:=hp;have:=h a ha q hq;omega
 ·rw[List.getElem?_eq_none oG]at hp;cases hp
theorem T0{α:Type}{l:List α}{p q:α->Bool}(h:∀ x∈l,p x=q x):l.any p=l.any q:=by
 induction l with
 | nil=>rfl
 | cons a r ih=>
  simp only[List.any_cons];rw[h a (by simp),ih (fun x hx=>h x (by simp[hx]))]
theorem subF_fuel(hv:VT l)(b:Nat):∀(n a:Nat),a<=n->∀ f,a<=f->GJ l f a b=GJ l a a b:=by
 intro n
 induction n with
 | zero=>
  intro a ha f hf;have:a=0:=by omega
  subst this;have hp:Dw l 0= []:=by
   cases h:Dw l 0 with
   | nil=>rfl
   | cons p r=>exact absurd (hv.par (a:=0) (p:=p) (by rw[h];simp)) oG
  cases f<;>simp[GJ,hp]
 | succ n ih=>
  intro a ha f hf;cases a with
  | zero=>exact ih 0 oG f oG
  | succ a=>
   cases f with
   | zero=>omega
   | succ f=>
    simp only[GJ]
    congr 1
    apply T0
    intro p hp;have:=hv.par hp;rw[ih p oG f oG,ih p oG a oG]
theorem sub_eq(hv:VT l)(a b:Nat):sub l a b=(decide (a=b)||(Dw l a).any (fun p=>sub l p b)):=by
 unfold sub;cases a with
 | zero=>
  have hp:Dw l 0= []:=by
   cases h:Dw l 0 with
   | nil=>rfl
   | cons p r=>exact absurd (hv.par (a:=0) (p:=p) (by rw[h];simp)) oG
  simp[GJ,hp]
 | succ a=>
  conv=>lhs;unfold GJ
  congr 1
  apply T0
  intro p hp;have:=hv.par hp;rw[subF_fuel hv b (a+1) p oG a oG]
theorem Y8(hv:VT l)(a:Nat):sub l a a=true:=by rw[sub_eq hv];simp
theorem Jy(hv:VT l)(a b:Nat):sub l a b=true↔a=b\/∃ p∈Dw l a,sub l p b=true:=by
 rw[sub_eq hv];simp
theorem sub_le(hv:VT l):∀(n a b:Nat),a<=n->sub l a b=true->b<=a:=by
 intro n
 induction n with
 | zero=>
  intro a b ha h;rcases(Jy hv a b).1 h with rfl|⟨p,hp,_⟩
  ·omega
  ·have:=hv.par hp;omega
 | succ n ih=>
  intro a b ha h;rcases(Jy hv a b).1 h with rfl|⟨p,hp,hs⟩
  ·omega
  ·have:=hv.par hp
   have:=ih p b oG hs;omega
theorem E2(hv:VT l)(h:sub l a b=true):b<=a:=sub_le hv a a b (ai _) h
theorem sub_trans(hv:VT l)(c:Nat):∀(n a b:Nat),a<=n->sub l a b=true->sub l b c=true->sub l a c=true:=by
 intro n
 induction n with
 | zero=>
  intro a b ha h h2;rcases(Jy hv a b).1 h with rfl|⟨p,hp,_⟩
  ·exact h2
  ·have:=hv.par hp;omega
 | succ n ih=>
  intro a b ha h h2;rcases(Jy hv a b).1 h with rfl|⟨p,hp,hs⟩
  ·exact h2
  ·have:=hv.par hp
   exact(Jy hv a c).2 (.inr ⟨p,hp,ih p b oG hs h2⟩)
theorem Y7(hv:VT l){c:Nat}(h:sub l a b=true)(h2:sub l b c=true):sub l a c=true:=sub_trans hv c a a b (ai _) h h2
theorem sub_par(hv:VT l)(hi:i<l.length){p:Int}(hp:p∈(l[i]).par):sub l i p.toNat=true:=by
 refine(Jy hv i _).2 (.inr ⟨p.toNat,?_,Y8 hv _⟩);simp only[Dw,List.getElem?_eq_getElem hi,List.mem_map];exact⟨p,hp,rfl⟩
def Pz(ps:List Int)(x:Nat):Bool:=ps.any (fun p=>decide (p=(x:Int)))
theorem parB_iff(ps:List Int)(x:Nat):Pz ps x=true↔(x:Int)∈ps:=by simp[Pz]
theorem parB_snoc(ps:List Int){j:Nat}(hj:j<ps.length)(x:Nat):Pz (ps.take (j+1)) x=(Pz (ps.take j) x||decide (ps[j]=(x:Int))):=by
 simp only[Pz];rw[List.take_succ_eq_append_getElem hj,List.any_append];simp
structure Marks(l:List Ty)(a i:Nat)(mk:Nat->Bool):Prop where
 ok:∀ j,mk j=true->sub l a j=true
 all:∀ c,c<=i->sub l a c=true->∃ j,j<=i/\mk j=true/\sub l j c=true
theorem Marks.start(hv:VT l)(a:Nat):Marks l a a (fun j=>if j=a then true else false):=
 ⟨fun j h=>by
  by_cases e:j=a
  ·subst e;exact Y8 hv _
  ·simp[e]at h,fun c _ h=>⟨a,ai _,by simp,h⟩⟩
theorem Marks.yes(hv:VT l)(h:Marks l a i mk)(hi:i<l.length)(hm:mk i=true):Marks l a (i-1) (fun x=>mk x||Pz (l[i]).par x):=
 ⟨fun j hj=>by
  simp only[Bool.or_eq_true]at hj
  rcases hj with hj|hj
  ·exact h.ok j hj
  ·have:=sub_par hv hi ((parB_iff _ _).1 hj)
   simp only[Int.toNat_natCast]at this
   exact Y7 hv (h.ok i hm) this,fun c hc hs=>by
  by_cases hi0:i=0
  ·subst hi0
   obtain⟨j,hj,h1,h2⟩:=h.all c oG hs
   exact⟨j,by omega,by simp[h1],h2⟩
  obtain⟨j,hj,h1,h2⟩:=h.all c oG hs
  by_cases e:j=i
  ·subst e
   rcases(Jy hv j c).1 h2 with rfl|⟨p,hp,hps⟩
   ·omega
   ·have hlt:=hv.par hp
    refine⟨p,by omega,?_,hps⟩
    simp only[Dw,List.getElem?_eq_getElem hi,List.mem_map]at hp
    obtain⟨q,hq,rfl⟩:=hp
    have:=hv j hi q hq
    have hq':((q.toNat:Nat):Int)∈(l[j]).par:=by rw[Int.toNat_of_nonneg this.1];exact hq
    simp only[Bool.or_eq_true]
    exact .inr ((parB_iff _ _).2 hq')
  ·exact⟨j,by omega,by simp[h1],h2⟩⟩
theorem Marks.no(h:Marks l a i mk)(hm:mk i=false):Marks l a (i-1) mk:=
 ⟨h.ok,fun c hc hs=>by
  obtain⟨j,hj,h1,h2⟩:=h.all c oG hs
  by_cases e:j=i
  ·subst e;rw[hm]at h1;cases h1
  ·exact⟨j,by omega,h1,h2⟩⟩
theorem Marks.end_(hv:VT l)(h:Marks l a i mk)(hi:i<=b)(hb:b<=a->b<=i):mk b=sub l a b:=by
 cases hs:sub l a b
 ·cases hm:mk b
  ·rfl
  ·rw[h.ok b hm]at hs;cases hs
 ·have hle:=E2 hv hs
  have hib:i=b:=Nat.le_antisymm hi (hb hle);subst hib;obtain⟨j,hj,h1,h2⟩:=h.all i (ai _) hs;have:=E2 hv h2;have:j=i:=by omega
  subst this;exact h1
theorem in4:(Tryz.prog.info? 4).map (fun i=>(i.zero,i.size,i.bytes))=some (some (.bool false),1,1):=by kernel_rfl
theorem sz4:(Tryz.prog.info? 4).map (·.size)=some 1:=by kernel_rfl
theorem M3(A:Option Addr)(c:Nat)(l:List Ty)(a b:Nat)(w:World)(hT:TypesIn w A l)(hv:VT l)(h60:l.length<=60)(ha:a<l.length)(hb:b<l.length):Calls Tryz.prog 56 #[.slice A l.length c,.int .i64 a,.int .i64 b] w fun e w'=>e= .returned (.bool (sub l a b))/\Bel w w':=by
 have hmx:=hT.1;unfold vX at hmx;refine enT Tryz.func56 Tryz.ntmps56 rfl rfl fun hB=>?_;refine zn9 ?_;refine Y5 (m:=l.length) Kz in4 rfl rfl rfl oG hmx (fun an w1 a1 s1 hr=>?_);have lo13:=hB.ob hr;refine zn8 ?_;refine xx (v:= .bool _) a1 rfl rfl sz4 (by rw[row_size];omega) rfl kv (fun w2 hq s2=>?_);replace a1:=hq;refine zn4 ?_;have a8:Blk w2 an 4 (row l.length (fun j=> .bool (if j=a then true else false))):=by
   rw[show (row l.length (fun j=>Value.bool (if j=a then true else false)))=row l.length (fun j=>if j=a then Value.bool true else Value.bool false)from xy (fun j _=>by split<;>rfl)];exact a1
 refine zn6 ?_;refine qz (rg [8,10] 18 23) (fun m g w'=>∃(i:Nat) (mk:Nat->Bool),i<=a/\m=i/\g 8= .int .i64 i/\(b<=a->b<=i)/\Bel w w'/\Blk w' an 4 (row l.length (fun j=> .bool (mk j)))/\Marks l a i mk) (a) ?_ (fun m g4 w3 hI=>?_)
 ·exact⟨a,_,ai _,rfl,rfl,fun h=>h,hB.u,a8,Marks.start hv a⟩
 obtain⟨i,mk,hi,hm,h8,hbi,hB,a1,hM⟩:=hI;refine zQ 8 _ h8 nu (zn8 ?_);refine zZ rfl (fun c20=>?_) (fun c20=>?_)
 ·refine zn9 ?_;refine wl (qj (v:= .bool _) U4 rfl rfl (a1.cell (j5 oG))) (qY (e_S ?_));refine jv rfl (fun ad=>?_) (fun ad=>?_)
  ·have a2:i<l.length:=by omega
   obtain⟨tb,to,A',cp,rfl,htb,htr,a5⟩:=hT.at_ hB a2;have hpx:=a5.1;unfold vX at hpx;refine zn6 ?_;refine wl (qj (v:= .slice _ _ _) U62 rfl rfl (htr 1 _ rfl)) (zn5 ?_);refine qz (rg [10] 33 8) (fun m g w'=>∃(j:Nat),j<=(l[i]'a2).par.length/\m=(l[i]'a2).par.length-j/\g 33= .int .i64 j/\Bel w w'/\Blk w' an 4 (row l.length (fun x=> .bool (mk x||Pz ((l[i]'a2).par.take j) x)))) ((l[i]'a2).par.length) ?_ (fun m g8 w4 hI=>?_)
   ·refine⟨0,ah _,rfl,rfl,hB,?_⟩;rw[show (row l.length (fun x=>Value.bool (mk x||Pz ((l[i]'a2).par.take 0) x)))=row l.length (fun j=> .bool (mk j))from xy (fun x _=>by simp[Pz])];exact a1
   obtain⟨j,hj,hmj,h33,hB,a1⟩:=hI;refine zQ 33 _ h33 nu (zn6 ?_);refine zZ rfl (fun c34=>?_) (fun c34=>?_)
   ·have ac:j<(l[i]'a2).par.length:=by omega
    obtain⟨pb,po,rfl,hpb,ab⟩:=a5.at_ ac;replace ab:=hB.cell hpb ab;have hpr:=hv i a2 _ (aq ac);refine zn7 ?_;refine wl (qj (v:= .int _ _) U3 rfl rfl ab) (zn6 ?_);refine wl (x7 (i:=((l[i]'a2).par[j]).toNat) Kz sz4 rfl (show ev _ _ _=_ from congrArg (Value.int .i64) (Int.toNat_of_nonneg hpr.1).symm) oG rfl) ?_;refine xx (v:= .bool _) a1 rfl rfl sz4 (by rw[row_size];omega) rfl kv (fun w5 hq s3=>?_);replace a1:=hq;refine zn7 ?_;refine x9 ((l[i]'a2).par.length-(j+1)) oG agA ?_;refine⟨j+1,by omega,rfl,rfl,hB.u,?_⟩
    rw[show (row l.length (fun x=>Value.bool (mk x||Pz ((l[i]'a2).par.take (j+1)) x)))=row l.length (fun x=>if x=((l[i]'a2).par[j]).toNat then Value.bool true else .bool (mk x||Pz ((l[i]'a2).par.take j) x))from xy (fun x _=>by
     rw[parB_snoc _ ac];by_cases e:x=((l[i]'a2).par[j]).toNat
     ·rw[if_pos e];have:(l[i]'a2).par[j]=(x:Int):=by omega
      simp[this]
     ·rw[if_neg e];have:¬(l[i]'a2).par[j]=(x:Int):=by omega
      simp[this])]
    exact a1
   have a9:=hM.yes hv a2 ad;have hjl:j=(l[i]'a2).par.length:=by omega
   rw[hjl,List.take_length]at a1;obtain⟨a4,a3⟩:∃ a4:Nat->Bool,a4=fun x=>mk x||Pz (l[i]'a2).par x:=⟨_,rfl⟩
   rw[show (row l.length (fun x=>Value.bool (mk x||Pz (l[i]'a2).par x)))=row l.length (fun x=> .bool (a4 x))from xy (fun x _=>by rw[a3])]at a1;rw[<- a3]at a9;refine zn8 ?_;refine wl (jJ (c:=((i-1:Nat):Int)) rfl rfl oG oG) (zn2 ?_);refine x9 (i-1) oG agA ?_;exact⟨i-1,a4,by omega,rfl,rfl,fun h=>by omega,hB,a1,a9⟩
  have a9:=hM.no ad;obtain⟨a4,a3⟩:∃ a4,a4=mk:=⟨_,rfl⟩
  rw[<- a3]at a9 a1;clear a3;refine zn5 ?_;refine wl (jJ (c:=((i-1:Nat):Int)) rfl rfl oG oG) (zn2 ?_);refine x9 (i-1) oG agA ?_;exact⟨i-1,a4,by omega,rfl,rfl,fun h=>by omega,hB,a1,a9⟩
 refine yj ?_;refine wl (qj (v:= .bool _) U4 rfl rfl (a1.cell (j5 oG))) (zn5 ?_);exact⟨jQ (hM.end_ hv oG hbi).symm,hB⟩
end Go.Proofs.YtndbjnkilegebaaGreatDoor
