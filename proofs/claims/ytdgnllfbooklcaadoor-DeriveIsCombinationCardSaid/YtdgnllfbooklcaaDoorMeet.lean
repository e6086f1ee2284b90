/- What these functions of the program compute, at every world: glosswright/term.Name, glosswright/hierarchy.fault. Terms of the typed lambda calculus as plain trees, how a world holds them, and what is wrong with them. No program in sight. What these functions of the program compute, at every world: glosswright/hierarchy.Types. What these functions of the program compute, at every world: glosswright/glosswrightref3.Sub. Sets of small numbers as bits. What these functions of the program compute, at every world: math/bits.TrailingZeros64, (glosswright/hierarchy.Table).Meet, (glosswright/hierarchy.Table).Sub. -/
import Derived.Test.YtdgnllfbooklcaaDoorU
import Derived.Test.YtdgnllfbooklcaaDoorSim
import Derived.Test.YtdgnllfbooklcaaDoorProg
import Derived.Lib.TrailingZeros
namespace Go.Proofs.YtdgnllfbooklcaaDoor
open Go.RowKit
def Vk (c:UInt8):Bool:=decide (97≤c.toNat∧c.toNat≤122) || decide (48≤c.toNat∧c.toNat≤57) || decide (c.toNat=95) || decide (c.toNat=45)
theorem EV (c:UInt8):Vk c=true ↔ ((97≤c.toNat∧c.toNat≤122)∨(48≤c.toNat∧c.toNat≤57)∨c.toNat=95∨c.toNat=45):=by simp [Vk,or_assoc]
def FJ:List UInt8→Bool
  | []=>false
  | c :: _=>decide (97≤c.toNat∧c.toNat≤122)
def y8 (s:ByteArray):Bool:=decide (s.size≤30) && FJ s.data.toList && s.data.toList.all Vk
theorem jx {a b:Bool} (h:a=b):Ending.returned (.bool b)= .returned (.bool a):=by rw [h]
theorem hd_num (s:ByteArray):∃ c0:Nat,∀ h:0 < s.size,(s[0]'h).toNat=c0:=by
  by_cases h:0 < s.size
  · exact⟨(s[0]'h).toNat,fun _=>rfl⟩
  · exact⟨0,fun h'=>absurd h' h⟩
theorem isName_eq (s:ByteArray) (c0:Nat) (e0:∀ h:0 < s.size,(s[0]'h).toNat=c0):
    y8 s=decide ((s.size≠0∧s.size≤30)∧(97≤c0∧c0≤122)∧(∀ k (hk:k < s.size),Vk (s[k]'hk)=true)):=by
  have ha:(s.data.toList.all Vk=true) ↔ (∀ k (hk:k < s.size),Vk (s[k]'hk)=true):=by
    rw [List.all_eq_true]
    constructor
    · intro h k hk
      exact h _ (List.getElem_mem (l:=s.data.toList) (n:=k) (by simpa using hk))
    · intro h x hx
      obtain⟨k,hk,rfl⟩:=List.mem_iff_getElem.1 hx;exact h k (by simpa using hk)
  have hh:∀ h:0 < s.size,FJ s.data.toList=decide (97≤c0∧c0≤122):=by
    intro h;rw [← e0 h];obtain⟨⟨l⟩⟩:=s;cases l with
    | nil=>exact absurd h dE
    | cons c l=>rfl
  by_cases h0:s.size=0
  · have:s.data.toList= []:=by
      apply List.eq_nil_of_length_eq_zero;simpa using h0
    simp [y8,this,FJ,h0]
  · have h:=hh om
    rw [Bool.eq_iff_iff];simp only [y8,h,Bool.and_eq_true,decide_eq_true_eq,ha]
    constructor
    · rintro ⟨⟨a,b⟩,c⟩;exact⟨⟨h0,a⟩,b,c⟩
    · rintro ⟨⟨_,a⟩,b,c⟩;exact⟨⟨a,b⟩,c⟩
theorem J3:(Tryd.prog.info? 36).map (·.size)=some 2:=by kernel_rfl
theorem ze36:(Tryd.prog.info? 36).map (·.zero)=some (some (.agg #[.int .i64 0,.int .i64 0])):=by kernel_rfl
theorem I1 (s:ByteArray) (w:World):Calls Tryd.prog 46 #[.string s] w fun e w'=>e= .returned (.bool (y8 s))∧w=w':=by
 obtain⟨c0,e0⟩:=hd_num s;have hN:=Lib.hid (isName_eq s c0 e0);refine enter Tryd.func46 Tryd.ntmps46 rfl (Nat.le_of_ble_eq_true rfl) (zn7 ?_);refine yQ [5,6,7,8,9,10,11,12,13,14,15,16,17,18,19,20,21,22] 22 (.bool (decide (s.size=0∨30 < s.size∨c0 < 97∨122 < c0))) nu ?_ (fun gq=>?_)
 ·refine zn5 ?_;refine zV 8 rfl (fun g8=>?_) (fun g8=>?_)
  ·refine Yq ?_;refine zW (e_R ⟨rfl,agA,?_⟩);show Value.bool _=Value.bool _
   try have e0':=e0 om
   first | exact congrArg Value.bool (decide_eq_true om).symm | exact congrArg Value.bool (decide_eq_false om).symm | exact congrArg Value.bool (decide_eq_decide.2 om) | exact congrArg Value.bool ((decide_not).symm.trans (decide_eq_decide.2 om))
  refine zn8 ?_;refine zV 13 rfl (fun g13=>?_) (fun g13=>?_)
  ·refine zn9 ?_;refine zW (e_R ⟨rfl,agA,?_⟩);show Value.bool _=Value.bool _
   try have e0':=e0 om
   first | exact congrArg Value.bool (decide_eq_true om).symm | exact congrArg Value.bool (decide_eq_false om).symm | exact congrArg Value.bool (decide_eq_decide.2 om) | exact congrArg Value.bool ((decide_not).symm.trans (decide_eq_decide.2 om))
  refine zn3 ?_;refine wl (HX (i:=0) U9 rfl rfl om) (zn4 ?_);refine zV 18 rfl (fun g18=>?_) (fun g18=>?_)
  ·refine zn4 ?_;refine zW (e_R ⟨rfl,agA,?_⟩);show Value.bool _=Value.bool _
   try have e0':=e0 om
   first | exact congrArg Value.bool (decide_eq_true om).symm | exact congrArg Value.bool (decide_eq_false om).symm | exact congrArg Value.bool (decide_eq_decide.2 om) | exact congrArg Value.bool ((decide_not).symm.trans (decide_eq_decide.2 om))
  refine zn3 ?_;refine wl (HX (i:=0) U9 rfl rfl om) (zn3 ?_);refine zW (e_R ⟨rfl,agA,?_⟩);show Value.bool _=Value.bool _
  try have e0':=e0 om
  first | exact congrArg Value.bool (decide_eq_true om).symm | exact congrArg Value.bool (decide_eq_false om).symm | exact congrArg Value.bool (decide_eq_decide.2 om) | exact congrArg Value.bool ((decide_not).symm.trans (decide_eq_decide.2 om))
 refine e_S ?_;refine zJ rfl (fun c22=>?_) (fun c22=>?_)
 ·refine zn8 ?_;exact⟨jx (by rw [hN.out];exact decide_eq_false (fun h=>by omega)),rfl⟩
 refine gj ?_;refine qJ [2,3,4,25,26,27,28,29,30,31,32,33,34,35,36,37,38,39,40,41,42,43,44,45,46,47,48,49,50,51,52,53,54] (fun m g w'=>∃ k:Nat,k≤s.size∧m=s.size - k∧g 25= .int .i64 k∧w=w'∧(∀ j (hj:j < s.size),j < k→Vk (s[j]'hj)=true)) (s.size) ?_ (fun m g4 w1 hI=>?_)
 ·exact⟨0,Nat.zero_le _,rfl,rfl,rfl,fun j hj h=>by omega⟩
 obtain⟨k,hk,hm,h25,rfl,hall⟩:=hI;refine zQ 25 _ h25 nu (zn6 ?_);refine zJ rfl (fun c26=>?_) (fun c26=>?_)
 ·refine Yq ?_;refine wl (HX (i:=k) U9 rfl rfl om) (zn4 ?_);refine yQ [31,32,33,34,35,36,37,38,39,40,41,42,43,44,45,46,47,48,49,50,51,52,53] 53 (.bool (decide (¬((97≤(s[k]'om).toNat∧(s[k]'om).toNat≤122)∨(48≤(s[k]'om).toNat∧(s[k]'om).toNat≤57)∨(s[k]'om).toNat=95∨(s[k]'om).toNat=45)))) nu ?_ (fun gq=>?_)
  ·refine zn4 ?_;refine zV 33 rfl (fun g33=>?_) (fun g33=>?_)
   ·refine zn6 ?_;refine zV 37 rfl (fun g37=>?_) (fun g37=>?_)
    ·refine NY ?_;refine zW (e_R ⟨rfl,agA,?_⟩);exact clA
    refine zn6 ?_;refine zV 40 rfl (fun g40=>?_) (fun g40=>?_)
    ·refine zn8 ?_;refine zV 45 rfl (fun g45=>?_) (fun g45=>?_)
     ·refine zn8 ?_;refine zW (e_R ⟨rfl,agA,?_⟩);exact clA
     refine zn6 ?_;refine zV 49 rfl (fun g49=>?_) (fun g49=>?_)
     ·refine zn4 ?_;refine zW (e_R ⟨rfl,agA,?_⟩);exact clA
     refine zn6 ?_;refine zW (e_R ⟨rfl,agA,?_⟩);exact clA
    refine vQ ?_;refine zV 49 rfl (fun g49=>?_) (fun g49=>?_)
    ·refine zn4 ?_;refine zW (e_R ⟨rfl,agA,?_⟩);exact clA
    refine zn6 ?_;refine zW (e_R ⟨rfl,agA,?_⟩);exact clA
   refine jy ?_;refine zV 40 rfl (fun g40=>?_) (fun g40=>?_)
   ·refine zn8 ?_;refine zV 45 rfl (fun g45=>?_) (fun g45=>?_)
    ·refine zn8 ?_;refine zW (e_R ⟨rfl,agA,?_⟩);exact clA
    refine zn6 ?_;refine zV 49 rfl (fun g49=>?_) (fun g49=>?_)
    ·refine zn4 ?_;refine zW (e_R ⟨rfl,agA,?_⟩);exact clA
    refine zn6 ?_;refine zW (e_R ⟨rfl,agA,?_⟩);exact clA
   refine vQ ?_;refine zV 49 rfl (fun g49=>?_) (fun g49=>?_)
   ·refine zn4 ?_;refine zW (e_R ⟨rfl,agA,?_⟩);exact clA
   refine zn6 ?_;refine zW (e_R ⟨rfl,agA,?_⟩);exact clA
  refine e_S ?_;refine zJ rfl (fun c53=>?_) (fun c53=>?_)
  ·refine vQ ?_;exact⟨jx (by rw [hN.out];exact decide_eq_false (fun h=>c53 ((EV _).1 (h.2.2 k om)))),rfl⟩
  have hall':∀ j (hj:j < s.size),j < k + 1→Vk (s[j]'hj)=true:=fun j hj h=>by
    by_cases e:j=k
    · subst e;exact(EV _).2 om
    · exact hall j hj om
  refine zn7 ?_;refine yq (s.size - (k + 1)) om agA ?_;exact⟨k + 1,by omega,rfl,rfl,rfl,fun j hj h=>hall' j hj h⟩
 refine vQ ?_;exact⟨jx (by rw [hN.out];exact decide_eq_true ⟨by omega,by omega,fun j hj=>hall j hj om⟩),rfl⟩
theorem jX (a b:Int) (w:World):Calls Tryd.prog 62 #[.int .i64 a,.int .i64 b] w fun e w'=>e= .returned (flV (a,b))∧Bel w w':=by
 refine enter Tryd.func62 Tryd.ntmps62 rfl (Nat.le_of_ble_eq_true rfl) ?_;have hB:Bel w w:=Below.refl _ _;refine zn2 ?_;refine qw (cs:=#[.int .i64 0,.int .i64 0]) ze36 rfl (fun b4 w1 hb4 s1 hr=>?_);have lo4:=nLT (Bel.size hB) hr;refine zn6 ?_;refine wl (Z9 (v0:= .int _ _) (v1:= .int _ _) (fun v0 v1=>#[v0,v1]) rfl rfl kR) ?_;refine zk hb4 rfl rfl J3 rfl zK (fun w2 hq s2=>?_);replace hb4:=hq;refine zn3 ?_;refine xX (.inl rfl) rfl (zw U36 rfl rfl hb4.range0 J3) ?_;replace hB:=(hB.tr0 s1).tr1 s2 lo4;exact⟨rfl,hB⟩
end Go.Proofs.YtdgnllfbooklcaaDoor
namespace Go.Proofs.YtdgnllfbooklcaaDoor
open Go.RowKit
inductive Tm where
  | mk (kind:Int) (name:ByteArray) (index:Int) (type:Sm) (args:List Tm)
def Tm.kind:Tm→Int | .mk k _ _ _ _=>k
def Tm.name:Tm→ByteArray | .mk _ n _ _ _=>n
def Tm.index:Tm→Int | .mk _ _ i _ _=>i
def Tm.type:Tm→Sm | .mk _ _ _ t _=>t
def Tm.args:Tm→List Tm | .mk _ _ _ _ a=>a
theorem Tm.eta (t:Tm):t= .mk t.kind t.name t.index t.type t.args:=by cases t;rfl
mutual
inductive TmAt (w:World):Nat→Nat→Tm→Prop
  | mk {b o:Nat} {k i:Int} {nm:ByteArray} {s:Sm} {args:List Tm} {A B:Option Addr} {c d:Nat} (hb:b < w.heap.size) (h:w.rangeAt b o [.int .i64 k,.string nm,.int .i64 i,.string s.base,.slice A s.args.length c,.slice B (List.length args) d]) (hs:SimsIn w A s.args) (ht:TmsIn w B args):TmAt w b o (.mk k nm i s args)
inductive TmsIn (w:World):Option Addr→List Tm→Prop
  | nil {A:Option Addr}:TmsIn w A []
  | more {b o:Nat} {args:List Tm} (hl:args.length≤vz) (hb:b < w.heap.size) (h:∀ k (hk:k < args.length),TmAt w b (o + k * 6) args[k]):TmsIn w (some ⟨b,o,none⟩) args
end
theorem TmAt.both {w w':World} (hw:Bel w w'):(∀ {b o:Nat} {s:Tm},TmAt w b o s→TmAt w' b o s)∧∀ {A:Option Addr} {l:List Tm},TmsIn w A l→TmsIn w' A l:=by
  have h1:∀ {b o:Nat} {s:Tm} (h:TmAt w b o s),TmAt w' b o s:=fun h=>
    TmAt.rec (motive_1:=fun b o s _=>TmAt w' b o s) (motive_2:=fun A l _=>TmsIn w' A l)
      (fun hb h hs _ ih=> .mk (nLL hb hw.size) (hw.range hb h) (hs.mono hw) ih) .nil (fun hl hb _ ih=> .more hl (nLL hb hw.size) ih) h
  have h2:∀ {A:Option Addr} {l:List Tm} (h:TmsIn w A l),TmsIn w' A l:=fun h=>
    TmsIn.rec (motive_1:=fun b o s _=>TmAt w' b o s) (motive_2:=fun A l _=>TmsIn w' A l)
      (fun hb h hs _ ih=> .mk (nLL hb hw.size) (hw.range hb h) (hs.mono hw) ih) .nil (fun hl hb _ ih=> .more hl (nLL hb hw.size) ih) h
  exact⟨h1,h2⟩
theorem TmAt.mono {w w':World} {b o:Nat} {s:Tm} (h:TmAt w b o s) (hw:Bel w w'):TmAt w' b o s:=(TmAt.both hw).1 h
theorem TmsIn.mono {w w':World} {A:Option Addr} {l:List Tm} (h:TmsIn w A l) (hw:Bel w w'):TmsIn w' A l:=(TmAt.both hw).2 h
theorem TmsIn.le {w:World} {A:Option Addr} {l:List Tm} (h:TmsIn w A l):l.length≤vz:=by
  cases h with
  | nil=>exact Nat.zero_le _
  | more hl=>exact hl
theorem TmsIn.at_ {w:World} {A:Option Addr} {l:List Tm} (h:TmsIn w A l) {k:Nat} (hk:k < l.length):∃ b o A' c B d,A=some ⟨b,o,none⟩∧b < w.heap.size∧w.rangeAt b (o + k * 6) [Value.int .i64 (l[k]).kind,.string (l[k]).name,.int .i64 (l[k]).index,.string (l[k]).type.base,.slice A' (l[k]).type.args.length c,.slice B (l[k]).args.length d]∧SimsIn w A' (l[k]).type.args∧TmsIn w B (l[k]).args:=by
  cases h with
  | nil=>simp at hk
  | @more b o _ _ hb h=>
    have hx:=h k hk
    generalize l[k]=s at hx
    cases hx with
    | mk _ hr hs ht=>exact⟨b,o,_,_,_,_,rfl,hb,hr,hs,ht⟩
def IW (s:Sm):Prop:=s.base=⟨#[]⟩∧s.args.length=0
instance (s:Sm):Decidable (IW s):=by unfold IW;infer_instance
def ndC (b:Nat) (t:Tm):Int:=
  if t.kind=1 then (if t.index=0∧t.args.length=0 then (if y8 t.name=true then (if smF t.type=0 then 0 else 12) else 10) else 5)
  else if t.kind=2 then (if t.name=⟨#[]⟩∧IW t.type∧t.args.length=0 then (if t.index < 0∨(b:Int)≤t.index then 15 else 0) else 5)
  else if t.kind=3 then (if t.name=⟨#[]⟩∧t.index=0∧t.args.length=1 then (if smF t.type=0 then 0 else 12) else 5)
  else if t.kind=4 then (if t.name=⟨#[]⟩∧t.index=0∧IW t.type∧t.args.length=2 then 0 else 5)
  else 4
theorem ndC_mk (b:Nat) (k:Int) (nm:ByteArray) (i:Int) (s:Sm) (l:List Tm):ndC b (.mk k nm i s l) =
  if k=1 then (if i=0∧l.length=0 then (if y8 nm=true then (if smF s=0 then 0 else 12) else 10) else 5)
  else if k=2 then (if nm=⟨#[]⟩∧IW s∧l.length=0 then (if i < 0∨(b:Int)≤i then 15 else 0) else 5)
  else if k=3 then (if nm=⟨#[]⟩∧i=0∧l.length=1 then (if smF s=0 then 0 else 12) else 5)
  else if k=4 then (if nm=⟨#[]⟩∧i=0∧IW s∧l.length=2 then 0 else 5)
  else 4:=rfl
def inB (t:Tm) (b:Nat):Nat:=if t.kind=3 then b + 1 else b
mutual
def twk:Tm→Nat→Nat→Nat→Nat×Fl
  | .mk k nm i s l,d,b,n=>if 200 < n + 1∨40 < d then (n + 1,(1,(n:Int))) else if ndC b (.mk k nm i s l)=0 then Yx l (d + 1) (inB (.mk k nm i s l) b) (n + 1) else (n + 1,(ndC b (.mk k nm i s l),(n:Int)))
def Yx:List Tm→Nat→Nat→Nat→Nat×Fl
  | [],_,_,n=>(n,(0,0))
  | x :: r,d,b,n=>if (twk x d b n).2.1=0 then Yx r d b (twk x d b n).1 else twk x d b n
end
theorem IJ (t:Tm) (d b n:Nat):twk t d b n=if 200 < n + 1∨40 < d then (n + 1,(1,(n:Int))) else if ndC b t=0 then Yx t.args (d + 1) (inB t b) (n + 1) else (n + 1,(ndC b t,(n:Int))):=by
  cases t;rw [twk];rfl
theorem twks_z:∀ (l:List Tm) (d b n:Nat),(Yx l d b n).2.1=0→(Yx l d b n).2=(0,0)
  | [],_,_,_,_=>by rw [Yx]
  | .mk k nm i s a :: r,d,b,n,h=>by
    rw [Yx] at h ⊢
    by_cases h1:(twk (.mk k nm i s a) d b n).2.1=0
    · rw [if_pos h1] at h ⊢;exact twks_z r d b _ h
    · rw [if_neg h1] at h;exact absurd h h1
theorem twk_z {t:Tm} {d b n:Nat} (h:(twk t d b n).2.1=0):(twk t d b n).2=(0,0):=by
  rw [IJ] at h ⊢;by_cases h1:200 < n + 1∨40 < d
  · rw [if_pos h1] at h;cases h
  · rw [if_neg h1] at h ⊢
    by_cases h2:ndC b t=0
    · rw [if_pos h2] at h ⊢;exact twks_z _ _ _ _ h
    · rw [if_neg h2] at h;exact absurd h h2
inductive Tv where
  | con (nm:ByteArray) (τ:Ts)
  | var (i:Nat)
  | abs (τ:Ts) (x:Tv)
  | app (x y:Tv)
def smZ:Sm:= .mk ⟨#[]⟩ []
def Tv.tm:Tv→Tm
  | .con nm τ=> .mk 1 nm 0 τ.sm []
  | .var i=> .mk 2 ⟨#[]⟩ i smZ []
  | .abs τ x=> .mk 3 ⟨#[]⟩ 0 τ.sm [x.tm]
  | .app x y=> .mk 4 ⟨#[]⟩ 0 smZ [x.tm,y.tm]
def Tv.size:Tv→Nat
  | .con _ _=>1
  | .var _=>1
  | .abs _ x=>x.size + 1
  | .app x y=>x.size + y.size + 1
theorem Tv.pos (v:Tv):0 < v.size:=by cases v <;> simp [Tv.size]
def Tv.ok:Nat→Tv→Prop
  | _,.con _ τ=>τ.size≤200
  | b,.var i=>i < b
  | b,.abs τ x=>τ.size≤200∧x.ok (b + 1)
  | b,.app x y=>x.ok b∧y.ok b
theorem smNo_z {s:Sm} (h:IW s):s=smZ:=by
  rw [Sm.eta s,h.1,List.length_eq_zero_iff.1 h.2];rfl
theorem nil_of {α:Type} {l:List α} (h:l.length=0):l= []:=List.length_eq_zero_iff.1 h
mutual
theorem F1:∀ (t:Tm) (d b n:Nat),(twk t d b n).2.1=0→∃ v:Tv,t=v.tm∧v.ok b∧(twk t d b n).1=n + v.size∧n + v.size≤200
  | .mk k nm i s l,d,b,n,h=>by
    rw [twk] at h ⊢
    by_cases h1:200 < n + 1∨40 < d
    · rw [if_pos h1] at h;cases h
    rw [if_neg h1] at h ⊢
    by_cases h2:ndC b (.mk k nm i s l)=0
    · rw [if_pos h2] at h ⊢
      obtain⟨vs,e1,e0,e2,e3⟩:=H3 l (d + 1) (inB (.mk k nm i s l) b) (n + 1) h om
      rw [e2]
      rw [ndC_mk] at h2
      by_cases k1:k=1
      · subst k1
        rw [if_pos rfl] at h2
        by_cases q:i=0∧l.length=0
        · rw [if_pos q] at h2
          obtain⟨rfl,q2⟩:=q
          obtain rfl:=nil_of q2
          by_cases q3:y8 nm=true
          · rw [if_pos q3] at h2
            by_cases q4:smF s=0
            · obtain⟨τ,rfl,hτ⟩:=smF_ts q4
              obtain rfl:vs= []:=by cases vs with | nil=>rfl | cons a r=>cases e1
              exact⟨.con nm τ,rfl,hτ,by simp [Tv.size],by simp [Tv.size];omega⟩
            · rw [if_neg q4] at h2;cases h2
          · rw [if_neg q3] at h2;cases h2
        · rw [if_neg q] at h2;cases h2
      rw [if_neg k1] at h2
      by_cases k2:k=2
      · subst k2
        rw [if_pos rfl] at h2
        by_cases q:nm=⟨#[]⟩∧IW s∧l.length=0
        · rw [if_pos q] at h2
          obtain⟨rfl,qs,q2⟩:=q
          obtain rfl:=nil_of q2
          obtain rfl:=smNo_z qs
          by_cases q3:i < 0∨(b:Int)≤i
          · rw [if_pos q3] at h2;cases h2
          · obtain⟨j,rfl⟩:∃ j:Nat,i=j:=⟨i.toNat,by omega⟩
            obtain rfl:vs= []:=by cases vs with | nil=>rfl | cons a r=>cases e1
            exact⟨.var j,rfl,show j < b by omega,by simp [Tv.size],by simp [Tv.size];omega⟩
        · rw [if_neg q] at h2;cases h2
      rw [if_neg k2] at h2
      by_cases k3:k=3
      · subst k3
        rw [if_pos rfl] at h2
        by_cases q:nm=⟨#[]⟩∧i=0∧l.length=1
        · rw [if_pos q] at h2
          obtain⟨rfl,rfl,q2⟩:=q
          by_cases q4:smF s=0
          · obtain⟨τ,rfl,hτ⟩:=smF_ts q4
            match l,vs,e1,q2 with
            | [x],[v],e1,_=>
              simp only [List.map_cons,List.map_nil,List.cons.injEq,and_true] at e1
              simp only [List.map_cons,List.map_nil,List.sum_cons,List.sum_nil] at e3 ⊢
              have eb:=e0 v (List.mem_singleton.2 rfl)
              have hin:inB (.mk 3 ⟨#[]⟩ 0 τ.sm [x]) b=b + 1:=rfl
              rw [hin] at eb
              exact⟨.abs τ v,by rw [e1];rfl,⟨hτ,eb⟩,by simp only [Tv.size];omega,by simp only [Tv.size];omega⟩
          · rw [if_neg q4] at h2;cases h2
        · rw [if_neg q] at h2;cases h2
      rw [if_neg k3] at h2
      by_cases k4:k=4
      · subst k4
        rw [if_pos rfl] at h2
        by_cases q:nm=⟨#[]⟩∧i=0∧IW s∧l.length=2
        · obtain⟨rfl,rfl,qs,q2⟩:=q
          obtain rfl:=smNo_z qs
          match l,vs,e1,q2 with
          | [x,y],[v,u],e1,_=>
            simp only [List.map_cons,List.map_nil,List.cons.injEq,and_true] at e1
            simp only [List.map_cons,List.map_nil,List.sum_cons,List.sum_nil] at e3 ⊢
            have eb:=e0 v (by simp)
            have eu:=e0 u (by simp)
            have hin:inB (.mk 4 ⟨#[]⟩ 0 smZ [x,y]) b=b:=rfl
            rw [hin] at eb eu
            exact⟨.app v u,by rw [e1.1,e1.2];rfl,⟨eb,eu⟩,by simp only [Tv.size];omega,by simp only [Tv.size];omega⟩
        · rw [if_neg q] at h2;cases h2
      · rw [if_neg k4] at h2;cases h2
    · rw [if_neg h2] at h;exact absurd h h2
theorem H3:∀ (l:List Tm) (d b n:Nat),(Yx l d b n).2.1=0→n≤200→∃ vs:List Tv,l=vs.map Tv.tm∧(∀ v ∈ vs,v.ok b)∧(Yx l d b n).1=n + (vs.map Tv.size).sum∧n + (vs.map Tv.size).sum≤200
  | [],d,b,n,_,hn=>⟨[],rfl,(fun _ h=>by cases h),(by rw [Yx];rfl),hn⟩
  | x :: r,d,b,n,h,hn=>by
    rw [Yx] at h ⊢
    by_cases h1:(twk x d b n).2.1=0
    · rw [if_pos h1] at h ⊢
      obtain⟨v,e1,e0,e2,e3⟩:=F1 x d b n h1
      rw [e2] at h ⊢
      obtain⟨vs,k1,k0,k2,k3⟩:=H3 r d b (n + v.size) h e3
      refine⟨v :: vs,by rw [e1,k1];rfl,fun u hu=>?_,by rw [k2];simp;omega,by simp;omega⟩
      rcases List.mem_cons.1 hu with rfl | hu
      · exact e0
      · exact k0 u hu
    · rw [if_neg h1] at h;exact absurd h h1
end
theorem Tv.tm_inj:∀ {a b:Tv},a.tm=b.tm→a=b
  | .con n s,.con m t,h=>by
    simp only [Tv.tm,Tm.mk.injEq,and_true,true_and] at h
    rw [h.1,Ts.sm_inj h.2]
  | .var i,.var j,h=>by
    simp only [Tv.tm,Tm.mk.injEq,and_true,true_and] at h
    rw [show i=j by omega]
  | .abs s x,.abs t y,h=>by
    simp only [Tv.tm,Tm.mk.injEq,List.cons.injEq,and_true,true_and] at h
    rw [Ts.sm_inj h.1,Tv.tm_inj h.2]
  | .app x y,.app u v,h=>by
    simp only [Tv.tm,Tm.mk.injEq,List.cons.injEq,and_true,true_and] at h
    rw [Tv.tm_inj h.1,Tv.tm_inj h.2]
  | .con _ _,.var _,h=>by simp [Tv.tm] at h
  | .con _ _,.abs _ _,h=>by simp [Tv.tm] at h
  | .con _ _,.app _ _,h=>by simp [Tv.tm] at h
  | .var _,.con _ _,h=>by simp [Tv.tm] at h
  | .var _,.abs _ _,h=>by simp [Tv.tm] at h
  | .var _,.app _ _,h=>by simp [Tv.tm] at h
  | .abs _ _,.con _ _,h=>by simp [Tv.tm] at h
  | .abs _ _,.var _,h=>by simp [Tv.tm] at h
  | .abs _ _,.app _ _,h=>by simp [Tv.tm] at h
  | .app _ _,.con _ _,h=>by simp [Tv.tm] at h
  | .app _ _,.var _,h=>by simp [Tv.tm] at h
  | .app _ _,.abs _ _,h=>by simp [Tv.tm] at h
def tyv:List Ts→Tv→Option Ts
  | _,.con _ τ=>some τ
  | Γ,.var i=>Γ[i]?
  | Γ,.abs τ x=>(tyv (τ :: Γ) x).map (.f τ)
  | Γ,.app x y=>match tyv Γ x,tyv Γ y with
    | some (.f a r),some z=>if a.eqb z=true then some r else none
    | _,_=>none
open Classical in
noncomputable def tmF (t:Tm):Fl:=if (twk t 1 0 0).2.1=0 then (if ∃ v τ,t=Tv.tm v∧tyv [] v=some τ then (0,0) else (12,-1)) else (twk t 1 0 0).2
theorem tmF_bad {t:Tm} (h:¬(twk t 1 0 0).2.1=0):tmF t=(twk t 1 0 0).2:=by unfold tmF;rw [if_neg h]
theorem tmF_ok {v:Tv} (h:(twk v.tm 1 0 0).2.1=0):tmF v.tm=if (tyv [] v).isSome then (0,0) else (12,-1):=by
  unfold tmF;rw [if_pos h];cases e:tyv [] v with
  | none=>
    rw [if_neg]
    · rfl
    · rintro ⟨u,τ,h1,h2⟩
      rw [← Tv.tm_inj h1,e] at h2;cases h2
  | some τ=>rw [if_pos ⟨v,τ,rfl,e⟩];rfl
end Go.Proofs.YtdgnllfbooklcaaDoor
namespace Go.Proofs.YtdgnllfbooklcaaDoor
open Go.RowKit
def j8 (l:List Ty) (i:Nat):Int:=match l[i]? with
  | none=>0
  | some t=>if y8 t.name=false then 10 else if uy ((l.take i).map (·.name)) t.name=true then 7 else if (decide (i=0) == t.par.isEmpty)=false then 5 else u6 i (-1) t.par
def xw (l:List Ty):Fl:=if l.length=0∨60 < l.length then (2,-1) else qv (j8 l) 0 l.length
theorem I3 (xs:List Int):decide ((xs.length:Int)=0)=xs.isEmpty:=by cases xs <;> simp;omega
theorem mal_yes {k:Nat} {xs:List Int} (h:(!(decide ((k:Int)=0) == decide ((xs.length:Int)=0)))=true):(decide (k=0) == xs.isEmpty)=false:=by
  rw [I3] at h
  simpa using h
theorem mal_no {k:Nat} {xs:List Int} (h:(!(decide ((k:Int)=0) == decide ((xs.length:Int)=0)))=false):(decide (k=0) == xs.isEmpty)=true:=by
  rw [I3] at h
  simpa using h
theorem ty10 (l:List Ty) (k:Nat) (hlt:k < l.length) (h1:y8 l[k].name=false):j8 l k=10:=by
  simp only [j8,List.getElem?_eq_getElem hlt,h1,if_true]
theorem ty7 (l:List Ty) (k:Nat) (hlt:k < l.length) (h1:y8 l[k].name=true) (h2:uy ((l.take k).map (·.name)) l[k].name=true):j8 l k=7:=by
  simp only [j8,List.getElem?_eq_getElem hlt,h1,h2,if_true];rfl
theorem ty5 (l:List Ty) (k:Nat) (hlt:k < l.length) (h1:y8 l[k].name=true) (h2:uy ((l.take k).map (·.name)) l[k].name=false) (h3:(decide (k=0) == l[k].par.isEmpty)=false):j8 l k=5:=by
  simp only [j8,List.getElem?_eq_getElem hlt,h1,h2,h3,if_true];rfl
theorem H0 (l:List Ty) (k:Nat) (hlt:k < l.length) (h1:y8 l[k].name=true) (h2:uy ((l.take k).map (·.name)) l[k].name=false) (h3:(decide (k=0) == l[k].par.isEmpty)=true):j8 l k=u6 k (-1) (l[k].par.drop 0):=by
  simp only [j8,List.getElem?_eq_getElem hlt,h1,h2,h3,List.drop_zero];rfl
theorem fn46:zZ Tryd.prog 46=true:=by kernel_rfl
theorem fn62:zZ Tryd.prog 62=true:=by kernel_rfl
theorem sz110:(Tryd.prog.info? 110).map (·.size)=some 2:=by kernel_rfl
theorem ze110:(Tryd.prog.info? 110).map (·.zero)=some (some (.agg #[.string ⟨#[]⟩,.slice none 0 0])):=by kernel_rfl
theorem ze3:(Tryd.prog.info? 3).map (·.zero)=some (some (.int .i64 0)):=by kernel_rfl
theorem Gq (A:Option Addr) (c:Nat) (l:List Ty) (w:World) (hT:TypesIn w A l):Calls Tryd.prog 63 #[.slice A l.length c] w fun e w'=>e= .returned (flV (xw l))∧Bel w w':=by
 refine enter Tryd.func63 Tryd.ntmps63 rfl (Nat.le_of_ble_eq_true rfl) ?_;have hB:Bel w w:=Below.refl _ _;refine zn2 ?_;refine qw (cs:=#[.int .i64 0,.int .i64 0]) ze36 rfl (fun b2 w1 hb2 s1 hr=>?_);have lo2:=nLT (Bel.size hB) hr;refine zn4 ?_;replace hB:=hB.tr0 s1;refine yQ [11,12,13,14,15,16,17,18] 18 (.bool (decide (l.length=0∨60 < l.length))) nu ?_ (fun gq=>?_)
 ·refine zn5 ?_;refine zV 14 rfl (fun g14=>?_) (fun g14=>?_)
  ·refine zn4 ?_;refine zW (e_R ⟨rfl,agA,?_⟩);exact clA
  refine zn7 ?_;refine zW (e_R ⟨rfl,agA,?_⟩);exact clA
 refine e_S ?_;refine zJ rfl (fun c18=>?_) (fun c18=>?_)
 ·refine zn2 ?_;refine zX fn62 (jX _ _ _) rfl (fun e' w2 hr=>?_);obtain⟨rfl,s2⟩:=hr;replace s2:=sB s2;refine⟨_,rfl,?_⟩;replace hb2:=hb2.tr0 s2;refine zk hb2 rfl rfl J3 rfl zK (fun w3 hq s3=>?_);replace hb2:=hq;refine zn4 ?_;refine xX (.inl rfl) rfl (zw U36 rfl rfl hb2.range0 J3) ?_;replace hB:=(hB.tr0 s2).tr1 s3 lo2;exact⟨xW (by simp only [xw,if_pos c18]),hB⟩
 have hR:=Lib.hid (show xw l=qv (j8 l) 0 (l.length - 0) by simp only [xw,if_neg c18,Nat.sub_zero]);refine zn4 ?_;refine wl_mm (fun b20 w4 hb20 s4 hr=>?_);have:=nLL hb2.lt hr;have lo20:=nLT (Bel.size hB) hr;refine wl (kQ (v:= .map _) rfl) (gj ?_);replace hB:=hB.tr0 s4;replace hb2:=hb2.tr0 s4;refine qJ [4,5,6,7,8,10,23,24,25,26,27,28,29,30,31,32,33,34,35,36,37,38,39,40,41,42,43,44,45,46,47,48,49,50,51,52,53,54,55,56,57,58,59,60,61,62,63,64,65,66,67,68,69,70,71,72,73,74,75,76,77,78,79,80] (fun m g w'=>∃ (k:Nat) (mp:List (ByteArray×Value)),k≤l.length∧m=l.length - k∧g 23= .int .i64 k∧Bel w w'∧Blk w' b2 36 #[.int .i64 0,.int .i64 0]∧MapS w' b20 mp∧(∀ s,lkB mp s=uy ((l.take k).map (·.name)) s)∧xw l=qv (j8 l) k (l.length - k)) (l.length) ?_ (fun m g5 w5 hI=>?_)
 ·exact⟨0,[],Nat.zero_le _,rfl,rfl,hB,hb2,hb20,fun s=>rfl,hR.out⟩
 obtain⟨k,mp,hk,hm,h23,hB,hb2,hb20,hmp,hR'⟩:=hI;refine zQ 23 _ h23 nu (zn6 ?_);refine zJ rfl (fun c24=>?_) (fun c24=>?_)
 ·have hlt:k < l.length:=by omega
  obtain⟨tb,to,A',cp,rfl,htb,htr,hpar⟩:=hT.at_ hB hlt;refine zn8 ?_;refine wl (qW WX rfl rfl htr sz110) ?_;refine qw (cs:=#[.string ⟨#[]⟩,.slice none 0 0]) ze110 rfl (fun b5 w6 hb5 s5 hr=>?_);have:=nLL hb2.lt hr;have:=nLL hb20.lt hr;have lo5:=nLT (Bel.size hB) hr;refine waI rfl ?_;refine zk hb5 rfl rfl sz110 rfl zK (fun w7 hq s6=>?_);replace hb5:=hq;refine zn7 ?_;refine zX fn46 (I1 _ _) rfl (fun e' w8 hr=>?_);obtain⟨rfl,rfl⟩:=hr;refine⟨_,rfl,?_⟩;refine zn3 ?_;replace hB:=(hB.tr0 s5).tr1 s6 lo5;replace hb2:=(hb2.tr0 s5).tr1 s6 om;refine kv rfl (fun c31=>?_) (fun c31=>?_)
  ·have hty:=ty10 l k hlt (by simpa using c31);refine zn3 ?_;refine zX fn62 (jX _ _ _) rfl (fun e' w9 hr=>?_);obtain⟨rfl,s7⟩:=hr;replace s7:=sB s7;refine⟨_,rfl,?_⟩;replace hb2:=hb2.tr0 s7;refine zk hb2 rfl rfl J3 rfl zK (fun w10 hq s8=>?_);replace hb2:=hq;refine zn9 ?_;refine xX (.inl rfl) rfl (zw U36 rfl rfl hb2.range0 J3) ?_;replace hB:=(hB.tr0 s7).tr1 s8 lo2;exact⟨xW (hR'.trans (y9 (c:=10) om hty dE)),hB⟩
  have hnm:y8 (l[k]'hlt).name=true:=by simpa using c31
  refine zn5 ?_;refine wl (x5 (v:= .map _) rfl) (zn2 ?_);replace hb20:=(hb20.tr0 s5).tr1 s6 om;refine wl (r_lkS hb20 R9 U9 ze3 rfl rfl) (wmT rfl (wl (yk (v:=_) rfl rfl) (wl (yk (v:= .bool _) rfl rfl) (wl (kQ (v:=_) rfl) (zn8 ?_)))));refine kv rfl (fun c41=>?_) (fun c41=>?_)
  ·have hty:=ty7 l k hlt hnm ((hmp _).symm.trans c41);refine zn3 ?_;refine zX fn62 (jX _ _ _) rfl (fun e' w11 hr=>?_);obtain⟨rfl,s9⟩:=hr;replace s9:=sB s9;refine⟨_,rfl,?_⟩;replace hb2:=hb2.tr0 s9;refine zk hb2 rfl rfl J3 rfl zK (fun w12 hq s10=>?_);replace hb2:=hq;refine zn9 ?_;refine xX (.inl rfl) rfl (zw U36 rfl rfl hb2.range0 J3) ?_;replace hB:=(hB.tr0 s9).tr1 s10 lo2;exact⟨xW (hR'.trans (y9 (c:=7) om hty dE)),hB⟩
  have hsn:uy ((l.take k).map (·.name)) (l[k]'hlt).name=false:=by rw [← hmp];exact c41
  have hmp':∀ s,lkB (IY mp (l[k]'hlt).name (.int .i64 k)) s=uy ((l.take (k + 1)).map (·.name)) s:=fun s=>by
    rw [uV _ _ _ c41,oZ l hlt,List.map_append,List.map_cons,List.map_nil,M3,← hmp];simp [lkB]
  refine zn4 ?_;refine wl (x5 (v:= .map _) rfl) (zn3 ?_);refine Rv (v:= .int _ _) hb20 R9 U9 rfl rfl rfl (fun w13 hq s11=>?_);replace hb20:=hq;refine gj ?_;refine wl (r_neqB U4 rfl rfl) (zW (e_S ?_));replace hB:=hB.tr1 s11 lo20;replace hb2:=hb2.tr1 s11 om;refine kv rfl (fun c54=>?_) (fun c54=>?_)
  ·have hty:=ty5 l k hlt hnm hsn (mal_yes c54);refine zn3 ?_;refine zX fn62 (jX _ _ _) rfl (fun e' w14 hr=>?_);obtain⟨rfl,s12⟩:=hr;replace s12:=sB s12;refine⟨_,rfl,?_⟩;replace hb2:=hb2.tr0 s12;refine zk hb2 rfl rfl J3 rfl zK (fun w15 hq s13=>?_);replace hb2:=hq;refine zn9 ?_;refine xX (.inl rfl) rfl (zw U36 rfl rfl hb2.range0 J3) ?_;replace hB:=(hB.tr0 s12).tr1 s13 lo2;exact⟨xW (hR'.trans (y9 (c:=5) om hty dE)),hB⟩
  have hmal:=mal_no c54;refine NY ?_;refine qJ [8,10,60,61,62,63,64,65,66,67,68,69,70,71,72,73,74,75,76,77,78,79] (fun m g w'=>∃ (j:Nat) (last:Int),j≤(l[k]'hlt).par.length∧m=(l[k]'hlt).par.length - j∧g 60= .int .i64 j∧g 8= .int .i64 last∧w13=w'∧j8 l k=u6 k last ((l[k]'hlt).par.drop j)) ((l[k]'hlt).par.length) ?_ (fun m g17 w16 hI=>?_)
  ·exact⟨0,-1,Nat.zero_le _,rfl,rfl,rfl,rfl,H0 l k hlt hnm hsn hmal⟩
  obtain⟨j,last,hj,hmj,h60,h8,rfl,hP⟩:=hI;refine zQ 60 _ h60 nu (zQ 8 _ h8 nu (zn6 ?_));refine zJ rfl (fun c61=>?_) (fun c61=>?_)
  ·have hlj:j < (l[k]'hlt).par.length:=by omega
   have hmx:=hpar.1;unfold vz at hmx;obtain⟨pb,po,rfl,hpb,hpc⟩:=hpar.at_ hlj;replace hpc:=hB.cell hpb hpc;refine zn7 ?_;refine wl (qK (v:= .int _ _) U3 rfl rfl hpc) (zn5 ?_);refine yQ [64,65,66,67,68,69,70] 70 (.bool (decide ((l[k]'hlt).par[j] < 0∨(k:Int)≤(l[k]'hlt).par[j]))) nu ?_ (fun gq=>?_)
   ·refine zn4 ?_;refine zV 66 rfl (fun g66=>?_) (fun g66=>?_)
    ·refine zn4 ?_;refine zW (e_R ⟨rfl,agA,?_⟩);exact clA
    refine zn7 ?_;refine zW (e_R ⟨rfl,agA,?_⟩);exact clA
   refine e_S ?_;refine zJ rfl (fun c70=>?_) (fun c70=>?_)
   ·have hty:j8 l k=3:=by rw [hP,List.drop_eq_getElem_cons hlj];simp only [u6,if_pos c70]
    refine zn3 ?_;refine zX fn62 (jX _ _ _) rfl (fun e' w17 hr=>?_);obtain⟨rfl,s14⟩:=hr;replace s14:=sB s14;refine⟨_,rfl,?_⟩;replace hb2:=hb2.tr0 s14;refine zk hb2 rfl rfl J3 rfl zK (fun w18 hq s15=>?_);replace hb2:=hq;refine Zk ?_;refine xX (.inl rfl) rfl (zw U36 rfl rfl hb2.range0 J3) ?_;replace hB:=(hB.tr0 s14).tr1 s15 lo2;exact⟨xW (hR'.trans (y9 (c:=3) om hty dE)),hB⟩
   refine jy ?_;refine zJ rfl (fun c75=>?_) (fun c75=>?_)
   ·have hty:j8 l k=13:=by rw [hP,List.drop_eq_getElem_cons hlj];simp only [u6,if_neg c70,if_pos c75]
    refine zn3 ?_;refine zX fn62 (jX _ _ _) rfl (fun e' w19 hr=>?_);obtain⟨rfl,s16⟩:=hr;replace s16:=sB s16;refine⟨_,rfl,?_⟩;replace hb2:=hb2.tr0 s16;refine zk hb2 rfl rfl J3 rfl zK (fun w20 hq s17=>?_);replace hb2:=hq;refine Zk ?_;refine xX (.inl rfl) rfl (zw U36 rfl rfl hb2.range0 J3) ?_;replace hB:=(hB.tr0 s16).tr1 s17 lo2;exact⟨xW (hR'.trans (y9 (c:=13) om hty dE)),hB⟩
   have hP':j8 l k=u6 k (l[k]'hlt).par[j] ((l[k]'hlt).par.drop (j + 1)):=by rw [hP,List.drop_eq_getElem_cons hlj];simp only [u6,if_neg c70,if_neg c75]
   refine vQ ?_;refine yq ((l[k]'hlt).par.length - (j + 1)) om agA ?_;exact⟨j + 1,(l[k]'hlt).par[j],by omega,rfl,rfl,rfl,rfl,hP'⟩
  have hty:=Lib.hid (show j8 l k=0 by rw [hP,List.drop_eq_nil_of_le om];rfl);refine jy ?_;refine yq (l.length - (k + 1)) om agA ?_;exact⟨k + 1,IY mp (l[k]'hlt).name (.int .i64 k),by omega,rfl,rfl,hB,hb2,hb20,hmp',hR'.trans (jY hlt hty.out)⟩
 refine zn7 ?_;refine wl (uJ (vs:=#[]) (cs:=#[.int .i64 0,.int .i64 0]) (by simp) kR) ?_;refine zk hb2 rfl rfl J3 rfl zK (fun w21 hq s18=>?_);replace hb2:=hq;refine zn3 ?_;refine xX (.inl rfl) rfl (zw U36 rfl rfl hb2.range0 J3) ?_;replace hB:=hB.tr1 s18 lo2;exact⟨xW (hR'.trans (uq om)),hB⟩
end Go.Proofs.YtdgnllfbooklcaaDoor
namespace Go.Proofs.YtdgnllfbooklcaaDoor
open Go.RowKit
def Nj (l:List Ty) (i:Nat):List Nat:=match l[i]? with
  | none=>[]
  | some t=>t.par.map Int.toNat
def Sv (l:List Ty):Nat→Nat→Nat→Bool
  | 0,a,b=>decide (a=b)
  | f + 1,a,b=>decide (a=b) || (Nj l a).any (fun p=>Sv l f p b)
def sub (l:List Ty) (a b:Nat):Bool:=Sv l a a b
def VT (l:List Ty):Prop:=∀ i (h:i < l.length),∀ p ∈ (l[i]).par,0≤p∧p < (i:Int)
theorem VT.par {l:List Ty} (h:VT l) {a p:Nat} (hp:p ∈ Nj l a):p < a:=by
  unfold Nj at hp;by_cases ha:a < l.length
  · rw [List.getElem?_eq_getElem ha] at hp
    simp only [List.mem_map] at hp;obtain⟨q,hq,rfl⟩:=hp;have:=h a ha q hq;omega
  · rw [List.getElem?_eq_none om] at hp;cases hp
theorem Ox {α:Type} {l:List α} {p q:α→Bool} (h:∀ x ∈ l,p x=q x):l.any p=l.any q:=by
  induction l with
  | nil=>rfl
  | cons a r ih=>
    simp only [List.any_cons];rw [h a (by simp),ih (fun x hx=>h x (by simp [hx]))]
theorem GK {l:List Ty} (hv:VT l) (b:Nat):∀ (n a:Nat),a≤n→∀ f,a≤f→Sv l f a b=Sv l a a b:=by
  intro n
  induction n with
  | zero=>
    intro a ha f hf;have:a=0:=by omega
    subst this;have hp:Nj l 0= []:=by
      cases h:Nj l 0 with
      | nil=>rfl
      | cons p r=>exact absurd (hv.par (a:=0) (p:=p) (by rw [h];simp)) om
    cases f <;> simp [Sv,hp]
  | succ n ih=>
    intro a ha f hf;cases a with
    | zero=>exact ih 0 om f om
    | succ a=>
      cases f with
      | zero=>omega
      | succ f=>
        simp only [Sv]
        congr 1
        apply Ox
        intro p hp;have:=hv.par hp;rw [ih p om f om,ih p om a om]
theorem F7 {l:List Ty} (hv:VT l) (a b:Nat):sub l a b=(decide (a=b) || (Nj l a).any (fun p=>sub l p b)):=by
  unfold sub;cases a with
  | zero=>
    have hp:Nj l 0= []:=by
      cases h:Nj l 0 with
      | nil=>rfl
      | cons p r=>exact absurd (hv.par (a:=0) (p:=p) (by rw [h];simp)) om
    simp [Sv,hp]
  | succ a=>
    conv=>lhs;unfold Sv
    congr 1
    apply Ox
    intro p hp;have:=hv.par hp;rw [GK hv b (a + 1) p om a om]
theorem X2 {l:List Ty} (hv:VT l) (a:Nat):sub l a a=true:=by rw [F7 hv];simp
theorem XJ {l:List Ty} (hv:VT l) (a b:Nat):sub l a b=true ↔ a=b∨∃ p ∈ Nj l a,sub l p b=true:=by
  rw [F7 hv];simp
theorem sub_le {l:List Ty} (hv:VT l):∀ (n a b:Nat),a≤n→sub l a b=true→b≤a:=by
  intro n
  induction n with
  | zero=>
    intro a b ha h;rcases(XJ hv a b).1 h with rfl | ⟨p,hp,_⟩
    · omega
    · have:=hv.par hp;omega
  | succ n ih=>
    intro a b ha h;rcases(XJ hv a b).1 h with rfl | ⟨p,hp,hs⟩
    · omega
    · have:=hv.par hp
      have:=ih p b om hs;omega
theorem K6 {l:List Ty} (hv:VT l) {a b:Nat} (h:sub l a b=true):b≤a:=sub_le hv a a b (Nat.le_refl _) h
theorem GJ {l:List Ty} (hv:VT l) (c:Nat):∀ (n a b:Nat),a≤n→sub l a b=true→sub l b c=true→sub l a c=true:=by
  intro n
  induction n with
  | zero=>
    intro a b ha h h2;rcases(XJ hv a b).1 h with rfl | ⟨p,hp,_⟩
    · exact h2
    · have:=hv.par hp;omega
  | succ n ih=>
    intro a b ha h h2;rcases(XJ hv a b).1 h with rfl | ⟨p,hp,hs⟩
    · exact h2
    · have:=hv.par hp
      exact(XJ hv a c).2 (.inr ⟨p,hp,ih p b om hs h2⟩)
theorem QK {l:List Ty} (hv:VT l) {a b c:Nat} (h:sub l a b=true) (h2:sub l b c=true):sub l a c=true:=GJ hv c a a b (Nat.le_refl _) h h2
theorem sub_par {l:List Ty} (hv:VT l) {i:Nat} (hi:i < l.length) {p:Int} (hp:p ∈ (l[i]).par):sub l i p.toNat=true:=by
  refine(XJ hv i _).2 (.inr ⟨p.toNat,?_,X2 hv _⟩);simp only [Nj,List.getElem?_eq_getElem hi,List.mem_map];exact⟨p,hp,rfl⟩
def parB (ps:List Int) (x:Nat):Bool:=ps.any (fun p=>decide (p=(x:Int)))
theorem T0 (ps:List Int) (x:Nat):parB ps x=true ↔ (x:Int) ∈ ps:=by simp [parB]
structure Marks (l:List Ty) (a i:Nat) (mk:Nat→Bool):Prop where
  ok:∀ j,mk j=true→sub l a j=true
  all:∀ c,c≤i→sub l a c=true→∃ j,j≤i∧mk j=true∧sub l j c=true
theorem Marks.start {l:List Ty} (hv:VT l) (a:Nat):Marks l a a (fun j=>if j=a then true else false):=
  ⟨fun j h=>by
    by_cases e:j=a
    · subst e;exact X2 hv _
    · simp [e] at h,fun c _ h=>⟨a,Nat.le_refl _,by simp,h⟩⟩
theorem Marks.yes {l:List Ty} (hv:VT l) {a i:Nat} {mk:Nat→Bool} (h:Marks l a i mk) (hi:i < l.length) (hm:mk i=true):Marks l a (i - 1) (fun x=>mk x || parB (l[i]).par x):=
  ⟨fun j hj=>by
    simp only [Bool.or_eq_true] at hj
    rcases hj with hj | hj
    · exact h.ok j hj
    · have:=sub_par hv hi ((T0 _ _).1 hj)
      simp only [Int.toNat_natCast] at this
      exact QK hv (h.ok i hm) this,fun c hc hs=>by
    by_cases hi0:i=0
    · subst hi0
      obtain⟨j,hj,h1,h2⟩:=h.all c om hs
      exact⟨j,by omega,by simp [h1],h2⟩
    obtain⟨j,hj,h1,h2⟩:=h.all c om hs
    by_cases e:j=i
    · subst e
      rcases(XJ hv j c).1 h2 with rfl | ⟨p,hp,hps⟩
      · omega
      · have hlt:=hv.par hp
        refine⟨p,by omega,?_,hps⟩
        simp only [Nj,List.getElem?_eq_getElem hi,List.mem_map] at hp
        obtain⟨q,hq,rfl⟩:=hp
        have:=hv j hi q hq
        have hq':((q.toNat:Nat):Int) ∈ (l[j]).par:=by rw [Int.toNat_of_nonneg this.1];exact hq
        simp only [Bool.or_eq_true]
        exact .inr ((T0 _ _).2 hq')
    · exact⟨j,by omega,by simp [h1],h2⟩⟩
theorem Marks.no {l:List Ty} {a i:Nat} {mk:Nat→Bool} (h:Marks l a i mk) (hm:mk i=false):Marks l a (i - 1) mk:=
  ⟨h.ok,fun c hc hs=>by
    obtain⟨j,hj,h1,h2⟩:=h.all c om hs
    by_cases e:j=i
    · subst e;rw [hm] at h1;cases h1
    · exact⟨j,by omega,h1,h2⟩⟩
theorem Marks.end_ {l:List Ty} (hv:VT l) {a b i:Nat} {mk:Nat→Bool} (h:Marks l a i mk) (hi:i≤b) (hb:b≤a→b≤i):mk b=sub l a b:=by
  cases hs:sub l a b
  · cases hm:mk b
    · rfl
    · rw [h.ok b hm] at hs;cases hs
  · have hle:=K6 hv hs
    have hib:i=b:=Nat.le_antisymm hi (hb hle);subst hib;obtain⟨j,hj,h1,h2⟩:=h.all i (Nat.le_refl _) hs;have:=K6 hv h2;have:j=i:=by omega
    subst this;exact h1
end Go.Proofs.YtdgnllfbooklcaaDoor
namespace Go.Proofs.YtdgnllfbooklcaaDoor
open Go.RowKit
def j7 (p:Nat→Bool):Nat→Nat
  | 0=>0
  | n + 1=>j7 p n ||| (if p n then 2 ^ n else 0)
theorem j6 (p:Nat→Bool):∀ (n j:Nat),(j7 p n).testBit j=(decide (j < n) && p j)
  | 0,j=>by simp [j7]
  | n + 1,j=>by
    rw [j7,Nat.testBit_or,j6 p n j]
    by_cases h:j=n
    · subst h
      cases hp:p j <;> simp [Nat.testBit_two_pow_self]
    · have h1:(if p n then 2 ^ n else 0:Nat).testBit j=false:=by
        cases hp:p n
        · simp
        · simp [Ne.symm h]
      have h2:decide (j < n + 1)=decide (j < n):=by simp;omega
      rw [h1,h2];simp
theorem mask_lt (p:Nat→Bool) (n:Nat):j7 p n < 2 ^ n:=by
  apply Nat.lt_pow_two_of_testBit
  intro i hi;rw [j6];simp;omega
theorem ZW (p:Nat→Bool) {n:Nat} (h:n≤60):j7 p n < 18446744073709551616:=by
  have h1:=mask_lt p n;have h2:2 ^ n≤2 ^ 60:=Nat.pow_le_pow_right dE h;have h3:(2:Nat) ^ 60=1152921504606846976:=by decide
  omega
theorem Vv {x:Nat} {p:Nat→Bool} {n:Nat} (h:∀ j,x.testBit j=(decide (j < n) && p j)):x=j7 p n:=
  Nat.eq_of_testBit_eq (fun j=>by rw [h,j6])
theorem j5 {p q:Nat→Bool} {n:Nat} (h:∀ j,j < n→p j=q j):j7 p n=j7 q n:=by
  apply Vv
  intro j;rw [j6];by_cases hj:j < n
  · rw [h j hj]
  · simp [hj]
theorem L2 (p q:Nat→Bool) (n:Nat):j7 p n ||| j7 q n=j7 (fun j=>p j || q j) n:=
  Vv (fun j=>by rw [Nat.testBit_or,j6,j6];cases decide (j < n) <;> simp)
theorem mask_and (p q:Nat→Bool) (n:Nat):j7 p n &&& j7 q n=j7 (fun j=>p j && q j) n:=
  Vv (fun j=>by rw [Nat.testBit_and,j6,j6];cases decide (j < n) <;> simp)
theorem Tz {k n:Nat} (h:k < n):2 ^ k=j7 (fun j=>decide (j=k)) n:=by
  apply Vv
  intro j;rw [Nat.testBit_two_pow];by_cases e:k=j
  · subst e;simp [h]
  · simp [e,Ne.symm e]
theorem mask_zero (n:Nat):j7 (fun _=>false) n=0:=by
  symm;apply Vv;intro j;simp
theorem mask_eq_zero {p:Nat→Bool} {n:Nat}:j7 p n=0 ↔ ∀ j,j < n→p j=false:=by
  constructor
  · intro h j hj
    have:=j6 p n j;rw [h] at this
    simpa [hj] using this.symm
  · intro h
    rw [← mask_zero n];exact j5 h
theorem mask_inj {p q:Nat→Bool} {n:Nat}:j7 p n=j7 q n ↔ ∀ j,j < n→p j=q j:=by
  constructor
  · intro h j hj
    have h1:=j6 p n j;have h2:=j6 q n j;rw [h] at h1;rw [h1] at h2
    simpa [hj] using h2
  · exact j5
theorem D0 (x j:Nat):decide (((x >>> j) &&& 1)=1)=x.testBit j:=by
  rw [Nat.testBit_eq_decide_div_mod_eq,Nat.shiftRight_eq_div_pow,Nat.and_one_is_mod]
theorem I9 {p:Nat→Bool} {n:Nat} (hn:n≤60) (h0:j7 p n≠0):Lib.ctz 64 (j7 p n) < n∧p (Lib.ctz 64 (j7 p n))=true∧∀ j,j < Lib.ctz 64 (j7 p n)→p j=false:=by
  have hlt:j7 p n < 2 ^ 64:=by
    have h1:=ZW p hn;have h2:(2:Nat) ^ 64=18446744073709551616:=by decide
    omega
  obtain⟨m,hm,hk⟩:=Lib.ctzFrom_spec 64 (j7 p n) om hlt;have e:Lib.ctz 64 (j7 p n)=Lib.ctzFrom 64 (j7 p n):=by simp [Lib.ctz,h0]
  rw [e]
  generalize hc:Lib.ctzFrom 64 (j7 p n)=c at *
  have hb:∀ j,(j7 p n).testBit j=(decide (c≤j) && (2 * m + 1).testBit (j - c)):=by
    intro j;rw [hm,Nat.mul_comm,Nat.testBit_mul_two_pow]
  have hcb:(j7 p n).testBit c=true:=by rw [hb];simp
  rw [j6] at hcb;simp only [Bool.and_eq_true,decide_eq_true_eq] at hcb;refine⟨hcb.1,hcb.2,fun j hj=>?_⟩;have:=hb j;rw [j6] at this;have hcj:¬c≤j:=by omega
  simp only [hcj,decide_false,Bool.false_and] at this;have hjn:j < n:=by omega
  simpa [hjn] using this
def TabIn (w:World):Prop:=0 < w.heap.size∧∀ k,k < 64→w.cell? ⟨0,0 + k * 1,none⟩=some (.int .u8 ((Lib.deBruijn64tab.getD k 0:Nat):Int))
theorem TabIn.mono {w w':World} (h:TabIn w) (hb:Bel w w'):TabIn w':=⟨nLL h.1 hb.size,fun k hk=>hb.cell h.1 (h.2 k hk)⟩
theorem ctz_eq {x c:Nat} (h0:x≠0) (hx:x < 18446744073709551616) (hc:18446744073709551616 - x=c):x &&& c=2 ^ Lib.ctz 64 x∧Lib.ctz 64 x < 64:=by
  subst hc
  exact Lib.lowest_bit 64 x h0 (by have : (2 : Nat) ^ 64 = 18446744073709551616 := by decide
                                   omega)
def tzI (x:Nat):Nat:=((x &&& (18446744073709551616 - x)) * 285870213051353865 % 18446744073709551616) >>> 58
theorem tzI_spec {x:Nat} (h0:x≠0) (hx:x < 18446744073709551616):tzI x < 64∧Lib.deBruijn64tab.getD (tzI x) 0=Lib.ctz 64 x:=by
  have h:=ctz_eq h0 hx rfl;have h2:=Lib.deBruijn64_at (Lib.ctz 64 x) h.2;unfold tzI;rw [h.1,Nat.shiftRight_eq_div_pow];exact h2
def upN (l:List Ty) (i:Nat):Nat:=j7 (fun j=>sub l i j) l.length
def Z1 (l:List Ty) (j:Nat):Nat:=j7 (fun i=>sub l i j) l.length
def rU (n:Nat) (g:Nat→Nat):Array Value:=row n (fun i=> .int .u64 (g i))
def TableIn (w:World) (l:List Ty) (bu bd:Nat):Prop:=Blk w bu 117 (rU l.length (upN l))∧Blk w bd 117 (rU l.length (Z1 l))
theorem Blk.bel {w w':World} {b:Nat} {t:TypeId} {cs:Array Value} (h:Blk w b t cs) (hb:Bel w w'):Blk w' b t cs:=(hb.block b h.lt).trans h
theorem TableIn.mono {w w':World} {l:List Ty} {bu bd:Nat} (h:TableIn w l bu bd) (hb:Bel w w'):TableIn w' l bu bd:=⟨h.1.bel hb,h.2.bel hb⟩
theorem TableIn.up {w:World} {l:List Ty} {bu bd i:Nat} (h:TableIn w l bu bd) (hi:i < l.length):w.cell? ⟨bu,0 + i * 1,none⟩=some (.int .u64 (upN l i)):=h.1.cell (gZ hi)
theorem TableIn.down {w:World} {l:List Ty} {bu bd i:Nat} (h:TableIn w l bu bd) (hi:i < l.length):w.cell? ⟨bd,0 + i * 1,none⟩=some (.int .u64 (Z1 l i)):=h.2.cell (gZ hi)
theorem RX {l:List Ty} (h:l.length≤60) (i:Nat):upN l i < 18446744073709551616:=ZW _ h
theorem R3 {l:List Ty} (h:l.length≤60) (i:Nat):Z1 l i < 18446744073709551616:=ZW _ h
def OQ (n bu bd:Nat):Value:= .agg #[.slice (some ⟨bu,0,none⟩) n n,.slice (some ⟨bd,0,none⟩) n n]
def oj (l:List Ty) (a b:Nat) (i:Nat):Bool:=sub l i a && sub l i b
def vx (l:List Ty) (a b:Nat):Nat:=j7 (oj l a b) l.length
theorem comm_and (l:List Ty) (a b:Nat):Z1 l a &&& Z1 l b=vx l a b:=mask_and _ _ _
def jj (l:List Ty) (a b:Nat):Nat×Bool×Bool:=
  if vx l a b=0 then (0,false,false)
  else if Z1 l (Lib.ctz 64 (vx l a b))≠vx l a b then (0,false,true)
  else (Lib.ctz 64 (vx l a b),true,false)
def meetV (r:Nat×Bool×Bool):Value:= .tuple #[.int .i64 r.1,.bool r.2.1,.bool r.2.2]
theorem Ey {m:Nat} {p q:Bool} {r:Nat×Bool×Bool} (h:r=(m,p,q)):Ending.returned (.tuple #[.int .i64 (m:Int),.bool p,.bool q])= .returned (meetV r):=by rw [h];rfl
end Go.Proofs.YtdgnllfbooklcaaDoor
namespace Go.Proofs.YtdgnllfbooklcaaDoor
open Go.RowKit
theorem fn76:zZ Tryd.prog 76=true:=by kernel_rfl
theorem Hq:(Tryd.prog.info? 117).map (·.size)=some 1:=by kernel_rfl
theorem sz5:(Tryd.prog.info? 5).map (·.size)=some 1:=by kernel_rfl
theorem tz_any (x:Nat) (w:World) (h0:x≠0) (hx:x < 18446744073709551616) (hTab:TabIn w):Calls Tryd.prog 76 #[.int .u64 x] w fun e w'=>e= .returned (.int .i64 (Lib.ctz 64 x:Nat))∧w=w':=by
 have hz:=tzI_spec h0 hx;have hgd:=hTab.2 (tzI x) hz.1;rw [hz.2] at hgd;refine enter Tryd.func76 Tryd.ntmps76 rfl (Nat.le_of_ble_eq_true rfl) (vQ ?_);refine zJ rfl (fun c4=>?_) (fun c4=>?_)
 ·exact absurd c4 om
 refine zn6 ?_;refine wl (r_negU rfl om hx rfl) (wl (Jy (b:=18446744073709551616 - x) rfl rfl hx om) (wl (r_mulU (b:=285870213051353865) rfl rfl rfl) (wl (HQ (b:=58) rfl rfl dE rfl) (wl (EZ (i:=tzI x) Tryd.underlying154 sz5 rfl rfl hz.1 rfl) (wl (qK (v:= .int _ _) U5 rfl rfl hgd) (wl (r_cvI U5 U3 rfl (by have:=(ctz_eq h0 hx rfl).2;omega)) (zn5 ?_)))))));exact⟨rfl,rfl⟩
theorem T9 (l:List Ty) (bu bd a b:Nat) (w:World) (hTab:TabIn w) (hI:TableIn w l bu bd) (_hv:VT l) (h60:l.length≤60) (ha:a < l.length) (hb:b < l.length):Calls Tryd.prog 64 #[OQ l.length bu bd,.int .i64 a,.int .i64 b] w fun e w'=>e= .returned (meetV (jj l a b))∧Bel w w':=by
 have hca:=R3 h60 a;have hcb:=R3 h60 b;have hcc:vx l a b < 18446744073709551616:=ZW _ h60;refine enter Tryd.func64 Tryd.ntmps64 rfl (Nat.le_of_ble_eq_true rfl) ?_;have hB:Bel w w:=Below.refl _ _;refine zn2 ?_;refine xz (v:= .agg #[_,_]) (cs:=#[_,_]) rfl rfl (fun b3 w1 hb3 s1 hr=>?_);refine zn6 ?_;refine gK kR kR (fun w2 s2=>?_);refine zn4 ?_;replace hB:=hB.tr0 (s1.trans s2);refine ws (qK (v:= .int _ _) Yw rfl rfl ((hI.mono hB).down ha)) (zn4 ?_);refine ws (qK (v:= .int _ _) Yw rfl rfl ((hI.mono hB).down hb)) (ws (Jy rfl rfl hca hcb) (ws (kQ (v:= .int .u64 (vx l a b:Nat)) (congrArg (fun z:Nat=>Value.int .u64 (z:Int)) (comm_and l a b))) (u4 (zn8 ?_))));refine zJ rfl (fun c22=>?_) (fun c22=>?_)
 ·have hz0:vx l a b=0:=by omega
  refine zn9 ?_;refine Pq (.inl rfl) rfl rfl rfl rfl ?_;exact⟨Ey (by simp only [jj,if_pos hz0]),hB⟩
 have hne:vx l a b≠0:=fun h=>c22 (by rw [h];rfl)
 have hz:=I9 h60 hne;refine zn5 ?_;refine zX fn76 (tz_any _ _ hne hcc (hTab.mono hB)) rfl (fun e' w3 hr=>?_);obtain⟨rfl,rfl⟩:=hr;refine⟨_,rfl,?_⟩;refine zn9 ?_;refine wl (yJ (i:=Lib.ctz 64 (vx l a b)) U84 Hq rfl rfl hz.1 rfl) (wl (qK (v:= .int _ _) Yw rfl rfl ((hI.mono hB).down hz.1)) (zn4 ?_));refine zJ rfl (fun c31=>?_) (fun c31=>?_)
 ·have hne2:Z1 l (Lib.ctz 64 (vx l a b))≠vx l a b:=by omega
  refine zn9 ?_;refine Pq (.inl rfl) rfl rfl rfl rfl ?_;exact⟨Ey (by simp only [jj,if_neg hne,if_pos hne2]),hB⟩
 have heq:Z1 l (Lib.ctz 64 (vx l a b))=vx l a b:=by omega
 refine gj ?_;refine Pq (.inl rfl) rfl rfl rfl rfl ?_;exact⟨Ey (by simp only [jj,if_neg hne,heq,ne_eq,not_true_eq_false,if_false]),hB⟩
theorem BW (l:List Ty) (bu bd a b:Nat) (w:World) (hI:TableIn w l bu bd) (h60:l.length≤60) (ha:a < l.length) (hb:b < l.length):Calls Tryd.prog 50 #[OQ l.length bu bd,.int .i64 a,.int .i64 b] w fun e w'=>e= .returned (.bool (sub l a b))∧Bel w w':=by
 have hca:=RX h60 a;refine enter Tryd.func50 Tryd.ntmps50 rfl (Nat.le_of_ble_eq_true rfl) ?_;have hB:Bel w w:=Below.refl _ _;refine zn2 ?_;refine xz (v:= .agg #[_,_]) (cs:=#[_,_]) rfl rfl (fun b3 w1 hb3 s1 hr=>?_);refine zn9 ?_;replace hB:=hB.tr0 s1;refine wl (qK (v:= .int _ _) Yw rfl rfl ((hI.mono hB).up ha)) (wmI rfl (wl (HQ (b:=b) rfl rfl om rfl) (wl (Jy (b:=1) rfl rfl (Nat.lt_of_le_of_lt (Nat.shiftRight_le _ _) hca) dE) (zn6 ?_))));refine⟨jx ?_,hB⟩;have h1:=D0 (upN l a) b;unfold upN at h1;rw [j6] at h1;simp only [hb,decide_true,Bool.true_and] at h1;rw [← h1];exact decide_eq_decide.2 (by unfold upN;omega)
end Go.Proofs.YtdgnllfbooklcaaDoor
