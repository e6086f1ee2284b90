/- Feature graphs as plain values, their faults, and what is reached in them. No program in sight but for how a world holds them. The depth-first traversal of a graph as a relation, the numbers that it gives, and worlds that change in few blocks. What these functions of the program compute, at every world: slices.Index[[]bool,bool], glosswright/graph.fault, glosswright/graph.Loose, glosswright/glosswrightref3.LooseFault. -/
import Derived.Test.YtbcpgfnfiekbiaaGreatDoorHLaw
import Derived.Test.YtbcpgfnfiekbiaaGreatDoorU
import Derived.Test.YtbcpgfnfiekbiaaGreatDoorTrm
import Derived.Test.YtbcpgfnfiekbiaaGreatDoorOpen
namespace Go.Proofs.YtbcpgfnfiekbiaaGreatDoor
open Go.RowKit
structure Nd where
  ty:Int
  ln:List (Int×Int)
theorem Lj {a b:Nd} (h1:a.ty=b.ty) (h2:a.ln=b.ln):a=b:=by
  cases a;cases b;simp only at h1 h2;rw [h1,h2]
instance:DecidableEq Nd:=fun a b=>decidable_of_iff (a.ty=b.ty∧a.ln=b.ln) ⟨fun h=>Lj h.1 h.2,fun h=>by rw [h];exact⟨rfl,rfl⟩⟩
def LinksIn (w:World) (A:Option Addr) (xs:List (Int×Int)):Prop:=
  xs.length≤yJ∧(xs≠[]→∃ b o,A=some ⟨b,o,none⟩∧b < w.heap.size∧∀ k (h:k < xs.length),w.rangeAt b (o + k * 2) [.int .i64 (xs[k]).1,.int .i64 (xs[k]).2])
theorem LinksIn.mono {w w':World} {A:Option Addr} {xs:List (Int×Int)} (h:LinksIn w A xs) (hb:Bel w w'):LinksIn w' A xs:=
  ⟨h.1,fun hn=>by
    obtain⟨b,o,e,hl,hc⟩:=h.2 hn
    exact⟨b,o,e,nLL hl hb.size,fun k hk=>hb.range hl (hc k hk)⟩⟩
theorem LinksIn.at_ {w w':World} {A:Option Addr} {xs:List (Int×Int)} (h:LinksIn w A xs) (hb:Bel w w') {k:Nat} (hk:k < xs.length):
    ∃ b o,A=some ⟨b,o,none⟩∧b < w.heap.size∧w'.rangeAt b (o + k * 2) [.int .i64 (xs[k]).1,.int .i64 (xs[k]).2]:=by
  obtain⟨b,o,e,hl,hc⟩:=h.2 (by rintro rfl;simp at hk);exact⟨b,o,e,hl,hb.range hl (hc k hk)⟩
def NdIn (w:World) (b o:Nat) (n:Nd):Prop:=∃ A c,w.rangeAt b o [.int .i64 n.ty,.slice A n.ln.length c]∧LinksIn w A n.ln
def NodesIn (w:World) (A:Option Addr) (g:List Nd):Prop:=
  g.length≤yJ∧(g≠[]→∃ b o,A=some ⟨b,o,none⟩∧b < w.heap.size∧∀ k (h:k < g.length),NdIn w b (o + k * 2) g[k])
theorem NdIn.mono {w w':World} {b o:Nat} {n:Nd} (h:NdIn w b o n) (hb:Bel w w') (hl:b < w.heap.size):NdIn w' b o n:=by
  obtain⟨A,c,h1,h2⟩:=h;exact⟨A,c,hb.range hl h1,h2.mono hb⟩
theorem NodesIn.mono {w w':World} {A:Option Addr} {g:List Nd} (h:NodesIn w A g) (hb:Bel w w'):NodesIn w' A g:=
  ⟨h.1,fun hn=>by
    obtain⟨b,o,e,hl,hc⟩:=h.2 hn
    exact⟨b,o,e,nLL hl hb.size,fun k hk=>(hc k hk).mono hb hl⟩⟩
theorem NodesIn.at_ {w w':World} {A:Option Addr} {g:List Nd} (h:NodesIn w A g) (hb:Bel w w') {k:Nat} (hk:k < g.length):
    ∃ b o A' c,A=some ⟨b,o,none⟩∧b < w.heap.size∧w'.rangeAt b (o + k * 2) [.int .i64 (g[k]).ty,.slice A' (g[k]).ln.length c]∧LinksIn w A' (g[k]).ln:=by
  obtain⟨b,o,e,hl,hc⟩:=h.2 (by rintro rfl;simp at hk);obtain⟨A',c,h1,h2⟩:=hc k hk;exact⟨b,o,A',c,e,hl,hb.range hl h1,h2⟩
def oJ (nf n:Nat) (x:Int×Int):Prop:=x.1 < 0∨(nf:Int)≤x.1∨x.2 < 0∨(n:Int)≤x.2
instance (nf n:Nat) (x:Int×Int):Decidable (oJ nf n x):=by unfold oJ;infer_instance
def yY (nf n:Nat):Int→List (Int×Int)→Int
  | _,[]=>0
  | last,x :: xs=>if oJ nf n x then 3 else if x.1≤last then 13 else yY nf n x.1 xs
def BW (nt nf n:Nat) (x:Nd):Int:=if x.ty < 0∨(nt:Int)≤x.ty then 3 else yY nf n (-1) x.ln
def Q1 (nt nf:Nat) (g:List Nd) (i:Nat):Int:=match g[i]? with
  | none=>0
  | some x=>BW nt nf g.length x
def vJ (nt nf:Nat) (g:List Nd):Fl:=if g.length=0∨60 < g.length then (2,-2) else x8 (Q1 nt nf g) 0 g.length
theorem Vz {nt nf:Nat} {g:List Nd} {i:Nat} (hi:i < g.length) (h:(g[i]).ty < 0∨(nt:Int)≤(g[i]).ty):Q1 nt nf g i=3:=by
  simp only [Q1,List.getElem?_eq_getElem hi,BW,if_pos h]
theorem Vq {nt nf:Nat} {g:List Nd} {i:Nat} (hi:i < g.length) (h:¬((g[i]).ty < 0∨(nt:Int)≤(g[i]).ty)):Q1 nt nf g i=yY nf g.length (-1) ((g[i]).ln.drop 0):=by
  simp only [Q1,List.getElem?_eq_getElem hi,BW,if_neg h,List.drop_zero]
theorem ln_bad {nf n:Nat} {last:Int} {xs:List (Int×Int)} {j:Nat} (hj:j < xs.length) (h:oJ nf n xs[j]):yY nf n last (xs.drop j)=3:=by
  rw [List.drop_eq_getElem_cons hj];simp only [yY,if_pos h]
theorem ln_ord {nf n:Nat} {last:Int} {xs:List (Int×Int)} {j:Nat} (hj:j < xs.length) (h:¬oJ nf n xs[j]) (h2:(xs[j]).1≤last):yY nf n last (xs.drop j)=13:=by
  rw [List.drop_eq_getElem_cons hj];simp only [yY,if_neg h,if_pos h2]
theorem S7 {nf n:Nat} {last:Int} {xs:List (Int×Int)} {j:Nat} (hj:j < xs.length) (h:¬oJ nf n xs[j]) (h2:¬(xs[j]).1≤last):yY nf n last (xs.drop j)=yY nf n (xs[j]).1 (xs.drop (j + 1)):=by
  rw [List.drop_eq_getElem_cons hj];simp only [yY,if_neg h,if_neg h2]
theorem ln_end {nf n:Nat} {last:Int} {xs:List (Int×Int)} {j:Nat} (hj:xs.length≤j):yY nf n last (xs.drop j)=0:=by
  rw [List.drop_eq_nil_of_le hj];rfl
theorem O1 {nf n:Nat}:∀ {xs:List (Int×Int)} {last:Int},yY nf n last xs=0→∀ x ∈ xs,¬oJ nf n x
  | [],_,_,x,hx=>by cases hx
  | y :: ys,last,h,x,hx=>by
    unfold yY at h
    by_cases h1:oJ nf n y
    · rw [if_pos h1] at h;cases h
    rw [if_neg h1] at h
    by_cases h2:y.1≤last
    · rw [if_pos h2] at h;cases h
    rw [if_neg h2] at h
    rcases List.mem_cons.1 hx with rfl | hx
    · exact h1
    · exact O1 h x hx
theorem MX {nf n:Nat}:∀ {xs:List (Int×Int)} {last:Int},yY nf n last xs=0→-1≤last→last < nf→(xs.length:Int)≤nf - 1 - last
  | [],last,_,h1,h2=>by simp only [List.length_nil];omega
  | y :: ys,last,h,h1,h2=>by
    unfold yY at h
    by_cases h3:oJ nf n y
    · rw [if_pos h3] at h;cases h
    rw [if_neg h3] at h
    by_cases h4:y.1≤last
    · rw [if_pos h4] at h;cases h
    rw [if_neg h4] at h
    unfold oJ at h3
    have:=MX h oM oM
    simp only [List.length_cons]
    omega
structure GOk (nt nf:Nat) (g:List Nd):Prop where
  pos:0 < g.length
  le:g.length≤60
  ty:∀ i (h:i < g.length),0≤(g[i]).ty∧(g[i]).ty < nt
  ln:∀ i (h:i < g.length),∀ x ∈ (g[i]).ln,0≤x.1∧x.1 < nf∧0≤x.2∧x.2 < g.length
  few:∀ i (h:i < g.length),(g[i]).ln.length≤nf
structure Vv (nf:Nat) (g:List Nd):Prop where
  pos:0 < g.length
  le:g.length≤1000000
  ln:∀ i (h:i < g.length),∀ x ∈ (g[i]).ln,0≤x.1∧x.1 < nf∧0≤x.2∧x.2 < g.length
  few:∀ i (h:i < g.length),(g[i]).ln.length≤nf
theorem GOk.two {nt nf:Nat} {g:List Nd} (h:GOk nt nf g):Vv nf g:=⟨h.pos,nLT h.le dE,h.ln,h.few⟩
theorem O7 {nt nf:Nat} {g:List Nd} (h:(vJ nt nf g).1=0):GOk nt nf g:=by
  unfold vJ at h;by_cases h0:g.length=0∨60 < g.length
  · rw [if_pos h0] at h;cases h
  rw [if_neg h0] at h;have hi:∀ i (h:i < g.length),¬((g[i]).ty < 0∨(nt:Int)≤(g[i]).ty)∧yY nf g.length (-1) (g[i]).ln=0:=fun i hl=>by
    have h1:=jv h i (Nat.zero_le _) oM;by_cases h2:(g[i]).ty < 0∨(nt:Int)≤(g[i]).ty
    · rw [Vz hl h2] at h1;cases h1
    · rw [Vq hl h2,List.drop_zero] at h1
      exact⟨h2,h1⟩
  refine⟨by omega,by omega,fun i hl=>?_,fun i hl x hx=>?_,fun i hl=>?_⟩
  · have:=(hi i hl).1;omega
  · have:=O1 (hi i hl).2 x hx
    unfold oJ at this;omega
  · have:=MX (hi i hl).2 oM oM
    omega
theorem KV {nt nf:Nat} {g:List Nd} (h:(vJ nt nf g).1=0):∀ i (hi:i < g.length),yY nf g.length (-1) (g[i]).ln=0:=fun i hl=>by
  unfold vJ at h
  by_cases h0:g.length=0∨60 < g.length
  · rw [if_pos h0] at h;cases h
  rw [if_neg h0] at h
  have h1:=jv h i (Nat.zero_le _) oM
  by_cases h2:(g[i]).ty < 0∨(nt:Int)≤(g[i]).ty
  · rw [Vz hl h2] at h1;cases h1
  · rw [Vq hl h2,List.drop_zero] at h1
    exact h1
theorem DY {f:Nat→Int}:∀ {m i:Nat},(x8 f i m).1=0→x8 f i m=(0,0)
  | 0,_,_=>rfl
  | m + 1,i,h=>by
    unfold x8 at h ⊢
    by_cases h3:f i≠0
    · rw [if_pos h3] at h;exact absurd h h3
    · rw [if_neg h3] at h ⊢;exact DY h
def ftAt (fs:List Ft) (z:Int):Ft:=fs.getD z.toNat ⟨⟨#[]⟩,0,0⟩
def BY (g:List Nd) (z:Int):Nd:=g.getD z.toNat ⟨0,[]⟩
def P8 (l:List Ty) (fs:List Ft) (g:List Nd) (t:Int) (x:Int×Int):Bool:=
  !(sub l t.toNat (ftAt fs x.1).of.toNat) || !(sub l (BY g x.2).ty.toNat (ftAt fs x.1).val.toNat)
def tyN (l:List Ty) (fs:List Ft) (g:List Nd) (i:Nat):Int:=match g[i]? with
  | none=>0
  | some x=>if x.ln.any (P8 l fs g x.ty) then 12 else 0
def tyF (l:List Ty) (fs:List Ft) (g:List Nd):Fl:=x8 (tyN l fs g) 0 g.length
theorem GZ {l:List Ty} {fs:List Ft} {g:List Nd} {i j:Nat} (hi:i < g.length) (hj:j < (g[i]).ln.length) (h:P8 l fs g (g[i]).ty (g[i]).ln[j]=true):tyN l fs g i=12:=by
  simp only [tyN,List.getElem?_eq_getElem hi];rw [if_pos (List.any_eq_true.2 ⟨_,List.getElem_mem hj,h⟩)]
theorem tyN_no {l:List Ty} {fs:List Ft} {g:List Nd} {i:Nat} (hi:i < g.length) (h:∀ j (hj:j < (g[i]).ln.length),P8 l fs g (g[i]).ty (g[i]).ln[j]=false):tyN l fs g i=0:=by
  simp only [tyN,List.getElem?_eq_getElem hi];rw [if_neg];intro hc;obtain⟨x,hx,h2⟩:=List.any_eq_true.1 hc;obtain⟨j,hj,rfl⟩:=List.getElem_of_mem hx;rw [h j hj] at h2;cases h2
inductive Rch (g:List Nd):Nat→Prop
  | zero:Rch g 0
  | step {i:Nat} {x:Int×Int} (h:Rch g i) (hi:i < g.length) (hx:x ∈ (g[i]).ln):Rch g x.2.toNat
def CL (g:List Nd) (mk:Nat→Bool):Prop:=∀ i (hi:i < g.length),mk i=true→∀ x ∈ (g[i]).ln,mk x.2.toNat=true
def Only (g:List Nd) (mk:Nat→Bool):Prop:=∀ i,mk i=true→Rch g i
theorem reach_cl {g:List Nd} {mk:Nat→Bool} (h0:mk 0=true) (hc:CL g mk) {i:Nat} (h:Rch g i):mk i=true:=by
  induction h with
  | zero=>exact h0
  | step h hi hx ih=>exact hc _ hi ih _ hx
def UnrIs (g:List Nd) (r:Int):Prop:=(r= -1∧∀ i,i < g.length→Rch g i)∨∃ k:Nat,r=k∧k < g.length∧¬Rch g k∧∀ i,i < k→Rch g i
theorem UnrIs.uniq {g:List Nd} {r s:Int} (h:UnrIs g r) (k:UnrIs g s):r=s:=by
  rcases h with ⟨h1,h2⟩ | ⟨a,h1,h2,h3,h4⟩ <;> rcases k with ⟨k1,k2⟩ | ⟨b,k1,k2,k3,k4⟩
  · omega
  · exact absurd (h2 b k2) k3
  · exact absurd (k2 a h2) h3
  · have:¬a < b:=fun h=>h3 (k4 a h)
    have:¬b < a:=fun h=>k3 (h4 b h)
    omega
noncomputable def VK (g:List Nd):Int:=@Classical.epsilon Int ⟨0⟩ (UnrIs g)
theorem Cq {g:List Nd} {r:Int} (h:UnrIs g r):r=VK g:=h.uniq (@Classical.epsilon_spec Int (UnrIs g) ⟨r,h⟩)
structure AllM (g:List Nd) (mk:Nat→Bool):Prop where
  zero:mk 0=true
  only:Only g mk
  cl:CL g mk
theorem AllM.no {g:List Nd} {mk:Nat→Bool} (h:AllM g mk) {k:Nat} (hk:k < g.length) (hm:mk k=false) (hb:∀ i,i < k→mk i=true):((k:Nat):Int)=VK g:=
  Cq (.inr ⟨k,rfl,hk,fun hr=>absurd ((reach_cl h.zero h.cl hr).symm.trans hm) (by simp),fun i hi=>h.only i (hb i hi)⟩)
theorem AllM.yes {g:List Nd} {mk:Nat→Bool} (h:AllM g mk) (hb:∀ i,i < g.length→mk i=true):(-1:Int)=VK g:=
  Cq (.inl ⟨rfl,fun i hi=>h.only i (hb i hi)⟩)
def oz (mk:Nat→Bool) (j:Nat) (x:Nat):Bool:=if x=j then true else mk x
theorem V8 (mk:Nat→Bool) (j:Nat):oz mk j j=true:=by simp [oz]
theorem kV {mk:Nat→Bool} {j x:Nat} (h:mk x=true):oz mk j x=true:=by
  unfold oz;split
  · rfl
  · exact h
theorem uV {mk:Nat→Bool} {j x:Nat} (h:oz mk j x=true):x=j∨mk x=true:=by
  unfold oz at h;by_cases e:x=j
  · exact .inl e
  · rw [if_neg e] at h;exact .inr h
def jK (n:Nat) (mk:Nat→Bool):Nat:=(List.range n).countP (fun i=>!mk i)
theorem Nz (n:Nat) (mk:Nat→Bool):jK n mk≤n:=by
  have:=List.countP_le_length (p:=fun i=>!mk i) (l:=List.range n)
  simpa [jK] using this
theorem FZ {n j:Nat} {mk:Nat→Bool} (hj:j < n) (h:mk j=false):jK n (oz mk j) < jK n mk:=
  o6 (fun x hx=>by
    cases hm:mk x with
    | false=>rfl
    | true=>
      have:=kV (j:=j) hm
      simp [this] at hx) (List.range n) j (List.mem_range.2 hj) (by simp [h]) (by simp [V8])
structure DS (g:List Nd) (mk:Nat→Bool) (st:List Int) (i k:Nat):Prop where
  zero:mk 0=true
  only:Only g mk
  stk:∀ s ∈ st,∃ n:Nat,s=(n:Int)∧n < g.length∧mk n=true
  cl:∀ j (hj:j < g.length),mk j=true→j≠i→(j:Int) ∈ st∨∀ x ∈ (g[j]).ln,mk x.2.toNat=true
  me:∀ (hi:i < g.length),mk i=true∧∀ x ∈ (g[i]).ln.take k,mk x.2.toNat=true
theorem DS.start {g:List Nd} (h:0 < g.length):DS g (oz (fun _=>false) 0) [0] g.length 0:=
  ⟨by simp [oz],fun i hi=>by
    rcases uV hi with rfl | h
    · exact .zero
    · exact absurd h Bool.false_ne_true,fun s hs=>by
    obtain rfl:=List.mem_singleton.1 hs
    exact⟨0,rfl,h,by simp [oz]⟩,fun j hj hm _=>by
    rcases uV hm with rfl | h
    · exact .inl (by simp)
    · exact absurd h Bool.false_ne_true,fun hi=>absurd hi (Nat.lt_irrefl _)⟩
theorem DS.pop {g:List Nd} {mk:Nat→Bool} {st:List Int} {z:Int} (h:DS g mk (st ++ [z]) g.length 0):∃ n:Nat,z=(n:Int)∧n < g.length∧DS g mk st n 0:=by
  obtain⟨n,rfl,hn,hm⟩:=h.stk z (by simp);refine⟨n,rfl,hn,h.zero,h.only,fun s hs=>h.stk s (by simp [hs]),fun j hj hmj hne=>?_,fun hi=>⟨hm,fun x hx=>by simp at hx⟩⟩;rcases h.cl j hj hmj oM with h1 | h1
  · rcases List.mem_append.1 h1 with h2 | h2
    · exact .inl h2
    · have:=List.mem_singleton.1 h2
      omega
  · exact .inr h1
theorem DS.old {g:List Nd} {mk:Nat→Bool} {st:List Int} {i k:Nat} (h:DS g mk st i k) (hi:i < g.length) (hk:k < (g[i]).ln.length) (hm:mk ((g[i]).ln[k]).2.toNat=true):DS g mk st i (k + 1):=
  ⟨h.zero,h.only,h.stk,h.cl,fun _=>⟨(h.me hi).1,fun x hx=>by
    rw [List.take_succ_eq_append_getElem hk] at hx
    rcases List.mem_append.1 hx with hx | hx
    · exact(h.me hi).2 x hx
    · rw [List.mem_singleton.1 hx];exact hm⟩⟩
theorem DS.new {g:List Nd} {mk:Nat→Bool} {st:List Int} {i k t:Nat} (h:DS g mk st i k) (hi:i < g.length) (hk:k < (g[i]).ln.length) (ht:((g[i]).ln[k]).2=(t:Int)) (htl:t < g.length):DS g (oz mk t) (st ++ [(t:Int)]) i (k + 1):=
  ⟨kV h.zero,fun j hj=>by
    rcases uV hj with rfl | hj
    · have:=Rch.step (h.only i (h.me hi).1) hi (List.getElem_mem hk)
      rw [ht] at this;simpa using this
    · exact h.only j hj,fun s hs=>by
    rcases List.mem_append.1 hs with hs | hs
    · obtain⟨n,h1,h2,h3⟩:=h.stk s hs
      exact⟨n,h1,h2,kV h3⟩
    · exact⟨t,List.mem_singleton.1 hs,htl,V8 _ _⟩,fun j hj hm hne=>by
    rcases uV hm with rfl | hm
    · exact .inl (by simp)
    · rcases h.cl j hj hm hne with h1 | h1
      · exact .inl (by simp [h1])
      · exact .inr (fun x hx=>kV (h1 x hx)),fun _=>⟨kV (h.me hi).1,fun x hx=>by
    rw [List.take_succ_eq_append_getElem hk] at hx
    rcases List.mem_append.1 hx with hx | hx
    · exact kV ((h.me hi).2 x hx)
    · rw [List.mem_singleton.1 hx,ht];simp [V8]⟩⟩
theorem DS.done {g:List Nd} {mk:Nat→Bool} {st:List Int} {i k:Nat} (h:DS g mk st i k) (hi:i < g.length) (hk:k=(g[i]).ln.length):DS g mk st g.length 0:=
  ⟨h.zero,h.only,h.stk,fun j hj hm _=>by
    by_cases e:j=i
    · subst e
      have h1:=(h.me hj).2
      rw [hk,List.take_length] at h1
      exact .inr h1
    · exact h.cl j hj hm e,fun hi=>absurd hi (Nat.lt_irrefl _)⟩
theorem DS.end_ {g:List Nd} {mk:Nat→Bool} (h:DS g mk [] g.length 0):AllM g mk:=
  ⟨h.zero,h.only,fun i hi hm x hx=>by
    rcases h.cl i hi hm oM with h1 | h1
    · cases h1
    · exact h1 x hx⟩
def cntN (n:Nat) (mk:Nat→Bool):Nat:=(List.range n).countP mk
theorem cnt_le (n:Nat) (mk:Nat→Bool):cntN n mk≤n:=by
  have:=List.countP_le_length (p:=mk) (l:=List.range n)
  simpa [cntN] using this
structure PS (g:List Nd) (mk:Nat→Bool) (p:Nat):Prop where
  zero:mk 0=true
  only:Only g mk
  far:CL g mk∨p + 1≤cntN g.length mk
structure PP (g:List Nd) (m0 mk:Nat→Bool) (i k:Nat):Prop where
  zero:mk 0=true
  only:Only g mk
  sup:∀ j,m0 j=true→mk j=true
  same:CL g m0→∀ j,mk j=true→m0 j=true
  done:∀ j (hj:j < g.length),j < i→m0 j=true→∀ x ∈ (g[j]).ln,mk x.2.toNat=true
  me:∀ (hi:i < g.length),m0 i=true→∀ x ∈ (g[i]).ln.take k,mk x.2.toNat=true
theorem PS.start {g:List Nd} (h:0 < g.length):PS g (oz (fun _=>false) 0) 0:=
  ⟨by simp [oz],fun i hi=>by
    rcases uV hi with rfl | h
    · exact .zero
    · exact absurd h Bool.false_ne_true,.inr (by
    have:0 < cntN g.length (oz (fun _=>false) 0):=List.countP_pos_iff.2 ⟨0,List.mem_range.2 h,by simp [oz]⟩
    omega)⟩
theorem PP.start {g:List Nd} {mk:Nat→Bool} {p:Nat} (h:PS g mk p):PP g mk mk 0 0:=
  ⟨h.zero,h.only,fun _ h=>h,fun _ _ h=>h,fun j _ hj=>by omega,fun _ _ x hx=>by simp at hx⟩
theorem PP.skip {g:List Nd} {m0 mk:Nat→Bool} {i k:Nat} (h:PP g m0 mk i k) (hm:mk i=false):PP g m0 mk i (k + 1):=
  ⟨h.zero,h.only,h.sup,h.same,h.done,fun _ h0=>absurd ((h.sup i h0).symm.trans hm) (by simp)⟩
theorem PP.mark {g:List Nd} {m0 mk:Nat→Bool} {i k t:Nat} (h:PP g m0 mk i k) (hi:i < g.length) (hk:k < (g[i]).ln.length) (ht:((g[i]).ln[k]).2=(t:Int)) (hm:mk i=true):PP g m0 (oz mk t) i (k + 1):=
  ⟨kV h.zero,fun j hj=>by
    rcases uV hj with rfl | hj
    · have:=Rch.step (h.only i hm) hi (List.getElem_mem hk)
      rw [ht] at this;simpa using this
    · exact h.only j hj,fun j hj=>kV (h.sup j hj),fun hc j hj=>by
    rcases uV hj with rfl | hj
    · have:=hc i hi (h.same hc i hm) _ (List.getElem_mem hk)
      rw [ht] at this;simpa using this
    · exact h.same hc j hj,fun j hj hji h0 x hx=>kV (h.done j hj hji h0 x hx),fun _ h0 x hx=>by
    rw [List.take_succ_eq_append_getElem hk] at hx
    rcases List.mem_append.1 hx with hx | hx
    · exact kV (h.me hi h0 x hx)
    · rw [List.mem_singleton.1 hx,ht];simp [V8]⟩
theorem PP.next {g:List Nd} {m0 mk:Nat→Bool} {i k:Nat} (h:PP g m0 mk i k) (hi:i < g.length) (hk:k=(g[i]).ln.length):PP g m0 mk (i + 1) 0:=
  ⟨h.zero,h.only,h.sup,h.same,fun j hj hji h0 x hx=>by
    by_cases e:j=i
    · subst e
      have:=h.me hj h0
      rw [hk,List.take_length] at this
      exact this x hx
    · exact h.done j hj oM h0 x hx,fun _ _ x hx=>by simp at hx⟩
theorem PP.end_ {g:List Nd} (hr:∀ i (hi:i < g.length),∀ x ∈ (g[i]).ln,x.2.toNat < g.length) {m0 mk:Nat→Bool} {p:Nat} (h0:PS g m0 p) (h:PP g m0 mk g.length 0):PS g mk (p + 1):=by
  refine⟨h.zero,h.only,?_⟩;have hcl:CL g m0→CL g mk:=fun hc i hi hm x hx=>h.sup _ (hc i hi (h.same hc i hm) x hx)
  by_cases hc:CL g m0
  · exact .inl (hcl hc)
  · right
    rcases h0.far with h1 | h1
    · exact absurd h1 hc
    · have hex:∃ i,∃ hi:i < g.length,m0 i=true∧∃ x,x ∈ (g[i]).ln∧m0 x.2.toNat=false:=Classical.byContradiction (fun hn=>hc (fun i hi hm x hx=>by
        cases hv:m0 x.2.toNat with
        | true=>rfl
        | false=>exact absurd ⟨i,hi,hm,x,hx,hv⟩ hn))
      obtain⟨i,hi,hm,x,hx,hv⟩:=hex;have hnew:=h.done i hi hi hm x hx;have hl:=hr i hi x hx;have:cntN g.length m0 < cntN g.length mk:=o6 h.sup (List.range g.length) _ (List.mem_range.2 hl) hnew hv;omega
theorem PS.end_ {g:List Nd} {mk:Nat→Bool} (h:PS g mk g.length):AllM g mk:=
  ⟨h.zero,h.only,by
    rcases h.far with h1 | h1
    · exact h1
    · have:=cnt_le g.length mk
      omega⟩
theorem snoc_of {st:List Int} (h:0 < st.length):∃ s z,st=s ++ [z]:=by
  rcases List.eq_nil_or_concat st with rfl | ⟨s,z,rfl⟩
  · cases h
  · exact⟨s,z,List.concat_eq_append⟩
theorem Rq {n j:Nat} {mk:Nat→Bool}:row n (fun x=>if x=j then Value.bool true else .bool (mk x))=row n (fun x=> .bool (oz mk j x)):=
  yz (fun x _=>by by_cases e:x=j <;> simp [oz,e])
theorem gok_rng {nt nf:Nat} {g:List Nd} (h:GOk nt nf g):∀ i (hi:i < g.length),∀ x ∈ (g[i]).ln,x.2.toNat < g.length:=fun i hi x hx=>by
  have:=h.ln i hi x hx;omega
structure FOk (nt:Nat) (fs:List Ft):Prop where
  at_:∀ i (h:i < fs.length),0≤(fs[i]).of∧(fs[i]).of < nt∧0≤(fs[i]).val∧(fs[i]).val < nt
theorem O9 {l:List Ty} {fs:List Ft} (h:(qZ l fs).1=0):FOk l.length fs:=by
  unfold qZ at h;by_cases h4:40 < fs.length
  · rw [if_pos h4] at h;cases h
  rw [if_neg h4] at h;by_cases ht:(xx l).1≠0
  · rw [if_pos ht] at h;exact absurd h ht
  rw [if_neg ht] at h;by_cases hu:(u9 l).1≠0
  · rw [if_pos hu] at h;exact absurd h hu
  rw [if_neg hu] at h;refine⟨fun i hi=>?_⟩;have h1:=jv h i (Nat.zero_le _) oM;by_cases hn:xj (fs[i]).name=false
  · rw [ft10 l.length fs i hi hn] at h1;cases h1
  have hn':xj (fs[i]).name=true:=by simpa using hn
  by_cases hs:jX ((fs.take i).map (·.name)) (fs[i]).name=true
  · rw [ft7 l.length fs i hi hn' hs] at h1;cases h1
  have hs':jX ((fs.take i).map (·.name)) (fs[i]).name=false:=by simpa using hs
  by_cases hb:O8 l.length fs[i]
  · rw [ft3 l.length fs i hi hn' hs' hb] at h1;cases h1
  · unfold O8 at hb;omega
theorem lnTy_at {l:List Ty} {fs:List Ft} {g:List Nd} {t:Int} {x:Int×Int} {fi ti yn on vn zn:Nat} (h1:x.1=(fi:Int)) (hfi:fi < fs.length) (h2:x.2=(ti:Int)) (hti:ti < g.length) (ht:t=(yn:Int)) (ho:(fs[fi]).of=(on:Int)) (hv:(fs[fi]).val=(vn:Int)) (hz:(g[ti]).ty=(zn:Int)):
    P8 l fs g t x=(!sub l yn on || !sub l zn vn):=by
  unfold P8 ftAt BY;rw [h1,h2,ht];have e1:fs.getD (fi:Int).toNat ⟨⟨#[]⟩,0,0⟩=fs[fi]:=by simp [List.getD,hfi]
  have e2:g.getD (ti:Int).toNat ⟨0,[]⟩=g[ti]:=by simp [List.getD,hti]
  rw [e1,e2,ho,hv,hz];simp
noncomputable def yV (l:List Ty) (fs:List Ft) (g:List Nd):Fl:=
  if (vJ l.length fs.length g).1≠0 then vJ l.length fs.length g else if (tyF l fs g).1≠0 then tyF l fs g else if 0≤VK g then (5,VK g) else (0,0)
theorem Jq {l:List Ty} {fs:List Ft} {g:List Nd} (h:¬(vJ l.length fs.length g).1=0):yV l fs g=((vJ l.length fs.length g).1,(vJ l.length fs.length g).2):=by unfold yV;rw [if_pos h]
theorem wi_ty {l:List Ty} {fs:List Ft} {g:List Nd} {k:Int} (h:(vJ l.length fs.length g).1=0) (ht:tyF l fs g=(12,k)):yV l fs g=(12,k):=by
  unfold yV;rw [if_neg (fun e=>e h),ht];rfl
theorem WV {l:List Ty} {fs:List Ft} {g:List Nd} (h:(vJ l.length fs.length g).1=0) (ht:tyF l fs g=(0,0)) (hu:0≤VK g):yV l fs g=(5,VK g):=by
  unfold yV;rw [if_neg (fun e=>e h),ht,if_neg (fun e=>e rfl),if_pos hu]
theorem C9 {l:List Ty} {fs:List Ft} {g:List Nd} (h:(vJ l.length fs.length g).1=0) (ht:tyF l fs g=(0,0)) (hu:¬0≤VK g):yV l fs g=(0,0):=by
  unfold yV;rw [if_neg (fun e=>e h),ht,if_neg (fun e=>e rfl),if_neg hu]
noncomputable def uq (l:List Ty) (fs:List Ft) (g:List Nd):Fl:=if (qZ l fs).1≠0 then qZ l fs else yV l fs g
theorem gf_hier {l:List Ty} {fs:List Ft} {g:List Nd} (h:¬(qZ l fs).1=0):uq l fs g=((qZ l fs).1,(qZ l fs).2):=by unfold uq;rw [if_pos h]
theorem gf_in {l:List Ty} {fs:List Ft} {g:List Nd} (h:(qZ l fs).1=0):uq l fs g=((yV l fs g).1,(yV l fs g).2):=by unfold uq;rw [if_neg (fun e=>e h)]
end Go.Proofs.YtbcpgfnfiekbiaaGreatDoor
namespace Go.Proofs.YtbcpgfnfiekbiaaGreatDoor
open Go.RowKit
def nd (g:List Nd) (i:Nat):Nd:=g.getD i ⟨0,[]⟩
theorem kJ {g:List Nd} {i:Nat} (hi:i < g.length):nd g i=g[i]:=by simp [nd,List.getD,hi]
def yK (g:List Nd) (i:Nat):List Nat:=(nd g i).ln.map (fun x=>x.2.toNat)
inductive DL (g:List Nd):List Nat→List Nat→List Nat→Prop
  | nil {o:List Nat}:DL g [] o o
  | old {i:Nat} {is o o':List Nat} (h:i ∈ o) (t:DL g is o o'):DL g (i :: is) o o'
  | new {i:Nat} {is o o1 o':List Nat} (h:¬i ∈ o) (s:DL g (yK g i) (o ++ [i]) o1) (t:DL g is o1 o'):DL g (i :: is) o o'
theorem DL.det {g:List Nd} {is o a:List Nat} (h:DL g is o a):∀ {b:List Nat},DL g is o b→a=b:=by
  induction h with
  | nil=>intro b k;cases k;rfl
  | old h t ih=>
    intro b k;cases k with
    | old h' t'=>exact ih t'
    | new h' s' t'=>exact absurd h h'
  | new h s t ihs iht=>
    intro b k;cases k with
    | old h' t'=>exact absurd h' h
    | new h' s' t'=>
      have:=ihs s';subst this;exact iht t'
theorem DL.append {g:List Nd} {xs a b:List Nat} (h:DL g xs a b):∀ {ys c:List Nat},DL g ys b c→DL g (xs ++ ys) a c:=by
  induction h with
  | nil=>intro ys c k;exact k
  | old h t ih=>intro ys c k;exact .old h (ih k)
  | new h s t ihs iht=>intro ys c k;exact .new h s (iht k)
def Zj (o:List Nat) (x:Nat):Bool:=decide (x ∈ o)
structure OOk (n:Nat) (o:List Nat):Prop where
  lt:∀ x ∈ o,x < n
  cnt:o.length + jK n (Zj o)≤n
theorem OOk.nil (n:Nat):OOk n []:=⟨fun x hx=>by simp at hx,by have:=Nz n (Zj []);simpa using this⟩
theorem Vx {n i:Nat} {o:List Nat} (hi:i < n) (h:¬i ∈ o):jK n (Zj (o ++ [i])) < jK n (Zj o):=
  o6 (fun x hx=>by
    simp only [Zj,Bool.not_eq_true',decide_eq_false_iff_not,List.mem_append,not_or] at hx ⊢
    exact hx.1) (List.range n) i (List.mem_range.2 hi) (by simp [Zj,h]) (by simp [Zj])
theorem Dw (n:Nat) (o s:List Nat):jK n (Zj (o ++ s))≤jK n (Zj o):=
  List.countP_mono_left (fun x _ hx=>by
    simp only [Zj,Bool.not_eq_true',decide_eq_false_iff_not,List.mem_append,not_or] at hx ⊢
    exact hx.1)
theorem OOk.snoc {n i:Nat} {o:List Nat} (h:OOk n o) (hi:i < n) (hn:¬i ∈ o):OOk n (o ++ [i]):=
  ⟨fun x hx=>by
    rcases List.mem_append.1 hx with hx | hx
    · exact h.lt x hx
    · rw [List.mem_singleton.1 hx];exact hi,by
    have h1:=Vx hi hn
    have h2:=h.cnt
    simp only [List.length_append,List.length_cons,List.length_nil]
    omega⟩
theorem DL.ok {g:List Nd} (hr:∀ i,i < g.length→∀ t ∈ yK g i,t < g.length) {is o o':List Nat} (h:DL g is o o'):(∀ i ∈ is,i < g.length)→OOk g.length o→OOk g.length o'∧∃ s,o'=o ++ s:=by
  induction h with
  | nil=>intro _ k;exact⟨k,[],by simp⟩
  | old h t ih=>intro hi k;exact ih (fun i h=>hi i (List.mem_cons_of_mem _ h)) k
  | new h s t ihs iht=>
    intro hi k;have hlt:=hi _ (List.mem_cons_self ..);obtain⟨h1,s1,e1⟩:=ihs (hr _ hlt) (k.snoc hlt h);obtain⟨h2,s2,e2⟩:=iht (fun i h=>hi i (List.mem_cons_of_mem _ h)) h1;exact⟨h2,_,by rw [e2,e1,List.append_assoc,List.append_assoc]⟩
theorem V7 {nf:Nat} {g:List Nd} (h:Vv nf g):∀ i,i < g.length→∀ t ∈ yK g i,t < g.length:=fun i hi t ht=>by
  simp only [yK,kJ hi,List.mem_map] at ht
  obtain⟨x,hx,rfl⟩:=ht
  have:=h.ln i hi x hx
  omega
theorem E3 {g:List Nd} {i j t:Nat} (hi:i < g.length) (hj:j < (g[i]).ln.length) (ht:((g[i]).ln[j]).2=(t:Int)):(yK g i).take (j + 1)=(yK g i).take j ++ [t]:=by
  have hl:j < (yK g i).length:=by simp [yK,kJ hi,hj]
  rw [List.take_succ_eq_append_getElem hl]
  congr 2
  simp [yK,kJ hi,ht]
def kv (o:List Nat) (x:Nat):Int:=if x ∈ o then (o.idxOf x:Nat) else -1
theorem Fx (x:Nat):kv [] x= -1:=by simp [kv]
theorem Fj {o:List Nat} {x:Nat} (h:¬0≤kv o x):¬x ∈ o:=fun hx=>h (by simp only [kv,if_pos hx];omega)
theorem Fq {o:List Nat} {x:Nat} (h:0≤kv o x):x ∈ o:=by
  unfold kv at h;by_cases hx:x ∈ o
  · exact hx
  · rw [if_neg hx] at h;omega
theorem numO_snoc {o:List Nat} {i:Nat} (h:¬i ∈ o) (x:Nat):(if x=i then ((o.length:Nat):Int) else kv o x)=kv (o ++ [i]) x:=by
  unfold kv;by_cases e:x=i
  · subst e
    simp [List.idxOf_append,h]
  · by_cases hx:x ∈ o
    · simp [e,hx,List.idxOf_append]
    · simp [e,hx]
theorem row_num {n:Nat} {o:List Nat} {i:Nat} (h:¬i ∈ o):row n (fun x=>if x=i then Value.int .i64 ((o.length:Nat):Int) else .int .i64 (kv o x))=row n (fun x=> .int .i64 (kv (o ++ [i]) x)):=
  yz (fun x _=>by rw [← numO_snoc h];split <;> rfl)
def oV (o:List Nat):List Value:=o.map (fun(n:Nat)=>Value.int .i64 (n:Int))
theorem own_oV {w:World} {base:Nat} {A:Option Addr} {cap i:Nat} {o:List Nat} (h:Own w base 3 1 A (o.length + 1) cap (oV o ++ [Value.int .i64 (i:Int)])):Own w base 3 1 A (o ++ [i]).length cap (oV (o ++ [i])):=by
  unfold oV at h ⊢;rw [List.length_append,List.map_append];exact h
theorem sl_oV (A:Option Addr) (cap:Nat) (o:List Nat) (i:Nat):Value.slice A (o.length + 1) cap=Value.slice A (o ++ [i]).length cap:=by rw [List.length_append];rfl
structure Chg (base:Nat) (X:List Nat) (w w':World):Prop where
  os:w'.os=w.os
  tape:w'.tape=w.tape
  output:w'.output=w.output
  size:w.heap.size≤w'.heap.size
  blk:∀ k,k < base→¬k ∈ X→w'.heap[k]? =w.heap[k]?
theorem Chg.refl (base:Nat) (X:List Nat) (w:World):Chg base X w w:=⟨rfl,rfl,rfl,Nat.le_refl _,fun _ _ _=>rfl⟩
theorem Chg.trans {base:Nat} {X:List Nat} {a b c:World} (h:Chg base X a b) (k:Chg base X b c):Chg base X a c:=
  ⟨k.os.trans h.os,k.tape.trans h.tape,k.output.trans h.output,nLT h.size k.size,fun i hi hx=>(k.blk i hi hx).trans (h.blk i hi hx)⟩
theorem Chg.st {base:Nat} {X Y:List Nat} {a b c:World} (h:Chg base X a b) (k:Same Y b c) (hb:base≤b.heap.size) (hy:∀ g ∈ Y,g ∈ X∨base≤g):Chg base X a c:=
  h.trans ⟨k.os,k.tape,k.output,k.size,fun i hi hx=>k.blk i (nLL hi hb) (fun hm=>by
    rcases hy i hm with h1 | h1
    · exact hx h1
    · omega)⟩
theorem Blk.chg {base b t:Nat} {X:List Nat} {w w':World} {cs:Array Value} (h:Blk w b t cs) (hc:Chg base X w w') (hb:b < base) (hx:¬b ∈ X):Blk w' b t cs:=(hc.blk b hb hx).trans h
theorem Bel.chg {base:Nat} {X:List Nat} {w0 w w':World} (h:Bel w0 w) (hc:Chg base X w w') (hb:w0.heap.size≤base) (hx:∀ g ∈ X,w0.heap.size≤g):Bel w0 w':=
  ⟨hc.os.trans h.os,hc.tape.trans h.tape,hc.output.trans h.output,nLT h.size hc.size,fun k hk=>(hc.blk k (nLL hk hb) (fun hm=>by have:=hx k hm;omega)).trans (h.block k hk)⟩
def uv (m:Nat) (f h:Nat→Value):Array Value:=Array.ofFn (n:=m * 2) (fun i=>if i.val % 2=0 then f (i.val / 2) else h (i.val / 2))
theorem gQ (m:Nat) (f h:Nat→Value):(uv m f h).size=m * 2:=by simp [uv]
theorem D6 {m i:Nat} {f h:Nat→Value} (hi:i < m):(uv m f h)[0 + i * 2 + 0]? =some (f i):=by
  have e1:0 + i * 2 + 0=i * 2:=by omega
  have e2:i * 2 < m * 2:=by omega
  rw [e1];simp [uv,e2]
theorem IX {m i:Nat} {f h:Nat→Value} (hi:i < m):(uv m f h)[0 + i * 2 + 1]? =some (h i):=by
  have e1:0 + i * 2 + 1=i * 2 + 1:=by omega
  have e2:i * 2 + 1 < m * 2:=by omega
  have e3:(i * 2 + 1) % 2=1:=by omega
  have e4:(i * 2 + 1) / 2=i:=by omega
  rw [e1];simp [uv,e2,e3,e4]
theorem D4 {m i:Nat} {f h:Nat→Value} {v:Value}:(uv m f h).setIfInBounds (0 + i * 2 + 0) v=uv m (fun j=>if j=i then v else f j) h:=by
  apply Array.ext
  · simp [uv]
  · intro k h1 h2
    rw [Array.getElem_setIfInBounds (by simpa using h1)];simp only [uv,Array.getElem_ofFn];by_cases e:0 + i * 2 + 0=k
    · have e1:k % 2=0:=by omega
      have e2:k / 2=i:=by omega
      rw [if_pos e];simp [e1,e2]
    · rw [if_neg e]
      by_cases e1:k % 2=0
      · have e2:¬k / 2=i:=by omega
        simp [e1,e2]
      · simp [e1]
theorem D3 {m i:Nat} {f h:Nat→Value} {v:Value}:(uv m f h).setIfInBounds (0 + i * 2 + 1) v=uv m f (fun j=>if j=i then v else h j):=by
  apply Array.ext
  · simp [uv]
  · intro k h1 h2
    rw [Array.getElem_setIfInBounds (by simpa using h1)];simp only [uv,Array.getElem_ofFn];by_cases e:0 + i * 2 + 1=k
    · have e1:k % 2=1:=by omega
      have e2:k / 2=i:=by omega
      rw [if_pos e];simp [e1,e2]
    · rw [if_neg e]
      by_cases e1:k % 2=0
      · simp [e1]
      · have e2:¬k / 2=i:=by omega
        simp [e1,e2]
theorem Xq {m:Nat} {f f' h h':Nat→Value} (hf:∀ j,j < m→f j=f' j) (hh:∀ j,j < m→h j=h' j):uv m f h=uv m f' h':=by
  apply Array.ext
  · simp [uv]
  · intro k h1 h2
    have hk:k < m * 2:=by simpa [uv] using h1
    simp only [uv,Array.getElem_ofFn];rw [hf _ oM,hh _ oM]
theorem D5 (m:Nat) (a b:Value):madeCells #[a,b] (m * 2)=uv m (fun _=>a) (fun _=>b):=by
  apply Array.ext
  · simp [uv,madeCells]
  · intro k h1 h2
    simp only [uv,madeCells,Array.getElem_ofFn,Array.getElem_map,Array.getElem_range];rcases(by omega:k % 2=0∨k % 2=1) with e | e
    · simp [e]
    · simp [e]
def X3 (o:List Nat) (x:Int×Int):Int×Int:=(x.1,kv o x.2.toNat)
def canN (g:List Nd) (o:List Nat) (i:Nat):Nd:=⟨(nd g i).ty,(nd g i).ln.map (X3 o)⟩
def jY (g:List Nd) (o:List Nat):List Nd:=o.map (canN g o)
def lnV (xs:List (Int×Int)):List Value:=xs.flatMap (fun x=>[Value.int .i64 x.1,Value.int .i64 x.2])
theorem u4 (xs:List (Int×Int)) (x:Int×Int):lnV xs ++ [Value.int .i64 x.1,Value.int .i64 x.2]=lnV (xs ++ [x]):=by simp [lnV]
theorem lnV_get:∀ (xs:List (Int×Int)) (k:Nat) (hk:k < xs.length),(lnV xs)[k * 2]? =some (Value.int .i64 (xs[k]).1)∧(lnV xs)[k * 2 + 1]? =some (Value.int .i64 (xs[k]).2)
  | [],k,hk=>by simp at hk
  | x :: xs,0,_=>by simp [lnV]
  | x :: xs,k + 1,hk=>by
    have h:=lnV_get xs k (by simpa using hk)
    have e1:(k + 1) * 2=k * 2 + 1 + 1:=by omega
    have e2:(k + 1) * 2 + 1=k * 2 + 1 + 1 + 1:=by omega
    have e3:lnV (x :: xs)=Value.int .i64 x.1 :: Value.int .i64 x.2 :: lnV xs:=by simp [lnV]
    rw [e1,e3]
    simpa using h
theorem M0 {w:World} {base:Nat} {A:Option Addr} {cap:Nat} {xs:List (Int×Int)} (h:Own w base 115 2 A xs.length cap (lnV xs)):LinksIn w A xs:=
  ⟨h.max,fun hn=>by
    have hne:lnV xs≠[]:=by
      cases xs with
      | nil=>exact absurd rfl hn
      | cons x r=>simp [lnV]
    obtain⟨g,e,hb,hg,hc⟩:=h.cell hne;refine⟨g,0,e,hg,fun k hk j v hj=>?_⟩;have h2:=lnV_get xs k hk
    match j,hj with
    | 0,hj=>cases hj;have:=hc _ _ h2.1;simpa using this
    | 1,hj=>cases hj;have:=hc _ _ h2.2;simpa using this
    | _ + 2,hj=>cases hj⟩
structure FrSame (B:Nat) (w w2:World):Prop where
  size:w.heap.size≤w2.heap.size
  blk:∀ k,B≤k→k < w.heap.size→w2.heap[k]? =w.heap[k]?
theorem FrSame.of {B:Nat} {w0 w w':World} {X:List Nat} (h:FrSame B w0 w) (hs:Same X w w') (hx:∀ g ∈ X,g < B∨w0.heap.size≤g):FrSame B w0 w':=
  ⟨nLT h.size hs.size,fun k hk hk2=>by
    rw [hs.blk k (nLL hk2 h.size) (fun hm=>by have:=hx k hm;omega)]
    exact h.blk k hk hk2⟩
theorem FrSame.refl (B:Nat) (w:World):FrSame B w w:=⟨Nat.le_refl _,fun _ _ _=>rfl⟩
theorem FrSame.at_ {B b t:Nat} {w w2:World} {cs:Array Value} (h:FrSame B w w2) (hb:Blk w b t cs) (hl:B≤b):Blk w2 b t cs:=(h.blk b hl hb.lt).trans hb
def RowO (w:World) (lo bs:Nat) (v:Value) (xs:List (Int×Int)):Prop:=∃ A c,v= .slice A xs.length c∧Own w lo 115 2 A xs.length c (lnV xs)∧∀ g ∈ aL A,g < bs
theorem Own.typ {w:World} {base:Nat} {e:TypeId} {sz:Nat} {A:Option Addr} {k cap:Nat} {xs:List Value} (h:Own w base e sz A k cap xs):∀ g ∈ aL A,∃ cs,Blk w g e cs:=fun g hg=>by
  rcases h.2 with ⟨hn,_⟩ | ⟨g',c,cur,hv,hb,hgg,r⟩
  · cases hn;cases hg
  · cases hv
    simp only [aL,List.mem_singleton] at hg
    subst hg;exact⟨cur,hgg⟩
theorem RowO.tr {w w':World} {lo bs:Nat} {v:Value} {xs:List (Int×Int)} {X:List Nat} (h:RowO w lo bs v xs) (hs:Same X w w') (hx:∀ g ∈ X,bs≤g∨∃ cs t,Blk w g t cs∧t≠115):RowO w' lo bs v xs:=by
  obtain⟨A,c,h1,h2,h3⟩:=h;refine⟨A,c,h1,h2.tr hs (fun g hg hm=>?_),h3⟩;rcases hx g hm with h4 | ⟨cs,t,h4,h5⟩
  · have:=h3 g hg;omega
  · obtain⟨cs2,h6⟩:=h2.typ g hg
    exact h5 (jW h4 h6)
theorem RowO.up {w:World} {lo bs bs':Nat} {v:Value} {xs:List (Int×Int)} (h:RowO w lo bs v xs) (hb:bs≤bs'):RowO w lo bs' v xs:=by
  obtain⟨A,c,h1,h2,h3⟩:=h;exact⟨A,c,h1,h2,fun g hg=>nLL (h3 g hg) hb⟩
theorem RowO.of {w:World} {lo base:Nat} {A:Option Addr} {cap:Nat} {xs:List (Int×Int)} (hl:lo≤base) (h:Own w base 115 2 A xs.length cap (lnV xs)):RowO w lo w.heap.size (.slice A xs.length cap) xs:=⟨A,cap,rfl,h.low hl,fun g hg=>(h.lt g hg).2⟩
theorem RowO.fr {w w2:World} {lo bs:Nat} {v:Value} {xs:List (Int×Int)} (h:RowO w lo bs v xs) (hf:FrSame lo w w2):RowO w2 lo bs v xs:=by
  obtain⟨A,c,h1,h2,h3⟩:=h;refine⟨A,c,h1,⟨h2.1,?_⟩,h3⟩;rcases h2.2 with hn | ⟨g,c,cur,hv,hb,hg,r⟩
  · exact .inl hn
  · exact .inr ⟨g,c,cur,hv,hb,(hf.blk g hb (y5 hg)).trans hg,r⟩
def OrdF (w:World) (bn bd:Nat) (A:Option Addr) (o:List Nat):Prop:=
  (o= []∧A=none)∨(o≠[]∧∃ b,A=some ⟨b,0,none⟩∧b≠bn∧b < bd∧b < w.heap.size∧∀ k (hk:k < o.length),w.cell? ⟨b,0 + k,none⟩=some (.int .i64 (o[k]:Nat)))
theorem OrdF.nil (w:World) (bn bd:Nat):OrdF w bn bd none []:= .inl ⟨rfl,rfl⟩
theorem OrdF.tr {w w':World} {bn bd:Nat} {A:Option Addr} {o:List Nat} {X:List Nat} (h:OrdF w bn bd A o) (hs:Same X w w') (hx:∀ g ∈ X,g=bn∨bd≤g):OrdF w' bn bd A o:=by
  rcases h with h | ⟨h1,b,h2,h3,h4,h5,h6⟩
  · exact .inl h
  · refine .inr ⟨h1,b,h2,h3,h4,nLL h5 hs.size,fun k hk=>?_⟩
    rw [World.cell?_of_block (hs.blk b h5 (fun hm=>by rcases hx b hm with h | h <;> omega))];exact h6 k hk
theorem OrdF.up {w:World} {bn bd bd':Nat} {A:Option Addr} {o:List Nat} (h:OrdF w bn bd A o) (hb:bd≤bd'):OrdF w bn bd' A o:=by
  rcases h with h | ⟨h1,b,h2,h3,h4,h5,h6⟩
  · exact .inl h
  · exact .inr ⟨h1,b,h2,h3,nLL h4 hb,h5,h6⟩
theorem ord_own {w:World} {base bn cap i:Nat} {g:Nat} {o:List Nat} (h:Own w base 3 1 (some ⟨g,0,none⟩) (o.length + 1) cap (oV o ++ [Value.int .i64 (i:Int)])) (hb:bn < base):OrdF w bn w.heap.size (some ⟨g,0,none⟩) (o ++ [i]):=by
  have h1:=own_oV h;obtain⟨g',e,hg1,hg2,hc⟩:=h1.cell (by simp [oV]);cases e;refine .inr ⟨by simp,g,rfl,by omega,hg2,hg2,fun k hk=>?_⟩
  have:=hc k (.int .i64 ((o ++ [i])[k]:Nat)) (by
    unfold oV
    rw [List.getElem?_map,List.getElem?_eq_getElem hk];rfl)
  simpa using this
theorem Same.freshL {X Y:List Nat} {w w1 w2:World} (h:Same X w w1) (hs:Same Y w1 w2) (hb:∀ g ∈ Y,g ∈ X∨w.heap.size≤g):Same X w w2:=
  ⟨hs.os.trans h.os,hs.tape.trans h.tape,hs.output.trans h.output,nLT h.size hs.size,fun k hk hx=>(hs.blk k (nLL hk h.size) (fun hm=>by
    rcases hb k hm with h1 | h1
    · exact hx h1
    · omega)).trans (h.blk k hk hx)⟩
def ndV (f h:Nat→Value) (k:Nat):List Value:=(List.range k).flatMap (fun x=>[f x,h x])
theorem YK (f h:Nat→Value) (k:Nat):ndV f h (k + 1)=ndV f h k ++ [f k,h k]:=by simp [ndV,List.range_succ,List.flatMap_append]
theorem Zy {f f' h h':Nat→Value}:∀ {k:Nat},(∀ x,x < k→f x=f' x)→(∀ x,x < k→h x=h' x)→ndV f h k=ndV f' h' k
  | 0,_,_=>rfl
  | k + 1,h1,h2=>by rw [YK,YK,Zy (fun x hx=>h1 x oM) (fun x hx=>h2 x oM),h1 k oM,h2 k oM]
theorem Xk (f h:Nat→Value):∀ k,(ndV f h k).length=k * 2
  | 0=>rfl
  | k + 1=>by rw [YK,List.length_append,Xk f h k];simp only [List.length_cons,List.length_nil];omega
theorem oQ (f h:Nat→Value):∀ {k x:Nat},x < k→(ndV f h k)[x * 2]? =some (f x)∧(ndV f h k)[x * 2 + 1]? =some (h x)
  | 0,_,hx=>by omega
  | k + 1,x,hx=>by
    have hl:=Xk f h k
    rw [YK]
    by_cases e:x < k
    · have ih:=oQ f h e
      rw [List.getElem?_append_left oM,List.getElem?_append_left oM]
      exact ih
    · have e2:x=k:=by omega
      subst e2
      rw [List.getElem?_append_right oM,List.getElem?_append_right oM,hl]
      have e3:x * 2 - x * 2=0:=by omega
      have e4:x * 2 + 1 - x * 2=1:=by omega
      rw [e3,e4];exact⟨rfl,rfl⟩
theorem Own.fr {w w2:World} {lo base:Nat} {e:TypeId} {sz:Nat} {A:Option Addr} {k cap:Nat} {xs:List Value} (h:Own w base e sz A k cap xs) (hl:lo≤base) (hf:FrSame lo w w2):Own w2 base e sz A k cap xs:=by
  refine⟨h.1,?_⟩;rcases h.2 with hn | ⟨g,c,cur,hv,hb,hg,r⟩
  · exact .inl hn
  · exact .inr ⟨g,c,cur,hv,hb,(hf.blk g (nLT hl hb) (y5 hg)).trans hg,r⟩
theorem nodes_own {w:World} {lo base m cap bs:Nat} {A:Option Addr} {f h:Nat→Value} {gr:List Nd} (ho:Own w base 113 2 A m cap (ndV f h m)) (hm:gr.length=m) (hf:∀ k (hk:k < gr.length),f k= .int .i64 (gr[k]).ty) (hh:∀ k (hk:k < gr.length),RowO w lo bs (h k) (gr[k]).ln):NodesIn w A gr:=
  ⟨by rw [hm];exact ho.max,fun hn=>by
    have hne:ndV f h m≠[]:=fun h0=>by
      have h1:=Xk f h m
      rw [h0] at h1
      exact hn (List.length_eq_zero_iff.1 (by simp only [List.length_nil] at h1;omega))
    obtain⟨g,e,hb,hg,hc⟩:=ho.cell hne
    refine⟨g,0,e,hg,fun k hk=>?_⟩
    obtain⟨A',c,h1,h2,_⟩:=hh k hk
    have h3:=oQ f h (show k < m by omega)
    refine⟨A',c,fun j v hj=>?_,M0 h2⟩
    match j,hj with
    | 0,hj=>cases hj;rw [← hf k hk];have:=hc _ _ h3.1;simpa using this
    | 1,hj=>cases hj;rw [← h1];have:=hc _ _ h3.2;simpa using this
    | _ + 2,hj=>cases hj⟩
end Go.Proofs.YtbcpgfnfiekbiaaGreatDoor
namespace Go.Proofs.YtbcpgfnfiekbiaaGreatDoor
open Go.RowKit
theorem DV:zK Tryz.prog 117=true:=by kernel_rfl
theorem Ez:(Tryz.prog.info? 111).map (·.size)=some 1:=by kernel_rfl
theorem kQ:(Tryz.prog.info? 113).map (·.size)=some 2:=by kernel_rfl
theorem j7:(Tryz.prog.info? 115).map (·.size)=some 2:=by kernel_rfl
theorem sz28:(Tryz.prog.info? 28).map (·.size)=some 1:=by kernel_rfl
theorem qX:(Tryz.prog.info? 3).map (·.size)=some 1:=by kernel_rfl
theorem zq:(Tryz.prog.info? 36).map (·.size)=some 2:=by kernel_rfl
theorem vj:(Tryz.prog.info? 4).map (·.size)=some 1:=by kernel_rfl
theorem NQ:(Tryz.prog.info? 113).map (·.zero)=some (some (.agg #[.int .i64 0,.slice none 0 0])):=by kernel_rfl
theorem gz:(Tryz.prog.info? 115).map (·.zero)=some (some (.agg #[.int .i64 0,.int .i64 0])):=by kernel_rfl
theorem qv:(Tryz.prog.info? 36).map (·.zero)=some (some (.agg #[.int .i64 0,.int .i64 0])):=by kernel_rfl
theorem DZ (b n:Nat) (mk:Nat→Bool) (w:World) (hb:Blk w b 4 (row n (fun x=> .bool (mk x)))) (hn:n≤1000):Calls Tryz.prog 101 #[.slice (some ⟨b,0,none⟩) n n,.bool false] w fun e w'=>(∃ r,e= .returned (.int .i64 r)∧((r= -1∧∀ i,i < n→mk i=true)∨∃ k:Nat,r=k∧k < n∧mk k=false∧∀ i,i < k→mk i=true))∧Bel w w':=by
 refine enT Tryz.func101 Tryz.ntmps101 rfl rfl fun hB=>?_;refine ZX ?_;refine zW (rg [4,5] 8 11) (fun m g w'=>∃ k:Nat,k≤n∧m=n - k∧g 8= .int .i64 k∧Bel w w'∧∀ i,i < k→mk i=true) (n) ?_ (fun m g2 w1 hI=>?_)
 ·exact⟨0,Nat.zero_le _,rfl,rfl,hB,fun i hi=>by omega⟩
 obtain⟨k,hk,hm,h8,hB,hA⟩:=hI;refine zZ 8 _ h8 nu (zn6 ?_);refine zX rfl (fun c9=>?_) (fun c9=>?_)
 ·have hlt:k < n:=by omega
  refine Nk ?_;refine wl (qV (v:= .bool _) U4 rfl rfl ((hb.bel hB).cell (yk hlt))) (wl (r_eqlB U4 rfl rfl) (zJ (e_S ?_)));refine vK rfl (fun c16=>?_) (fun c16=>?_)
  ·have hmk:mk k=false:=by simpa using c16
   refine ky ?_;exact⟨⟨_,rfl,.inr ⟨k,rfl,hlt,hmk,hA⟩⟩,hB⟩
  refine zn7 ?_;refine xv (n - (k + 1)) oM agA ?_
  exact⟨k + 1,by omega,rfl,rfl,hB,fun i hi=>by
    by_cases e:i=k
    · subst e;simpa using c16
    · exact hA i oM⟩
 have hke:k=n:=by omega
 subst hke;refine yZ ?_;exact⟨⟨_,rfl,.inl ⟨rfl,hA⟩⟩,hB⟩
theorem gK (a b:Int) (w:World):Calls Tryz.prog 117 #[.int .i64 a,.int .i64 b] w fun e w'=>e= .returned (flV (a,b))∧Bel w w':=by
 refine enT Tryz.func117 Tryz.ntmps117 rfl rfl fun hB=>?_;refine zn2 ?_;refine qq (cs:=#[.int .i64 0,.int .i64 0]) qv rfl (fun b4 w1 hb4 s1 hr=>?_);have lo4:=nLT (Bel.size hB) hr;refine zn6 ?_;refine wl (xY (v0:= .int _ _) (v1:= .int _ _) (fun v0 v1=>#[v0,v1]) rfl rfl kR) ?_;refine zk hb4 rfl rfl zq rfl zQ (fun w2 hq s2=>?_);replace hb4:=hq;refine zn3 ?_;refine x7 (.inl rfl) rfl (zy U36 rfl rfl hb4.range0 zq) ?_;exact⟨rfl,hB.u⟩
theorem loose_any (A B G:Option Addr) (c d cg:Nat) (l:List Ty) (fs:List Ft) (gr:List Nd) (w:World) (hG:NodesIn w G gr):Calls Tryz.prog 115 #[.agg #[.slice A l.length c,.slice B fs.length d],.agg #[.slice G gr.length cg]] w fun e w'=>e= .returned (flV (vJ l.length fs.length gr))∧Bel w w':=by
 refine enT Tryz.func115 Tryz.ntmps115 rfl rfl fun hB=>?_;refine zn2 ?_;refine x6 (v:= .agg #[_,_]) (cs:=#[_,_]) rfl rfl (fun b2 w1 hb2 s1 hr=>?_);refine x6 (v:= .agg #[_]) (cs:=#[_]) rfl rfl (fun b3 w2 hb3 s2 hr=>?_);refine qq (cs:=#[.int .i64 0,.int .i64 0]) qv rfl (fun b4 w3 hb4 s3 hr=>?_);have lo4:=nLT (Bel.size hB.u) hr;refine zn4 ?_;replace hB:=hB.tr0 (s1.trans (s2.trans s3));refine xJ (rg [] 10 10) 19 (.bool (decide (gr.length=0∨60 < gr.length))) nu ?_ (fun gq=>?_)
 ·refine zn6 ?_;refine zw 14 rfl (fun g14=>?_) (fun g14=>?_)
  ·refine zn5 ?_;refine zJ (e_R ⟨rfl,agA,?_⟩);exact clA
  refine zn9 ?_;refine zJ (e_R ⟨rfl,agA,?_⟩);exact clA
 refine e_S ?_;refine zX rfl (fun c19=>?_) (fun c19=>?_)
 ·refine zn2 ?_;refine zV DV (gK _ _ _) rfl (fun e' w4 hr=>?_);obtain⟨rfl,s4⟩:=hr;replace s4:=sB s4;refine⟨_,rfl,?_⟩;refine zk hb4.u rfl rfl zq rfl zQ (fun w5 hq s5=>?_);replace hb4:=hq;refine zn4 ?_;refine x7 (.inl rfl) rfl (zy U36 rfl rfl hb4.range0 zq) ?_;replace hB:=(hB.tr0 s4).tr1 s5 lo4;exact⟨qK (by simp only [vJ,if_pos c19]),hB⟩
 have hR:=Lib.hid (show vJ l.length fs.length gr=x8 (Q1 l.length fs.length gr) 0 (gr.length - 0) by simp only [vJ,if_neg c19,Nat.sub_zero]);refine yZ ?_;refine zW (rg [5,6,7,9] 24 61) (fun m g w'=>∃ k:Nat,k≤gr.length∧m=gr.length - k∧g 24= .int .i64 k∧Bel w w'∧Blk w' b2 25 #[.slice A l.length c,.slice B fs.length d]∧Blk w' b3 30 #[.slice G gr.length cg]∧Blk w' b4 36 #[.int .i64 0,.int .i64 0]∧vJ l.length fs.length gr=x8 (Q1 l.length fs.length gr) k (gr.length - k)) (gr.length) ?_ (fun m g4 w6 hI=>?_)
 ·exact⟨0,Nat.zero_le _,rfl,rfl,hB,hb2.u,hb3.u,hb4,hR.out⟩
 obtain⟨k,hk,hm,hk0,hB,hb2,hb3,hb4,hR'⟩:=hI;refine zZ 24 _ hk0 nu (zn6 ?_);refine zX rfl (fun c25=>?_) (fun c25=>?_)
 ·have hlt:k < gr.length:=by omega
  obtain⟨nb,no,LA,lc,rfl,hnb,hnr,hln⟩:=hG.at_ hB hlt;have hmx:=hln.1;unfold yJ at hmx;refine zn8 ?_;refine wl (zY I9 rfl rfl hnr kQ) ?_;refine qq (cs:=#[.int .i64 0,.slice none 0 0]) NQ rfl (fun b6 w7 hb6 s6 hr=>?_);have:=nLL hb2.lt hr;have:=nLL hb3.lt hr;have:=nLL hb4.lt hr;have lo6:=nLT (Bel.size hB) hr;refine waI rfl ?_;refine zk hb6 rfl rfl kQ rfl zQ (fun w8 hq s7=>?_);replace hb6:=hq;refine zn4 ?_;replace hB:=(hB.tr0 s6).tr1 s7 lo6;replace hb4:=(hb4.tr0 s6).tr1 s7 oM;refine xJ (rg [] 29 11) 39 (.bool (decide ((gr[k]'hlt).ty < 0∨(l.length:Int)≤(gr[k]'hlt).ty))) nu ?_ (fun gq=>?_)
  ·refine zn5 ?_;refine zw 32 rfl (fun g32=>?_) (fun g32=>?_)
   ·refine zn7 ?_;refine zJ (e_R ⟨rfl,agA,?_⟩);exact clA
   refine ky ?_;refine zJ (e_R ⟨rfl,agA,?_⟩);exact clA
  refine e_S ?_;refine zX rfl (fun c39=>?_) (fun c39=>?_)
  ·have hty:=Vz (nf:=fs.length) hlt c39;refine zn3 ?_;refine zV DV (gK _ _ _) rfl (fun e' w9 hr=>?_);obtain⟨rfl,s8⟩:=hr;replace s8:=sB s8;refine⟨_,rfl,?_⟩;refine zk hb4.u rfl rfl zq rfl zQ (fun w10 hq s9=>?_);replace hb4:=hq;refine zn9 ?_;refine x7 (.inl rfl) rfl (zy U36 rfl rfl hb4.range0 zq) ?_;exact⟨qK (hR'.trans (qQ (c:=3) oM hty dE)),hB.u⟩
  refine Nk ?_;refine zW (rg [7,9] 45 39) (fun m g w'=>∃ (j:Nat) (last:Int),j≤(gr[k]'hlt).ln.length∧m=(gr[k]'hlt).ln.length - j∧g 45= .int .i64 j∧g 7= .int .i64 last∧Bel w w'∧Blk w' b2 25 #[.slice A l.length c,.slice B fs.length d]∧Blk w' b3 30 #[.slice (some ⟨nb,no,none⟩) gr.length cg]∧Blk w' b4 36 #[.int .i64 0,.int .i64 0]∧Blk w' b6 113 #[.int .i64 (gr[k]'hlt).ty,.slice LA (gr[k]'hlt).ln.length lc]∧Q1 l.length fs.length gr k=yY fs.length gr.length last ((gr[k]'hlt).ln.drop j)) ((gr[k]'hlt).ln.length) ?_ (fun m g10 w11 hI=>?_)
  ·exact⟨0,-1,Nat.zero_le _,rfl,rfl,rfl,hB,hb2.u,hb3.u,hb4,hb6,Vq hlt c39⟩
  obtain⟨j,last,hj,hmj,h45,h7,hB,hb2,hb3,hb4,hb6,hP⟩:=hI;refine zZ 45 _ h45 nu (zZ 7 _ h7 nu (zn6 ?_));refine zX rfl (fun c46=>?_) (fun c46=>?_)
  ·have hlj:j < (gr[k]'hlt).ln.length:=by omega
   obtain⟨lb,lof,rfl,hlb,hlr⟩:=hln.at_ hB hlj;refine zn7 ?_;refine wl (zY Zk rfl rfl hlr j7) ?_;refine xV (cs:=#[.int .i64 0,.int .i64 0]) gz rfl (fun _=>rfl) (fun _=>rfl) j7 rfl zQ (fun b9 w13 hb9 s10 hr=>?_);refine zn4 ?_;replace hB:=hB.tr0 s10;replace hb4:=hb4.tr0 s10;refine xJ (rg [] 49 24) 72 (.bool (decide (((gr[k]'hlt).ln[j]'hlj).1 < 0∨(fs.length:Int)≤((gr[k]'hlt).ln[j]'hlj).1∨((gr[k]'hlt).ln[j]'hlj).2 < 0∨(gr.length:Int)≤((gr[k]'hlt).ln[j]'hlj).2))) nu ?_ (fun gq=>?_)
   ·refine zn5 ?_;refine zw 52 rfl (fun g52=>?_) (fun g52=>?_)
    ·refine zn20 ?_;refine zJ (e_R ⟨rfl,agA,?_⟩);exact clA
    refine ZX ?_;refine zw 60 rfl (fun g60=>?_) (fun g60=>?_)
    ·refine yZ ?_;refine zJ (e_R ⟨rfl,agA,?_⟩);exact clA
    refine zn8 ?_;refine zw 65 rfl (fun g65=>?_) (fun g65=>?_)
    ·refine zn7 ?_;refine zJ (e_R ⟨rfl,agA,?_⟩);exact clA
    refine ky ?_;refine zJ (e_R ⟨rfl,agA,?_⟩);exact clA
   refine e_S ?_;refine zX rfl (fun c72=>?_) (fun c72=>?_)
   ·have hty:=hP.trans (ln_bad hlj (show oJ _ _ _ from c72));refine zn3 ?_;refine zV DV (gK _ _ _) rfl (fun e' w14 hr=>?_);obtain⟨rfl,s11⟩:=hr;replace s11:=sB s11;refine⟨_,rfl,?_⟩;refine zk hb4.u rfl rfl zq rfl zQ (fun w15 hq s12=>?_);replace hb4:=hq;refine ky ?_;refine x7 (.inl rfl) rfl (zy U36 rfl rfl hb4.range0 zq) ?_;exact⟨qK (hR'.trans (qQ (c:=3) oM hty dE)),hB.u⟩
   refine vq ?_;refine zX rfl (fun c78=>?_) (fun c78=>?_)
   ·have hty:=hP.trans (ln_ord hlj (show ¬oJ _ _ _ from c72) c78);refine zn3 ?_;refine zV DV (gK _ _ _) rfl (fun e' w16 hr=>?_);obtain⟨rfl,s13⟩:=hr;replace s13:=sB s13;refine⟨_,rfl,?_⟩;refine zk hb4.u rfl rfl zq rfl zQ (fun w17 hq s14=>?_);replace hb4:=hq;refine ky ?_;refine x7 (.inl rfl) rfl (zy U36 rfl rfl hb4.range0 zq) ?_;exact⟨qK (hR'.trans (qQ (c:=13) oM hty dE)),hB.u⟩
   have hP':=hP.trans (S7 hlj (show ¬oJ _ _ _ from c72) c78);refine ky ?_;refine xv ((gr[k]'hlt).ln.length - (j + 1)) oM agA ?_;exact⟨j + 1,_,by omega,rfl,rfl,rfl,hB,hb2.u,hb3.u,hb4,hb6.u,hP'⟩
  have hty0:=hP.trans (ln_end oM);refine yv ?_;refine xv (gr.length - (k + 1)) oM agA ?_;exact⟨k + 1,by omega,rfl,rfl,hB,hb2,hb3,hb4,hR'.trans (yw hlt hty0)⟩
 refine zn7 ?_;refine wl (uW (vs:=#[]) (cs:=#[.int .i64 0,.int .i64 0]) (by simp) kR) ?_;refine zk hb4 rfl rfl zq rfl zQ (fun w18 hq s15=>?_);replace hb4:=hq;refine zn3 ?_;refine x7 (.inl rfl) rfl (zy U36 rfl rfl hb4.range0 zq) ?_;exact⟨qK (hR'.trans (vk oM)),hB.u⟩
theorem HX (A B G:Option Addr) (c d cg:Nat) (l:List Ty) (fs:List Ft) (gr:List Nd) (w:World) (hG:NodesIn w G gr):Calls Tryz.prog 65 #[.agg #[.slice A l.length c,.slice B fs.length d],.agg #[.slice G gr.length cg]] w fun e w'=>e= .returned (flV (vJ l.length fs.length gr))∧Bel w w':=by
 refine enT Tryz.func65 Tryz.ntmps65 rfl rfl fun hB=>?_;refine zn2 ?_;refine x6 (v:= .agg #[_,_]) (cs:=#[_,_]) rfl rfl (fun b2 w1 hb2 s1 hr=>?_);refine x6 (v:= .agg #[_]) (cs:=#[_]) rfl rfl (fun b3 w2 hb3 s2 hr=>?_);refine qq (cs:=#[.int .i64 0,.int .i64 0]) qv rfl (fun b4 w3 hb4 s3 hr=>?_);have lo4:=nLT (Bel.size hB.u) hr;refine zn4 ?_;replace hB:=hB.tr0 (s1.trans (s2.trans s3));refine xJ (rg [] 9 10) 18 (.bool (decide (gr.length=0∨60 < gr.length))) nu ?_ (fun gq=>?_)
 ·refine zn6 ?_;refine zw 13 rfl (fun g13=>?_) (fun g13=>?_)
  ·refine zn5 ?_;refine zJ (e_R ⟨rfl,agA,?_⟩);exact clA
  refine zn9 ?_;refine zJ (e_R ⟨rfl,agA,?_⟩);exact clA
 refine e_S ?_;refine zX rfl (fun c18=>?_) (fun c18=>?_)
 ·refine zn2 ?_;refine wl (xY (v0:= .int _ _) (v1:= .int _ _) (fun v0 v1=>#[v0,v1]) rfl rfl kR) ?_;refine zk hb4 rfl rfl zq rfl zQ (fun w4 hq s4=>?_);replace hb4:=hq;refine zn4 ?_;refine x7 (.inl rfl) rfl (zy U36 rfl rfl hb4.range0 zq) ?_;replace hB:=hB.tr1 s4 lo4;exact⟨qK (by simp only [vJ,if_pos c18]),hB⟩
 have hR:=Lib.hid (show vJ l.length fs.length gr=x8 (Q1 l.length fs.length gr) 0 (gr.length - 0) by simp only [vJ,if_neg c18,Nat.sub_zero]);refine yZ ?_;refine zW (rg [5,6,7,8] 23 70) (fun m g w'=>∃ k:Nat,k≤gr.length∧m=gr.length - k∧g 23= .int .i64 k∧Bel w w'∧Blk w' b2 25 #[.slice A l.length c,.slice B fs.length d]∧Blk w' b3 30 #[.slice G gr.length cg]∧Blk w' b4 36 #[.int .i64 0,.int .i64 0]∧vJ l.length fs.length gr=x8 (Q1 l.length fs.length gr) k (gr.length - k)) (gr.length) ?_ (fun m g4 w5 hI=>?_)
 ·exact⟨0,Nat.zero_le _,rfl,rfl,hB,hb2.u,hb3.u,hb4,hR.out⟩
 obtain⟨k,hk,hm,hk0,hB,hb2,hb3,hb4,hR'⟩:=hI;refine zZ 23 _ hk0 nu (zn6 ?_);refine zX rfl (fun c24=>?_) (fun c24=>?_)
 ·have hlt:k < gr.length:=by omega
  obtain⟨nb,no,LA,lc,rfl,hnb,hnr,hln⟩:=hG.at_ hB hlt;have hmx:=hln.1;unfold yJ at hmx;refine zn8 ?_;refine wl (zY I9 rfl rfl hnr kQ) ?_;refine qq (cs:=#[.int .i64 0,.slice none 0 0]) NQ rfl (fun b6 w6 hb6 s5 hr=>?_);have:=nLL hb2.lt hr;have:=nLL hb3.lt hr;have:=nLL hb4.lt hr;have lo6:=nLT (Bel.size hB) hr;refine waI rfl ?_;refine zk hb6 rfl rfl kQ rfl zQ (fun w7 hq s6=>?_);replace hb6:=hq;refine zn4 ?_;replace hB:=(hB.tr0 s5).tr1 s6 lo6;replace hb4:=(hb4.tr0 s5).tr1 s6 oM;refine xJ (rg [] 28 11) 38 (.bool (decide ((gr[k]'hlt).ty < 0∨(l.length:Int)≤(gr[k]'hlt).ty))) nu ?_ (fun gq=>?_)
  ·refine zn5 ?_;refine zw 31 rfl (fun g31=>?_) (fun g31=>?_)
   ·refine zn7 ?_;refine zJ (e_R ⟨rfl,agA,?_⟩);exact clA
   refine ky ?_;refine zJ (e_R ⟨rfl,agA,?_⟩);exact clA
  refine e_S ?_;refine zX rfl (fun c38=>?_) (fun c38=>?_)
  ·have hty:=Vz (nf:=fs.length) hlt c38;refine zn3 ?_;refine wl (xY (v0:= .int _ _) (v1:= .int _ _) (fun v0 v1=>#[v0,v1]) rfl rfl kR) ?_;refine zk hb4 rfl rfl zq rfl zQ (fun w8 hq s7=>?_);replace hb4:=hq;refine zn9 ?_;refine x7 (.inl rfl) rfl (zy U36 rfl rfl hb4.range0 zq) ?_;exact⟨qK (hR'.trans (qQ (c:=3) oM hty dE)),hB.u⟩
  refine vq ?_;refine zW (rg [7,8] 44 48) (fun m g w'=>∃ (j:Nat) (last:Int),j≤(gr[k]'hlt).ln.length∧m=(gr[k]'hlt).ln.length - j∧g 44= .int .i64 j∧Bel w w'∧Blk w' b2 25 #[.slice A l.length c,.slice B fs.length d]∧Blk w' b3 30 #[.slice (some ⟨nb,no,none⟩) gr.length cg]∧Blk w' b4 36 #[.int .i64 0,.int .i64 0]∧Blk w' b6 113 #[.int .i64 (gr[k]'hlt).ty,.slice LA (gr[k]'hlt).ln.length lc]∧(j=0→last= -1)∧(∀ h:0 < j∧j - 1 < (gr[k]'hlt).ln.length,last=((gr[k]'hlt).ln[j - 1]'h.2).1)∧Q1 l.length fs.length gr k=yY fs.length gr.length last ((gr[k]'hlt).ln.drop j)) ((gr[k]'hlt).ln.length) ?_ (fun m g9 w9 hI=>?_)
  ·exact⟨0,-1,Nat.zero_le _,rfl,rfl,hB,hb2.u,hb3.u,hb4,hb6,fun _=>rfl,fun h=>by omega,Vq hlt c38⟩
  obtain⟨j,last,hj,hmj,h44,hB,hb2,hb3,hb4,hb6,hl0,hl1,hP⟩:=hI;refine zZ 44 _ h44 nu (zn6 ?_);refine zX rfl (fun c45=>?_) (fun c45=>?_)
  ·have hlj:j < (gr[k]'hlt).ln.length:=by omega
   have hln':=hln;obtain⟨lb,lof,rfl,hlb,hlr⟩:=hln.at_ hB hlj;have hpd:∀ h:j - 1 < (gr[k]'hlt).ln.length,w.rangeAt lb (lof + (j - 1) * 2) [.int .i64 ((gr[k]'hlt).ln[j - 1]'h).1,.int .i64 ((gr[k]'hlt).ln[j - 1]'h).2]:=fun h=>by
     obtain⟨pb,po,he,hpb,hpr⟩:=hln'.at_ (Below.refl _ _:Bel w w) h;cases he;exact hpr
   refine zn8 ?_;refine wl (zY Zk rfl rfl hlr j7) ?_;refine qq (cs:=#[.int .i64 0,.int .i64 0]) gz rfl (fun b8 w10 hb8 s8 hr=>?_);have:=nLL hb2.lt hr;have:=nLL hb3.lt hr;have:=nLL hb4.lt hr;have:=nLL hb6.lt hr;have lo8:=nLT (Bel.size hB) hr;refine waI rfl ?_;refine zk hb8 rfl rfl j7 rfl zQ (fun w11 hq s9=>?_);replace hb8:=hq;refine zn4 ?_;replace hB:=(hB.tr0 s8).tr1 s9 lo8;replace hb4:=(hb4.tr0 s8).tr1 s9 oM;refine xJ (rg [] 49 24) 72 (.bool (decide (((gr[k]'hlt).ln[j]'hlj).1 < 0∨(fs.length:Int)≤((gr[k]'hlt).ln[j]'hlj).1∨((gr[k]'hlt).ln[j]'hlj).2 < 0∨(gr.length:Int)≤((gr[k]'hlt).ln[j]'hlj).2))) nu ?_ (fun gq=>?_)
   ·refine zn5 ?_;refine zw 52 rfl (fun g52=>?_) (fun g52=>?_)
    ·refine zn20 ?_;refine zJ (e_R ⟨rfl,agA,?_⟩);exact clA
    refine ZX ?_;refine zw 60 rfl (fun g60=>?_) (fun g60=>?_)
    ·refine yZ ?_;refine zJ (e_R ⟨rfl,agA,?_⟩);exact clA
    refine zn8 ?_;refine zw 65 rfl (fun g65=>?_) (fun g65=>?_)
    ·refine zn7 ?_;refine zJ (e_R ⟨rfl,agA,?_⟩);exact clA
    refine ky ?_;refine zJ (e_R ⟨rfl,agA,?_⟩);exact clA
   refine e_S ?_;refine zX rfl (fun c72=>?_) (fun c72=>?_)
   ·have hty:=hP.trans (ln_bad hlj (show oJ _ _ _ from c72));refine zn3 ?_;refine wl (xY (v0:= .int _ _) (v1:= .int _ _) (fun v0 v1=>#[v0,v1]) rfl rfl kR) ?_;refine zk hb4 rfl rfl zq rfl zQ (fun w12 hq s10=>?_);replace hb4:=hq;refine ky ?_;refine x7 (.inl rfl) rfl (zy U36 rfl rfl hb4.range0 zq) ?_;exact⟨qK (hR'.trans (qQ (c:=3) oM hty dE)),hB.u⟩
   refine zn3 ?_;refine SW kR kR (fun w13 s11=>?_);refine zn3 ?_;refine ws_cases 77 rfl (fun g77=>?_) (fun g77=>?_)
   ·refine OK 77 rfl rfl (X2 Zk qX dE rfl rfl rfl) (OK 77 rfl rfl (qV (v:= .int _ _) U3 rfl rfl (hb8.u.cell rfl)) (OK 77 rfl rfl (X2 I9 Ez dE rfl rfl rfl) (OK 77 rfl rfl (qV (v:= .slice _ _ _) u7 rfl rfl (hb6.u.cell rfl)) (OK 77 rfl rfl (yq (v:= .int _ _) rfl) (OK 77 rfl rfl (j8 (c:=((j - 1:Nat):Int)) rfl rfl oM oM) (OK 77 rfl rfl (xk (i:=j - 1) u7 j7 rfl rfl oM rfl) (OK 77 rfl rfl (X2 Zk qX dE rfl rfl rfl) (OK 77 rfl rfl (qV (v:= .int _ _) U3 rfl rfl (hB.u.cell hlb (hpd oM 0 _ rfl))) (OK 77 rfl rfl (r_leq rfl rfl) (zn1 ?_))))))))));refine s_nil (e_S ?_);refine zX rfl (fun c88=>?_) (fun c88=>?_)
    ·have hty:=hP.trans (ln_ord hlj (show ¬oJ _ _ _ from c72) (by have:=hl1 ⟨by omega,by omega⟩;omega));refine zn3 ?_;refine wl (xY (v0:= .int _ _) (v1:= .int _ _) (fun v0 v1=>#[v0,v1]) rfl rfl kR) ?_;refine zk hb4.u rfl rfl zq rfl zQ (fun w14 hq s12=>?_);replace hb4:=hq;refine yZ ?_;refine x7 (.inl rfl) rfl (zy U36 rfl rfl hb4.range0 zq) ?_;exact⟨qK (hR'.trans (qQ (c:=13) oM hty dE)),hB.u⟩
    refine zn7 ?_;refine xv ((gr[k]'hlt).ln.length - (j + 1)) oM agA ?_;have hnl:¬((gr[k]'hlt).ln[j]'hlj).1≤last:=fun h=>by
      by_cases e:j=0
      · have:=hl0 e;omega
      · have:=hl1 ⟨by omega,by omega⟩
        omega
    replace hb2:=((hb2.tr0 s8).tr1 s9 oM).tr0 s11;replace hb3:=((hb3.tr0 s8).tr1 s9 oM).tr0 s11;replace hb6:=((hb6.tr0 s8).tr1 s9 oM).tr0 s11;replace hB:=hB.tr0 s11;replace hb4:=hb4.tr0 s11;exact⟨j + 1,((gr[k]'hlt).ln[j]'hlj).1,by omega,rfl,rfl,hB,hb2,hb3,hb4,hb6,fun h=>by omega,fun h=>rfl,hP.trans (S7 hlj (show ¬oJ _ _ _ from c72) hnl)⟩
   refine vq ?_;refine s_nil (zn9 ?_);refine xv ((gr[k]'hlt).ln.length - (j + 1)) oM agA ?_;have hnl:¬((gr[k]'hlt).ln[j]'hlj).1≤last:=fun h=>by
     by_cases e:j=0
     · have:=hl0 e;omega
     · have:=hl1 ⟨by omega,by omega⟩
       omega
   replace hb2:=((hb2.tr0 s8).tr1 s9 oM).tr0 s11;replace hb3:=((hb3.tr0 s8).tr1 s9 oM).tr0 s11;replace hb6:=((hb6.tr0 s8).tr1 s9 oM).tr0 s11;replace hB:=hB.tr0 s11;replace hb4:=hb4.tr0 s11;exact⟨j + 1,((gr[k]'hlt).ln[j]'hlj).1,by omega,rfl,rfl,hB,hb2,hb3,hb4,hb6,fun h=>by omega,fun h=>rfl,hP.trans (S7 hlj (show ¬oJ _ _ _ from c72) hnl)⟩
  have hty0:=hP.trans (ln_end oM);refine yv ?_;refine xv (gr.length - (k + 1)) oM agA ?_;exact⟨k + 1,by omega,rfl,rfl,hB,hb2,hb3,hb4,hR'.trans (yw hlt hty0)⟩
 refine zn7 ?_;refine wl (uW (vs:=#[]) (cs:=#[.int .i64 0,.int .i64 0]) (by simp) kR) ?_;refine zk hb4 rfl rfl zq rfl zQ (fun w15 hq s13=>?_);replace hb4:=hq;refine zn3 ?_;refine x7 (.inl rfl) rfl (zy U36 rfl rfl hb4.range0 zq) ?_;exact⟨qK (hR'.trans (vk oM)),hB.u⟩
end Go.Proofs.YtbcpgfnfiekbiaaGreatDoor
