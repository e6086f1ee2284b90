/- An optional rule without some of its daughters: name, weight, meaning and graph of what is left. No program in sight. A row of terms that is written in place: what stands for each daughter. No program in sight. Terms that are put together, with their data. No program in sight. What these functions of the program compute, at every world: slices.Clone[[]glosswright/api.Node,glosswright/api.Node]. The links of a rule's top: its daughters' features come one after the other; and nodes whose first one gets other links. No program in sight. What these functions of the program compute, at every world: glosswright/glosswrightref4.CopyOf. What these functions of the program compute, at every world: glosswright/glosswrightref3.Canon. What these functions of the program compute, at every world: internal/strconv.small, internal/strconv.FormatInt, internal/strconv.Itoa, strconv.Itoa. What these functions of the program compute, at every world: glosswright/glosswrightref4.Extended. -/
import Derived.Test.YtbcpgfnfiekbiaaGreatDoorStk
import Derived.Test.YtbcpgfnfiekbiaaGreatDoorNN1
import Derived.Test.YtbcpgfnfiekbiaaGreatDoorU
import Derived.Test.YtbcpgfnfiekbiaaGreatDoorTrm
import Derived.Test.YtbcpgfnfiekbiaaGreatDoorOpr
import Derived.Test.YtbcpgfnfiekbiaaGreatDoorORf
import Derived.Test.YtbcpgfnfiekbiaaGreatDoorGrm
import Derived.Test.YtbcpgfnfiekbiaaGreatDoorEng7
namespace Go.Proofs.YtbcpgfnfiekbiaaGreatDoor
open Go.RowKit
def dig (k:Int):ByteArray:=⟨#[UInt8.ofNat (48 + k.toNat)]⟩
def minus:ByteArray:=⟨#[45]⟩
def nmN (r:Orl) (ch:Nat→Bool):Nat→ByteArray
  | 0=>r.rule.name ++ minus
  | i + 1=>match r.om[i]? with
    | none=>nmN r ch i
    | some x=>if ch i then nmN r ch i ++ dig x.kid else nmN r ch i
def kdN (r:Orl) (ch:Nat→Bool):Nat→Int
  | 0=>r.rule.kids
  | i + 1=>if ch i then kdN r ch i - 1 else kdN r ch i
def wtN (r:Orl) (ch:Nat→Bool):Nat→Int
  | 0=>r.rule.wt
  | i + 1=>match r.om[i]? with
    | none=>wtN r ch i
    | some x=>if ch i then wtN r ch i + x.wt else wtN r ch i
def lfN (r:Orl) (ch:Nat→Bool):Nat→Nat→Option Tm
  | 0,_=>none
  | i + 1,k=>match r.om[i]? with
    | none=>lfN r ch i k
    | some x=>if ch i=true∧(k:Int)=x.kid then some x.mean else lfN r ch i k
def XX (ch:Nat→Bool):Nat→Bool
  | 0=>false
  | i + 1=>XX ch i || ch i
def tVar (v:Int):Tm:= .mk 2 ⟨#[]⟩ v smZ []
def tApp (m x:Tm):Tm:= .mk 4 ⟨#[]⟩ 0 smZ [m,x]
def Cv (s:Sm) (m:Tm):Tm:= .mk 3 ⟨#[]⟩ 0 s [m]
def j6 (L:Nat→Option Tm):Nat→Nat
  | 0=>0
  | k + 1=>j6 L k + if (L (k + 1)).isSome then 0 else 1
def mT (m0:Tm) (L:Nat→Option Tm) (nk:Int):Nat→Tm
  | 0=>m0
  | k + 1=>tApp (mT m0 L nk k) (match L (k + 1) with
    | some x=>x
    | none=>tVar (nk - (j6 L (k + 1):Nat)))
def kpT (L:Nat→Option Tm) (As:List Ts):Nat→List Ts
  | 0=>[]
  | k + 1=>kpT L As k ++ if (L (k + 1)).isSome then [] else match As[k]? with
    | none=>[]
    | some σ=>[σ]
def xZ:List Ts→Tm→Tm
  | [],m=>m
  | σ :: L,m=>Cv σ.sm (xZ L m)
def lkR (L:Nat→Option Tm) (K:Nat):List (Int×Int)→List (Int×Int)
  | []=>[]
  | x :: xs=>if 1≤x.1∧x.1≤K then (if (L x.1.toNat).isSome then lkR L K xs else ((j6 L x.1.toNat:Nat),x.2) :: lkR L K xs) else x :: lkR L K xs
def grR (L:Nat→Option Tm) (K:Nat):List Nd→List Nd
  | []=>[]
  | n :: g=>⟨n.ty,lkR L K n.ln⟩ :: g
noncomputable def Vk (g:List Nd):List Nd:=jY g (ordI g)
noncomputable def kX (l:List Ty) (fs:List Ft) (r:Orl) (As:List Ts) (ch:Nat→Bool):Rl:=
  if XX ch r.om.length=true then
    { name:=nmN r ch r.om.length,gr:=Vk (grR (lfN r ch r.om.length) r.rule.kids.toNat r.rule.gr),kids:=kdN r ch r.om.length,wt:=wtN r ch r.om.length,
      mean:=xZ (kpT (lfN r ch r.om.length) As r.rule.kids.toNat) (mT r.rule.mean (lfN r ch r.om.length) (kdN r ch r.om.length) r.rule.kids.toNat) }
  else { r.rule with gr:=J8 l fs r.rule.gr }
section
variable {r:Orl} {ch:Nat→Bool} {i:Nat}
theorem BK (hi:i < r.om.length) (h:ch i=true):nmN r ch (i + 1)=nmN r ch i ++ dig (r.om[i]).kid:=by simp only [nmN,List.getElem?_eq_getElem hi,h,if_true]
theorem nm_no (hi:i < r.om.length) (h:ch i=false):nmN r ch (i + 1)=nmN r ch i:=by simp only [nmN,List.getElem?_eq_getElem hi,h,Bool.false_eq_true,if_false]
theorem O4 (h:ch i=true):kdN r ch (i + 1)=kdN r ch i - 1:=if_pos h
theorem FX (h:ch i=false):kdN r ch (i + 1)=kdN r ch i:=if_neg (by rw [h];decide)
theorem NX (hi:i < r.om.length) (h:ch i=true):wtN r ch (i + 1)=wtN r ch i + (r.om[i]).wt:=by simp only [wtN,List.getElem?_eq_getElem hi,h,if_true]
theorem T6 (hi:i < r.om.length) (h:ch i=false):wtN r ch (i + 1)=wtN r ch i:=by simp only [wtN,List.getElem?_eq_getElem hi,h,Bool.false_eq_true,if_false]
theorem LX (hi:i < r.om.length) (h:ch i=true) (k:Nat):lfN r ch (i + 1) k=if (k:Int)=(r.om[i]).kid then some (r.om[i]).mean else lfN r ch i k:=by simp only [lfN,List.getElem?_eq_getElem hi,h,true_and]
theorem lf_no (hi:i < r.om.length) (h:ch i=false) (k:Nat):lfN r ch (i + 1) k=lfN r ch i k:=by simp only [lfN,List.getElem?_eq_getElem hi,h,Bool.false_eq_true,false_and,if_false]
theorem BV (r:Orl) (ch:Nat→Bool):∀ i,(nmN r ch i).size≤r.rule.name.size + 1 + i
  | 0=>by show (r.rule.name ++ minus).size≤_;rw [ByteArray.size_append];exact Nat.le_refl _
  | i + 1=>by
    have h:=BV r ch i
    unfold nmN
    cases r.om[i]? with
    | none=>show (nmN r ch i).size≤_;omega
    | some x=>
      show (if ch i then nmN r ch i ++ dig x.kid else nmN r ch i).size≤_
      by_cases hc:ch i=true
      · rw [if_pos hc,ByteArray.size_append];show _ + 1≤_;omega
      · rw [if_neg hc];omega
theorem FJ (r:Orl) (ch:Nat→Bool):∀ i,r.rule.kids - i≤kdN r ch i∧kdN r ch i≤r.rule.kids
  | 0=>⟨by show r.rule.kids - 0≤r.rule.kids;omega,Int.le_refl _⟩
  | i + 1=>by
    have h:=FJ r ch i
    cases hc:ch i with
    | true=>rw [O4 hc];omega
    | false=>rw [FX hc];omega
theorem Qk (L:Nat→Option Tm):∀ k,j6 L k≤k
  | 0=>Nat.le_refl _
  | k + 1=>by
    have h:=Qk L k
    unfold j6
    split <;> omega
end
noncomputable def M8 (l:List Ty) (fs:List Ft) (As:Orl→List Ts) (ch:Nat→Nat→Bool):Nat→List Orl→List (Int×Rl)
  | _,[]=>[]
  | i,r :: rs=>(List.range (2 ^ r.om.length)).map (fun c=>((i:Int),kX l fs r (As r) (ch c))) ++ M8 l fs As ch (i + 1) rs
noncomputable def Q6 (l:List Ty) (fs:List Ft):List (Int×Rl)→List Rl→Fl×List Rl
  | [],out=>((0,0),out)
  | (i,x) :: xs,out=>if xj x.name=false then ((10,i),[]) else if out.any (fun y=>decide (y.name=x.name))=true then ((7,i),[])
    else if vy l fs x≠0 then ((vy l fs x,i),[]) else if out.length=40 then ((17,-1),[]) else Q6 l fs xs (out ++ [x])
end Go.Proofs.YtbcpgfnfiekbiaaGreatDoor
namespace Go.Proofs.YtbcpgfnfiekbiaaGreatDoor
open Go.RowKit
theorem Mj:∀ (v:List Value) (o:Nat) (cs:Array Value),(Z8 cs o v).size=cs.size
  | [],_,_=>rfl
  | a :: v,o,cs=>by rw [Z8,Mj v];simp
theorem J2:∀ (v:List Value) (o:Nat) (cs:Array Value) (j:Nat),(j < o∨o + v.length≤j)→(Z8 cs o v)[j]? =cs[j]?
  | [],_,_,_,_=>rfl
  | a :: v,o,cs,j,h=>by
    simp only [List.length_cons] at h
    rw [Z8,J2 v (o + 1) _ j oM,Array.getElem?_setIfInBounds,if_neg oM]
theorem D0:∀ (v:List Value) (o:Nat) (cs:Array Value) (j:Nat) (u:Value),o + v.length≤cs.size→v[j]? =some u→(Z8 cs o v)[o + j]? =some u
  | [],_,_,j,u,_,h=>by simp at h
  | a :: v,o,cs,0,u,hl,h=>by
    simp only [List.length_cons] at hl
    rw [Z8,J2 v (o + 1) _ (o + 0) oM,Array.getElem?_setIfInBounds,if_pos oM,if_pos oM]
    simpa using h
  | a :: v,o,cs,j + 1,u,hl,h=>by
    simp only [List.length_cons] at hl
    rw [Z8,show o + (j + 1)=o + 1 + j by omega]
    exact D0 v (o + 1) _ j u (by rw [Array.size_setIfInBounds];omega) (by simpa using h)
def tmZ6:List Value:=[.int .i64 0,.string ⟨#[]⟩,.int .i64 0,.string ⟨#[]⟩,.slice none 0 0,.slice none 0 0]
def insV (w0:World) (x:Option Tm) (v:List Value):Prop:=match x with
  | none=>v=tmZ6
  | some x=>tmD w0 x v
theorem insV.len {w0:World} {x:Option Tm} {v:List Value} (h:insV w0 x v):v.length=6:=by
  cases x with
  | none=>rw [show v=tmZ6 from h];rfl
  | some x=>obtain⟨S,B,cs,cb,rfl,_⟩:=h;rfl
structure InsC (w0:World) (cs:Array Value) (n:Nat) (L:Nat→Option Tm):Prop where
  size:cs.size=n * 6
  get:∀ k,k < n→∃ v,insV w0 (L k) v∧∀ j u,v[j]? =some u→cs[0 + k * 6 + j]? =some u
theorem InsC.put {w0:World} {cs:Array Value} {n k:Nat} {L L':Nat→Option Tm} {x:Tm} {v:List Value} (h:InsC w0 cs n L) (hk:k < n) (hx:tmD w0 x v) (hL:∀ j,L' j=if j=k then some x else L j):InsC w0 (Z8 cs (0 + k * 6) v) n L':=by
  have hv:v.length=6:=insV.len (w0:=w0) (x:=some x) hx;have hs:=h.size;refine⟨by rw [Mj];exact hs,fun q hq=>?_⟩;rw [hL q];by_cases e:q=k
  · subst e
    rw [if_pos rfl];exact⟨v,hx,fun j u hj=>D0 v _ cs j u (by rw [hs,hv];omega) hj⟩
  · rw [if_neg e]
    obtain⟨u6,h1,h2⟩:=h.get q hq;refine⟨u6,h1,fun j u hj=>?_⟩;have hl:=h1.len;have hjl:=(List.getElem?_eq_some_iff.1 hj).1;rw [J2 v _ cs _ (by rw [hv];omega)];exact h2 j u hj
theorem InsC.rng {w0 w:World} {cs:Array Value} {n k b t:Nat} {L:Nat→Option Tm} (h:InsC w0 cs n L) (hb:Blk w b t cs) (hk:k < n):∃ v,insV w0 (L k) v∧w.rangeAt b (0 + k * 6) v:=by
  obtain⟨v,h1,h2⟩:=h.get k hk;exact⟨v,h1,hb.range h2⟩
end Go.Proofs.YtbcpgfnfiekbiaaGreatDoor
namespace Go.Proofs.YtbcpgfnfiekbiaaGreatDoor
open Go.RowKit
abbrev TmG (w0:World) (lo:Nat) (X:List Nat) (n:Nat) (w:World) (S B:Option Addr) (m:Tm):Prop:=Hv lo X n w (fun w2=>Kw w0 w2→SimsIn w2 S m.type.args∧TmsIn w2 B m.args)
section
variable {w0 w:World} {lo n n2 b t cs cb cs2 cb2:Nat} {X:List Nat} {S B S2 B2:Option Addr} {m x:Tm}
theorem V4 (hX:SimsIn w0 S m.type.args) (hT:TmsIn w0 B m.args) (hl:lo≤w.heap.size):TmG w0 lo X lo w S B m:=⟨hl,fun _ _ _ hk=>⟨hX.keep hk,hT.keep hk⟩⟩
theorem N1 (v:Int) (hl:lo≤w.heap.size):TmG w0 lo X lo w none none (tVar v):=⟨hl,fun _ _ _ _=>⟨.nil,.nil⟩⟩
theorem Q8 (hm:TmG w0 lo X n w S B m) (hx:TmG w0 lo X n2 w S2 B2 x) (hb:Blk w b t (tmC m S B cs cb ++ tmC x S2 B2 cs2 cb2).toArray) (hl:lo≤b) (hX:b ∉ X):TmG w0 lo X w.heap.size w none (some ⟨b,0,none⟩) (tApp m x):=
  ⟨Nat.le_refl _,fun w2 h2 hk hw=>by
    have hb2:Blk w2 b t (tmC m S B cs cb ++ tmC x S2 B2 cs2 cb2).toArray:=(hk b hl hb.lt hX).trans hb
    have h1:=hm.up.all w2 h2 hk hw
    have h3:=hx.up.all w2 h2 hk hw
    exact⟨.nil,tms_two hb2 h1.1 h1.2 h3.1 h3.2⟩⟩
theorem tmg_abs {σ:Sm} {nS:Nat} (hm:TmG w0 lo X n w S B m) (hS:Hv lo X nS w (fun w2=>Kw w0 w2→SimsIn w2 S2 σ.args)) (hb:Blk w b t (tmC m S B cs cb).toArray) (hl:lo≤b) (hX:b ∉ X):TmG w0 lo X w.heap.size w S2 (some ⟨b,0,none⟩) (Cv σ m):=
  ⟨Nat.le_refl _,fun w2 h2 hk hw=>by
    have hb2:Blk w2 b t (tmC m S B cs cb).toArray:=(hk b hl hb.lt hX).trans hb
    have h1:=hm.up.all w2 h2 hk hw
    exact⟨hS.up.all w2 h2 hk hw,Ck hb2 h1.1 h1.2⟩⟩
end
def insT:Option Tm→Tm
  | none=> .mk 0 ⟨#[]⟩ 0 smZ []
  | some x=>x
theorem insV.term {w0:World} {x:Option Tm} {v:List Value} (h:insV w0 x v):∃ S B cs cb,v=tmC (insT x) S B cs cb∧SimsIn w0 S (insT x).type.args∧TmsIn w0 B (insT x).args:=by
  cases x with
  | none=>exact⟨none,none,0,0,h,.nil,.nil⟩
  | some x=>exact h
section
variable {L:Nat→Option Tm} {As:List Ts} {k:Nat} {m0:Tm} {nk:Int}
theorem SV (h:L (k + 1)=none):j6 L (k + 1)=j6 L k + 1:=by rw [j6,h];rfl
theorem Nj {x:Tm} (h:L (k + 1)=some x):j6 L (k + 1)=j6 L k:=by rw [j6,h];rfl
theorem Fv (h:L (k + 1)=none):mT m0 L nk (k + 1)=tApp (mT m0 L nk k) (tVar (nk - (j6 L (k + 1):Nat))):=by rw [mT,h]
theorem O0 {x:Tm} (h:L (k + 1)=some x):mT m0 L nk (k + 1)=tApp (mT m0 L nk k) x:=by rw [mT,h]
theorem FQ {σ:Ts} (h:L (k + 1)=none) (hA:As[k]? =some σ):kpT L As (k + 1)=kpT L As k ++ [σ]:=by rw [kpT,h,hA];rfl
theorem Xw {x:Tm} (h:L (k + 1)=some x):kpT L As (k + 1)=kpT L As k:=by rw [kpT,h];exact List.append_nil _
end
end Go.Proofs.YtbcpgfnfiekbiaaGreatDoor
namespace Go.Proofs.YtbcpgfnfiekbiaaGreatDoor
open Go.RowKit
theorem RowD.app' {α:Type} {C:World→α→List Value→Prop} {sz:Nat} {w:World} {l:List α} {vs:List Value} (h:RowD C sz w l vs):∀ {m:List α} {us:List Value},RowD C sz w m us→RowD C sz w (l ++ m) (vs ++ us):=by
  intro m us g
  induction g with
  | nil=>simpa using h
  | snoc _ hv hx ih=>rw [← List.append_assoc,← List.append_assoc];exact .snoc ih hv hx
def ndD (w:World) (n:Nd) (v:List Value):Prop:=∃ A c,v= [.int .i64 n.ty,.slice A n.ln.length c]∧LinksIn w A n.ln
theorem Dj {w:World} {b:Nat}:∀ (g:List Nd) (o:Nat),(∀ k (h:k < g.length),NdIn w b (o + k * 2) g[k])→∃ vs,RowD ndD 2 w g vs∧(∀ j u,vs[j]? =some u→w.cell? ⟨b,o + j,none⟩=some u)∧vs.all (·.oneCell')=true
  | [],_,_=>⟨[],.nil,fun j u h=>by simp at h,rfl⟩
  | n :: g,o,h=>by
    obtain⟨A,c,h1,h2⟩:=h 0 (Nat.zero_lt_succ _)
    obtain⟨vs,h3,h4,h5⟩:=Dj g (o + 2) (fun k hk=>by
      have:=h (k + 1) (Nat.succ_lt_succ hk)
      rw [Nat.add_mul,Nat.one_mul,← Nat.add_assoc,Nat.add_right_comm] at this
      rw [Nat.add_right_comm]
      exact(by rwa [Nat.add_right_comm] at this:NdIn w b (o + k * 2 + 2) _))
    have h0:RowD ndD 2 w ([] ++ [n]) ([] ++ [.int .i64 n.ty,.slice A n.ln.length c]):= .snoc .nil rfl ⟨A,c,rfl,h2⟩
    have h0':RowD ndD 2 w [n] [.int .i64 n.ty,.slice A n.ln.length c]:=h0
    refine⟨[.int .i64 n.ty,.slice A n.ln.length c] ++ vs,(show RowD ndD 2 w (n :: g) ([.int .i64 n.ty,.slice A n.ln.length c] ++ vs) from h0'.app' h3),fun j u hj=>?_,by rw [List.all_append,h5];rfl⟩
    match j,hj with
    | 0,hj=>exact h1 0 u hj
    | 1,hj=>exact h1 1 u hj
    | j + 2,hj=>
      have h6:=h4 j u (by simpa using hj)
      rw [show o + (j + 2)=o + 2 + j by omega];exact h6
theorem Lq {w:World} {A:Option Addr} {g:List Nd} (h:NodesIn w A g):∃ vs,RowD ndD 2 w g vs∧vs.all (·.oneCell')=true∧(0 < g.length→∃ b o,A=some ⟨b,o,none⟩∧∀ j u,vs[j]? =some u→w.cell? ⟨b,o + j,none⟩=some u):=by
  cases g with
  | nil=>exact⟨[],.nil,rfl,fun h=>absurd h (Nat.lt_irrefl _)⟩
  | cons n g=>
    obtain⟨b,o,e,_,hc⟩:=h.2 (by simp);obtain⟨vs,h1,h2,h3⟩:=Dj (n :: g) o hc;exact⟨vs,h1,h3,fun _=>⟨b,o,e,h2⟩⟩
theorem in113_ONc:(Tryz.prog.info? 113).map (fun i=>(i.zero,i.size,i.bytes))=some (some (.agg #[.int .i64 0,.slice none 0 0]),2,32):=by kernel_rfl
theorem sz113_ONc:(Tryz.prog.info? 113).map (·.size)=some 2:=by kernel_rfl
theorem EY (A:Option Addr) (c:Nat) (xs:List Nd) (w:World) (hX:NodesIn w A xs) (hl:xs.length≤1000000):Calls Tryz.prog 83 #[.slice A xs.length c] w fun e w'=>(∃ A' cap' vs,e= .returned (.slice A' xs.length cap')∧Own w' w.heap.size 113 2 A' xs.length cap' vs∧RowD ndD 2 w xs vs)∧Bel w w':=by
 refine enT Tryz.func83 Tryz.ntmps83 rfl rfl fun hB=>?_;refine zn9 ?_;refine wl (KZ U28 rfl rfl) (zJ (e_S ?_));refine vK rfl (fun c4=>?_) (fun c4=>?_)
 ·have hn:xs= []:=by
    refine Classical.byContradiction (fun hne=>?_);obtain⟨b,o,h,_⟩:=hX.2 hne;rw [h] at c4;cases c4
  subst hn;refine zn8 ?_;exact⟨⟨none,0,[],rfl,Own.nil _ _ _ _,.nil⟩,hB⟩
 refine zn4 ?_;refine wl_bs0 U28 sz113_ONc (fun b5 w1 hb5 s1 hr=>?_);have lo5:=nLT (Bel.size hB) hr;refine wl (yq (v:= .slice _ _ _) rfl) ?_;obtain⟨vs,hrow,hone,hnews⟩:=Lq hX;have hown:=KX (sz:=2) (m:=0) hb5 (Nat.le_refl b5) rfl dE;replace hB:=hB.tr0 s1
 refine wl_appL (news:=vs) U28 in113_ONc rfl dE hown rfl rfl (fun hm=>by
   obtain⟨b,o,e,h⟩:=hnews hm;obtain⟨b2,o2,e2,hlt,_⟩:=hX.2 (by rintro rfl;exact absurd hm (Nat.lt_irrefl _));obtain⟨rfl,rfl⟩:b2=b∧o2=o:=by rw [e] at e2;cases e2;exact⟨rfl,rfl⟩
   exact⟨b2,o2,e,fun j u hj=>hB.cell hlt (h j u hj)⟩) hrow.len hone oM oM (Nat.le_of_lt hb5.lt) (fun A7 cap7 w9 ho7 s2 hg=>?_)
 have hB9:Bel w w9:=hB.tr s2 (fun g hg=>by cases List.mem_singleton.1 hg;exact lo5);refine zn5 ?_;refine⟨⟨A7,cap7,vs,?_,?_,hrow⟩,hB9⟩
 · show Ending.returned (.slice _ (0 + xs.length) _)=_
   rw [Nat.zero_add]
 · have h:=ho7.low lo5
   rw [Nat.zero_add] at h;exact h
end Go.Proofs.YtbcpgfnfiekbiaaGreatDoor
namespace Go.Proofs.YtbcpgfnfiekbiaaGreatDoor
open Go.RowKit
structure NumI (xs:List (Int×Int)) (K j c:Nat):Prop where
  le:c≤K
  all:∀ (i:Nat) (h:i < xs.length),i < j→1≤(xs[i]).1→(xs[i]).1≤K→(xs[i]).1≤c
  ex:∀ f:Nat,1≤f→f≤c→∃ (i:Nat) (h:i < xs.length),i < j∧(xs[i]).1=f
theorem NumI.zero (xs:List (Int×Int)) (K:Nat):NumI xs K 0 0:=⟨Nat.zero_le _,fun i _ h=>absurd h (Nat.not_lt_zero _),fun f h1 h2=>by omega⟩
section
variable {xs:List (Int×Int)} {K j c:Nat}
theorem NumI.no (h:NumI xs K j c) (hj:j < xs.length) (hn:¬(1≤(xs[j]).1∧(xs[j]).1≤K)):NumI xs K (j + 1) c:=
  ⟨h.le,fun i hi hl h1 h2=>by
    by_cases e:i=j
    · subst e;exact absurd ⟨h1,h2⟩ hn
    · exact h.all i hi oM h1 h2,fun f h1 h2=>by
    obtain⟨i,hi,hl,e⟩:=h.ex f h1 h2
    exact⟨i,hi,by omega,e⟩⟩
theorem NumI.yes (hs:∀ a b (ha:a < xs.length) (hb:b < xs.length),a < b→(xs[a]).1 < (xs[b]).1) (hall:∀ f:Nat,1≤f→f≤K→∃ (i:Nat) (h:i < xs.length),(xs[i]).1=f) (h:NumI xs K j c) (hj:j < xs.length) (h1:1≤(xs[j]).1) (h2:(xs[j]).1≤K):(xs[j]).1=((c + 1:Nat):Int)∧NumI xs K (j + 1) (c + 1):=by
  have he:(xs[j]).1=((c + 1:Nat):Int):=by
    rcases Int.lt_trichotomy (xs[j]).1 ((c + 1:Nat):Int) with e | e | e
    · obtain⟨i,hi,hl,e2⟩:=h.ex (xs[j]).1.toNat oM oM
      have:=hs i j hi hj hl;omega
    · exact e
    · obtain⟨i,hi,e2⟩:=hall (c + 1) oM oM
      by_cases hl:i < j
      · have:=h.all i hi hl oM oM
        omega
      · by_cases e3:i=j
        · subst e3;omega
        · have:=hs j i hj hi oM
          omega
  refine⟨he,by omega,fun i hi hl a1 a2=>?_,fun f a1 a2=>?_⟩
  · by_cases e:i=j
    · subst e;omega
    · have:=h.all i hi oM a1 a2
      omega
  · by_cases e:f=c + 1
    · subst e;exact⟨j,hj,Nat.lt_succ_self _,he⟩
    · obtain⟨i,hi,hl,e⟩:=h.ex f a1 oM
      exact⟨i,hi,by omega,e⟩
end
section
variable {L:Nat→Option Tm} {K:Nat} {x:Int×Int}
theorem Fy (y:Int×Int) (xs:List (Int×Int)):lkR L K (y :: xs)=if 1≤y.1∧y.1≤K then (if (L y.1.toNat).isSome then lkR L K xs else (((j6 L y.1.toNat:Nat):Int),y.2) :: lkR L K xs) else y :: lkR L K xs:=rfl
theorem Xv (L:Nat→Option Tm) (K:Nat) (x:Int×Int):∀ xs,lkR L K (xs ++ [x])=lkR L K xs ++ lkR L K [x]
  | []=>rfl
  | y :: xs=>by
    have h:=Xv L K x xs
    rw [List.cons_append,Fy y,h,Fy y]
    by_cases h1:1≤y.1∧y.1≤K
    · rw [if_pos h1,if_pos h1]
      by_cases h2:(L y.1.toNat).isSome=true
      · rw [if_pos h2,if_pos h2]
      · rw [if_neg h2,if_neg h2];rfl
    · rw [if_neg h1,if_neg h1];rfl
theorem lk_in (h:¬(1≤x.1∧x.1≤K)):lkR L K [x]= [x]:=by unfold lkR;rw [if_neg h];rfl
theorem lk_left {f:Nat} (h1:1≤x.1) (h2:x.1≤K) (h:x.1=f) (hL:(L f).isSome=true):lkR L K [x]= []:=by
  unfold lkR;rw [if_pos ⟨h1,h2⟩,show x.1.toNat=f by omega,if_pos hL];rfl
theorem lk_kept {f:Nat} (h1:1≤x.1) (h2:x.1≤K) (h:x.1=f) (hL:L f=none):lkR L K [x]= [(((j6 L f:Nat):Int),x.2)]:=by
  unfold lkR;rw [if_pos ⟨h1,h2⟩,show x.1.toNat=f by omega,hL];rfl
theorem lkR_mem (L:Nat→Option Tm) (K:Nat):∀ (xs:List (Int×Int)),∀ y ∈ lkR L K xs,∃ x ∈ xs,y.2=x.2∧(y.1=x.1∨∃ f:Nat,x.1=f∧1≤f∧f≤K∧y.1=((j6 L f:Nat):Int))
  | [],y,h=>by cases h
  | x :: xs,y,h=>by
    unfold lkR at h
    have go:∀ y ∈ lkR L K xs,_:=lkR_mem L K xs
    by_cases h1:1≤x.1∧x.1≤K
    · rw [if_pos h1] at h
      by_cases h2:(L x.1.toNat).isSome=true
      · rw [if_pos h2] at h
        obtain⟨z,hz,h3⟩:=go y h
        exact⟨z,List.mem_cons_of_mem _ hz,h3⟩
      · rw [if_neg h2] at h
        rcases List.mem_cons.1 h with rfl | h
        · exact⟨x,List.mem_cons_self,rfl,.inr ⟨x.1.toNat,by omega,by omega,by omega,rfl⟩⟩
        · obtain⟨z,hz,h3⟩:=go y h
          exact⟨z,List.mem_cons_of_mem _ hz,h3⟩
    · rw [if_neg h1] at h
      rcases List.mem_cons.1 h with rfl | h
      · exact⟨y,List.mem_cons_self,rfl,.inl rfl⟩
      · obtain⟨z,hz,h3⟩:=go y h
        exact⟨z,List.mem_cons_of_mem _ hz,h3⟩
theorem N9 (L:Nat→Option Tm) (K:Nat):∀ xs,(lkR L K xs).length≤xs.length
  | []=>Nat.le_refl _
  | x :: xs=>by
    have h:=N9 L K xs
    unfold lkR
    split
    · split
      · exact Nat.le_succ_of_le h
      · exact Nat.succ_le_succ h
    · exact Nat.succ_le_succ h
end
theorem grR_len (L:Nat→Option Tm) (K:Nat):∀ g,(grR L K g).length=g.length
  | []=>rfl
  | _ :: _=>rfl
theorem grR_ok {nf K:Nat} {g:List Nd} (L:Nat→Option Tm) (h:Vv nf g):Vv nf (grR L K g):=by
  cases g with
  | nil=>exact h
  | cons n g=>
    refine⟨Nat.zero_lt_succ _,h.le,fun i hi x hx=>?_,fun i hi=>?_⟩
    · cases i with
      | zero=>
        obtain⟨z,hz,e2,e1⟩:=lkR_mem L K n.ln x hx;have h1:=h.ln 0 (Nat.zero_lt_succ _) z hz;rw [e2];refine⟨?_,?_,h1.2.2.1,h1.2.2.2⟩
        · rcases e1 with e | ⟨f,_,_,_,e⟩ <;> rw [e]
          · exact h1.1
          · exact Int.natCast_nonneg _
        · rcases e1 with e | ⟨f,_,_,hf,e⟩ <;> rw [e]
          · exact h1.2.1
          · have:=Qk L f;omega
      | succ i=>exact h.ln (i + 1) hi x hx
    · cases i with
      | zero=>exact nLT (N9 L K n.ln) (h.few 0 (Nat.zero_lt_succ _))
      | succ i=>exact h.few (i + 1) hi
theorem EW {w:World} {base e sz k cap:Nat} {A:Option Addr} {vs:List Value} (ho:Own w base e sz A k cap vs) (hne:vs≠[]):∃ g cs,A=some ⟨g,0,none⟩∧base≤g∧Blk w g e cs∧∀ (j:Nat) u,vs[j]? =some u→cs[j]? =some u:=by
  obtain⟨g,rfl,hb,_,hc⟩:=ho.cell hne;obtain⟨cs,hcs⟩:=ho.typ g (List.mem_singleton.2 rfl);exact⟨g,cs,rfl,hb,hcs,fun j u hj=>by rw [← cell_of_row w g j cs e (0,0) hcs];exact hc j u hj⟩
theorem Dk {w wC:World} {b t c m:Nat} {cs:Array Value} {vs:List Value} {n:Nd} {g:List Nd} {ln:List (Int×Int)} {A:Option Addr} (hb:Blk w b t (cs.setIfInBounds 1 (.slice A m c))) (hm:m=ln.length) (hc:∀ (j:Nat) u,vs[j]? =some u→cs[j]? =some u) (hR:RowD ndD 2 wC (n :: g) vs) (hB:Bel wC w) (hl:LinksIn w A ln) (hg:(n :: g).length≤yJ):NodesIn w (some ⟨b,0,none⟩) (⟨n.ty,ln⟩ :: g):=
  ⟨hg,fun _=>⟨b,0,rfl,hb.lt,fun k hk=>by
    subst hm
    obtain⟨v,_,⟨A',c',rfl,h1⟩,h2⟩:=hR.get k hk
    have e0:=hc _ _ (h2 0 _ rfl)
    have e1:=hc _ _ (h2 1 _ rfl)
    cases k with
    | zero=>
      refine⟨A,c,hb.range (fun j v hj=>?_),hl⟩
      match j,hj with
      | 0,hj=>rw [Array.getElem?_setIfInBounds,if_neg oM,← hj];exact e0
      | 1,hj=>
        have:=(Array.getElem?_eq_some_iff.1 e1).1
        rw [Array.getElem?_setIfInBounds,if_pos oM,if_pos oM,← hj];rfl
      | j + 2,hj=>simp at hj
    | succ k=>
      refine⟨A',c',hb.range (fun j v hj=>?_),h1.mono hB⟩
      rw [Array.getElem?_setIfInBounds,if_neg oM,Nat.zero_add]
      match j,hj with
      | 0,hj=>rw [← hj];exact e0
      | 1,hj=>rw [← hj];exact e1
      | j + 2,hj=>simp at hj⟩⟩
end Go.Proofs.YtbcpgfnfiekbiaaGreatDoor
namespace Go.Proofs.YtbcpgfnfiekbiaaGreatDoor
open Go.RowKit
theorem rcan_hv (G:Option Addr) (cg:Nat) (l:List Ty) (fs:List Ft) (gr:List Nd) (w:World) (hG:NodesIn w G gr) (h0:(uq l fs gr).1=0):Calls Tryz.prog 36 #[.agg #[.slice G gr.length cg]] w fun e w'=>(∃ A c,e= .returned (.agg #[.slice A (J8 l fs gr).length c])∧Hv w.heap.size [] w'.heap.size w' (fun w=>NodesIn w A (J8 l fs gr)))∧Bel w w':=
  (rcan_any G gr.length cg l fs gr w hG rfl h0).mono fun _ _ h=>by
    obtain⟨⟨A,c,e,h1⟩,h2⟩:=h
    exact⟨⟨A,c,e,Hv.fr h1⟩,h2⟩
theorem Ow {w w2:World} {b' o:Nat} {v:Value} (hh:w2.heap[b']? =w.heap[b']?) (h:w.cell? ⟨b',o,none⟩=some v):w2.cell? ⟨b',o,none⟩=some v:=by
  unfold World.cell? at h ⊢;rw [hh];exact h
theorem int_ne {w:World} {b b' o:Nat} {t:TypeId} {cs:Array Value} {k:IntKind} {z:Int} (hb:Blk w b t cs) (hcs:∀ (j:Nat) (k:IntKind) (z:Int),cs[j]?≠some (.int k z)) (h:w.cell? ⟨b',o,none⟩=some (.int k z)):b'≠b:=fun e=>by
  subst e
  rw [cell_of_row w b' o _ t (0,0) hb] at h
  exact hcs _ _ _ h
theorem NodesIn.free {w w2:World} {b:Nat} {t:TypeId} {cs:Array Value} {G:Option Addr} {g:List Nd} (h:NodesIn w G g) (hb:Blk w b t cs) (hcs:∀ (j:Nat) (k:IntKind) (z:Int),cs[j]?≠some (.int k z)) (hz:w.heap.size≤w2.heap.size) (hs:∀ k,k < w.heap.size→k≠b→w2.heap[k]? =w.heap[k]?):NodesIn w2 G g:=by
  refine⟨h.1,fun hne=>?_⟩;obtain⟨gb,go,e,hl,hc⟩:=h.2 hne;refine⟨gb,go,e,nLL hl hz,fun k hk=>?_⟩;obtain⟨A',c',h1,h2⟩:=hc k hk;have hgb:=int_ne hb hcs (h1 0 _ rfl);refine⟨A',c',fun j v hj=>Ow (hs _ hl hgb) (h1 j v hj),h2.1,fun hx=>?_⟩;obtain⟨lb,lo,e2,hl2,hc2⟩:=h2.2 hx;have hlb:=int_ne hb hcs (hc2 0 (List.length_pos_iff.2 hx) 0 _ rfl);exact⟨lb,lo,e2,nLL hl2 hz,fun j hj i v hv=>Ow (hs _ hl2 hlb) (hc2 j hj i v hv)⟩
theorem Hv.free {lo n:Nat} {w:World} {b:Nat} {t:TypeId} {cs:Array Value} {G:Option Addr} {g:List Nd} (h:Hv lo [] n w (fun w=>NodesIn w G g)) (hb:Blk w b t cs) (hcs:∀ (j:Nat) (k:IntKind) (z:Int),cs[j]?≠some (.int k z)):Hv lo [b] n w (fun w=>NodesIn w G g):=
  ⟨h.le,fun w2 h2 hk=>by
    have hbl:=hb.lt
    have hbl2:b < w2.heap.size:=nLL hbl h2
    let w3:World:={ w2 with heap:=w2.heap.setIfInBounds b (.cells cs t (0,0)) }
    have hz:w3.heap.size=w2.heap.size:=by simp [w3]
    have hb3:Blk w3 b t cs:=by
      show w3.heap[b]? =_;simp [w3,hbl2]
    have ho:∀ k,k≠b→w3.heap[k]? =w2.heap[k]?:=fun k hk=>by simp [w3,Ne.symm hk]
    refine(h.all w3 (by rw [hz];exact h2) (fun k h3 h4 _=>?_)).free hb3 hcs (by rw [hz];exact Nat.le_refl _) (fun k _ hk=>(ho k hk).symm);by_cases e:k=b
    · subst e;exact Eq.trans hb3 hb.symm
    · exact(ho k e).trans (hk k h3 h4 (by simpa using e))⟩
def rlK (w0 w:World) (x:Rl) (v:List Value):Prop:=Kw w0 w→rlD w x v
theorem EV {w0 w:World} {base lo k cap n:Nat} {A:Option Addr} {l:List Rl} {vs:List Value} {X Y:List Nat} (ho:Own w base 54 10 A k cap vs) (hb:lo≤base) (hd:Hv lo X n w (fun w=>RowD (rlK w0) 10 w l vs)) (hY:∀ y ∈ Y,y ∈ X) (hA:∀ y ∈ Y,y ∉ aL A):Hv lo Y w.heap.size w (fun w=>Kw w0 w→RulesIn w A l):=
  F7 (R:=fun w A l=>Kw w0 w→RulesIn w A l) (fun _ _ _=>⟨Nat.zero_le _,fun h=>absurd rfl h⟩) (fun w g cs hblk hl hk hw=>⟨hl,fun _=>⟨g,0,rfl,hblk.lt,fun k hkl=>by
    obtain⟨v,h,hr⟩:=hk k hkl
    obtain⟨G,S,B,cg,cs',cb,rfl,hg,hs,ht⟩:=h hw
    exact⟨G,cg,S,cs',B,cb,hr,hg,hs,ht⟩⟩⟩) dE ho hb hd hY hA
theorem fn36:zK Tryz.prog 36=true:=by kernel_rfl
end Go.Proofs.YtbcpgfnfiekbiaaGreatDoor
namespace Go.Proofs.YtbcpgfnfiekbiaaGreatDoor
open Go.RowKit
theorem RK (G:Option Addr) (cg nf:Nat) (gr:List Nd) (w:World) (hG:NodesIn w G gr) (hk:Vv nf gr) (hnf:nf≤1000):Calls Tryz.prog 36 #[.agg #[.slice G gr.length cg]] w fun e w'=>(∃ o A c,DL gr [0] [] o∧e= .returned (.agg #[.slice A o.length c])∧(∀ w2,FrSame w.heap.size w' w2→NodesIn w2 A (jY gr o)))∧Bel w w':=by
 refine enT Tryz.func36 Tryz.ntmps36 rfl rfl fun hB=>?_;refine zn2 ?_;refine x6 (v:= .agg #[_]) (cs:=#[_]) rfl rfl (fun b1 w1 hb1 s1 hr=>?_);refine qq (cs:=#[.slice none 0 0]) T4 rfl (fun b2 w2 hb2 s2 hr=>?_);have lo2:=nLT (Bel.size hB.u) hr;refine zn5 ?_;have z2:=hb2.lt;replace hB:=hB.tr0 (s1.trans s2);have hszv:=Bel.size hB;refine zV fn69 (Ey G cg nf gr 0 _ (hG.mono hB) hk hnf hk.pos) rfl (fun e' w3 hr=>?_);obtain⟨⟨o,AN,cn,hD,hok,rfl,hN⟩,s3⟩:=hr;replace s3:=sB s3;have hFr:FrSame (w2).heap.size w3 w3:=FrSame.refl _ _;obtain⟨Z0,hZ0⟩:∃ z,z=(w2).heap.size:=⟨_,rfl⟩
 rw [← hZ0] at hN hFr z2;obtain⟨wZ,hwZ⟩:∃ z,z=w3:=⟨_,rfl⟩
 have hz0:w.heap.size≤Z0:=by rw [hZ0];exact hszv
 replace hFr:FrSame Z0 wZ w3:=by rw [hwZ];exact FrSame.refl _ _
 rw [← hwZ] at hN;refine⟨_,rfl,?_⟩;refine zk hb2.u rfl rfl ZK rfl zQ (fun w4 hq s4=>?_);replace hFr:=hFr.of s4 (fun g hg=>by rw [List.mem_singleton.1 hg];omega);replace hb2:=hq;refine zn3 ?_;refine x7 (.inl rfl) rfl (zy U30 rfl rfl hb2.range0 ZK) ?_;exact⟨⟨o,_,_,hD,rfl,fun w2 hf=>hN w2 (hFr.then hf hz0)⟩,hB.u⟩
end Go.Proofs.YtbcpgfnfiekbiaaGreatDoor
namespace Go.Proofs.YtbcpgfnfiekbiaaGreatDoor
open Go.RowKit
theorem dig_of:∀ (n:Nat) (h:n < (⟨#[48,49,50,51,52,53,54,55,56,57,97,98,99,100,101,102,103,104,105,106,107,108,109,110,111,112,113,114,115,116,117,118,119,120,121,122]⟩:ByteArray).size),n≤9→(⟨#[(⟨#[48,49,50,51,52,53,54,55,56,57,97,98,99,100,101,102,103,104,105,106,107,108,109,110,111,112,113,114,115,116,117,118,119,120,121,122]⟩:ByteArray)[n]'h]⟩:ByteArray)=dig n
  | 0,_,_=>rfl
  | 1,_,_=>rfl
  | 2,_,_=>rfl
  | 3,_,_=>rfl
  | 4,_,_=>rfl
  | 5,_,_=>rfl
  | 6,_,_=>rfl
  | 7,_,_=>rfl
  | 8,_,_=>rfl
  | 9,_,_=>rfl
  | n + 10,_,h=>absurd h oM
theorem fn113:zK Tryz.prog 113=true:=by kernel_rfl
theorem fn124:zK Tryz.prog 124=true:=by kernel_rfl
theorem fn132:zK Tryz.prog 132=true:=by kernel_rfl
theorem small_any (k:Nat) (w:World) (h9:k≤9):Calls Tryz.prog 132 #[.int .i64 (k:Int)] w fun e w'=>e= .returned (.string (dig k))∧Bel w w':=by
 refine enT Tryz.func132 Tryz.ntmps132 rfl rfl fun hB=>?_;refine yZ ?_;refine zX rfl (fun c4=>?_) (fun c4=>?_)
 ·refine zn4 ?_;refine wl (Z9 (c:=((k + 1:Nat):Int)) rfl rfl oM oM) (wl (r_onS (i:=k) U9 rfl rfl rfl (by show k < 36;omega)) (zn6 ?_));exact⟨congrArg (fun s=>Ending.returned (.string s)) (dig_of k _ h9),hB⟩
 exact absurd (show (k:Int) < 10 by omega) c4
theorem LV (k:Nat) (w:World) (h9:k≤9):Calls Tryz.prog 124 #[.int .i64 (k:Int),.int .i64 10] w fun e w'=>e= .returned (.string (dig k))∧Bel w w':=by
 refine enT Tryz.func124 Tryz.ntmps124 rfl rfl fun hB=>?_;refine yZ ?_;refine zX rfl (fun c11=>?_) (fun c11=>?_)
 ·refine yj (yj ?_);refine xJ [12,13,14,15,16,17] 17 (.bool (decide (0≤(k:Int)∧(k:Int) < 100))) nu ?_ (fun gq=>?_)
  ·refine zn4 ?_;refine zw 14 rfl (fun g14=>?_) (fun g14=>?_)
   ·refine zn5 ?_;refine zJ (e_R ⟨rfl,agA,?_⟩);exact clA
   refine zn3 ?_;refine zJ (e_R ⟨rfl,agA,?_⟩);exact clA
  refine e_S ?_;refine zX rfl (fun c17=>?_) (fun c17=>?_)
  ·refine zn3 ?_;refine zV fn132 (small_any k _ h9) rfl (fun e' w1 hr=>?_);obtain⟨rfl,s1⟩:=hr;replace s1:=sB s1;refine⟨_,rfl,?_⟩;refine zn7 ?_;exact⟨rfl,hB.u⟩
  exact absurd ⟨by omega,by omega⟩ c17
 exact absurd rfl c11
theorem itoa2_any (k:Nat) (w:World) (h9:k≤9):Calls Tryz.prog 113 #[.int .i64 (k:Int)] w fun e w'=>e= .returned (.string (dig k))∧Bel w w':=by
 refine enT Tryz.func113 Tryz.ntmps113 rfl rfl fun hB=>?_;refine zn8 ?_;refine zV fn124 (LV k _ h9) rfl (fun e' w1 hr=>?_);obtain⟨rfl,s1⟩:=hr;replace s1:=sB s1;refine⟨_,rfl,?_⟩;refine zn5 ?_;exact⟨rfl,hB.u⟩
theorem FV (k:Nat) (w:World) (h9:k≤9):Calls Tryz.prog 81 #[.int .i64 (k:Int)] w fun e w'=>e= .returned (.string (dig k))∧Bel w w':=by
 refine enT Tryz.func81 Tryz.ntmps81 rfl rfl fun hB=>?_;refine zn8 ?_;refine zV fn113 (itoa2_any k _ h9) rfl (fun e' w1 hr=>?_);obtain⟨rfl,s1⟩:=hr;replace s1:=sB s1;refine⟨_,rfl,?_⟩;refine zn5 ?_;exact⟨rfl,hB.u⟩
end Go.Proofs.YtbcpgfnfiekbiaaGreatDoor
namespace Go.Proofs.YtbcpgfnfiekbiaaGreatDoor
open Go.RowKit
theorem Kw.bel {w w2:World} (h:Kw w w2):Bel w { w2 with os:=w.os,tape:=w.tape,output:=w.output }:=⟨rfl,rfl,rfl,h.1,h.2⟩
theorem TypesIn.keep {w w2:World} {A:Option Addr} {l:List Ty} (hw:Kw w w2) (h:TypesIn w A l):TypesIn w2 A l:=by
  have h2:=h.mono hw.bel;exact h2
theorem FeatsIn.keep {w w2:World} {A:Option Addr} {l:List Ft} (hw:Kw w w2) (h:FeatsIn w A l):FeatsIn w2 A l:=by
  have h2:=h.mono hw.bel;exact h2
end Go.Proofs.YtbcpgfnfiekbiaaGreatDoor
