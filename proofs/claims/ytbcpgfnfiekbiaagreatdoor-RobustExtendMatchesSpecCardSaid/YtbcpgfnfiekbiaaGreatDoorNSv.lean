/- The types of the places of a table, as a world holds them. No program in sight. What these functions of the program compute, at every world: glosswright/simple.Validate$1. What these functions of the program compute, at every world: glosswright/glosswrightref1.To, glosswright/glosswrightref1.noType, glosswright/term.none, glosswright/glosswrightref1.SimpleText. What these functions of the program compute, at every world: glosswright/glosswrightref1.SameType, glosswright/simple.Same. What these functions of the program compute, at every world: glosswright/glosswrightref1.SimpleFault. What these functions of the program compute, at every world: glosswright/simple.Validate. -/
import Derived.Test.YtbcpgfnfiekbiaaGreatDoorRws
import Derived.Test.YtbcpgfnfiekbiaaGreatDoorTrm
import Derived.Test.YtbcpgfnfiekbiaaGreatDoorStk
import Derived.Test.YtbcpgfnfiekbiaaGreatDoorEng4
import Derived.Test.YtbcpgfnfiekbiaaGreatDoorGNodes
import Derived.Test.YtbcpgfnfiekbiaaGreatDoorU
import Derived.Test.YtbcpgfnfiekbiaaGreatDoorRng
namespace Go.Proofs.YtbcpgfnfiekbiaaGreatDoor
open Go.RowKit
def RdT (w0 w:World) (q:Nat) (ls:List Rw):Prop:=∀ k r,ls[k]? =some r→∃ A c K ck,w.rangeAt q (0 + k * 7) [.int .i64 r.kind,.string r.name,.string r.typ.base,.slice A r.typ.args.length c,.int .i64 r.index,.slice K r.kids.length ck,.int .i64 r.up]∧w.rangeAt q (0 + k * 7 + 2) [.string r.typ.base,.slice A r.typ.args.length c]∧SimsIn w0 A r.typ.args∧∀ j (hj:j < r.kids.length),∃ g,K=some ⟨g,0,none⟩∧g < w.heap.size∧w.cell? ⟨g,0 + j * 1,none⟩=some (.int .i64 r.kids[j])
theorem rdt_of {w0 w:World} {q n cap base:Nat} {D:Nat→Prop} {ls:List Rw} {zs:List Value} (ho:Own w base 153 7 (some ⟨q,0,none⟩) n cap zs) (h:RwsIn w0 w D ls zs):RdT w0 w q ls:=fun k r hr=>by
  obtain⟨A,c,K,ck,h1,h2,h3⟩:=h.at_ hr
  have hm:=own_mid ho h1
  refine⟨A,c,K,ck,hm,fun i v hv=>?_,h2,fun j hj=>h3.cell hj⟩
  match i,hv with
  | 0,hv=>exact hm 2 v hv
  | 1,hv=>exact hm 3 v hv
  | i + 2,hv=>simp at hv
theorem nd_row {l:List Rw} {p:Nat} {Γ:List Ts} {v:Tv} (h:Y7 l p Γ v):∃ r,l[p]? =some r∧(r.kind=1∨r.kind=2∨r.kind=3∨r.kind=4):=by
  cases v with
  | con nm τ=>obtain⟨r,h1,h2,_⟩:=h;exact⟨r,h1,.inl h2⟩
  | var i=>obtain⟨r,h1,h2,_⟩:=h;exact⟨r,h1,.inr (.inl h2)⟩
  | abs τ x=>obtain⟨⟨r,h1,h2,_⟩,_⟩:=h;exact⟨r,h1,.inr (.inr (.inl h2))⟩
  | app x y=>obtain⟨⟨r,h1,h2,_⟩,_⟩:=h;exact⟨r,h1,.inr (.inr (.inr h2))⟩
theorem nd_lt {l:List Rw} {p:Nat} {Γ:List Ts} {v:Tv} (h:Y7 l p Γ v):p < l.length:=by
  obtain⟨r,h1,_⟩:=nd_row h;exact(List.getElem?_eq_some_iff.1 h1).1
section nd
variable {l:List Rw} {p:Nat} {r:Rw} {Γ:List Ts} {v:Tv}
theorem nd_con (h:Y7 l p Γ v) (hr:l[p]? =some r) (hk:r.kind=1):∃ nm τ,v= .con nm τ∧r.typ=τ.sm:=by
  cases v with
  | con nm τ=>obtain⟨r',h1,_,h2⟩:=h;cases xx hr h1;exact⟨nm,τ,rfl,h2⟩
  | var i=>obtain⟨r',h1,h2,_⟩:=h;cases xx hr h1;rw [hk] at h2;cases h2
  | abs σ x=>obtain⟨⟨r',h1,h2,_⟩,_⟩:=h;cases xx hr h1;rw [hk] at h2;cases h2
  | app x y=>obtain⟨⟨r',h1,h2,_⟩,_⟩:=h;cases xx hr h1;rw [hk] at h2;cases h2
theorem nd_var (h:Y7 l p Γ v) (hr:l[p]? =some r) (hk:r.kind=2):∃ i,v= .var i∧r.index=(i:Int)∧r.up < (p:Int)∧Chn l r.up Γ:=by
  cases v with
  | con nm τ=>obtain⟨r',h1,h2,_⟩:=h;cases xx hr h1;rw [hk] at h2;cases h2
  | var i=>obtain⟨r',h1,_,h2,h3,h4⟩:=h;cases xx hr h1;exact⟨i,rfl,h2,h3,h4⟩
  | abs σ x=>obtain⟨⟨r',h1,h2,_⟩,_⟩:=h;cases xx hr h1;rw [hk] at h2;cases h2
  | app x y=>obtain⟨⟨r',h1,h2,_⟩,_⟩:=h;cases xx hr h1;rw [hk] at h2;cases h2
theorem nd_abs (h:Y7 l p Γ v) (hr:l[p]? =some r) (hk:r.kind=3):∃ τ x,v= .abs τ x∧r.typ=τ.sm∧r.kids= [((p + 1:Nat):Int)]∧Y7 l (p + 1) (τ :: Γ) x:=by
  cases v with
  | con nm τ=>obtain⟨r',h1,h2,_⟩:=h;cases xx hr h1;rw [hk] at h2;cases h2
  | var i=>obtain⟨r',h1,h2,_⟩:=h;cases xx hr h1;rw [hk] at h2;cases h2
  | abs σ x=>obtain⟨⟨r',h1,_,h2,h3⟩,h4⟩:=h;cases xx hr h1;exact⟨σ,x,rfl,h2,h3,h4⟩
  | app x y=>obtain⟨⟨r',h1,h2,_⟩,_⟩:=h;cases xx hr h1;rw [hk] at h2;cases h2
theorem nd_app (h:Y7 l p Γ v) (hr:l[p]? =some r) (hk:r.kind=4):∃ x y,v= .app x y∧r.kids= [((p + 1:Nat):Int),((p + 1 + x.size:Nat):Int)]∧Y7 l (p + 1) Γ x∧Y7 l (p + 1 + x.size) Γ y:=by
  cases v with
  | con nm τ=>obtain⟨r',h1,h2,_⟩:=h;cases xx hr h1;rw [hk] at h2;cases h2
  | var i=>obtain⟨r',h1,h2,_⟩:=h;cases xx hr h1;rw [hk] at h2;cases h2
  | abs σ x=>obtain⟨⟨r',h1,h2,_⟩,_⟩:=h;cases xx hr h1;rw [hk] at h2;cases h2
  | app x y=>obtain⟨⟨r',h1,_,h2⟩,h3,h4⟩:=h;cases xx hr h1;exact⟨x,y,rfl,h2,h3,h4⟩
end nd
theorem chn_row {l:List Rw} {u:Int} {Γ:List Ts} {k:Nat} {τ:Ts} (h:Chn l u Γ) (hk:Γ[k]? =some τ):∃ (m:Nat) (r:Rw),u=(m:Int)∧l[m]? =some r∧r.up < (m:Int)∧-1≤r.up∧((r.kind=3∧((k=0∧r.typ=τ.sm)∨∃ k',k=k' + 1∧∃ Δ,Δ[k']? =some τ∧Chn l r.up Δ))∨(r.kind≠3∧∃ Δ,Δ[k]? =some τ∧Chn l r.up Δ)):=by
  have low:∀ {u:Int} {Γ:List Ts},Chn l u Γ→-1≤u:=fun h=>by cases h <;> omega
  cases h with
  | nil=>simp at hk
  | @abs m r σ Δ h1 h2 h3 h4 h5=>
    refine⟨m,r,rfl,h1,h4,low h5,.inl ⟨h2,?_⟩⟩;cases k with
    | zero=>obtain rfl:σ=τ:=Option.some.inj hk;exact .inl ⟨rfl,h3⟩
    | succ k=>exact .inr ⟨k,rfl,Δ,hk,h5⟩
  | @app m r _ h1 h2 h4 h5=>exact⟨m,r,rfl,h1,h4,low h5,.inr ⟨h2,Γ,hk,h5⟩⟩
theorem NJ:∀ (v:Tv) (Γ:List Ts) (j:Nat) (h:j < (nds Γ v).length),(nds Γ v)[j].1.length + (nds Γ v)[j].2.size≤Γ.length + v.size
  | .con nm τ,Γ,j,h=>by
    obtain rfl:j=0:=by simp [nds] at h;omega
    exact Nat.le_refl _
  | .var i,Γ,j,h=>by
    obtain rfl:j=0:=by simp [nds] at h;omega
    exact Nat.le_refl _
  | .abs τ x,Γ,j,h=>by
    cases j with
    | zero=>exact Nat.le_refl _
    | succ j=>
      have:=NJ x (τ :: Γ) j (by simp only [nds,List.length_cons] at h;omega)
      simp only [nds,List.getElem_cons_succ,List.length_cons,Tv.size] at this ⊢
      omega
  | .app x y,Γ,j,h=>by
    cases j with
    | zero=>exact Nat.le_refl _
    | succ j=>
      simp only [nds,List.getElem_cons_succ,Tv.size]
      by_cases e:j < (nds Γ x).length
      · rw [List.getElem_append_left e]
        have:=NJ x Γ j e
        omega
      · rw [List.getElem_append_right om]
        have:=NJ y Γ (j - (nds Γ x).length) (by simp only [nds,List.length_cons,List.length_append] at h;omega)
        omega
theorem NQ {m j:Nat} {f h:Nat→Value} (hj:j < m * 2):(kV m f h)[j]? =some (if j % 2=0 then f (j / 2) else h (j / 2)):=by
  unfold kV;rw [Array.getElem?_ofFn,dif_pos hj]
theorem I0 {m i:Nat} {f h:Nat→Value} {a b:Value}:CZ (kV m f h) (0 + i * 2) [a,b]=kV m (fun j=>if j=i then a else f j) (fun j=>if j=i then b else h j):=by
  show ((kV m f h).setIfInBounds (0 + i * 2 + 0) a).setIfInBounds (0 + i * 2 + 1) b=_;rw [D9,D8]
theorem I1 {w:World} {b t n k:Nat} {F H:Nat→Value} {x y:Value} (hb:Blk w b t (kV n F H)) (hk:k < n) (hF:F k=x) (hH:H k=y):w.rangeAt b (0 + k * 2) [x,y]:=fun i v hv=>by
  match i,hv with
  | 0,hv=>obtain rfl:=Option.some.inj hv;rw [cell_of_row w b _ _ _ _ hb,Dq hk,hF]
  | 1,hv=>obtain rfl:=Option.some.inj hv;rw [cell_of_row w b _ _ _ _ hb,M8 hk,hH]
  | i + 2,hv=>simp at hv
theorem M3 {w w':World} {b:Nat} (hs:Same [b] w w') (hk:∀ (τ:Ts) (o c:Nat) (A:Option Addr),w.rangeAt b o [.string τ.sm.base,.slice A τ.sm.args.length c]→w'.rangeAt b o [.string τ.sm.base,.slice A τ.sm.args.length c]):∀ (τ:Ts) {A:Option Addr},SimsIn w A τ.sm.args→SimsIn w' A τ.sm.args
  | .b t,A,h=>by cases t <;> exact .nil
  | .f x y,A,h=>by
    obtain⟨b1,o1,A0,c0,rfl,hl,hr0,hs0⟩:=h.at_ (k:=0) (by simp [Ts.sm,Sm.args])
    obtain⟨_,_,A1,c1,e1,_,hr1,hs1⟩:=h.at_ (k:=1) (by simp [Ts.sm,Sm.args])
    cases e1
    have mv:∀ (τ:Ts) (o c:Nat) (A:Option Addr),w.rangeAt b1 o [.string τ.sm.base,.slice A τ.sm.args.length c]→w'.rangeAt b1 o [.string τ.sm.base,.slice A τ.sm.args.length c]:=fun τ o c A h=>by
      by_cases e:b1=b
      · subst e;exact hk τ o c A h
      · exact fun i v hv=>MQ hs hl (fun hm=>e (List.mem_singleton.1 hm)) (h i v hv)
    refine .more (show 2≤vQ by decide) (nLL hl hs.size) (fun k hk2=>?_)
    match k,hk2 with
    | 0,_=>
      show SimAt w' b1 (o1 + 0 * 2) x.sm
      rw [Sm.eta x.sm]
      exact SimAt.mk (nLL hl hs.size) (mv x _ _ _ hr0) (M3 hs hk x hs0)
    | 1,_=>
      show SimAt w' b1 (o1 + 1 * 2) y.sm
      rw [Sm.eta y.sm]
      exact SimAt.mk (nLL hl hs.size) (mv y _ _ _ hr1) (M3 hs hk y hs1)
theorem keep_row2 {w w':World} {b n p:Nat} {F H:Nat→Value} {x y:Value} (hb:Blk w b 41 (kV n F H)) (hF:F p= .string ⟨#[]⟩) (hH:H p= .slice none 0 0) (hb':Blk w' b 41 (kV n (fun j=>if j=p then x else F j) (fun j=>if j=p then y else H j))) (τ:Ts) (o c:Nat) (A:Option Addr) (h:w.rangeAt b o [.string τ.sm.base,.slice A τ.sm.args.length c]):w'.rangeAt b o [.string τ.sm.base,.slice A τ.sm.args.length c]:=by
  have h0:=h 0 _ rfl;have h1:=h 1 _ rfl;rw [Nat.add_zero,cell_of_row w b o _ _ _ hb] at h0;rw [cell_of_row w b (o + 1) _ _ _ hb] at h1;have hlt:o + 1 < n * 2:=by
    have:=(Array.getElem?_eq_some_iff.1 h1).1
    rwa [oy] at this
  rw [NQ om] at h0;rw [NQ hlt] at h1;have n0:o / 2≠p:=fun e=>by
    by_cases ev:o % 2=0
    · rw [if_pos ev,e,hF] at h0
      rw [if_neg (show ¬(o + 1) % 2=0 by omega),show (o + 1) / 2=p by omega,hH] at h1;simp only [Option.some.injEq,Value.string.injEq] at h0;simp only [Option.some.injEq,Value.slice.injEq] at h1;obtain⟨u,v,rfl⟩:∃ u v,τ= .f u v:=by
        cases τ with
        | b t=>exfalso;revert h0;cases t <;> decide
        | f u v=>exact⟨u,v,rfl⟩
      have h2:0=2:=h1.2.1;cases h2
    · rw [if_neg ev,e,hH] at h0;cases h0
  have n1:(o + 1) / 2≠p:=fun e=>by
    have ev:(o + 1) % 2=0:=by omega
    rw [if_pos ev,e,hF] at h1;cases h1
  intro i v hv
  match i,hv with
  | 0,hv=>
    obtain rfl:=Option.some.inj hv;rw [Nat.add_zero,cell_of_row w' b o _ _ _ hb',NQ om];simp only [if_neg n0];exact h0
  | 1,hv=>
    obtain rfl:=Option.some.inj hv;rw [cell_of_row w' b (o + 1) _ _ _ hb',NQ hlt];simp only [if_neg n1];exact h1
  | i + 2,hv=>simp at hv
structure TI (ls:List Rw) (n i:Nat) (F H:Nat→Value) (w:World):Prop where
  z:∀ k,k < i→F k= .string ⟨#[]⟩∧H k= .slice none 0 0
  t:∀ k,i≤k→k < n→∃ τ A c,TyAt ls k τ∧F k= .string τ.sm.base∧H k= .slice A τ.sm.args.length c∧SimsIn w A τ.sm.args
theorem TI.start (ls:List Rw) (n:Nat) (w:World):TI ls n n (fun _=> .string ⟨#[]⟩) (fun _=> .slice none 0 0) w:=⟨fun _ _=>⟨rfl,rfl⟩,fun k h1 h2=>by omega⟩
theorem TI.mono {ls:List Rw} {n i:Nat} {F H:Nat→Value} {w w':World} (h:TI ls n i F H w) (hb:Bel w w'):TI ls n i F H w':=⟨h.z,fun k h1 h2=>by
  obtain⟨τ,A,c,a1,a2,a3,a4⟩:=h.t k h1 h2
  exact⟨τ,A,c,a1,a2,a3,a4.mono hb⟩⟩
theorem TI.put {ls:List Rw} {n p b c:Nat} {F H:Nat→Value} {w w':World} {τ:Ts} {A:Option Addr} (h:TI ls n (p + 1) F H w) (hp:p < n) (hb:Blk w b 41 (kV n F H)) (hb':Blk w' b 41 (kV n (fun j=>if j=p then .string τ.sm.base else F j) (fun j=>if j=p then .slice A τ.sm.args.length c else H j))) (hs:Same [b] w w') (hT:TyAt ls p τ) (hS:SimsIn w A τ.sm.args):TI ls n p (fun j=>if j=p then .string τ.sm.base else F j) (fun j=>if j=p then .slice A τ.sm.args.length c else H j) w':=by
  obtain⟨z1,z2⟩:=h.z p (Nat.lt_succ_self _);have mv:∀ (σ:Ts) {B:Option Addr},SimsIn w B σ.sm.args→SimsIn w' B σ.sm.args:=fun σ _ hσ=>M3 hs (fun σ o c A hr=>keep_row2 hb z1 z2 hb' σ o c A hr) σ hσ
  refine⟨fun k hk=>?_,fun k h1 h2=>?_⟩
  · have ne:¬k=p:=by omega
    simp only [if_neg ne];exact h.z k om
  · by_cases e:k=p
    · subst e
      simp only [if_true];exact⟨τ,A,c,hT,rfl,rfl,mv τ hS⟩
    · simp only [if_neg e]
      obtain⟨σ,B,d,a1,a2,a3,a4⟩:=h.t k om h2;exact⟨σ,B,d,a1,a2,a3,mv σ a4⟩
theorem nd_txt {l:List Rw} {p:Nat} {Γ:List Ts} {v:Tv} {τ:Ts} (h:Y7 l p Γ v) (ho:v.ok Γ.length) (hG:∀ σ ∈ Γ,σ.size≤200) (hs:v.size≤200) (ht:TyAt l p τ):τ.txt.length≤1000000:=by
  have h1:=Ej ho hG (ht Γ v h);have h2:=Ts.txt_le τ;omega
end Go.Proofs.YtbcpgfnfiekbiaaGreatDoor
namespace Go.Proofs.YtbcpgfnfiekbiaaGreatDoor
open Go.RowKit
section ok
variable {b:ByteArray} {l:List Sm}
theorem okA (h:b=smE∨b=smT) (k:((l.length:Nat):Int)=0):X0 (.mk b l):= .inl ⟨h,by show l.length=0;omega⟩
theorem okB1 (h:b=smE∨b=smT) (k:¬((l.length:Nat):Int)=0):¬X0 (.mk b l):=by
  rintro (⟨_,h2⟩ | ⟨h2,_⟩)
  · exact k (by have:l.length=0:=h2;omega)
  · have h2:b=⟨#[]⟩:=h2
    rcases h with h | h <;> exact absurd (h.symm.trans h2) dE
theorem okB2 (h:¬(b=smE∨b=smT)) (k:¬b=⟨#[]⟩):¬X0 (.mk b l):=by
  rintro (⟨h2,_⟩ | ⟨h2,_⟩)
  · exact h h2
  · exact k h2
theorem okX (h:b=smE∨b=smT) (k:b=⟨#[]⟩):False:=by rcases h with h | h <;> exact absurd (h.symm.trans k) dE
theorem okD (h:¬(b=smE∨b=smT)) (k:b=⟨#[]⟩):decide (¬((l.length:Nat):Int)=2)=decide (¬X0 (.mk b l)):=by
  refine decide_eq_decide.2 (not_congr ⟨fun e=> .inr ⟨k,by show l.length=2;omega⟩,fun e=>?_⟩);rcases e with ⟨h2,_⟩ | ⟨_,h2⟩
  · exact absurd h2 h
  · have:l.length=2:=h2
    omega
end ok
theorem fn123:zZ Tryz.prog 123=true:=by kernel_rfl
theorem xJ:(Tryz.prog.info? 41).map (·.size)=some 2:=by kernel_rfl
theorem Xv:(Tryz.prog.info? 9).map (·.size)=some 1:=by kernel_rfl
theorem K0:(Tryz.prog.info? 41).map (·.zero)=some (some (.agg #[.string ⟨#[]⟩,.slice none 0 0])):=by kernel_rfl
set_option maxRecDepth 100000 in
set_option maxHeartbeats 2000000 in
theorem swk_step {w0:World} {bN bV:Nat} (l0N:w0.heap.size≤bN) (_l0V:w0.heap.size≤bV) (nVN:bV≠bN) {base:ByteArray} {args:List Sm} {A:Option Addr} {c d n:Nat} {w:World} (hS:SimsIn w0 A args) (IH:∀ x ∈ args,∀ (A2:Option Addr) (c2 d2 n2:Nat) (w2:World),SimsIn w0 A2 x.args→n2≤200→d2≤41→Bel w0 w2→Blk w2 bN 3 #[.int .i64 ((n2:Nat):Int)]→Blk w2 bV 185 #[.func (.func 123) #[] #[.pointer (some ⟨bN,0,none⟩),.pointer (some ⟨bV,0,none⟩)]]→Calls Tryz.prog 123 #[.agg #[.string x.base,.slice A2 x.args.length c2],.int .i64 ((d2:Nat):Int),.pointer (some ⟨bN,0,none⟩),.pointer (some ⟨bV,0,none⟩)] w2 fun e w'=>e= .returned (.int .i64 (swk x d2 n2).2)∧ChG (fun g=>g=bN) w2 w'∧Blk w' bN 3 #[.int .i64 (((swk x d2 n2).1:Nat):Int)]) (hn:n≤200) (hd:d≤41) (hB:Bel w0 w) (hbN:Blk w bN 3 #[.int .i64 ((n:Nat):Int)]) (hbV:Blk w bV 185 #[.func (.func 123) #[] #[.pointer (some ⟨bN,0,none⟩),.pointer (some ⟨bV,0,none⟩)]]):Calls Tryz.prog 123 #[.agg #[.string base,.slice A args.length c],.int .i64 ((d:Nat):Int),.pointer (some ⟨bN,0,none⟩),.pointer (some ⟨bV,0,none⟩)] w fun e w'=>e= .returned (.int .i64 (swk (.mk base args) d n).2)∧ChG (fun g=>g=bN) w w'∧Blk w' bN 3 #[.int .i64 (((swk (.mk base args) d n).1:Nat):Int)]:=by
 have hmx:=hS.le;unfold vQ at hmx;have ltN:=hbN.lt;have ltV:=hbV.lt;have hC:ChG (fun g=>g=bN) w w:=ChG.refl _ _;refine enter Tryz.func123 Tryz.ntmps123 rfl (Nat.le_of_ble_eq_true rfl) (zn2 ?_);refine qK (v:= .agg #[_,_]) (cs:=#[_,_]) rfl rfl (fun b4 w1 hb4 s1 hr=>?_);have:=nLL hbN.lt hr;have:=nLL hbV.lt hr;replace hC:=hC.st s1 (by simp);refine zn7 ?_;replace hbN:=hbN.tr0 s1;refine x9 (v:= .int _ _) hbN rfl rfl qX (by first | decide | simp) rfl rfl (fun w2 hq s2=>?_);replace hB:=hB.u.tr1 s2 l0N;replace hC:=hC.st s2 (fun g hg=>by rw [List.mem_singleton.1 hg];first | exact .inl rfl | exact .inr or_hC_bN);replace hbN:=hq;refine zn4 ?_;refine x6 [13,14,15,16,17,18] 18 (.bool (decide (200 < n + 1∨40 < d))) nu ?_ (fun gq=>?_)
 ·refine zn4 ?_;refine zx 15 rfl (fun g15=>?_) (fun g15=>?_)
  ·refine zn3 ?_;refine zw (e_R ⟨rfl,agA,?_⟩);exact clA
  refine zn5 ?_;refine zw (e_R ⟨rfl,agA,?_⟩);exact clA
 refine e_S ?_;refine zy rfl (fun c18=>?_) (fun c18=>?_)
 ·refine zn8 ?_;have e:swk (.mk base args) d n=(n + 1,1):=by rw [M1,if_pos c18]
  rw [e];exact⟨rfl,hC,hbN⟩
 refine zn3 ?_;refine x6 (rg [7] 19 8) 7 (.bool (decide (base=smE∨base=smT))) nu ?_ (fun gq=>?_)
 ·refine zn5 ?_;refine zx 22 rfl (fun g22=>?_) (fun g22=>?_)
  ·refine zn5 ?_;refine zw (e_R ⟨rfl,agA,?_⟩);show Value.bool _=Value.bool _
   first | exact congrArg Value.bool (decide_eq_true (Or.inl g22)).symm | exact congrArg Value.bool (decide_eq_decide.2 ⟨Or.inr,fun h=>h.resolve_left g22⟩)
  refine zn8 ?_;refine zw (e_R ⟨rfl,agA,?_⟩);show Value.bool _=Value.bool _
  first | exact congrArg Value.bool (decide_eq_true (Or.inl g22)).symm | exact congrArg Value.bool (decide_eq_decide.2 ⟨Or.inr,fun h=>h.resolve_left g22⟩)
 refine zn3 ?_;refine x6 (rg [] 27 19) 45 (.bool (decide (¬X0 (.mk base args)))) nu ?_ (fun gq=>?_)
 ·refine zn3 ?_;refine zx 28 rfl (fun g28=>?_) (fun g28=>?_)
  ·refine yw ?_;refine zx 34 rfl (fun g34=>?_) (fun g34=>?_)
   ·refine yx ?_;refine zw (e_R ⟨rfl,agA,?_⟩);show Value.bool _=Value.bool _
    first | exact(okX g28 g38).elim | exact congrArg Value.bool (decide_eq_false (fun h=>h (okA g28 g34))).symm | exact congrArg Value.bool (decide_eq_true (okB1 g28 g34)).symm | exact congrArg Value.bool (decide_eq_true (okB2 g28 g38)).symm | exact congrArg Value.bool (okD g28 g38)
   refine zn8 ?_;refine zx 38 rfl (fun g38=>?_) (fun g38=>?_)
   ·refine y8 ?_;refine zw (e_R ⟨rfl,agA,?_⟩);show Value.bool _=Value.bool _
    first | exact(okX g28 g38).elim | exact congrArg Value.bool (decide_eq_false (fun h=>h (okA g28 g34))).symm | exact congrArg Value.bool (decide_eq_true (okB1 g28 g34)).symm | exact congrArg Value.bool (decide_eq_true (okB2 g28 g38)).symm | exact congrArg Value.bool (okD g28 g38)
   refine zn8 ?_;refine zw (e_R ⟨rfl,agA,?_⟩);show Value.bool _=Value.bool _
   first | exact(okX g28 g38).elim | exact congrArg Value.bool (decide_eq_false (fun h=>h (okA g28 g34))).symm | exact congrArg Value.bool (decide_eq_true (okB1 g28 g34)).symm | exact congrArg Value.bool (decide_eq_true (okB2 g28 g38)).symm | exact congrArg Value.bool (okD g28 g38)
  refine gV ?_;refine zx 38 rfl (fun g38=>?_) (fun g38=>?_)
  ·refine y8 ?_;refine zw (e_R ⟨rfl,agA,?_⟩);show Value.bool _=Value.bool _
   first | exact(okX g28 g38).elim | exact congrArg Value.bool (decide_eq_false (fun h=>h (okA g28 g34))).symm | exact congrArg Value.bool (decide_eq_true (okB1 g28 g34)).symm | exact congrArg Value.bool (decide_eq_true (okB2 g28 g38)).symm | exact congrArg Value.bool (okD g28 g38)
  refine zn8 ?_;refine zw (e_R ⟨rfl,agA,?_⟩);show Value.bool _=Value.bool _
  first | exact(okX g28 g38).elim | exact congrArg Value.bool (decide_eq_false (fun h=>h (okA g28 g34))).symm | exact congrArg Value.bool (decide_eq_true (okB1 g28 g34)).symm | exact congrArg Value.bool (decide_eq_true (okB2 g28 g38)).symm | exact congrArg Value.bool (okD g28 g38)
 refine e_S ?_;refine zy rfl (fun c45=>?_) (fun c45=>?_)
 ·have e:swk (.mk base args) d n=(n + 1,5):=by rw [M1,if_neg c18,if_neg c45]
  refine zn8 ?_;rw [e];exact⟨rfl,hC,hbN⟩
 have hok:X0 (.mk base args):=Decidable.not_not.1 c45;have he:swk (.mk base args) d n=Jk args (d + 1) (n + 1):=by rw [M1,if_neg c18,if_pos hok];rfl
 refine y8 ?_;refine zK (rg [6,9,10] 49 13) (fun m g w'=>∃ j nj:Nat,j≤args.length∧m=args.length - j∧g 49= .int .i64 j∧nj≤200∧Jk args (d + 1) (n + 1)=Jk (args.drop j) (d + 1) nj∧Bel w0 w'∧Blk w' bN 3 #[.int .i64 ((nj:Nat):Int)]∧Blk w' bV 185 #[.func (.func 123) #[] #[.pointer (some ⟨bN,0,none⟩),.pointer (some ⟨bV,0,none⟩)]]∧ChG (fun g=>g=bN) w w') (args.length) ?_ (fun m g8 w3 hI=>?_)
 ·exact⟨0,n + 1,Nat.zero_le _,rfl,rfl,by omega,rfl,hB,hbN,hbV.u,hC⟩
 obtain⟨j,nj,hj,hmj,h49,hnj,hR,hB,hbN,hbV,hC⟩:=hI;refine zQ 49 _ h49 nu (zn6 ?_);refine zy rfl (fun c50=>?_) (fun c50=>?_)
 ·have hjl:j < args.length:=by omega
  obtain⟨sb,so,A',c',rfl,hsb,hsr,hs2⟩:=hS.at_ hjl;have hdr:args.drop j=args[j] :: args.drop (j + 1):=List.drop_eq_getElem_cons hjl;rw [hdr,Jk] at hR;refine zn8 ?_;refine zY (cs:=#[.string ⟨#[]⟩,.slice none 0 0]) K0 rfl (fun b9 w4 hb9 s3 hr=>?_);have:=nLL hbN.lt hr;have:=nLL hbV.lt hr;have or_hC_b9:=(nLT hC.size hr)
  have lo9:=nLT (Bel.size hB) hr;replace hC:=hC.st s3 (by simp);refine zj hb9 rfl rfl xJ rfl zX (fun w5 hq s4=>?_);replace hC:=hC.st s4 (fun g hg=>by rw [List.mem_singleton.1 hg];first | exact .inl rfl | exact .inr or_hC_b9);replace hb9:=hq;refine zn8 ?_;refine xX rfl fn123 (IH _ (List.getElem_mem hjl) A' c' (d + 1) nj _ hs2 hnj om hB.u hbN.u hbV.u) rfl rfl (fun e' w6 hr=>?_);obtain⟨rfl,hC2,hbN2⟩:=hr;replace hB:=(hB.tr0 s3).tr1 s4 lo9;replace hB:=hB.chG hC2 (fun g hg=>by rw [show g=bN from hg];exact l0N);replace hbV:=(hbV.tr0 s3).tr1 s4 om;replace hbV:=hbV.chG hC2 (fun hx=>by have hx:bV=bN:=hx;omega);replace hC:=hC.trans hC2 (fun g hg=> .inl hg);replace hbN:=hbN2;refine⟨_,rfl,?_⟩;refine zn9 ?_;refine zy rfl (fun c59=>?_) (fun c59=>?_)
  ·rw [if_neg c59] at hR;refine kJ ?_;rw [he,hR];exact⟨rfl,hC,hbN⟩
  have c59:(swk (args[j]'hjl) (d + 1) nj).2=0:=Decidable.not_not.1 c59;rw [if_pos c59] at hR;obtain⟨_,_,e1,e2⟩:=H3 _ _ _ c59;have hn3:(swk (args[j]'hjl) (d + 1) nj).1≤200:=by rw [e1];exact e2
  have hR3:=hR;refine zn7 ?_;refine qV (args.length - (j + 1)) om agA ?_;exact⟨j + 1,_,by omega,rfl,rfl,hn3,hR3,hB,hbN,hbV,hC⟩
 have hje:j=args.length:=by omega
 rw [hje,List.drop_length,Jk] at hR;refine y8 ?_;rw [he,hR];exact⟨rfl,hC,hbN⟩
theorem swk_anyK {w0:World} {bN bV:Nat} (l0N:w0.heap.size≤bN) (_l0V:w0.heap.size≤bV) (nVN:bV≠bN):∀ (k:Nat) (s:Sm),SizeOf.sizeOf s < k→∀ (A:Option Addr) (c d n:Nat) (w:World),SimsIn w0 A s.args→n≤200→d≤41→Bel w0 w→Blk w bN 3 #[.int .i64 ((n:Nat):Int)]→Blk w bV 185 #[.func (.func 123) #[] #[.pointer (some ⟨bN,0,none⟩),.pointer (some ⟨bV,0,none⟩)]]→Calls Tryz.prog 123 #[.agg #[.string s.base,.slice A s.args.length c],.int .i64 ((d:Nat):Int),.pointer (some ⟨bN,0,none⟩),.pointer (some ⟨bV,0,none⟩)] w fun e w'=>e= .returned (.int .i64 (swk s d n).2)∧ChG (fun g=>g=bN) w w'∧Blk w' bN 3 #[.int .i64 (((swk s d n).1:Nat):Int)]:=by
  intro k
  induction k with
  | zero=>intro s h;omega
  | succ k ih=>
    intro s h A c d n w hS hn hd hB hbN hbV;cases s with
    | mk base args=>exact swk_step (base:=base) (args:=args) l0N _l0V nVN hS (fun x hx A2 c2 d2 n2 w2 h1 h2 h3 h4 h5 h6=>ih x (by have:=List.sizeOf_lt_of_mem hx;simp only [Sm.mk.sizeOf_spec] at h;omega) A2 c2 d2 n2 w2 h1 h2 h3 h4 h5 h6) hn hd hB hbN hbV
theorem swk_any {w0:World} {bN bV:Nat} (l0N:w0.heap.size≤bN) (_l0V:w0.heap.size≤bV) (nVN:bV≠bN)  (s:Sm) (A:Option Addr) (c d n:Nat) (w:World):SimsIn w0 A s.args→n≤200→d≤41→Bel w0 w→Blk w bN 3 #[.int .i64 ((n:Nat):Int)]→Blk w bV 185 #[.func (.func 123) #[] #[.pointer (some ⟨bN,0,none⟩),.pointer (some ⟨bV,0,none⟩)]]→Calls Tryz.prog 123 #[.agg #[.string s.base,.slice A s.args.length c],.int .i64 ((d:Nat):Int),.pointer (some ⟨bN,0,none⟩),.pointer (some ⟨bV,0,none⟩)] w fun e w'=>e= .returned (.int .i64 (swk s d n).2)∧ChG (fun g=>g=bN) w w'∧Blk w' bN 3 #[.int .i64 (((swk s d n).1:Nat):Int)]:=swk_anyK l0N _l0V nVN (SizeOf.sizeOf s + 1) s (Nat.lt_succ_self _) A c d n w
end Go.Proofs.YtbcpgfnfiekbiaaGreatDoor
namespace Go.Proofs.YtbcpgfnfiekbiaaGreatDoor
open Go.RowKit
theorem sm2_two {w:World} {b c1 c2:Nat} {A1 A2:Option Addr} {s t:Sm} (hb:Blk w b 41 #[.string s.base,.slice A1 s.args.length c1,.string t.base,.slice A2 t.args.length c2]) (h1:SimsIn w A1 s.args) (h2:SimsIn w A2 t.args):SimsIn w (some ⟨b,0,none⟩) [s,t]:=by
  refine .more (by simp [vQ]) hb.lt (fun k hk=>?_)
  match k,hk with
  | 0,_=>
    rw [show [s,t][0]=Sm.mk s.base s.args from Sm.eta s];refine SimAt.mk (c:=c1) hb.lt (fun i v hv=>?_) h1
    match i,hv with
    | 0,hv=>exact hb.cell hv
    | 1,hv=>exact hb.cell hv
    | i + 2,hv=>simp at hv
  | 1,_=>
    rw [show [s,t][1]=Sm.mk t.base t.args from Sm.eta t];refine SimAt.mk (c:=c2) hb.lt (fun i v hv=>?_) h2
    match i,hv with
    | 0,hv=>exact hb.cell hv
    | 1,hv=>exact hb.cell hv
    | i + 2,hv=>simp at hv
def tb (τ:Ts):ByteArray:=⟨τ.txt.toArray⟩
theorem VX (τ:Ts):(tb τ).size=τ.txt.length:=by rw [← E3];rfl
theorem tb_eq (a b:Ts):decide (tb a=tb b)=a.eqb b:=by
  by_cases h:a=b
  · subst h;rw [decide_eq_true rfl,(Ts.eqb_iff).2 rfl]
  · rw [decide_eq_false (fun e=>h (Ts.txt_inj (by have:=congrArg bl e;exact this)))]
    cases e:a.eqb b with
    | true=>exact absurd (Ts.eqb_iff.1 e) h
    | false=>rfl
theorem tb_leaf (t:Bool):tb (.b t)=(Ts.b t).sm.base:=by cases t <;> rfl
theorem tb_f (x y:Ts):(⟨#[40]⟩:ByteArray) ++ tb x ++ ⟨#[32]⟩ ++ tb y ++ ⟨#[41]⟩=tb (.f x y):=by
  refine SQ ?_;simp only [bl_app];show [40] ++ x.txt ++ [32] ++ y.txt ++ [41]=40 :: (x.txt ++ 32 :: (y.txt ++ [41]));simp
theorem ts_leaf {τ:Ts} (h:¬τ.sm.base=⟨#[]⟩):∃ t,τ= .b t:=by
  cases τ with
  | b t=>exact⟨t,rfl⟩
  | f x y=>exact absurd rfl h
theorem ts_fun {τ:Ts} (h:τ.sm.base=⟨#[]⟩):∃ x y,τ= .f x y:=by
  cases τ with
  | b t=>exact absurd h (by cases t <;> decide)
  | f x y=>exact⟨x,y,rfl⟩
theorem fn92:zZ Tryz.prog 92=true:=by kernel_rfl
theorem to_any (A1 A2:Option Addr) (c1 c2:Nat) (s t:Sm) (w:World) (h1:SimsIn w A1 s.args) (h2:SimsIn w A2 t.args):Calls Tryz.prog 91 #[.agg #[.string s.base,.slice A1 s.args.length c1],.agg #[.string t.base,.slice A2 t.args.length c2]] w fun e w'=>(∃ b,e= .returned (.agg #[.string ⟨#[]⟩,.slice (some ⟨b,0,none⟩) 2 2])∧SimsIn w' (some ⟨b,0,none⟩) [s,t])∧Bel w w':=by
 refine enT Tryz.func91 Tryz.ntmps91 rfl rfl fun hB=>?_;refine zn2 ?_;refine qK (v:= .agg #[_,_]) (cs:=#[_,_]) rfl rfl (fun b2 w1 hb2 s1 hr=>?_);refine qK (v:= .agg #[_,_]) (cs:=#[_,_]) rfl rfl (fun b3 w2 hb3 s2 hr=>?_);refine zY (cs:=#[.string ⟨#[]⟩,.slice none 0 0]) K0 rfl (fun b4 w3 hb4 s3 hr=>?_);have lo4:=nLT (Bel.size hB.u) hr;refine zn6 ?_;refine qv (cs:=#[_,_,_,_]) [(0,.agg _),(1,.agg _)] rfl U39 xJ K0 dE dE kR rfl (fun b7 w4 hb7 s4 hr=>?_);have:=nLL hb4.lt hr;refine wl (V8 (v0:= .slice _ _ _) (fun v0=>#[.string ⟨#[]⟩,v0]) rfl kR) ?_;refine zj hb4.u rfl rfl xJ rfl zX (fun w5 hq s5=>?_);replace hb4:=hq;refine zn3 ?_;refine x8 (.inl rfl) rfl (zk U41 rfl rfl hb4.range0 xJ) ?_;exact⟨⟨b7,rfl,sm2_two hb7.u (h1.mono hB.u) (h2.mono hB.u)⟩,hB.u⟩
theorem XW (A:Option Addr) (c:Nat) (s:Sm) (w:World):Calls Tryz.prog 86 #[.agg #[.string s.base,.slice A s.args.length c]] w fun e w'=>e= .returned (.bool (decide (J4 s)))∧Bel w w':=by
 refine enT Tryz.func86 Tryz.ntmps86 rfl rfl fun hB=>?_;refine zn2 ?_;refine qK (v:= .agg #[_,_]) (cs:=#[_,_]) rfl rfl (fun b1 w1 hb1 s1 hr=>?_);refine zn4 ?_;refine x6 (rg [] 2 10) 2 (.bool (decide (J4 s))) nu ?_ (fun gq=>?_)
 ·refine zn5 ?_;refine zx 6 rfl (fun g6=>?_) (fun g6=>?_)
  ·refine yw ?_;refine zw (e_R ⟨rfl,agA,?_⟩);show Value.bool _=Value.bool _
   first | exact congrArg Value.bool (decide_eq_decide.2 ⟨fun e=>⟨g6,by omega⟩,fun e=>by have:=e.2;omega⟩) | exact congrArg Value.bool (decide_eq_false (fun e=>g6 e.1)).symm
  refine zn6 ?_;refine zw (e_R ⟨rfl,agA,?_⟩);show Value.bool _=Value.bool _
  first | exact congrArg Value.bool (decide_eq_decide.2 ⟨fun e=>⟨g6,by omega⟩,fun e=>by have:=e.2;omega⟩) | exact congrArg Value.bool (decide_eq_false (fun e=>g6 e.1)).symm
 refine zn3 ?_;exact⟨rfl,hB.u⟩
theorem F5 (A:Option Addr) (c:Nat) (s:Sm) (w:World):Calls Tryz.prog 110 #[.agg #[.string s.base,.slice A s.args.length c]] w fun e w'=>e= .returned (.bool (decide (J4 s)))∧Bel w w':=by
 refine enT Tryz.func110 Tryz.ntmps110 rfl rfl fun hB=>?_;refine zn2 ?_;refine qK (v:= .agg #[_,_]) (cs:=#[_,_]) rfl rfl (fun b1 w1 hb1 s1 hr=>?_);refine zn4 ?_;refine x6 (rg [] 2 10) 2 (.bool (decide (J4 s))) nu ?_ (fun gq=>?_)
 ·refine zn5 ?_;refine zx 6 rfl (fun g6=>?_) (fun g6=>?_)
  ·refine yw ?_;refine zw (e_R ⟨rfl,agA,?_⟩);show Value.bool _=Value.bool _
   first | exact congrArg Value.bool (decide_eq_decide.2 ⟨fun e=>⟨g6,by omega⟩,fun e=>by have:=e.2;omega⟩) | exact congrArg Value.bool (decide_eq_false (fun e=>g6 e.1)).symm
  refine zn6 ?_;refine zw (e_R ⟨rfl,agA,?_⟩);show Value.bool _=Value.bool _
  first | exact congrArg Value.bool (decide_eq_decide.2 ⟨fun e=>⟨g6,by omega⟩,fun e=>by have:=e.2;omega⟩) | exact congrArg Value.bool (decide_eq_false (fun e=>g6 e.1)).symm
 refine zn3 ?_;exact⟨rfl,hB.u⟩
set_option maxHeartbeats 1000000 in
theorem stx_step {τ:Ts} {A:Option Addr} {c:Nat} {w:World} (hS:SimsIn w A τ.sm.args) (hlen:τ.txt.length≤1000000) (IH:∀ x ∈ τ.kids,∀ (A2:Option Addr) (c2:Nat) (w2:World),SimsIn w2 A2 x.sm.args→x.txt.length≤1000000→Calls Tryz.prog 92 #[.agg #[.string (x).sm.base,.slice A2 (x).sm.args.length c2]] w2 fun e w'=>e= .returned (.string (tb x))∧Bel w2 w'):Calls Tryz.prog 92 #[.agg #[.string (τ).sm.base,.slice A (τ).sm.args.length c]] w fun e w'=>e= .returned (.string (tb τ))∧Bel w w':=by
 refine enT Tryz.func92 Tryz.ntmps92 rfl rfl fun hB=>?_;refine zn2 ?_;refine qK (v:= .agg #[_,_]) (cs:=#[_,_]) rfl rfl (fun b1 w1 hb1 s1 hr=>?_);refine yx ?_;refine zy rfl (fun c5=>?_) (fun c5=>?_)
 ·obtain⟨t,rfl⟩:=ts_leaf c5;refine yw ?_;exact⟨congrArg (fun z=>Ending.returned (.string z)) (tb_leaf t).symm,hB.u⟩
 obtain⟨x,y,rfl⟩:=ts_fun (Decidable.not_not.1 c5);obtain⟨sb,so,A1,c1,rfl,hsb,hr1,hs1⟩:=hS.at_ (k:=0) (by simp [Ts.sm,Sm.args]);obtain⟨_,_,A2,c2,e2,_,hr2,hs2⟩:=hS.at_ (k:=1) (by simp [Ts.sm,Sm.args]);cases e2;have hlx:x.txt.length + y.txt.length + 3≤1000000:=by simp [Ts.txt] at hlen;omega
 refine zn3 ?_;refine kZ [] [0,1,2,3,7,8,9,10,4,5,6,11,12,13,14] rfl (fun w2 s2=>?_);refine zn2 ?_;refine hl rfl (fun _=>xw (i:=0) U39 xJ rfl rfl (by show 0 < 2;decide) rfl) (zn3 ?_);refine hl rfl (fun _=>xw (i:=1) U39 xJ rfl rfl (by show 1 < 2;decide) rfl) (zn1 ?_);refine hcl (fun v wv=>v= .string (tb x)) rfl fn92 (IH x (List.mem_cons_self ..) A1 c1 w2 (hs1.mono hB.u) om) rfl (fun e' w2 hr=>?_) (fun v12 w3 s3 d12=>?_)
 ·obtain⟨rfl,s4⟩:=hr;exact⟨_,rfl,sB s4,rfl⟩
 have e12:=d12;subst e12;refine hl rfl (fun _=>Bv rfl rfl (by rw [VX];show 1 + _≤_;omega)) (hl rfl (fun _=>Bv rfl rfl (by rw [ByteArray.size_append,VX];show 1 + _ + 1≤_;omega)) ?_);refine hcl (fun v wv=>v= .string (tb y)) rfl fn92 (IH y (List.mem_cons_of_mem _ (List.mem_cons_self ..)) A2 c2 w3 (hs2.mono hB.u) om) rfl (fun e' w2 hr=>?_) (fun v19 w4 s5 d19=>?_)
 ·obtain⟨rfl,s6⟩:=hr;exact⟨_,rfl,sB s6,rfl⟩
 have e19:=d19;subst e19;refine hl rfl (fun _=>Bv rfl rfl (by rw [ByteArray.size_append,ByteArray.size_append,VX,VX];show 1 + _ + 1 + _≤_;omega)) (hl rfl (fun _=>Bv rfl rfl (by rw [ByteArray.size_append,ByteArray.size_append,ByteArray.size_append,VX,VX];show 1 + _ + 1 + _ + 1≤_;omega)) (zn5 ?_));exact⟨congrArg (fun z=>Ending.returned (.string z)) (tb_f x y),hB.u⟩
theorem stx_any:∀ (k:Nat) (τ:Ts),τ.size < k→∀ (A:Option Addr) (c:Nat) (w:World),SimsIn w A τ.sm.args→τ.txt.length≤1000000→Calls Tryz.prog 92 #[.agg #[.string (τ).sm.base,.slice A (τ).sm.args.length c]] w fun e w'=>e= .returned (.string (tb τ))∧Bel w w':=by
  intro k
  induction k with
  | zero=>intro τ h;omega
  | succ k ih=>exact fun τ h A c w hS hl=>stx_step hS hl (fun x hx A2 c2 w2 h1 h2=>ih x (by have:=Ts.kids_lt hx;omega) A2 c2 w2 h1 h2)
end Go.Proofs.YtbcpgfnfiekbiaaGreatDoor
namespace Go.Proofs.YtbcpgfnfiekbiaaGreatDoor
open Go.RowKit
theorem fn78:zZ Tryz.prog 78=true:=by kernel_rfl
set_option maxHeartbeats 1000000 in
theorem samet_any (A1 A2:Option Addr) (c1 c2:Nat) (a b:Ts) (w:World) (h1:SimsIn w A1 a.sm.args) (h2:SimsIn w A2 b.sm.args) (hl1:a.txt.length≤1000000) (hl2:b.txt.length≤1000000):Calls Tryz.prog 49 #[.agg #[.string a.sm.base,.slice A1 a.sm.args.length c1],.agg #[.string b.sm.base,.slice A2 b.sm.args.length c2]] w fun e w'=>e= .returned (.bool (a.eqb b))∧Bel w w':=by
 refine enT Tryz.func49 Tryz.ntmps49 rfl rfl fun hB=>?_;refine zn2 ?_;refine qK (v:= .agg #[_,_]) (cs:=#[_,_]) rfl rfl (fun b2 w1 hb2 s1 hr=>?_);refine qK (v:= .agg #[_,_]) (cs:=#[_,_]) rfl rfl (fun b3 w2 hb3 s2 hr=>?_);refine zn4 ?_;refine kZ [] [0,2,1,3,4,5] rfl (fun w3 s3=>?_);refine zn2 ?_;refine hcl (fun v wv=>v= .string (tb a)) rfl fn92 (stx_any _ a (Nat.lt_succ_self _) A1 c1 w3 (h1.mono hB.u) hl1) rfl (fun e' w2 hr=>?_) (fun v6 w4 s4 d6=>?_)
 ·obtain⟨rfl,s5⟩:=hr;exact⟨_,rfl,sB s5,rfl⟩
 have e6:=d6;subst e6;refine hcl (fun v wv=>v= .string (tb b)) rfl fn92 (stx_any _ b (Nat.lt_succ_self _) A2 c2 w4 (h2.mono hB.u) hl2) rfl (fun e' w2 hr=>?_) (fun v8 w5 s6 d8=>?_)
 ·obtain⟨rfl,s7⟩:=hr;exact⟨_,rfl,sB s7,rfl⟩
 have e8:=d8;subst e8;refine zn6 ?_;exact⟨congrArg (fun z=>Ending.returned (.bool z)) (tb_eq a b),hB.u⟩
set_option maxRecDepth 100000 in
set_option maxHeartbeats 2000000 in
theorem same_step {A1 A2:Option Addr} {c1 c2:Nat} {a b:Ts} {w:World} (h1:SimsIn w A1 a.sm.args) (h2:SimsIn w A2 b.sm.args) (IH:∀ x ∈ a.kids,∀ (A1 A2:Option Addr) (c1 c2:Nat) (b:Ts) (w:World),SimsIn w A1 x.sm.args→SimsIn w A2 b.sm.args→Calls Tryz.prog 78 #[.agg #[.string x.sm.base,.slice A1 x.sm.args.length c1],.agg #[.string b.sm.base,.slice A2 b.sm.args.length c2]] w fun e w'=>e= .returned (.bool (x.eqb b))∧Bel w w'):Calls Tryz.prog 78 #[.agg #[.string a.sm.base,.slice A1 a.sm.args.length c1],.agg #[.string b.sm.base,.slice A2 b.sm.args.length c2]] w fun e w'=>e= .returned (.bool (a.eqb b))∧Bel w w':=by
 have hk1:=Ts.kids_len a;have hk2:=Ts.kids_len b;have ek1:a.sm.args.length=a.kids.length:=by rw [Ts.kids_sm,List.length_map]
 have ek2:b.sm.args.length=b.kids.length:=by rw [Ts.kids_sm,List.length_map]
 refine enT Tryz.func78 Tryz.ntmps78 rfl rfl fun hB=>?_;refine zn2 ?_;refine qK (v:= .agg #[_,_]) (cs:=#[_,_]) rfl rfl (fun b2 w1 hb2 s1 hr=>?_);refine qK (v:= .agg #[_,_]) (cs:=#[_,_]) rfl rfl (fun b3 w2 hb3 s2 hr=>?_);refine zn5 ?_;replace hB:=hB.tr0 (s1.trans s2);refine x6 (rg [] 6 14) 19 (.bool (decide (¬(a.sm.base=b.sm.base∧a.sm.args.length=b.sm.args.length)))) nu ?_ (fun gq=>?_)
 ·refine zn7 ?_;refine zx 11 rfl (fun g11=>?_) (fun g11=>?_)
  ·refine zn8 ?_;refine zw (e_R ⟨rfl,agA,?_⟩);show Value.bool _=Value.bool _
   first | exact congrArg Value.bool (decide_eq_true (by exact fun h=>g11 h.1)).symm | exact congrArg Value.bool (decide_eq_decide.2 (by exact⟨fun h k=>h (by have:=k.2;omega),fun h e=>h ⟨Classical.not_not.1 g11,by omega⟩⟩))
  refine Z6 ?_;refine zw (e_R ⟨rfl,agA,?_⟩);show Value.bool _=Value.bool _
  first | exact congrArg Value.bool (decide_eq_true (by exact fun h=>g11 h.1)).symm | exact congrArg Value.bool (decide_eq_decide.2 (by exact⟨fun h k=>h (by have:=k.2;omega),fun h e=>h ⟨Classical.not_not.1 g11,by omega⟩⟩))
 refine e_S ?_;refine zy rfl (fun c19=>?_) (fun c19=>?_)
 ·refine zn8 ?_;have hne:¬a=b:=fun e=>c19 (by subst e;exact⟨rfl,rfl⟩)
  exact⟨congrArg (fun z=>Ending.returned (.bool z)) (Bool.eq_false_iff.2 (fun e=>hne (Ts.eqb_iff.1 e))).symm,hB⟩
 have hbl:=Decidable.not_not.1 c19;refine y8 ?_;refine zK (rg [4,5] 23 16) (fun m g w'=>∃ j:Nat,j≤a.kids.length∧m=a.kids.length - j∧g 23= .int .i64 j∧Bel w w'∧Blk w' b2 41 #[.string a.sm.base,.slice A1 a.sm.args.length c1]∧Blk w' b3 41 #[.string b.sm.base,.slice A2 b.sm.args.length c2]∧a.kids.take j=b.kids.take j) (a.kids.length) ?_ (fun m g4 w3 hI=>?_)
 ·exact⟨0,Nat.zero_le _,rfl,rfl,hB,hb2.u,hb3,rfl⟩
 obtain⟨j,hj,hmj,h23,hB,hb2,hb3,hall⟩:=hI;refine zQ 23 _ h23 nu (zn6 ?_);refine zy rfl (fun c24=>?_) (fun c24=>?_)
 ·have hja:j < a.kids.length:=by omega
  have hjb:j < b.kids.length:=by omega
  obtain⟨sb,so,A3,c3,rfl,hsb,hr3,hs3⟩:=R6 h1 hja;obtain⟨tb,to,A4,c4,rfl,htb,hr4,hs4⟩:=R6 h2 hjb;refine yx ?_;refine QJ 10 kR kR (fun w4 s3=>?_);refine yw ?_;refine Qk ?_;refine zJ fn78 (IH _ (List.getElem_mem hja) A3 A4 c3 c4 _ _ (hs3.mono hB.u) (hs4.mono hB.u)) rfl (fun e' w5 hr=>?_);obtain⟨rfl,s4⟩:=hr;replace s4:=sB s4;refine⟨_,rfl,?_⟩;refine zn3 ?_;refine vw rfl (fun c37=>?_) (fun c37=>?_)
  ·refine y8 ?_;have hne:¬a=b:=fun e=>by
     have h:=(Ts.eqb_iff (a:=a.kids[j]) (b:=b.kids[j])).2 (by subst e;rfl);rw [h] at c37;cases c37
   exact⟨congrArg (fun z=>Ending.returned (.bool z)) (Bool.eq_false_iff.2 (fun e=>hne (Ts.eqb_iff.1 e))).symm,hB.u⟩
  refine zn7 ?_;refine qV (a.kids.length - (j + 1)) om agA ?_;exact⟨j + 1,by omega,rfl,rfl,hB.u,hb2.u,hb3.u,take_kid hall hja hjb (Ts.eqb_iff.1 (by simpa using c37))⟩
 have hje:j=a.kids.length:=by omega
 refine y8 ?_;rw [hje,List.take_of_length_le (Nat.le_refl _),List.take_of_length_le om] at hall;exact⟨congrArg (fun z=>Ending.returned (.bool z)) (Ts.eqb_iff.2 (Ts.ext hbl.1 hall)).symm,hB⟩
theorem same_anyK:∀ (k:Nat) (a:Ts),a.size < k→∀ (A1 A2:Option Addr) (c1 c2:Nat) (b:Ts) (w:World),SimsIn w A1 a.sm.args→SimsIn w A2 b.sm.args→Calls Tryz.prog 78 #[.agg #[.string a.sm.base,.slice A1 a.sm.args.length c1],.agg #[.string b.sm.base,.slice A2 b.sm.args.length c2]] w fun e w'=>e= .returned (.bool (a.eqb b))∧Bel w w':=by
  intro k
  induction k with
  | zero=>intro a h;omega
  | succ k ih=>exact fun a h A1 A2 c1 c2 b w h1 h2=>same_step h1 h2 (fun x hx A3 A4 c3 c4 b2 w2 h3 h4=>ih x (by have:=Ts.kids_lt hx;omega) A3 A4 c3 c4 b2 w2 h3 h4)
theorem samE_any (A1 A2:Option Addr) (c1 c2:Nat) (a b:Ts) (w:World) (h1:SimsIn w A1 a.sm.args) (h2:SimsIn w A2 b.sm.args):Calls Tryz.prog 78 #[.agg #[.string a.sm.base,.slice A1 a.sm.args.length c1],.agg #[.string b.sm.base,.slice A2 b.sm.args.length c2]] w fun e w'=>e= .returned (.bool (a.eqb b))∧Bel w w':=same_anyK _ a (Nat.lt_succ_self _) A1 A2 c1 c2 b w h1 h2
end Go.Proofs.YtbcpgfnfiekbiaaGreatDoor
namespace Go.Proofs.YtbcpgfnfiekbiaaGreatDoor
open Go.RowKit
theorem map_two {α β:Type} {l:List α} (h:l.length=2) (f:α→β):l.map f= [f (l[0]'om),f (l[1]'om)]:=by
  match l,h with
  | [a,b],_=>rfl
theorem okR1 {s:Sm} (h:¬s.base=⟨#[]⟩) (k:s.base≠⟨#[101]⟩) (l:s.base≠⟨#[116]⟩):¬X0 s:=by
  rintro (⟨h1 | h1,_⟩ | ⟨h1,_⟩)
  · exact k h1
  · exact l h1
  · exact h h1
theorem okR2 {s:Sm} (h:s.base=smE∨s.base=smT):((s.args.length:Nat):Int)≠0 ↔ ¬X0 s:=
  ⟨fun k h2=>by
    rcases h2 with ⟨_,h2⟩ | ⟨h2,_⟩
    · omega
    · exact okX h h2,fun k h2=>k (.inl ⟨h,by omega⟩)⟩
theorem in175:(Tryz.prog.info? 175).map (fun i=>(i.zero,i.size,i.bytes))=some (some (.agg #[.string ⟨#[]⟩,.slice none 0 0,.int .i64 0]),3,48):=by kernel_rfl
theorem D3:(Tryz.prog.info? 175).map (·.size)=some 3:=by kernel_rfl
theorem ze175:(Tryz.prog.info? 175).map (·.zero)=some (some (.agg #[.string ⟨#[]⟩,.slice none 0 0,.int .i64 0])):=by kernel_rfl
set_option maxRecDepth 100000 in
set_option maxHeartbeats 4000000 in
theorem O1 (A:Option Addr) (c:Nat) (s:Sm) (w:World) (hS:SimsIn w A s.args):Calls Tryz.prog 88 #[.agg #[.string s.base,.slice A s.args.length c]] w fun e w'=>e= .returned (.int .i64 (smF s))∧Bel w w':=by
 have hR0:smF s=(sst [(s,1)] 0).2:=by rw [sst_one];rfl
 refine enT Tryz.func88 Tryz.ntmps88 rfl rfl fun hB=>?_;refine zn2 ?_;refine qK (v:= .agg #[_,_]) (cs:=#[_,_]) rfl rfl (fun b1 w1 hb1 t1 hr=>?_);refine zn6 ?_;refine wl (yv (v0:= .agg _) (v1:= .int _ _) (fun v0 v1=>#[(qy v0 0),(qy v0 1),v1]) rfl rfl kR) ?_;refine qv (cs:=#[_,_,_]) [(0,.agg _)] rfl G6 D3 ze175 dE dE kR rfl (fun b8 w2 hb8 t2 hr=>?_);have lo8:=nLT (Bel.size hB.u) hr;refine yw ?_;refine zK (rg [2,3,4,5] 9 70) (fun m g w'=>∃ (st:List (Sm×Nat)) (vs:List Value) (A3:Option Addr) (cap3 n:Nat),m=201 - n∧n≤200∧st.length≤2 * n + 1∧g 3= .slice A3 st.length cap3∧g 4= .int .i64 n∧Bel w w'∧Own w' w.heap.size 175 3 A3 st.length cap3 vs∧StkS w st vs∧smF s=(sst st.reverse n).2) (201) ?_ (fun m g3 w3 hI=>?_)
 ·replace hB:=hB.tr0 (t1.trans t2);exact⟨[(s,1)],_,_,_,0,rfl,by omega,by simp,rfl,rfl,hB,VW (m:=1) hb8 lo8 rfl dE,.snoc .nil hS,hR0⟩
 obtain⟨st,vs,A3,cap3,n,hm,hn,hsl,h3,h4,hB,ho,hstk,hR⟩:=hI;refine zQ 3 _ h3 nu (zQ 4 _ h4 nu (zn8 ?_));refine zy rfl (fun c11=>?_) (fun c11=>?_)
 ·obtain⟨st1,vs1,s1,d1,A1,c1,rfl,rfl,hst1,hs1⟩:=hstk.pop om;have hlen:(st1 ++ [(s1,d1)]).length=st1.length + 1:=by simp
  rw [V6] at hR;obtain⟨q,rfl,hqb,hql,hqc⟩:=ho.cell (by simp);refine zn8 ?_;refine wl (kW (c:=(st1.length:Int)) rfl rfl (by rw [hlen];omega) om) (wl (xw (i:=st1.length) G6 D3 rfl rfl (by rw [hlen];omega) rfl) (wl (zV U175 rfl rfl (own_top ho hst1.len) D3) ?_));refine xW (cs:=#[.string ⟨#[]⟩,.slice none 0 0,.int .i64 0]) ze175 rfl (fun _=>rfl) (fun _=>rfl) D3 rfl zX (fun b5 w5 hb5 t3 hr=>?_);refine zn7 ?_;refine wl (kW (c:=(st1.length:Int)) rfl rfl (by rw [hlen];omega) om) ?_;replace ho:=ho.tr0 t3;refine wl (Dj (h:=st1.length) G6 D3 rfl rfl (by have:=ho.cap_le;omega)) (zn4 ?_);replace hB:=hB.tr0 t3;replace ho:Own w5 w.heap.size 175 3 (some ⟨q,0,none⟩) st1.length cap3 vs1:=by
    have h:=ho.take (k':=st1.length) om om
    rwa [List.take_append_of_le_length (by rw [hst1.len];exact Nat.le_refl _),List.take_of_length_le (by rw [hst1.len];exact Nat.le_refl _)] at h
  refine zn8 ?_;refine x6 [25,26,27,28,29,30,31] 31 (.bool (decide (200 < n + 1∨40 < d1))) nu ?_ (fun gq=>?_)
  ·refine zn4 ?_;refine zx 27 rfl (fun g27=>?_) (fun g27=>?_)
   ·refine zn4 ?_;refine zw (e_R ⟨rfl,agA,?_⟩);exact clA
   refine zn7 ?_;refine zw (e_R ⟨rfl,agA,?_⟩);exact clA
  refine e_S ?_;refine zy rfl (fun c31=>?_) (fun c31=>?_)
  ·rw [sst_out c31] at hR;refine y8 ?_;exact⟨by rw [hR];rfl,hB⟩
  refine yw ?_;refine zy rfl (fun c35=>?_) (fun c35=>?_)
  ·refine yw ?_;refine zy rfl (fun c40=>?_) (fun c40=>?_)
   ·have hno:¬X0 s1:=fun h=>by
      rcases h with ⟨h,_⟩ | ⟨_,h⟩
      · exact okX h c35
      · omega
    rw [sst_bad c31 hno] at hR;refine y8 ?_;exact⟨by rw [hR];rfl,hB⟩
   have h2l:s1.args.length=2:=by omega
   have h1l:1 < s1.args.length:=by omega
   have h0l:0 < s1.args.length:=by omega
   have hok:X0 s1:= .inr ⟨c35,h2l⟩;rw [sst_go c31 hok] at hR;obtain⟨sb,so,B0,e0,rfl,hsb,hr0,hs10⟩:=hs1.at_ h0l;obtain⟨_,_,B1,e1,ez,_,hr1,hs11⟩:=hs1.at_ h1l;cases ez;have hR2:smF s=(sst (st1 ++ [((s1.args[1]'h1l),d1 + 1)] ++ [((s1.args[0]'h0l),d1 + 1)]).reverse (n + 1)).2:=by
     rw [hR,V6,V6,map_two h2l];rfl
   refine Y5 (e_S ?_);have zo:=fun g hg=>(ho.lt g hg).2
   refine kX [] [20] [0,1,2,3,4,5,6,7,8,9,10,11,12,13,14,15,16,17,18,19,20,21] rfl (fun w6 t4=>?_);refine zn4 ?_;refine hl rfl (fun _=>xw (i:=1) U39 xJ rfl rfl h1l rfl) (zn4 ?_);refine hl rfl (fun _=>yv (v0:= .agg _) (v1:= .int _ _) (fun v0 v1=>#[(qy v0 0),(qy v0 1),v1]) rfl rfl kR) (zn3 ?_);refine hl rfl (fun _=>xw (i:=0) U39 xJ rfl rfl h0l rfl) (zn4 ?_);refine hl rfl (fun _=>yv (v0:= .agg _) (v1:= .int _ _) (fun v0 v1=>#[(qy v0 0),(qy v0 1),v1]) rfl rfl kR) (h1 rfl ?_);refine qv (cs:=#[_,_,_,_,_,_]) [(0,.agg _),(1,.agg _)] rfl G6 D3 ze175 dE dE kR rfl (fun b60 w7 hb60 t5 hr=>?_);have hsH19:=t5;refine zw (J5 hsH19 (h1 rfl ?_));replace ho:=ho.tr0 (t4.trans t5);refine vW G6 in175 rfl dE ho hb60 rfl rfl rfl zX dE om om (Bel.size hB.u) (fun g61 cap61 w8 ho61 hs2 hg61=>?_);replace hB:=hB.tr0 (t4.trans t5);replace hB:=hB.tr hs2 (fun g hg=>nLT (Nat.le_refl _) (ho.lt g hg).1);obtain⟨g61,cap61,e61,ho61⟩:∃ g cap,(.slice (some ⟨g61,0,none⟩) (st1.length + 2) cap61:Value)= .slice (some ⟨g,0,none⟩) (st1.length + 2) cap∧Own w8 w.heap.size 175 3 (some ⟨g,0,none⟩) (st1.length + 2) cap (vs1 ++ [.string (s1.args[1]'h1l).base,.slice B1 (s1.args[1]'h1l).args.length e1,.int .i64 ((d1:Nat) + 1:Int),.string (s1.args[0]'h0l).base,.slice B0 (s1.args[0]'h0l).args.length e0,.int .i64 ((d1:Nat) + 1:Int)]):=⟨_,_,rfl,ho61⟩
   cases e61;refine zw (Q5 [] ?_);have q1:(st1 ++ [((s1.args[1]'h1l),d1 + 1)] ++ [((s1.args[0]'h0l),d1 + 1)]).length=st1.length + 2:=by simp
   have q2:vs1 ++ [.string (s1.args[1]'h1l).base,.slice B1 (s1.args[1]'h1l).args.length e1,.int .i64 ((d1:Nat) + 1:Int)] ++ [.string (s1.args[0]'h0l).base,.slice B0 (s1.args[0]'h0l).args.length e0,.int .i64 ((d1:Nat) + 1:Int)]=vs1 ++ [.string (s1.args[1]'h1l).base,.slice B1 (s1.args[1]'h1l).args.length e1,.int .i64 ((d1:Nat) + 1:Int),.string (s1.args[0]'h0l).base,.slice B0 (s1.args[0]'h0l).args.length e0,.int .i64 ((d1:Nat) + 1:Int)]:=by simp
   have ho:Own w8 w.heap.size 175 3 (some ⟨g61,0,none⟩) (st1 ++ [((s1.args[1]'h1l),d1 + 1)] ++ [((s1.args[0]'h0l),d1 + 1)]).length cap61 (vs1 ++ [.string (s1.args[1]'h1l).base,.slice B1 (s1.args[1]'h1l).args.length e1,.int .i64 ((d1:Nat) + 1:Int)] ++ [.string (s1.args[0]'h0l).base,.slice B0 (s1.args[0]'h0l).args.length e0,.int .i64 ((d1:Nat) + 1:Int)]):=by rw [q1,q2];exact ho61
   refine zn3 ?_;refine qV (201 - (n + 1)) om agA ?_
   first
     | exact⟨st1 ++ [((s1.args[1]'h1l),d1 + 1)] ++ [((s1.args[0]'h0l),d1 + 1)],_,_,_,n + 1,rfl,by omega,by rw [q1];omega,(by rw [q1];rfl),rfl,hB,ho,.snoc (.snoc hst1 hs11) hs10,hR2⟩
     | exact⟨st1,vs1,_,_,n + 1,rfl,by omega,by omega,rfl,rfl,hB,ho,hst1,hR2⟩
  refine xv ?_;refine x6 (rg [] 62 17) 78 (.bool (decide (¬X0 s1))) nu ?_ (fun gq=>?_)
  ·refine zn6 ?_;refine zx 66 rfl (fun g66=>?_) (fun g66=>?_)
   ·refine yw ?_;refine zx 72 rfl (fun g72=>?_) (fun g72=>?_)
    ·refine zn6 ?_;refine zw (e_R ⟨rfl,agA,?_⟩);show Value.bool _=Value.bool _
     first | exact congrArg Value.bool (decide_eq_true (by exact okR1 c35 g66 g72)).symm | exact congrArg Value.bool (decide_eq_decide.2 (by exact okR2 (.inr (Classical.not_not.1 g72)))) | exact congrArg Value.bool (decide_eq_decide.2 (by exact okR2 (.inl (Classical.not_not.1 g66))))
    refine yx ?_;refine zw (e_R ⟨rfl,agA,?_⟩);show Value.bool _=Value.bool _
    first | exact congrArg Value.bool (decide_eq_true (by exact okR1 c35 g66 g72)).symm | exact congrArg Value.bool (decide_eq_decide.2 (by exact okR2 (.inr (Classical.not_not.1 g72)))) | exact congrArg Value.bool (decide_eq_decide.2 (by exact okR2 (.inl (Classical.not_not.1 g66))))
   refine N9 ?_;refine zw (e_R ⟨rfl,agA,?_⟩);show Value.bool _=Value.bool _
   first | exact congrArg Value.bool (decide_eq_true (by exact okR1 c35 g66 g72)).symm | exact congrArg Value.bool (decide_eq_decide.2 (by exact okR2 (.inr (Classical.not_not.1 g72)))) | exact congrArg Value.bool (decide_eq_decide.2 (by exact okR2 (.inl (Classical.not_not.1 g66))))
  refine e_S ?_;refine zy rfl (fun c78=>?_) (fun c78=>?_)
  ·rw [sst_bad c31 c78] at hR;refine yx ?_;exact⟨by rw [hR];rfl,hB⟩
  have hok:X0 s1:=Classical.not_not.1 c78;have ha0:s1.args= []:=by
    rcases hok with ⟨_,h⟩ | ⟨h,_⟩
    · exact List.length_eq_zero_iff.1 h
    · exact absurd h c35
  have hR2:smF s=(sst st1.reverse (n + 1)).2:=by rw [hR,sst_go c31 hok,ha0];rfl
  refine Y5 (e_B (qV (201 - (n + 1)) om agA ?_))
  first
    | exact⟨st1 ++ [((s1.args[1]'h1l),d1 + 1)] ++ [((s1.args[0]'h0l),d1 + 1)],_,_,_,n + 1,rfl,by omega,by rw [q1];omega,(by rw [q1];rfl),rfl,hB,ho,.snoc (.snoc hst1 hs11) hs10,hR2⟩
    | exact⟨st1,vs1,_,_,n + 1,rfl,by omega,by omega,rfl,rfl,hB,ho,hst1,hR2⟩
 have hst:st= []:=List.length_eq_zero_iff.1 om;subst hst;have hR3:smF s=0:=hR;refine y8 ?_;exact⟨by rw [hR3];rfl,hB⟩
end Go.Proofs.YtbcpgfnfiekbiaaGreatDoor
namespace Go.Proofs.YtbcpgfnfiekbiaaGreatDoor
open Go.RowKit
theorem sz185:(Tryz.prog.info? 185).map (·.size)=some 1:=by kernel_rfl
theorem ze185:(Tryz.prog.info? 185).map (·.zero)=some (some (.nilFunc)):=by kernel_rfl
set_option maxHeartbeats 1000000 in
theorem R5 (A:Option Addr) (c:Nat) (s:Sm) (w:World) (hS:SimsIn w A s.args):Calls Tryz.prog 109 #[.agg #[.string s.base,.slice A s.args.length c]] w fun e w'=>e= .returned (flV (smF s,0))∧Bel w w':=by
 refine enT Tryz.func109 Tryz.ntmps109 rfl rfl fun hB=>?_;refine zn2 ?_;refine qK (v:= .agg #[_,_]) (cs:=#[_,_]) rfl rfl (fun b1 w1 hb1 s1 hr=>?_);refine zY (cs:=#[.int .i64 0,.int .i64 0]) qk rfl (fun b2 w2 hb2 s2 hr=>?_);have:=nLL hb1.lt hr;have lo2:=nLT (Bel.size hB.u) hr;refine zn4 ?_;refine zY (cs:=#[.int .i64 0]) uJ rfl (fun b3 w3 hb3 s3 hr=>?_);have:=nLL hb1.u.lt hr;have:=nLL hb2.lt hr;have lo3:=nLT (Bel.size hB.u) hr;refine x9 (v:= .int _ _) hb3 rfl rfl qX (by first | decide | simp) rfl rfl (fun w4 hq s4=>?_);replace hb3:=hq;refine zn4 ?_;refine zY (cs:=#[.nilFunc]) ze185 rfl (fun b4 w5 hb4 s5 hr=>?_);have:=nLL hb1.u.lt hr;have:=nLL hb2.u.lt hr;have:=nLL hb3.lt hr;have lo4:=nLT (Bel.size hB.u) hr;refine zn4 ?_;refine wl (r_mf rfl) ?_;refine x9 (v:= .func _ _ _) hb4 rfl rfl sz185 (by first | decide | simp) rfl rfl (fun w6 hq s6=>?_);replace hb4:=hq;refine zn6 ?_;refine xX rfl fn123 (swk_any (w0:=w) (bN:=b3) (bV:=b4) lo3 lo4 om s A c 1 0 _ hS om om hB.u hb3.u hb4) rfl rfl (fun e' w7 hr=>?_);obtain⟨rfl,hC2,hb32⟩:=hr;replace hB:=(((hB.tr0 (s1.trans (s2.trans s3))).tr1 s4 lo3).tr0 s5).tr1 s6 lo4;replace hB:=hB.chG hC2 (fun g hg=>by rw [show g=b3 from hg];exact lo3);replace hb2:=(((hb2.tr0 s3).tr1 s4 om).tr0 s5).tr1 s6 om;replace hb2:=hb2.chG hC2 (fun hx=>by have hx:b2=b3:=hx;omega);replace hb3:=hb32;refine⟨_,rfl,?_⟩;refine wl (V8 (v0:= .int _ _) (fun v0=>#[v0,.int .i64 0]) rfl kR) ?_;refine zj hb2 rfl rfl z4 rfl zX (fun w8 hq s7=>?_);replace hb2:=hq;refine zn3 ?_;refine x8 (.inl rfl) rfl (zk U36 rfl rfl hb2.range0 z4) ?_;exact⟨rfl,hB.u⟩
end Go.Proofs.YtbcpgfnfiekbiaaGreatDoor
