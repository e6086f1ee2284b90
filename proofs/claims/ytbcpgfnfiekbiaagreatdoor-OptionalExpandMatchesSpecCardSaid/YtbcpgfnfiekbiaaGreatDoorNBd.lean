/- Terms written as tables: each node with its parts' places and the place above; what the types of the places are. No program in sight. Slices of slices of ints, as they lie in a world. No program in sight. Lines that describe a hierarchy: what they make, and how a hierarchy that grows lies in a world. No program in sight. Rows of a table of terms, as a world holds them. No program in sight. The types of the places of a table, as a world holds them. No program in sight. What these functions of the program compute, at every world: glosswright/glosswrightref1.rows. What these functions of the program compute, at every world: glosswright/glosswrightref1.binder. -/
import Derived.Test.YtbcpgfnfiekbiaaGreatDoorTrm
import Derived.Test.YtbcpgfnfiekbiaaGreatDoorOpr
import Derived.Test.YtbcpgfnfiekbiaaGreatDoorOpen
import Derived.Test.YtbcpgfnfiekbiaaGreatDoorHLaw
import Derived.Test.YtbcpgfnfiekbiaaGreatDoorGrm
import Derived.Test.YtbcpgfnfiekbiaaGreatDoorGLoose
import Derived.Test.YtbcpgfnfiekbiaaGreatDoorEng7
import Derived.Test.YtbcpgfnfiekbiaaGreatDoorU
import Derived.Test.YtbcpgfnfiekbiaaGreatDoorNTw
import Derived.Test.YtbcpgfnfiekbiaaGreatDoorEng4
namespace Go.Proofs.YtbcpgfnfiekbiaaGreatDoor
open Go.RowKit
structure Rw where
  kind:Int
  name:ByteArray
  typ:Sm
  index:Int
  kids:List Int
  up:Int
def rws:Int→Nat→Tv→List Rw
  | up,_,.con nm τ=>[⟨1,nm,τ.sm,0,[],up⟩]
  | up,_,.var i=>[⟨2,⟨#[]⟩,smZ,i,[],up⟩]
  | up,p,.abs τ x=>⟨3,⟨#[]⟩,τ.sm,0,[((p + 1:Nat):Int)],up⟩ :: rws p (p + 1) x
  | up,p,.app x y=>⟨4,⟨#[]⟩,smZ,0,[((p + 1:Nat):Int),((p + 1 + x.size:Nat):Int)],up⟩ :: (rws p (p + 1) x ++ rws p (p + 1 + x.size) y)
theorem X9:∀ (up:Int) (p:Nat) (v:Tv),(rws up p v).length=v.size
  | _,_,.con _ _=>rfl
  | _,_,.var _=>rfl
  | _,p,.abs τ x=>by simp only [rws,List.length_cons,X9 _ _ x,Tv.size]
  | _,p,.app x y=>by simp only [rws,List.length_cons,List.length_append,X9 _ _ x,X9 _ _ y,Tv.size]
def RwAt (l:List Rw) (p:Nat) (s:List Rw):Prop:=∀ j (h:j < s.length),l[p + j]? =some s[j]
theorem RwAt.app {l:List Rw} {p:Nat} {s t:List Rw} (h:RwAt l p (s ++ t)):RwAt l p s∧RwAt l (p + s.length) t:=by
  refine⟨fun j hj=>?_,fun j hj=>?_⟩
  · have:=h j (by rw [List.length_append];omega)
    rwa [List.getElem_append_left hj] at this
  · have:=h (s.length + j) (by rw [List.length_append];omega)
    rw [List.getElem_append_right oM,← Nat.add_assoc] at this;rw [this];simp
theorem RwAt.cons {l:List Rw} {p:Nat} {r:Rw} {t:List Rw} (h:RwAt l p (r :: t)):l[p]? =some r∧RwAt l (p + 1) t:=by
  refine⟨h 0 (by simp),fun j hj=>?_⟩;have:=h (j + 1) (by rw [List.length_cons];omega);rw [List.getElem_cons_succ,show p + (j + 1)=p + 1 + j by omega] at this;exact this
inductive Chn (l:List Rw):Int→List Ts→Prop
  | nil:Chn l (-1) []
  | abs {u:Nat} {r:Rw} {τ:Ts} {Γ:List Ts} (h:l[u]? =some r) (hk:r.kind=3) (ht:r.typ=τ.sm) (hu:r.up < u) (hc:Chn l r.up Γ):Chn l u (τ :: Γ)
  | app {u:Nat} {r:Rw} {Γ:List Ts} (h:l[u]? =some r) (hk:r.kind≠3) (hu:r.up < u) (hc:Chn l r.up Γ):Chn l u Γ
def XV (l:List Rw):Nat→List Ts→Tv→Prop
  | p,_,.con _ τ=>∃ r,l[p]? =some r∧r.kind=1∧r.typ=τ.sm
  | p,Γ,.var i=>∃ r,l[p]? =some r∧r.kind=2∧r.index=i∧r.up < p∧Chn l r.up Γ
  | p,Γ,.abs τ x=>(∃ r,l[p]? =some r∧r.kind=3∧r.typ=τ.sm∧r.kids= [((p + 1:Nat):Int)])∧XV l (p + 1) (τ :: Γ) x
  | p,Γ,.app x y=>(∃ r,l[p]? =some r∧r.kind=4∧r.kids= [((p + 1:Nat):Int),((p + 1 + x.size:Nat):Int)])∧XV l (p + 1) Γ x∧XV l (p + 1 + x.size) Γ y
theorem CY {l:List Rw}:∀ {v:Tv} {up:Int} {p:Nat} {Γ:List Ts},RwAt l p (rws up p v)→Chn l up Γ→up < p→XV l p Γ v
  | .con nm τ,up,p,Γ,h,hc,hu=>⟨_,(h.cons).1,rfl,rfl⟩
  | .var i,up,p,Γ,h,hc,hu=>⟨_,(h.cons).1,rfl,rfl,hu,hc⟩
  | .abs τ x,up,p,Γ,h,hc,hu=>by
    obtain⟨h1,h2⟩:=RwAt.cons h
    exact⟨⟨_,h1,rfl,rfl,rfl⟩,CY h2 (.abs h1 rfl rfl hu hc) oM⟩
  | .app x y,up,p,Γ,h,hc,hu=>by
    obtain⟨h1,h2⟩:=RwAt.cons h
    obtain⟨h3,h4⟩:=h2.app
    rw [X9] at h4
    have hC:Chn l p Γ:= .app h1 (show (4:Int)≠3 by decide) hu hc
    exact⟨⟨_,h1,rfl,rfl⟩,CY h3 hC oM,CY h4 hC oM⟩
def nds:List Ts→Tv→List (List Ts×Tv)
  | Γ,.con nm τ=>[(Γ,.con nm τ)]
  | Γ,.var i=>[(Γ,.var i)]
  | Γ,.abs τ x=>(Γ,.abs τ x) :: nds (τ :: Γ) x
  | Γ,.app x y=>(Γ,.app x y) :: (nds Γ x ++ nds Γ y)
theorem KK:∀ (Γ:List Ts) (v:Tv),(nds Γ v).length=v.size
  | _,.con _ _=>rfl
  | _,.var _=>rfl
  | _,.abs τ x=>by simp only [nds,List.length_cons,KK _ x,Tv.size]
  | _,.app x y=>by simp only [nds,List.length_cons,List.length_append,KK _ x,KK _ y,Tv.size]
theorem N7 {l:List Rw}:∀ {v:Tv} {p:Nat} {Γ:List Ts},XV l p Γ v→v.ok Γ.length→(∀ σ ∈ Γ,σ.size≤200)→∀ j (h:j < (nds Γ v).length),XV l (p + j) (nds Γ v)[j].1 (nds Γ v)[j].2∧(nds Γ v)[j].2.ok (nds Γ v)[j].1.length∧(∀ σ ∈ (nds Γ v)[j].1,σ.size≤200)∧(nds Γ v)[j].2.size≤v.size∧((tyv Γ v).isSome=true→(tyv (nds Γ v)[j].1 (nds Γ v)[j].2).isSome=true)
  | .con nm τ,p,Γ,h,ho,hG,j,hj=>by
    obtain rfl:j=0:=by simp [nds] at hj;omega
    exact⟨h,ho,hG,Nat.le_refl _,id⟩
  | .var i,p,Γ,h,ho,hG,j,hj=>by
    obtain rfl:j=0:=by simp [nds] at hj;omega
    exact⟨h,ho,hG,Nat.le_refl _,id⟩
  | .abs τ x,p,Γ,h,ho,hG,j,hj=>by
    cases j with
    | zero=>exact⟨h,ho,hG,Nat.le_refl _,id⟩
    | succ j=>
      have:=N7 (v:=x) h.2 ho.2 (fun q hq=>by
        rcases List.mem_cons.1 hq with rfl | hq
        · exact ho.1
        · exact hG q hq) j (by simp only [nds,List.length_cons] at hj;omega)
      obtain⟨a1,a2,a3,a5,a4⟩:=this
      have hp:p + (j + 1)=p + 1 + j:=by omega
      refine⟨by rw [hp];exact a1,a2,a3,nLT a5 (by simp [Tv.size]),fun hs=>a4 ?_⟩
      simp only [tyv,Option.isSome_map] at hs
      exact hs
  | .app x y,p,Γ,h,ho,hG,j,hj=>by
    cases j with
    | zero=>exact⟨h,ho,hG,Nat.le_refl _,id⟩
    | succ j=>
      have hs:(tyv Γ (.app x y)).isSome=true→(tyv Γ x).isSome=true∧(tyv Γ y).isSome=true:=by
        intro e;simp only [tyv] at e
        split at e
        · rename_i a r z h1 h2
          rw [h1,h2];exact⟨rfl,rfl⟩
        · cases e
      by_cases hx:j < (nds Γ x).length
      · obtain⟨a1,a2,a3,a5,a4⟩:=N7 (v:=x) h.2.1 ho.1 hG j hx
        have hp:p + (j + 1)=p + 1 + j:=by omega
        have e:(nds Γ (.app x y))[j + 1]=(nds Γ x)[j]:=by simp only [nds,List.getElem_cons_succ];exact List.getElem_append_left hx
        rw [e];exact⟨by rw [hp];exact a1,a2,a3,nLT a5 (by simp only [Tv.size];omega),fun k=>a4 (hs k).1⟩
      · have hl:=KK Γ x
        have hj2:j - x.size < (nds Γ y).length:=by simp only [nds,List.length_cons,List.length_append] at hj;omega
        obtain⟨a1,a2,a3,a5,a4⟩:=N7 (v:=y) h.2.2 ho.2 hG (j - x.size) hj2;have hp:p + (j + 1)=p + 1 + x.size + (j - x.size):=by omega
        have e:(nds Γ (.app x y))[j + 1]=(nds Γ y)[j - x.size]:=by
          simp only [nds,List.getElem_cons_succ];rw [List.getElem_append_right oM];simp only [hl]
        rw [e];exact⟨by rw [hp];exact a1,a2,a3,nLT a5 (by simp only [Tv.size];omega),fun k=>a4 (hs k).2⟩
def TyAt (l:List Rw) (p:Nat) (τ:Ts):Prop:=∀ Γ v,XV l p Γ v→tyv Γ v=some τ
theorem xy {α:Type} {o:Option α} {a b:α} (h:o=some a) (k:o=some b):a=b:=Option.some.inj (h.symm.trans k)
theorem TyAt.con {l:List Rw} {p:Nat} {r:Rw} {τ:Ts} (h:l[p]? =some r) (hk:r.kind=1) (ht:r.typ=τ.sm):TyAt l p τ:=by
  intro Γ v hv;cases v with
  | con nm σ=>
    obtain⟨r',h1,_,h2⟩:=hv;cases xy h h1;rw [Ts.sm_inj (h2.symm.trans ht)];rfl
  | var i=>obtain⟨r',h1,h2,_⟩:=hv;cases xy h h1;rw [hk] at h2;cases h2
  | abs σ x=>obtain⟨⟨r',h1,h2,_⟩,_⟩:=hv;cases xy h h1;rw [hk] at h2;cases h2
  | app x y=>obtain⟨⟨r',h1,h2,_⟩,_⟩:=hv;cases xy h h1;rw [hk] at h2;cases h2
theorem Chn.uniq {l:List Rw} {u:Int} {Γ Δ:List Ts} (h:Chn l u Γ) (k:Chn l u Δ):Γ=Δ:=by
  induction h generalizing Δ with
  | nil=>
    generalize e:(-1:Int)=z at k
    cases k with
    | nil=>rfl
    | @abs u=>omega
    | @app u=>omega
  | @abs u r τ Γ h hk ht hu hc ih=>
    generalize e:(u:Int)=z at k
    cases k with
    | nil=>omega
    | @abs u2 r2 τ2 Γ2 h2 hk2 ht2 hu2 hc2=>
      obtain rfl:u=u2:=by omega
      cases xy h h2;rw [ih hc2,Ts.sm_inj (ht.symm.trans ht2)]
    | @app u2 r2 Γ2 h2 hk2 hu2 hc2=>
      obtain rfl:u=u2:=by omega
      cases xy h h2;exact absurd hk hk2
  | @app u r Γ h hk hu hc ih=>
    generalize e:(u:Int)=z at k
    cases k with
    | nil=>omega
    | @abs u2 r2 τ2 Γ2 h2 hk2 ht2 hu2 hc2=>
      obtain rfl:u=u2:=by omega
      cases xy h h2;exact absurd hk2 hk
    | @app u2 r2 Γ2 h2 hk2 hu2 hc2=>
      obtain rfl:u=u2:=by omega
      cases xy h h2;exact ih hc2
theorem TyAt.var {l:List Rw} {p i:Nat} {r:Rw} {τ:Ts} {Γ:List Ts} (h:l[p]? =some r) (hk:r.kind=2) (hi:r.index=i) (hc:Chn l r.up Γ) (ht:Γ[i]? =some τ):TyAt l p τ:=by
  intro Δ v hv;cases v with
  | con nm σ=>obtain⟨r',h1,h2,_⟩:=hv;cases xy h h1;rw [hk] at h2;cases h2
  | var j=>
    obtain⟨r',h1,_,h2,_,h3⟩:=hv;cases xy h h1;rw [hi] at h2;rw [show j=i by omega,← hc.uniq h3];exact ht
  | abs σ x=>obtain⟨⟨r',h1,h2,_⟩,_⟩:=hv;cases xy h h1;rw [hk] at h2;cases h2
  | app x y=>obtain⟨⟨r',h1,h2,_⟩,_⟩:=hv;cases xy h h1;rw [hk] at h2;cases h2
theorem TyAt.abs {l:List Rw} {p:Nat} {r:Rw} {τ ρ:Ts} (h:l[p]? =some r) (hk:r.kind=3) (ht:r.typ=τ.sm) (hx:TyAt l (p + 1) ρ):TyAt l p (.f τ ρ):=by
  intro Γ v hv;cases v with
  | con nm σ=>obtain⟨r',h1,h2,_⟩:=hv;cases xy h h1;rw [hk] at h2;cases h2
  | var i=>obtain⟨r',h1,h2,_⟩:=hv;cases xy h h1;rw [hk] at h2;cases h2
  | abs σ x=>
    obtain⟨⟨r',h1,h2,h3,_⟩,h4⟩:=hv;cases xy h h1;show (tyv (σ :: Γ) x).map (Ts.f σ)=_;rw [hx _ _ h4,Ts.sm_inj (h3.symm.trans ht)];rfl
  | app x y=>obtain⟨⟨r',h1,h2,_⟩,_⟩:=hv;cases xy h h1;rw [hk] at h2;cases h2
theorem TyAt.app {l:List Rw} {p q:Nat} {r:Rw} {a ρ:Ts} (h:l[p]? =some r) (hk:r.kind=4) (hq:r.kids= [((p + 1:Nat):Int),(q:Int)]) (hx:TyAt l (p + 1) (.f a ρ)) (hy:TyAt l q a):TyAt l p ρ:=by
  intro Γ v hv;cases v with
  | con nm σ=>obtain⟨r',h1,h2,_⟩:=hv;cases xy h h1;rw [hk] at h2;cases h2
  | var i=>obtain⟨r',h1,h2,_⟩:=hv;cases xy h h1;rw [hk] at h2;cases h2
  | abs σ x=>obtain⟨⟨r',h1,h2,_⟩,_⟩:=hv;cases xy h h1;rw [hk] at h2;cases h2
  | app x y=>
    obtain⟨⟨r',h1,_,h2⟩,h3,h4⟩:=hv;cases xy h h1;rw [hq] at h2;simp only [List.cons.injEq,and_true,true_and] at h2;rw [show p + 1 + x.size=q by omega] at h4;simp only [tyv,hx _ _ h3,hy _ _ h4];rw [if_pos (Ts.eqb_iff.2 rfl)]
theorem ty_no {l:List Rw} {p q:Nat} {r:Rw} {α β:Ts} {Γ:List Ts} {v:Tv} (hv:XV l p Γ v) (h:l[p]? =some r) (hk:r.kind=4) (hq:r.kids= [((p + 1:Nat):Int),(q:Int)]) (hx:TyAt l (p + 1) α) (hy:TyAt l q β) (hn:∀ ρ:Ts,α≠Ts.f β ρ):tyv Γ v=none:=by
  cases v with
  | con nm σ=>obtain⟨r',h1,h2,_⟩:=hv;cases xy h h1;rw [hk] at h2;cases h2
  | var i=>obtain⟨r',h1,h2,_⟩:=hv;cases xy h h1;rw [hk] at h2;cases h2
  | abs σ x=>obtain⟨⟨r',h1,h2,_⟩,_⟩:=hv;cases xy h h1;rw [hk] at h2;cases h2
  | app x y=>
    obtain⟨⟨r',h1,_,h2⟩,h3,h4⟩:=hv;cases xy h h1;rw [hq] at h2;simp only [List.cons.injEq,and_true,true_and] at h2;rw [show p + 1 + x.size=q by omega] at h4;simp only [tyv,hx _ _ h3,hy _ _ h4];cases α with
    | b t=>rfl
    | f a ρ=>
      by_cases e:a=β
      · subst e;exact absurd rfl (hn ρ)
      · simp only []
        rw [if_neg (fun k=>e (Ts.eqb_iff.1 k))]
end Go.Proofs.YtbcpgfnfiekbiaaGreatDoor
namespace Go.Proofs.YtbcpgfnfiekbiaaGreatDoor
open Go.RowKit
def iV (xs:List Int):List Value:=xs.map (Value.int .i64)
theorem iV_len (xs:List Int):(iV xs).length=xs.length:=by simp [iV]
theorem IntsIn.news {w:World} {A:Option Addr} {xs:List Int} (h:IntsIn w A xs):0 < xs.length→∃ b o',A=some ⟨b,o',none⟩∧∀ j u,(iV xs)[j]? =some u→w.cell? ⟨b,o' + j,none⟩=some u:=fun hm=>by
  obtain⟨b,o,e,_,hc⟩:=h.2 (by rintro rfl;simp at hm)
  refine⟨b,o,e,fun j u hj=>?_⟩
  simp only [iV,List.getElem?_map,Option.map_eq_some_iff] at hj
  obtain⟨x,hx,rfl⟩:=hj
  obtain⟨hk,rfl⟩:=List.getElem?_eq_some_iff.1 hx
  simpa using hc j hk
def MatIn (w:World) (A:Option Addr) (L:List (List Int)):Prop:=
  L.length≤yJ∧(L≠[]→∃ b o,A=some ⟨b,o,none⟩∧b < w.heap.size∧∀ k (hk:k < L.length),∃ A' c,w.cell? ⟨b,o + k * 1,none⟩=some (.slice A' (L[k]).length c)∧IntsIn w A' L[k])
theorem MatIn.mono {w w':World} {A:Option Addr} {L:List (List Int)} (h:MatIn w A L) (hb:Bel w w'):MatIn w' A L:=
  ⟨h.1,fun hn=>by
    obtain⟨b,o,e,hl,hc⟩:=h.2 hn
    refine⟨b,o,e,nLL hl hb.size,fun k hk=>?_⟩
    obtain⟨A',c,h1,h2⟩:=hc k hk
    exact⟨A',c,hb.cell hl h1,h2.mono hb⟩⟩
theorem MatIn.at_ {w w':World} {A:Option Addr} {L:List (List Int)} (h:MatIn w A L) (hb:Bel w w') {k:Nat} (hk:k < L.length):
    ∃ b o A' c,A=some ⟨b,o,none⟩∧w'.cell? ⟨b,o + k * 1,none⟩=some (.slice A' (L[k]).length c)∧IntsIn w A' L[k]:=by
  obtain⟨b,o,e,hl,hc⟩:=h.2 (by rintro rfl;simp at hk);obtain⟨A',c,h1,h2⟩:=hc k hk;exact⟨b,o,A',c,e,hb.cell hl h1,h2⟩
end Go.Proofs.YtbcpgfnfiekbiaaGreatDoor
namespace Go.Proofs.YtbcpgfnfiekbiaaGreatDoor
open Go.RowKit
theorem Zx {w:World} {base b sz k c:Nat} {e t:TypeId} {A:Option Addr} {xs:List Value} {cs:Array Value} (h:Own w base e sz A k c xs) (hb:Blk w b t cs) (hne:e≠t):∀ g ∈ aL A,g≠b:=fun g hg e1=>by
  obtain⟨c2,h2⟩:=h.typ g hg
  subst e1
  exact hne (jW h2 hb)
def fnd (l:List Ty) (s:ByteArray):Int:=match l.findIdx? (fun t=>decide (t.name=s)) with
  | some k=>(k:Int)
  | none=>-1
def ats (l:List Ty):List ByteArray→Option (List Int)
  | []=>some []
  | x :: xs=>if fnd l x < 0 then none else (ats l xs).map (fun r=>fnd l x :: r)
def PrIn (lo hi:Nat) (w:World) (A:Option Addr) (xs:List Int):Prop:=xs.length≤yJ∧(xs≠[]→∃ g cs,A=some ⟨g,0,none⟩∧lo≤g∧g < hi∧Blk w g 3 cs∧cs.toList.take xs.length=iV xs)
theorem PrIn.tr {lo hi:Nat} {w w':World} {A:Option Addr} {xs:List Int} {X:List Nat} (h:PrIn lo hi w A xs) (hs:Same X w w') (hx:∀ g ∈ X,hi≤g∨∃ cs t,Blk w g t cs∧t≠3):PrIn lo hi w' A xs:=
  ⟨h.1,fun hn=>by
    obtain⟨g,cs,e,hlo,hl,hb,ht⟩:=h.2 hn
    refine⟨g,cs,e,hlo,hl,hb.tr hs (fun hm=>?_),ht⟩
    rcases hx g hm with h1 | ⟨cs2,t,hb2,hne⟩
    · omega
    · exact hne (jW hb2 hb)⟩
theorem PrIn.up {lo hi hi':Nat} {w:World} {A:Option Addr} {xs:List Int} (h:PrIn lo hi w A xs) (hl:hi≤hi'):PrIn lo hi' w A xs:=
  ⟨h.1,fun hn=>by
    obtain⟨g,cs,e,hlo,hg,hb,ht⟩:=h.2 hn
    exact⟨g,cs,e,hlo,by omega,hb,ht⟩⟩
theorem PrIn.low {lo lo' hi:Nat} {w:World} {A:Option Addr} {xs:List Int} (h:PrIn lo hi w A xs) (hl:lo'≤lo):PrIn lo' hi w A xs:=
  ⟨h.1,fun hn=>by
    obtain⟨g,cs,e,hlo,hg,hb,ht⟩:=h.2 hn
    exact⟨g,cs,e,by omega,hg,hb,ht⟩⟩
theorem PrIn.fr {lo hi:Nat} {w w':World} {A:Option Addr} {xs:List Int} (h:PrIn lo hi w A xs) (hf:FrSame lo w w'):PrIn lo hi w' A xs:=
  ⟨h.1,fun hn=>by
    obtain⟨g,cs,e,hlo,hg,hb,ht⟩:=h.2 hn
    exact⟨g,cs,e,hlo,hg,hf.at_ hb hlo,ht⟩⟩
theorem own_pr {w:World} {base k cap:Nat} {A:Option Addr} {xs:List Int} (h:Own w base 3 1 A k cap (iV xs)):PrIn base w.heap.size w A xs:=by
  have h1:=h.len;have h2:=h.max;rw [iV_len,Nat.mul_one] at h1;refine⟨by unfold yJ;omega,fun hn=>?_⟩;have hp:=List.length_pos_iff.2 hn;obtain⟨g,cur,e,hlo,hb,_,_,ht⟩:=h.whole oM;rw [Nat.mul_one,← h1] at ht;exact⟨g,cur,e,hlo,hb.lt,hb,ht⟩
def RowT (lo hi:Nat) (w:World) (l:List Ty) (vs:List Value):Prop:=vs.length=l.length * 2∧∀ k (hk:k < l.length),∃ A c,vs[k * 2]? =some (.string (l[k]).name)∧vs[k * 2 + 1]? =some (.slice A (l[k]).par.length c)∧PrIn lo hi w A (l[k]).par
theorem RowT.nil (lo hi:Nat) (w:World):RowT lo hi w [] []:=⟨rfl,fun k hk=>by simp at hk⟩
theorem RowT.tr {lo hi:Nat} {w w':World} {l:List Ty} {vs:List Value} {X:List Nat} (h:RowT lo hi w l vs) (hs:Same X w w') (hx:∀ g ∈ X,hi≤g∨∃ cs t,Blk w g t cs∧t≠3):RowT lo hi w' l vs:=
  ⟨h.1,fun k hk=>by obtain⟨A,c,e1,e2,hp⟩:=h.2 k hk;exact⟨A,c,e1,e2,hp.tr hs hx⟩⟩
theorem RowT.up {lo hi hi':Nat} {w:World} {l:List Ty} {vs:List Value} (h:RowT lo hi w l vs) (hl:hi≤hi'):RowT lo hi' w l vs:=
  ⟨h.1,fun k hk=>by obtain⟨A,c,e1,e2,hp⟩:=h.2 k hk;exact⟨A,c,e1,e2,hp.up hl⟩⟩
theorem RowT.fr {lo hi:Nat} {w w':World} {l:List Ty} {vs:List Value} (h:RowT lo hi w l vs) (hf:FrSame lo w w'):RowT lo hi w' l vs:=
  ⟨h.1,fun k hk=>by obtain⟨A,c,e1,e2,hp⟩:=h.2 k hk;exact⟨A,c,e1,e2,hp.fr hf⟩⟩
theorem RowT.snoc {lo hi:Nat} {w:World} {l:List Ty} {vs:List Value} {s:ByteArray} {xs:List Int} {A:Option Addr} {c:Nat} (h:RowT lo hi w l vs) (hp:PrIn lo hi w A xs):RowT lo hi w (l ++ [⟨s,xs⟩]) (vs ++ [.string s,.slice A xs.length c]):=by
  have h1:=h.1;refine⟨by simp [h1];omega,fun k hk=>?_⟩;by_cases e:k < l.length
  · obtain⟨A2,c2,e1,e2,hp2⟩:=h.2 k e
    refine⟨A2,c2,?_,?_,?_⟩
    · rw [List.getElem?_append_left oM,List.getElem_append_left e];exact e1
    · rw [List.getElem?_append_left oM,List.getElem_append_left e];exact e2
    · rw [List.getElem_append_left e];exact hp2
  · have e2:k=l.length:=by simp at hk;omega
    subst e2;refine⟨A,c,?_,?_,?_⟩
    · rw [List.getElem?_append_right oM,h1,Nat.sub_self];simp
    · rw [List.getElem?_append_right oM,h1,show l.length * 2 + 1 - l.length * 2=1 by omega];simp
    · simpa using hp
section rules
variable {P:Program} {n:Nw} {f:Fr} {w:World} {ty:TypeId} {pos:String} {af:Array Edge} {x y:Operand} {t e:TypeId}
end rules
end Go.Proofs.YtbcpgfnfiekbiaaGreatDoor
namespace Go.Proofs.YtbcpgfnfiekbiaaGreatDoor
open Go.RowKit
def KidIn (w:World) (D:Nat→Prop) (A:Option Addr) (xs:List Int):Prop:=xs.length≤yJ∧(xs≠[]→∃ g cs,A=some ⟨g,0,none⟩∧D g∧Blk w g 3 cs∧cs.toList.take xs.length=iV xs)
theorem KidIn.nil (w:World) (D:Nat→Prop) (A:Option Addr):KidIn w D A []:=⟨Nat.zero_le _,fun h=>absurd rfl h⟩
theorem KidIn.chG {w w':World} {D Z:Nat→Prop} {A:Option Addr} {xs:List Int} (h:KidIn w D A xs) (hc:ChG Z w w') (hz:∀ g,Z g→¬D g∨∃ cs t,Blk w g t cs∧t≠3):KidIn w' D A xs:=
  ⟨h.1,fun hn=>by
    obtain⟨g,cs,e,hd,hb,ht⟩:=h.2 hn
    refine⟨g,cs,e,hd,hb.chG hc (fun hm=>?_),ht⟩
    rcases hz g hm with h1 | ⟨c2,t2,h1,h2⟩
    · exact h1 hd
    · exact h2 (jW h1 hb)⟩
theorem ChG.of_same {X:List Nat} {w w':World} (h:Same X w w'):ChG (fun g=>g ∈ X) w w':=⟨h.os,h.tape,h.output,h.size,fun k hk hx=>h.blk k hk hx⟩
theorem KidIn.weak {w:World} {D D':Nat→Prop} {A:Option Addr} {xs:List Int} (h:KidIn w D A xs) (hd:∀ g,g < w.heap.size→D g→D' g):KidIn w D' A xs:=
  ⟨h.1,fun hn=>by
    obtain⟨g,cs,e,h1,hb,ht⟩:=h.2 hn
    exact⟨g,cs,e,hd g hb.lt h1,hb,ht⟩⟩
theorem KidIn.own {w:World} {base k cap:Nat} {A:Option Addr} {xs:List Int} (h:Own w base 3 1 A k cap (iV xs)) (hk:k=xs.length):KidIn w (fun g=>base≤g) A xs:=by
  subst hk;have h2:=own_pr h
  exact⟨h2.1,fun hn=>by
    obtain⟨g,cs,e,h3,_,h4,h5⟩:=h2.2 hn
    exact⟨g,cs,e,h3,h4,h5⟩⟩
theorem KidIn.cell {w:World} {D:Nat→Prop} {A:Option Addr} {xs:List Int} (h:KidIn w D A xs) {j:Nat} (hj:j < xs.length):∃ g,A=some ⟨g,0,none⟩∧g < w.heap.size∧w.cell? ⟨g,0 + j * 1,none⟩=some (.int .i64 xs[j]):=by
  obtain⟨g,cs,e,_,hb,ht⟩:=h.2 (by intro e;rw [e] at hj;simp at hj);refine⟨g,e,hb.lt,hb.cell ?_⟩;have h1:(cs.toList.take xs.length)[j]? =some (.int .i64 xs[j]):=by rw [ht];simp [iV,hj]
  rw [List.getElem?_take_of_lt hj,Array.getElem?_toList] at h1;rw [Nat.zero_add,Nat.mul_one];exact h1
def rwV (r:Rw) (A:Option Addr) (c:Nat) (K:Option Addr) (ck:Nat):List Value:=[.int .i64 r.kind,.string r.name,.string r.typ.base,.slice A r.typ.args.length c,.int .i64 r.index,.slice K r.kids.length ck,.int .i64 r.up]
inductive RwsIn (w0 w:World) (D:Nat→Prop):List Rw→List Value→Prop
  | nil:RwsIn w0 w D [] []
  | cons {r:Rw} {l:List Rw} {vs:List Value} {A K:Option Addr} {c ck:Nat} (hs:SimsIn w0 A r.typ.args) (hk:KidIn w D K r.kids) (h:RwsIn w0 w D l vs):RwsIn w0 w D (r :: l) (rwV r A c K ck ++ vs)
theorem RwsIn.len {w0 w:World} {D:Nat→Prop} {l:List Rw} {vs:List Value} (h:RwsIn w0 w D l vs):vs.length=l.length * 7:=by
  induction h with
  | nil=>rfl
  | cons hs hk h ih=>simp only [List.length_append,ih,List.length_cons,rwV,List.length_nil];omega
theorem RwsIn.chG {w0 w w':World} {D Z:Nat→Prop} {l:List Rw} {vs:List Value} (h:RwsIn w0 w D l vs) (hc:ChG Z w w') (hz:∀ g,Z g→¬D g∨∃ cs t,Blk w g t cs∧t≠3):RwsIn w0 w' D l vs:=by
  induction h with
  | nil=>exact .nil
  | cons hs hk h ih=>exact .cons hs (hk.chG hc hz) ih
theorem RwsIn.tr {w0 w w':World} {D:Nat→Prop} {X:List Nat} {l:List Rw} {vs:List Value} (h:RwsIn w0 w D l vs) (hs:Same X w w') (hz:∀ g,g ∈ X→¬D g∨∃ cs t,Blk w g t cs∧t≠3):RwsIn w0 w' D l vs:=h.chG (ChG.of_same hs) hz
theorem RwsIn.weak {w0 w:World} {D D':Nat→Prop} {l:List Rw} {vs:List Value} (h:RwsIn w0 w D l vs) (hd:∀ g,g < w.heap.size→D g→D' g):RwsIn w0 w D' l vs:=by
  induction h with
  | nil=>exact .nil
  | cons hs hk h ih=>exact .cons hs (hk.weak hd) ih
theorem RwsIn.app {w0 w:World} {D:Nat→Prop} {l m:List Rw} {vs us:List Value} (h:RwsIn w0 w D l vs) (k:RwsIn w0 w D m us):RwsIn w0 w D (l ++ m) (vs ++ us):=by
  induction h with
  | nil=>exact k
  | cons hs hk h ih=>rw [List.append_assoc];exact .cons hs hk ih
theorem RwsIn.at_ {w0 w:World} {D:Nat→Prop} {l:List Rw} {vs:List Value} (h:RwsIn w0 w D l vs):∀ {k:Nat} {r:Rw},l[k]? =some r→∃ A c K ck,(vs.drop (k * 7)).take 7=rwV r A c K ck∧SimsIn w0 A r.typ.args∧KidIn w D K r.kids:=by
  induction h with
  | nil=>intro k r hk;simp at hk
  | @cons r' l vs A K c ck hs hk h ih=>
    intro k r hr;cases k with
    | zero=>
      obtain rfl:=Option.some.inj hr;exact⟨A,c,K,ck,by rw [Nat.zero_mul,List.drop_zero];exact List.take_left' rfl,hs,hk⟩
    | succ k=>
      obtain⟨A',c',K',ck',h1,h2⟩:=ih (k:=k) (r:=r) hr;refine⟨A',c',K',ck',?_,h2⟩;rw [show (k + 1) * 7=7 + k * 7 by omega,← List.drop_drop,show List.drop 7 (rwV r' A c K ck ++ vs)=vs from List.drop_left' rfl];exact h1
theorem own_mid {w:World} {base sz cap g m o n:Nat} {e:TypeId} {xs ys:List Value} (h:Own w base e sz (some ⟨g,0,none⟩) m cap xs) (hx:(xs.drop o).take n=ys):w.rangeAt g (0 + o) ys:=fun i v hv=>by
  subst hx
  rw [List.getElem?_take] at hv
  split at hv
  · rw [List.getElem?_drop] at hv
    have hi:=(List.getElem?_eq_some_iff.1 hv).1
    obtain⟨g',e,_,_,hc⟩:=h.cell (by intro e;rw [e] at hi;simp at hi)
    cases e
    rw [Nat.zero_add]
    exact hc _ v hv
  · cases hv
def Tv.parts:Tv→List Tv
  | .con _ _=>[]
  | .var _=>[]
  | .abs _ x=>[x]
  | .app x y=>[x,y]
def hd (v:Tv) (up:Int) (ks:List Int):Rw:=⟨v.tm.kind,v.tm.name,v.tm.type,v.tm.index,ks,up⟩
def FK (p:Nat):List Tv→List Int→List Rw→List Int×List Rw
  | [],ks,t=>(ks,t)
  | x :: r,ks,t=>FK p r (ks ++ [((p + 1 + t.length:Nat):Int)]) (t ++ rws p (p + 1 + t.length) x)
theorem rws_acc (up:Int) (p:Nat) (v:Tv):rws up p v=hd v up (FK p v.parts [] []).1 :: (FK p v.parts [] []).2:=by
  cases v with
  | con nm τ=>rfl
  | var i=>rfl
  | abs τ x=>simp [rws,FK,Tv.parts,hd,Tv.tm,Tm.kind,Tm.name,Tm.type,Tm.index]
  | app x y=>simp [rws,FK,Tv.parts,hd,Tv.tm,Tm.kind,Tm.name,Tm.type,Tm.index,X9]
theorem EK (v:Tv):v.tm.args=v.parts.map Tv.tm:=by cases v <;> rfl
theorem parts_lt {v x:Tv} (h:x ∈ v.parts):x.size < v.size:=by
  cases v with
  | con nm τ=>cases h
  | var i=>cases h
  | abs τ y=>simp only [Tv.parts,List.mem_singleton] at h;subst h;simp [Tv.size]
  | app y z=>
    simp only [Tv.parts,List.mem_cons,List.not_mem_nil,or_false] at h;rcases h with rfl | rfl <;> simp only [Tv.size] <;> omega
theorem parts_len (v:Tv):v.parts.length≤2:=by cases v <;> simp [Tv.parts]
theorem parts_sum (v:Tv):(v.parts.map Tv.size).sum + 1=v.size:=by cases v <;> simp [Tv.parts,Tv.size]
theorem tms_part {w:World} {A:Option Addr} {v:Tv} (h:TmsIn w A v.tm.args) {k:Nat} (hk:k < v.parts.length):∃ b o A' c B d,A=some ⟨b,o,none⟩∧b < w.heap.size∧w.rangeAt b (o + k * 6) [Value.int .i64 (v.parts[k]).tm.kind,.string (v.parts[k]).tm.name,.int .i64 (v.parts[k]).tm.index,.string (v.parts[k]).tm.type.base,.slice A' (v.parts[k]).tm.type.args.length c,.slice B (v.parts[k]).tm.args.length d]∧SimsIn w A' (v.parts[k]).tm.type.args∧TmsIn w B (v.parts[k]).tm.args:=by
  have hk2:k < v.tm.args.length:=by rw [EK,List.length_map];exact hk
  obtain⟨b,o,A',c,B,d,h1,h2,h3,h4,h5⟩:=h.at_ hk2;have e:v.tm.args[k]'hk2=(v.parts[k]).tm:=by simp only [EK,List.getElem_map]
  rw [e] at h3 h4 h5;exact⟨b,o,A',c,B,d,h1,h2,h3,h4,h5⟩
theorem Sq {α:Type} (a:List α) (x y:α) (b:List α) (i:Nat) (h:i=a.length):(a ++ x :: b).set i y=a ++ y :: b:=by
  subst h
  induction a with
  | nil=>rfl
  | cons z a ih=>simp only [List.cons_append,List.length_cons,List.set_cons_succ,ih]
theorem rw_set {vs ys:List Value} {r:Rw} {A K K':Option Addr} {c ck ck' n:Nat} {ks:List Int} (h:vs.length=n * 7):(vs ++ rwV r A c K ck ++ ys).set (0 + n * 7 + 5) (.slice K' ks.length ck')=vs ++ rwV { r with kids:=ks } A c K' ck' ++ ys:=by
  have h2:=Sq (vs ++ [.int .i64 r.kind,.string r.name,.string r.typ.base,.slice A r.typ.args.length c,.int .i64 r.index]) (.slice K r.kids.length ck) (.slice K' ks.length ck') ([.int .i64 r.up] ++ ys) (0 + n * 7 + 5) (by simp [h])
  simpa [rwV] using h2
theorem rw_kid {vs ys:List Value} {r:Rw} {A K:Option Addr} {c ck n:Nat} (h:vs.length=n * 7):(vs ++ rwV r A c K ck ++ ys)[0 + n * 7 + 5]? =some (.slice K r.kids.length ck):=by
  rw [List.append_assoc,List.getElem?_append_right oM,h,show 0 + n * 7 + 5 - n * 7=5 by omega];rfl
theorem ChG.same {X:List Nat} {w w':World} (h:ChG (fun g=>g ∈ X) w w'):Same X w w':=⟨h.os,h.tape,h.output,h.size,fun k hk hx=>h.blk k hk hx⟩
end Go.Proofs.YtbcpgfnfiekbiaaGreatDoor
namespace Go.Proofs.YtbcpgfnfiekbiaaGreatDoor
open Go.RowKit
def RdT (w0 w:World) (q:Nat) (ls:List Rw):Prop:=∀ k r,ls[k]? =some r→∃ A c K ck,w.rangeAt q (0 + k * 7) [.int .i64 r.kind,.string r.name,.string r.typ.base,.slice A r.typ.args.length c,.int .i64 r.index,.slice K r.kids.length ck,.int .i64 r.up]∧w.rangeAt q (0 + k * 7 + 2) [.string r.typ.base,.slice A r.typ.args.length c]∧SimsIn w0 A r.typ.args∧∀ j (hj:j < r.kids.length),∃ g,K=some ⟨g,0,none⟩∧g < w.heap.size∧w.cell? ⟨g,0 + j * 1,none⟩=some (.int .i64 r.kids[j])
theorem rdt_of {w0 w:World} {q n cap base:Nat} {D:Nat→Prop} {ls:List Rw} {zs:List Value} (ho:Own w base 153 7 (some ⟨q,0,none⟩) n cap zs) (h:RwsIn w0 w D ls zs):RdT w0 w q ls:=fun k r hr=>by
  obtain⟨A,c,K,ck,h1,h2,h3⟩:=h.at_ hr
  have hm:=own_mid ho h1
  refine⟨A,c,K,ck,hm,fun i v hv=>?_,h2,fun j hj=>h3.cell hj⟩
  match i,hv with
  | 0,hv=>exact hm 2 v hv
  | 1,hv=>exact hm 3 v hv
  | i + 2,hv=>simp at hv
theorem nd_row {l:List Rw} {p:Nat} {Γ:List Ts} {v:Tv} (h:XV l p Γ v):∃ r,l[p]? =some r∧(r.kind=1∨r.kind=2∨r.kind=3∨r.kind=4):=by
  cases v with
  | con nm τ=>obtain⟨r,h1,h2,_⟩:=h;exact⟨r,h1,.inl h2⟩
  | var i=>obtain⟨r,h1,h2,_⟩:=h;exact⟨r,h1,.inr (.inl h2)⟩
  | abs τ x=>obtain⟨⟨r,h1,h2,_⟩,_⟩:=h;exact⟨r,h1,.inr (.inr (.inl h2))⟩
  | app x y=>obtain⟨⟨r,h1,h2,_⟩,_⟩:=h;exact⟨r,h1,.inr (.inr (.inr h2))⟩
theorem nd_lt {l:List Rw} {p:Nat} {Γ:List Ts} {v:Tv} (h:XV l p Γ v):p < l.length:=by
  obtain⟨r,h1,_⟩:=nd_row h;exact(List.getElem?_eq_some_iff.1 h1).1
section nd
variable {l:List Rw} {p:Nat} {r:Rw} {Γ:List Ts} {v:Tv}
theorem nd_con (h:XV l p Γ v) (hr:l[p]? =some r) (hk:r.kind=1):∃ nm τ,v= .con nm τ∧r.typ=τ.sm:=by
  cases v with
  | con nm τ=>obtain⟨r',h1,_,h2⟩:=h;cases xy hr h1;exact⟨nm,τ,rfl,h2⟩
  | var i=>obtain⟨r',h1,h2,_⟩:=h;cases xy hr h1;rw [hk] at h2;cases h2
  | abs σ x=>obtain⟨⟨r',h1,h2,_⟩,_⟩:=h;cases xy hr h1;rw [hk] at h2;cases h2
  | app x y=>obtain⟨⟨r',h1,h2,_⟩,_⟩:=h;cases xy hr h1;rw [hk] at h2;cases h2
theorem nd_var (h:XV l p Γ v) (hr:l[p]? =some r) (hk:r.kind=2):∃ i,v= .var i∧r.index=(i:Int)∧r.up < (p:Int)∧Chn l r.up Γ:=by
  cases v with
  | con nm τ=>obtain⟨r',h1,h2,_⟩:=h;cases xy hr h1;rw [hk] at h2;cases h2
  | var i=>obtain⟨r',h1,_,h2,h3,h4⟩:=h;cases xy hr h1;exact⟨i,rfl,h2,h3,h4⟩
  | abs σ x=>obtain⟨⟨r',h1,h2,_⟩,_⟩:=h;cases xy hr h1;rw [hk] at h2;cases h2
  | app x y=>obtain⟨⟨r',h1,h2,_⟩,_⟩:=h;cases xy hr h1;rw [hk] at h2;cases h2
theorem nd_abs (h:XV l p Γ v) (hr:l[p]? =some r) (hk:r.kind=3):∃ τ x,v= .abs τ x∧r.typ=τ.sm∧r.kids= [((p + 1:Nat):Int)]∧XV l (p + 1) (τ :: Γ) x:=by
  cases v with
  | con nm τ=>obtain⟨r',h1,h2,_⟩:=h;cases xy hr h1;rw [hk] at h2;cases h2
  | var i=>obtain⟨r',h1,h2,_⟩:=h;cases xy hr h1;rw [hk] at h2;cases h2
  | abs σ x=>obtain⟨⟨r',h1,_,h2,h3⟩,h4⟩:=h;cases xy hr h1;exact⟨σ,x,rfl,h2,h3,h4⟩
  | app x y=>obtain⟨⟨r',h1,h2,_⟩,_⟩:=h;cases xy hr h1;rw [hk] at h2;cases h2
theorem nd_app (h:XV l p Γ v) (hr:l[p]? =some r) (hk:r.kind=4):∃ x y,v= .app x y∧r.kids= [((p + 1:Nat):Int),((p + 1 + x.size:Nat):Int)]∧XV l (p + 1) Γ x∧XV l (p + 1 + x.size) Γ y:=by
  cases v with
  | con nm τ=>obtain⟨r',h1,h2,_⟩:=h;cases xy hr h1;rw [hk] at h2;cases h2
  | var i=>obtain⟨r',h1,h2,_⟩:=h;cases xy hr h1;rw [hk] at h2;cases h2
  | abs σ x=>obtain⟨⟨r',h1,h2,_⟩,_⟩:=h;cases xy hr h1;rw [hk] at h2;cases h2
  | app x y=>obtain⟨⟨r',h1,_,h2⟩,h3,h4⟩:=h;cases xy hr h1;exact⟨x,y,rfl,h2,h3,h4⟩
end nd
theorem chn_row {l:List Rw} {u:Int} {Γ:List Ts} {k:Nat} {τ:Ts} (h:Chn l u Γ) (hk:Γ[k]? =some τ):∃ (m:Nat) (r:Rw),u=(m:Int)∧l[m]? =some r∧r.up < (m:Int)∧-1≤r.up∧((r.kind=3∧((k=0∧r.typ=τ.sm)∨∃ k',k=k' + 1∧∃ Δ,Δ[k']? =some τ∧Chn l r.up Δ))∨(r.kind≠3∧∃ Δ,Δ[k]? =some τ∧Chn l r.up Δ)):=by
  have low:∀ {u:Int} {Γ:List Ts},Chn l u Γ→-1≤u:=fun h=>by cases h <;> omega
  cases h with
  | nil=>simp at hk
  | @abs m r σ Δ h1 h2 h3 h4 h5=>
    refine⟨m,r,rfl,h1,h4,low h5,.inl ⟨h2,?_⟩⟩;cases k with
    | zero=>obtain rfl:σ=τ:=Option.some.inj hk;exact .inl ⟨rfl,h3⟩
    | succ k=>exact .inr ⟨k,rfl,Δ,hk,h5⟩
  | @app m r _ h1 h2 h4 h5=>exact⟨m,r,rfl,h1,h4,low h5,.inr ⟨h2,Γ,hk,h5⟩⟩
theorem N6:∀ (v:Tv) (Γ:List Ts) (j:Nat) (h:j < (nds Γ v).length),(nds Γ v)[j].1.length + (nds Γ v)[j].2.size≤Γ.length + v.size
  | .con nm τ,Γ,j,h=>by
    obtain rfl:j=0:=by simp [nds] at h;omega
    exact Nat.le_refl _
  | .var i,Γ,j,h=>by
    obtain rfl:j=0:=by simp [nds] at h;omega
    exact Nat.le_refl _
  | .abs τ x,Γ,j,h=>by
    cases j with
    | zero=>exact Nat.le_refl _
    | succ j=>
      have:=N6 x (τ :: Γ) j (by simp only [nds,List.length_cons] at h;omega)
      simp only [nds,List.getElem_cons_succ,List.length_cons,Tv.size] at this ⊢
      omega
  | .app x y,Γ,j,h=>by
    cases j with
    | zero=>exact Nat.le_refl _
    | succ j=>
      simp only [nds,List.getElem_cons_succ,Tv.size]
      by_cases e:j < (nds Γ x).length
      · rw [List.getElem_append_left e]
        have:=N6 x Γ j e
        omega
      · rw [List.getElem_append_right oM]
        have:=N6 y Γ (j - (nds Γ x).length) (by simp only [nds,List.length_cons,List.length_append] at h;omega)
        omega
theorem Kk {m i:Nat} {f h:Nat→Value} {a b:Value}:Z8 (uv m f h) (0 + i * 2) [a,b]=uv m (fun j=>if j=i then a else f j) (fun j=>if j=i then b else h j):=by
  show ((uv m f h).setIfInBounds (0 + i * 2 + 0) a).setIfInBounds (0 + i * 2 + 1) b=_;rw [D4,D3]
theorem Kv {w:World} {b t n k:Nat} {F H:Nat→Value} {x y:Value} (hb:Blk w b t (uv n F H)) (hk:k < n) (hF:F k=x) (hH:H k=y):w.rangeAt b (0 + k * 2) [x,y]:=fun i v hv=>by
  match i,hv with
  | 0,hv=>obtain rfl:=Option.some.inj hv;rw [cell_of_row w b _ _ _ _ hb,D6 hk,hF]
  | 1,hv=>obtain rfl:=Option.some.inj hv;rw [cell_of_row w b _ _ _ _ hb,IX hk,hH]
  | i + 2,hv=>simp at hv
def TyS (S:Nat→Prop) (w:World):Option Addr→Ts→Prop
  | _,.b _=>True
  | A,.f x y=>∃ b o A0 c0 A1 c1,A=some ⟨b,o,none⟩∧b < w.heap.size∧S b∧w.rangeAt b o [.string x.sm.base,.slice A0 x.sm.args.length c0,.string y.sm.base,.slice A1 y.sm.args.length c1]∧TyS S w A0 x∧TyS S w A1 y
theorem Bel.then {a b c:World} (h:Bel a b) (g:Bel b c):Bel a c:=h.tr0 (sB g)
section tys
variable {S S':Nat→Prop} {w w':World}
theorem rng4 {b o:Nat} {a0 a1 a2 a3:Value} (h:w.rangeAt b o [a0,a1,a2,a3]):w.rangeAt b (o + 0 * 2) [a0,a1]∧w.rangeAt b (o + 1 * 2) [a2,a3]:=⟨fun j v hj=>by
  match j,hj with
  | 0,hj=>exact h 0 v hj
  | 1,hj=>exact h 1 v hj
  | j + 2,hj=>simp at hj,fun j v hj=>by
  match j,hj with
  | 0,hj=>exact h 2 v hj
  | 1,hj=>exact h 3 v hj
  | j + 2,hj=>simp at hj⟩
theorem TyS.keep (hz:w.heap.size≤w'.heap.size) (hk:∀ b,b < w.heap.size→S b→w'.heap[b]? =w.heap[b]?):∀ (τ:Ts) {A:Option Addr},TyS S w A τ→TyS S w' A τ
  | .b _,_,_=>trivial
  | .f x y,A,h=>by
    obtain⟨b,o,A0,c0,A1,c1,e,h1,h2,h3,h4,h5⟩:=h
    exact⟨b,o,A0,c0,A1,c1,e,nLL h1 hz,h2,fun j v hj=>by
      have:=h3 j v hj
      unfold World.cell? at this ⊢
      rw [hk b h1 h2];exact this,h4.keep hz hk x,h5.keep hz hk y⟩
theorem TyS.tr {Z:List Nat} {τ:Ts} {A:Option Addr} (h:TyS S w A τ) (hs:Same Z w w') (hz:∀ g ∈ Z,¬S g∨w.heap.size≤g):TyS S w' A τ:=
  h.keep hs.size (fun b hb hS=>hs.blk b hb (fun hm=>by rcases hz b hm with h | h;exact h hS;omega)) τ
theorem TyS.mono {τ:Ts} {A:Option Addr} (h:TyS S w A τ) (hb:Bel w w'):TyS S w' A τ:=h.tr (sB hb) (by simp)
theorem TyS.imp (hi:∀ b,b < w.heap.size→S b→S' b):∀ (τ:Ts) {A:Option Addr},TyS S w A τ→TyS S' w A τ
  | .b _,_,_=>trivial
  | .f x y,A,h=>by
    obtain⟨b,o,A0,c0,A1,c1,e,h1,h2,h3,h4,h5⟩:=h
    exact⟨b,o,A0,c0,A1,c1,e,h1,hi b h1 h2,h3,h4.imp hi x,h5.imp hi y⟩
theorem TyS.sims:∀ (τ:Ts) {A:Option Addr},TyS S w A τ→SimsIn w A τ.sm.args
  | .b t,A,_=>by cases t <;> exact .nil
  | .f x y,A,h=>by
    obtain⟨b,o,A0,c0,A1,c1,rfl,h1,_,h3,h4,h5⟩:=h
    obtain⟨h6,h7⟩:=rng4 h3
    refine .more (show 2≤yJ by decide) h1 (fun k hk2=>?_)
    match k,hk2 with
    | 0,_=>
      show SimAt w b (o + 0 * 2) x.sm
      rw [Sm.eta x.sm]
      exact SimAt.mk h1 h6 (h4.sims x)
    | 1,_=>
      show SimAt w b (o + 1 * 2) y.sm
      rw [Sm.eta y.sm]
      exact SimAt.mk h1 h7 (h5.sims y)
theorem TyS.of (hS:∀ b,b < w.heap.size→S b):∀ (τ:Ts) {A:Option Addr},SimsIn w A τ.sm.args→TyS S w A τ
  | .b _,_,_=>trivial
  | .f x y,A,h=>by
    obtain⟨b,o,A0,c0,rfl,hl,h1,h2⟩:=h.at_ (k:=0) (by simp [Ts.sm,Sm.args])
    obtain⟨b1,o1,A1,c1,e1,_,h3,h4⟩:=h.at_ (k:=1) (by simp [Ts.sm,Sm.args])
    obtain⟨rfl,rfl⟩:b=b1∧o=o1:=by cases e1;exact⟨rfl,rfl⟩
    exact⟨b,o,A0,c0,A1,c1,rfl,hl,hS b hl,fun j v hj=>by
      match j,hj with
      | 0,hj=>exact h1 0 v hj
      | 1,hj=>exact h1 1 v hj
      | 2,hj=>exact h3 0 v hj
      | 3,hj=>exact h3 1 v hj
      | j + 4,hj=>simp at hj,TyS.of hS x h2,TyS.of hS y h4⟩
theorem TyS.old {w0:World} {τ:Ts} {A:Option Addr} (h:SimsIn w0 A τ.sm.args) (hB:Bel w0 w) (hS:∀ b,b < w0.heap.size→S b):TyS S w A τ:=(TyS.of hS τ h).mono hB
theorem TyS.mk {b t:Nat} {A0 A1:Option Addr} {c0 c1:Nat} {x y:Ts} (hb:Blk w b t #[.string x.sm.base,.slice A0 x.sm.args.length c0,.string y.sm.base,.slice A1 y.sm.args.length c1]) (hS:S b) (hx:TyS S w A0 x) (hy:TyS S w A1 y):TyS S w (some ⟨b,0,none⟩) (.f x y):=⟨b,0,A0,c0,A1,c1,rfl,hb.lt,hS,hb.range0,hx,hy⟩
end tys
def nwX (w0 w:World) (X:List Nat) (b:Nat):Prop:=b < w0.heap.size∨(w.heap.size≤b∧b ∉ X)
theorem nwX.no {w0 w:World} {X:List Nat} {b:Nat} (h:b ∈ X) (h0:Bel w0 w) (hb:w.heap.size≤b):¬nwX w0 w X b:=fun h2=>by
  have:=Bel.size h0
  rcases h2 with h2 | h2
  · omega
  · exact h2.2 h
theorem nwX.yes {w0 w:World} {b c d:Nat} (h0:w.heap.size≤b) (hc:c < b) (hd:d < b):nwX w0 w [c,d] b:= .inr ⟨h0,fun hm=>by simp at hm;omega⟩
structure TI (S:Nat→Prop) (ls:List Rw) (n i:Nat) (F H:Nat→Value) (w:World):Prop where
  t:∀ k,i≤k→k < n→∃ τ A c,TyAt ls k τ∧F k= .string τ.sm.base∧H k= .slice A τ.sm.args.length c∧TyS S w A τ
theorem TI.start (S:Nat→Prop) (ls:List Rw) (n:Nat) (w:World):TI S ls n n (fun _=> .string ⟨#[]⟩) (fun _=> .slice none 0 0) w:=⟨fun k h1 h2=>by omega⟩
theorem TI.mono {S:Nat→Prop} {ls:List Rw} {n i:Nat} {F H:Nat→Value} {w w':World} (h:TI S ls n i F H w) (hb:Bel w w'):TI S ls n i F H w':=⟨fun k h1 h2=>by
  obtain⟨τ,A,c,a1,a2,a3,a4⟩:=h.t k h1 h2
  exact⟨τ,A,c,a1,a2,a3,a4.mono hb⟩⟩
theorem TI.put {S:Nat→Prop} {ls:List Rw} {n p b c:Nat} {F H:Nat→Value} {w w':World} {τ:Ts} {A:Option Addr} (h:TI S ls n (p + 1) F H w) (hb:¬S b) (hs:Same [b] w w') (hT:TyAt ls p τ) (hS:TyS S w A τ):TI S ls n p (fun j=>if j=p then .string τ.sm.base else F j) (fun j=>if j=p then .slice A τ.sm.args.length c else H j) w':=by
  have mv:∀ {σ:Ts} {B:Option Addr},TyS S w B σ→TyS S w' B σ:=fun hσ=>hσ.tr hs (fun g hg=> .inl (by rw [List.mem_singleton.1 hg];exact hb))
  refine⟨fun k h1 h2=>?_⟩;by_cases e:k=p
  · subst e
    simp only [if_true];exact⟨τ,A,c,hT,rfl,rfl,mv hS⟩
  · simp only [if_neg e]
    obtain⟨σ,B,d,a1,a2,a3,a4⟩:=h.t k oM h2;exact⟨σ,B,d,a1,a2,a3,mv a4⟩
theorem nd_txt {l:List Rw} {p:Nat} {Γ:List Ts} {v:Tv} {τ:Ts} (h:XV l p Γ v) (ho:v.ok Γ.length) (hG:∀ σ ∈ Γ,σ.size≤200) (hs:v.size≤200) (ht:TyAt l p τ):τ.txt.length≤1000000:=by
  have h1:=Jk ho hG (ht Γ v h);have h2:=Ts.txt_le τ;omega
end Go.Proofs.YtbcpgfnfiekbiaaGreatDoor
namespace Go.Proofs.YtbcpgfnfiekbiaaGreatDoor
open Go.RowKit
theorem fn89:zK Tryz.prog 89=true:=by kernel_rfl
theorem in153:(Tryz.prog.info? 153).map (fun i=>(i.zero,i.size,i.bytes))=some (some (.agg #[.int .i64 0,.string ⟨#[]⟩,.string ⟨#[]⟩,.slice none 0 0,.int .i64 0,.slice none 0 0,.int .i64 0]),7,104):=by kernel_rfl
theorem TV:(Tryz.prog.info? 153).map (·.size)=some 7:=by kernel_rfl
theorem Jy:(Tryz.prog.info? 66).map (·.size)=some 1:=by kernel_rfl
theorem ze153:(Tryz.prog.info? 153).map (·.zero)=some (some (.agg #[.int .i64 0,.string ⟨#[]⟩,.string ⟨#[]⟩,.slice none 0 0,.int .i64 0,.slice none 0 0,.int .i64 0])):=by kernel_rfl
set_option maxRecDepth 100000 in
set_option maxHeartbeats 4000000 in
theorem rows_step {w0:World} {v:Tv} {up:Int} {n:Nat} {vs:List Value} {A B R:Option Addr} {c m cap:Nat} {w:World} (hS:SimsIn w0 A v.tm.type.args) (hT:TmsIn w0 B v.tm.args) (hB:Bel w0 w) (ho:Own w w0.heap.size 153 7 R (n) cap (vs)) (hlen:n + v.size≤1000) (IH:∀ (x:Tv),x.size < v.size→∀ (up2:Int) (n2:Nat) (vs2:List Value) (A2 B2 R2:Option Addr) (c2 m2 cap2:Nat) (w2:World),SimsIn w0 A2 x.tm.type.args→TmsIn w0 B2 x.tm.args→Bel w0 w2→Own w2 w0.heap.size 153 7 R2 (n2) cap2 (vs2)→n2 + x.size≤1000→Calls Tryz.prog 89 #[.agg #[.int .i64 (Tv.tm (x)).kind,.string (Tv.tm (x)).name,.int .i64 (Tv.tm (x)).index,.string (Tv.tm (x)).type.base,.slice A2 (Tv.tm (x)).type.args.length c2,.slice B2 (Tv.tm (x)).args.length m2],.int .i64 (up2),.slice R2 (n2) cap2] w2 fun e w'=>∃ (R':Option Addr) (cap':Nat) (zs:List Value),e= .returned (.slice R' (n2 + Tv.size (x)) cap')∧Own w' w0.heap.size 153 7 R' (n2 + Tv.size (x)) cap' (vs2 ++ zs)∧RwsIn w0 w' (fun g=>w2.heap.size≤g) (rws (up2) (n2) (x)) zs∧ChG (fun g=>g ∈ aL R2) w2 w'∧∀ g ∈ aL R',g ∈ aL R2∨w2.heap.size≤g):Calls Tryz.prog 89 #[.agg #[.int .i64 (Tv.tm (v)).kind,.string (Tv.tm (v)).name,.int .i64 (Tv.tm (v)).index,.string (Tv.tm (v)).type.base,.slice A (Tv.tm (v)).type.args.length c,.slice B (Tv.tm (v)).args.length m],.int .i64 (up),.slice R (n) cap] w fun e w'=>∃ (R':Option Addr) (cap':Nat) (zs:List Value),e= .returned (.slice R' (n + Tv.size (v)) cap')∧Own w' w0.heap.size 153 7 R' (n + Tv.size (v)) cap' (vs ++ zs)∧RwsIn w0 w' (fun g=>w.heap.size≤g) (rws (up) (n) (v)) zs∧ChG (fun g=>g ∈ aL R) w w'∧∀ g ∈ aL R',g ∈ aL R∨w.heap.size≤g:=by
 have hw0:w0.heap.size≤w.heap.size:=Bel.size hB;have hC:ChG (fun g=>g ∈ aL R) w w:=ChG.refl _ _;have hA:∀ g ∈ aL R,g ∈ aL R∨w.heap.size≤g:=fun g hg=> .inl hg
 have hvl:=ho.len;have hps:=parts_sum v;have hpl:=parts_len v;have hvp:=v.pos;have hnk:v.tm.args.length=v.parts.length:=by rw [EK,List.length_map]
 refine enter Tryz.func89 Tryz.ntmps89 rfl (Nat.le_of_ble_eq_true rfl) (zn2 ?_);refine x6 (v:= .agg #[_,_,_,_,_,_]) (cs:=#[_,_,_,_,_,_]) rfl rfl (fun b3 w1 hb3 s1 hr=>?_);have or_ho_b3:=(fun g hg=>nLL (ho.lt g hg).2 hr)
 have or_hC_b3:=(nLT hC.size hr)
 have lo3:=nLT (Bel.size hB) hr;replace hC:=hC.st s1 (by simp);refine vq ?_;have hCs:=hC.size;refine zn7 ?_;refine wl (zY U41 rfl rfl (hb3.sub (n:=2) (xs:=[_,_]) rfl) x9) (zn3 ?_);refine wl (F2 (v0:= .int _ _) (v1:= .string _) (v2:= .agg _) (v3:= .int _ _) (v4:= .int _ _) (fun v0 v1 v2 v3 v4=>#[v0,v1,(qx v2 0),(qx v2 1),v3,.slice none 0 0,v4]) rfl rfl rfl rfl rfl kR) ?_;refine qw (cs:=#[_,_,_,_,_,_,_]) [(0,.agg _)] rfl U150 TV ze153 dE dE kR rfl (fun b22 w2 hb22 s2 hr=>?_);replace ho:=ho.tr0 s1;have or_ho_b22:=(fun g hg=>nLL (ho.lt g hg).2 hr)
 have or_hC_b22:=(nLT hC.size hr)
 have:=nLL hb3.lt hr;have lo22:=nLT (Bel.size hB.u) hr;replace hC:=hC.st s2 (by simp);replace ho:=ho.tr0 s2;refine vX U150 in153 rfl dE ho hb22 rfl rfl rfl zQ dE oM oM (Bel.size hB.u) (fun g23 cap23 w3 ho23 s3 hg=>?_);have ne_ho23_b3:g23≠b3:=neB hb3.u.lt hg (fun g hg=>by have:=or_ho_b3 g hg;omega)
 replace hB:=hB.u.tr s3 (fun g hg=>nLT (Nat.le_refl _) (ho.lt g hg).1);replace hC:=hC.st s3 (fun g hg=>by first | exact hA g hg | exact .inr (ho.lt g hg).1);replace hb3:=hb3.tr0 s2;replace hb3:=hb3.tb s3 (fun g hg=>by have:=or_ho_b3 g hg;omega);have hA:∀ g ∈ aL (some (⟨g23,0,none⟩:Addr)),g ∈ aL R∨w.heap.size≤g:=fun g hm=>by
   rw [List.mem_singleton.1 hm];rcases hg with h | h
   · exact .inl (by rw [h];exact List.mem_singleton.2 rfl)
   · exact .inr (by show w.heap.size≤g23;have:=hb22.lt;omega)
 have ho:=ho23;refine ky ?_;refine zW (rg [2,8] 27 25) (fun mm g w'=>∃ (j:Nat) (ks:List Int) (t:List Rw) (R2:Option Addr) (cap2:Nat) (ys:List Value) (K:Option Addr) (ck:Nat),j≤v.parts.length∧mm=v.parts.length - j∧g 27= .int .i64 j∧g 2= .slice R2 (n + 1 + t.length) cap2∧ks.length=j∧n + 1 + t.length + ((v.parts.drop j).map Tv.size).sum=n + v.size∧FK n v.parts [] []=FK n (v.parts.drop j) ks t∧Bel w0 w'∧Blk w' b3 44 #[.int .i64 (Tv.tm v).kind,.string (Tv.tm v).name,.int .i64 (Tv.tm v).index,.string (Tv.tm v).type.base,.slice A (Tv.tm v).type.args.length c,.slice B (Tv.tm v).args.length m]∧Own w' w0.heap.size 153 7 R2 (n + 1 + t.length) cap2 (vs ++ rwV (hd v up ks) A c K ck ++ ys)∧Own w' w.heap.size 3 1 K ks.length ck (iV ks)∧RwsIn w0 w' (fun g=>w.heap.size≤g∧g ∉ aL K) t ys∧ChG (fun g=>g ∈ aL R) w w'∧∀ g ∈ aL R2,g ∈ aL R∨w.heap.size≤g) (v.parts.length) ?_ (fun m g4 w4 hI=>?_)
 ·exact⟨0,[],[],_,_,[],none,0,Nat.zero_le _,rfl,rfl,rfl,rfl,by simp only [List.length_nil,List.drop_zero];omega,rfl,hB,hb3,(by rw [List.append_nil];exact ho),Own.nil _ _ _ _,.nil,hC,hA⟩
 obtain⟨j,ks,t,R2,cap2,ys,K,ck,hj,hmj,h27,h2,hkl,hsum,hacc,hB,hb3,ho,hoK,hRt,hC,hA⟩:=hI;refine zZ 27 _ h27 nu (zZ 2 _ h2 nu (zn6 ?_));refine zX rfl (fun c28=>?_) (fun c28=>?_)
 ·have hjl:j < v.parts.length:=by omega
  obtain⟨tb,to,A0,c0,B0,m0,rfl,htb,htr,ks0,kt0⟩:=tms_part hT hjl;rw [List.drop_eq_getElem_cons hjl] at hacc hsum;simp only [List.map_cons,List.sum_cons] at hsum;simp only [FK] at hacc;have hxp:=Tv.pos (v.parts[j]'hjl);refine vq ?_;obtain⟨q,cur,rfl,hqb,hbq,hcs,hget,hset⟩:=ho.open_ oM;have or_hoK_q:∀ g ∈ aL K,g≠q:=Zx hoK hbq dE;have or_hoK_b3:∀ g ∈ aL K,g≠b3:=Zx hoK hb3 dE;have or_b3_q:b3≠q:=fun e=>absurd (jW (e ▸ hb3) hbq) dE
  have hk5:cur[0 + n * 7 + 5]? =some (.slice K ks.length ck):=(hget _ oM).trans (rw_kid hvl);obtain⟨z6,hz6e⟩:∃ z,z=w4.heap.size:=⟨_,rfl⟩
  have hz6:z6≤w4.heap.size:=Nat.le_of_eq hz6e;replace hRt:RwsIn w0 w4 (fun g=>w.heap.size≤g∧g ∉ aL K∧g < z6) t ys:=hRt.weak (fun g h1 h2=>⟨h2.1,h2.2,by omega⟩);have hCs:=hC.size;refine zn7 ?_;refine wl (qV (v:= .slice _ _ _) U66 rfl rfl (hbq.cell hk5)) (zn2 ?_);refine qw (cs:=#[_]) [(0,.int _ _)] rfl U66 qX ow dE dE kR rfl (fun b39 w5 hb39 s4 hr=>?_);have:=nLL hb3.lt hr;have or_hoK_b39:=(fun g hg=>nLL (hoK.lt g hg).2 hr)
  have or_hC_b39:=(nLT hC.size hr)
  have:=nLL hbq.lt hr;have or_hz6_b39:=(nLT hz6 hr)
  have lo39:=nLT (Bel.size hB) hr;replace hC:=hC.st s4 (by simp);replace hRt:=hRt.tr s4 (by simp);replace hz6:=nLT hz6 (Same.size s4);replace hoK:=hoK.tr0 s4;refine vX U66 in3 rfl dE hoK hb39 rfl rfl rfl zQ dE oM oM hC.size (fun g40 cap40 w6 ho40 s5 hg=>?_);replace hbq:=hbq.tr0 s4;have ne_ho40_b3:g40≠b3:=neB hb3.u.lt hg (fun g hg=>by have:=or_hoK_b3 g hg;omega)
  have ne_ho40_q:g40≠q:=neB hbq.lt hg (fun g hg=>by have:=or_hoK_q g hg;omega)
  replace hB:=hB.u.tr s5 (fun g hg=>nLT hw0 (hoK.lt g hg).1);replace hb3:=hb3.tr0 s4;replace hb3:=hb3.tb s5 (fun g hg=>by have:=or_hoK_b3 g hg;omega);replace hC:=hC.st s5 (fun g hg=>by first | exact hA g hg | exact .inr (hoK.lt g hg).1);replace hRt:=hRt.tr s5 (fun g hg=>by first | exact .inl (fun h=>h.2.1 hg) | (obtain⟨cs,hc⟩:=(hoK).typ g hg;exact .inr ⟨cs,_,hc,by decide⟩));replace hbq:=hbq.tb s5 (fun g hg=>by have:=or_hoK_q g hg;omega);replace hz6:=nLT hz6 (Same.size s5)
  have hRt:RwsIn w0 w6 (fun g=>w.heap.size≤g∧g ∉ aL (some (⟨g40,0,none⟩:Addr))) t ys:=hRt.weak (fun g _ hd=>⟨hd.1,fun hm=>by
    have e:g=g40:=List.mem_singleton.1 hm;rcases hg with h | h
    · exact hd.2.1 (by rw [h,e];exact List.mem_singleton.2 rfl)
    · have:=hb39.lt
      have:=hd.2.2
      omega⟩)
  have hoK:Own w6 w.heap.size 3 1 (some ⟨g40,0,none⟩) (ks ++ [((n + 1 + t.length:Nat):Int)]).length cap40 (iV (ks ++ [((n + 1 + t.length:Nat):Int)])):=by
    have e1:(ks ++ [((n + 1 + t.length:Nat):Int)]).length=ks.length + 1:=by simp
    have e2:iV (ks ++ [((n + 1 + t.length:Nat):Int)])=iV ks ++ [.int .i64 ((n + 1 + t.length:Nat):Int)]:=by simp [iV]
    rw [e1,e2];exact ho40
  refine zn2 ?_;refine xz (v:= .slice _ _ _) hbq rfl rfl Jy (by show 0 + n * 7 + 5 < cur.size;omega) rfl rfl (fun w7 hq s6=>?_);replace hB:=hB.tr1 s6 hqb;replace hC:=hC.st s6 (fun g hg=>by rw [List.mem_singleton.1 hg];first | exact .inr or_hC_q | exact hA _ (List.mem_singleton.2 rfl));replace hRt:=hRt.tr s6 (fun g hg=>by rw [List.mem_singleton.1 hg];exact .inr ⟨_,_,hbq,by decide⟩);replace hz6:=nLT hz6 (Same.size s6);replace hoK:=hoK.tr1 s6 (Zx hoK hbq dE);replace hbq:=hq;have ho:Own w7 w0.heap.size 153 7 (some ⟨q,0,none⟩) (n + 1 + t.length) cap2 (vs ++ rwV (hd v up (ks ++ [((n + 1 + t.length:Nat):Int)])) A c (some ⟨g40,0,none⟩) cap40 ++ ys):=by
    have h:=hset _ (0 + n * 7 + 5) _ hbq;rw [show ks.length + 1=(ks ++ [((n + 1 + t.length:Nat):Int)]).length by simp,rw_set hvl] at h;exact h
  have hA:∀ g ∈ aL (some (⟨q,0,none⟩:Addr)),g ∈ aL R∨w.heap.size≤g:=hA;refine yv ?_;refine zV fn89 (IH (v.parts[j]'hjl) (parts_lt (List.getElem_mem hjl)) n (n + 1 + t.length) _ A0 B0 _ c0 m0 _ _ ks0 kt0 hB ho oM) rfl (fun e' w8 hr=>?_);obtain⟨R3,cap3,zs,rfl,ho3,hR3,hC3,hA3⟩:=hr;have hKl:=fun g hg=>(hoK.lt g hg).2
  have hs3:=hC3.same;have hCz:=hC.size;replace hR3:=hR3.weak (D':=fun g=>w.heap.size≤g∧g ∉ aL (some (⟨g40,0,none⟩:Addr))) (fun g _ hd=>⟨nLT hCz hd,fun hm=>by have:=hKl g hm;omega⟩);replace hB:=hB.tr hs3 (fun g hg=>(ho.lt g hg).1);replace hb3:=hb3.tr1 s6 oM;replace hb3:=hb3.tr hs3 (fun hx=>Zx ho hb3 dE _ hx rfl);replace hoK:=hoK.tr hs3 (own_ne hoK ho dE);replace hRt:=hRt.tr hs3 (fun g hg=>by obtain⟨cs,hc⟩:=ho.typ g hg;exact .inr ⟨cs,_,hc,by decide⟩);replace hC:=hC.st hs3 hA;replace hA:∀ g ∈ aL R3,g ∈ aL R∨w.heap.size≤g:=fun g hg=>(hA3 g hg).elim (fun h=>hA g h) (fun h=> .inr (nLT hCz h))
  replace ho:=ho3;have e3:n + 1 + (t ++ rws n (n + 1 + t.length) (v.parts[j]'hjl)).length=n + 1 + t.length + Tv.size (v.parts[j]'hjl):=by rw [List.length_append,X9];omega
  have hsum3:n + 1 + (t ++ rws n (n + 1 + t.length) (v.parts[j]'hjl)).length + ((v.parts.drop (j + 1)).map Tv.size).sum=n + v.size:=by omega

  refine⟨_,rfl,?_⟩;refine zn8 ?_;refine xv (v.parts.length - (j + 1)) oM agA ?_;exact⟨j + 1,(ks ++ [((n + 1 + t.length:Nat):Int)]),t ++ rws n (n + 1 + t.length) (v.parts[j]'hjl),R3,cap3,ys ++ zs,_,_,by omega,rfl,rfl,(by rw [e3];rfl),(by simp [hkl]),hsum3,hacc,hB,hb3,(by rw [e3,← List.append_assoc];exact ho),hoK,hRt.app hR3,hC,hA⟩
 have hje:j=v.parts.length:=by omega
 rw [hje,List.drop_length] at hacc hsum;simp only [List.map_nil,List.sum_nil,Nat.add_zero] at hsum;have hrw:rws up n v=hd v up ks :: t:=by rw [rws_acc,hacc];rfl
 refine ky ?_;rw [hrw];exact⟨R2,cap2,rwV (hd v up ks) A c K ck ++ ys,(by rw [← hsum];rfl),(by rw [← hsum,← List.append_assoc];exact ho),.cons hS (KidIn.own hoK rfl) (hRt.weak (fun g _ h=>h.1)),hC,hA⟩
theorem rows_any {w0:World}:∀ (k:Nat) (v:Tv),v.size < k→∀ (up:Int) (n:Nat) (vs:List Value) (A B R:Option Addr) (c m cap:Nat) (w:World),SimsIn w0 A v.tm.type.args→TmsIn w0 B v.tm.args→Bel w0 w→Own w w0.heap.size 153 7 R (n) cap (vs)→n + v.size≤1000→Calls Tryz.prog 89 #[.agg #[.int .i64 (Tv.tm (v)).kind,.string (Tv.tm (v)).name,.int .i64 (Tv.tm (v)).index,.string (Tv.tm (v)).type.base,.slice A (Tv.tm (v)).type.args.length c,.slice B (Tv.tm (v)).args.length m],.int .i64 (up),.slice R (n) cap] w fun e w'=>∃ (R':Option Addr) (cap':Nat) (zs:List Value),e= .returned (.slice R' (n + Tv.size (v)) cap')∧Own w' w0.heap.size 153 7 R' (n + Tv.size (v)) cap' (vs ++ zs)∧RwsIn w0 w' (fun g=>w.heap.size≤g) (rws (up) (n) (v)) zs∧ChG (fun g=>g ∈ aL R) w w'∧∀ g ∈ aL R',g ∈ aL R∨w.heap.size≤g:=by
  intro k
  induction k with
  | zero=>intro v h;omega
  | succ k ih=>exact fun v h up n vs A B R c m cap w h1 h2 h3 h4 h5=>rows_step h1 h2 h3 h4 h5 (fun x hx=>ih x oM)
theorem rows0_any (v:Tv) (A B:Option Addr) (c m:Nat) (w:World) (hS:SimsIn w A v.tm.type.args) (hT:TmsIn w B v.tm.args) (hl:v.size≤1000) (w1:World) (hB:Bel w w1):Calls Tryz.prog 89 #[.agg #[.int .i64 (Tv.tm (v)).kind,.string (Tv.tm (v)).name,.int .i64 (Tv.tm (v)).index,.string (Tv.tm (v)).type.base,.slice A (Tv.tm (v)).type.args.length c,.slice B (Tv.tm (v)).args.length m],.int .i64 (-1),.slice none (0) 0] w1 fun e w'=>(∃ (q cap:Nat) (zs:List Value),e= .returned (.slice (some ⟨q,0,none⟩) v.size cap)∧Own w' w.heap.size 153 7 (some ⟨q,0,none⟩) v.size cap zs∧RwsIn w w' (fun g=>w1.heap.size≤g) (rws (-1) 0 v) zs)∧Bel w1 w':=by
  refine(rows_any (w0:=w) _ v (Nat.lt_succ_self _) (-1) 0 [] A B none c m 0 w1 hS hT hB (Own.nil _ _ _ _) oM).mono ?_
  rintro e w' ⟨R,cap,zs,rfl,ho,hr,hc,_⟩
  rw [Nat.zero_add,List.nil_append] at ho;have hp:=v.pos;obtain⟨q,rfl,_,_⟩:=ho.cell (by intro e;have:=ho.len;rw [e] at this;simp at this;omega);exact⟨⟨q,cap,zs,by rw [Nat.zero_add],ho,hr⟩,Same.bel hc.same⟩
end Go.Proofs.YtbcpgfnfiekbiaaGreatDoor
namespace Go.Proofs.YtbcpgfnfiekbiaaGreatDoor
open Go.RowKit
set_option maxHeartbeats 1000000 in
theorem G3 {w0 wr w:World} {q n cap p i:Nat} {ls:List Rw} {r:Rw} {Γ:List Ts} {τ:Ts} (hrd:RdT w0 wr q ls) (hn:ls.length=n) (hBr:Bel wr w) (hql:q < wr.heap.size) (hr:ls[p]? =some r) (hri:r.index=(i:Int)) (_hup:r.up < (p:Int)) (hch:Chn ls r.up Γ) (hti:Γ[i]? =some τ) (hi1:i≤1000):Calls Tryz.prog 90 #[.slice (some ⟨q,0,none⟩) n cap,.int .i64 ((p:Nat):Int)] w fun e w'=>(∃ (u:Nat) (ru:Rw),e= .returned (.int .i64 ((u:Nat):Int))∧ls[u]? =some ru∧ru.typ=τ.sm)∧Bel w w':=by
 have hpl:=(List.getElem?_eq_some_iff.1 hr).1;obtain⟨A7,c7,K7,ck7,hrr,_,_,_⟩:=hrd p r hr;rw [hri] at hrr;refine enter Tryz.func90 Tryz.ntmps90 rfl (Nat.le_of_ble_eq_true rfl) (vq ?_);refine wl (qV (v:= .int _ _) U3 rfl rfl (hBr.cell hql (hrr 4 _ rfl))) (yv ?_);refine wl (qV (v:= .int _ _) U3 rfl rfl (hBr.cell hql (hrr 6 _ rfl))) (zn4 ?_);refine zW (rg [4,5,6] 17 18) (fun m g w'=>∃ (k:Nat) (z:Int) (Δ:List Ts),m=(z + 1).toNat∧k≤i∧g 5= .int .i64 k∧g 6= .int .i64 z∧w=w'∧Chn ls z Δ∧Δ[k]? =some τ) ((r.up + 1).toNat) ?_ (fun m g3 w1 hI=>?_)
 ·exact⟨i,r.up,Γ,rfl,Nat.le_refl _,rfl,rfl,rfl,hch,hti⟩
 obtain⟨k,z,Δ,hm,hki,h5,h6,rfl,hcz,hkz⟩:=hI;refine zZ 5 _ h5 nu (zZ 6 _ h6 nu (zn7 ?_));refine zX rfl (fun c18=>?_) (fun c18=>?_)
 ·obtain⟨u,rz,rfl,hru,hup2,hlow,hcase⟩:=chn_row hcz hkz;have hul:=(List.getElem?_eq_some_iff.1 hru).1;obtain⟨A8,c8,K8,ck8,hr8,_,_,_⟩:=hrd u rz hru;refine yv ?_;refine wl (qV (v:= .int _ _) U3 rfl rfl (hBr.cell hql (hr8 0 _ rfl))) (zn3 ?_);refine zX rfl (fun c29=>?_) (fun c29=>?_)
  ·have hq3:=hcase.resolve_right (fun h=>h.1 c29);clear hcase;obtain⟨_,hcase⟩:=hq3;refine zn7 ?_;refine zX rfl (fun c31=>?_) (fun c31=>?_)
   ·have hty:rz.typ=τ.sm:=by
      rcases hcase with ⟨_,h⟩ | ⟨k',hk',_⟩
      · exact h
      · omega
    refine ZX ?_;exact⟨⟨u,rz,rfl,hru,hty⟩,Below.refl _ _⟩
   obtain⟨k2,rfl,Δ2,hk2,hc2⟩:=hcase.resolve_left (fun h=>c31 (by rw [h.1];rfl));clear hcase;refine zn4 ?_;refine wl (j8 (c:=((k2:Nat):Int)) rfl rfl (show ((k2:Int) + 1) - 1=k2 from Int.add_sub_cancel _ _) oM) (zn9 ?_);refine wl (qV (v:= .int _ _) U3 rfl rfl (hBr.cell hql (hr8 6 _ rfl))) (zn2 ?_);refine xv ((rz.up + 1).toNat) oM agA ?_
   first
     | exact⟨k2,rz.up,Δ2,rfl,by omega,rfl,rfl,rfl,hc2,hk2⟩
     | exact⟨k,rz.up,Δ2,rfl,hki,rfl,rfl,rfl,hc2,hk2⟩
  obtain⟨_,Δ2,hk2,hc2⟩:=hcase.resolve_left (fun h=>c29 h.1);clear hcase;refine zn8 ?_;refine wl (qV (v:= .int _ _) U3 rfl rfl (hBr.cell hql (hr8 6 _ rfl))) (zn2 ?_);refine xv ((rz.up + 1).toNat) oM agA ?_
  first
    | exact⟨k2,rz.up,Δ2,rfl,by omega,rfl,rfl,rfl,hc2,hk2⟩
    | exact⟨k,rz.up,Δ2,rfl,hki,rfl,rfl,rfl,hc2,hk2⟩
 obtain⟨u,rz,rfl,_⟩:=chn_row hcz hkz;exact absurd (Int.natCast_nonneg u) c18
end Go.Proofs.YtbcpgfnfiekbiaaGreatDoor
