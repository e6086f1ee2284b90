/- The engine's third part: regions that draw their order, with intervals of blocks. What these functions of the program compute, at every world: glosswright/lexrule.Step. Many graphs are unified at once: the result is the least graph to which all map. No program in sight. What these functions of the program compute, at every world: . What these functions of the program compute, at every world: glosswright/lexrule.Mother, glosswright/grammar.Join. -/
import Derived.Test.YtdgnllfbooklcaaDoorGro
import Derived.Test.YtdgnllfbooklcaaDoorU
import Derived.Test.YtdgnllfbooklcaaDoorSim
import Derived.Test.YtdgnllfbooklcaaDoorEng9
import Derived.Test.YtdgnllfbooklcaaDoorOrd
import Derived.Test.YtdgnllfbooklcaaDoorTurn
import Derived.Test.YtdgnllfbooklcaaDoorLub
namespace Go.Proofs.YtdgnllfbooklcaaDoor
open Go.RowKit
section monoi
variable {P:Program} {Q:Exit→Act→World→Prop} {n:Nat} {f:Fr} {w:World}
def ivB (l:List Oper) (m:Nat) (ow:Nat→Nat):Bool:=(List.range m).all (fun i=>decide (ow i < m) && Nat.beq (ow (ow i)) (ow i) && (Nat.beq (ow i) i || (match l[i]? with | some o=>(yx o).any (fun j=>Nat.beq (ow j) (ow i)) | none=>false)))
def monoF (l:List Oper) (m:Nat) (S fl:List Nat):Bool:=
  (List.range m).all (fun i=>match l[i]? with
    | some o=>(match o.dst with | some d=>mem S d | none=>false) && (match o.guard with | none=>true | some (j,_)=>(yx o).contains j) && (yx o).all (fun j=>decide (j < i)) && (List.range m).all (fun j=>decide (i=j) || !(x8 l.toArray i == x8 l.toArray j))
    | none=>false) && decide (m≤l.length) &&
  (List.range l.length).all (fun i=>decide (i < m) || (match l[i]? with
    | some o=>(List.range m).all (fun j=>fl.contains j || (yx o).contains j)
    | none=>false))
def GQ:List Nat→List (List Nat)
  | []=>[[]]
  | a :: r=>GQ r ++ (GQ r).map (a :: ·)
theorem N6 (p:Nat→Bool):∀ F:List Nat,F.filter p ∈ GQ F
  | []=>by simp [GQ]
  | a :: r=>by
    have ih:=N6 p r
    cases h:p a with
    | true=>rw [List.filter_cons_of_pos h];exact List.mem_append_right _ (List.mem_map_of_mem ih)
    | false=>rw [List.filter_cons_of_neg (by simp [h])];exact List.mem_append_left _ ih
def FinAll (p:List Nat→Prop):List (List Nat)→Prop
  | []=>True
  | x :: r=>p x∧FinAll p r
theorem FinAll.get {p:List Nat→Prop}:∀ {xs:List (List Nat)},FinAll p xs→∀ x ∈ xs,p x
  | _ :: _,h,x,hx=>by
    rcases List.mem_cons.1 hx with rfl | hx
    · exact h.1
    · exact FinAll.get h.2 x hx
def W0 (k m:Nat) (U:List Nat):Array Bool:=Array.ofFn (n:=k) (fun i=>decide (i.val < m) && !U.contains i.val)
theorem B4 {l:List Oper} {x k k':Nat} {listed:Array Bool} (h:k=k') (K:WA P l Q (x + k') listed n f w):WA P l Q (x + k) listed n f w:=by rw [h];exact K
theorem kK {l:List Oper} {x:Nat} {listed:Array Bool} (t:Nat) (v:Value) (h:ev n f (.tmp t)=v) (hv:v≠undef) (K:WA P l Q x listed n (upd f t v) w):WA P l Q x listed n f w:=by
  rw [ky (Y7 h hv)] at K;exact K
theorem LQ {l:List Oper} {x:Nat} {listed listed':Array Bool} (h:listed=listed') (K:WA P l Q x listed' n f w):WA P l Q x listed n f w:=by rw [h];exact K
theorem c_monoF {id:Nat} {l:List Oper} (m:Nat) (S fl:List Nat) (ow:Nat→Nat) (R:Nat→Value→Nat→Nat→World→Prop) (hm:P.follows .mixedOrders=true) (hB:monoF l m S fl=true) (hI:ivB l m ow=true) (hF:(List.range m).filter (fun i=>fl.contains i)=fl)
    (hst:∀ i v a b w w',R i v a b w→b≤w.heap.size→Same [] w w'→R i v a b w')
    (step:∀ i o,i < m→l[i]? =some o→∀ f' w' (lo hi:Nat→Nat),Same [] w w'→Ag S f' f→(∀ j ∈ yx o,R j (f' (x8 l.toArray j)) (lo (ow j)) (hi (ow j)) w'∧hi (ow j)≤w'.heap.size)→(∀ j k,j ∈ yx o→k ∈ yx o→ow j≠ow k→hi (ow j)≤lo (ow k)∨hi (ow k)≤lo (ow j))→(Region.wanted o (yielded l.toArray (AF n f').tmps)=true→OS P n f' w' o (fun v w''=>Same [] w' w''∧R i v (bif Nat.beq (ow i) i then w'.heap.size else lo (ow i)) (bif Nat.beq (ow i) i then w''.heap.size else hi (ow i)) w''))∧(Region.wanted o (yielded l.toArray (AF n f').tmps)=false→R i undef (bif Nat.beq (ow i) i then w'.heap.size else lo (ow i)) (bif Nat.beq (ow i) i then w'.heap.size else hi (ow i)) w'))
    (fin:FinAll (fun U=>∀ x f' w' (lo hi:Nat→Nat),Same [] w w'→Ag S f' f→(∀ i,i < m→U.contains i=false→R i (f' (x8 l.toArray i)) (lo (ow i)) (hi (ow i)) w'∧hi (ow i)≤w'.heap.size)→(∀ i j,i < m→j < m→U.contains i=false→U.contains j=false→ow i≠ow j→hi (ow i)≤lo (ow j)∨hi (ow j)≤lo (ow i))→WA P l Q (x + (U.length + (l.length - m))) (W0 l.length m U) n f' w') (GQ fl)):WC P (.region id l.toArray true) Q n f w:=by
  unfold WC;refine wp_region_any hm ?_;simp only [monoF,Bool.and_eq_true,List.all_eq_true,List.mem_range,decide_eq_true_eq] at hB;obtain⟨⟨hh,hlen⟩,hl⟩:=hB;have hget:∀ i,i < m→∃ o d,l[i]? =some o∧o.dst=some d∧mem S d=true∧True∧(∀ j ∈ yx o,j < i)∧(∀ j,j < m→i≠j→x8 l.toArray i≠x8 l.toArray j)∧x8 l.toArray i=d:=by
    intro i hi;have h:=hh i hi;cases ho:l[i]? with
    | none=>simp [ho] at h
    | some o=>
      simp only [ho,Bool.and_eq_true] at h;obtain⟨⟨⟨h1,h2⟩,h3⟩,h4⟩:=h;cases hd:o.dst with
      | none=>simp [hd] at h1
      | some d=>
        simp only [hd] at h1;refine⟨o,d,rfl,hd,h1,trivial,fun j hj=>by simpa using List.all_eq_true.1 h3 j hj,fun j hj hne=>?_,by simp [x8,ho,hd]⟩;have:=List.all_eq_true.1 h4 j (List.mem_range.2 hj)
        simpa [hne] using this
  have hio:∀ i,i < m→ow i < m∧ow (ow i)=ow i∧(ow i=i∨∀ o,l[i]? =some o→∃ j ∈ yx o,ow j=ow i):=by
    intro i hi;have h:=List.all_eq_true.1 hI i (List.mem_range.2 hi);simp only [Bool.and_eq_true,Bool.or_eq_true,decide_eq_true_eq] at h;obtain⟨⟨h1,h2⟩,h3⟩:=h;refine⟨h1,Nat.eq_of_beq_eq_true h2,?_⟩;rcases h3 with h3 | h3
    · exact .inl (Nat.eq_of_beq_eq_true h3)
    · refine .inr (fun o ho=>?_)
      rw [ho] at h3;obtain⟨j,hj,hb⟩:=List.any_eq_true.1 h3;exact⟨j,hj,Nat.eq_of_beq_eq_true hb⟩
  have ready_of:∀ (listed:Array Bool) (i:Nat) (o:Oper),listed.size=l.length→l[i]? =some o→listed.getD i false=false→(∀ j ∈ yx o,listed.getD j false=true)→i ∈ Region.ready .any l.toArray listed:=by
    intro listed i o hs ho hn hd;have hi:i < l.length:=(List.getElem?_eq_some_iff.1 ho).1;simp only [Region.ready,List.mem_filter,List.mem_range,Bool.and_eq_true,Bool.not_eq_true'];refine⟨by simpa using hi,?_,?_⟩
    · simp only [Array.getD_eq_getD_getElem?] at hn ⊢
      have:i < listed.size:=by omega
      simp only [Array.getElem?_eq_getElem this,Option.getD_some] at hn ⊢;exact hn
    · simp only [List.getElem?_toArray,ho,Option.map_some,Option.getD_some]
      exact QQ hd
  have ready_inv:∀ (listed:Array Bool) (i:Nat),i ∈ Region.ready .any l.toArray listed→∃ o,l[i]? =some o∧listed.getD i false=false∧∀ j ∈ yx o,listed.getD j false=true:=by
    intro listed i hi;simp only [Region.ready,List.mem_filter,List.mem_range,Bool.and_eq_true,Bool.not_eq_true'] at hi;obtain⟨hi,hn,hd⟩:=hi;have hi':i < l.length:=by simpa using hi
    refine⟨l[i],List.getElem?_eq_getElem hi',?_,?_⟩
    · simp only [Array.getD_eq_getD_getElem?] at hn ⊢
      cases hq:listed[i]? with
      | none=>rfl
      | some b=>simpa [hq] using hn
    · simp only [List.getElem?_toArray,List.getElem?_eq_getElem hi',Option.map_some,Option.getD_some] at hd
      exact I8 hd
  have key:∀ (fuel:Nat) (listed:Array Bool) (f':Fr) (w':World) (lo hi:Nat→Nat),listed.size=l.length→Dn l listed→(∀ t,m≤t→listed.getD t false=false)→Same [] w w'→Ag S f' f→(∀ i,i < m→listed.getD i false=true→listed.getD (ow i) false=true∧R i (f' (x8 l.toArray i)) (lo (ow i)) (hi (ow i)) w'∧hi (ow i)≤w'.heap.size)→
      (∀ i j,i < m→j < m→ow i=i→ow j=j→i≠j→listed.getD i false=true→listed.getD j false=true→hi i≤lo j∨hi j≤lo i)→
      (List.range m).countP (fun i=>!listed.getD i false) + (l.length - m)≤fuel→wpAny P .any l.toArray Q fuel listed (AF n f') w':=by
    have fin_use:∀ (fuel:Nat) (listed:Array Bool) (f':Fr) (w':World) (lo hi:Nat→Nat),listed.size=l.length→(∀ t,m≤t→listed.getD t false=false)→Same [] w w'→Ag S f' f→(∀ i,i < m→listed.getD i false=true→listed.getD (ow i) false=true∧R i (f' (x8 l.toArray i)) (lo (ow i)) (hi (ow i)) w'∧hi (ow i)≤w'.heap.size)→
      (∀ i j,i < m→j < m→ow i=i→ow j=j→i≠j→listed.getD i false=true→listed.getD j false=true→hi i≤lo j∨hi j≤lo i)→
      (List.range m).countP (fun i=>!listed.getD i false) + (l.length - m)≤fuel→(∀ i,i < m→fl.contains i=false→listed.getD i false=true)→wpAny P .any l.toArray Q fuel listed (AF n f') w':=by
      intro fuel listed f' w' lo hi hs ht hsm hag hR hdis hc hbd;have hU:=fin.get _ (N6 (fun i=>!listed.getD i false) fl)
      generalize hUe:fl.filter (fun i=>!listed.getD i false)=U at hU
      have hmem:∀ i,i < m→(U.contains i=false ↔ listed.getD i false=true):=fun i hi=>by
        cases hl':listed.getD i false with
        | true=>
          simp only [iff_true];cases hq:U.contains i with
          | false=>rfl
          | true=>
            have h1:i ∈ U:=by simpa using hq
            rw [← hUe,List.mem_filter,hl'] at h1;exact absurd h1.2 (by simp)
        | false=>
          simp only [Bool.false_eq_true,iff_false,Bool.not_eq_false];have h1:fl.contains i=true:=by
            cases hq:fl.contains i with
            | true=>rfl
            | false=>rw [hbd i hi hq] at hl';cases hl'
          have h2:i ∈ U:=by
            rw [← hUe,List.mem_filter,hl'];exact⟨by simpa using h1,rfl⟩
          simpa using h2
      have hlst:listed=W0 l.length m U:=by
        apply Array.ext
        · simp [W0,hs]
        · intro i h1 h2
          have h3:listed[i]=listed.getD i false:=by simp [h1]
          simp only [W0,Array.getElem_ofFn];rw [h3];by_cases him:i < m
          · have h4:=hmem i him
            cases hl':listed.getD i false with
            | true=>rw [h4.2 hl'];simp [him]
            | false=>
              have h5:U.contains i=true:=by
                cases hq:U.contains i with
                | true=>rfl
                | false=>rw [h4.1 hq] at hl';cases hl'
              rw [h5];simp
          · rw [ht i om];simp [him]
      have hlen:U.length≤(List.range m).countP (fun i=>!listed.getD i false):=by
        rw [← hUe,← hF,List.filter_filter,← List.countP_eq_length_filter]
        exact List.countP_mono_left (fun x _ hx=>by
          simp only [Bool.and_eq_true] at hx
          exact hx.1)
      have hW:=hU (fuel - (U.length + (l.length - m))) f' w' lo hi hsm hag (fun i hi h=>(hR i hi ((hmem i hi).1 h)).2) (fun i j hi hj h1 h2 hne=>hdis (ow i) (ow j) (hio i hi).1 (hio j hj).1 (hio i hi).2.1 (hio j hj).2.1 hne (hR i hi ((hmem i hi).1 h1)).1 (hR j hj ((hmem j hj).1 h2)).1);rw [show fuel - (U.length + (l.length - m)) + (U.length + (l.length - m))=fuel by omega,← hlst] at hW;unfold WA at hW;exact hW
    intro fuel
    induction fuel with
    | zero=>
      intro listed f' w' lo hi hs hD ht hsm hag hR hdis hc;refine fin_use 0 listed f' w' lo hi hs ht hsm hag hR hdis hc (fun i hi _=>?_);have h0:(List.range m).countP (fun i=>!listed.getD i false)=0:=by omega
      rw [List.countP_eq_zero] at h0;have:=h0 i (List.mem_range.2 hi)
      simpa using this
    | succ fuel ih=>
      intro listed f' w' lo hi hs hD ht hsm hag hR hdis hc;by_cases hbd:∀ i,i < m→fl.contains i=false→listed.getD i false=true
      · exact fin_use (fuel + 1) listed f' w' lo hi hs ht hsm hag hR hdis hc hbd
      refine⟨fun hr=>?_,fun i hir=>?_⟩
      · -- something is ready
        exfalso
        have hall:∀ k,k≤m→∀ i,i < k→listed.getD i false=true:=by
          intro k
          induction k with
          | zero=>intro _ i hi;omega
          | succ k ihk=>
            intro hk i hi;have ihk':=ihk om;by_cases hik:i < k
            · exact ihk' i hik
            · have:i=k:=by omega
              subst this;cases hb:listed.getD i false with
              | true=>rfl
              | false=>
                obtain⟨o,d,ho,_,_,_,hd,_,_⟩:=hget i om;have:=ready_of listed i o hs ho hb (fun j hj=>ihk' j (hd j hj));rw [hr] at this;cases this
        exact hbd (fun i hi _=>hall m (Nat.le_refl _) i hi)
      · obtain⟨o,ho,hn,hd⟩:=ready_inv listed i hir
        have hil:i < l.length:=(List.getElem?_eq_some_iff.1 ho).1;unfold wpOp;simp only [List.getElem?_toArray,ho];by_cases him:i < m
        · obtain⟨o',d,ho',hdst,hSd,hg,hdl,hdd,hde⟩:=hget i him
          rw [ho] at ho';cases ho';have next:∀ v w'',Same [] w' w''→R i v (bif Nat.beq (ow i) i then w'.heap.size else lo (ow i)) (bif Nat.beq (ow i) i then w''.heap.size else hi (ow i)) w''→wpAny P .any l.toArray Q fuel (listed.setIfInBounds i true) (AF n (upd f' d v)) w'':=by
            intro v w'' hs1 hr1;have hself:upd f' d v (x8 l.toArray i)=v:=by rw [hde];simp [upd]
            have hother:∀ j,j < m→i≠j→upd f' d v (x8 l.toArray j)=f' (x8 l.toArray j):=fun j hj hij=>by
              have hne:=hdd j hj hij;rw [hde] at hne;simp only [upd];have:Nat.beq (x8 l.toArray j) d=false:=by
                cases hb:Nat.beq (x8 l.toArray j) d
                · rfl
                · exact absurd (Nat.eq_of_beq_eq_true hb).symm hne
              simp [this]
            have hli:∀ j,i≠j→(listed.setIfInBounds i true).getD j false=listed.getD j false:=fun j hij=>by
              simp only [Array.getD_eq_getD_getElem?,Array.getElem?_setIfInBounds_ne hij]
            refine ih _ _ _ (fun k=>if k=i then w'.heap.size else lo k) (fun k=>if k=i then w''.heap.size else hi k) (by simpa using hs) (hD.set om ho hd) ?_ (hsm.trans hs1) (JV hSd hag) ?_ ?_ ?_
            · intro t hmt
              have:i≠t:=by omega
              rw [hli t this];exact ht t hmt
            · intro j hj hl'
              by_cases hij:i=j
              · subst hij
                rw [hself];rcases(hio i hj).2.2 with he | he
                · rw [he]
                  simp only [if_true];rw [he] at hr1;simp only [show Nat.beq i i=true from Nat.beq_refl i,cond_true] at hr1;exact⟨hl',hr1,Nat.le_refl _⟩
                · by_cases he2:ow i=i
                  · rw [he2]
                    simp only [if_true];rw [he2] at hr1;simp only [show Nat.beq i i=true from Nat.beq_refl i,cond_true] at hr1;exact⟨hl',hr1,Nat.le_refl _⟩
                  · have hb:Nat.beq (ow i) i=false:=by
                      cases hb:Nat.beq (ow i) i
                      · rfl
                      · exact absurd (Nat.eq_of_beq_eq_true hb) he2
                    simp only [hb,cond_false] at hr1;simp only [if_neg he2];obtain⟨k,hk,hke⟩:=he o ho;obtain⟨h1,_,h3⟩:=hR k (Nat.lt_trans (hdl k hk) him) (hd k hk);rw [hke] at h1 h3;exact⟨by rw [hli _ (fun h=>he2 h.symm)];exact h1,hr1,nLT h3 hs1.size⟩
              · have hji:¬j=i:=fun h=>hij h.symm
                rw [hother j hj hij];rw [hli j hij] at hl';obtain⟨h1,h2,h3⟩:=hR j hj hl';have hoi:¬ow j=i:=fun h=>by rw [h,hn] at h1;cases h1
                simp only [if_neg hoi];exact⟨by rw [hli _ (fun h=>hoi h.symm)];exact h1,hst j _ _ _ _ _ h2 h3 hs1,nLT h3 hs1.size⟩
            · intro j k hj hk hoj hok hjk hlj hlk
              by_cases hij:i=j
              · subst hij
                have hki:¬k=i:=fun h=>hjk h.symm
                rw [hli k hjk] at hlk;have h4:=(hR k hk hlk).2.2;rw [hok] at h4;simp only [if_true,if_neg hki];exact .inr h4
              · have hji:¬j=i:=fun h=>hij h.symm
                rw [hli j hij] at hlj;by_cases hik:i=k
                · subst hik
                  have h4:=(hR j hj hlj).2.2;rw [hoj] at h4;simp only [if_true,if_neg hji];exact .inl h4
                · have hki:¬k=i:=fun h=>hik h.symm
                  rw [hli k hik] at hlk;simp only [if_neg hji,if_neg hki];exact hdis j k hj hk hoj hok hjk hlj hlk
            · have hlt:=jz (p:=fun i=>!listed.getD i false) (q:=fun k=>!(listed.setIfInBounds i true).getD k false) (fun x hx=>by
                by_cases hix:i=x
                · subst hix;simp [hn]
                · rw [hli x hix] at hx;exact hx) (List.range m) i (List.mem_range.2 him) (by simp [hn]) (by
                  have:i < listed.size:=by omega
                  simp [this])
              omega
          have hstep:=step i o him ho f' w' lo hi hsm hag (fun j hj=>(hR j (Nat.lt_trans (hdl j hj) him) (hd j hj)).2) (fun j k hj hk hne=>hdis (ow j) (ow k) (hio j (Nat.lt_trans (hdl j hj) him)).1 (hio k (Nat.lt_trans (hdl k hk) him)).1 (hio j (Nat.lt_trans (hdl j hj) him)).2.1 (hio k (Nat.lt_trans (hdl k hk) him)).2.1 hne (hR j (Nat.lt_trans (hdl j hj) him) (hd j hj)).1 (hR k (Nat.lt_trans (hdl k hk) him) (hd k hk)).1);by_cases hwt:Region.wanted o (yielded l.toArray (AF n f').tmps)=true
          · rw [if_pos hwt]
            left
            have hst1:=hstep.1 hwt;unfold OS at hst1;refine hst1 _ _ ?_
            rintro v w'' ⟨hs1,hr1⟩
            rw [hdst,kJ];exact next v w'' hs1 hr1
          · rw [if_neg hwt,hdst,kJ]
            exact next undef w' (Same.refl _ _) (hstep.2 (by simpa using hwt))
        · -- the tail
          exfalso
          refine hbd (fun j hj hfj=>?_);have h1:=hl i hil;simp only [decide_eq_false him,Bool.false_or,ho] at h1;have h2:=List.all_eq_true.1 h1 j (List.mem_range.2 hj);rw [hfj,Bool.false_or] at h2;exact hd j (by simpa using h2)
  have h0:=key l.length (Array.replicate l.length false) f { w with drawn:=w.drawn + 1 } (fun _=>0) (fun _=>0) (by simp) (fun j o _ h=>by
    simp only [Array.getD_eq_getD_getElem?,Array.getElem?_replicate] at h
    split at h <;> cases h) (fun t _=>by
    simp only [Array.getD_eq_getD_getElem?,Array.getElem?_replicate];split <;> rfl) (Same.drew w 1) QX (fun i hi h=>by
    simp only [Array.getD_eq_getD_getElem?,Array.getElem?_replicate] at h
    split at h <;> cases h) (fun i j hi hj _ _ hne h=>by
    simp only [Array.getD_eq_getD_getElem?,Array.getElem?_replicate] at h
    split at h <;> cases h) (by
      have:=List.countP_le_length (p:=fun i=>!(Array.replicate l.length false).getD i false) (l:=List.range m);simp only [List.length_range] at this
      omega)
  simpa using h0
theorem R6 {id:Nat} {l:List Oper} (m:Nat) (S fl:List Nat) (ow:Nat→Nat) (R:Nat→Value→Nat→Nat→World→Prop) (hm:P.follows .mixedOrders=true) (hB:monoF l m S fl=true) (hI:ivB l m ow=true) (hF:(List.range m).filter (fun i=>fl.contains i)=fl)
    (hst:∀ i v a b w1 w2,R i v a b w1→b≤w1.heap.size→Same [] w1 w2→R i v a b w2)
    (step:∀ i o,i < m→l[i]? =some o→∀ g w' (lo hi:Nat→Nat),Same [] w w'→(∀ j ∈ yx o,R j (g (x8 l.toArray j)) (lo (ow j)) (hi (ow j)) w'∧hi (ow j)≤w'.heap.size)→(∀ j k,j ∈ yx o→k ∈ yx o→ow j≠ow k→hi (ow j)≤lo (ow k)∨hi (ow k)≤lo (ow j))→(Region.wanted o (yielded l.toArray (AF n (ovr S g f)).tmps)=true→OS P n (ovr S g f) w' o (fun v w''=>Same [] w' w''∧R i v (bif Nat.beq (ow i) i then w'.heap.size else lo (ow i)) (bif Nat.beq (ow i) i then w''.heap.size else hi (ow i)) w''))∧(Region.wanted o (yielded l.toArray (AF n (ovr S g f)).tmps)=false→R i undef (bif Nat.beq (ow i) i then w'.heap.size else lo (ow i)) (bif Nat.beq (ow i) i then w'.heap.size else hi (ow i)) w'))
    (fin:FinAll (fun U=>∀ x g w' (lo hi:Nat→Nat),Same [] w w'→(∀ i,i < m→U.contains i=false→R i (g (x8 l.toArray i)) (lo (ow i)) (hi (ow i)) w'∧hi (ow i)≤w'.heap.size)→(∀ i j,i < m→j < m→U.contains i=false→U.contains j=false→ow i≠ow j→hi (ow i)≤lo (ow j)∨hi (ow j)≤lo (ow i))→WA P l Q (x + (U.length + (l.length - m))) (W0 l.length m U) n (ovr S g f) w') (GQ fl)):WC P (.region id l.toArray true) Q n f w:=by
  have hmap:∀ xs:List (List Nat),FinAll (fun U=>∀ x g w' (lo hi:Nat→Nat),Same [] w w'→(∀ i,i < m→U.contains i=false→R i (g (x8 l.toArray i)) (lo (ow i)) (hi (ow i)) w'∧hi (ow i)≤w'.heap.size)→(∀ i j,i < m→j < m→U.contains i=false→U.contains j=false→ow i≠ow j→hi (ow i)≤lo (ow j)∨hi (ow j)≤lo (ow i))→WA P l Q (x + (U.length + (l.length - m))) (W0 l.length m U) n (ovr S g f) w') xs→
      FinAll (fun U=>∀ x f' w' (lo hi:Nat→Nat),Same [] w w'→Ag S f' f→(∀ i,i < m→U.contains i=false→R i (f' (x8 l.toArray i)) (lo (ow i)) (hi (ow i)) w'∧hi (ow i)≤w'.heap.size)→(∀ i j,i < m→j < m→U.contains i=false→U.contains j=false→ow i≠ow j→hi (ow i)≤lo (ow j)∨hi (ow j)≤lo (ow i))→WA P l Q (x + (U.length + (l.length - m))) (W0 l.length m U) n f' w') xs:=by
    intro xs
    induction xs with
    | nil=>exact fun _=>trivial
    | cons U r ih=>
      exact fun h=>⟨fun x f' w' lo hi hs hag hR hdis=>by
        have:=h.1 x f' w' lo hi hs hR hdis
        rwa [← ov hag] at this,ih h.2⟩
  refine c_monoF m S fl ow R hm hB hI hF hst (fun i o hi ho f' w' lo hi' hs hag hd hdis=>?_) (hmap _ fin);have:=step i o hi ho f' w' lo hi' hs hd hdis
  rwa [← ov hag] at this
end monoi
def Kept (lo hi:Nat) (w:World) (p:World→Prop):Prop:=hi≤w.heap.size∧∀ w2:World,hi≤w2.heap.size→(∀ b,lo≤b→b < hi→w2.heap[b]? =w.heap[b]?)→p w2
theorem Kept.now {lo hi:Nat} {w:World} {p:World→Prop} (h:Kept lo hi w p):p w:=h.2 w h.1 (fun _ _ _=>rfl)
theorem Kept.tr {lo hi:Nat} {w w':World} {p:World→Prop} {X:List Nat} (h:Kept lo hi w p) (hs:Same X w w') (hx:∀ g ∈ X,g < lo∨hi≤g):Kept lo hi w' p:=
  ⟨nLT h.1 hs.size,fun w2 h2 hb=>h.2 w2 h2 (fun b h3 h4=>(hb b h3 h4).trans (hs.blk b (nLL h4 h.1) (fun hX=>by rcases hx b hX with h5 | h5 <;> omega)))⟩
theorem Kept.tr0 {lo hi:Nat} {w w':World} {p:World→Prop} (h:Kept lo hi w p) (hs:Same [] w w'):Kept lo hi w' p:=h.tr hs (by simp)
theorem Kept.tr1 {lo hi b:Nat} {w w':World} {p:World→Prop} (h:Kept lo hi w p) (hs:Same [b] w w') (hx:b < lo∨hi≤b):Kept lo hi w' p:=h.tr hs (fun g hg=>by rw [List.mem_singleton.1 hg];exact hx)
theorem Kept.imp {lo hi:Nat} {w:World} {p q:World→Prop} (h:Kept lo hi w p) (k:∀ w2,p w2→q w2):Kept lo hi w q:=⟨h.1,fun w2 h2 hb=>k w2 (h.2 w2 h2 hb)⟩
end Go.Proofs.YtdgnllfbooklcaaDoor
namespace Go.Proofs.YtdgnllfbooklcaaDoor
open Go.RowKit
def LW (l:List Ty) (ga gb:List Nd) (f:Int) (ok:Bool) (X:List Nd):Prop:=
  (ok=true∧VX l (vy ga gb) [((plc ga f).toNat,ga.length)] X∧X.length≤60)∨(ok=false∧BadU l (vy ga gb) [((plc ga f).toNat,ga.length)])
def Zj (l:List Ty) (U:List Nd) (J:List (Nat×Nat)) (ok:Bool) (X:List Nd):Prop:=(ok=true∧VX l U J X)∨(ok=false∧X= []∧¬DQ l U J)
theorem into_det {l:List Ty} {ga gb:List Nd} {j:Nat} (hga:GX l ga) (hgb:GX l gb) (hj:j < ga.length):∃ ok X,∀ ok' X',Zj l (vy ga gb) [(j,ga.length)] ok' X'→ok'=ok∧X'=X∧Zj l (vy ga gb) [(j,ga.length)] ok X:=by
  by_cases h:∃ X,VX l (vy ga gb) [(j,ga.length)] X
  · obtain⟨X,hX⟩:=h
    refine⟨true,X,fun ok' X' h'=>?_⟩;rcases h' with ⟨rfl,k⟩ | ⟨_,_,k⟩
    · exact⟨rfl,Ek hga hgb hj k hX,.inl ⟨rfl,hX⟩⟩
    · exact absurd (PY hga hgb hj hX) k
  · refine⟨false,[],fun ok' X' h'=>?_⟩
    rcases h' with ⟨_,k⟩ | ⟨rfl,rfl,k⟩
    · exact absurd ⟨_,k⟩ h
    · exact⟨rfl,rfl,.inr ⟨rfl,rfl,k⟩⟩
theorem Hk {l:List Ty} {ga gb X:List Nd} {f:Int} {ok:Bool} (hga:GX l ga) (hgb:GX l gb) (hj:(plc ga f).toNat < ga.length) (h:Zj l (vy ga gb) [((plc ga f).toNat,ga.length)] ok X):LW l ga gb f (ok && decide (((X.length:Nat):Int)≤60)) X:=by
  rcases h with ⟨rfl,h⟩ | ⟨rfl,_,h⟩
  · by_cases e:X.length≤60
    · exact .inl ⟨by simp;omega,h,e⟩
    · exact .inr ⟨by simp;omega,.inr ⟨X,h,by omega⟩⟩
  · exact .inr ⟨rfl,.inl h⟩
theorem plc_at {l:List Ty} {fs:List Ft} {m f:Int} {g:List Nd} (h:Jok l fs m g) (h0:0≤f) (hm:f≤m):(tgt (g[0]'h.v.gx.pos).ln f)=(((plc g f).toNat:Nat):Int):=by
  have:=h.p f h0 hm;rw [← yy h.v.gx.pos];unfold plc at this ⊢;omega
theorem QZ {lo hi B:Nat} {w:World} {p:World→Prop} (h:Kept lo hi w p) (hb:B≤lo):∀ w2,FrSame B w w2→p w2:=fun w2 hf=>h.2 w2 (nLT h.1 hf.1) (fun b h1 h2=>hf.2 b (nLT hb h1) (nLL h2 h.1))
theorem jQ {B:Nat} {w:World} {p:World→Prop} (h:∀ w2,FrSame B w w2→p w2):Kept B w.heap.size w p:=⟨Nat.le_refl _,fun w2 hs hb=>h w2 ⟨hs,fun k h1 h2=>hb k h1 h2⟩⟩
theorem step_yes {l:List Ty} {ga gb X:List Nd} {f:Int} {ok:Bool} (h:LW l ga gb f ok X) (hk:ok=true):VX l (vy ga gb) [((plc ga f).toNat,ga.length)] X∧X.length≤60:=by
  rcases h with ⟨_,a,b⟩ | ⟨e,_⟩
  · exact⟨a,b⟩
  · rw [hk] at e;cases e
theorem step_no {l:List Ty} {ga gb X:List Nd} {f:Int} {ok:Bool} (h:LW l ga gb f ok X) (hk:ok=false):BadU l (vy ga gb) [((plc ga f).toNat,ga.length)]:=by
  rcases h with ⟨e,_⟩ | ⟨_,a⟩
  · rw [hk] at e;cases e
  · exact a
set_option maxRecDepth 100000 in
set_option maxHeartbeats 4000000 in
theorem step_any {bu bd c1 c2:Nat} {G1 G2:Option Addr} {l:List Ty} {fs:List Ft} {ga gb:List Nd} {f m:Int} (w:World) (hTab:TabIn w) (hTI:TableIn w l bu bd) (hG1:NodesIn w G1 ga) (hG2:NodesIn w G2 gb) (ha:Jok l fs m ga) (hb:GV l fs gb) (hf0:0≤f) (hfm:f≤m):Calls Tryd.prog 53 #[.agg #[.slice (some ⟨bu,0,none⟩) l.length l.length,.slice (some ⟨bd,0,none⟩) l.length l.length],.agg #[.slice G1 ga.length c1],.int .i64 f,.agg #[.slice G2 gb.length c2]] w fun e w'=>(∃ A X ok,e= .returned (.tuple #[.agg #[.slice A (List.length X) X.length],.bool ok])∧(∀ w2,FrSame w.heap.size w' w2→NodesIn w2 A X)∧LW l ga gb f ok X)∧Bel w w':=by
 have hjl:=ha.lt hf0 hfm;have h0l:=ha.v.gx.pos;obtain⟨okI,XI,hdet⟩:=into_det ha.v.gx hb.gx hjl;have hpa:=plc_at ha hf0 hfm;refine enter Tryd.func53 Tryd.ntmps53 rfl (Nat.le_of_ble_eq_true rfl) ?_;have hB:Bel w w:=Below.refl _ _;refine zn2 ?_;refine xz (v:= .agg #[_,_]) (cs:=#[_,_]) rfl rfl (fun b4 w1 hb4 s1 hr=>?_);have lo4:=nLT (Bel.size hB) hr;refine xz (v:= .agg #[_]) (cs:=#[_]) rfl rfl (fun b5 w2 hb5 s2 hr=>?_);have:=nLL hb4.lt hr;replace hB:=hB.tr0 s1;have lo5:=nLT (Bel.size hB) hr;refine xz (v:= .agg #[_]) (cs:=#[_]) rfl rfl (fun b7 w3 hb7 s3 hr=>?_);replace hb4:=hb4.tr0 s2;have:=nLL hb4.lt hr;have:=nLL hb5.lt hr;replace hB:=hB.tr0 s2;have lo7:=nLT (Bel.size hB) hr;refine qw (cs:=#[.slice none 0 0]) vX rfl (fun b8 w4 hb8 s4 hr=>?_);replace hb4:=hb4.tr0 s3;have:=nLL hb4.lt hr;replace hb5:=hb5.tr0 s3;have:=nLL hb5.lt hr;have:=nLL hb7.lt hr;replace hB:=hB.tr0 s3;have lo8:=nLT (Bel.size hB) hr;refine zn4 ?_;replace hB:=hB.tr0 s4;have hsz:=Bel.size hB;replace hb4:=hb4.tr0 s4;have z4:=hb4.lt;replace hb5:=hb5.tr0 s4;have z5:=hb5.lt;replace hb7:=hb7.tr0 s4;have z7:=hb7.lt;have z8:=hb8.lt;refine yz [10,11,12,13,14,15,16,17,18,19,20,21] (fun g w'=>∃ (b10:Nat) (AZ:Option Addr) (lz hz:Nat),g 10= .pointer (some ⟨b10,0,none⟩)∧g 11= .bool okI∧Bel w w'∧Blk w' b10 30 #[.slice AZ (List.length XI) XI.length]∧(∃ z,Blk w' b8 30 #[z])∧b8≠b10∧Kept lz hz w' (fun wq=>NodesIn wq AZ XI)∧w.heap.size≤lz∧b8 < lz∧Zj l (vy ga gb) [((plc ga f).toNat,ga.length)] okI XI) ?_ (fun g1 w5 hI=>?_)
 ·refine R6 11 [13,14,15,16,17,18,19,12,20,21,10] [9] (fun ix=>bif Nat.beq ix 7 then 6 else bif Nat.beq ix 8 then 6 else ix) (fun ix v la ha wv=>match ix with | 0=>v= .agg #[.slice (some ⟨bu,0,none⟩) l.length l.length,.slice (some ⟨bd,0,none⟩) l.length l.length] | 1=>v= .agg #[.slice G1 ga.length c1] | 2=>v= .agg #[.slice G1 ga.length c1] | 3=>v= .int .i64 f | 4=>v= .int .i64 (((plc ga f).toNat:Nat):Int) | 5=>v= .agg #[.slice G2 gb.length c2] | 6=>∃ AZ,v= .tuple #[.agg #[.slice AZ (List.length XI) XI.length],.bool okI]∧Kept la ha wv (fun wq=>NodesIn wq AZ XI)∧w4.heap.size≤la∧Zj l (vy ga gb) [((plc ga f).toNat,ga.length)] okI XI | 7=>∃ AZ,v= .tuple #[.agg #[.slice AZ (List.length XI) XI.length],.bool okI]∧Kept la ha wv (fun wq=>NodesIn wq AZ XI)∧w4.heap.size≤la∧Zj l (vy ga gb) [((plc ga f).toNat,ga.length)] okI XI | 8=>∃ AZ,v= .agg #[.slice AZ (List.length XI) XI.length]∧Kept la ha wv (fun wq=>NodesIn wq AZ XI)∧w4.heap.size≤la∧Zj l (vy ga gb) [((plc ga f).toNat,ga.length)] okI XI | 9=>v= .bool okI | 10=>∃ b,v= .pointer (some ⟨b,0,none⟩)∧w4.heap.size≤b∧Blk wv b 30 #[.slice none 0 0]∧la≤b∧b < ha | _=>True) kR kR kR kR ?_ ?_ ?_
  ·intro ix v la ha wv wv2 h hle s5
   match ix,h with
   | 0,h=>exact h
   | 1,h=>exact h
   | 2,h=>exact h
   | 3,h=>exact h
   | 4,h=>exact h
   | 5,h=>exact h
   | 6,h=>
    obtain⟨AZ,e19,hNZ,hla,hIS⟩:=(show ∃ AZ,v= .tuple #[.agg #[.slice AZ (List.length XI) XI.length],.bool okI]∧Kept la ha wv (fun wq=>NodesIn wq AZ XI)∧w4.heap.size≤la∧Zj l (vy ga gb) [((plc ga f).toNat,ga.length)] okI XI from h)
    exact⟨AZ,e19,hNZ.tr0 s5,hla,hIS⟩
   | 7,h=>
    obtain⟨AZ7,e12,hN7,hla7,hIS7⟩:=(show ∃ AZ,v= .tuple #[.agg #[.slice AZ (List.length XI) XI.length],.bool okI]∧Kept la ha wv (fun wq=>NodesIn wq AZ XI)∧w4.heap.size≤la∧Zj l (vy ga gb) [((plc ga f).toNat,ga.length)] okI XI from h)
    exact⟨AZ7,e12,hN7.tr0 s5,hla7,hIS7⟩
   | 8,h=>
    obtain⟨AZ,e20,hNZ,hla,hIS⟩:=(show ∃ AZ,v= .agg #[.slice AZ (List.length XI) XI.length]∧Kept la ha wv (fun wq=>NodesIn wq AZ XI)∧w4.heap.size≤la∧Zj l (vy ga gb) [((plc ga f).toNat,ga.length)] okI XI from h)
    exact⟨AZ,e20,hNZ.tr0 s5,hla,hIS⟩
   | 9,h=>exact h
   | 10,h=>
    obtain⟨b10,e10,lo10,hb10,la10,ha10⟩:=(show ∃ b,v= .pointer (some ⟨b,0,none⟩)∧w4.heap.size≤b∧Blk wv b 30 #[.slice none 0 0]∧la≤b∧b < ha from h)
    exact⟨b10,e10,lo10,hb10.tr0 s5,la10,ha10⟩
   | _ + 11,h=>exact trivial
  ·intro ix o hix hoq gg wx lo hi s6 hd hdis
   match ix,hix,hoq with
   | 0,_,hoq=>
    cases sI hoq;refine gdA ?_;replace hb4:=hb4.tr0 s6;refine qQ (qW U86 rfl rfl hb4.range0 Jv) ⟨Same.refl _ _,?_⟩;exact rfl
   | 1,_,hoq=>
    cases sI hoq;refine gdA ?_;replace hb5:=hb5.tr0 s6;refine qQ (qW U30 rfl rfl hb5.range0 qx) ⟨Same.refl _ _,?_⟩;exact rfl
   | 2,_,hoq=>
    cases sI hoq;refine gdA ?_;replace hb5:=hb5.tr0 s6;refine qQ (qW U30 rfl rfl hb5.range0 qx) ⟨Same.refl _ _,?_⟩;exact rfl
   | 3,_,hoq=>
    cases sI hoq;refine gdA ?_;refine qQ (x5 (v:= .int _ _) rfl) ⟨Same.refl _ _,?_⟩;exact rfl
   | 4,_,hoq=>
    cases sI hoq;have d2:gg 15= .agg #[.slice G1 ga.length c1]:=(hd 2 (zj kR)).1;have e15:=d2;have d3:gg 16= .int .i64 f:=(hd 3 (zj kR)).1;have e16:=d3;refine gdA (zq 15 _ e15 nu (zq 16 _ e16 nu ?_));replace hB:=hB.tr0 s6;refine yw fn59 (Jj G1 c1 fs.length ga 0 f wx (hG1.mono hB) h0l (Vw ha.v.lo 0 h0l) (by have:=ha.v.gok.few 0 h0l;have:=ha.v.few;omega)) rfl (fun e' w2 hr=>?_);obtain⟨rfl,s7⟩:=hr;exact⟨_,rfl,sB s7,(congrArg (Value.int .i64) hpa)⟩
   | 5,_,hoq=>
    cases sI hoq;refine gdA ?_;replace hb7:=hb7.tr0 s6;refine qQ (qW U30 rfl rfl hb7.range0 qx) ⟨Same.refl _ _,?_⟩;exact rfl
   | 6,_,hoq=>
    cases sI hoq;have hs0:=s6;have d0:gg 13= .agg #[.slice (some ⟨bu,0,none⟩) l.length l.length,.slice (some ⟨bd,0,none⟩) l.length l.length]:=(hd 0 (zj kR)).1;have e13:=d0;have d1:gg 14= .agg #[.slice G1 ga.length c1]:=(hd 1 (zj kR)).1;have e14:=d1;have d4:gg 17= .int .i64 (((plc ga f).toNat:Nat):Int):=(hd 4 (zj kR)).1;have e17:=d4;have d5:gg 18= .agg #[.slice G2 gb.length c2]:=(hd 5 (zj kR)).1;have e18:=d5;refine gdA (zq 13 _ e13 nu (zq 14 _ e14 nu (zq 17 _ e17 nu (zq 18 _ e18 nu ?_))));replace hB:=hB.tr0 s6;refine yw fn37 (into_any (nf:=fs.length) wx (hTab.mono hB) (hTI.mono hB) ha.v.s (hG1.mono hB) (hG2.mono hB) ha.v.gok hb.gok ha.v.gx.toGY hb.gx.toGY (by have:=ha.v.few;omega) hjl) rfl (fun e' w2 hr=>?_);obtain⟨⟨A9,X9,ok9,rfl,hN9,hI9⟩,s8⟩:=hr;exact⟨_,rfl,sB s8,(by obtain⟨e1,e2,e3⟩:=hdet ok9 X9 hI9;subst e1 e2;exact⟨A9,rfl,jQ hN9,hs0.size,e3⟩)⟩
   | 7,_,hoq=>
    cases sI hoq;have d6:∃ AZ,gg 19= .tuple #[.agg #[.slice AZ (List.length XI) XI.length],.bool okI]∧Kept (lo 6) (hi 6) wx (fun wq=>NodesIn wq AZ XI)∧w4.heap.size≤(lo 6)∧Zj l (vy ga gb) [((plc ga f).toNat,ga.length)] okI XI:=(hd 6 (zj kR)).1;obtain⟨AZ,e19,hNZ,hla,hIS⟩:=d6;refine gdA (zq 19 _ e19 nu ?_);refine qQ (x5 (v:= .tuple _) rfl) ⟨Same.refl _ _,?_⟩;exact⟨_,rfl,hNZ,hla,hIS⟩
   | 8,_,hoq=>
    cases sI hoq;have d7:∃ AZ,gg 12= .tuple #[.agg #[.slice AZ (List.length XI) XI.length],.bool okI]∧Kept (lo 6) (hi 6) wx (fun wq=>NodesIn wq AZ XI)∧w4.heap.size≤(lo 6)∧Zj l (vy ga gb) [((plc ga f).toNat,ga.length)] okI XI:=(hd 7 (zj kR)).1;obtain⟨AZ7,e12,hN7,hla7,hIS7⟩:=d7;refine gdA (zq 12 _ e12 nu ?_);refine qQ (yk (v:=_) rfl rfl) ⟨Same.refl _ _,?_⟩;exact⟨_,rfl,hN7,hla7,hIS7⟩
   | 9,_,hoq=>
    cases sI hoq;have d7:∃ AZ,gg 12= .tuple #[.agg #[.slice AZ (List.length XI) XI.length],.bool okI]∧Kept (lo 6) (hi 6) wx (fun wq=>NodesIn wq AZ XI)∧w4.heap.size≤(lo 6)∧Zj l (vy ga gb) [((plc ga f).toNat,ga.length)] okI XI:=(hd 7 (zj kR)).1;obtain⟨AZ7,e12,hN7,hla7,hIS7⟩:=d7;refine gdA (zq 12 _ e12 nu ?_);refine qQ (yk (v:=_) rfl rfl) ⟨Same.refl _ _,?_⟩;exact rfl
   | 10,_,hoq=>
    cases sI hoq;have hs0:=s6;refine gdA ?_;refine vK (fun ops Q K=>?_);refine qw (cs:=#[.slice none 0 0]) vX rfl (fun b10 w6 hb10 s9 hr=>?_);exact K _ _ ⟨s9,⟨_,rfl,nLT hs0.size hr,hb10,hr,hb10.lt⟩⟩
   | _ + 11,hix,_=>exact absurd hix om
  refine⟨?_,?_,trivial⟩
  ·intro x gg w7 lo hi s10 hR hdis;have d7:∃ AZ,gg 12= .tuple #[.agg #[.slice AZ (List.length XI) XI.length],.bool okI]∧Kept (lo 6) (hi 6) w7 (fun wq=>NodesIn wq AZ XI)∧w4.heap.size≤(lo 6)∧Zj l (vy ga gb) [((plc ga f).toNat,ga.length)] okI XI:=(hR 7 dE dE).1;obtain⟨AZ7,e12,hN7,hla7,hIS7⟩:=d7;have d8:∃ AZ,gg 20= .agg #[.slice AZ (List.length XI) XI.length]∧Kept (lo 6) (hi 6) w7 (fun wq=>NodesIn wq AZ XI)∧w4.heap.size≤(lo 6)∧Zj l (vy ga gb) [((plc ga f).toNat,ga.length)] okI XI:=(hR 8 dE dE).1;obtain⟨AZ,e20,hNZ,hla,hIS⟩:=d8;have d9:gg 21= .bool okI:=(hR 9 dE dE).1;have e21:=d9;have d10:∃ b,gg 10= .pointer (some ⟨b,0,none⟩)∧w4.heap.size≤b∧Blk w7 b 30 #[.slice none 0 0]∧(lo 10)≤b∧b < (hi 10):=(hR 10 dE dE).1;obtain⟨b10,e10,lo10,hb10,la10,ha10⟩:=d10;have dis_6_10:(hi 6)≤(lo 10)∨(hi 10)≤(lo 6):=hdis 6 10 dE dE dE dE dE;have:=nLL z4 lo10;have:=nLL z5 lo10;have:=nLL z7 lo10;have:=nLL z8 lo10;replace lo10:=nLT hsz lo10;have hz8:b8 < (lo 6):=nLL z8 hla;refine kK 12 (.tuple #[.agg #[.slice AZ7 (List.length XI) XI.length],.bool okI]) e12 nu (kK 20 (.agg #[.slice AZ (List.length XI) XI.length]) e20 nu (kK 21 (.bool okI) e21 nu (kK 10 (.pointer (some ⟨b10,0,none⟩)) e10 nu (B4 (k':=2) kR (LQ (listed':=#[true,true,true,true,true,true,true,true,true,true,true,false,false]) kR ?_)))));refine Bz [11] kR rfl ⟨fun o hoq=>?_,trivial⟩;cases sI hoq;refine zk hb10 rfl rfl qx rfl zK (fun w8 hq s11=>?_);replace hb10:=hq;refine zW (e_A (listed':=#[true,true,true,true,true,true,true,true,true,true,true,true,false]) (by rfl) (a_tk 12 rfl (fun _=>kQ (v:= .bool _) rfl) (LV kR ?_)));refine e_R ⟨agA,?_⟩;replace hB:=(hB.tr0 s10).tr1 s11 lo10;replace hb8:=(hb8.tr0 s10).tr1 s11 om;replace hNZ:=hNZ.tr1 s11 om;exact⟨b10,AZ,_,_,rfl,rfl,hB,hb10,⟨_,hb8⟩,by omega,hNZ,nLT hsz hla,hz8,hIS⟩
  intro x gg w9 lo hi s12 hR hdis;have d7:∃ AZ,gg 12= .tuple #[.agg #[.slice AZ (List.length XI) XI.length],.bool okI]∧Kept (lo 6) (hi 6) w9 (fun wq=>NodesIn wq AZ XI)∧w4.heap.size≤(lo 6)∧Zj l (vy ga gb) [((plc ga f).toNat,ga.length)] okI XI:=(hR 7 dE dE).1;obtain⟨AZ7,e12,hN7,hla7,hIS7⟩:=d7;have d8:∃ AZ,gg 20= .agg #[.slice AZ (List.length XI) XI.length]∧Kept (lo 6) (hi 6) w9 (fun wq=>NodesIn wq AZ XI)∧w4.heap.size≤(lo 6)∧Zj l (vy ga gb) [((plc ga f).toNat,ga.length)] okI XI:=(hR 8 dE dE).1;obtain⟨AZ,e20,hNZ,hla,hIS⟩:=d8;have d10:∃ b,gg 10= .pointer (some ⟨b,0,none⟩)∧w4.heap.size≤b∧Blk w9 b 30 #[.slice none 0 0]∧(lo 10)≤b∧b < (hi 10):=(hR 10 dE dE).1;obtain⟨b10,e10,lo10,hb10,la10,ha10⟩:=d10;have dis_6_10:(hi 6)≤(lo 10)∨(hi 10)≤(lo 6):=hdis 6 10 dE dE dE dE dE;have:=nLL z4 lo10;have:=nLL z5 lo10;have:=nLL z7 lo10;have:=nLL z8 lo10;replace lo10:=nLT hsz lo10;have hz8:b8 < (lo 6):=nLL z8 hla;refine kK 12 (.tuple #[.agg #[.slice AZ7 (List.length XI) XI.length],.bool okI]) e12 nu (kK 20 (.agg #[.slice AZ (List.length XI) XI.length]) e20 nu (kK 10 (.pointer (some ⟨b10,0,none⟩)) e10 nu (B4 (k':=3) kR (LQ (listed':=#[true,true,true,true,true,true,true,true,true,false,true,false,false]) kR (a_tk 9 rfl (fun _=>yk (v:=_) rfl rfl) ?_)))));refine Bz [11] kR rfl ⟨fun o hoq=>?_,trivial⟩;cases sI hoq;refine zk hb10 rfl rfl qx rfl zK (fun w10 hq s13=>?_);replace hb10:=hq;refine zW (e_A (listed':=#[true,true,true,true,true,true,true,true,true,true,true,true,false]) (by rfl) (a_tk 12 rfl (fun _=>kQ (v:= .bool _) rfl) (LV kR ?_)));refine e_R ⟨agA,?_⟩;replace hB:=(hB.tr0 s12).tr1 s13 lo10;replace hb8:=(hb8.tr0 s12).tr1 s13 om;replace hNZ:=hNZ.tr1 s13 om;exact⟨b10,AZ,_,_,rfl,rfl,hB,hb10,⟨_,hb8⟩,by omega,hNZ,nLT hsz hla,hz8,hIS⟩
 obtain⟨b10,AZ,lz,hz,h10,h11,hB,hb10,⟨z8v,hb8⟩,hne,hNZ,hlz,hz8,hIS⟩:=hI;refine oz 10 _ h10 nu (oz 11 _ h11 nu (e_S (xK ?_)));rcases Bool.eq_false_or_eq_true (okI) with hok | hok
 ·refine zQ 11 _ (congrArg Value.bool hok) nu ?_;refine Dy 10 [22,23,24,25,26,27,28,29,9] [b8] (fun ix v wv=>match ix with | 0=>v= .agg #[.slice AZ (List.length XI) XI.length] | 1=>v= .bool true | 2=>v= .bool true | 3=>v= .pointer (some ⟨b10,0,none⟩) | 4=>v= .slice AZ (List.length XI) XI.length | 5=>v= .int .i64 ((XI.length:Nat):Int) | 6=>v= .bool (decide (((XI.length:Nat):Int)≤60)) | 7=>v= .bool (decide (((XI.length:Nat):Int)≤60)) | 8=>Blk wv b8 30 #[.slice AZ (List.length XI) XI.length] | 9=>v= .bool (decide (((XI.length:Nat):Int)≤60)) | _=>True) (fun wq=>(∃ z,Blk wq b8 30 #[z])∧Kept lz hz wq (fun w3=>NodesIn w3 AZ XI)) kR kR ?_ ?_ ⟨⟨_,hb8⟩,(by first | exact hNZ | exact hNZ.tr0 s4 | exact hNZ.tr1 hs2 (.inl hz8))⟩ ?_ ?_
  ·intro ix v wv wv2 h s14
   match ix,h with
   | 0,h=>exact h
   | 1,h=>exact h
   | 2,h=>exact h
   | 3,h=>exact h
   | 4,h=>exact h
   | 5,h=>exact h
   | 6,h=>exact h
   | 7,h=>exact h
   | 8,h=>exact(show Blk wv b8 30 #[.slice AZ (List.length XI) XI.length] from h).tr0 s14
   | 9,h=>exact h
   | _ + 10,h=>exact trivial
  ·intro wv wv2 h s15;obtain⟨⟨z1,hb8⟩,hNZ⟩:=h;replace hb8:=hb8.tr0 s15;exact⟨⟨_,hb8⟩,(by first | exact hNZ | exact hNZ.tr0 s15 | exact hNZ.tr1 hs2 (.inl hz8))⟩
  ·intro ix o hix hoq gg wx s16 hJ hd
   match ix,hix,hoq with
   | 0,_,hoq=>
    cases sI hoq;replace hb10:=hb10.tr s16 (fun hx=>by simp only [List.mem_cons,List.not_mem_nil,or_false] at hx;omega);refine gdA ?_;show OS _ _ _ _ _ _;exact oVq (qW U30 rfl rfl hb10.range0 qx) rfl
   | 1,_,hoq=>
    cases sI hoq;refine gdA ?_;show OS _ _ _ _ _ _;exact oVq (x5 (v:= .bool _) rfl) rfl
   | 2,_,hoq=>
    cases sI hoq;have d1:gg 23= .bool true:=hd 1 _ (zj kR) rfl;have e23:=d1;refine gdA ?_;show OS _ _ _ _ _ _;refine zq 23 _ e23 nu ?_;exact oVq (x5 (v:= .bool _) rfl) rfl
   | 3,_,hoq=>
    cases sI hoq;have d2:gg 24= .bool true:=hd 2 _ (zj kR) rfl;have e24:=d2;refine uz 24 true rfl e24 (fun _=>?_) (fun h=>absurd h dE);show OS _ _ _ _ _ _;refine zq 24 _ e24 nu ?_;exact oVq (o7 U30 IK dE rfl rfl rfl) rfl
   | 4,_,hoq=>
    cases sI hoq;replace hb10:=hb10.tr s16 (fun hx=>by simp only [List.mem_cons,List.not_mem_nil,or_false] at hx;omega);have d2:gg 24= .bool true:=hd 2 _ (zj kR) rfl;have e24:=d2;have d3:gg 25= .pointer (some ⟨b10,0,none⟩):=hd 3 _ (zj kR) rfl;have e25:=d3;refine uz 24 true rfl e24 (fun _=>?_) (fun h=>absurd h dE);show OS _ _ _ _ _ _;refine zq 24 _ e24 nu (zq 25 _ e25 nu ?_);exact oVq (qK (v:= .slice _ _ _) U28 rfl rfl (hb10.cell rfl)) rfl
   | 5,_,hoq=>
    cases sI hoq;have d2:gg 24= .bool true:=hd 2 _ (zj kR) rfl;have e24:=d2;have d4:gg 26= .slice AZ (List.length XI) XI.length:=hd 4 _ (zj kR) rfl;have e26:=d4;refine uz 24 true rfl e24 (fun _=>?_) (fun h=>absurd h dE);show OS _ _ _ _ _ _;refine zq 24 _ e24 nu (zq 26 _ e26 nu ?_);exact oVq (MW U28 rfl) rfl
   | 6,_,hoq=>
    cases sI hoq;have d2:gg 24= .bool true:=hd 2 _ (zj kR) rfl;have e24:=d2;have d5:gg 27= .int .i64 ((XI.length:Nat):Int):=hd 5 _ (zj kR) rfl;have e27:=d5;refine uz 24 true rfl e24 (fun _=>?_) (fun h=>absurd h dE);show OS _ _ _ _ _ _;refine zq 24 _ e24 nu (zq 27 _ e27 nu ?_);exact oVq (r_leq rfl rfl) rfl
   | 7,_,hoq=>
    cases sI hoq;have d2:gg 24= .bool true:=hd 2 _ (zj kR) rfl;have e24:=d2;have d6:gg 28= .bool (decide (((XI.length:Nat):Int)≤60)):=hd 6 _ (zj kR) rfl;have e28:=d6;refine gdA ?_;show OS _ _ _ _ _ _;refine zq 24 _ e24 nu (zq 28 _ e28 nu ?_);exact oVq (SV (v:= .bool _) rfl rfl) rfl
   | 8,_,hoq=>
    cases sI hoq;have d0:gg 22= .agg #[.slice AZ (List.length XI) XI.length]:=hd 0 _ (zj kR) rfl;have e22:=d0;refine gdA ?_;show OS _ _ _ _ _ _;refine zq 22 _ e22 nu ?_;obtain⟨⟨z1,hb8⟩,hNZ⟩:=hJ;refine M7 (fun ops Q K=>?_);refine zk hb8 rfl rfl qx rfl zK (fun w2 hq hs2=>?_);have K2:=K w2;refine K2 ⟨hs2.weak (by simp),?_,hq,fun kx v hne h=>?_⟩
    ·replace hb8:=hq;exact⟨⟨_,hb8⟩,(by first | exact hNZ | exact hNZ.tr0 s16 | exact hNZ.tr1 hs2 (.inl hz8))⟩
    match kx,hne,h with
    | 0,_,h=>exact h
    | 1,_,h=>exact h
    | 2,_,h=>exact h
    | 3,_,h=>exact h
    | 4,_,h=>exact h
    | 5,_,h=>exact h
    | 6,_,h=>exact h
    | 7,_,h=>exact h
    | 8,hne,_=>exact absurd rfl hne
    | 9,_,h=>exact h
    | _ + 10,_,_=>exact trivial
   | 9,_,hoq=>
    cases sI hoq;have d7:gg 29= .bool (decide (((XI.length:Nat):Int)≤60)):=hd 7 _ (zj kR) rfl;have e29:=d7;refine gdA ?_;show OS _ _ _ _ _ _;refine zq 29 _ e29 nu ?_;exact oVq (kQ (v:= .bool _) rfl) rfl
   | _ + 10,hix,_=>exact absurd hix om
  intro gg w11 s17 hJ hR;replace hB:=hB.tr s17 (fun q hx=>by simp only [List.mem_cons,List.not_mem_nil,or_false] at hx;omega);have hq8:Blk w11 b8 30 #[.slice AZ (List.length XI) XI.length]:=hR 8 _ rfl;replace hb8:=hq8;have d9:gg 9= .bool (decide (((XI.length:Nat):Int)≤60)):=hR 9 _ rfl;have e9:=d9;refine qY 9 _ e9 nu (zn3 ?_);refine ZK (.inl rfl) rfl (zw U30 rfl rfl hb8.range0 qx) rfl ?_;obtain⟨_,hNZ⟩:=hJ;refine⟨⟨AZ,XI,_,rfl,QZ hNZ hlz,?_⟩,hB⟩;have hst:=Hk ha.v.gx hb.gx hjl hIS;rw [hok] at hst;exact hst
 refine zQ 11 _ (congrArg Value.bool hok) nu ?_;refine Dy 10 [22,23,24,25,26,27,28,29,9] [b8] (fun ix v wv=>match ix with | 0=>v= .agg #[.slice AZ (List.length XI) XI.length] | 1=>v= .bool false | 2=>v= .bool false | 3=>v=undef | 4=>v=undef | 5=>v=undef | 6=>v=undef | 7=>v= .bool false | 8=>Blk wv b8 30 #[.slice AZ (List.length XI) XI.length] | 9=>v= .bool false | _=>True) (fun wq=>(∃ z,Blk wq b8 30 #[z])∧Kept lz hz wq (fun w3=>NodesIn w3 AZ XI)) kR kR ?_ ?_ ⟨⟨_,hb8⟩,(by first | exact hNZ | exact hNZ.tr0 s4 | exact hNZ.tr1 hs2 (.inl hz8))⟩ ?_ ?_
 ·intro ix v wv wv2 h s18
  match ix,h with
  | 0,h=>exact h
  | 1,h=>exact h
  | 2,h=>exact h
  | 3,h=>exact h
  | 4,h=>exact h
  | 5,h=>exact h
  | 6,h=>exact h
  | 7,h=>exact h
  | 8,h=>exact(show Blk wv b8 30 #[.slice AZ (List.length XI) XI.length] from h).tr0 s18
  | 9,h=>exact h
  | _ + 10,h=>exact trivial
 ·intro wv wv2 h s19;obtain⟨⟨z1,hb8⟩,hNZ⟩:=h;replace hb8:=hb8.tr0 s19;exact⟨⟨_,hb8⟩,(by first | exact hNZ | exact hNZ.tr0 s19 | exact hNZ.tr1 hs2 (.inl hz8))⟩
 ·intro ix o hix hoq gg wx s20 hJ hd
  match ix,hix,hoq with
  | 0,_,hoq=>
   cases sI hoq;replace hb10:=hb10.tr s20 (fun hx=>by simp only [List.mem_cons,List.not_mem_nil,or_false] at hx;omega);refine gdA ?_;show OS _ _ _ _ _ _;exact oVq (qW U30 rfl rfl hb10.range0 qx) rfl
  | 1,_,hoq=>
   cases sI hoq;refine gdA ?_;show OS _ _ _ _ _ _;exact oVq (x5 (v:= .bool _) rfl) rfl
  | 2,_,hoq=>
   cases sI hoq;have d1:gg 23= .bool false:=hd 1 _ (zj kR) rfl;have e23:=d1;refine gdA ?_;show OS _ _ _ _ _ _;refine zq 23 _ e23 nu ?_;exact oVq (x5 (v:= .bool _) rfl) rfl
  | 3,_,hoq=>
   cases sI hoq;have d2:gg 24= .bool false:=hd 2 _ (zj kR) rfl;have e24:=d2;exact uz 24 false rfl e24 (fun h=>absurd h dE) (fun _=>rfl)
  | 4,_,hoq=>
   cases sI hoq;have d2:gg 24= .bool false:=hd 2 _ (zj kR) rfl;have e24:=d2;have d3:gg 25=undef:=hd 3 _ (zj kR) rfl;have e25:=d3;exact uz 24 false rfl e24 (fun h=>absurd h dE) (fun _=>rfl)
  | 5,_,hoq=>
   cases sI hoq;have d2:gg 24= .bool false:=hd 2 _ (zj kR) rfl;have e24:=d2;have d4:gg 26=undef:=hd 4 _ (zj kR) rfl;have e26:=d4;exact uz 24 false rfl e24 (fun h=>absurd h dE) (fun _=>rfl)
  | 6,_,hoq=>
   cases sI hoq;have d2:gg 24= .bool false:=hd 2 _ (zj kR) rfl;have e24:=d2;have d5:gg 27=undef:=hd 5 _ (zj kR) rfl;have e27:=d5;exact uz 24 false rfl e24 (fun h=>absurd h dE) (fun _=>rfl)
  | 7,_,hoq=>
   cases sI hoq;have d2:gg 24= .bool false:=hd 2 _ (zj kR) rfl;have e24:=d2;have d6:gg 28=undef:=hd 6 _ (zj kR) rfl;have e28:=d6;refine gdA ?_;show OS _ _ _ _ _ _;refine zq 24 _ e24 nu ?_;exact oVq (SW (v:= .bool _) rfl rfl) rfl
  | 8,_,hoq=>
   cases sI hoq;have d0:gg 22= .agg #[.slice AZ (List.length XI) XI.length]:=hd 0 _ (zj kR) rfl;have e22:=d0;refine gdA ?_;show OS _ _ _ _ _ _;refine zq 22 _ e22 nu ?_;obtain⟨⟨z1,hb8⟩,hNZ⟩:=hJ;refine M7 (fun ops Q K=>?_);refine zk hb8 rfl rfl qx rfl zK (fun w2 hq hs2=>?_);have K2:=K w2;refine K2 ⟨hs2.weak (by simp),?_,hq,fun kx v hne h=>?_⟩
   ·replace hb8:=hq;exact⟨⟨_,hb8⟩,(by first | exact hNZ | exact hNZ.tr0 s20 | exact hNZ.tr1 hs2 (.inl hz8))⟩
   match kx,hne,h with
   | 0,_,h=>exact h
   | 1,_,h=>exact h
   | 2,_,h=>exact h
   | 3,_,h=>exact h
   | 4,_,h=>exact h
   | 5,_,h=>exact h
   | 6,_,h=>exact h
   | 7,_,h=>exact h
   | 8,hne,_=>exact absurd rfl hne
   | 9,_,h=>exact h
   | _ + 10,_,_=>exact trivial
  | 9,_,hoq=>
   cases sI hoq;have d7:gg 29= .bool false:=hd 7 _ (zj kR) rfl;have e29:=d7;refine gdA ?_;show OS _ _ _ _ _ _;refine zq 29 _ e29 nu ?_;exact oVq (kQ (v:= .bool _) rfl) rfl
  | _ + 10,hix,_=>exact absurd hix om
 intro gg w12 s21 hJ hR;replace hB:=hB.tr s21 (fun q hx=>by simp only [List.mem_cons,List.not_mem_nil,or_false] at hx;omega);have hq8:Blk w12 b8 30 #[.slice AZ (List.length XI) XI.length]:=hR 8 _ rfl;replace hb8:=hq8;have d9:gg 9= .bool false:=hR 9 _ rfl;have e9:=d9;refine qY 9 _ e9 nu (zn3 ?_);refine ZK (.inl rfl) rfl (zw U30 rfl rfl hb8.range0 qx) rfl ?_;obtain⟨_,hNZ⟩:=hJ;refine⟨⟨AZ,XI,_,rfl,QZ hNZ hlz,?_⟩,hB⟩;have hst:=Hk ha.v.gx hb.gx hjl hIS;rw [hok] at hst;exact hst
end Go.Proofs.YtdgnllfbooklcaaDoor
namespace Go.Proofs.YtdgnllfbooklcaaDoor
open Go.RowKit
section all
variable {l:List Ty} {fs:List Ft} {gs:List (List Nd)}
structure LubL (l:List Ty) (gs:List (List Nd)) (X:List Nd):Prop where
  gx:GX l X
  maps:∀ i (hi:i < gs.length),Maps l gs[i] X
  least:∀ c,GY l c→(∀ i (hi:i < gs.length),Maps l gs[i] c)→Maps l X c
  can:∃ o,DL X [0] [] o∧y5 X o=X
theorem LubL.uniq {hs:List (List Nd)} {X Y:List Nd} (h:LubL l gs X) (k:LubL l hs Y) (e1:∀ i (hi:i < gs.length),∃ j,∃ hj:j < hs.length,gs[i]=hs[j]) (e2:∀ i (hi:i < hs.length),∃ j,∃ hj:j < gs.length,hs[i]=gs[j]):X=Y:=by
  obtain⟨o,ho,e⟩:=h.can;obtain⟨p,hp,e3⟩:=k.can;have:=Wy h.gx k.gx (h.least Y k.gx.toGY (fun i hi=>by obtain⟨j,hj,e⟩:=e1 i hi;rw [e];exact k.maps j hj)) (k.least X h.gx.toGY (fun i hi=>by obtain⟨j,hj,e⟩:=e2 i hi;rw [e];exact h.maps j hj)) ho hp;rw [e,e3] at this;exact this.symm
end all
end Go.Proofs.YtdgnllfbooklcaaDoor
namespace Go.Proofs.YtdgnllfbooklcaaDoor
open Go.RowKit
def GrsIn (w:World) (A:Option Addr) (L:List (List Nd)):Prop:=
  L.length≤vz∧(L≠[]→∃ b o,A=some ⟨b,o,none⟩∧b < w.heap.size∧∀ k (hk:k < L.length),∃ A' c,w.rangeAt b (o + k * 1) [.slice A' (L[k]).length c]∧NodesIn w A' L[k])
theorem GrsIn.mono {w w':World} {A:Option Addr} {L:List (List Nd)} (h:GrsIn w A L) (hb:Bel w w'):GrsIn w' A L:=
  ⟨h.1,fun hn=>by
    obtain⟨b,o,e,hl,hc⟩:=h.2 hn
    refine⟨b,o,e,nLL hl hb.size,fun k hk=>?_⟩
    obtain⟨A',c,h1,h2⟩:=hc k hk
    exact⟨A',c,hb.range hl h1,h2.mono hb⟩⟩
theorem GrsIn.at_ {w w':World} {A:Option Addr} {L:List (List Nd)} (h:GrsIn w A L) (hb:Bel w w') {k:Nat} (hk:k < L.length):
    ∃ b o A' c,A=some ⟨b,o,none⟩∧w'.rangeAt b (o + k * 1) [.slice A' (L[k]).length c]∧NodesIn w A' L[k]:=by
  obtain⟨b,o,e,hl,hc⟩:=h.2 (by rintro rfl;simp at hk);obtain⟨A',c,h1,h2⟩:=hc k hk;exact⟨b,o,A',c,e,hb.range hl h1,h2⟩
theorem PoolAt.fr {w w2:World} {ob bp:Nat} {c0 c1:Value} {n:Nat} {PA TA LA:Option Addr} {cp ct cl:Nat} {P:Nat→Nat} {T:Nat→Int} {V:Nat→Value} {L:Nat→List (Int×Int)} (h:PoolAt w ob bp c0 c1 n PA TA LA cp ct cl P T V L) (hf:FrSame bp w w2) (hbo:bp < ob):PoolAt w2 ob bp c0 c1 n PA TA LA cp ct cl P T V L:=
  have hf2:FrSame ob w w2:=⟨hf.size,fun b hb hl=>hf.blk b om hl⟩
  ⟨hf.at_ h.bp (Nat.le_refl _),h.pa.fr (Nat.le_refl _) hf2,h.ta.fr (Nat.le_refl _) hf2,h.la.fr (Nat.le_refl _) hf2,fun x hx=>((h.rows x hx).fr hf2).up hf.size,h.dis⟩
end Go.Proofs.YtdgnllfbooklcaaDoor
namespace Go.Proofs.YtdgnllfbooklcaaDoor
open Go.RowKit
theorem fn53:zZ Tryd.prog 53=true:=by kernel_rfl
theorem fn54:zZ Tryd.prog 54=true:=by kernel_rfl
set_option maxRecDepth 100000 in
set_option maxHeartbeats 2000000 in
theorem FK {c1:Nat} {G1:Option Addr} {l:List Ty} {fs:List Ft} {ga:List Nd} {m:Int} (w:World) (hG1:NodesIn w G1 ga) (ha:Jok l fs m ga) (hm0:0≤m):Calls Tryd.prog 54 #[.agg #[.slice G1 ga.length c1]] w fun e w'=>(∃ A o,DL ga [(plc ga 0).toNat] [] o∧e= .returned (.agg #[.slice A o.length o.length])∧∀ w2,FrSame w.heap.size w' w2→NodesIn w2 A (y5 ga o))∧Bel w w':=by
 have hjl:=ha.lt (Int.le_refl _) hm0;have h0l:=ha.v.gx.pos;obtain⟨oM,hoM⟩:=ha.v.gx.toGY.dl hjl;have hpa:=plc_at ha (Int.le_refl _) hm0;refine enter Tryd.func54 Tryd.ntmps54 rfl (Nat.le_of_ble_eq_true rfl) ?_;have hB:Bel w w:=Below.refl _ _;refine zn2 ?_;refine xz (v:= .agg #[_]) (cs:=#[_]) rfl rfl (fun b1 w1 hb1 s1 hr=>?_);have lo1:=nLT (Bel.size hB) hr;refine qw (cs:=#[.slice none 0 0]) vX rfl (fun b2 w2 hb2 s2 hr=>?_);have:=nLL hb1.lt hr;replace hB:=hB.tr0 s1;have lo2:=nLT (Bel.size hB) hr;refine zn3 ?_;replace hB:=hB.tr0 s2;have hsz:=Bel.size hB;have z2:=hb2.lt;refine uQ [b2] [0,1,2,3,4] rfl (fun w3 s3=>?_);have hs0:=s3;refine zn2 ?_;replace hB:=hB.tr0 s3;refine hcl (fun v wv=>v= .int .i64 (((plc ga 0).toNat:Nat):Int)) rfl fn59 (Jj G1 c1 fs.length ga 0 0 w3 (hG1.mono hB) h0l (Vw ha.v.lo 0 h0l) (by have:=ha.v.gok.few 0 h0l;have:=ha.v.few;omega)) rfl (fun e' w2 hr=>?_) (fun v5 w4 s4 d5=>?_)
 ·obtain⟨rfl,s5⟩:=hr;exact⟨_,rfl,sB s5,(congrArg (Value.int .i64) hpa)⟩
 have e5:=d5;subst e5;replace hB:=hB.tr0 s4;refine hcl (fun v wv=>∃ AZ lz hz,v= .agg #[.slice AZ oM.length oM.length]∧Kept lz hz wv (fun wq=>NodesIn wq AZ (y5 ga oM))∧w2.heap.size≤lz) rfl fn61 (from_any G1 c1 l.length fs.length ga (plc ga 0).toNat w4 (hG1.mono hB) ha.v.gok (by have:=ha.v.few;omega) hjl) rfl (fun e' w2 hr=>?_) (fun v6 w5 s6 d6=>?_)
 ·obtain⟨⟨o9,A9,hd9,_,rfl,hN9⟩,s7⟩:=hr;replace hs0:=hs0.trans s4;exact⟨_,rfl,sB s7,(by obtain rfl:=DL.det hd9 hoM;exact⟨A9,_,_,rfl,jQ hN9,hs0.size⟩)⟩
 obtain⟨AZ,lz,hz,e6,hNZ,hlz⟩:=d6;subst e6;refine h1 rfl ?_;replace hb2:=hb2.tr0 (s3.trans (s4.trans s6));refine zk hb2 rfl rfl qx rfl zK (fun w6 hq s8=>?_);have hsH4:=s8;replace hb2:=hq;refine zW (e_H (X':=[]) (Same.weak hsH4 (by simp)) (by simp) (zn3 ?_));refine xX (.inl rfl) rfl (zw U30 rfl rfl hb2.range0 qx) ?_;replace hB:=(hB.tr0 s6).tr1 s8 lo2;replace hNZ:=hNZ.tr1 s8 om;exact⟨⟨AZ,oM,hoM,rfl,QZ hNZ (nLT hsz hlz)⟩,hB⟩
set_option maxRecDepth 100000 in
set_option maxHeartbeats 4000000 in
theorem Tk (AT AF AR AX AS:Option Addr) (ct cf cr cx cst:Nat) (l:List Ty) (fs:List Ft) (rs:List Rl) (xs:List Lx) (st:List Nd) {bu bd kc ri:Nat} {KA:Option Addr} {ks:List (List Nd)} (w:World) (hTab:TabIn w) (hTI:TableIn w l bu bd) (hRu:RulesIn w AR rs) (hri:ri < rs.length) (hJ:Jok l fs (rs[ri]).kids (rs[ri]).gr) (hK:GrsIn w KA ks) (hkv:∀ k ∈ ks,GV l fs k) (hkl:(ks.length:Int)=(rs[ri]).kids):Calls Tryd.prog 31 #[.agg #[.slice AT l.length ct,.slice AF fs.length cf,.slice AR rs.length cr,.slice AX xs.length cx,.slice AS st.length cst],.agg #[.slice (some ⟨bu,0,none⟩) l.length l.length,.slice (some ⟨bd,0,none⟩) l.length l.length],.int .i64 (ri:Nat),.slice KA ks.length kc] w fun e w'=>(∃ A Y ok c,e= .returned (.tuple #[.agg #[.slice A (List.length Y) c],.bool ok])∧(∀ w2,FrSame w.heap.size w' w2→NodesIn w2 A Y)∧QJ l (rs[ri]).gr 0 ks ok Y)∧Bel w w':=by
 have hrx:=hRu.1;have hkx:=hK.1;unfold vz at hrx hkx;obtain⟨rb,ro,Gk,cgk,Sk,csk,Bk,mk,hAR,hrb,hrr0,hGk,_,_⟩:=hRu.at_ (Below.refl _ _) hri;have hk0:0≤(rs[ri]).kids:=by omega
 refine enter Tryd.func31 Tryd.ntmps31 rfl (Nat.le_of_ble_eq_true rfl) ?_;have hB:Bel w w:=Below.refl _ _;refine zn2 ?_;refine xz (v:= .agg #[_,_,_,_,_]) (cs:=#[_,_,_,_,_]) rfl rfl (fun b4 w1 hb4 s1 hr=>?_);have lo4:=nLT (Bel.size hB) hr;refine xz (v:= .agg #[_,_]) (cs:=#[_,_]) rfl rfl (fun b5 w2 hb5 s2 hr=>?_);have:=nLL hb4.lt hr;replace hB:=hB.tr0 s1;have lo5:=nLT (Bel.size hB) hr;refine qw (cs:=#[.slice none 0 0]) vX rfl (fun b8 w3 hb8 s3 hr=>?_);replace hb4:=hb4.tr0 s2;have:=nLL hb4.lt hr;have:=nLL hb5.lt hr;replace hB:=hB.tr0 s2;have lo8:=nLT (Bel.size hB) hr;refine zn4 ?_;subst hAR;refine zn6 ?_;replace hB:=hB.tr0 s3;refine wl (qW U30 rfl rfl (hB.range hrb (xs:=[.slice Gk (rs[ri]).gr.length cgk]) (fun j v hj=>by match j,hj with | 0,hj=>cases hj;exact hrr0 1 _ rfl | _ + 1,hj=>cases hj)) qx) ?_;refine yj (cs:=#[.slice none 0 0]) vX rfl (fun _=>rfl) (fun _=>rfl) qx rfl zK (fun b10 w5 hb10 s4 hr=>?_);replace hb4:=hb4.tr0 s3;have:=nLL hb4.lt hr;replace hb5:=hb5.tr0 s3;have:=nLL hb5.lt hr;have:=nLL hb8.lt hr;have lo10:=nLT (Bel.size hB) hr;refine gj ?_;replace hB:=hB.tr0 s4;replace hb5:=hb5.tr0 s4;replace hb8:=hb8.tr0 s4;refine qJ [9,11,12,13,22,23,24,25,26,27,28,29,30,31,32,33,34,35,36,37,38,39] (fun m g w'=>∃ (i:Nat) (x:List Nd) (Ax:Option Addr) (cq:Nat) (wX:World),i≤ks.length∧m=ks.length - i∧g 22= .int .i64 i∧Bel w w'∧Blk w' b5 86 #[.slice (some ⟨bu,0,none⟩) l.length l.length,.slice (some ⟨bd,0,none⟩) l.length l.length]∧Blk w' b8 30 #[.slice none 0 0]∧Blk w' b10 30 #[.slice Ax (List.length x) cq]∧ChG (fun g=>g=b10) wX w'∧(∀ w2,ChG (fun g=>g=b10) wX w2→NodesIn w2 Ax x)∧Jok l fs (rs[ri]).kids x∧(∀ ok Y,QJ l x i (ks.drop i) ok Y→QJ l (rs[ri]).gr 0 ks ok Y)) (ks.length) ?_ (fun m g3 w6 hI=>?_)
 ·exact⟨0,_,Gk,cgk,_,Nat.zero_le _,rfl,rfl,hB,hb5,hb8,hb10,ChG.refl _ _,fun w2 h=>hGk.mono (hB.chG h (fun g hg=>by rw [show g=b10 from hg];exact lo10)),hJ,fun ok Y h=>h⟩
 obtain⟨i,x,Ax,cq,wX,hi,hm,h22,hB,hb5,hb8,hb10,hCX,hNX,hJx,hco⟩:=hI;refine zQ 22 _ h22 nu (zn6 ?_);refine zJ rfl (fun c23=>?_) (fun c23=>?_)
 ·have hlt:i < ks.length:=by omega
  obtain⟨gb,go,GA,gc,rfl,hgr,hgn⟩:=hK.at_ hB hlt;have hdr:ks.drop i=ks[i] :: ks.drop (i + 1):=List.drop_eq_getElem_cons hlt;refine zn7 ?_;refine wl (yJ (i:=i) U33 qx rfl rfl hlt rfl) (wl (qW U30 rfl rfl hgr qx) ?_);refine qw (cs:=#[.slice none 0 0]) vX rfl (fun b12 w7 hb12 s5 hr=>?_);have:=nLL hb5.lt hr;have:=nLL hb8.lt hr;have:=nLL hb10.lt hr;have or_hCX_b12:=(nLT hCX.size hr)
  have lo12:=nLT (Bel.size hB) hr;replace hCX:=hCX.st s5 (by simp);refine waI rfl ?_;refine zk hb12 rfl rfl qx rfl zK (fun w8 hq s6=>?_);replace hCX:=hCX.st s6 (fun g hg=>by rw [List.mem_singleton.1 hg];first | exact .inl rfl | exact .inr or_hCX_b12);replace hb12:=hq;refine Yq ?_;replace hb10:=(hb10.tr0 s5).tr1 s6 om;have z10:=hb10.lt;replace hB:=(hB.tr0 s5).tr1 s6 lo12;refine zX fn53 (step_any (m:=(rs[ri]).kids) _ (hTab.mono hB) (hTI.mono hB) (hNX _ hCX) (hgn.mono hB) hJx (hkv _ (List.getElem_mem hlt)) om om) rfl (fun e' w9 hr=>?_);obtain⟨⟨A3,X3,ok3,rfl,hN3,hS3⟩,s7⟩:=hr;replace s7:=sB s7;replace hCX:=hCX.st s7 (by simp);have hNX3:∀ w2,ChG (fun g=>g=b10) w9 w2→NodesIn w2 A3 X3:=fun w2 h=>hN3 w2 ⟨h.size,fun k h1 h2=>h.blk k h2 (fun e=>by rw [show k=b10 from e] at h1;omega)⟩
  obtain⟨wX3,hwX3⟩:∃ z,z=w9:=⟨_,rfl⟩
  have hCX3:ChG (fun g=>g=b10) wX3 w9:=by rw [hwX3];exact ChG.refl _ _
  rw [← hwX3] at hNX3;have or_hCX3_b10:b10=b10:=rfl;refine⟨_,rfl,?_⟩;refine wmT rfl (wl (yk (v:=_) rfl rfl) (wl (yk (v:=_) rfl rfl) ?_));replace hb10:=hb10.tr0 s7;refine zk hb10 rfl rfl qx rfl zK (fun w10 hq s8=>?_);replace hCX3:=hCX3.st s8 (fun g hg=>by rw [List.mem_singleton.1 hg];first | exact .inl rfl | exact .inr or_hCX3_b10);replace hb10:=hq;refine zn9 ?_;replace hb8:=(((hb8.tr0 s5).tr1 s6 om).tr0 s7).tr1 s8 om;replace hB:=(hB.tr0 s7).tr1 s8 lo10;refine kv rfl (fun c37=>?_) (fun c37=>?_)
  ·have hok3:ok3=false:=by simpa using c37
   have hZ:=step_no hS3 hok3;refine zn2 ?_;refine wl (uJ (vs:=#[]) (cs:=#[.slice none 0 0]) (by simp) kR) ?_;refine zk hb8 rfl rfl qx rfl zK (fun w11 hq s9=>?_);replace hb8:=hq;refine zn9 ?_;refine ZK (.inl rfl) rfl (zw U30 rfl rfl hb8.range0 qx) rfl ?_;replace hB:=hB.tr1 s9 lo8;exact⟨⟨none,[],false,0,rfl,fun w2 _=>oX w2 none,hco false [] (by rw [hdr];exact join_no hZ)⟩,hB⟩
  have hok3:ok3=true:=by simpa using c37
  obtain⟨hU3,h60⟩:=step_yes hS3 hok3;refine zn7 ?_;refine yq (ks.length - (i + 1)) om agA ?_;replace hb5:=(((hb5.tr0 s5).tr1 s6 om).tr0 s7).tr1 s8 om;exact⟨i + 1,X3,A3,_,wX3,by omega,rfl,rfl,hB,hb5,hb8,hb10,hCX3,hNX3,hJx.step (hkv _ (List.getElem_mem hlt)) om om hU3 h60,fun ok Y h=>hco ok Y (by rw [hdr];exact .inl ⟨X3,hU3,h60,h⟩)⟩
 have hie:i=ks.length:=by omega
 have hdn:ks.drop i= []:=List.drop_eq_nil_of_le om;refine zn8 ?_;have z8:=hb8.lt;have hszV:=Bel.size hB;refine zX fn54 (FK _ (hNX _ hCX) hJx hk0) rfl (fun e' w12 hr=>?_);obtain⟨⟨AY,oY,hdY,rfl,hNY⟩,s10⟩:=hr;replace s10:=sB s10;replace hCX:=hCX.st s10 (by simp);have hKY:=jQ hNY;refine⟨_,rfl,?_⟩;replace hb8:=hb8.tr0 s10;refine zk hb8 rfl rfl qx rfl zK (fun w13 hq s11=>?_);replace hb8:=hq;refine zn4 ?_;refine ZK (.inl rfl) rfl (zw U30 rfl rfl hb8.range0 qx) rfl ?_;replace hB:=(hB.tr0 s10).tr1 s11 lo8;replace hKY:=hKY.tr1 s11 om;exact⟨⟨AY,y5 x oY,true,_,by rw [ux];rfl,QZ hKY hszV,hco true _ (by rw [hdn];exact⟨rfl,oY,hdY,rfl⟩)⟩,hB⟩
end Go.Proofs.YtdgnllfbooklcaaDoor
