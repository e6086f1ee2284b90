/- The engine's second part: regions that draw their order and end in operations whose order is forced; append; values by their shape; closures. -/
import Derived.Test.YtbcpgfnfiekbiaaGreatDoorEng
import Derived.Deep.AppendLies
import Derived.Laws.StructEq
namespace Go.Proofs.YtbcpgfnfiekbiaaGreatDoor
open Go.RowKit
section mono
variable {P:Program} {Q:Exit→Act→World→Prop} {n:Nw} {f:Fr} {w:World}
def VW (l:List Oper) (m i:Nat):Bool:=decide (i < m) || (match l[i]? with
  | some o=>(jz o).all (fun j=>decide (j < i)) && (List.range i).all (fun j=>(jz o).contains j || (List.range i).any (fun k=>decide (j < k) && (match l[k]? with | some o'=>(jz o').contains j | none=>false)))
  | none=>false)
def MQ (l:List Oper) (m:Nat) (S:List Nat):Bool:=
  (List.range m).all (fun i=>match l[i]? with
    | some o=>(match o.dst with | some d=>mem S d | none=>false) && o.guard.isNone && (jz o).all (fun j=>decide (j < i)) && (List.range m).all (fun j=>decide (i=j) || !(y9 l.toArray i == y9 l.toArray j))
    | none=>false) && decide (m≤l.length) &&
  (List.range l.length).all (VW l m)
def monoG (l:List Oper) (m:Nat) (S:List Nat):Bool:=
  (List.range m).all (fun i=>match l[i]? with
    | some o=>(match o.dst with | some d=>mem S d | none=>false) && (match o.guard with | none=>true | some (j,_)=>(jz o).contains j) && (jz o).all (fun j=>decide (j < i)) && (List.range m).all (fun j=>decide (i=j) || !(y9 l.toArray i == y9 l.toArray j))
    | none=>false) && decide (m≤l.length) &&
  (List.range l.length).all (VW l m)
theorem mono_g {l:List Oper} {m:Nat} {S:List Nat} (h:MQ l m S=true):monoG l m S=true:=by
  simp only [MQ,monoG,Bool.and_eq_true,List.all_eq_true,List.mem_range] at h ⊢;refine⟨⟨fun i hi=>?_,h.1.2⟩,h.2⟩;have h1:=h.1.1 i hi;cases ho:l[i]? with
  | none=>rw [ho] at h1;cases h1
  | some o=>
    rw [ho] at h1;simp only [Bool.and_eq_true] at h1 ⊢;obtain⟨⟨⟨h1,h2⟩,h3⟩,h4⟩:=h1;rw [Option.isNone_iff_eq_none] at h2;rw [h2];exact⟨⟨⟨h1,rfl⟩,h3⟩,h4⟩
def Dn (l:List Oper) (listed:Array Bool):Prop:=∀ j o,l[j]? =some o→listed.getD j false=true→∀ k ∈ jz o,listed.getD k false=true
theorem Dn.set {l:List Oper} {listed:Array Bool} (h:Dn l listed) {i:Nat} (hi:i < listed.size) {o:Oper} (ho:l[i]? =some o) (hd:∀ j ∈ jz o,listed.getD j false=true):Dn l (listed.setIfInBounds i true):=by
  have up:∀ k,listed.getD k false=true→(listed.setIfInBounds i true).getD k false=true:=fun k hk=>by
    by_cases e:i=k
    · subst e;simp [hi]
    · simp only [Array.getD_eq_getD_getElem?,Array.getElem?_setIfInBounds_ne e] at hk ⊢;exact hk
  intro j o' ho' hj k hk;by_cases e:i=j
  · subst e
    rw [ho] at ho';cases ho';exact up k (hd k hk)
  · simp only [Array.getD_eq_getD_getElem?,Array.getElem?_setIfInBounds_ne e] at hj
    exact up k (h j o' ho' (by simpa only [Array.getD_eq_getD_getElem?] using hj) k hk)
theorem E4 {l:List Oper} {m i:Nat} (h:VW l m i=true) (hm:¬i < m) {o:Oper} (ho:l[i]? =some o):∀ j ∈ jz o,j < i:=by
  simp only [VW,hm,decide_false,Bool.false_or,ho,Bool.and_eq_true,List.all_eq_true,decide_eq_true_eq] at h;exact h.1
theorem E5 {l:List Oper} {m i:Nat} (h:VW l m i=true) (hm:¬i < m) {o:Oper} (ho:l[i]? =some o) {listed:Array Bool} (hD:Dn l listed) (hd:∀ j ∈ jz o,listed.getD j false=true):∀ j,j < i→listed.getD j false=true:=by
  simp only [VW,hm,decide_false,Bool.false_or,ho,Bool.and_eq_true,List.all_eq_true,List.mem_range,Bool.or_eq_true,List.any_eq_true,decide_eq_true_eq] at h;have key:∀ t j,i≤j + t→j < i→listed.getD j false=true:=by
    intro t
    induction t with
    | zero=>intro j h1 h2;omega
    | succ t ih=>
      intro j h1 h2;rcases h.2 j h2 with h3 | ⟨k,hk,hjk,h3⟩
      · exact hd j (by simpa using h3)
      · cases hok:l[k]? with
        | none=>rw [hok] at h3;cases h3
        | some o'=>
          rw [hok] at h3;exact hD k o' hok (ih k oM hk) j (by simpa using h3)
  intro j hj;exact key i j oM hj
theorem Xx {l:List Oper} (listed:Array Bool) (i:Nat) (hi:i ∈ Region.ready .any l.toArray listed):∃ o,l[i]? =some o∧listed.getD i false=false∧∀ j ∈ jz o,listed.getD j false=true:=by
  simp only [Region.ready,List.mem_filter,List.mem_range,Bool.and_eq_true,Bool.not_eq_true'] at hi;obtain⟨hi,hn,hd⟩:=hi;have hi':i < l.length:=by simpa using hi
  refine⟨l[i],List.getElem?_eq_getElem hi',?_,?_⟩
  · simp only [Array.getD_eq_getD_getElem?] at hn ⊢
    cases hq:listed[i]? with
    | none=>rfl
    | some b=>simpa [hq] using hn
  · simp only [List.getElem?_toArray,List.getElem?_eq_getElem hi',Option.map_some,Option.getD_some] at hd
    exact Oj hd
theorem D9 {l:List Oper} (listed:Array Bool) (i:Nat) (o:Oper) (hs:listed.size=l.length) (ho:l[i]? =some o) (hn:listed.getD i false=false) (hd:∀ j ∈ jz o,listed.getD j false=true):i ∈ Region.ready .any l.toArray listed:=by
  have hi:i < l.length:=(List.getElem?_eq_some_iff.1 ho).1;simp only [Region.ready,List.mem_filter,List.mem_range,Bool.and_eq_true,Bool.not_eq_true'];refine⟨by simpa using hi,?_,?_⟩
  · simp only [Array.getD_eq_getD_getElem?] at hn ⊢
    have:i < listed.size:=by omega
    simp only [Array.getElem?_eq_getElem this,Option.getD_some] at hn ⊢;exact hn
  · simp only [List.getElem?_toArray,ho,Option.map_some,Option.getD_some]
    exact V2 hd
theorem Wy {l:List Oper} {m:Nat} (hl:∀ i,i < l.length→VW l m i=true):∀ (k fuel i:Nat) (listed:Array Bool) (a:Act) (w:World),i + k=l.length→k≤fuel→m≤i→listed.size=l.length→Dn l listed→(∀ j,j < i→listed.getD j false=true)→(∀ t,i≤t→listed.getD t false=false)→wpList P l.toArray Q (l.drop i) a w→wpAny P .any l.toArray Q fuel listed a w:=by
  intro k
  induction k with
  | zero=>
    intro fuel i listed a w hik hkf hmi hs hD hlo hhi hW;rw [List.drop_eq_nil_of_le oM] at hW;have hr:Region.ready .any l.toArray listed= []:=by
      cases hr:Region.ready .any l.toArray listed with
      | nil=>rfl
      | cons x r=>
        obtain⟨o,ho,hn,_⟩:=Xx listed x (by rw [hr];simp);have:x < l.length:=(List.getElem?_eq_some_iff.1 ho).1;rw [hlo x oM] at hn;cases hn
    cases fuel with
    | zero=>exact⟨hr,hW⟩
    | succ fuel=>exact⟨fun _=>hW,fun x hx=>by rw [hr] at hx;cases hx⟩
  | succ k ih=>
    intro fuel i listed a w hik hkf hmi hs hD hlo hhi hW;obtain⟨fuel,rfl⟩:∃ fu,fuel=fu + 1:=⟨fuel - 1,by omega⟩
    have hil:i < l.length:=by omega
    have ho:l[i]? =some l[i]:=List.getElem?_eq_getElem hil;have hd:∀ j ∈ jz l[i],listed.getD j false=true:=fun j hj=>hlo j (E4 (hl i hil) oM ho j hj)
    refine⟨fun hr=>?_,fun x hx=>?_⟩
    · have:=D9 listed i _ hs ho (hhi i (Nat.le_refl _)) hd
      rw [hr] at this;cases this
    · obtain⟨o,hxo,hn,hxd⟩:=Xx listed x hx
      have hxl:x < l.length:=(List.getElem?_eq_some_iff.1 hxo).1;have hxi:x=i:=by
        rcases Nat.lt_or_ge x i with h | h
        · rw [hlo x h] at hn;cases hn
        · rcases Nat.lt_or_ge i x with h2 | h2
          · have:=E5 (hl x hxl) oM hxo hD hxd i h2
            rw [hhi i (Nat.le_refl _)] at this;cases this
          · omega
      subst hxi;rw [ho] at hxo;cases hxo;rw [List.drop_eq_getElem_cons hil] at hW;unfold wpOp;simp only [List.getElem?_toArray,ho];have next:∀ a' w',wpList P l.toArray Q (l.drop (x + 1)) a' w'→wpAny P .any l.toArray Q fuel (listed.setIfInBounds x true) a' w':=fun a' w' h=>by
        refine ih fuel (x + 1) _ a' w' oM oM oM (by simpa using hs) (hD.set oM ho hd) (fun j hj=>?_) (fun t ht=>?_) h
        · by_cases e:x=j
          · subst e;have:x < listed.size:=by omega
            simp [this]
          · simp only [Array.getD_eq_getD_getElem?,Array.getElem?_setIfInBounds_ne e]
            simpa only [Array.getD_eq_getD_getElem?] using hlo j oM
        · have e:x≠t:=by omega
          simp only [Array.getD_eq_getD_getElem?,Array.getElem?_setIfInBounds_ne e]
          simpa only [Array.getD_eq_getD_getElem?] using hhi t oM
      unfold wpList at hW;by_cases hwt:Region.wanted l[x] (yielded l.toArray a.tmps)=true
      · rw [if_pos hwt] at hW ⊢
        exact hW.imp (Oper.wp_mono (fun a w h=>next a w h)) (fun h=>h)
      · rw [if_neg hwt] at hW ⊢
        exact next _ _ hW
theorem c_monoG {id:Nat} {l:List Oper} (m:Nat) (S:List Nat) (fr:Nat→Bool) (R:Nat→Value→World→Prop) (hm:P.follows .mixedOrders=true) (hB:monoG l m S=true)
    (hst:∀ i v w w',R i v w→Same [] w w'→R i v w')
    (step:∀ i o,i < m→l[i]? =some o→∀ f' w',Same [] w w'→Ag S f' f→(∀ j ∈ jz o,R j (f' (y9 l.toArray j)) w')→(∀ j k g,j ∈ jz o→k ∈ jz o→j≠k→fr j=true→fr k=true→jj (f' (y9 l.toArray j))=some g→jj (f' (y9 l.toArray k))≠some g)→(Region.wanted o (yielded l.toArray (AF n f').tmps)=true→OS P n f' w' o (fun v w''=>Same [] w' w''∧R i v w''∧WQ (fr i) w' w'' v))∧(Region.wanted o (yielded l.toArray (AF n f').tmps)=false→R i undef w'))
    (fin:∀ f' w',Same [] w w'→Ag S f' f→(∀ i,i < m→R i (f' (y9 l.toArray i)) w')→(∀ i j g,i < m→j < m→i≠j→fr i=true→fr j=true→jj (f' (y9 l.toArray i))=some g→jj (f' (y9 l.toArray j))≠some g)→WL P l.toArray Q (l.drop m) n f' w'):WC P (.region id l.toArray true) Q n f w:=by
  unfold WC;refine wp_region_any hm ?_;simp only [monoG,Bool.and_eq_true,List.all_eq_true,List.mem_range,decide_eq_true_eq] at hB;obtain⟨⟨hh,hlen⟩,hl⟩:=hB;have hget:∀ i,i < m→∃ o d,l[i]? =some o∧o.dst=some d∧mem S d=true∧True∧(∀ j ∈ jz o,j < i)∧(∀ j,j < m→i≠j→y9 l.toArray i≠y9 l.toArray j)∧y9 l.toArray i=d:=by
    intro i hi;have h:=hh i hi;cases ho:l[i]? with
    | none=>simp [ho] at h
    | some o=>
      simp only [ho,Bool.and_eq_true] at h;obtain⟨⟨⟨h1,h2⟩,h3⟩,h4⟩:=h;cases hd:o.dst with
      | none=>simp [hd] at h1
      | some d=>
        simp only [hd] at h1;refine⟨o,d,rfl,hd,h1,trivial,fun j hj=>by simpa using List.all_eq_true.1 h3 j hj,fun j hj hne=>?_,by simp [y9,ho,hd]⟩;have:=List.all_eq_true.1 h4 j (List.mem_range.2 hj)
        simpa [hne] using this
  have ready_of:∀ (listed:Array Bool) (i:Nat) (o:Oper),listed.size=l.length→l[i]? =some o→listed.getD i false=false→(∀ j ∈ jz o,listed.getD j false=true)→i ∈ Region.ready .any l.toArray listed:=by
    intro listed i o hs ho hn hd;have hi:i < l.length:=(List.getElem?_eq_some_iff.1 ho).1;simp only [Region.ready,List.mem_filter,List.mem_range,Bool.and_eq_true,Bool.not_eq_true'];refine⟨by simpa using hi,?_,?_⟩
    · simp only [Array.getD_eq_getD_getElem?] at hn ⊢
      have:i < listed.size:=by omega
      simp only [Array.getElem?_eq_getElem this,Option.getD_some] at hn ⊢;exact hn
    · simp only [List.getElem?_toArray,ho,Option.map_some,Option.getD_some]
      exact V2 hd
  have ready_inv:∀ (listed:Array Bool) (i:Nat),i ∈ Region.ready .any l.toArray listed→∃ o,l[i]? =some o∧listed.getD i false=false∧∀ j ∈ jz o,listed.getD j false=true:=by
    intro listed i hi;simp only [Region.ready,List.mem_filter,List.mem_range,Bool.and_eq_true,Bool.not_eq_true'] at hi;obtain⟨hi,hn,hd⟩:=hi;have hi':i < l.length:=by simpa using hi
    refine⟨l[i],List.getElem?_eq_getElem hi',?_,?_⟩
    · simp only [Array.getD_eq_getD_getElem?] at hn ⊢
      cases hq:listed[i]? with
      | none=>rfl
      | some b=>simpa [hq] using hn
    · simp only [List.getElem?_toArray,List.getElem?_eq_getElem hi',Option.map_some,Option.getD_some] at hd
      exact Oj hd
  have key:∀ (fuel:Nat) (listed:Array Bool) (f':Fr) (w':World),listed.size=l.length→Dn l listed→(∀ t,m≤t→listed.getD t false=false)→Same [] w w'→Ag S f' f→(∀ i,i < m→listed.getD i false=true→R i (f' (y9 l.toArray i)) w')→
      (∀ i g,i < m→listed.getD i false=true→fr i=true→jj (f' (y9 l.toArray i))=some g→g < w'.heap.size)→
      (∀ i j g,i < m→j < m→i≠j→listed.getD i false=true→listed.getD j false=true→fr i=true→fr j=true→jj (f' (y9 l.toArray i))=some g→jj (f' (y9 l.toArray j))≠some g)→
      (List.range m).countP (fun i=>!listed.getD i false) + (l.length - m)≤fuel→wpAny P .any l.toArray Q fuel listed (AF n f') w':=by
    intro fuel
    induction fuel with
    | zero=>
      intro listed f' w' hs hD ht hsm hag hR hlt hdis hc;have hlm:l.length=m:=by omega
      have hall:∀ i,i < m→listed.getD i false=true:=by
        intro i hi;have h0:(List.range m).countP (fun i=>!listed.getD i false)=0:=by omega
        rw [List.countP_eq_zero] at h0;have:=h0 i (List.mem_range.2 hi)
        simpa using this
      refine⟨?_,?_⟩
      · cases hr:Region.ready .any l.toArray listed with
        | nil=>rfl
        | cons i r=>
          have hi:i ∈ Region.ready .any l.toArray listed:=by rw [hr];simp
          obtain⟨o,ho,hn,_⟩:=ready_inv listed i hi;have:i < l.length:=(List.getElem?_eq_some_iff.1 ho).1;rw [hall i oM] at hn;cases hn
      · have:=fin f' w' hsm hag (fun i hi=>hR i hi (hall i hi)) (fun i j g hi hj hne=>hdis i j g hi hj hne (hall i hi) (hall j hj))
        rw [List.drop_eq_nil_of_le oM] at this;unfold WL at this;exact this
    | succ fuel ih=>
      intro listed f' w' hs hD ht hsm hag hR hlt hdis hc;refine⟨fun hr=>?_,fun i hi=>?_⟩
      · -- nothing is ready:all is done
        have hall:∀ k,k≤m→∀ i,i < k→listed.getD i false=true:=by
          intro k
          induction k with
          | zero=>intro _ i hi;omega
          | succ k ihk=>
            intro hk i hi;have ihk':=ihk oM;by_cases hik:i < k
            · exact ihk' i hik
            · have:i=k:=by omega
              subst this;cases hb:listed.getD i false with
              | true=>rfl
              | false=>
                obtain⟨o,d,ho,_,_,_,hd,_,_⟩:=hget i oM;have:=ready_of listed i o hs ho hb (fun j hj=>ihk' j (hd j hj));rw [hr] at this;cases this
        have hlm:l.length=m:=by
          rcases Nat.lt_or_ge m l.length with hm' | hm'
          · exfalso
            have ho:l[m]? =some l[m]:=List.getElem?_eq_getElem hm';have hd:∀ j ∈ jz l[m],listed.getD j false=true:=fun j hj=>hall m (Nat.le_refl _) j (E4 (hl m hm') oM ho j hj)
            have:=ready_of listed m _ hs ho (ht m (Nat.le_refl _)) hd;rw [hr] at this;cases this
          · omega
        have:=fin f' w' hsm hag (fun i hi=>hR i hi (hall m (Nat.le_refl _) i hi)) (fun i j g hi hj hne=>hdis i j g hi hj hne (hall m (Nat.le_refl _) i hi) (hall m (Nat.le_refl _) j hj));rw [List.drop_eq_nil_of_le oM] at this;unfold WL at this;exact this
      · obtain⟨o,ho,hn,hd⟩:=ready_inv listed i hi
        have hil:i < l.length:=(List.getElem?_eq_some_iff.1 ho).1;unfold wpOp;simp only [List.getElem?_toArray,ho];by_cases him:i < m
        · obtain⟨o',d,ho',hdst,hSd,hg,hdl,hdd,hde⟩:=hget i him
          rw [ho] at ho';cases ho';have next:∀ v w'',Same [] w' w''→R i v w''→WQ (fr i) w' w'' v→wpAny P .any l.toArray Q fuel (listed.setIfInBounds i true) (AF n (upd f' d v)) w'':=by
            intro v w'' hs1 hr1 hfr;have hself:upd f' d v (y9 l.toArray i)=v:=by rw [hde];simp [upd]
            have hother:∀ j,j < m→i≠j→upd f' d v (y9 l.toArray j)=f' (y9 l.toArray j):=fun j hj hij=>by
              have hne:=hdd j hj hij;rw [hde] at hne;simp only [upd];have:Nat.beq (y9 l.toArray j) d=false:=by
                cases hb:Nat.beq (y9 l.toArray j) d
                · rfl
                · exact absurd (Nat.eq_of_beq_eq_true hb).symm hne
              simp [this]
            have hli:∀ j,i≠j→(listed.setIfInBounds i true).getD j false=listed.getD j false:=fun j hij=>by
              simp only [Array.getD_eq_getD_getElem?,Array.getElem?_setIfInBounds_ne hij]
            refine ih _ _ _ (by simpa using hs) (hD.set oM ho hd) ?_ (hsm.trans hs1) (T0 hSd hag) ?_ ?_ ?_ ?_
            · intro t hmt
              have:i≠t:=by omega
              simp only [Array.getD_eq_getD_getElem?,Array.getElem?_setIfInBounds_ne this]
              simpa only [Array.getD_eq_getD_getElem?] using ht t hmt
            · intro j hj hl'
              by_cases hij:i=j
              · subst hij
                rw [hde];have:upd f' d v d=v:=by simp [upd]
                rw [this];exact hr1
              · have hne:=hdd j hj hij
                rw [hde] at hne;have hu:upd f' d v (y9 l.toArray j)=f' (y9 l.toArray j):=by
                  simp only [upd];have:Nat.beq (y9 l.toArray j) d=false:=by
                    cases hb:Nat.beq (y9 l.toArray j) d
                    · rfl
                    · exact absurd (Nat.eq_of_beq_eq_true hb).symm hne
                  simp [this]
                rw [hu];refine hst j _ _ _ (hR j hj ?_) hs1
                simpa only [Array.getD_eq_getD_getElem?,Array.getElem?_setIfInBounds_ne hij] using hl'
            · intro j g hj hl' hf hbl
              by_cases hij:i=j
              · subst hij
                rw [hself] at hbl;exact(hfr hf g hbl).2
              · rw [hother j hj hij] at hbl
                rw [hli j hij] at hl';exact nLL (hlt j g hj hl' hf hbl) hs1.size
            · intro j k g hj hk hjk hlj hlk hfj hfk hbj hbk
              by_cases hij:i=j
              · subst hij
                have hik:i≠k:=hjk;rw [hself] at hbj;rw [hother k hk hik] at hbk;rw [hli k hik] at hlk;have:=hlt k g hk hlk hfk hbk;have:=(hfr hfj g hbj).1;omega
              · by_cases hik:i=k
                · subst hik
                  rw [hself] at hbk;rw [hother j hj hij] at hbj;rw [hli j hij] at hlj;have:=hlt j g hj hlj hfj hbj;have:=(hfr hfk g hbk).1;omega
                · rw [hother j hj hij] at hbj
                  rw [hother k hk hik] at hbk;rw [hli j hij] at hlj;rw [hli k hik] at hlk;exact hdis j k g hj hk hjk hlj hlk hfj hfk hbj hbk
            · have hlt:=o6 (p:=fun i=>!listed.getD i false) (q:=fun k=>!(listed.setIfInBounds i true).getD k false) (fun x hx=>by
                by_cases hix:i=x
                · subst hix;simp [hn]
                · simpa only [Array.getD_eq_getD_getElem?,Array.getElem?_setIfInBounds_ne hix] using hx) (List.range m) i (List.mem_range.2 him) (by simp [hn]) (by
                  have:i < listed.size:=by omega
                  simp [this])
              omega
          have hstep:=step i o him ho f' w' hsm hag (fun j hj=>hR j (Nat.lt_trans (hdl j hj) him) (hd j hj)) (fun j k g hj hk hne=>hdis j k g (Nat.lt_trans (hdl j hj) him) (Nat.lt_trans (hdl k hk) him) hne (hd j hj) (hd k hk));by_cases hwt:Region.wanted o (yielded l.toArray (AF n f').tmps)=true
          · rw [if_pos hwt]
            left
            have hst1:=hstep.1 hwt;unfold OS at hst1;refine hst1 _ _ ?_
            rintro v w'' ⟨hs1,hr1,hfr⟩
            rw [hdst,oZ];exact next v w'' hs1 hr1 hfr
          · rw [if_neg hwt,hdst,oZ]
            exact next undef w' (Same.refl _ _) (hstep.2 (by simpa using hwt)) (fun _ g hg=>by cases hg)
        · -- the tail
          have hall:=E5 (hl i hil) oM ho hD hd;have:i=m:=by
            rcases Nat.lt_or_ge m i with h | h
            · have h1:=hall m h
              rw [ht m (Nat.le_refl _)] at h1;cases h1
            · omega
          subst this;have hW:=fin f' w' hsm hag (fun j hj=>hR j hj (hall j hj)) (fun i' j g hi' hj hne=>hdis i' j g hi' hj hne (hall i' hi') (hall j hj));have hT:=Wy (Q:=Q) hl (l.length - i) (fuel + 1) i listed (AF n f') w' oM oM (Nat.le_refl _) hs hD hall ht (by unfold WL at hW;exact hW);have:=hT.2 i hi;unfold wpOp at this;simp only [List.getElem?_toArray,ho] at this;exact this
  have h0:=key l.length (Array.replicate l.length false) f { w with drawn:=w.drawn + 1 } (by simp) (fun j o _ h=>by
    simp only [Array.getD_eq_getD_getElem?,Array.getElem?_replicate] at h
    split at h <;> cases h) (fun t _=>by
    simp only [Array.getD_eq_getD_getElem?,Array.getElem?_replicate];split <;> rfl) (Same.drew w 1) I8 (fun i hi h=>by
    simp only [Array.getD_eq_getD_getElem?,Array.getElem?_replicate] at h
    split at h <;> cases h) (fun i g hi h=>by
    simp only [Array.getD_eq_getD_getElem?,Array.getElem?_replicate] at h
    split at h <;> cases h) (fun i j g hi hj hne h=>by
    simp only [Array.getD_eq_getD_getElem?,Array.getElem?_replicate] at h
    split at h <;> cases h) (by
      have:=List.countP_le_length (p:=fun i=>!(Array.replicate l.length false).getD i false) (l:=List.range m);simp only [List.length_range] at this
      omega)
  simpa using h0
theorem c_monoT {id:Nat} {l:List Oper} (m:Nat) (S:List Nat) (fr:Nat→Bool) (R:Nat→Value→World→Prop) (hm:P.follows .mixedOrders=true) (hB:MQ l m S=true)
    (hst:∀ i v w w',R i v w→Same [] w w'→R i v w')
    (step:∀ i o,i < m→l[i]? =some o→∀ f' w',Same [] w w'→Ag S f' f→(∀ j ∈ jz o,R j (f' (y9 l.toArray j)) w')→(∀ j k g,j ∈ jz o→k ∈ jz o→j≠k→fr j=true→fr k=true→jj (f' (y9 l.toArray j))=some g→jj (f' (y9 l.toArray k))≠some g)→OS P n f' w' o (fun v w''=>Same [] w' w''∧R i v w''∧WQ (fr i) w' w'' v))
    (fin:∀ f' w',Same [] w w'→Ag S f' f→(∀ i,i < m→R i (f' (y9 l.toArray i)) w')→(∀ i j g,i < m→j < m→i≠j→fr i=true→fr j=true→jj (f' (y9 l.toArray i))=some g→jj (f' (y9 l.toArray j))≠some g)→WL P l.toArray Q (l.drop m) n f' w'):WC P (.region id l.toArray true) Q n f w:=by
  refine c_monoG m S fr R hm (mono_g hB) hst (fun i o hi ho f' w' hs hag hd hdis=>⟨fun _=>step i o hi ho f' w' hs hag hd hdis,fun hw=>?_⟩) fin;have hB':=hB;simp only [MQ,Bool.and_eq_true,List.all_eq_true,List.mem_range] at hB';have h:=hB'.1.1 i hi;simp only [ho,Bool.and_eq_true] at h;obtain⟨⟨⟨_,h2⟩,_⟩,_⟩:=h;rw [Option.isNone_iff_eq_none] at h2;simp [Region.wanted,h2] at hw
theorem kK {id:Nat} {l:List Oper} (m:Nat) (S:List Nat) (fr:Nat→Bool) (R:Nat→Value→World→Prop) (hm:P.follows .mixedOrders=true) (hB:MQ l m S=true)
    (hst:∀ i v w1 w2,R i v w1→Same [] w1 w2→R i v w2)
    (step:∀ i o,i < m→l[i]? =some o→∀ g w',Same [] w w'→(∀ j ∈ jz o,R j (g (y9 l.toArray j)) w')→(∀ j k b,j ∈ jz o→k ∈ jz o→j≠k→fr j=true→fr k=true→jj (g (y9 l.toArray j))=some b→jj (g (y9 l.toArray k))≠some b)→OS P n (ovr S g f) w' o (fun v w''=>Same [] w' w''∧R i v w''∧WQ (fr i) w' w'' v))
    (fin:∀ g w',Same [] w w'→(∀ i,i < m→R i (g (y9 l.toArray i)) w')→(∀ i j b,i < m→j < m→i≠j→fr i=true→fr j=true→jj (g (y9 l.toArray i))=some b→jj (g (y9 l.toArray j))≠some b)→WL P l.toArray Q (l.drop m) n (ovr S g f) w'):WC P (.region id l.toArray true) Q n f w:=by
  refine c_monoT m S fr R hm hB hst (fun i o hi ho f' w' hs hag hd hdis=>?_) (fun f' w' hs hag hR hdis=>?_)
  · have:=step i o hi ho f' w' hs hd hdis
    rwa [← XJ hag] at this
  · have:=fin f' w' hs hR hdis
    rwa [← XJ hag] at this
theorem c_monoS {id:Nat} {l:List Oper} (m:Nat) (S:List Nat) (X:List Nat) (s:Nat) (R:Nat→Value→World→Prop) (P1:World→Prop) (hm:P.follows .mixedOrders=true) (hB:MQ l m S=true)
    (hst:∀ i v w w',R i v w→Same [] w w'→R i v w') (hP1:∀ w w',P1 w→Same [] w w'→P1 w')
    (step:∀ i o,i < m→i≠s→l[i]? =some o→∀ f' w',Same X w w'→Ag S f' f→(∀ j ∈ jz o,R j (f' (y9 l.toArray j)) w')→OS P n f' w' o (fun v w''=>Same [] w' w''∧R i v w''))
    (stepS:∀ o,l[s]? =some o→∀ f' w',Same [] w w'→Ag S f' f→(∀ j ∈ jz o,R j (f' (y9 l.toArray j)) w')→OS P n f' w' o (fun v w''=>Same X w' w''∧R s v w''∧P1 w''∧∀ k v,k≠s→R k v w'→R k v w''))
    (hsm:s < m)
    (fin:∀ f' w',Same X w w'→P1 w'→Ag S f' f→(∀ i,i < m→R i (f' (y9 l.toArray i)) w')→WL P l.toArray Q (l.drop m) n f' w'):WC P (.region id l.toArray true) Q n f w:=by
  unfold WC;refine wp_region_any hm ?_;simp only [MQ,Bool.and_eq_true,List.all_eq_true,List.mem_range,decide_eq_true_eq] at hB;obtain⟨⟨hh,hlen⟩,hl⟩:=hB;have hget:∀ i,i < m→∃ o d,l[i]? =some o∧o.dst=some d∧mem S d=true∧o.guard=none∧(∀ j ∈ jz o,j < i)∧(∀ j,j < m→i≠j→y9 l.toArray i≠y9 l.toArray j)∧y9 l.toArray i=d:=by
    intro i hi;have h:=hh i hi;cases ho:l[i]? with
    | none=>simp [ho] at h
    | some o=>
      simp only [ho,Bool.and_eq_true] at h;obtain⟨⟨⟨h1,h2⟩,h3⟩,h4⟩:=h;cases hd:o.dst with
      | none=>simp [hd] at h1
      | some d=>
        simp only [hd] at h1;refine⟨o,d,rfl,hd,h1,by simpa using h2,fun j hj=>by simpa using List.all_eq_true.1 h3 j hj,fun j hj hne=>?_,by simp [y9,ho,hd]⟩;have:=List.all_eq_true.1 h4 j (List.mem_range.2 hj)
        simpa [hne] using this
  have ready_of:∀ (listed:Array Bool) (i:Nat) (o:Oper),listed.size=l.length→l[i]? =some o→listed.getD i false=false→(∀ j ∈ jz o,listed.getD j false=true)→i ∈ Region.ready .any l.toArray listed:=by
    intro listed i o hs ho hn hd;have hi:i < l.length:=(List.getElem?_eq_some_iff.1 ho).1;simp only [Region.ready,List.mem_filter,List.mem_range,Bool.and_eq_true,Bool.not_eq_true'];refine⟨by simpa using hi,?_,?_⟩
    · simp only [Array.getD_eq_getD_getElem?] at hn ⊢
      have:i < listed.size:=by omega
      simp only [Array.getElem?_eq_getElem this,Option.getD_some] at hn ⊢;exact hn
    · simp only [List.getElem?_toArray,ho,Option.map_some,Option.getD_some]
      exact V2 hd
  have ready_inv:∀ (listed:Array Bool) (i:Nat),i ∈ Region.ready .any l.toArray listed→∃ o,l[i]? =some o∧listed.getD i false=false∧∀ j ∈ jz o,listed.getD j false=true:=by
    intro listed i hi;simp only [Region.ready,List.mem_filter,List.mem_range,Bool.and_eq_true,Bool.not_eq_true'] at hi;obtain⟨hi,hn,hd⟩:=hi;have hi':i < l.length:=by simpa using hi
    refine⟨l[i],List.getElem?_eq_getElem hi',?_,?_⟩
    · simp only [Array.getD_eq_getD_getElem?] at hn ⊢
      cases hq:listed[i]? with
      | none=>rfl
      | some b=>simpa [hq] using hn
    · simp only [List.getElem?_toArray,List.getElem?_eq_getElem hi',Option.map_some,Option.getD_some] at hd
      exact Oj hd
  have key:∀ (fuel:Nat) (listed:Array Bool) (f':Fr) (w':World),listed.size=l.length→Dn l listed→(∀ t,m≤t→listed.getD t false=false)→(listed.getD s false=false→Same [] w w')→Same X w w'→(listed.getD s false=true→P1 w')→Ag S f' f→(∀ i,i < m→listed.getD i false=true→R i (f' (y9 l.toArray i)) w')→
      (List.range m).countP (fun i=>!listed.getD i false) + (l.length - m)≤fuel→wpAny P .any l.toArray Q fuel listed (AF n f') w':=by
    intro fuel
    induction fuel with
    | zero=>
      intro listed f' w' hs hD ht hS0 hSX hPP hag hR hc;have hlm:l.length=m:=by omega
      have hall:∀ i,i < m→listed.getD i false=true:=by
        intro i hi;have h0:(List.range m).countP (fun i=>!listed.getD i false)=0:=by omega
        rw [List.countP_eq_zero] at h0;have:=h0 i (List.mem_range.2 hi)
        simpa using this
      refine⟨?_,?_⟩
      · cases hr:Region.ready .any l.toArray listed with
        | nil=>rfl
        | cons i r=>
          have hi:i ∈ Region.ready .any l.toArray listed:=by rw [hr];simp
          obtain⟨o,ho,hn,_⟩:=ready_inv listed i hi;have:i < l.length:=(List.getElem?_eq_some_iff.1 ho).1;rw [hall i oM] at hn;cases hn
      · have:=fin f' w' hSX (hPP (hall s hsm)) hag (fun i hi=>hR i hi (hall i hi))
        rw [List.drop_eq_nil_of_le oM] at this;unfold WL at this;exact this
    | succ fuel ih=>
      intro listed f' w' hs hD ht hS0 hSX hPP hag hR hc;refine⟨fun hr=>?_,fun i hi=>?_⟩
      · -- nothing is ready:all is done
        have hall:∀ k,k≤m→∀ i,i < k→listed.getD i false=true:=by
          intro k
          induction k with
          | zero=>intro _ i hi;omega
          | succ k ihk=>
            intro hk i hi;have ihk':=ihk oM;by_cases hik:i < k
            · exact ihk' i hik
            · have:i=k:=by omega
              subst this;cases hb:listed.getD i false with
              | true=>rfl
              | false=>
                obtain⟨o,d,ho,_,_,_,hd,_,_⟩:=hget i oM;have:=ready_of listed i o hs ho hb (fun j hj=>ihk' j (hd j hj));rw [hr] at this;cases this
        have hlm:l.length=m:=by
          rcases Nat.lt_or_ge m l.length with hm' | hm'
          · exfalso
            have ho:l[m]? =some l[m]:=List.getElem?_eq_getElem hm';have hd:∀ j ∈ jz l[m],listed.getD j false=true:=fun j hj=>hall m (Nat.le_refl _) j (E4 (hl m hm') oM ho j hj)
            have:=ready_of listed m _ hs ho (ht m (Nat.le_refl _)) hd;rw [hr] at this;cases this
          · omega
        have:=fin f' w' hSX (hPP (hall m (Nat.le_refl _) s hsm)) hag (fun i hi=>hR i hi (hall m (Nat.le_refl _) i hi));rw [List.drop_eq_nil_of_le oM] at this;unfold WL at this;exact this
      · obtain⟨o,ho,hn,hd⟩:=ready_inv listed i hi
        have hil:i < l.length:=(List.getElem?_eq_some_iff.1 ho).1;unfold wpOp;simp only [List.getElem?_toArray,ho];by_cases him:i < m
        · obtain⟨o',d,ho',hdst,hSd,hg,hdl,hdd,hde⟩:=hget i him
          rw [ho] at ho';cases ho';have hnw:o.guard=none:=hg;rw [if_pos (by simp [Region.wanted,hnw])]
          left
          have next:∀ v w'',(i≠s→Same [] w' w'')→Same X w' w''→(i=s→P1 w'')→R i v w''→(∀ k v,k≠i→R k v w'→R k v w'')→wpAny P .any l.toArray Q fuel (listed.setIfInBounds i true) (AF n (upd f' d v)) w'':=by
            intro v w'' hs0 hsX hs1 hr1 hro;have hother:∀ j,j < m→i≠j→upd f' d v (y9 l.toArray j)=f' (y9 l.toArray j):=fun j hj hij=>by
              have hne:=hdd j hj hij;rw [hde] at hne;simp only [upd];have:Nat.beq (y9 l.toArray j) d=false:=by
                cases hb:Nat.beq (y9 l.toArray j) d
                · rfl
                · exact absurd (Nat.eq_of_beq_eq_true hb).symm hne
              simp [this]
            have hli:∀ j,i≠j→(listed.setIfInBounds i true).getD j false=listed.getD j false:=fun j hij=>by
              simp only [Array.getD_eq_getD_getElem?,Array.getElem?_setIfInBounds_ne hij]
            have hii:(listed.setIfInBounds i true).getD i false=true:=by
              have:i < listed.size:=by omega
              simp [this]
            refine ih _ _ _ (by simpa using hs) (hD.set oM ho hd) ?_ ?_ ?_ ?_ (T0 hSd hag) ?_ ?_
            · intro t hmt
              have:i≠t:=by omega
              rw [hli t this];exact ht t hmt
            · intro hl
              by_cases e:i=s
              · subst e;rw [hii] at hl;cases hl
              · rw [hli s e] at hl;exact(hS0 hl).trans (hs0 e)
            · by_cases e:i=s
              · subst e;exact((hS0 hn).weak (by simp)).trans hsX
              · exact hSX.trans hsX
            · intro hl
              by_cases e:i=s
              · exact hs1 e
              · rw [hli s e] at hl;exact hP1 _ _ (hPP hl) (hs0 e)
            · intro j hj hl'
              by_cases hij:i=j
              · subst hij
                rw [hde];have:upd f' d v d=v:=by simp [upd]
                rw [this];exact hr1
              · rw [hother j hj hij]
                rw [hli j hij] at hl';exact hro j _ (Ne.symm hij) (hR j hj hl')
            · have hlt:=o6 (p:=fun i=>!listed.getD i false) (q:=fun k=>!(listed.setIfInBounds i true).getD k false) (fun x hx=>by
                by_cases hix:i=x
                · subst hix;simp [hn]
                · simpa only [Array.getD_eq_getD_getElem?,Array.getElem?_setIfInBounds_ne hix] using hx) (List.range m) i (List.mem_range.2 him) (by simp [hn]) (by rw [hii];rfl)
              omega
          by_cases e:i=s
          · subst e
            have h1:=stepS o ho f' w' (hS0 hn) hag (fun j hj=>hR j (Nat.lt_trans (hdl j hj) him) (hd j hj));unfold OS at h1;refine h1 _ _ ?_
            rintro v w'' ⟨hsX,hr1,hp1,hro⟩
            rw [hdst,oZ];exact next v w'' (fun h=>absurd rfl h) hsX (fun _=>hp1) hr1 hro
          · have h1:=step i o him e ho f' w' hSX hag (fun j hj=>hR j (Nat.lt_trans (hdl j hj) him) (hd j hj))
            unfold OS at h1;refine h1 _ _ ?_
            rintro v w'' ⟨hs1,hr1⟩
            rw [hdst,oZ];exact next v w'' (fun _=>hs1) (hs1.weak (by simp)) (fun h=>absurd h e) hr1 (fun k v _ h=>hst k v _ _ h hs1)
        · -- the tail
          have hall:=E5 (hl i hil) oM ho hD hd;have:i=m:=by
            rcases Nat.lt_or_ge m i with h | h
            · have h1:=hall m h
              rw [ht m (Nat.le_refl _)] at h1;cases h1
            · omega
          subst this;have hW:=fin f' w' hSX (hPP (hall s oM)) hag (fun j hj=>hR j hj (hall j hj));have hT:=Wy (Q:=Q) hl (l.length - i) (fuel + 1) i listed (AF n f') w' oM oM (Nat.le_refl _) hs hD hall ht (by unfold WL at hW;exact hW);have:=hT.2 i hi;unfold wpOp at this;simp only [List.getElem?_toArray,ho] at this;exact this
  have h0:=key l.length (Array.replicate l.length false) f { w with drawn:=w.drawn + 1 } (by simp) (fun j o _ h=>by
    simp only [Array.getD_eq_getD_getElem?,Array.getElem?_replicate] at h
    split at h <;> cases h) (fun t _=>by
    simp only [Array.getD_eq_getD_getElem?,Array.getElem?_replicate];split <;> rfl) (fun _=>Same.drew w 1) ((Same.drew w 1).weak (by simp)) (fun h=>by
    simp only [Array.getD_eq_getD_getElem?,Array.getElem?_replicate] at h
    split at h <;> cases h) I8 (fun i hi h=>by
    simp only [Array.getD_eq_getD_getElem?,Array.getElem?_replicate] at h
    split at h <;> cases h) (by
      have:=List.countP_le_length (p:=fun i=>!(Array.replicate l.length false).getD i false) (l:=List.range m);simp only [List.length_range] at this
      omega)
  simpa using h0
theorem Wk {id:Nat} {l:List Oper} (m:Nat) (S:List Nat) (X:List Nat) (s:Nat) (R:Nat→Value→World→Prop) (P1:World→Prop) (hm:P.follows .mixedOrders=true) (hB:MQ l m S=true)
    (hst:∀ i v w1 w2,R i v w1→Same [] w1 w2→R i v w2) (hP1:∀ w1 w2,P1 w1→Same [] w1 w2→P1 w2)
    (step:∀ i o,i < m→i≠s→l[i]? =some o→∀ g w',Same X w w'→(∀ j ∈ jz o,R j (g (y9 l.toArray j)) w')→OS P n (ovr S g f) w' o (fun v w''=>Same [] w' w''∧R i v w''))
    (stepS:∀ o,l[s]? =some o→∀ g w',Same [] w w'→(∀ j ∈ jz o,R j (g (y9 l.toArray j)) w')→OS P n (ovr S g f) w' o (fun v w''=>Same X w' w''∧R s v w''∧P1 w''∧∀ k v,k≠s→R k v w'→R k v w''))
    (hsm:s < m)
    (fin:∀ g w',Same X w w'→P1 w'→(∀ i,i < m→R i (g (y9 l.toArray i)) w')→WL P l.toArray Q (l.drop m) n (ovr S g f) w'):WC P (.region id l.toArray true) Q n f w:=by
  refine c_monoS m S X s R P1 hm hB hst hP1 (fun i o hi hne ho f' w' hs hag hd=>?_) (fun o ho f' w' hs hag hd=>?_) hsm (fun f' w' hs hp hag hR=>?_)
  · have:=step i o hi hne ho f' w' hs hd
    rwa [← XJ hag] at this
  · have:=stepS o ho f' w' hs hd
    rwa [← XJ hag] at this
  · have:=fin f' w' hs hp hR
    rwa [← XJ hag] at this
def WA (P:Program) (l:List Oper) (Q:Exit→Act→World→Prop) (fuel:Nat) (listed:Array Bool) (n:Nw) (f:Fr) (w:World):Prop:=wpAny P .any l.toArray Q fuel listed (AF n f) w
def AllI (l:List Oper) (p:Nat→Oper→Prop):List Nat→Prop
  | []=>True
  | i :: is=>(∀ o,l[i]? =some o→p i o)∧AllI l p is
theorem AllI.get {l:List Oper} {p:Nat→Oper→Prop}:∀ {is:List Nat},AllI l p is→∀ i ∈ is,∀ o,l[i]? =some o→p i o
  | [],_,i,hi,_,_=>by cases hi
  | j :: is,h,i,hi,o,ho=>by
    rcases List.mem_cons.1 hi with rfl | hi
    · exact h.1 o ho
    · exact AllI.get h.2 i hi o ho
theorem gw {ops:Array Oper} {dst:Option Nat} {op:Op} {ty:TypeId} {pos:String} {af:Array Edge} {t j:Nat} {b c:Bool} (hj:(ops[j]?).bind (·.dst)=some t) (hv:ev n f (.tmp t)= .bool c):Region.wanted ⟨dst,op,ty,pos,af,some (j,b)⟩ (yielded ops (AF n f).tmps)=(c == b):=by
  simp [Region.wanted,ZJ ops n f j t c hj hv]
end mono
section more
variable {P:Program} {Q:Exit→Act→World→Prop} {n:Nw} {f:Fr} {w w':World} {ops:Array Oper} {rest:List Oper} {d:Nat} {ty:TypeId} {pos:String} {af:Array Edge} {v:Value}
def Own (w:World) (base:Nat) (e:TypeId) (sz:Nat) (A:Option Addr) (k cap:Nat) (xs:List Value):Prop:=w.ownsRow base e sz (.slice A k cap) k xs
def aL:Option Addr→List Nat
  | some a=>[a.block]
  | none=>[]
theorem Own.nil (w:World) (base:Nat) (e:TypeId) (sz:Nat):Own w base e sz none 0 0 []:=World.ownsRow_nil w base e sz
section own
variable {base:Nat} {e:TypeId} {sz:Nat} {A:Option Addr} {k cap:Nat} {xs:List Value}
theorem Own.lt (h:Own w base e sz A k cap xs):∀ g ∈ aL A,base≤g∧g < w.heap.size:=fun g hg=>by
  cases A with
  | none=>cases hg
  | some a=>
    refine World.ownsRow.lt h g ?_
    simp only [aL,List.mem_singleton] at hg
    subst hg;rfl
theorem Own.tr {X:List Nat} (h:Own w base e sz A k cap xs) (hs:Same X w w') (hx:∀ g ∈ aL A,g ∉ X):Own w' base e sz A k cap xs:=by
  refine⟨h.1,?_⟩;rcases h.2 with hn | ⟨g,c,cur,hv,hb,hg,r⟩
  · exact .inl hn
  · refine .inr ⟨g,c,cur,hv,hb,?_,r⟩
    rw [hs.blk g (y5 hg) (hx g (by cases hv;simp [aL]))];exact hg
theorem Own.tr0 (h:Own w base e sz A k cap xs) (hs:Same [] w w'):Own w' base e sz A k cap xs:=h.tr hs (by simp)
theorem Own.tr1 {b:Nat} (h:Own w base e sz A k cap xs) (hs:Same [b] w w') (hx:∀ g ∈ aL A,g≠b):Own w' base e sz A k cap xs:=h.tr hs (fun g hg=>by simpa using hx g hg)
theorem Own.len (h:Own w base e sz A k cap xs):xs.length=k * sz:=h.1
theorem Own.max (h:Own w base e sz A k cap xs):k≤9223372036854775807:=by
  rcases h.2 with ⟨_,hn⟩ | ⟨g,c,cur,hv,hb,hg,hk,hm,r⟩
  · omega
  · simp only [maxLen] at hm;omega
theorem Own.cap_le (h:Own w base e sz A k cap xs):k≤cap:=by
  rcases h.2 with ⟨hv,hn⟩ | ⟨g,c,cur,hv,hb,hg,hk,hm,r⟩
  · cases hv;omega
  · cases hv;exact hk
theorem Own.cell (h:Own w base e sz A k cap xs):xs≠[]→∃ g,A=some ⟨g,0,none⟩∧base≤g∧g < w.heap.size∧∀ j u,xs[j]? =some u→w.cell? ⟨g,j,none⟩=some u:=fun hne=>by
  rcases h.2 with ⟨_,hn⟩ | ⟨g,c,cur,hv,hb,hg,_⟩
  · have h1:=h.1
    rw [hn,Nat.zero_mul] at h1
    exact absurd (List.length_eq_zero_iff.1 h1) hne
  · cases hv
    refine⟨g,rfl,hb,y5 hg,fun j u hu=>?_⟩
    have:=World.ownsRow.cells h (g:=g) rfl j u hu
    have hadd:(⟨g,0,none⟩:Addr).add j=⟨g,j,none⟩:=by unfold Addr.add;split <;> simp_all
    rwa [hadd] at this
theorem Own.take {k':Nat} (h:Own w base e sz A k cap xs) (hk:k'≤k) (hn:0 < k):Own w base e sz A k' cap (xs.take (k' * sz)):=by
  rcases h.2 with ⟨_,h0⟩ | ⟨g,c,cur,hv,hb,hg,hkc,hm,hs,ht⟩
  · omega
  · cases hv
    have hle:k' * sz≤k * sz:=Nat.mul_le_mul_right sz hk;refine⟨by rw [List.length_take,h.1];omega,.inr ⟨g,cap,cur,rfl,hb,hg,by omega,hm,hs,?_⟩⟩;rw [← ht,List.take_take,Nat.min_eq_left hle]
theorem KX {b m:Nat} {cs:Array Value} (h:Blk w b e cs) (hb:base≤b) (hs:cs.size=m * sz) (hm:m≤9223372036854775807):Own w base e sz (some ⟨b,0,none⟩) m m cs.toList:=by
  refine⟨by rw [Array.length_toList,hs],.inr ⟨b,m,cs,rfl,hb,h,Nat.le_refl _,by simpa [maxLen] using hm,hs,?_⟩⟩;rw [List.take_of_length_le (by rw [Array.length_toList,hs];exact Nat.le_refl _)]
theorem Own.low {base':Nat} (h:Own w base e sz A k cap xs) (hb:base'≤base):Own w base' e sz A k cap xs:=by
  refine⟨h.1,?_⟩;rcases h.2 with hn | ⟨g,c,cur,hv,hbb,r⟩
  · exact .inl hn
  · exact .inr ⟨g,c,cur,hv,nLT hb hbb,r⟩
theorem J6 {A:Option Addr} {k cap:Nat} (h:w.grownBy w' (Value.ownBlock (.slice A k cap))):Same (aL A) w w':=by
  refine⟨h.os,h.tape,h.output,h.size,fun j hj hx=>h.block j hj (fun e=>hx ?_)⟩;cases A with
  | none=>cases e
  | some a=>simp only [Value.ownBlock,Option.some.injEq] at e;subst e;simp [aL]
theorem run_app {t:TypeId} {zv:Value} {by' m c b:Nat} {cs:Array Value} (hu:P.underlying t=some (.slice e)) (hi:(P.info? e).map (fun i=>(i.zero,i.size,i.bytes))=some (some zv,sz,by')) (hzs:zv.cells.size=sz) (hsz:0 < sz)
    (hown:Own w base e sz A k cap xs) (hb:Blk w b e cs) (hl:cs.size=m * sz) (h1:cs.toList.all (·.oneCell')=true) (hm:0 < m) (h63:k + m≤9223372036854775807) (hbytes:(k + m) * by'≤140737488355328) (hbase:base≤w.heap.size):
    ∃ g cap' w1,(Builtin.append_ #[t,t] ty #[.slice A k cap,.slice (some ⟨b,0,none⟩) m c]).run P w= .ok (.slice (some ⟨g,0,none⟩) (k + m) cap') w1∧Own w1 base e sz (some ⟨g,0,none⟩) (k + m) cap' (xs ++ cs.toList)∧Same (aL A) w w1∧(aL A= [g]∨w.heap.size≤g):=by
  obtain⟨i,hq,hzz⟩:=Option.map_eq_some_iff.1 hi;simp only [Prod.mk.injEq] at hzz;obtain⟨g,cap',w1,hr,h2,h3,h4,h5⟩:=run_append_lies (P:=P) w t ty base e i zv sz by' hu hq hzz.1 hzz.2.1 hzz.2.2 hzs hsz _ k xs hown ⟨b,0,none⟩ m c cs.toList (by simpa using hl) (World.news_of_block hb) (List.all_eq_true.1 h1) hm h63 hbytes hbase _ rfl;refine⟨g,cap',w1,hr,h2,J6 h3,?_⟩;rcases h4 with h4 | h4
  · left
    cases A with
    | none=>cases h4
    | some a=>simp only [Value.ownBlock,Option.some.injEq] at h4;subst h4;rfl
  · right;omega
theorem vX {x y:Operand} {t:TypeId} {zv:Value} {by' m c b:Nat} {cs:Array Value} (hu:P.underlying t=some (.slice e)) (hi:(P.info? e).map (fun i=>(i.zero,i.size,i.bytes))=some (some zv,sz,by')) (hzs:zv.cells.size=sz) (hsz:0 < sz)
    (hown:Own w base e sz A k cap xs) (hb:Blk w b e cs) (hx:ev n f x= .slice A k cap) (hy:ev n f y= .slice (some ⟨b,0,none⟩) m c) (hl:cs.size=m * sz) (h1:cs.toList.all (·.oneCell')=true) (hm:0 < m) (h63:k + m≤9223372036854775807) (hbytes:(k + m) * by'≤140737488355328) (hbase:base≤w.heap.size)
    (K:∀ g cap' w1,Own w1 base e sz (some ⟨g,0,none⟩) (k + m) cap' (xs ++ cs.toList)→Same (aL A) w w1→(aL A= [g]∨w.heap.size≤g)→WL P ops Q rest n (upd f d (.slice (some ⟨g,0,none⟩) (k + m) cap')) w1):
    WL P ops Q (⟨some d,.call { callee:= .builtin .append,args:=#[x,y],argTypes:=#[t,t] },ty,pos,af,none⟩ :: rest) n f w:=by
  obtain⟨g,cap',w1,hr,h2,h3,h4⟩:=run_app (P:=P) (ty:=ty) (c:=c) hu hi hzs hsz hown hb hl h1 hm h63 hbytes hbase;refine wl (v:= .slice (some ⟨g,0,none⟩) (k + m) cap') (w':=w1) ?_ (K g cap' w1 h2 h3 h4);simp only [RV,execOp,resolve,invoke,builtin,Sem.run_bind,Sem.run_pure,Result.andThen_ok,List.map_toArray,List.map_cons,List.map_nil,hx,hy,hr]
end own
theorem KZ {dst:Option Tmp} {gd:Option (Nat×Bool)} {x y:Operand} {t t' e:TypeId} {A:Option Addr} {k c:Nat} (hu:P.underlying t=some (.slice e)) (hx:ev n f x= .slice A k c) (hy:ev n f y= .slice none 0 0):
    RV P n f w ⟨dst,.binOp .eql t x y t',ty,pos,af,gd⟩ (.bool A.isNone) w:=by
  have h:(Op.equalIn Op.maxDepth t (.slice A k c) (.slice none 0 0)).run P w= .ok A.isNone w:=Lib.run_equalIn_slice_nil w 9999 t e A k c 0 0 hu;simp only [RV,execOp,hx,hy,eqGuard,binOp];simp [Op.equal,h]
theorem wl_bs0 {t e:TypeId} {sz:Nat} (hu:P.underlying t=some (.slice e)) (hs:(P.info? e).map (·.size)=some sz)
    (K:∀ b w1,Blk w1 b e #[]→Same [] w w1→w.heap.size≤b→WL P ops Q rest n (upd f d (.slice (some ⟨b,0,none⟩) 0 0)) w1):
    WL P ops Q (⟨some d,.buildSlice t 0 #[],ty,pos,af,none⟩ :: rest) n f w:=by
  refine wl (v:= .slice (some ⟨w.heap.size,0,none⟩) 0 0) (w':=w.alloc (.cells #[] e)) ?_ (K _ _ (heap_alloc_new w _) (gZ w _) (Nat.le_refl _));cases hq:P.info? e with
  | none=>simp [hq] at hs
  | some i=>
    unfold RV execOp Instr.buildSlice;have h0:¬(0:Nat) > 2 ^ 24:=by decide
    have hr0:∀ (f:Nat→Value),(Array.range 0).map f= #[]:=fun f=>by simp
    simp only [Sem.run_bind,run_underlying hu,Result.andThen_ok,sizeOf,typeInfo,run_program,hq,Sem.run_pure,Nat.zero_mul,h0,if_false,if_true,hr0,Instr.fill,List.map_toArray,List.map_nil,newRow,run_newObj];rfl
theorem Gk {x y:Operand} {t e:TypeId} {zv:Value} {base sz by' k cap m c b o':Nat} {A:Option Addr} {xs news:List Value} (hu:P.underlying t=some (.slice e)) (hi:(P.info? e).map (fun i=>(i.zero,i.size,i.bytes))=some (some zv,sz,by')) (hzs:zv.cells.size=sz) (hsz:0 < sz)
    (hown:Own w base e sz A k cap xs) (hx:ev n f x= .slice A k cap) (hy:ev n f y= .slice (some ⟨b,o',none⟩) m c) (hn:∀ j u,news[j]? =some u→w.cell? ⟨b,o' + j,none⟩=some u) (hl:news.length=m * sz) (h1:news.all (·.oneCell')=true) (hm:0 < m) (h63:k + m≤9223372036854775807) (hbytes:(k + m) * by'≤140737488355328) (hbase:base≤w.heap.size)
    (K:∀ g cap' w1,Own w1 base e sz (some ⟨g,0,none⟩) (k + m) cap' (xs ++ news)→Same (aL A) w w1→(aL A= [g]∨w.heap.size≤g)→WL P ops Q rest n (upd f d (.slice (some ⟨g,0,none⟩) (k + m) cap')) w1):
    WL P ops Q (⟨some d,.call { callee:= .builtin .append,args:=#[x,y],argTypes:=#[t,t] },ty,pos,af,none⟩ :: rest) n f w:=by
  obtain⟨i,hq,hzz⟩:=Option.map_eq_some_iff.1 hi;simp only [Prod.mk.injEq] at hzz;obtain⟨g,cap',w1,hr,h2,h3,h4,h5⟩:=run_append_lies (P:=P) w t ty base e i zv sz by' hu hq hzz.1 hzz.2.1 hzz.2.2 hzs hsz _ k xs hown ⟨b,o',none⟩ m c news hl (fun j u hj=>by rw [Addr.add_mid];exact hn j u hj) (List.all_eq_true.1 h1) hm h63 hbytes hbase _ rfl;refine wl (v:= .slice (some ⟨g,0,none⟩) (k + m) cap') (w':=w1) ?_ (K g cap' w1 h2 (J6 h3) ?_)
  · simp only [RV,execOp,resolve,invoke,builtin,Sem.run_bind,Sem.run_pure,Result.andThen_ok,List.map_toArray,List.map_cons,List.map_nil,hx,hy,hr]
  · rcases h4 with h4 | h4
    · left
      cases A with
      | none=>cases h4
      | some a=>simp only [Value.ownBlock,Option.some.injEq] at h4;subst h4;rfl
    · right;omega
theorem wl_gd {dst:Option Nat} {op:Op} (t:Nat) {j:Nat} {b:Bool} (hj:(ops[j]?).bind (·.dst)=some t) (hv:ev n f (.tmp t)= .bool b) (K:WL P ops Q (⟨dst,op,ty,pos,af,none⟩ :: rest) n f w):WL P ops Q (⟨dst,op,ty,pos,af,some (j,b)⟩ :: rest) n f w:=by
  unfold WL wpList at K ⊢;have hy:=ZJ ops n f j t b hj hv;have hw:Region.wanted ⟨dst,op,ty,pos,af,some (j,b)⟩ (yielded ops (AF n f).tmps)=true:=by simp [Region.wanted,hy]
  have hw0:Region.wanted ⟨dst,op,ty,pos,af,none⟩ (yielded ops (AF n f).tmps)=true:=rfl;rw [if_pos hw0] at K;rw [if_pos hw];exact K
theorem r_mf {dst:Option Tmp} {gd:Option (Nat×Bool)} {F:FuncId} {caps:Array Operand} {cv:List Value} (hc:caps.toList.map (ev n f)=cv):RV P n f w ⟨dst,.makeFunc (.func F) #[] caps,ty,pos,af,gd⟩ (.func (.func F) #[] cv.toArray) w:=by
  subst hc;have hm:(caps.toList.map (ev n f)).toArray=caps.map (ev n f):=by rw [← Array.toList_map,Array.toArray_toList]
  rw [hm];simp [RV,execOp,Instr.makeFunc]
theorem y6 {F:FuncId} {x:Operand} {xs:Array Operand} {ats:Array TypeId} {args:List Value} {cv:Array Value} {all:Array Value} {R:Ending→World→Prop} {dst:Option Nat} (hf:ev n f x= .func (.func F) #[] cv) (hF:zK P F=true) (hc:Calls P F all w R) (hargs:xs.toList.map (ev n f)=args) (hall:(args ++ cv.toList).toArray=all)
    (K:∀ e' w1,R e' w1→∃ v,e'= .returned v∧WL P ops Q rest n (T8 f dst v) w1):
    WL P ops Q (⟨dst,.call { callee:= .value x,args:=xs,argTypes:=ats },ty,pos,af,none⟩ :: rest) n f w:=by
  subst hall;unfold WL;refine wpList_plain rfl fun K' hK=>?_
  unfold Oper.wp;rw [vV];have hrun:(execOp (ev n f) ⟨dst,.call { callee:= .value x,args:=xs,argTypes:=ats },ty,pos,af,none⟩).run P w= .ok (.enter F (args ++ cv.toList).toArray) w:=by
    subst hargs;have hm:(xs.toList.map (ev n f)).toArray=xs.map (ev n f):=by rw [← Array.toList_map,Array.toArray_toList]
    have hm2:(xs.toList.map (ev n f) ++ cv.toList).toArray=xs.map (ev n f) ++ cv:=by rw [← hm];simp
    rw [hm2];simp [execOp,resolve,hf,Deferred.ofValue,invoke,Zq hF]
  rw [hrun,Oper.upon_enter];refine hc.mono fun e' w1 hR=>?_
  obtain⟨v,rfl,hk⟩:=K e' w1 hR;unfold WL at hk;exact hK _ _ (by rw [Bj];exact hk)
section pure2
variable {dst:Option Tmp} {gd:Option (Nat×Bool)} {x y:Operand} {t:TypeId}
theorem X1 {cs:Array Value} {off:Nat} {dd:TypeDesc} (hu:P.underlying t=some dd) (hd:dd.isRow=false) (hc:cs[off]? =some v):(part t cs off).run P w= .ok v w:=by
  have hagg:(isAgg t).run P w= .ok false w:=by
    unfold isAgg;rw [Sem.run_bind,run_underlying hu w];cases dd <;> simp_all
  simp [part,hagg,hc]
theorem run_partS {cs:Array Value} {off sz:Nat} {dd:TypeDesc} (hu:P.underlying t=some dd) (hd:dd.isRow=true) (hi:(P.info? t).map (·.size)=some sz):(part t cs off).run P w= .ok (.agg (cs.extract off (off + sz))) w:=by
  have hagg:(isAgg t).run P w= .ok true w:=by
    unfold isAgg;rw [Sem.run_bind,run_underlying hu w];cases dd <;> simp_all
  obtain⟨i,hq,rfl⟩:=Option.map_eq_some_iff.1 hi;simp [part,hagg,sizeOf,typeInfo,hq]
theorem F1 {cs:Array Value} {fs:Array Field} {i:Nat} {fl:Field} {dd:TypeDesc} (hu:P.underlying t=some (.struct fs)) (hf:fs[i]? =some fl) (hu1:P.underlying fl.type=some dd) (hd:dd.isRow=false) (hx:ev n f x= .agg cs) (hc:cs[fl.offset]? =some v):
    RV P n f w ⟨dst,.field t x i,ty,pos,af,gd⟩ v w:=by
  have:=X1 (P:=P) (w:=w) hu1 hd hc;simp [RV,execOp,Instr.field,run_underlying hu,hf,hx,asAgg,this]
theorem r_fdS {cs cs':Array Value} {fs:Array Field} {i sz:Nat} {fl:Field} {dd:TypeDesc} (hu:P.underlying t=some (.struct fs)) (hf:fs[i]? =some fl) (hu1:P.underlying fl.type=some dd) (hd:dd.isRow=true) (hi:(P.info? fl.type).map (·.size)=some sz) (hx:ev n f x= .agg cs) (hc:cs.extract fl.offset (fl.offset + sz)=cs'):
    RV P n f w ⟨dst,.field t x i,ty,pos,af,gd⟩ (.agg cs') w:=by
  subst hc;have:=run_partS (P:=P) (w:=w) (cs:=cs) (off:=fl.offset) hu1 hd hi;simp [RV,execOp,Instr.field,run_underlying hu,hf,hx,asAgg,this]
theorem run_eqF {a b c d':Int} {ti:TypeId} (ht:P.underlying t=some (.struct (P.fieldsOf t))) (hs:P.stoodInHeld t=false) (hf:(P.fieldsOf t).toList.map (fun f=>(f.name == "_",f.type,f.offset))= [(false,ti,0),(false,ti,1)]) (hi:P.underlying ti=some (.int .i64)):
    (Op.equalIn 10000 t (.agg #[.int .i64 a,.int .i64 b]) (.agg #[.int .i64 c,.int .i64 d'])).run P w= .ok (decide (a=c) && decide (b=d')) w:=by
  rw [run_equalIn_agg w 9999 t _ _ ht hs]
  generalize (P.fieldsOf t).toList=fs at hf
  obtain⟨f0,f1,rfl⟩:∃ f0 f1,fs= [f0,f1]:=by
    have hl:=congrArg List.length hf;simp only [List.length_map,List.length_cons,List.length_nil] at hl;cases fs with
    | nil=>cases hl
    | cons f0 fs=>
      cases fs with
      | nil=>cases hl
      | cons f1 fs=>
        cases fs with
        | nil=>exact⟨f0,f1,rfl⟩
        | cons _ _=>simp at hl
  · skip
    simp only [List.map_cons,List.map_nil,List.cons.injEq,Prod.mk.injEq,and_true,beq_eq_false_iff_ne] at hf;obtain⟨⟨h1,h2,h3⟩,h4,h5,h6⟩:=hf;have p1:(part f0.type #[.int .i64 a,.int .i64 b] f0.offset).run P w= .ok (.int .i64 a) w:=by rw [h2,h3];exact X1 hi rfl rfl
    have p2:(part f0.type #[.int .i64 c,.int .i64 d'] f0.offset).run P w= .ok (.int .i64 c) w:=by rw [h2,h3];exact X1 hi rfl rfl
    have p3:(part f1.type #[.int .i64 a,.int .i64 b] f1.offset).run P w= .ok (.int .i64 b) w:=by rw [h5,h6];exact X1 hi rfl rfl
    have p4:(part f1.type #[.int .i64 c,.int .i64 d'] f1.offset).run P w= .ok (.int .i64 d') w:=by rw [h5,h6];exact X1 hi rfl rfl
    have e1:=run_equalIn_int (P:=P) w 9998 f0.type .i64 .i64 a c (by rw [h2];exact hi);have e2:=run_equalIn_int (P:=P) w 9998 f1.type .i64 .i64 b d' (by rw [h5];exact hi);simp only [Op.eqFields,h1,h4,ne_eq,not_false_eq_true,if_true,Sem.run_bind,p1,p2,Result.andThen_ok,e1];by_cases hac:a=c
    · subst hac
      simp only [beq_self_eq_true,Bool.not_true,Bool.false_eq_true,if_false,Sem.run_bind,p3,p4,Result.andThen_ok,e2];by_cases hbd:b=d'
      · simp [hbd,Sem.run_pure]
      · simp [hbd,Sem.run_pure]
    · simp [hac,Sem.run_pure]
theorem r_eqF {a b c d':Int} {ti:TypeId} (hm:P.eqGuardType P.depth t=false) (ht:P.underlying t=some (.struct (P.fieldsOf t))) (hs:P.stoodInHeld t=false) (hf:(P.fieldsOf t).toList.map (fun f=>(f.name == "_",f.type,f.offset))= [(false,ti,0),(false,ti,1)]) (hi:P.underlying ti=some (.int .i64))
    (hx:ev n f x= .agg #[.int .i64 a,.int .i64 b]) (hy:ev n f y= .agg #[.int .i64 c,.int .i64 d']) {t':TypeId}:RV P n f w ⟨dst,.binOp .eql t x y t',ty,pos,af,gd⟩ (.bool (decide (a=c∧b=d'))) w:=by
  have h1:=run_eqF (P:=P) (w:=w) (a:=a) (b:=b) (c:=c) (d':=d') ht hs hf hi;have h2:=run_eqGuard_agg (P:=P) w .eql t x y #[.int .i64 a,.int .i64 b] #[.int .i64 c,.int .i64 d'] hm;simp only [RV,execOp,hx,hy,Sem.run_bind,h2,Result.andThen_ok,run_eql_struct,h1,Sem.run_pure,Bool.decide_and]
theorem r_neF {a b c d':Int} {ti:TypeId} (hm:P.eqGuardType P.depth t=false) (ht:P.underlying t=some (.struct (P.fieldsOf t))) (hs:P.stoodInHeld t=false) (hf:(P.fieldsOf t).toList.map (fun f=>(f.name == "_",f.type,f.offset))= [(false,ti,0),(false,ti,1)]) (hi:P.underlying ti=some (.int .i64))
    (hx:ev n f x= .agg #[.int .i64 a,.int .i64 b]) (hy:ev n f y= .agg #[.int .i64 c,.int .i64 d']) {t':TypeId}:RV P n f w ⟨dst,.binOp .neq t x y t',ty,pos,af,gd⟩ (.bool (decide (¬(a=c∧b=d')))) w:=by
  have h1:=run_eqF (P:=P) (w:=w) (a:=a) (b:=b) (c:=c) (d':=d') ht hs hf hi;have h2:=run_eqGuard_agg (P:=P) w .neq t x y #[.int .i64 a,.int .i64 b] #[.int .i64 c,.int .i64 d'] hm;simp only [RV,execOp,hx,hy,Sem.run_bind,h2,Result.andThen_ok,run_neq_struct,h1,Sem.run_pure,Bool.decide_and,decide_not]
end pure2
end more
theorem one_cons {x:Value} {l:List Value} (h:x.oneCell'=true) (t:l.all (·.oneCell')=true):(x :: l).all (·.oneCell')=true:=by simp [h,t]
theorem zQ {P:Prop} (h:P:=by repeat (first | rfl | refine one_cons (by first | rfl | assumption) ?_)):P:=h
def qx (v:Value) (i:Nat):Value:=match v with
  | .agg cs=>cs.toList.getD i (.slice none 0 0)
  | _=> .slice none 0 0
theorem ag_kn {S:List Nat} {g f:Fr} {t:Nat} {v:Value} (h:f t=v) (ha:Ag S g f):Ag S (upd g t v) f:=by
  intro x hx;simp only [upd];cases hb:Nat.beq x t
  · exact ha x hx
  · have:x=t:=Nat.eq_of_beq_eq_true hb
    subst this;exact h.symm
theorem agA {S:List Nat} {f' f:Fr} (h:Ag S f' f:=by repeat (first | exact I8 | exact ag_ovr' | refine T0 rfl ?_ | refine ag_sub rfl ?_ | refine ag_kn (by assumption) ?_)):Ag S f' f:=h
theorem clA {a b:Bool} (h:Value.bool a=Value.bool b:=by first | exact congrArg Value.bool (decide_eq_true oM).symm | exact congrArg Value.bool (decide_eq_false oM).symm | exact congrArg Value.bool (decide_eq_decide.2 oM) | exact congrArg Value.bool ((decide_not).symm.trans (decide_eq_decide.2 oM))):Value.bool a=Value.bool b:=h
def ob (c:Option Code):Code:=match c with
  | some c=>c
  | none=> .skip
def sl (c:Code):Code:=match c with
  | .seq a _=>a
  | c=>c
def sr (c:Code):Code:=match c with
  | .seq _ b=>b
  | c=>c
attribute [irreducible] WA
theorem neA {w:World} {base:Nat} {e:TypeId} {sz:Nat} {A:Option Addr} {k cap:Nat} {xs:List Value} {g b:Nat} (ho:Own w base e sz A k cap xs) (hb:b < w.heap.size) (hg:aL A=[g]∨w.heap.size≤g) (h:b < base:=by omega):g≠b:=fun e=>by
 rcases hg with hg | hg
 · have:=(ho.lt g (by rw [hg];exact List.mem_singleton.2 rfl)).1;omega
 · omega
theorem neB {w:World} {A:Option Addr} {g b:Nat} (hb:b < w.heap.size) (hg:aL A=[g]∨w.heap.size≤g) (h:∀ g∈aL A,g≠b):g≠b:=fun e=>by
 rcases hg with hg | hg
 · exact h g (by rw [hg];exact List.mem_singleton.2 rfl) e
 · omega
theorem neL {A:Option Addr} {b:Nat} (h:∀ g∈aL A,g < b):∀ g∈aL A,g≠b:=fun g hg=>Nat.ne_of_lt (h g hg)
theorem Own.tq {w w':World} {base:Nat} {e:TypeId} {sz:Nat} {A:Option Addr} {k cap:Nat} {xs:List Value} {b:Nat} (ho:Own w base e sz A k cap xs) (hs:Same [b] w w') (h:b < base:=by omega):Own w' base e sz A k cap xs:=ho.tr1 hs (fun g hg=>by have:=(ho.lt g hg).1;omega)
theorem neS {g b:Nat} (h:g≠b:=by omega):∀ x∈aL (some (⟨g,0,none⟩:Addr)),x≠b:=fun x hx=>by rw [List.mem_singleton.1 hx];exact h
theorem Blk.ta {w w':World} {base:Nat} {e:TypeId} {sz:Nat} {A:Option Addr} {k cap:Nat} {xs:List Value} {b t:Nat} {cs:Array Value} (hb:Blk w b t cs) (hs:Same (aL A) w w') (ho:Own w base e sz A k cap xs) (h:b < base:=by omega):Blk w' b t cs:=hb.tr hs (fun hx=>by have:=(ho.lt _ hx).1;omega)
theorem Blk.tb {w w':World} {A:Option Addr} {b t:Nat} {cs:Array Value} (hb:Blk w b t cs) (hs:Same (aL A) w w') (h:∀ g∈aL A,g≠b):Blk w' b t cs:=hb.tr hs (fun hx=>h _ hx rfl)
end Go.Proofs.YtbcpgfnfiekbiaaGreatDoor
