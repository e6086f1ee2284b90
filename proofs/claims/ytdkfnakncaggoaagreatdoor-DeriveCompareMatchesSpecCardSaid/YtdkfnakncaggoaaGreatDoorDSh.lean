/- The engine's seventh part: a drawn region of whatever operations. What these functions of the program compute, at every world: glosswright/glosswrightequal.graphOf. What these functions of the program compute, at every world: glosswright/glosswrightequal.Small$1. What these functions of the program compute, at every world: glosswright/glosswrightequal.hierarchyOf. What these functions of the program compute, at every world: glosswright/glosswrightequal.base, glosswright/glosswrightequal.fun, glosswright/glosswrightequal.con, glosswright/glosswrightequal.bound, glosswright/glosswrightequal.abs, glosswright/glosswrightequal.app. -/
import Derived.Test.YtdkfnakncaggoaaGreatDoorEng5
import Derived.Test.YtdkfnakncaggoaaGreatDoorGrm
import Derived.Test.YtdkfnakncaggoaaGreatDoorData
import Derived.Lib.AppendZerosOnto
import Derived.Test.YtdkfnakncaggoaaGreatDoorU
import Derived.Test.YtdkfnakncaggoaaGreatDoorName
namespace Go.Proofs.YtdkfnakncaggoaaGreatDoor
open Go.RowKit
section seven
variable {P:Program} {Q:Exit→Act→World→Prop} {n:Nat} {f:Fr} {w:World}
def stU (st:Nat→Bool) (i k:Nat):Bool:=if k=i then true else st k
def stL (sp:Nat→Bool) (listed:Array Bool) (k:Nat):Bool:=listed.getD k false && sp k
def I5 (l:List Oper):Nat→Nat→Nat→Bool
  | 0,_,_=>false
  | k + 1,s,i=>match l[s]? with
    | some o=>(vy o).any (fun j=>Nat.beq j i || I5 l k j i)
    | none=>false
theorem BY {l:List Oper} {listed:Array Bool} (hD:Dn l listed):∀ {k s i:Nat},I5 l k s i=true→listed.getD s false=true→listed.getD i false=true
  | 0,_,_,h,_=>by cases h
  | k + 1,s,i,h,hs=>by
    unfold I5 at h
    cases ho:l[s]? with
    | none=>rw [ho] at h;cases h
    | some o=>
      rw [ho] at h
      obtain⟨j,hj,h2⟩:=List.any_eq_true.1 h
      have hjl:=hD s o ho hs j hj
      rw [Bool.or_eq_true] at h2
      rcases h2 with h2 | h2
      · rw [← Nat.eq_of_beq_eq_true h2];exact hjl
      · exact BY hD h2 hjl
theorem c_monoU {id:Nat} {l:List Oper} (m:Nat) (S X:List Nat) (sp:Nat→Bool) (R:(Nat→Bool)→Nat→Value→Nat→Nat→World→Prop) (hm:P.follows .mixedOrders=true) (hB:Hz l m S=true)
    (hst:∀ st i v la ha w1 w2,R st i v la ha w1→Same [] w1 w2→R st i v la ha w2)
    (step:∀ st i o,i < m→sp i=false→l[i]? =some o→(∀ s,sp s=true→I5 l m s i=true→st s=false)→∀ f' w' (la ha:Nat→Nat),Same X w w'→Ag S f' f→(∀ j o',j ∈ vy o→l[j]? =some o'→R st j (vO f' o') (la j) (ha j) w')→OS P n f' w' o (fun v w''=>Same [] w' w''∧R st i v w'.heap.size w''.heap.size w''))
    (stepS:∀ st i o,i < m→sp i=true→st i=false→l[i]? =some o→(∀ s,sp s=true→I5 l m s i=true→st s=false)→∀ f' w' (la ha:Nat→Nat),Same X w w'→Ag S f' f→(∀ j o',j ∈ vy o→l[j]? =some o'→R st j (vO f' o') (la j) (ha j) w')→(∀ j k,j ∈ vy o→k ∈ vy o→j≠k→ha j≤la k∨ha k≤la j)→OS P n f' w' o (fun v w''=>Same X w w''∧w'.heap.size≤w''.heap.size∧rO (fun i v w''=>R (stU st i) i v w'.heap.size w''.heap.size w'') i o v w''∧∀ k o',k≠i→l[k]? =some o'→R st k (vO f' o') (la k) (ha k) w'→R (stU st i) k (vO f' o') (la k) (ha k) w''))
    (hspd:∀ i o,l[i]? =some o→o.dst=none→sp i=true)
    (fin:∀ st f' w' (la ha:Nat→Nat),(∀ k,k < m→sp k=true→st k=true)→Same X w w'→Ag S f' f→(∀ i o,l[i]? =some o→R st i (vO f' o) (la i) (ha i) w')→(∀ i j,i < m→j < m→i≠j→ha i≤la j∨ha j≤la i)→WL P l.toArray Q [] n f' w'):WC P (.region id l.toArray true) Q n f w:=by
  unfold WC;refine wp_region_any hm ?_;simp only [Hz,Bool.and_eq_true,List.all_eq_true,List.mem_range,decide_eq_true_eq] at hB;obtain⟨hlm,hB⟩:=hB;have hget:∀ i o,l[i]? =some o→o.guard=none∧(∀ j ∈ vy o,j < i)∧∀ d,o.dst=some d→mem S d=true∧∀ j o',l[j]? =some o'→i≠j→o'.dst≠some d:=fun i o ho=>by
    have hil:i < l.length:=(List.getElem?_eq_some_iff.1 ho).1;have h:=hB i hil;simp only [ho,Bool.and_eq_true] at h;obtain⟨⟨h1,h2⟩,h3⟩:=h;refine⟨Option.isNone_iff_eq_none.1 h1,fun j hj=>by simpa using List.all_eq_true.1 h2 j hj,fun d hd=>?_⟩;simp only [hd,Bool.and_eq_true] at h3;refine⟨h3.1,fun j o' ho' hne hd'=>?_⟩;have h4:=List.all_eq_true.1 h3.2 j (List.mem_range.2 (List.getElem?_eq_some_iff.1 ho').1);simp [ho',hd',hne] at h4
  have key:∀ (fuel:Nat) (listed:Array Bool) (f':Fr) (w':World) (la ha:Nat→Nat),listed.size=l.length→Dn l listed→Same X w w'→Ag S f' f→(∀ i o,l[i]? =some o→listed.getD i false=true→R (stL sp listed) i (vO f' o) (la i) (ha i) w')→(∀ i,i < l.length→listed.getD i false=true→ha i≤w'.heap.size)→(∀ i j,i < l.length→j < l.length→i≠j→listed.getD i false=true→listed.getD j false=true→ha i≤la j∨ha j≤la i)→
      (List.range l.length).countP (fun i=>!listed.getD i false)≤fuel→wpAny P .any l.toArray Q fuel listed (AF n f') w':=by
    have fin':∀ (listed:Array Bool) (f':Fr) (w':World) (la ha:Nat→Nat),Same X w w'→Ag S f' f→(∀ i o,l[i]? =some o→listed.getD i false=true→R (stL sp listed) i (vO f' o) (la i) (ha i) w')→(∀ i j,i < l.length→j < l.length→i≠j→listed.getD i false=true→listed.getD j false=true→ha i≤la j∨ha j≤la i)→(∀ i,i < l.length→listed.getD i false=true)→Q .normal (AF n f') w':=fun listed f' w' la ha hs hag hR hI hall=>by
      have:=fin (stL sp listed) f' w' la ha (fun k hk hsk=>by unfold stL;rw [hall k om,hsk];rfl) hs hag (fun i o ho=>hR i o ho (hall i (List.getElem?_eq_some_iff.1 ho).1)) (fun i j hi hj hne=>hI i j om om hne (hall i om) (hall j om));unfold WL at this;exact this
    intro fuel
    induction fuel with
    | zero=>
      intro listed f' w' la ha hs hD hsm hag hR hH hI hc;have hall:∀ i,i < l.length→listed.getD i false=true:=by
        intro i hi;have h0:(List.range l.length).countP (fun i=>!listed.getD i false)=0:=by omega
        rw [List.countP_eq_zero] at h0;have:=h0 i (List.mem_range.2 hi)
        simpa using this
      refine⟨?_,fin' listed f' w' la ha hsm hag hR hI hall⟩;cases hr:Region.ready .any l.toArray listed with
      | nil=>rfl
      | cons i r=>
        obtain⟨o,ho,hn,_⟩:=Q8 listed i (by rw [hr];simp);have:i < l.length:=(List.getElem?_eq_some_iff.1 ho).1;rw [hall i om] at hn;cases hn
    | succ fuel ih=>
      intro listed f' w' la ha hs hD hsm hag hR hH hI hc;refine⟨fun hr=>?_,fun i hi=>?_⟩
      · have hall:∀ k,k≤l.length→∀ i,i < k→listed.getD i false=true:=by
          intro k
          induction k with
          | zero=>intro _ i hi;omega
          | succ k ihk=>
            intro hk i hi;have ihk':=ihk om;by_cases hik:i < k
            · exact ihk' i hik
            · have:i=k:=by omega
              subst this;cases hb:listed.getD i false with
              | true=>rfl
              | false=>
                have ho:l[i]? =some l[i]:=List.getElem?_eq_getElem om;have:=E0 listed i _ hs ho hb (fun j hj=>ihk' j ((hget i _ ho).2.1 j hj));rw [hr] at this;cases this
        exact fin' listed f' w' la ha hsm hag hR hI (hall l.length (Nat.le_refl _))
      · obtain⟨o,ho,hn,hd⟩:=Q8 listed i hi
        have hil:i < l.length:=(List.getElem?_eq_some_iff.1 ho).1;obtain⟨hg,hdl,hdd⟩:=hget i o ho;unfold wpOp;simp only [List.getElem?_toArray,ho];rw [if_pos (by simp [Region.wanted,hg])]
        left
        have hstn:sp i=false→stL sp (listed.setIfInBounds i true)=stL sp listed:=fun hsp=>by
          funext k
          unfold stL;by_cases hik:i=k
          · subst hik;rw [hsp,Bool.and_false,Bool.and_false]
          · simp only [Array.getD_eq_getD_getElem?,Array.getElem?_setIfInBounds_ne hik]
        have hsts:sp i=true→stL sp (listed.setIfInBounds i true)=stU (stL sp listed) i:=fun hsp=>by
          funext k
          unfold stL stU;by_cases hik:k=i
          · subst hik
            have:k < listed.size:=by omega
            simp [this,hsp]
          · rw [if_neg hik]
            simp only [Array.getD_eq_getD_getElem?,Array.getElem?_setIfInBounds_ne (Ne.symm hik)]
        have hli:∀ j,i≠j→(listed.setIfInBounds i true).getD j false=listed.getD j false:=fun j hij=>by
          simp only [Array.getD_eq_getD_getElem?,Array.getElem?_setIfInBounds_ne hij]
        have hlt:=oy (p:=fun i=>!listed.getD i false) (q:=fun k=>!(listed.setIfInBounds i true).getD k false) (fun x hx=>by
          by_cases hix:i=x
          · subst hix;simp [hn]
          · simpa only [Array.getD_eq_getD_getElem?,Array.getElem?_setIfInBounds_ne hix] using hx) (List.range l.length) i (List.mem_range.2 hil) (by simp [hn]) (by
            have:i < listed.size:=by omega
            simp [this])
        have next:∀ v w'',Same X w w''→w'.heap.size≤w''.heap.size→rO (fun i v w''=>R (stL sp (listed.setIfInBounds i true)) i v w'.heap.size w''.heap.size w'') i o v w''→(∀ k o',k≠i→l[k]? =some o'→R (stL sp listed) k (vO f' o') (la k) (ha k) w'→R (stL sp (listed.setIfInBounds i true)) k (vO f' o') (la k) (ha k) w'')→wpAny P .any l.toArray Q fuel (listed.setIfInBounds i true) ((AF n f').put o.dst v) w'':=by
          intro v w'' hs1 hsz hr1 hk1;have hH2:∀ j,j < l.length→(listed.setIfInBounds i true).getD j false=true→(if j=i then w''.heap.size else ha j)≤w''.heap.size:=fun j hj hl'=>by
            by_cases hij:j=i
            · rw [if_pos hij];exact Nat.le_refl _
            · rw [hli j (Ne.symm hij)] at hl'
              rw [if_neg hij];exact nLT (hH j hj hl') hsz
          have hI2:∀ j1 j2,j1 < l.length→j2 < l.length→j1≠j2→(listed.setIfInBounds i true).getD j1 false=true→(listed.setIfInBounds i true).getD j2 false=true→(if j1=i then w''.heap.size else ha j1)≤(if j2=i then w'.heap.size else la j2)∨(if j2=i then w''.heap.size else ha j2)≤(if j1=i then w'.heap.size else la j1):=fun j1 j2 hj1 hj2 hne hl1 hl2=>by
            by_cases e1:j1=i
            · subst e1
              rw [hli j2 hne] at hl2;rw [if_pos rfl,if_neg (Ne.symm hne),if_neg (Ne.symm hne),if_pos rfl];exact .inr (hH j2 hj2 hl2)
            · rw [hli j1 (Ne.symm e1)] at hl1
              rw [if_neg e1,if_neg e1];by_cases e2:j2=i
              · rw [if_pos e2,if_pos e2]
                exact .inl (hH j1 hj1 hl1)
              · rw [hli j2 (Ne.symm e2)] at hl2
                rw [if_neg e2,if_neg e2];exact hI j1 j2 hj1 hj2 hne hl1 hl2
          cases hdst:o.dst with
          | none=>
            have hri:R (stL sp (listed.setIfInBounds i true)) i undef w'.heap.size w''.heap.size w'':=by simpa only [rO,hdst] using hr1
            show wpAny P .any l.toArray Q fuel (listed.setIfInBounds i true) (AF n f') w'';refine ih _ _ _ (fun k=>if k=i then w'.heap.size else la k) (fun k=>if k=i then w''.heap.size else ha k) (by simpa using hs) (hD.set om ho hd) hs1 hag (fun j o' ho' hl'=>?_) hH2 hI2 om;by_cases hij:i=j
            · subst hij
              rw [ho] at ho';cases ho';simp only [if_true,vO,hdst];exact hri
            · rw [hli j hij] at hl'
              simp only [if_neg (Ne.symm hij)];exact hk1 j o' (fun e=>hij e.symm) ho' (hR j o' ho' hl')
          | some d=>
            have hri:R (stL sp (listed.setIfInBounds i true)) i v w'.heap.size w''.heap.size w'':=by simpa only [rO,hdst] using hr1
            obtain⟨hSd,hne⟩:=hdd d hdst;rw [uX];refine ih _ _ _ (fun k=>if k=i then w'.heap.size else la k) (fun k=>if k=i then w''.heap.size else ha k) (by simpa using hs) (hD.set om ho hd) hs1 (C7 hSd hag) (fun j o' ho' hl'=>?_) hH2 hI2 om;by_cases hij:i=j
            · subst hij
              rw [ho] at ho';cases ho';have:vO (upd f' d v) o=v:=by simp [vO,hdst,upd]
              rw [this];simp only [if_true];exact hri
            · rw [hli j hij] at hl'
              have:vO (upd f' d v) o'=vO f' o':=by
                unfold vO;cases hd':o'.dst with
                | none=>rfl
                | some d'=>
                  have h1:=hne j o' ho' hij;rw [hd'] at h1;simp only [upd];have:Nat.beq d' d=false:=by
                    cases hb:Nat.beq d' d
                    · rfl
                    · exact absurd (congrArg some (Nat.eq_of_beq_eq_true hb)) h1
                  simp [this]
              rw [this];simp only [if_neg (Ne.symm hij)];exact hk1 j o' (fun e=>hij e.symm) ho' (hR j o' ho' hl')
        have hns:∀ s,sp s=true→I5 l m s i=true→stL sp listed s=false:=fun s _ hr=>by
          unfold stL;cases hls:listed.getD s false with
          | false=>rfl
          | true=>rw [BY hD hr hls] at hn;cases hn
        cases hsp:sp i with
        | false=>
          have hst1:=step (stL sp listed) i o om hsp ho hns f' w' la ha hsm hag (fun j o' hjd ho'=>hR j o' ho' (hd j hjd));unfold OS at hst1;refine hst1 _ _ ?_
          rintro v w'' ⟨hs1,hr1⟩
          refine next v w'' (hsm.trans (hs1.weak (by simp))) hs1.size ?_ (fun k o' _ _ h=>by rw [hstn hsp];exact hst _ _ _ _ _ _ _ h hs1);unfold rO;cases hdst:o.dst with
          | none=>have:=hspd i o ho hdst;rw [hsp] at this;cases this
          | some d=>simp only [hstn hsp];exact hr1
        | true=>
          have hst1:=stepS (stL sp listed) i o om hsp (by unfold stL;rw [hn];rfl) ho hns f' w' la ha hsm hag (fun j o' hjd ho'=>hR j o' ho' (hd j hjd)) (fun j k hj hk hne=>hI j k (by have:=hdl j hj;omega) (by have:=hdl k hk;omega) hne (hd j hj) (hd k hk));unfold OS at hst1;refine hst1 _ _ ?_
          rintro v w'' ⟨hs1,hsz,hr1,hk1⟩
          rw [← hsts hsp] at hk1;refine next v w'' hs1 hsz ?_ hk1;unfold rO at hr1 ⊢;cases hdst:o.dst with
          | none=>simp only [hdst] at hr1 ⊢;rw [hsts hsp];exact hr1
          | some d=>simp only [hdst] at hr1 ⊢;rw [hsts hsp];exact hr1
  have h0:=key l.length (Array.replicate l.length false) f { w with drawn:=w.drawn + 1 } (fun _=>0) (fun _=>0) (by simp) (fun j o _ h=>by
    simp only [Array.getD_eq_getD_getElem?,Array.getElem?_replicate] at h
    split at h <;> cases h) ((Same.drew w 1).weak (fun x hx=>by cases hx)) K5 (fun i o _ h=>by
    simp only [Array.getD_eq_getD_getElem?,Array.getElem?_replicate] at h
    split at h <;> cases h) (fun _ _ _=>Nat.zero_le _) (fun _ _ _ _ _ _ _=> .inl (Nat.le_refl _)) (by
      have:=List.countP_le_length (p:=fun i=>!(Array.replicate l.length false).getD i false) (l:=List.range l.length);simp only [List.length_range] at this
      omega)
  simpa using h0
theorem Tq {id:Nat} {l:List Oper} (m:Nat) (S X:List Nat) (sp:Nat→Bool) (R:(Nat→Bool)→Nat→Value→Nat→Nat→World→Prop) (hm:P.follows .mixedOrders=true) (hB:Hz l m S=true) (hsp:(List.range m).all (fun i=>match l[i]? with | some o=>o.dst.isSome || sp i | none=>true)=true)
    (hst:∀ st i v la ha w1 w2,R st i v la ha w1→Same [] w1 w2→R st i v la ha w2)
    (step:∀ st i o,i < m→l[i]? =some o→(∀ s,sp s=true→I5 l m s i=true→st s=false)→∀ g w' (la ha:Nat→Nat),Same X w w'→(∀ j o',j ∈ vy o→l[j]? =some o'→R st j (vO g o') (la j) (ha j) w')→bif sp i then st i=false→(∀ j k,j ∈ vy o→k ∈ vy o→j≠k→ha j≤la k∨ha k≤la j)→OS P n (ovr S g f) w' o (fun v w''=>Same X w w''∧w'.heap.size≤w''.heap.size∧rO (fun i v w''=>R (stU st i) i v w'.heap.size w''.heap.size w'') i o v w''∧∀ k o',k≠i→l[k]? =some o'→R st k (vO g o') (la k) (ha k) w'→R (stU st i) k (vO g o') (la k) (ha k) w'') else OS P n (ovr S g f) w' o (fun v w''=>Same [] w' w''∧R st i v w'.heap.size w''.heap.size w''))
    (fin:∀ st g w' (la ha:Nat→Nat),(∀ k,k < m→sp k=true→st k=true)→Same X w w'→(∀ i o,l[i]? =some o→R st i (vO g o) (la i) (ha i) w')→(∀ i j,i < m→j < m→i≠j→ha i≤la j∨ha j≤la i)→WL P l.toArray Q [] n (ovr S g f) w'):WC P (.region id l.toArray true) Q n f w:=by
  have hlm:l.length=m:=by
    have h:=hB;simp only [Hz,Bool.and_eq_true,decide_eq_true_eq] at h;exact h.1
  have hvo:∀ {f':Fr},Ag S f' f→f'=ovr S f' f:=fun hag=>Z2 hag
  refine c_monoU m S X sp R hm hB hst (fun st i o hi hs ho hns f' w' la ha hsm hag hd=>?_) (fun st i o hi hs hn ho hns f' w' la ha hsm hag hd hI=>?_) (fun i o ho hd=>?_) (fun st f' w' la ha hall hsm hag hR hI=>?_)
  · have h:=step st i o hi ho hns f' w' la ha hsm hd
    rw [hs] at h;rw [← hvo hag] at h;exact h
  · have h:=step st i o hi ho hns f' w' la ha hsm hd
    rw [hs] at h;rw [← hvo hag] at h;exact h hn hI
  · have hil:=(List.getElem?_eq_some_iff.1 ho).1
    have h:=List.all_eq_true.1 hsp i (List.mem_range.2 om)
    simpa [ho,hd] using h
  · have h:=fin st f' w' la ha hall hsm hR hI
    rw [← hvo hag] at h;exact h
end seven
end Go.Proofs.YtdkfnakncaggoaaGreatDoor
namespace Go.Proofs.YtdkfnakncaggoaaGreatDoor
open Go.RowKit
theorem in100_DGo:(Tryz.prog.info? 100).map (fun i=>(i.zero,i.size,i.bytes))=some (some (.agg #[.int .i64 0,.slice none 0 0]),2,32):=by kernel_rfl
theorem in103_DGo:(Tryz.prog.info? 103).map (fun i=>(i.zero,i.size,i.bytes))=some (some (.agg #[.int .i64 0,.int .i64 0]),2,16):=by kernel_rfl
theorem NW:(Tryz.prog.info? 100).map (·.size)=some 2:=by kernel_rfl
theorem LZ:(Tryz.prog.info? 103).map (·.size)=some 2:=by kernel_rfl
theorem sz28_DGo:(Tryz.prog.info? 28).map (·.size)=some 1:=by kernel_rfl
theorem VJ:(Tryz.prog.info? 3).map (·.size)=some 1:=by kernel_rfl
theorem Mx:(Tryz.prog.info? 30).map (·.size)=some 1:=by kernel_rfl
theorem sz69_DGo:(Tryz.prog.info? 69).map (·.size)=some 1:=by kernel_rfl
theorem B4:(Tryz.prog.info? 98).map (·.size)=some 1:=by kernel_rfl
theorem Ny:(Tryz.prog.info? 100).map (·.zero)=some (some (.agg #[.int .i64 0,.slice none 0 0])):=by kernel_rfl
theorem L5:(Tryz.prog.info? 103).map (·.zero)=some (some (.agg #[.int .i64 0,.int .i64 0])):=by kernel_rfl
theorem Ck:(Tryz.prog.info? 30).map (·.zero)=some (some (.agg #[.slice none 0 0])):=by kernel_rfl
set_option maxHeartbeats 2000000 in
theorem uq (A:Option Addr) (c:Nat) (rs:List (List Int)) (w:World) (hR:RowsIn w A rs):Calls Tryz.prog 23 #[.slice A rs.length c] w fun e w'=>(∃ A' cap,e= .returned (.agg #[.slice A' rs.length cap])∧Fz [] w'.heap.size TS w' (fun w=>NodesIn w A' (rs.map QW)))∧Bel w w':=by
 have hrl:=hR.1;have hrr:=hR.2.1;refine enter Tryz.func23 Tryz.ntmps23 rfl (Nat.le_of_ble_eq_true rfl) ?_;have hB:Bel w w:=Below.refl _ _;refine zn2 ?_;refine qZ (cs:=#[.slice none 0 0]) Ck rfl (fun b2 w1 hb2 hs hr=>?_);have lo2:=nLT (Bel.size hB) hr;replace hB:=hB.tr0 hs;refine zn4 ?_;refine qZ (cs:=#[.slice none 0 0]) Ck rfl (fun b3 w2 hb3 hs hr=>?_);have:=nLL hb2.lt hr;have lo3:=nLT (Bel.size hB) hr;replace hB:=hB.tr0 hs;replace hb2:=hb2.tr0 hs;refine vx ?_;refine q8 [5,6,7,10,11,12,13,14,15,16,17,18,19,20,21,22,23,24,25,26,27,28,29,30,31,32,33,34,35,36,37,38,39,40,41,42,43,44,45,46] (fun m g w'=>∃ (k:Nat) (A3:Option Addr) (cap3:Nat) (xs3:List Value) (n3:Nat),k≤rs.length∧m=rs.length - k∧g 10= .int .i64 k∧Bel w w'∧Blk w' b2 30 #[.slice none 0 0]∧Blk w' b3 30 #[.slice A3 k cap3]∧Own w' (b3 + 1) 100 2 A3 k cap3 xs3∧Fz [] n3 TS1 w' (fun w=>NdData w ((rs.take k).map QW) xs3)) (rs.length) ?_ (fun m g3 w3 hI=>?_)
 ·exact⟨0,none,0,[],_,Nat.zero_le _,rfl,rfl,hB,hb2,hb3,Own.nil _ _ _ _,Fz.triv [] _ TS1 (fun _=>NdData.nil)⟩
 obtain⟨k,A3,cap3,xs3,n3,hk,hm,h10,hB,hb2,hb3,ho3,hnd⟩:=hI;refine zJ 10 (.int .i64 k) h10 nu (zn6 ?_);refine zw rfl (fun c11=>?_) (fun c11=>?_)
 ·have hlt:k < rs.length:=by omega
  have hrk:=hrr _ (List.getElem_mem hlt);obtain⟨rb,ro,Ar,cr,rfl,hrc,hri⟩:=hR.at_ hB hlt;refine zn7 ?_;refine wl (qk (v:= .slice _ _ _) U69 rfl rfl hrc) (zn4 ?_);obtain⟨pb,po,rfl,hpb,hpc⟩:=hri.2 (by intro h;rw [h] at hrk;simp at hrk);have hc0:=hB.cell hpb (hpc 0 hrk.1);obtain⟨z0,hz0⟩:∃ z,z=(rs[k]'hlt)[0]'hrk.1:=⟨_,rfl⟩
  rw [← hz0] at hc0;refine zn2 ?_;refine wl (yQ (i:=0) U69 VJ rfl rfl om rfl) (wl (qk (v:= .int _ _) U3 rfl rfl hc0) (wl (MK (v0:= .int _ _) (fun v0=>#[v0,.slice none 0 0]) rfl kR) ?_));refine xV (cs:=#[.int .i64 0,.slice none 0 0]) Ny rfl (fun _=>rfl) (fun _=>rfl) NW rfl zK (fun b6 w5 hb6 hs hr=>?_);have:=nLL hb2.lt hr;have:=nLL hb3.lt hr;have or_ho3_b6:=fun g hg=>nLL (ho3.lt g hg).2 hr
  have or_hnd_b6:=nLT hnd.le hr;have lo6:=nLT (Bel.size hB) hr;replace hB:=hB.tr0 hs;replace hb2:=hb2.tr0 hs;replace hb3:=hb3.tr0 hs;replace ho3:=ho3.tr0 hs;replace hnd:=hnd.tr0 hs;refine zn9 ?_;refine q8 [7,18,19,20,21,22,23,24,25,26,27,28,29,30,31,32,33,34,35,36,37,38,39] (fun m g w'=>∃ (i j:Nat) (A6:Option Addr) (cap6:Nat) (ls6:List (Int×Int)),1≤i∧j≤i∧i≤(rs[k]'hlt).length + 1∧m=(rs[k]'hlt).length + 2 - i∧g 7= .int .i64 i∧Zz ((rs[k]'hlt).drop 1)=ls6 ++ Zz ((rs[k]'hlt).drop i)∧Bel w w'∧Blk w' b2 30 #[.slice none 0 0]∧Blk w' b3 30 #[.slice A3 k cap3]∧Own w' (b3 + 1) 100 2 A3 k cap3 xs3∧Blk w' b6 100 #[.int .i64 z0,.slice A6 j cap6]∧Own w' (b6 + 1) 103 2 A6 j cap6 (lnC ls6)∧Fz [] n3 TS1 w' (fun w=>NdData w ((rs.take k).map QW) xs3)) ((rs[k]'hlt).length + 1) ?_ (fun m g7 w6 hI=>?_)
  ·exact⟨1,0,none,0,[],Nat.le_refl _,Nat.zero_le _,by omega,rfl,rfl,rfl,hB,hb2,hb3,ho3,hb6,Own.nil _ _ _ _,hnd⟩
  obtain⟨i,j,A6,cap6,ls6,hi1,hji,hil,hm7,h7,hpr,hB,hb2,hb3,ho3,hb6,ho6,hnd⟩:=hI;refine zJ 7 (.int .i64 i) h7 nu (zn4 ?_);refine wl (kK (c:=((i + 1:Nat):Int)) rfl rfl rfl om) (zn5 ?_);refine zw rfl (fun c22=>?_) (fun c22=>?_)
  ·have hi0:i < (rs[k]'hlt).length:=by omega
   have hi2:i + 1 < (rs[k]'hlt).length:=by omega
   have hca:=hB.cell hpb (hpc i hi0);have hcb:=hB.cell hpb (hpc (i + 1) hi2);obtain⟨za,hza⟩:∃ z,z=(rs[k]'hlt)[i]'hi0:=⟨_,rfl⟩
   obtain⟨zb,hzb⟩:∃ z,z=(rs[k]'hlt)[i + 1]'hi2:=⟨_,rfl⟩
   rw [← hza] at hca;rw [← hzb] at hcb;have hpr2:Zz ((rs[k]'hlt).drop 1)=(ls6 ++ [(za,zb)]) ++ Zz ((rs[k]'hlt).drop (i + 2)):=by rw [hpr,F0 hi2,← hza,← hzb,List.append_assoc];rfl
   refine zn4 ?_;have z2:=hb2.lt;have z3:=hb3.lt;have z6:=hb6.lt;have zo3:=fun g hg=>(ho3.lt g hg).2
   have zo6:=fun g hg=>(ho6.lt g hg).2
   have hsz:=Bel.size hB;replace hca:=fun(w1:World) (h:Bel w6 w1)=>h.cell (nLL hpb hsz) hca
   replace hcb:=fun(w1:World) (h:Bel w6 w1)=>h.cell (nLL hpb hsz) hcb
   refine yk 13 [25,26,27,28,29,30,31,32,33,34,35,36,37] (fun ix=>Nat.beq ix 12) (fun ix v wv=>match ix with | 0=>v= .pointer (some ⟨b6,1,none⟩) | 1=>v= .slice A6 j cap6 | 2=>v= .slice (some ⟨pb,po,none⟩) (rs[k]'hlt).length cr | 3=>v= .int .i64 i | 4=>v= .pointer (some ⟨pb,po + i * 1,none⟩) | 5=>v= .int .i64 za | 6=>v= .slice (some ⟨pb,po,none⟩) (rs[k]'hlt).length cr | 7=>v= .int .i64 i | 8=>v= .int .i64 ((i + 1:Nat):Int) | 9=>v= .pointer (some ⟨pb,po + (i + 1) * 1,none⟩) | 10=>v= .int .i64 zb | 11=>v= .agg #[.int .i64 za,.int .i64 zb] | 12=>∃ b,v= .slice (some ⟨b,0,none⟩) 1 1∧w6.heap.size≤b∧Blk wv b 103 #[.int .i64 za,.int .i64 zb] | _=>True) kR kR ?_ ?_ ?_
   ·intro ix v wv wv2 h hs
    match ix,h with
    | 0,h=>exact h
    | 1,h=>exact h
    | 2,h=>exact h
    | 3,h=>exact h
    | 4,h=>exact h
    | 5,h=>exact h
    | 6,h=>exact h
    | 7,h=>exact h
    | 8,h=>exact h
    | 9,h=>exact h
    | 10,h=>exact h
    | 11,h=>exact h
    | 12,h=>
     obtain⟨b37,e37,lo37,hb37⟩:=h;exact⟨b37,e37,lo37,hb37.tr0 hs⟩
    | _ + 13,h=>exact trivial
   ·intro ix o hix hoq gg wx hs hd hdis
    match ix,hix,hoq with
    | 0,_,hoq=>
     cases sI hoq;exact oV (vX YK B4 dE rfl rfl rfl) rfl
    | 1,_,hoq=>
     cases sI hoq;replace hb6:=hb6.tr0 hs;refine z4 25 (.pointer (some ⟨b6,1,none⟩)) (hd 0 (zz kR)) nu ?_;exact oV (qk (v:= .slice _ _ _) U98 rfl rfl (hb6.cell rfl)) rfl
    | 2,_,hoq=>
     cases sI hoq;exact oV (x9 (v:= .slice _ _ _) rfl) rfl
    | 3,_,hoq=>
     cases sI hoq;exact oV (x9 (v:= .int _ _) rfl) rfl
    | 4,_,hoq=>
     cases sI hoq;refine z4 27 (.slice (some ⟨pb,po,none⟩) (rs[k]'hlt).length cr) (hd 2 (zz kR)) nu (z4 28 (.int .i64 i) (hd 3 (zz kR)) nu ?_);exact oV (yQ (i:=i) U69 VJ rfl rfl om rfl) rfl
    | 5,_,hoq=>
     cases sI hoq;have hs0:=hs;refine z4 29 (.pointer (some ⟨pb,po + i * 1,none⟩)) (hd 4 (zz kR)) nu ?_;exact oV (qk (v:= .int _ _) U3 rfl rfl (hca _ hs0.bel)) rfl
    | 6,_,hoq=>
     cases sI hoq;exact oV (x9 (v:= .slice _ _ _) rfl) rfl
    | 7,_,hoq=>
     cases sI hoq;exact oV (x9 (v:= .int _ _) rfl) rfl
    | 8,_,hoq=>
     cases sI hoq;refine z4 32 (.int .i64 i) (hd 7 (zz kR)) nu ?_;exact oV (kK (c:=((i + 1:Nat):Int)) rfl rfl rfl om) rfl
    | 9,_,hoq=>
     cases sI hoq;refine z4 31 (.slice (some ⟨pb,po,none⟩) (rs[k]'hlt).length cr) (hd 6 (zz kR)) nu (z4 33 (.int .i64 ((i + 1:Nat):Int)) (hd 8 (zz kR)) nu ?_);exact oV (yQ (i:=i + 1) U69 VJ rfl rfl om rfl) rfl
    | 10,_,hoq=>
     cases sI hoq;have hs0:=hs;refine z4 34 (.pointer (some ⟨pb,po + (i + 1) * 1,none⟩)) (hd 9 (zz kR)) nu ?_;exact oV (qk (v:= .int _ _) U3 rfl rfl (hcb _ hs0.bel)) rfl
    | 11,_,hoq=>
     cases sI hoq;refine z4 30 (.int .i64 za) (hd 5 (zz kR)) nu (z4 35 (.int .i64 zb) (hd 10 (zz kR)) nu ?_);exact oV (yz (v0:= .int _ _) (v1:= .int _ _) (fun v0 v1=>#[v0,v1]) rfl rfl kR) rfl
    | 12,_,hoq=>
     cases sI hoq;have hs0:=hs;refine z4 36 (.agg #[.int .i64 za,.int .i64 zb]) (hd 11 (zz kR)) nu ?_;refine jx (fun ops Q K=>?_);refine qJ (cs:=#[_,_]) [(0,.agg _)] rfl U98 LZ L5 dE dE kR rfl (fun b37 w7 hb37 hs hr=>?_);exact K _ _ ⟨hs,⟨_,rfl,nLT hs0.size hr,hb37⟩,fR hr hb37.lt⟩
    | _ + 13,hix,_=>exact absurd hix om
   intro gg w8 hs hR hdis;have hs0:=hs;replace hB:=hB.tr0 hs;replace hb2:=hb2.tr0 hs;replace hb3:=hb3.tr0 hs;replace ho3:=ho3.tr0 hs;replace hnd:=hnd.tr0 hs;replace hb6:=hb6.tr0 hs;replace ho6:=ho6.tr0 hs;obtain⟨b37,e37,lo37,hb37⟩:=hR 12 dE;have hsm:_≤w8.heap.size:=hs0.size;refine qK 26 (.slice A6 j cap6) (hR 1 dE) nu (qK 37 (.slice (some ⟨b37,0,none⟩) 1 1) e37 nu ?_);refine o8 U98 in103_DGo rfl dE ho6 hb37 rfl rfl rfl zK dE om om (nLT z6 hsm) (fun g38 cap38 w9 ho38 hs hg=>?_);have ne_ho38_b2:g38≠b2:=fun e=>by
    have hl:=hb2.lt;rcases hg with hg | hg
    · have h1:=ho6.lt g38 (by rw [hg];exact List.mem_singleton.2 rfl)
      (try have:=or_ho6_b2 g38 (by rw [hg];exact List.mem_singleton.2 rfl));omega
    · omega
   have ne_ho38_b3:g38≠b3:=fun e=>by
    have hl:=hb3.lt;rcases hg with hg | hg
    · have h1:=ho6.lt g38 (by rw [hg];exact List.mem_singleton.2 rfl)
      (try have:=or_ho6_b3 g38 (by rw [hg];exact List.mem_singleton.2 rfl));omega
    · omega
   have ne_ho38_b6:g38≠b6:=fun e=>by
    have hl:=hb6.lt;rcases hg with hg | hg
    · have h1:=ho6.lt g38 (by rw [hg];exact List.mem_singleton.2 rfl)
      (try have:=or_ho6_b6 g38 (by rw [hg];exact List.mem_singleton.2 rfl));omega
    · omega
   replace hB:=hB.tr hs (fun g hg=>nLT (Nat.le_succ_of_le lo6) (ho6.lt g hg).1);replace hb2:=hb2.tr hs (fun hx=>by have:=(ho6.lt _ hx).1;(try have:=or_ho6_b2 _ hx);omega);replace hb3:=hb3.tr hs (fun hx=>by have:=(ho6.lt _ hx).1;(try have:=or_ho6_b3 _ hx);omega);replace ho3:=ho3.tr hs (fun g hg hx=>by have:=(ho6.lt _ hx).1;have:=(ho3.lt _ hg).1;(try have:=or_ho3_b2 _ hg);(try have:=or_ho6_b2 _ hx);(try have:=or_ho3_b3 _ hg);(try have:=or_ho6_b3 _ hx);(try have:=or_ho3_b6 _ hg);(try have:=or_ho6_b6 _ hx);(try have:=or_ho3_b37 _ hg);(try have:=or_ho6_b37 _ hx);omega);replace hnd:=hnd.trX hs (fun g hg=> .inl (by have:=(ho6.lt g hg).1;omega));replace hb6:=hb6.tr hs (fun hx=>by have:=(ho6.lt _ hx).1;(try have:=or_ho6_b6 _ hx);omega);refine zn1 ?_;refine xY (v:= .slice _ _ _) hb6 rfl rfl B4 (by first | decide | simp) rfl rfl (fun w10 hq hs=>?_);replace hB:=hB.tr1 hs lo6;replace hb2:=hb2.tr1 hs om;replace hb3:=hb3.tr1 hs om;replace ho3:=ho3.tr1 hs (fun g hg=>by have:=(ho3.lt g hg).1;(try have:=or_ho3_b6 g hg);(try simp only [aL] at hg);(try simp only [List.mem_singleton] at hg);omega);replace hnd:=hnd.sp1 hs hb6 (.inl dE);replace ho38:=ho38.tr1 hs (fun g hg=>by have:=(ho38.lt g hg).1;(try have:=or_ho38_b6 g hg);(try simp only [aL] at hg);(try simp only [List.mem_singleton] at hg);omega);replace hb6:=hq;refine zn5 ?_;refine wl (kK (c:=((i + 2:Nat):Int)) rfl rfl rfl om) (zn2 ?_);refine xv ((rs[k]'hlt).length + 2 - (i + 2)) om agA ?_;exact⟨i + 2,j + 1,_,_,ls6 ++ [(za,zb)],by omega,by omega,by omega,rfl,rfl,hpr2,hB,hb2,hb3,ho3,hb6,by rw [← lnC_snoc];exact ho38,hnd⟩
  have hls:Zz ((rs[k]'hlt).drop 1)=ls6:=by rw [hpr,pairs_end om,List.append_nil]
  have hrow:QW (rs[k]'hlt)=⟨z0,ls6⟩:=by
    unfold QW;rw [hls,hz0];simp [List.getD,hrk.1]
  have htk:(rs.take (k + 1)).map QW=(rs.take k).map QW ++ [⟨z0,ls6⟩]:=by rw [uz rs hlt,List.map_append,List.map_cons,List.map_nil,hrow]
  refine zn9 ?_;refine qJ (cs:=#[_,_]) [(0,.agg _)] rfl U28 NW Ny dE dE kR rfl (fun b43 w11 hb43 hs hr=>?_);have:=nLL hb2.lt hr;have:=nLL hb3.lt hr;have or_ho3_b43:=fun g hg=>nLL (ho3.lt g hg).2 hr
  have or_hnd_b43:=nLT hnd.le hr;have:=nLL hb6.lt hr;have or_ho6_b43:=fun g hg=>nLL (ho6.lt g hg).2 hr
  have lo43:=nLT (Bel.size hB) hr;replace hB:=hB.tr0 hs;replace hb2:=hb2.tr0 hs;replace hb3:=hb3.tr0 hs;replace ho3:=ho3.tr0 hs;replace hnd:=hnd.tr0 hs;replace hb6:=hb6.tr0 hs;replace ho6:=ho6.tr0 hs;refine o8 U28 in100_DGo rfl dE ho3 hb43 rfl rfl rfl zK dE om om hb3.lt (fun g44 cap44 w12 ho44 hs hg=>?_);have ne_ho44_b2:g44≠b2:=fun e=>by
   have hl:=hb2.lt;rcases hg with hg | hg
   · have h1:=ho3.lt g44 (by rw [hg];exact List.mem_singleton.2 rfl)
     (try have:=or_ho3_b2 g44 (by rw [hg];exact List.mem_singleton.2 rfl));omega
   · omega
  have ne_ho44_b3:g44≠b3:=fun e=>by
   have hl:=hb3.lt;rcases hg with hg | hg
   · have h1:=ho3.lt g44 (by rw [hg];exact List.mem_singleton.2 rfl)
     (try have:=or_ho3_b3 g44 (by rw [hg];exact List.mem_singleton.2 rfl));omega
   · omega
  have ne_ho44_b6:g44≠b6:=fun e=>by
   have hl:=hb6.lt;rcases hg with hg | hg
   · have h1:=ho3.lt g44 (by rw [hg];exact List.mem_singleton.2 rfl)
     (try have:=or_ho3_b6 g44 (by rw [hg];exact List.mem_singleton.2 rfl));omega
   · omega
  replace hB:=hB.tr hs (fun g hg=>nLT (Nat.le_succ_of_le lo3) (ho3.lt g hg).1);replace hb2:=hb2.tr hs (fun hx=>by have:=(ho3.lt _ hx).1;(try have:=or_ho3_b2 _ hx);omega);replace hb3:=hb3.tr hs (fun hx=>by have:=(ho3.lt _ hx).1;(try have:=or_ho3_b3 _ hx);omega);replace hnd:=hnd.trX hs (fun g hg=>by obtain⟨cs,h⟩:=Z4 ho3 g hg;exact .inr (.inr ⟨_,_,h,.inl dE⟩));replace ho6:=ho6.tr hs (fun g hg hx=>by have:=(ho3.lt _ hx).1;have:=(ho6.lt _ hg).1;(try have:=or_ho6_b2 _ hg);(try have:=or_ho3_b2 _ hx);(try have:=or_ho6_b3 _ hg);(try have:=or_ho3_b3 _ hx);(try have:=or_ho6_b6 _ hg);(try have:=or_ho3_b6 _ hx);(try have:=or_ho6_b43 _ hg);(try have:=or_ho3_b43 _ hx);omega);have hnd2:=gof_more (z:=z0) ho6 hnd;refine zn1 ?_;refine xY (v:= .slice _ _ _) hb3 rfl rfl sz28_DGo (by first | decide | simp) rfl rfl (fun w13 hq hs=>?_);replace hB:=hB.tr1 hs lo3;replace hb2:=hb2.tr1 hs om;replace ho44:=ho44.tr1 hs (fun g hg=>by have:=(ho44.lt g hg).1;(try have:=or_ho44_b3 g hg);(try simp only [aL] at hg);(try simp only [List.mem_singleton] at hg);omega);replace hnd2:=hnd2.sp1 hs hb3 (.inl dE);replace hb3:=hq;refine zn7 ?_;refine xv (rs.length - (k + 1)) om agA ?_;exact⟨k + 1,_,_,_,_,by omega,rfl,rfl,hB,hb2,hb3,ho44,by rw [htk];exact hnd2⟩
 have hkl:k=rs.length:=by omega
 subst hkl;rw [List.take_length] at hnd;refine zn8 ?_;refine zk hb2 rfl rfl Mx rfl zK (fun w14 hq hs=>?_);replace hB:=hB.tr1 hs lo2;replace ho3:=ho3.tr1 hs (fun g hg=>by have:=(ho3.lt g hg).1;(try have:=or_ho3_b2 g hg);(try simp only [aL] at hg);(try simp only [List.mem_singleton] at hg);omega);replace hnd:=hnd.sp1 hs hb2 (.inl dE);replace hb2:=hq;refine zn3 ?_;refine x5 (.inl rfl) rfl (zy U30 rfl rfl hb2.range0 Mx) ?_;exact⟨⟨_,_,rfl,gof_end ho3 hnd⟩,hB⟩
end Go.Proofs.YtdkfnakncaggoaaGreatDoor
namespace Go.Proofs.YtdkfnakncaggoaaGreatDoor
open Go.RowKit
theorem T1:zQ Tryz.prog 23=true:=by kernel_rfl
theorem in57:(Tryz.prog.info? 57).map (fun i=>(i.zero,i.size,i.bytes))=some (some (.agg #[.string ⟨#[]⟩,.slice none 0 0,.int .i64 0,.int .i64 0,.string ⟨#[]⟩,.int .i64 0,.string ⟨#[]⟩,.slice none 0 0,.slice none 0 0]),9,144):=by kernel_rfl
theorem Bq:(Tryz.prog.info? 27).map (·.size)=some 1:=by kernel_rfl
theorem sz55_DAd:(Tryz.prog.info? 55).map (·.size)=some 6:=by kernel_rfl
theorem sz57_DAd:(Tryz.prog.info? 57).map (·.size)=some 9:=by kernel_rfl
theorem ze57_DAd:(Tryz.prog.info? 57).map (·.zero)=some (some (.agg #[.string ⟨#[]⟩,.slice none 0 0,.int .i64 0,.int .i64 0,.string ⟨#[]⟩,.int .i64 0,.string ⟨#[]⟩,.slice none 0 0,.slice none 0 0])):=by kernel_rfl
set_option maxHeartbeats 1000000 in
theorem kY (s:ByteArray) (z:Int) (x:Tv) (SA BA R A:Option Addr) (cs cb:Nat) (rs:List (List Int)) (c bG base k cap nT nL:Nat) (c0 c1 c2 c4:Value) (xs:List Value) (lx:List Lx) (w:World) (hs9:s.size < 9223372036854775807) (hR:RowsIn w R rs) (hT:Fz [] nT TS w (fun w=>SimsIn w SA x.tm.type.args∧TmsIn w BA x.tm.args)) (hbG:Blk w bG 32 #[c0,c1,c2,.slice A k cap,c4]) (ho:Own w base 57 9 A k cap xs) (hL:Fz [] nL TS w (fun w=>LxData w lx xs)) (hbase:base≤w.heap.size) (hbl:bG < base) (hk:k≤1000):Calls Tryz.prog 24 #[.string s,.int .i64 z,.agg #[.int .i64 (x).tm.kind,.string (x).tm.name,.int .i64 (x).tm.index,.string (x).tm.type.base,.slice SA (x).tm.type.args.length cs,.slice BA (x).tm.args.length cb],.slice R rs.length c,.pointer (some ⟨bG,0,none⟩)] w (fun e w'=>e= .returned (.tuple #[])∧∃ A' cap' xs',Blk w' bG 32 #[c0,c1,c2,.slice A' (k + 1) cap',c4]∧Own w' base 57 9 A' (k + 1) cap' xs'∧Fz [] w'.heap.size TS w' (fun w=>LxData w (lx ++ [⟨s,rs.map QW,z,x.tm⟩]) xs')∧Same (bG :: aL A) w w'∧(aL A'=aL A∨∀ g ∈ aL A',w.heap.size≤g)):=by
 refine enter Tryz.func24 Tryz.ntmps24 rfl (Nat.le_of_ble_eq_true rfl) ?_;have hB:Bel w w:=Below.refl _ _;refine zn2 ?_;refine qW (v:= .agg #[_,_,_,_,_,_]) (cs:=#[_,_,_,_,_,_]) rfl rfl (fun b7 w1 hb7 hs hr=>?_);have or_ho_b7:=fun g hg=>nLL (ho.lt g hg).2 hr
 replace hB:=hB.tr0 hs;replace hbG:=hbG.tr0 hs;replace ho:=ho.tr0 hs;replace hT:=hT.tr0 hs;replace hL:=hL.tr0 hs;refine zZ (e_S ?_);have zG:=hbG.lt;have zo:=fun g hg=>(ho.lt g hg).2
 have hsz:=Bel.size hB;have hrs:=hR.1;refine yk 9 [9,10,11,12,13,14,15,16,17] (fun ix=>Nat.beq ix 8) (fun ix v wv=>match ix with | 0=>v= .pointer (some ⟨bG,3,none⟩) | 1=>v= .slice A k cap | 2=>v= .string s | 3=>v= .int .i64 z | 4=>v= .agg #[.int .i64 (x).tm.kind,.string (x).tm.name,.int .i64 (x).tm.index,.string (x).tm.type.base,.slice SA (x).tm.type.args.length cs,.slice BA (x).tm.args.length cb] | 5=>v= .slice R rs.length c | 6=>∃ G g n,v= .agg #[.slice G rs.length g]∧Fz [] n TS wv (fun w=>NodesIn w G (rs.map QW)) | 7=>∃ G g n,v= .agg #[.string s,.slice G rs.length g,.int .i64 z,.int .i64 (x).tm.kind,.string (x).tm.name,.int .i64 (x).tm.index,.string (x).tm.type.base,.slice SA (x).tm.type.args.length cs,.slice BA (x).tm.args.length cb]∧Fz [] n TS wv (fun w=>NodesIn w G (rs.map QW)) | 8=>∃ b G g n,v= .slice (some ⟨b,0,none⟩) 1 1∧w1.heap.size≤b∧Blk wv b 57 #[.string s,.slice G rs.length g,.int .i64 z,.int .i64 (x).tm.kind,.string (x).tm.name,.int .i64 (x).tm.index,.string (x).tm.type.base,.slice SA (x).tm.type.args.length cs,.slice BA (x).tm.args.length cb]∧Fz [] n TS wv (fun w=>NodesIn w G (rs.map QW)) | _=>True) kR kR ?_ ?_ ?_
 ·intro ix v wv wv2 h hs
  match ix,h with
  | 0,h=>exact h
  | 1,h=>exact h
  | 2,h=>exact h
  | 3,h=>exact h
  | 4,h=>exact h
  | 5,h=>exact h
  | 6,h=>
   obtain⟨G15,g15,n15,e15,hz15⟩:=h;exact⟨G15,g15,n15,e15,hz15.tr0 hs⟩
  | 7,h=>
   obtain⟨G16,g16,n16,e16,hz16⟩:=h;exact⟨G16,g16,n16,e16,hz16.tr0 hs⟩
  | 8,h=>
   obtain⟨b17,G17,g17,n17,e17,lo17,hb17,hz17⟩:=h;exact⟨b17,G17,g17,n17,e17,lo17,hb17.tr0 hs,hz17.tr0 hs⟩
  | _ + 9,h=>exact trivial
 ·intro ix o hix hoq gg wx hs hd hdis
  match ix,hix,hoq with
  | 0,_,hoq=>
   cases sI hoq;exact oV (vX U32 Bq dE rfl rfl rfl) rfl
  | 1,_,hoq=>
   cases sI hoq;replace hbG:=hbG.tr0 hs;refine z4 9 (.pointer (some ⟨bG,3,none⟩)) (hd 0 (zz kR)) nu ?_;exact oV (qk (v:= .slice _ _ _) U27 rfl rfl (hbG.cell rfl)) rfl
  | 2,_,hoq=>
   cases sI hoq;exact oV (x9 (v:= .string _) rfl) rfl
  | 3,_,hoq=>
   cases sI hoq;exact oV (x9 (v:= .int _ _) rfl) rfl
  | 4,_,hoq=>
   cases sI hoq;replace hb7:=hb7.tr0 hs;exact oV (zW U55 rfl rfl hb7.range0 sz55_DAd) rfl
  | 5,_,hoq=>
   cases sI hoq;exact oV (x9 (v:= .slice _ _ _) rfl) rfl
  | 6,_,hoq=>
   cases sI hoq;replace hB:=hB.tr0 hs;refine z4 14 (.slice R rs.length c) (hd 5 (zz kR)) nu ?_;refine qx T1 (uq _ _ _ wx (hR.mono hB)) rfl (fun e' w2 hr=>?_);obtain⟨⟨G9,g9,rfl,hz9⟩,hs⟩:=hr;exact⟨_,rfl,sB hs,⟨G9,g9,_,rfl,hz9⟩,zX⟩
  | 7,_,hoq=>
   cases sI hoq;obtain⟨G15,g15,n15,e15,hz15⟩:=hd 6 (zz kR);refine z4 11 (.string s) (hd 2 (zz kR)) nu (z4 12 (.int .i64 z) (hd 3 (zz kR)) nu (z4 13 (.agg #[.int .i64 (x).tm.kind,.string (x).tm.name,.int .i64 (x).tm.index,.string (x).tm.type.base,.slice SA (x).tm.type.args.length cs,.slice BA (x).tm.args.length cb]) (hd 4 (zz kR)) nu (z4 15 (.agg #[.slice G15 rs.length g15]) e15 nu ?_)));exact oV (r_bd4 (v0:= .string _) (v1:= .int _ _) (v2:= .agg _) (v3:= .agg _) (fun v0 v1 v2 v3=>#[v0,(qX v3 0),v1,(qX v2 0),(qX v2 1),(qX v2 2),(qX v2 3),(qX v2 4),(qX v2 5)]) rfl rfl rfl rfl kR) ⟨G15,g15,n15,rfl,hz15⟩
  | 8,_,hoq=>
   cases sI hoq;have hs0:=hs;obtain⟨G16,g16,n16,e16,hz16⟩:=hd 7 (zz kR);refine z4 16 (.agg #[.string s,.slice G16 rs.length g16,.int .i64 z,.int .i64 (x).tm.kind,.string (x).tm.name,.int .i64 (x).tm.index,.string (x).tm.type.base,.slice SA (x).tm.type.args.length cs,.slice BA (x).tm.args.length cb]) e16 nu ?_;refine jx (fun ops Q K=>?_);refine qJ (cs:=#[_,_,_,_,_,_,_,_,_]) [(0,.agg _)] rfl U27 sz57_DAd ze57_DAd dE dE kR rfl (fun b17 w2 hb17 hs hr=>?_);exact K _ _ ⟨hs,⟨_,G16,g16,n16,rfl,nLT hs0.size hr,hb17,hz16.tr0 hs⟩,fR hr hb17.lt⟩
  | _ + 9,hix,_=>exact absurd hix om
 intro gg w3 hs hR hdis;replace hB:=hB.tr0 hs;replace hbG:=hbG.tr0 hs;replace ho:=ho.tr0 hs;replace hT:=hT.tr0 hs;replace hL:=hL.tr0 hs;replace hb7:=hb7.tr0 hs;obtain⟨b17,G17,g17,n17,e17,lo17,hb17,hz17⟩:=hR 8 dE;have hbs:base≤w3.heap.size:=nLT hbase (Bel.size hB);have hS0:=(sB hB).weak (Y:=bG :: aL A) (by simp);have hsz2:=Bel.size hB;refine qK 10 (.slice A k cap) (hR 1 dE) nu (qK 17 (.slice (some ⟨b17,0,none⟩) 1 1) e17 nu ?_);refine o8 U27 in57 rfl dE ho hb17 rfl rfl rfl zK dE om om hbs (fun g18 cap18 w4 ho18 hs hg=>?_);have ne_ho18_bG:g18≠bG:=fun e=>by
  have hl:=hbG.lt;rcases hg with hg | hg
  · have h1:=ho.lt g18 (by rw [hg];exact List.mem_singleton.2 rfl)
    (try have:=or_ho_bG g18 (by rw [hg];exact List.mem_singleton.2 rfl));omega
  · omega
 have ne_ho18_b7:g18≠b7:=fun e=>by
  have hl:=hb7.lt;rcases hg with hg | hg
  · have h1:=ho.lt g18 (by rw [hg];exact List.mem_singleton.2 rfl)
    (try have:=or_ho_b7 g18 (by rw [hg];exact List.mem_singleton.2 rfl));omega
  · omega
 replace hbG:=hbG.tr hs (fun hx=>by have:=(ho.lt _ hx).1;(try have:=or_ho_bG _ hx);omega);replace hT:=hT.trX hs (fun g hg=>by obtain⟨cs,h⟩:=Z4 ho g hg;exact .inr (.inr ⟨_,_,h,.inl dE⟩));replace hL:=hL.trX hs (fun g hg=>by obtain⟨cs,h⟩:=Z4 ho g hg;exact .inr (.inr ⟨_,_,h,.inl dE⟩));replace hz17:=hz17.trX hs (fun g hg=>by obtain⟨cs,h⟩:=Z4 ho g hg;exact .inr (.inr ⟨_,_,h,.inl dE⟩));have hS:=hS0.trans (hs.weak (fun x hx=>List.mem_cons_of_mem _ hx));refine zn1 ?_;refine xY (v:= .slice _ _ _) hbG rfl rfl Bq (by first | decide | simp) rfl rfl (fun w5 hq hs=>?_);replace hT:=hT.sp1 hs hbG (.inl dE);replace hL:=hL.sp1 hs hbG (.inl dE);replace hz17:=hz17.sp1 hs hbG (.inl dE);replace ho18:=ho18.tr1 hs (fun g hg=>by have:=(ho18.lt g hg).1;(try have:=or_ho18_bG g hg);(try simp only [aL] at hg);(try simp only [List.mem_singleton] at hg);omega);replace hS:=hS.trans (hs.weak (by simp));replace hbG:=hq;refine zZ (fin0 (.inr rfl) rfl  ?_);refine⟨rfl,_,_,_,hbG,ho18,(hL.and (hT.and hz17)).imp (fun _ h=>LxData.snoc (x:=⟨s,rs.map QW,z,x.tm⟩) h.1 hs9 (List.length_map _).symm h.2.2 h.2.1.1 h.2.1.2),hS,?_⟩;rcases hg with hg | hg
 · left;rw [hg];rfl
 · right;intro g hgm;cases List.mem_singleton.1 hgm;exact nLT hsz2 hg
end Go.Proofs.YtdkfnakncaggoaaGreatDoor
namespace Go.Proofs.YtdkfnakncaggoaaGreatDoor
open Go.RowKit
theorem in113:(Tryz.prog.info? 113).map (fun i=>(i.zero,i.size,i.bytes))=some (some (.agg #[.string ⟨#[]⟩,.slice none 0 0]),2,40):=by kernel_rfl
theorem Kj:(Tryz.prog.info? 113).map (·.size)=some 2:=by kernel_rfl
theorem Bx:(Tryz.prog.info? 22).map (·.size)=some 1:=by kernel_rfl
theorem sz23_DHo:(Tryz.prog.info? 23).map (·.size)=some 1:=by kernel_rfl
theorem Mj:(Tryz.prog.info? 25).map (·.size)=some 2:=by kernel_rfl
theorem qj:(Tryz.prog.info? 3).map (·.size)=some 1:=by kernel_rfl
theorem xW:(Tryz.prog.info? 69).map (·.size)=some 1:=by kernel_rfl
theorem sz9_DHo:(Tryz.prog.info? 9).map (·.size)=some 1:=by kernel_rfl
theorem K6:(Tryz.prog.info? 113).map (·.zero)=some (some (.agg #[.string ⟨#[]⟩,.slice none 0 0])):=by kernel_rfl
theorem Cv:(Tryz.prog.info? 25).map (·.zero)=some (some (.agg #[.slice none 0 0,.slice none 0 0])):=by kernel_rfl
theorem qz:(Tryz.prog.info? 3).map (·.zero)=some (some (.int .i64 0)):=by kernel_rfl
set_option maxHeartbeats 1000000 in
theorem Nq (A B C:Option Addr) (c d mC f:Nat) (ns:List ByteArray) (ps:List Int) (w:World) (hN:StrsD w A ns) (hP:IntsIn w B ps) (hl:ns.length≤1000) (hpl:ps.length=ns.length):Calls Tryz.prog 21 #[.slice A ns.length c,.slice B ps.length d,.slice C mC f] w fun e w'=>(∃ A' cap,e= .returned (.agg #[.slice A' ns.length cap,.slice C mC f])∧Fz [] w'.heap.size TS w' (fun w=>TypesIn w A' (QJ ns ps ns.length)))∧Bel w w':=by
 refine enter Tryz.func21 Tryz.ntmps21 rfl (Nat.le_of_ble_eq_true rfl) ?_;have hB:Bel w w:=Below.refl _ _;refine zn2 ?_;refine qZ (cs:=#[.slice none 0 0,.slice none 0 0]) Cv rfl (fun b6 w1 hb6 hs hr=>?_);have lo6:=nLT (Bel.size hB) hr;replace hB:=hB.tr0 hs;refine zn4 ?_;refine qZ (cs:=#[.slice none 0 0,.slice none 0 0]) Cv rfl (fun b7 w2 hb7 hs hr=>?_);have:=nLL hb6.lt hr;have lo7:=nLT (Bel.size hB) hr;replace hB:=hB.tr0 hs;replace hb6:=hb6.tr0 hs;refine vx ?_;refine q8 [8,9,10,13,14,15,16,17,18,19,20,21,22,23,24,25,26,27,28,29,30,31,32,33,34] (fun m g w'=>∃ (k:Nat) (A7:Option Addr) (cap7:Nat) (cs:List Value) (n7:Nat),k≤ns.length∧m=ns.length - k∧g 13= .int .i64 k∧Bel w w'∧Blk w' b6 25 #[.slice none 0 0,.slice none 0 0]∧Blk w' b7 25 #[.slice A7 k cap7,.slice none 0 0]∧Own w' (b7 + 1) 113 2 A7 k cap7 cs∧Fz [] n7 TS2 w' (fun w=>TyData w (QJ ns ps k) cs)) (ns.length) ?_ (fun m g3 w3 hI=>?_)
 ·exact⟨0,none,0,[],_,Nat.zero_le _,rfl,rfl,hB,hb6,hb7,Own.nil _ _ _ _,Fz.triv [] _ TS2 (fun _=>TyData.nil)⟩
 obtain⟨k,A7,cap7,cs,n7,hk,hm,h13,hB,hb6,hb7,ho7,hty⟩:=hI;refine zJ 13 (.int .i64 k) h13 nu (zn6 ?_);refine zw rfl (fun c14=>?_) (fun c14=>?_)
 ·have hlt:k < ns.length:=by omega
  have hlp:k < ps.length:=by omega
  obtain⟨nb,no,rfl,hnc⟩:=hN.at_ hB hlt;obtain⟨pb,po,rfl,hpb,hpc⟩:=hP.at_ hlp;refine zn8 ?_;refine wl (qk (v:= .string _) U9 rfl rfl hnc) (zn7 ?_);refine wl (MK (v0:= .string _) (fun v0=>#[v0,.slice none 0 0]) rfl kR) ?_;refine xV (cs:=#[.string ⟨#[]⟩,.slice none 0 0]) K6 rfl (fun _=>rfl) (fun _=>rfl) Kj rfl zK (fun b10 w5 hb10 hs hr=>?_);have:=nLL hb6.lt hr;have:=nLL hb7.lt hr;have or_ho7_b10:=fun g hg=>nLL (ho7.lt g hg).2 hr
  have lo10:=nLT (Bel.size hB) hr;replace hB:=hB.tr0 hs;replace hb6:=hb6.tr0 hs;replace hb7:=hb7.tr0 hs;replace ho7:=ho7.tr0 hs;replace hty:=hty.tr0 hs;refine zn9 ?_;refine zw rfl (fun c21=>?_) (fun c21=>?_)
  ·refine zn4 ?_;refine wl (qk (v:= .int _ _) U3 rfl rfl (hB.cell hpb hpc)) ?_;refine qJ (cs:=#[_]) [(0,.int _ _)] rfl U69 qj qz dE dE kR rfl (fun b26 w6 hb26 hs hr=>?_);have:=nLL hb7.lt hr;have or_ho7_b26:=fun g hg=>nLL (ho7.lt g hg).2 hr
   have:=nLL hb10.lt hr;replace hB:=hB.tr0 hs;replace hb6:=hb6.tr0 hs;replace hb7:=hb7.tr0 hs;replace ho7:=ho7.tr0 hs;replace hty:=hty.tr0 hs;replace hb10:=hb10.tr0 hs;refine zn1 ?_;refine xY (v:= .slice _ _ _) hb10 rfl rfl xW (by first | decide | simp) rfl rfl (fun w7 hq hs=>?_);replace hB:=hB.tr1 hs lo10;replace hb6:=hb6.tr1 hs om;replace hb7:=hb7.tr1 hs om;replace ho7:=ho7.tr1 hs (fun g hg=>by have:=(ho7.lt g hg).1;(try have:=or_ho7_b10 g hg);(try simp only [aL] at hg);(try simp only [List.mem_singleton] at hg);omega);replace hty:=hty.sp1 hs hb10 (.inl dE);replace hb26:=hb26.tr1 hs om;replace hb10:=hq;refine zn6 ?_;refine qJ (cs:=#[_,_]) [(0,.agg _)] rfl U22 Kj K6 dE dE kR rfl (fun b31 w8 hb31 hs hr=>?_);have:=nLL hb6.lt hr;have:=nLL hb7.lt hr;have:=nLL hb26.lt hr;replace hB:=hB.tr0 hs;replace hb6:=hb6.tr0 hs;replace hb7:=hb7.tr0 hs;replace ho7:=ho7.tr0 hs;replace hty:=hty.tr0 hs;replace hb10:=hb10.tr0 hs;replace hb26:=hb26.tr0 hs;refine o8 U22 in113 rfl dE ho7 hb31 rfl rfl rfl zK dE om om hb7.lt (fun g32 cap32 w9 ho32 hs hg=>?_);have ne_ho32_b6:g32≠b6:=fun e=>by
    have hl:=hb6.lt;rcases hg with hg | hg
    · have h1:=ho7.lt g32 (by rw [hg];exact List.mem_singleton.2 rfl)
      (try have:=or_ho7_b6 g32 (by rw [hg];exact List.mem_singleton.2 rfl));omega
    · omega
   have ne_ho32_b7:g32≠b7:=fun e=>by
    have hl:=hb7.lt;rcases hg with hg | hg
    · have h1:=ho7.lt g32 (by rw [hg];exact List.mem_singleton.2 rfl)
      (try have:=or_ho7_b7 g32 (by rw [hg];exact List.mem_singleton.2 rfl));omega
    · omega
   have ne_ho32_b10:g32≠b10:=fun e=>by
    have hl:=hb10.lt;rcases hg with hg | hg
    · have h1:=ho7.lt g32 (by rw [hg];exact List.mem_singleton.2 rfl)
      (try have:=or_ho7_b10 g32 (by rw [hg];exact List.mem_singleton.2 rfl));omega
    · omega
   have ne_ho32_b26:g32≠b26:=fun e=>by
    have hl:=hb26.lt;rcases hg with hg | hg
    · have h1:=ho7.lt g32 (by rw [hg];exact List.mem_singleton.2 rfl)
      (try have:=or_ho7_b26 g32 (by rw [hg];exact List.mem_singleton.2 rfl));omega
    · omega
   replace hB:=hB.tr hs (fun g hg=>nLT (Nat.le_succ_of_le lo7) (ho7.lt g hg).1);replace hb6:=hb6.tr hs (fun hx=>by have:=(ho7.lt _ hx).1;(try have:=or_ho7_b6 _ hx);omega);replace hb7:=hb7.tr hs (fun hx=>by have:=(ho7.lt _ hx).1;(try have:=or_ho7_b7 _ hx);omega);replace hty:=hty.trX hs (fun g hg=>by obtain⟨cs,h⟩:=Z4 ho7 g hg;exact .inr (.inr ⟨_,_,h,.inl dE⟩));replace hb26:=hb26.tr hs (fun hx=>by have:=(ho7.lt _ hx).1;(try have:=or_ho7_b26 _ hx);omega);have hty2:=(by first | exact HZ hty hlt hlp om hb26 | exact SX hty hlt om:Fz [] (w9).heap.size TS2 w9 (fun w=>TyData w (QJ ns ps (k + 1)) (cs ++ _)))
   refine zn1 ?_;refine xY (v:= .slice _ _ _) hb7 rfl rfl Bx (by first | decide | simp) rfl rfl (fun w10 hq hs=>?_);replace hB:=hB.tr1 hs lo7;replace hb6:=hb6.tr1 hs om;replace ho32:=ho32.tr1 hs (fun g hg=>by have:=(ho32.lt g hg).1;(try have:=or_ho32_b7 g hg);(try simp only [aL] at hg);(try simp only [List.mem_singleton] at hg);omega);replace hty2:=hty2.sp1 hs hb7 (.inl dE);replace hb7:=hq;refine zn7 ?_;refine xv (ns.length - (k + 1)) om agA ?_;exact⟨k + 1,_,_,_,_,by omega,rfl,rfl,hB,hb6,hb7,ho32,hty2⟩
  refine zn6 ?_;refine qJ (cs:=#[_,_]) [(0,.agg _)] rfl U22 Kj K6 dE dE kR rfl (fun b31 w11 hb31 hs hr=>?_);have:=nLL hb6.lt hr;have:=nLL hb7.lt hr;replace hB:=hB.tr0 hs;replace hb6:=hb6.tr0 hs;replace hb7:=hb7.tr0 hs;replace ho7:=ho7.tr0 hs;replace hty:=hty.tr0 hs;replace hb10:=hb10.tr0 hs;refine o8 U22 in113 rfl dE ho7 hb31 rfl rfl rfl zK dE om om hb7.lt (fun g32 cap32 w12 ho32 hs hg=>?_);have ne_ho32_b6:g32≠b6:=fun e=>by
   have hl:=hb6.lt;rcases hg with hg | hg
   · have h1:=ho7.lt g32 (by rw [hg];exact List.mem_singleton.2 rfl)
     (try have:=or_ho7_b6 g32 (by rw [hg];exact List.mem_singleton.2 rfl));omega
   · omega
  have ne_ho32_b7:g32≠b7:=fun e=>by
   have hl:=hb7.lt;rcases hg with hg | hg
   · have h1:=ho7.lt g32 (by rw [hg];exact List.mem_singleton.2 rfl)
     (try have:=or_ho7_b7 g32 (by rw [hg];exact List.mem_singleton.2 rfl));omega
   · omega
  have ne_ho32_b10:g32≠b10:=fun e=>by
   have hl:=hb10.lt;rcases hg with hg | hg
   · have h1:=ho7.lt g32 (by rw [hg];exact List.mem_singleton.2 rfl)
     (try have:=or_ho7_b10 g32 (by rw [hg];exact List.mem_singleton.2 rfl));omega
   · omega
  replace hB:=hB.tr hs (fun g hg=>nLT (Nat.le_succ_of_le lo7) (ho7.lt g hg).1);replace hb6:=hb6.tr hs (fun hx=>by have:=(ho7.lt _ hx).1;(try have:=or_ho7_b6 _ hx);omega);replace hb7:=hb7.tr hs (fun hx=>by have:=(ho7.lt _ hx).1;(try have:=or_ho7_b7 _ hx);omega);replace hty:=hty.trX hs (fun g hg=>by obtain⟨cs,h⟩:=Z4 ho7 g hg;exact .inr (.inr ⟨_,_,h,.inl dE⟩));have hty2:=(by first | exact HZ hty hlt hlp om hb26 | exact SX hty hlt om:Fz [] (w12).heap.size TS2 w12 (fun w=>TyData w (QJ ns ps (k + 1)) (cs ++ _)))
  refine zn1 ?_;refine xY (v:= .slice _ _ _) hb7 rfl rfl Bx (by first | decide | simp) rfl rfl (fun w13 hq hs=>?_);replace hB:=hB.tr1 hs lo7;replace hb6:=hb6.tr1 hs om;replace ho32:=ho32.tr1 hs (fun g hg=>by have:=(ho32.lt g hg).1;(try have:=or_ho32_b7 g hg);(try simp only [aL] at hg);(try simp only [List.mem_singleton] at hg);omega);replace hty2:=hty2.sp1 hs hb7 (.inl dE);replace hb7:=hq;refine zn7 ?_;refine xv (ns.length - (k + 1)) om agA ?_;exact⟨k + 1,_,_,_,_,by omega,rfl,rfl,hB,hb6,hb7,ho32,hty2⟩
 have hkl:k=ns.length:=by omega
 subst hkl;refine zn9 ?_;refine xY (v:= .slice _ _ _) hb7 rfl rfl sz23_DHo (by first | decide | simp) rfl rfl (fun w14 hq hs=>?_);replace hB:=hB.tr1 hs lo7;replace hb6:=hb6.tr1 hs om;replace ho7:=ho7.tr1 hs (fun g hg=>by have:=(ho7.lt g hg).1;(try have:=or_ho7_b7 g hg);(try simp only [aL] at hg);(try simp only [List.mem_singleton] at hg);omega);replace hty:=hty.sp1 hs hb7 (.inl dE);replace hb7:=hq;refine zn5 ?_;refine zk hb6 rfl rfl Mj rfl zK (fun w15 hq hs=>?_);replace hB:=hB.tr1 hs lo6;replace ho7:=ho7.tr1 hs (fun g hg=>by have:=(ho7.lt g hg).1;(try have:=or_ho7_b6 g hg);(try simp only [aL] at hg);(try simp only [List.mem_singleton] at hg);omega);replace hty:=hty.sp1 hs hb6 (.inl dE);replace hb6:=hq;refine zn3 ?_;refine x5 (.inl rfl) rfl (zy U25 rfl rfl hb6.range0 Mj) ?_;exact⟨⟨_,_,rfl,hof_end ho7 hty⟩,hB⟩
end Go.Proofs.YtdkfnakncaggoaaGreatDoor
namespace Go.Proofs.YtdkfnakncaggoaaGreatDoor
open Go.RowKit
theorem qq:(Tryz.prog.info? 52).map (·.size)=some 2:=by kernel_rfl
theorem xw:(Tryz.prog.info? 55).map (·.size)=some 6:=by kernel_rfl
theorem yX:(Tryz.prog.info? 52).map (·.zero)=some (some (.agg #[.string ⟨#[]⟩,.slice none 0 0])):=by kernel_rfl
theorem kQ:(Tryz.prog.info? 55).map (·.zero)=some (some (.agg #[.int .i64 0,.string ⟨#[]⟩,.int .i64 0,.string ⟨#[]⟩,.slice none 0 0,.slice none 0 0])):=by kernel_rfl
theorem uj (s:ByteArray) (w:World):Calls Tryz.prog 19 #[.string s] w fun e w'=>e= .returned (.agg #[.string s,.slice none 0 0])∧Bel w w':=by
 refine enter Tryz.func19 Tryz.ntmps19 rfl (Nat.le_of_ble_eq_true rfl) ?_;have hB:Bel w w:=Below.refl _ _;refine zn2 ?_;refine qZ (cs:=#[.string ⟨#[]⟩,.slice none 0 0]) yX rfl (fun b2 w1 hb2 hs hr=>?_);have lo2:=nLT (Bel.size hB) hr;replace hB:=hB.tr0 hs;refine zn5 ?_;refine wl (MK (v0:= .string _) (fun v0=>#[v0,.slice none 0 0]) rfl kR) ?_;refine zk hb2 rfl rfl qq rfl zK (fun w2 hq hs=>?_);replace hB:=hB.tr1 hs lo2;replace hb2:=hq;refine zn3 ?_;refine x5 (.inl rfl) rfl (zy U52 rfl rfl hb2.range0 qq) ?_;exact⟨rfl,hB⟩
theorem o7 (X:List Nat) (a b:Ts) (A1 A2:Option Addr) (c1 c2 n1 n2:Nat) (w:World) (hX:∀ x ∈ X,x < w.heap.size) (h1:Fz X n1 TS w (fun w=>SimsIn w A1 (a).sm.args)) (h2:Fz X n2 TS w (fun w=>SimsIn w A2 (b).sm.args)):Calls Tryz.prog 20 #[.agg #[.string (a).sm.base,.slice A1 (a).sm.args.length c1],.agg #[.string (b).sm.base,.slice A2 (b).sm.args.length c2]] w fun e w'=>(∃ z,e= .returned z∧SmD X (.f a b) w' z)∧Bel w w':=by
 refine enter Tryz.func20 Tryz.ntmps20 rfl (Nat.le_of_ble_eq_true rfl) ?_;have hB:Bel w w:=Below.refl _ _;refine zn2 ?_;refine qW (v:= .agg #[_,_]) (cs:=#[_,_]) rfl rfl (fun b2 w1 hb2 hs hr=>?_);replace hB:=hB.tr0 hs;refine qW (v:= .agg #[_,_]) (cs:=#[_,_]) rfl rfl (fun b3 w2 hb3 hs hr=>?_);replace hB:=hB.tr0 hs;replace hb2:=hb2.tr0 hs;refine qZ (cs:=#[.string ⟨#[]⟩,.slice none 0 0]) yX rfl (fun b4 w3 hb4 hs hr=>?_);have lo4:=nLT (Bel.size hB) hr;replace hB:=hB.tr0 hs;replace hb2:=hb2.tr0 hs;replace hb3:=hb3.tr0 hs;refine zn6 ?_;refine qJ (cs:=#[_,_,_,_]) [(0,.agg _),(1,.agg _)] rfl U50 qq yX dE dE kR rfl (fun b7 w4 hb7 hs hr=>?_);have:=nLL hb4.lt hr;replace hB:=hB.tr0 hs;replace hb4:=hb4.tr0 hs;refine wl (MK (v0:= .slice _ _ _) (fun v0=>#[.string ⟨#[]⟩,v0]) rfl kR) ?_;refine zk hb4 rfl rfl qq rfl zK (fun w5 hq hs=>?_);replace hB:=hB.tr1 hs lo4;replace hb7:=hb7.tr1 hs om;replace hb4:=hq;refine zn3 ?_;refine x5 (.inl rfl) rfl (zy U52 rfl rfl hb4.range0 qq) ?_;exact⟨⟨_,rfl,SmD.two hb7 (fun hm=>by have:=hX _ hm;omega) (h1.bel hB) (h2.bel hB)⟩,hB⟩
theorem kW (X:List Nat) (nm:ByteArray) (a:Ts) (A1:Option Addr) (c1 n1:Nat) (w:World) (h1:Fz X n1 TS w (fun w=>SimsIn w A1 (a).sm.args)):Calls Tryz.prog 26 #[.string nm,.agg #[.string (a).sm.base,.slice A1 (a).sm.args.length c1]] w fun e w'=>(∃ z,e= .returned z∧TmD X (.con nm a) w' z)∧Bel w w':=by
 refine enter Tryz.func26 Tryz.ntmps26 rfl (Nat.le_of_ble_eq_true rfl) ?_;have hB:Bel w w:=Below.refl _ _;refine zn2 ?_;refine qW (v:= .agg #[_,_]) (cs:=#[_,_]) rfl rfl (fun b3 w1 hb3 hs hr=>?_);replace hB:=hB.tr0 hs;refine qZ (cs:=#[.int .i64 0,.string ⟨#[]⟩,.int .i64 0,.string ⟨#[]⟩,.slice none 0 0,.slice none 0 0]) kQ rfl (fun b4 w2 hb4 hs hr=>?_);have lo4:=nLT (Bel.size hB) hr;replace hB:=hB.tr0 hs;replace hb3:=hb3.tr0 hs;refine zn6 ?_;refine wl (Jw (v0:= .int _ _) (v1:= .string _) (v2:= .agg _) (fun v0 v1 v2=>#[v0,v1,.int .i64 0,(qX v2 0),(qX v2 1),.slice none 0 0]) rfl rfl rfl kR) ?_;refine zk hb4 rfl rfl xw rfl zK (fun w3 hq hs=>?_);replace hB:=hB.tr1 hs lo4;replace hb4:=hq;refine zn3 ?_;refine x5 (.inl rfl) rfl (zy U55 rfl rfl hb4.range0 xw) ?_;exact⟨⟨_,rfl,TmD.con nm (h1.bel hB)⟩,hB⟩
theorem yW (X:List Nat) (i:Nat) (w:World):Calls Tryz.prog 29 #[.int .i64 ((i:Nat):Int)] w fun e w'=>(∃ z,e= .returned z∧TmD X (.var i) w' z)∧Bel w w':=by
 refine enter Tryz.func29 Tryz.ntmps29 rfl (Nat.le_of_ble_eq_true rfl) ?_;have hB:Bel w w:=Below.refl _ _;refine zn2 ?_;refine qZ (cs:=#[.int .i64 0,.string ⟨#[]⟩,.int .i64 0,.string ⟨#[]⟩,.slice none 0 0,.slice none 0 0]) kQ rfl (fun b2 w1 hb2 hs hr=>?_);have lo2:=nLT (Bel.size hB) hr;replace hB:=hB.tr0 hs;refine zn5 ?_;refine wl (yz (v0:= .int _ _) (v1:= .int _ _) (fun v0 v1=>#[v0,.string ⟨#[]⟩,v1,.string ⟨#[]⟩,.slice none 0 0,.slice none 0 0]) rfl rfl kR) ?_;refine zk hb2 rfl rfl xw rfl zK (fun w2 hq hs=>?_);replace hB:=hB.tr1 hs lo2;replace hb2:=hq;refine zn3 ?_;refine x5 (.inl rfl) rfl (zy U55 rfl rfl hb2.range0 xw) ?_;exact⟨⟨_,rfl,TmD.var i⟩,hB⟩
theorem kw (X:List Nat) (a:Ts) (x:Tv) (A1 S2 B2:Option Addr) (c1 n1 c2 m2 n2:Nat) (w:World) (hX:∀ x ∈ X,x < w.heap.size) (h1:Fz X n1 TS w (fun w=>SimsIn w A1 (a).sm.args)) (h2:Fz X n2 TS w (fun w=>SimsIn w S2 (x).tm.type.args∧TmsIn w B2 (x).tm.args)):Calls Tryz.prog 27 #[.agg #[.string (a).sm.base,.slice A1 (a).sm.args.length c1],.agg #[.int .i64 (x).tm.kind,.string (x).tm.name,.int .i64 (x).tm.index,.string (x).tm.type.base,.slice S2 (x).tm.type.args.length c2,.slice B2 (x).tm.args.length m2]] w fun e w'=>(∃ z,e= .returned z∧TmD X (.abs a x) w' z)∧Bel w w':=by
 refine enter Tryz.func27 Tryz.ntmps27 rfl (Nat.le_of_ble_eq_true rfl) ?_;have hB:Bel w w:=Below.refl _ _;refine zn2 ?_;refine qW (v:= .agg #[_,_]) (cs:=#[_,_]) rfl rfl (fun b2 w1 hb2 hs hr=>?_);replace hB:=hB.tr0 hs;refine qW (v:= .agg #[_,_,_,_,_,_]) (cs:=#[_,_,_,_,_,_]) rfl rfl (fun b3 w2 hb3 hs hr=>?_);replace hB:=hB.tr0 hs;replace hb2:=hb2.tr0 hs;refine qZ (cs:=#[.int .i64 0,.string ⟨#[]⟩,.int .i64 0,.string ⟨#[]⟩,.slice none 0 0,.slice none 0 0]) kQ rfl (fun b4 w3 hb4 hs hr=>?_);have lo4:=nLT (Bel.size hB) hr;replace hB:=hB.tr0 hs;replace hb2:=hb2.tr0 hs;replace hb3:=hb3.tr0 hs;refine zn6 ?_;refine qJ (cs:=#[_,_,_,_,_,_]) [(0,.agg _)] rfl U53 xw kQ dE dE kR rfl (fun b7 w4 hb7 hs hr=>?_);have:=nLL hb4.lt hr;replace hB:=hB.tr0 hs;replace hb4:=hb4.tr0 hs;refine wl (Jw (v0:= .int _ _) (v1:= .agg _) (v2:= .slice _ _ _) (fun v0 v1 v2=>#[v0,.string ⟨#[]⟩,.int .i64 0,(qX v1 0),(qX v1 1),v2]) rfl rfl rfl kR) ?_;refine zk hb4 rfl rfl xw rfl zK (fun w5 hq hs=>?_);replace hB:=hB.tr1 hs lo4;replace hb7:=hb7.tr1 hs om;replace hb4:=hq;refine zn3 ?_;refine x5 (.inl rfl) rfl (zy U55 rfl rfl hb4.range0 xw) ?_;exact⟨⟨_,rfl,TmD.abs (h1.bel hB) hb7 (fun hm=>by have:=hX _ hm;omega) (h2.bel hB)⟩,hB⟩
theorem o5 (X:List Nat) (x y:Tv) (S1 B1 S2 B2:Option Addr) (c1 m1 n1 c2 m2 n2:Nat) (w:World) (hX:∀ x ∈ X,x < w.heap.size) (h1:Fz X n1 TS w (fun w=>SimsIn w S1 (x).tm.type.args∧TmsIn w B1 (x).tm.args)) (h2:Fz X n2 TS w (fun w=>SimsIn w S2 (y).tm.type.args∧TmsIn w B2 (y).tm.args)):Calls Tryz.prog 28 #[.agg #[.int .i64 (x).tm.kind,.string (x).tm.name,.int .i64 (x).tm.index,.string (x).tm.type.base,.slice S1 (x).tm.type.args.length c1,.slice B1 (x).tm.args.length m1],.agg #[.int .i64 (y).tm.kind,.string (y).tm.name,.int .i64 (y).tm.index,.string (y).tm.type.base,.slice S2 (y).tm.type.args.length c2,.slice B2 (y).tm.args.length m2]] w fun e w'=>(∃ z,e= .returned z∧TmD X (.app x y) w' z)∧Bel w w':=by
 refine enter Tryz.func28 Tryz.ntmps28 rfl (Nat.le_of_ble_eq_true rfl) ?_;have hB:Bel w w:=Below.refl _ _;refine zn2 ?_;refine qW (v:= .agg #[_,_,_,_,_,_]) (cs:=#[_,_,_,_,_,_]) rfl rfl (fun b2 w1 hb2 hs hr=>?_);replace hB:=hB.tr0 hs;refine qW (v:= .agg #[_,_,_,_,_,_]) (cs:=#[_,_,_,_,_,_]) rfl rfl (fun b3 w2 hb3 hs hr=>?_);replace hB:=hB.tr0 hs;replace hb2:=hb2.tr0 hs;refine qZ (cs:=#[.int .i64 0,.string ⟨#[]⟩,.int .i64 0,.string ⟨#[]⟩,.slice none 0 0,.slice none 0 0]) kQ rfl (fun b4 w3 hb4 hs hr=>?_);have lo4:=nLT (Bel.size hB) hr;replace hB:=hB.tr0 hs;replace hb2:=hb2.tr0 hs;replace hb3:=hb3.tr0 hs;refine zn6 ?_;refine qJ (cs:=#[_,_,_,_,_,_,_,_,_,_,_,_]) [(0,.agg _),(1,.agg _)] rfl U53 xw kQ dE dE kR rfl (fun b7 w4 hb7 hs hr=>?_);have:=nLL hb4.lt hr;replace hB:=hB.tr0 hs;replace hb4:=hb4.tr0 hs;refine wl (yz (v0:= .int _ _) (v1:= .slice _ _ _) (fun v0 v1=>#[v0,.string ⟨#[]⟩,.int .i64 0,.string ⟨#[]⟩,.slice none 0 0,v1]) rfl rfl kR) ?_;refine zk hb4 rfl rfl xw rfl zK (fun w5 hq hs=>?_);replace hB:=hB.tr1 hs lo4;replace hb7:=hb7.tr1 hs om;replace hb4:=hq;refine zn3 ?_;refine x5 (.inl rfl) rfl (zy U55 rfl rfl hb4.range0 xw) ?_;exact⟨⟨_,rfl,TmD.app hb7 (fun hm=>by have:=hX _ hm;omega) (h1.bel hB) (h2.bel hB)⟩,hB⟩
end Go.Proofs.YtdkfnakncaggoaaGreatDoor
