/- What these functions of the program compute, at every world: glosswright/derive.Code$1. What these functions of the program compute, at every world: glosswright/derive.Code. What these functions of the program compute, at every world: glosswright/derive.Order. What these functions of the program compute, at every world: glosswright/derive.fault, glosswright/derive.Fits$1. -/
import Derived.Test.YtdkfnakncaggoaaGreatDoorU
import Derived.Test.YtdkfnakncaggoaaGreatDoorName
import Derived.Test.YtdkfnakncaggoaaGreatDoorZSu
import Derived.Test.YtdkfnakncaggoaaGreatDoorGNodes
import Derived.Test.YtdkfnakncaggoaaGreatDoorDfs
import Derived.Test.YtdkfnakncaggoaaGreatDoorGEn
import Derived.Test.YtdkfnakncaggoaaGreatDoorTyp
namespace Go.Proofs.YtdkfnakncaggoaaGreatDoor
open Go.RowKit
mutual
theorem Qv:∀ t:Dt,(cdT t).length=ndT t
  | .mk r x ks=>by rw [cdT,ndT,List.length_cons,L0 ks]
theorem L0:∀ l:List Dt,(Qw l).length=JJ l
  | []=>by rw [Qw,JJ];rfl
  | t :: r=>by rw [Qw,JJ,List.length_append,Qv t,L0 r]
end
theorem F2 (t:Dt):0 < ndT t:=by rw [OY];omega
theorem iv_one (xs:List Int):(xs.map (Value.int .i64)).all (·.oneCell')=true:=by simp [List.all_eq_true];intros;rfl
theorem ints_news {w:World} {A:Option Addr} {zs:List Int} (h:IntsIn w A zs) (hn:0 < zs.length):∃ b o,A=some ⟨b,o,none⟩∧∀ j u,(zs.map (Value.int .i64))[j]? =some u→w.cell? ⟨b,o + j,none⟩=some u:=by
  obtain⟨b,o,e,_,hc⟩:=h.2 (by rintro rfl;simp at hn);refine⟨b,o,e,fun j u hj=>?_⟩;rw [List.getElem?_map,Option.map_eq_some_iff] at hj;obtain⟨z,hz,rfl⟩:=hj;obtain⟨hl,rfl⟩:=List.getElem?_eq_some_iff.1 hz;have:=hc j hl
  rwa [Nat.mul_one] at this
def CdR (bL base:Nat) (As:Option Addr) (zs:List Int) (w w':World):Prop:=∃ A' cap',Blk w' bL 69 #[.slice A' (zs).length cap']∧Own w' base 3 1 A' (zs).length cap' ((zs).map (Value.int .i64))∧ChG (fun g=>g=bL∨g ∈ aL As) w w'∧(aL A'=aL As∨∀ g ∈ aL A',w.heap.size≤g)
theorem fn75:zQ Tryz.prog 75=true:=by kernel_rfl
theorem Hy:(Tryz.prog.info? 3).map (fun i=>(i.zero,i.size,i.bytes))=some (some (.int .i64 0),1,8):=by kernel_rfl
theorem Y8:(Tryz.prog.info? 3).map (·.size)=some 1:=by kernel_rfl
theorem B7:(Tryz.prog.info? 35).map (·.size)=some 3:=by kernel_rfl
theorem B5:(Tryz.prog.info? 69).map (·.size)=some 1:=by kernel_rfl
theorem Iy:(Tryz.prog.info? 3).map (·.zero)=some (some (.int .i64 0)):=by kernel_rfl
theorem Cj:(Tryz.prog.info? 35).map (·.zero)=some (some (.agg #[.int .i64 0,.int .i64 0,.slice none 0 0])):=by kernel_rfl
set_option maxRecDepth 100000 in
set_option maxHeartbeats 2000000 in
theorem cd_step {rs:List Rl} {nx:Nat} {w0:World} {bL bV base:Nat} (hnx:nx≤100) (l0L:w0.heap.size≤bL) (_l0V:w0.heap.size≤bV) (hne:bL≠bV) (hlL:bL < base) (hlV:bV < base) {t:Dt} {A As:Option Addr} {c cap:Nat} {xs:List Int} {w:World} (hT:TresIn w0 A t.kids) (hok:OkT rs nx t) (IH:∀ x ∈ t.kids,∀ (A2:Option Addr) (c2:Nat) (ys:List Int) (A3:Option Addr) (cap3:Nat) (w2:World),TresIn w0 A2 x.kids→OkT rs nx x→ys.length + ndT x≤400→base≤w2.heap.size→Bel w0 w2→Blk w2 bL 69 #[.slice A3 (ys).length cap3]→Blk w2 bV 131 #[.func (.func 75) #[] #[.pointer (some ⟨bL,0,none⟩),.pointer (some ⟨bV,0,none⟩)]]→Own w2 base 3 1 A3 (ys).length cap3 ((ys).map (Value.int .i64))→Calls Tryz.prog 75 #[.agg #[.int .i64 (x).rule,.int .i64 (x).lex,.slice A2 (x).kids.length c2],.pointer (some ⟨bL,0,none⟩),.pointer (some ⟨bV,0,none⟩)] w2 fun e w'=>e= .returned (.tuple #[])∧CdR bL base A3 (ys ++ cdT x) w2 w') (hn:xs.length + ndT t≤400) (hbase:base≤w.heap.size) (hB:Bel w0 w) (hbL:Blk w bL 69 #[.slice As (xs).length cap]) (hbV:Blk w bV 131 #[.func (.func 75) #[] #[.pointer (some ⟨bL,0,none⟩),.pointer (some ⟨bV,0,none⟩)]]) (ho:Own w base 3 1 As (xs).length cap ((xs).map (Value.int .i64))):Calls Tryz.prog 75 #[.agg #[.int .i64 (t).rule,.int .i64 (t).lex,.slice A (t).kids.length c],.pointer (some ⟨bL,0,none⟩),.pointer (some ⟨bV,0,none⟩)] w fun e w'=>e= .returned (.tuple #[])∧CdR bL base As (xs ++ cdT t) w w':=by
 have hmx:=hT.le;unfold yJ at hmx;have l0B:w0.heap.size≤base:=by omega
 have ltL:=hbL.lt;have ltV:=hbV.lt;obtain⟨hk1,hk2⟩:=hok.at_;have hC:ChG (fun g=>g=bL∨g ∈ aL As) w w:=ChG.refl _ _;have hnd:=F2 t;refine enter Tryz.func75 Tryz.ntmps75 rfl (Nat.le_of_ble_eq_true rfl) (zn2 ?_);refine qW (v:= .agg #[_,_,_]) (cs:=#[_,_,_]) rfl rfl (fun b3 w1 hb3 hs hr=>?_);have:=nLL hbL.lt hr;have or_ho_b3:=fun g hg=>nLL (ho.lt g hg).2 hr
 replace hB:=hB.tr0 hs;replace hbL:=hbL.tr0 hs;replace hbV:=hbV.tr0 hs;replace ho:=ho.tr0 hs;replace hC:=hC.st hs (by simp);refine yq ?_;refine xK [9,10,11,12,13,14,15,16,17,18,19] (fun g w'=>∃ A1 cap1,Bel w0 w'∧Blk w' bL 69 #[.slice A1 (xs ++ [hdT t.rule t.lex]).length cap1]∧Blk w' bV 131 #[.func (.func 75) #[] #[.pointer (some ⟨bL,0,none⟩),.pointer (some ⟨bV,0,none⟩)]]∧Blk w' b3 35 #[.int .i64 t.rule,.int .i64 t.lex,.slice A t.kids.length c]∧Own w' base 3 1 A1 (xs ++ [hdT t.rule t.lex]).length cap1 ((xs ++ [hdT t.rule t.lex]).map (Value.int .i64))∧ChG (fun g=>g=bL∨g ∈ aL As) w w'∧(aL A1=aL As∨∀ g ∈ aL A1,w.heap.size≤g)∧∀ g ∈ aL A1,g≠b3) ?_ (fun gx1 w2 hI=>?_)
 ·refine zw rfl (fun c8=>?_) (fun c8=>?_)
  ·obtain⟨_,q1,q2,_⟩:=Z5 hk1 c8;have hhd:hdT t.rule t.lex=1000 + t.lex:=if_pos c8;refine zn5 ?_;refine qJ (cs:=#[_]) [(0,.int _ _)] rfl U69 Y8 Iy dE dE kR rfl (fun b13 w3 hb13 hs hr=>?_);have:=nLL hbL.lt hr;have:=nLL hbV.lt hr;have:=nLL hb3.lt hr;replace hB:=hB.tr0 hs;replace hbL:=hbL.tr0 hs;replace hbV:=hbV.tr0 hs;replace ho:=ho.tr0 hs;replace hC:=hC.st hs (by simp);replace hb3:=hb3.tr0 hs;have hszA:=hC.size;refine o8 U69 Hy rfl dE ho hb13 rfl rfl rfl zK dE om om (nLT hbase hC.size) (fun g14 cap14 w4 ho14 hs hg=>?_);have ne_ho14_bL:g14≠bL:=fun e=>by
    have hl:=hbL.lt;rcases hg with hg | hg
    · have h1:=ho.lt g14 (by rw [hg];exact List.mem_singleton.2 rfl)
      (try have:=or_ho_bL g14 (by rw [hg];exact List.mem_singleton.2 rfl));omega
    · omega
   have ne_ho14_bV:g14≠bV:=fun e=>by
    have hl:=hbV.lt;rcases hg with hg | hg
    · have h1:=ho.lt g14 (by rw [hg];exact List.mem_singleton.2 rfl)
      (try have:=or_ho_bV g14 (by rw [hg];exact List.mem_singleton.2 rfl));omega
    · omega
   have ne_ho14_b3:g14≠b3:=fun e=>by
    have hl:=hb3.lt;rcases hg with hg | hg
    · have h1:=ho.lt g14 (by rw [hg];exact List.mem_singleton.2 rfl)
      (try have:=or_ho_b3 g14 (by rw [hg];exact List.mem_singleton.2 rfl));omega
    · omega
   replace hB:=hB.tr hs (fun g hg=>nLT l0B (ho.lt g hg).1);replace hbL:=hbL.tr hs (fun hx=>by have:=(ho.lt _ hx).1;(try have:=or_ho_bL _ hx);omega);replace hbV:=hbV.tr hs (fun hx=>by have:=(ho.lt _ hx).1;(try have:=or_ho_bV _ hx);omega);replace hC:=hC.st hs (fun g hg=> .inl (.inr hg));replace hb3:=hb3.tr hs (fun hx=>by have:=(ho.lt _ hx).1;(try have:=or_ho_b3 _ hx);omega);refine xY (v:= .slice _ _ _) hbL rfl rfl B5 (by first | decide | simp) rfl rfl (fun w5 hq hs=>?_);replace hB:=hB.tr1 hs l0L;replace hbV:=hbV.tr1 hs om;replace hC:=hC.st hs (fun g hg=>by rw [List.mem_singleton.1 hg];first | exact .inl (.inl rfl) | exact .inr or_hC_bL);replace hb3:=hb3.tr1 hs om;replace ho14:=ho14.tr1 hs (fun g hg=>by have:=(ho14.lt g hg).1;(try have:=or_ho14_bL g hg);(try simp only [aL] at hg);(try simp only [List.mem_singleton] at hg);omega);replace hbL:=hq;refine zZ ?_;refine e_R ⟨agA,?_⟩
   first
   | (exact⟨_,_,hB,(by have q:=hbL;rw [show _=_ from Y9 _ _ xs (hdT t.rule t.lex)] at q;exact q),hbV,hb3,(by rw [hhd];exact ZV ho14),hC,(by
       rcases hg with hg | hg
       · exact .inl hg.symm
       · exact .inr (fun g hgm=>by cases List.mem_singleton.1 hgm;exact nLT hszA hg)),fun g hgm=>by cases List.mem_singleton.1 hgm;exact ne_ho14_b3⟩)
   | (exact⟨_,_,hB,(by have q:=hbL;rw [show _=_ from Y9 _ _ xs (hdT t.rule t.lex)] at q;exact q),hbV,hb3,(by rw [hhd];exact ZV ho19),hC,(by
       rcases hg with hg | hg
       · exact .inl hg.symm
       · exact .inr (fun g hgm=>by cases List.mem_singleton.1 hgm;exact nLT hszA hg)),fun g hgm=>by cases List.mem_singleton.1 hgm;exact ne_ho19_b3⟩)
  have hhd:hdT t.rule t.lex=t.rule:=if_neg c8;refine zn4 ?_;refine qJ (cs:=#[_]) [(0,.int _ _)] rfl U69 Y8 Iy dE dE kR rfl (fun b18 w6 hb18 hs hr=>?_);have:=nLL hbL.lt hr;have:=nLL hbV.lt hr;have:=nLL hb3.lt hr;replace hB:=hB.tr0 hs;replace hbL:=hbL.tr0 hs;replace hbV:=hbV.tr0 hs;replace ho:=ho.tr0 hs;replace hC:=hC.st hs (by simp);replace hb3:=hb3.tr0 hs;have hszA:=hC.size;refine o8 U69 Hy rfl dE ho hb18 rfl rfl rfl zK dE om om (nLT hbase hC.size) (fun g19 cap19 w7 ho19 hs hg=>?_);have ne_ho19_bL:g19≠bL:=fun e=>by
   have hl:=hbL.lt;rcases hg with hg | hg
   · have h1:=ho.lt g19 (by rw [hg];exact List.mem_singleton.2 rfl)
     (try have:=or_ho_bL g19 (by rw [hg];exact List.mem_singleton.2 rfl));omega
   · omega
  have ne_ho19_bV:g19≠bV:=fun e=>by
   have hl:=hbV.lt;rcases hg with hg | hg
   · have h1:=ho.lt g19 (by rw [hg];exact List.mem_singleton.2 rfl)
     (try have:=or_ho_bV g19 (by rw [hg];exact List.mem_singleton.2 rfl));omega
   · omega
  have ne_ho19_b3:g19≠b3:=fun e=>by
   have hl:=hb3.lt;rcases hg with hg | hg
   · have h1:=ho.lt g19 (by rw [hg];exact List.mem_singleton.2 rfl)
     (try have:=or_ho_b3 g19 (by rw [hg];exact List.mem_singleton.2 rfl));omega
   · omega
  replace hB:=hB.tr hs (fun g hg=>nLT l0B (ho.lt g hg).1);replace hbL:=hbL.tr hs (fun hx=>by have:=(ho.lt _ hx).1;(try have:=or_ho_bL _ hx);omega);replace hbV:=hbV.tr hs (fun hx=>by have:=(ho.lt _ hx).1;(try have:=or_ho_bV _ hx);omega);replace hC:=hC.st hs (fun g hg=> .inl (.inr hg));replace hb3:=hb3.tr hs (fun hx=>by have:=(ho.lt _ hx).1;(try have:=or_ho_b3 _ hx);omega);refine xY (v:= .slice _ _ _) hbL rfl rfl B5 (by first | decide | simp) rfl rfl (fun w8 hq hs=>?_);replace hB:=hB.tr1 hs l0L;replace hbV:=hbV.tr1 hs om;replace hC:=hC.st hs (fun g hg=>by rw [List.mem_singleton.1 hg];first | exact .inl (.inl rfl) | exact .inr or_hC_bL);replace hb3:=hb3.tr1 hs om;replace ho19:=ho19.tr1 hs (fun g hg=>by have:=(ho19.lt g hg).1;(try have:=or_ho19_bL g hg);(try simp only [aL] at hg);(try simp only [List.mem_singleton] at hg);omega);replace hbL:=hq;refine zZ ?_;refine e_R ⟨agA,?_⟩
  first
  | (exact⟨_,_,hB,(by have q:=hbL;rw [show _=_ from Y9 _ _ xs (hdT t.rule t.lex)] at q;exact q),hbV,hb3,(by rw [hhd];exact ZV ho14),hC,(by
      rcases hg with hg | hg
      · exact .inl hg.symm
      · exact .inr (fun g hgm=>by cases List.mem_singleton.1 hgm;exact nLT hszA hg)),fun g hgm=>by cases List.mem_singleton.1 hgm;exact ne_ho14_b3⟩)
  | (exact⟨_,_,hB,(by have q:=hbL;rw [show _=_ from Y9 _ _ xs (hdT t.rule t.lex)] at q;exact q),hbV,hb3,(by rw [hhd];exact ZV ho19),hC,(by
      rcases hg with hg | hg
      · exact .inl hg.symm
      · exact .inr (fun g hgm=>by cases List.mem_singleton.1 hgm;exact nLT hszA hg)),fun g hgm=>by cases List.mem_singleton.1 hgm;exact ne_ho19_b3⟩)
 obtain⟨A1,cap1,hB,hbL,hbV,hb3,ho,hC,hA,hn3⟩:=hI;refine yq ?_;refine q8 [5,23,24,25,26,27,28,29,30] (fun m g w'=>∃ (j:Nat) (ys:List Int) (A2:Option Addr) (cap2:Nat),j≤t.kids.length∧m=t.kids.length - j∧g 23= .int .i64 j∧xs ++ cdT t=ys ++ Qw (t.kids.drop j)∧Bel w0 w'∧Blk w' bL 69 #[.slice A2 (ys).length cap2]∧Blk w' bV 131 #[.func (.func 75) #[] #[.pointer (some ⟨bL,0,none⟩),.pointer (some ⟨bV,0,none⟩)]]∧Blk w' b3 35 #[.int .i64 t.rule,.int .i64 t.lex,.slice A t.kids.length c]∧Own w' base 3 1 A2 (ys).length cap2 ((ys).map (Value.int .i64))∧ChG (fun g=>g=bL∨g ∈ aL As) w w'∧(aL A2=aL As∨∀ g ∈ aL A2,w.heap.size≤g)∧∀ g ∈ aL A2,g≠b3) (t.kids.length) ?_ (fun m g5 w9 hI=>?_)
 ·exact⟨0,xs ++ [hdT t.rule t.lex],A1,cap1,Nat.zero_le _,rfl,rfl,by simp [N5],hB,hbL,hbV,hb3,ho,hC,hA,hn3⟩
 obtain⟨j,ys,A2,cap2,hj,hm,h23,hR,hB,hbL,hbV,hb3,ho,hC,hA,hn3⟩:=hI;refine zJ 23 (.int .i64 j) h23 nu (zn6 ?_);refine zw rfl (fun c24=>?_) (fun c24=>?_)
 ·have hjl:j < t.kids.length:=by omega
  obtain⟨sb,so,A',c',rfl,hsb,hsr,hs2⟩:=hT.at_ hjl;rw [List.drop_eq_getElem_cons hjl,Qw] at hR;have hl:=congrArg List.length hR;rw [List.length_append,List.length_append,List.length_append,Qv,Qv] at hl;have hR3:=hR;rw [← List.append_assoc] at hR3;refine zn8 ?_;refine qZ (cs:=#[.int .i64 0,.int .i64 0,.slice none 0 0]) Cj rfl (fun b5 w10 hb5 hs hr=>?_);have:=nLL hbL.lt hr;have:=nLL hbV.lt hr;have or_hC_b5:=(nLT hC.size hr)
  have:=nLL hb3.lt hr;have or_ho_b5:=fun g hg=>nLL (ho.lt g hg).2 hr
  have lo5:=nLT (Bel.size hB) hr;replace hB:=hB.tr0 hs;replace hbL:=hbL.tr0 hs;replace hbV:=hbV.tr0 hs;replace hC:=hC.st hs (by simp);replace hb3:=hb3.tr0 hs;replace ho:=ho.tr0 hs;refine zk hb5 rfl rfl B7 rfl zK (fun w11 hq hs=>?_);replace hB:=hB.tr1 hs lo5;replace hbL:=hbL.tr1 hs om;replace hbV:=hbV.tr1 hs om;replace hC:=hC.st hs (fun g hg=>by rw [List.mem_singleton.1 hg];first | exact .inl (.inl rfl) | exact .inr or_hC_b5);replace hb3:=hb3.tr1 hs om;replace ho:=ho.tr1 hs (fun g hg=>by have:=(ho.lt g hg).1;(try have:=or_ho_b5 g hg);(try simp only [aL] at hg);(try simp only [List.mem_singleton] at hg);omega);replace hb5:=hq;refine zn5 ?_;refine xJ rfl fn75 (IH _ (List.getElem_mem hjl) A' c' ys A2 cap2 _ hs2 (hk2 _ (List.getElem_mem hjl)) om (nLT hbase hC.size) hB hbL hbV ho) rfl rfl (fun e' w12 hr=>?_);obtain⟨rfl,A3,cap3,hbL2,ho2,hC2,hA2⟩:=hr;have hsz5:=hC.size;have hb3l:=hb3.lt
  replace hB:=hB.chG hC2 (fun g hg=>by
    rcases(show g=bL∨g ∈ aL A2 from hg) with e | e
    · rw [e];exact l0L
    · exact nLT l0B (ho.lt g e).1)
  replace hbV:=hbV.chG hC2 (fun hx=>by
    rcases(show bV=bL∨bV ∈ aL A2 from hx) with e | e
    · exact hne e.symm
    · have:=(ho.lt _ e).1;omega)
  replace hb3:=hb3.chG hC2 (fun hx=>by
    rcases(show b3=bL∨b3 ∈ aL A2 from hx) with e | e
    · omega
    · exact hn3 _ e rfl)
  replace hC:=hC.trans hC2 (fun g hg=>by
    rcases(show g=bL∨g ∈ aL A2 from hg) with e | e
    · exact .inl (.inl e)
    · rcases hA with ha | ha
      · exact .inl (.inr (ha ▸ e))
      · exact .inr (ha g e))
  have hn4:∀ g ∈ aL A3,g≠b3:=fun g hg=>by
    rcases hA2 with ha | ha
    · exact hn3 g (ha ▸ hg)
    · have:=ha g hg;omega
  have hA3:aL A3=aL As∨∀ g ∈ aL A3,w.heap.size≤g:=by
    rcases hA2 with ha | ha
    · rw [ha];exact hA
    · exact .inr (fun g hg=>nLT hsz5 (ha g hg))
  replace ho:=ho2;replace hbL:=hbL2;refine⟨_,rfl,?_⟩;refine zn7 ?_;refine xv (t.kids.length - (j + 1)) om agA ?_;exact⟨j + 1,_,A3,cap3,by omega,rfl,rfl,hR3,hB,hbL,hbV,hb3,ho,hC,hA3,hn4⟩
 have hje:j=t.kids.length:=by omega
 rw [hje,List.drop_length,Qw,List.append_nil] at hR;refine zn4 ?_;refine fin0 (.inr rfl) rfl  ?_;rw [← hR] at hbL ho;exact⟨rfl,A2,cap2,hbL,ho,hC,hA⟩
theorem cd_anyK {rs:List Rl} {nx:Nat} {w0:World} {bL bV base:Nat} (hnx:nx≤100) (l0L:w0.heap.size≤bL) (_l0V:w0.heap.size≤bV) (hne:bL≠bV) (hlL:bL < base) (hlV:bV < base):∀ (k:Nat) (t:Dt),SizeOf.sizeOf t < k→∀ (A As:Option Addr) (c cap:Nat) (xs:List Int) (w:World),TresIn w0 A t.kids→OkT rs nx t→xs.length + ndT t≤400→base≤w.heap.size→Bel w0 w→Blk w bL 69 #[.slice As (xs).length cap]→Blk w bV 131 #[.func (.func 75) #[] #[.pointer (some ⟨bL,0,none⟩),.pointer (some ⟨bV,0,none⟩)]]→Own w base 3 1 As (xs).length cap ((xs).map (Value.int .i64))→Calls Tryz.prog 75 #[.agg #[.int .i64 (t).rule,.int .i64 (t).lex,.slice A (t).kids.length c],.pointer (some ⟨bL,0,none⟩),.pointer (some ⟨bV,0,none⟩)] w fun e w'=>e= .returned (.tuple #[])∧CdR bL base As (xs ++ cdT t) w w':=by
  intro k
  induction k with
  | zero=>intro t h;omega
  | succ k ih=>
    intro t h A As c cap xs w hT hok hn hb hB hbL hbV ho;refine cd_step hnx l0L _l0V hne hlL hlV hT hok (fun x hx A2 c2 ys A3 cap3 w2 h1 h2 h3 h4 h5 h6 h7 h8=>ih x ?_ A2 A3 c2 cap3 ys w2 h1 h2 h3 h4 h5 h6 h7 h8) hn hb hB hbL hbV ho;have:=List.sizeOf_lt_of_mem hx;cases t with
    | mk r x ks=>simp only [Dt.mk.sizeOf_spec,Dt.kids] at h this;omega
end Go.Proofs.YtdkfnakncaggoaaGreatDoor
namespace Go.Proofs.YtdkfnakncaggoaaGreatDoor
open Go.RowKit
theorem sz131:(Tryz.prog.info? 131).map (·.size)=some 1:=by kernel_rfl
theorem ze131:(Tryz.prog.info? 131).map (·.zero)=some (some (.nilFunc)):=by kernel_rfl
theorem ze69_ZCo:(Tryz.prog.info? 69).map (·.zero)=some (some (.slice none 0 0)):=by kernel_rfl
set_option maxHeartbeats 1000000 in
theorem T8 {rs:List Rl} {nx:Nat} (hnx:nx≤100) (t:Dt) (A:Option Addr) (c:Nat) (w:World) (hT:TresIn w A t.kids) (hok:OkT rs nx t) (hnd:ndT t≤200):Calls Tryz.prog 56 #[.agg #[.int .i64 (t).rule,.int .i64 (t).lex,.slice A (t).kids.length c]] w fun e w'=>∃ A' c',e= .returned (.slice A' (cdT t).length c')∧IntsIn w' A' (cdT t)∧Bel w w':=by
 refine enter Tryz.func56 Tryz.ntmps56 rfl (Nat.le_of_ble_eq_true rfl) ?_;have hB:Bel w w:=Below.refl _ _;refine zn2 ?_;refine qW (v:= .agg #[_,_,_]) (cs:=#[_,_,_]) rfl rfl (fun b1 w1 hb1 hs hr=>?_);replace hB:=hB.tr0 hs;refine zn5 ?_;refine qZ (cs:=#[.slice none 0 0]) ze69_ZCo rfl (fun b3 w2 hb3 hs hr=>?_);have:=nLL hb1.lt hr;have lo3:=nLT (Bel.size hB) hr;replace hB:=hB.tr0 hs;replace hb1:=hb1.tr0 hs;refine zn4 ?_;refine qZ (cs:=#[.nilFunc]) ze131 rfl (fun b4 w3 hb4 hs hr=>?_);have:=nLL hb1.lt hr;have:=nLL hb3.lt hr;have lo4:=nLT (Bel.size hB) hr;replace hB:=hB.tr0 hs;replace hb1:=hb1.tr0 hs;replace hb3:=hb3.tr0 hs;refine zn4 ?_;refine wl (r_mf rfl) ?_;refine xY (v:= .func _ _ _) hb4 rfl rfl sz131 (by first | decide | simp) rfl rfl (fun w4 hq hs=>?_);replace hB:=hB.tr1 hs lo4;replace hb1:=hb1.tr1 hs om;replace hb3:=hb3.tr1 hs om;replace hb4:=hq;refine zn6 ?_;refine xJ rfl fn75 (cd_anyK (w0:=w) (bL:=b3) (bV:=b4) (base:=b4 + 1) hnx lo3 lo4 om om om (SizeOf.sizeOf t + 1) t (Nat.lt_succ_self _) A none c 0 [] _ hT hok (by rw [List.length_nil];omega) hb4.lt hB hb3 hb4 (Own.nil _ _ _ _)) rfl rfl (fun e' w5 hr=>?_);obtain⟨rfl,A3,cap3,hb3n,ho3,hC2,_⟩:=hr
 replace hB:=hB.chG hC2 (fun g hg=>by
   rcases(show g=b3∨g ∈ aL none from hg) with e | e
   · rw [e];exact lo3
   · cases e)
 replace hb3:=hb3n;have hin:=Jy ho3;refine⟨_,rfl,?_⟩;refine yq ?_;exact⟨A3,cap3,rfl,hin,hB⟩
end Go.Proofs.YtdkfnakncaggoaaGreatDoor
namespace Go.Proofs.YtdkfnakncaggoaaGreatDoor
open Go.RowKit
theorem fn36:zQ Tryz.prog 36=true:=by kernel_rfl
theorem fn53:zQ Tryz.prog 53=true:=by kernel_rfl
theorem fn56:zQ Tryz.prog 56=true:=by kernel_rfl
set_option maxRecDepth 100000 in
set_option maxHeartbeats 2000000 in
theorem order_any (AT AF AR AX AS:Option Addr) (ct cf cr cx cst:Nat) (l:List Ty) (fs:List Ft) (rs:List Rl) (xs:List Lx) (st:List Nd) (t:Dt) (A:Option Addr) (c:Nat) (u:Dt) (B:Option Addr) (d:Nat) (w:World) (hwr:∀ r ∈ rs,0≤r.wt∧r.wt≤1000000) (hwx:∀ x ∈ xs,0≤x.wt∧x.wt≤1000000) (hx:xs.length≤100) (hRu:RulesIn w AR rs) (hLx:LexesIn w AX xs) (hT:TresIn w A t.kids) (hV:TresIn w B u.kids) (ht:OkT rs xs.length t) (hnt:ndT t≤200) (hu:OkT rs xs.length u) (hnu:ndT u≤200):Calls Tryz.prog 18 #[.agg #[.slice AT l.length ct,.slice AF fs.length cf,.slice AR rs.length cr,.slice AX xs.length cx,.slice AS st.length cst],.agg #[.int .i64 (t).rule,.int .i64 (t).lex,.slice A (t).kids.length c],.agg #[.int .i64 (u).rule,.int .i64 (u).lex,.slice B (u).kids.length d]] w fun e w'=>e= .returned (.int .i64 (vW rs xs t u))∧Bel w w':=by
 refine enter Tryz.func18 Tryz.ntmps18 rfl (Nat.le_of_ble_eq_true rfl) ?_;have hB:Bel w w:=Below.refl _ _;refine zn2 ?_;refine qW (v:= .agg #[_,_,_,_,_]) (cs:=#[_,_,_,_,_]) rfl rfl (fun b3 w1 hb3 hs hr=>?_);replace hB:=hB.tr0 hs;refine qW (v:= .agg #[_,_,_]) (cs:=#[_,_,_]) rfl rfl (fun b4 w2 hb4 hs hr=>?_);replace hB:=hB.tr0 hs;replace hb3:=hb3.tr0 hs;refine qW (v:= .agg #[_,_,_]) (cs:=#[_,_,_]) rfl rfl (fun b5 w3 hb5 hs hr=>?_);replace hB:=hB.tr0 hs;replace hb3:=hb3.tr0 hs;replace hb4:=hb4.tr0 hs;refine zn4 ?_;refine yk 15 [7,8,9,10,11,12,13,14,15,16,17,18,19,20,6] (fun _=>false) (fun ix v wv=>match ix with | 0=>v= .agg #[.slice AT l.length ct,.slice AF fs.length cf,.slice AR rs.length cr,.slice AX xs.length cx,.slice AS st.length cst] | 1=>v= .agg #[.int .i64 (t).rule,.int .i64 (t).lex,.slice A (t).kids.length c] | 2=>v= .int .i64 (wtT rs xs t) | 3=>v= .agg #[.slice AT l.length ct,.slice AF fs.length cf,.slice AR rs.length cr,.slice AX xs.length cx,.slice AS st.length cst] | 4=>v= .agg #[.int .i64 (u).rule,.int .i64 (u).lex,.slice B (u).kids.length d] | 5=>v= .int .i64 (wtT rs xs u) | 6=>v= .int .i64 (uW (wtT rs xs t) (wtT rs xs u)) | 7=>v= .agg #[.int .i64 (t).rule,.int .i64 (t).lex,.slice A (t).kids.length c] | 8=>∃ A' c',v= .slice A' (cdT t).length c'∧IntsIn wv A' (cdT t) | 9=>v= .agg #[.int .i64 (u).rule,.int .i64 (u).lex,.slice B (u).kids.length d] | 10=>∃ A' c',v= .slice A' (cdT u).length c'∧IntsIn wv A' (cdT u) | 11=>v= .int .i64 (kv (cdT t) (cdT u)) | 12=>∃ b,v= .slice (some ⟨b,0,none⟩) 2 2∧IntsIn wv (some ⟨b,0,none⟩) [uW (wtT rs xs t) (wtT rs xs u),kv (cdT t) (cdT u)] | 13=>v= .int .i64 (vW rs xs t u) | 14=>v= .int .i64 (vW rs xs t u) | _=>True) kR kR ?_ ?_ ?_
 ·intro ix v wv wv2 h hs
  match ix,h with
  | 0,h=>exact h
  | 1,h=>exact h
  | 2,h=>exact h
  | 3,h=>exact h
  | 4,h=>exact h
  | 5,h=>exact h
  | 6,h=>exact h
  | 7,h=>exact h
  | 8,h=>
   obtain⟨A15,c15,e15,hi15⟩:=h;exact⟨A15,c15,e15,hi15.mono hs.bel⟩
  | 9,h=>exact h
  | 10,h=>
   obtain⟨A17,c17,e17,hi17⟩:=h;exact⟨A17,c17,e17,hi17.mono hs.bel⟩
  | 11,h=>exact h
  | 12,h=>
   obtain⟨b19,e19,hi19⟩:=h;exact⟨b19,e19,hi19.mono hs.bel⟩
  | 13,h=>exact h
  | 14,h=>exact h
  | _ + 15,h=>exact trivial
 ·intro ix o hix hoq gg wx hs hd hdis
  match ix,hix,hoq with
  | 0,_,hoq=>
   cases sI hoq;replace hb3:=hb3.tr0 hs;exact oV (zW U32 rfl rfl hb3.range0 Bz) rfl
  | 1,_,hoq=>
   cases sI hoq;replace hb4:=hb4.tr0 hs;exact oV (zW U35 rfl rfl hb4.range0 X7) rfl
  | 2,_,hoq=>
   cases sI hoq;replace hB:=hB.tr0 hs;refine z4 7 (.agg #[.slice AT l.length ct,.slice AF fs.length cf,.slice AR rs.length cr,.slice AX xs.length cx,.slice AS st.length cst]) (hd 0 (zz kR)) nu (z4 8 (.agg #[.int .i64 (t).rule,.int .i64 (t).lex,.slice A (t).kids.length c]) (hd 1 (zz kR)) nu ?_);refine qx fn55 (WV hwr hwx t A c wx (hRu.mono hB) (hLx.mono hB) (hT.mono hB) ht hnt) rfl (fun e' w2 hr=>?_);obtain⟨rfl,hs⟩:=hr;exact⟨_,rfl,sB hs,rfl,zX⟩
  | 3,_,hoq=>
   cases sI hoq;replace hb3:=hb3.tr0 hs;exact oV (zW U32 rfl rfl hb3.range0 Bz) rfl
  | 4,_,hoq=>
   cases sI hoq;replace hb5:=hb5.tr0 hs;exact oV (zW U35 rfl rfl hb5.range0 X7) rfl
  | 5,_,hoq=>
   cases sI hoq;replace hB:=hB.tr0 hs;refine z4 10 (.agg #[.slice AT l.length ct,.slice AF fs.length cf,.slice AR rs.length cr,.slice AX xs.length cx,.slice AS st.length cst]) (hd 3 (zz kR)) nu (z4 11 (.agg #[.int .i64 (u).rule,.int .i64 (u).lex,.slice B (u).kids.length d]) (hd 4 (zz kR)) nu ?_);refine qx fn55 (WV hwr hwx u B d wx (hRu.mono hB) (hLx.mono hB) (hV.mono hB) hu hnu) rfl (fun e' w2 hr=>?_);obtain⟨rfl,hs⟩:=hr;exact⟨_,rfl,sB hs,rfl,zX⟩
  | 6,_,hoq=>
   cases sI hoq;refine z4 9 (.int .i64 (wtT rs xs t)) (hd 2 (zz kR)) nu (z4 12 (.int .i64 (wtT rs xs u)) (hd 5 (zz kR)) nu ?_);refine qx fn54 (Y0 _ _ wx) rfl (fun e' w2 hr=>?_);obtain⟨rfl,hs⟩:=hr;exact⟨_,rfl,sB hs,rfl,zX⟩
  | 7,_,hoq=>
   cases sI hoq;replace hb4:=hb4.tr0 hs;exact oV (zW U35 rfl rfl hb4.range0 X7) rfl
  | 8,_,hoq=>
   cases sI hoq;replace hB:=hB.tr0 hs;refine z4 14 (.agg #[.int .i64 (t).rule,.int .i64 (t).lex,.slice A (t).kids.length c]) (hd 7 (zz kR)) nu ?_;refine qx fn56 (T8 hx t A c wx (hT.mono hB) ht hnt) rfl (fun e' w2 hr=>?_);obtain⟨A9,c9,rfl,hi9,hs⟩:=hr;exact⟨_,rfl,sB hs,⟨A9,c9,rfl,hi9⟩,zX⟩
  | 9,_,hoq=>
   cases sI hoq;replace hb5:=hb5.tr0 hs;exact oV (zW U35 rfl rfl hb5.range0 X7) rfl
  | 10,_,hoq=>
   cases sI hoq;replace hB:=hB.tr0 hs;refine z4 16 (.agg #[.int .i64 (u).rule,.int .i64 (u).lex,.slice B (u).kids.length d]) (hd 9 (zz kR)) nu ?_;refine qx fn56 (T8 hx u B d wx (hV.mono hB) hu hnu) rfl (fun e' w2 hr=>?_);obtain⟨A9,c9,rfl,hi9,hs⟩:=hr;exact⟨_,rfl,sB hs,⟨A9,c9,rfl,hi9⟩,zX⟩
  | 11,_,hoq=>
   cases sI hoq;obtain⟨A15,c15,e15,hi15⟩:=hd 8 (zz kR);obtain⟨A17,c17,e17,hi17⟩:=hd 10 (zz kR);refine z4 15 (.slice A15 (cdT t).length c15) e15 nu (z4 17 (.slice A17 (cdT u).length c17) e17 nu ?_);refine qx fn36 (BJ A15 A17 c15 c17 (cdT t) (cdT u) wx hi15 hi17) rfl (fun e' w2 hr=>?_);obtain⟨rfl,hs⟩:=hr;exact⟨_,rfl,sB hs,rfl,zX⟩
  | 12,_,hoq=>
   cases sI hoq;refine z4 13 (.int .i64 (uW (wtT rs xs t) (wtT rs xs u))) (hd 6 (zz kR)) nu (z4 18 (.int .i64 (kv (cdT t) (cdT u))) (hd 11 (zz kR)) nu ?_);refine jx (fun ops Q K=>?_);refine qJ (cs:=#[_,_]) [(0,.int _ _),(1,.int _ _)] rfl U69 Y8 jw dE dE kR rfl (fun b19 w4 hb19 hs hr=>?_);exact K _ _ ⟨hs,⟨_,rfl,Jy (xs:=[uW (wtT rs xs t) (wtT rs xs u),kv (cdT t) (cdT u)]) (Yq (base:=0) (m:=2) hb19 (Nat.zero_le _) rfl dE)⟩,fR hr hb19.lt⟩
  | 13,_,hoq=>
   cases sI hoq;obtain⟨b19,e19,hi19⟩:=hd 12 (zz kR);refine z4 19 (.slice (some ⟨b19,0,none⟩) 2 2) e19 nu ?_;refine qx fn53 (or_any (some ⟨b19,0,none⟩) 2 [uW (wtT rs xs t) (wtT rs xs u),kv (cdT t) (cdT u)] wx hi19) rfl (fun e' w2 hr=>?_);obtain⟨rfl,hs⟩:=hr;exact⟨_,rfl,sB hs,(congrArg (Value.int .i64) (ord_or rs xs t u)),zX⟩
  | 14,_,hoq=>
   cases sI hoq;refine z4 20 (.int .i64 (vW rs xs t u)) (hd 13 (zz kR)) nu ?_;exact oV (u7 (v:= .int _ _) rfl) rfl
  | _ + 15,hix,_=>exact absurd hix om
 intro gg w5 hs hR hdis;replace hB:=hB.tr0 hs;refine qK 6 (.int .i64 (vW rs xs t u)) (hR 14 dE) nu (zn4 ?_);exact⟨rfl,hB⟩
end Go.Proofs.YtdkfnakncaggoaaGreatDoor
namespace Go.Proofs.YtdkfnakncaggoaaGreatDoor
open Go.RowKit
theorem fn51:zQ Tryz.prog 51=true:=by kernel_rfl
theorem FZ:zQ Tryz.prog 52=true:=by kernel_rfl
theorem sz35:(Tryz.prog.info? 35).map (·.size)=some 3:=by kernel_rfl
theorem ze35:(Tryz.prog.info? 35).map (·.zero)=some (some (.agg #[.int .i64 0,.int .i64 0,.slice none 0 0])):=by kernel_rfl
theorem u9 (a b:Int) (w:World):Calls Tryz.prog 52 #[.int .i64 a,.int .i64 b] w fun e w'=>e= .returned (flV (a,b))∧Bel w w':=by
 refine enter Tryz.func52 Tryz.ntmps52 rfl (Nat.le_of_ble_eq_true rfl) ?_;have hB:Bel w w:=Below.refl _ _;refine zn2 ?_;refine qZ (cs:=#[.int .i64 0,.int .i64 0]) zY rfl (fun b4 w1 hb4 hs hr=>?_);have lo4:=nLT (Bel.size hB) hr;replace hB:=hB.tr0 hs;refine zn6 ?_;refine wl (yz (v0:= .int _ _) (v1:= .int _ _) (fun v0 v1=>#[v0,v1]) rfl rfl kR) ?_;refine zk hb4 rfl rfl zq rfl zK (fun w2 hq hs=>?_);replace hB:=hB.tr1 hs lo4;replace hb4:=hq;refine zn3 ?_;refine x5 (.inl rfl) rfl (zy U37 rfl rfl hb4.range0 zq) ?_;exact⟨rfl,hB⟩
set_option maxRecDepth 100000 in
set_option maxHeartbeats 8000000 in
theorem tw_step {AT AF AR AX AS:Option Addr} {ct cf cr cx cst:Nat} {l:List Ty} {fs:List Ft} {rs:List Rl} {xs:List Lx} {st:List Nd} {w0:World} {bN bG bL bV:Nat} (hRu:RulesIn w0 AR rs) (l0N:w0.heap.size≤bN) (_l0G:w0.heap.size≤bG) (l0L:w0.heap.size≤bL) (_l0V:w0.heap.size≤bV) (hne:bN≠bL∧bN≠bG∧bN≠bV∧bL≠bG∧bL≠bV) {t:Dt} {A:Option Addr} {c d ch n lf:Nat} {w:World} (hT:TresIn w0 A t.kids) (IH:∀ x ∈ t.kids,∀ (A2:Option Addr) (c2 d2 ch2 n2 l2:Nat) (w2:World),TresIn w0 A2 x.kids→n2≤200→d2≤49→ch2≤3→l2≤n2→Bel w0 w2→Blk w2 bN 3 #[.int .i64 ((n2:Nat):Int)]→Blk w2 bG 32 #[.slice AT l.length ct,.slice AF fs.length cf,.slice AR rs.length cr,.slice AX xs.length cx,.slice AS st.length cst]→Blk w2 bL 3 #[.int .i64 ((l2:Nat):Int)]→Blk w2 bV 109 #[.func (.func 51) #[] #[.pointer (some ⟨bN,0,none⟩),.pointer (some ⟨bG,0,none⟩),.pointer (some ⟨bL,0,none⟩),.pointer (some ⟨bV,0,none⟩)]]→Calls Tryz.prog 51 #[.agg #[.int .i64 (x).rule,.int .i64 (x).lex,.slice A2 (x).kids.length c2],.int .i64 ((d2:Nat):Int),.int .i64 ((ch2:Nat):Int),.pointer (some ⟨bN,0,none⟩),.pointer (some ⟨bG,0,none⟩),.pointer (some ⟨bL,0,none⟩),.pointer (some ⟨bV,0,none⟩)] w2 fun e w'=>e= .returned (flV (tw rs xs.length x d2 ch2 n2 l2).2.2)∧ChG (fun g=>g=bN∨g=bL) w2 w'∧Blk w' bN 3 #[.int .i64 (((tw rs xs.length x d2 ch2 n2 l2).1:Nat):Int)]∧∃ l':Nat,Blk w' bL 3 #[.int .i64 ((l':Nat):Int)]∧((tw rs xs.length x d2 ch2 n2 l2).2.2.1=0→l'=(tw rs xs.length x d2 ch2 n2 l2).2.1)) (hn:n≤200) (hd:d≤49) (hch3:ch≤3) (hlf:lf≤n) (hB:Bel w0 w) (hbN:Blk w bN 3 #[.int .i64 ((n:Nat):Int)]) (hbG:Blk w bG 32 #[.slice AT l.length ct,.slice AF fs.length cf,.slice AR rs.length cr,.slice AX xs.length cx,.slice AS st.length cst]) (hbL:Blk w bL 3 #[.int .i64 ((lf:Nat):Int)]) (hbV:Blk w bV 109 #[.func (.func 51) #[] #[.pointer (some ⟨bN,0,none⟩),.pointer (some ⟨bG,0,none⟩),.pointer (some ⟨bL,0,none⟩),.pointer (some ⟨bV,0,none⟩)]]):Calls Tryz.prog 51 #[.agg #[.int .i64 (t).rule,.int .i64 (t).lex,.slice A (t).kids.length c],.int .i64 ((d:Nat):Int),.int .i64 ((ch:Nat):Int),.pointer (some ⟨bN,0,none⟩),.pointer (some ⟨bG,0,none⟩),.pointer (some ⟨bL,0,none⟩),.pointer (some ⟨bV,0,none⟩)] w fun e w'=>e= .returned (flV (tw rs xs.length t d ch n lf).2.2)∧ChG (fun g=>g=bN∨g=bL) w w'∧Blk w' bN 3 #[.int .i64 (((tw rs xs.length t d ch n lf).1:Nat):Int)]∧∃ l':Nat,Blk w' bL 3 #[.int .i64 ((l':Nat):Int)]∧((tw rs xs.length t d ch n lf).2.2.1=0→l'=(tw rs xs.length t d ch n lf).2.1):=by
 have hmx:=hT.le;unfold yJ at hmx;have hrx:=hRu.1;unfold yJ at hrx;have ltN:=hbN.lt;have ltG:=hbG.lt;have ltL:=hbL.lt;have ltV:=hbV.lt;have hC:ChG (fun g=>g=bN∨g=bL) w w:=ChG.refl _ _;refine enter Tryz.func51 Tryz.ntmps51 rfl (Nat.le_of_ble_eq_true rfl) (zn2 ?_);refine qW (v:= .agg #[_,_,_]) (cs:=#[_,_,_]) rfl rfl (fun b7 w1 hb7 hs hr=>?_);have:=nLL hbN.lt hr;have:=nLL hbG.lt hr;have:=nLL hbL.lt hr;have:=nLL hbV.lt hr;replace hB:=hB.tr0 hs;replace hbN:=hbN.tr0 hs;replace hbG:=hbG.tr0 hs;replace hbL:=hbL.tr0 hs;replace hbV:=hbV.tr0 hs;replace hC:=hC.st hs (by simp);refine qZ (cs:=#[.int .i64 0,.int .i64 0]) zY rfl (fun b10 w2 hb10 hs hr=>?_);have:=nLL hbN.lt hr;have:=nLL hbG.lt hr;have:=nLL hbL.lt hr;have:=nLL hbV.lt hr;have or_hC_b10:=(nLT hC.size hr)
 have:=nLL hb7.lt hr;replace hB:=hB.tr0 hs;replace hbN:=hbN.tr0 hs;replace hbG:=hbG.tr0 hs;replace hbL:=hbL.tr0 hs;replace hbV:=hbV.tr0 hs;replace hC:=hC.st hs (by simp);replace hb7:=hb7.tr0 hs;refine vx ?_;refine wl (kK (c:=((n + 1:Nat):Int)) rfl rfl rfl om) ?_;refine xY (v:= .int _ _) hbN rfl rfl qw (by first | decide | simp) rfl rfl (fun w3 hq hs=>?_);replace hB:=hB.tr1 hs l0N;replace hbG:=hbG.tr1 hs om;replace hbL:=hbL.tr1 hs om;replace hbV:=hbV.tr1 hs om;replace hC:=hC.st hs (fun g hg=>by rw [List.mem_singleton.1 hg];first | exact .inl (.inl rfl) | exact .inl (.inr rfl) | exact .inr or_hC_bN);replace hb7:=hb7.tr1 hs om;replace hb10:=hb10.tr1 hs om;replace hbN:=hq;refine yq ?_;refine x7 [21,22,23,24,25,26,27] 21 (.bool (decide (200 < n + 1∨48 < d))) nu ?_ (fun gq=>?_)
 ·refine zn4 ?_;refine zj 24 rfl (fun g24=>?_) (fun g24=>?_)
  ·refine zn4 ?_;refine zZ (e_R ⟨rfl,agA,?_⟩);exact clA
  refine zn6 ?_;refine zZ (e_R ⟨rfl,agA,?_⟩);exact clA
 refine e_S ?_;refine zw rfl (fun c21=>?_) (fun c21=>?_)
 ·refine zn3 ?_;refine zV FZ (u9 _ _ _) rfl (fun e' w4 hr=>?_);obtain⟨rfl,hs⟩:=hr;replace hs:=sB hs;replace hbN:=hbN.tr0 hs;replace hbL:=hbL.tr0 hs;replace hC:=hC.st hs (by simp);replace hb10:=hb10.tr0 hs;refine⟨_,rfl,?_⟩;refine zk hb10 rfl rfl zq rfl zK (fun w5 hq hs=>?_);replace hbN:=hbN.tr1 hs om;replace hbL:=hbL.tr1 hs om;replace hC:=hC.st hs (fun g hg=>by rw [List.mem_singleton.1 hg];first | exact .inl (.inl rfl) | exact .inl (.inr rfl) | exact .inr or_hC_b10);replace hb10:=hq;refine zn5 ?_;refine x5 (.inl rfl) rfl (zy U37 rfl rfl hb10.range0 zq) ?_;rw [EJ c21];exact⟨rfl,hC,hbN,_,hbL,fun h=>absurd (show (1:Int)=0 from h) dE⟩
 refine xX ?_;refine x7 [30,31,32,33,34,35,36,37,38,39,40,41,42,43,44,45,46,47,48,49,50,51,52,53,54,55,56,57,58,59] 30 (.bool (decide (t.rule < -1∨(rs.length:Int)≤t.rule∨(t.rule= -1∧(t.lex < 0∨(xs.length:Int)≤t.lex))))) nu ?_ (fun gq=>?_)
 ·refine zn5 ?_;refine zj 34 rfl (fun g34=>?_) (fun g34=>?_)
  ·refine zn26 ?_;refine zZ (e_R ⟨rfl,agA,?_⟩);exact clA
  refine oY ?_;refine zj 42 rfl (fun g42=>?_) (fun g42=>?_)
  ·refine zn18 ?_;refine zZ (e_R ⟨rfl,agA,?_⟩);exact clA
  refine zn8 ?_;refine zj 46 rfl (fun g46=>?_) (fun g46=>?_)
  ·refine zn8 ?_;refine zj 50 rfl (fun g50=>?_) (fun g50=>?_)
   ·refine yj ?_;refine zZ (e_R ⟨rfl,agA,?_⟩);exact clA
   refine zn18 ?_;refine zZ (e_R ⟨rfl,agA,?_⟩);exact clA
  refine Zk ?_;refine zZ (e_R ⟨rfl,agA,?_⟩);exact clA
 refine e_S ?_;refine zw rfl (fun c30=>?_) (fun c30=>?_)
 ·refine zn3 ?_;refine zV FZ (u9 _ _ _) rfl (fun e' w6 hr=>?_);obtain⟨rfl,hs⟩:=hr;replace hs:=sB hs;replace hbN:=hbN.tr0 hs;replace hbL:=hbL.tr0 hs;replace hC:=hC.st hs (by simp);replace hb10:=hb10.tr0 hs;refine⟨_,rfl,?_⟩;refine zk hb10 rfl rfl zq rfl zK (fun w7 hq hs=>?_);replace hbN:=hbN.tr1 hs om;replace hbL:=hbL.tr1 hs om;replace hC:=hC.st hs (fun g hg=>by rw [List.mem_singleton.1 hg];first | exact .inl (.inl rfl) | exact .inl (.inr rfl) | exact .inr or_hC_b10);replace hb10:=hq;refine zn5 ?_;refine x5 (.inl rfl) rfl (zy U37 rfl rfl hb10.range0 zq) ?_;rw [X5 c21 (trC_3 c30) dE];exact⟨rfl,hC,hbN,_,hbL,fun h=>absurd (show (3:Int)=0 from h) dE⟩
 refine xX ?_;refine x7 [62,63,64,65,66,67,68,69,70] 62 (.bool (decide (0≤t.rule∧¬t.lex=0))) nu ?_ (fun gq=>?_)
 ·refine zn5 ?_;refine zj 66 rfl (fun g66=>?_) (fun g66=>?_)
  ·refine zn8 ?_;refine zZ (e_R ⟨rfl,agA,?_⟩);exact clA
  refine zn5 ?_;refine zZ (e_R ⟨rfl,agA,?_⟩);exact clA
 refine e_S ?_;refine zw rfl (fun c62=>?_) (fun c62=>?_)
 ·refine zn3 ?_;refine zV FZ (u9 _ _ _) rfl (fun e' w8 hr=>?_);obtain⟨rfl,hs⟩:=hr;replace hs:=sB hs;replace hbN:=hbN.tr0 hs;replace hbL:=hbL.tr0 hs;replace hC:=hC.st hs (by simp);replace hb10:=hb10.tr0 hs;refine⟨_,rfl,?_⟩;refine zk hb10 rfl rfl zq rfl zK (fun w9 hq hs=>?_);replace hbN:=hbN.tr1 hs om;replace hbL:=hbL.tr1 hs om;replace hC:=hC.st hs (fun g hg=>by rw [List.mem_singleton.1 hg];first | exact .inl (.inl rfl) | exact .inl (.inr rfl) | exact .inr or_hC_b10);replace hb10:=hq;refine zn5 ?_;refine x5 (.inl rfl) rfl (zy U37 rfl rfl hb10.range0 zq) ?_;rw [X5 c21 (trC_5 c30 c62) dE];exact⟨rfl,hC,hbN,_,hbL,fun h=>absurd (show (5:Int)=0 from h) dE⟩
 refine zn8 ?_;refine xK [12,19,20,77,78,79,80,81,82,83] (fun g w'=>g 12= .int .i64 (kdN rs t)∧Bel w0 w'∧Blk w' bN 3 #[.int .i64 ((n + 1:Nat):Int)]∧Blk w' bG 32 #[.slice AT l.length ct,.slice AF fs.length cf,.slice AR rs.length cr,.slice AX xs.length cx,.slice AS st.length cst]∧Blk w' bL 3 #[.int .i64 ((lfN t lf:Nat):Int)]∧Blk w' bV 109 #[.func (.func 51) #[] #[.pointer (some ⟨bN,0,none⟩),.pointer (some ⟨bG,0,none⟩),.pointer (some ⟨bL,0,none⟩),.pointer (some ⟨bV,0,none⟩)]]∧Blk w' b7 35 #[.int .i64 t.rule,.int .i64 t.lex,.slice A t.kids.length c]∧Blk w' b10 37 #[.int .i64 0,.int .i64 0]∧ChG (fun g=>g=bN∨g=bL) w w') ?_ (fun gx1 w10 hI=>?_)
 ·refine zw rfl (fun c73=>?_) (fun c73=>?_)
  ·obtain⟨ri,hri⟩:=Int.eq_ofNat_of_zero_le c73;have hril:ri < rs.length:=by omega
   obtain⟨rb,ro,Gk,cgk,Sk,csk,Bk,mk,hAR,hrb,hrr,_,_,_⟩:=hRu.at_ hB hril;have hk12:=Fq hril hri;have hlf2:lfN t lf=lf:=lfN_rl om;subst hAR;refine zn4 ?_;refine wl (qk (v:= .int .i64 ((ri:Nat):Int)) U3 rfl rfl (by rw [← hri];exact hb7.cell rfl)) (zn2 ?_);refine wl (qk (v:= .int _ _) U3 rfl rfl (hrr 2 _ rfl)) (zn2 ?_);refine e_R ⟨agA,?_⟩;exact⟨by rw [hk12];rfl,hB,hbN,hbG,by rw [hlf2];exact hbL,hbV,hb7,hb10,hC⟩
  have hk12:=DX (rs:=rs) (t:=t) om;have hlf2:lfN t lf=lf + 1:=lfN_lf om;refine zn2 ?_;refine wl (kK (c:=((lf + 1:Nat):Int)) rfl rfl rfl om) ?_;refine xY (v:= .int _ _) hbL rfl rfl qw (by first | decide | simp) rfl rfl (fun w11 hq hs=>?_);replace hB:=hB.tr1 hs l0L;replace hbN:=hbN.tr1 hs om;replace hbG:=hbG.tr1 hs om;replace hbV:=hbV.tr1 hs om;replace hC:=hC.st hs (fun g hg=>by rw [List.mem_singleton.1 hg];first | exact .inl (.inl rfl) | exact .inl (.inr rfl) | exact .inr or_hC_bL);replace hb7:=hb7.tr1 hs om;replace hb10:=hb10.tr1 hs om;replace hbL:=hq;refine zZ ?_;refine e_R ⟨agA,?_⟩;exact⟨by rw [hk12];rfl,hB,hbN,hbG,by rw [hlf2];exact hbL,hbV,hb7,hb10,hC⟩
 obtain⟨h12,hB,hbN,hbG,hbL,hbV,hb7,hb10,hC⟩:=hI;refine jJ 12 (.int .i64 (kdN rs t)) h12 nu (yj ?_);refine zw rfl (fun c88=>?_) (fun c88=>?_)
 ·have hcd:=trC_9 c30 c62 c88;refine zn3 ?_;refine zV FZ (u9 _ _ _) rfl (fun e' w12 hr=>?_);obtain⟨rfl,hs⟩:=hr;replace hs:=sB hs;replace hbN:=hbN.tr0 hs;replace hbL:=hbL.tr0 hs;replace hC:=hC.st hs (by simp);replace hb10:=hb10.tr0 hs;refine⟨_,rfl,?_⟩;refine zk hb10 rfl rfl zq rfl zK (fun w13 hq hs=>?_);replace hbN:=hbN.tr1 hs om;replace hbL:=hbL.tr1 hs om;replace hC:=hC.st hs (fun g hg=>by rw [List.mem_singleton.1 hg];first | exact .inl (.inl rfl) | exact .inl (.inr rfl) | exact .inr or_hC_b10);replace hb10:=hq;refine zn4 ?_;refine x5 (.inl rfl) rfl (zy U37 rfl rfl hb10.range0 zq) ?_;rw [X5 c21 hcd dE];exact⟨rfl,hC,hbN,_,hbL,fun h=>absurd (show (9:Int)=0 from h) dE⟩
 have hcd:=trC_0 c30 c62 c88;refine zn6 ?_;refine wl (kK (c:=((ch + 1:Nat):Int)) rfl rfl rfl om) (zn9 ?_);refine zw rfl (fun c94=>?_) (fun c94=>?_)
 ·have hcn:chN rs t ch=0:=by unfold chN;rw [if_neg c94]
  refine zn6 ?_;refine zJ 2 (.int .i64 ((chN rs t ch:Nat):Int)) (by rw [hcn];rfl) nu (zn5 ?_);refine zw rfl (fun c96=>?_) (fun c96=>?_)
  ·have hl3:3 < chN rs t ch:=by omega
   refine zn3 ?_;refine zV FZ (u9 _ _ _) rfl (fun e' w14 hr=>?_);obtain⟨rfl,hs⟩:=hr;replace hs:=sB hs;replace hbN:=hbN.tr0 hs;replace hbL:=hbL.tr0 hs;replace hC:=hC.st hs (by simp);replace hb10:=hb10.tr0 hs;refine⟨_,rfl,?_⟩;refine zk hb10 rfl rfl zq rfl zK (fun w15 hq hs=>?_);replace hbN:=hbN.tr1 hs om;replace hbL:=hbL.tr1 hs om;replace hC:=hC.st hs (fun g hg=>by rw [List.mem_singleton.1 hg];first | exact .inl (.inl rfl) | exact .inl (.inr rfl) | exact .inr or_hC_b10);replace hb10:=hq;refine zn4 ?_;refine x5 (.inl rfl) rfl (zy U37 rfl rfl hb10.range0 zq) ?_;rw [Vy c21 hcd hl3];exact⟨rfl,hC,hbN,_,hbL,fun h=>absurd (show (14:Int)=0 from h) dE⟩
  have hl3:¬3 < chN rs t ch:=by omega
  have hgo:=CK (l:=lf) c21 hcd hl3;refine yj ?_;refine q8 [14,15,102,103,104,105,106,107,108,109,110,111,112,113,114,115,116] (fun m g w'=>∃ j nj lj:Nat,j≤t.kids.length∧m=t.kids.length - j∧g 102= .int .i64 j∧nj≤200∧lj≤nj∧tws rs xs.length t.kids (d + 1) (chN rs t ch) (n + 1) (lfN t lf)=tws rs xs.length (t.kids.drop j) (d + 1) (chN rs t ch) nj lj∧Bel w0 w'∧Blk w' bN 3 #[.int .i64 ((nj:Nat):Int)]∧Blk w' bG 32 #[.slice AT l.length ct,.slice AF fs.length cf,.slice AR rs.length cr,.slice AX xs.length cx,.slice AS st.length cst]∧Blk w' bL 3 #[.int .i64 ((lj:Nat):Int)]∧Blk w' bV 109 #[.func (.func 51) #[] #[.pointer (some ⟨bN,0,none⟩),.pointer (some ⟨bG,0,none⟩),.pointer (some ⟨bL,0,none⟩),.pointer (some ⟨bV,0,none⟩)]]∧Blk w' b7 35 #[.int .i64 t.rule,.int .i64 t.lex,.slice A t.kids.length c]∧Blk w' b10 37 #[.int .i64 0,.int .i64 0]∧ChG (fun g=>g=bN∨g=bL) w w') (t.kids.length) ?_ (fun m g21 w16 hI=>?_)
  ·exact⟨0,n + 1,lfN t lf,Nat.zero_le _,rfl,rfl,by omega,by unfold lfN;split <;> omega,rfl,hB,hbN,hbG,hbL,hbV,hb7,hb10,hC⟩
  obtain⟨j,nj,lj,hj,hmj,h102,hnj,hlj,hR,hB,hbN,hbG,hbL,hbV,hb7,hb10,hC⟩:=hI;refine zJ 102 (.int .i64 j) h102 nu (zn6 ?_);refine zw rfl (fun c103=>?_) (fun c103=>?_)
  ·have hjl:j < t.kids.length:=by omega
   obtain⟨sb,so,A',c',rfl,hsb,hsr,hs2⟩:=hT.at_ hjl;have hdr:t.kids.drop j=t.kids[j] :: t.kids.drop (j + 1):=List.drop_eq_getElem_cons hjl;rw [hdr,tws] at hR;refine zn8 ?_;refine qZ (cs:=#[.int .i64 0,.int .i64 0,.slice none 0 0]) ze35 rfl (fun b14 w17 hb14 hs hr=>?_);have:=nLL hbN.lt hr;have:=nLL hbG.lt hr;have:=nLL hbL.lt hr;have:=nLL hbV.lt hr;have or_hC_b14:=(nLT hC.size hr)
   have:=nLL hb7.lt hr;have:=nLL hb10.lt hr;have lo14:=nLT (Bel.size hB) hr;replace hB:=hB.tr0 hs;replace hbN:=hbN.tr0 hs;replace hbG:=hbG.tr0 hs;replace hbL:=hbL.tr0 hs;replace hbV:=hbV.tr0 hs;replace hC:=hC.st hs (by simp);replace hb7:=hb7.tr0 hs;replace hb10:=hb10.tr0 hs;refine zk hb14 rfl rfl sz35 rfl zK (fun w18 hq hs=>?_);replace hB:=hB.tr1 hs lo14;replace hbN:=hbN.tr1 hs om;replace hbG:=hbG.tr1 hs om;replace hbL:=hbL.tr1 hs om;replace hbV:=hbV.tr1 hs om;replace hC:=hC.st hs (fun g hg=>by rw [List.mem_singleton.1 hg];first | exact .inl (.inl rfl) | exact .inl (.inr rfl) | exact .inr or_hC_b14);replace hb7:=hb7.tr1 hs om;replace hb10:=hb10.tr1 hs om;replace hb14:=hq;refine zn7 ?_;refine wl (kK (c:=((d + 1:Nat):Int)) rfl rfl rfl om) (wmI rfl ?_);refine xJ rfl fn51 (IH _ (List.getElem_mem hjl) A' c' (d + 1) (chN rs t ch) nj lj _ hs2 hnj om om hlj hB hbN hbG hbL hbV) rfl rfl (fun e' w19 hr=>?_);obtain⟨rfl,hC2,hbN2,l',hbL2,hl2⟩:=hr;replace hB:=hB.chG hC2 (fun g hg=>by rcases(show g=bN∨g=bL from hg) with e | e <;> rw [e] <;> assumption);replace hbG:=hbG.chG hC2 (fun hx=>by have hx:bG=bN∨bG=bL:=hx;omega);replace hbV:=hbV.chG hC2 (fun hx=>by have hx:bV=bN∨bV=bL:=hx;omega);replace hb7:=hb7.chG hC2 (fun hx=>by have hx:b7=bN∨b7=bL:=hx;omega);replace hb10:=hb10.chG hC2 (fun hx=>by have hx:b10=bN∨b10=bL:=hx;omega);replace hC:=hC.trans hC2 (fun g hg=> .inl hg);replace hbN:=hbN2;replace hbL:=hbL2;replace hb14:=hb14.chG hC2 (fun hx=>by have hx:b14=bN∨b14=bL:=hx;omega);refine⟨_,rfl,?_⟩;refine qZ (cs:=#[.int .i64 0,.int .i64 0]) zY rfl (fun b15 w20 hb15 hs hr=>?_);have:=nLL hbN.lt hr;have:=nLL hbG.lt hr;have:=nLL hbL.lt hr;have:=nLL hbV.lt hr;have or_hC_b15:=(nLT hC.size hr)
   have:=nLL hb7.lt hr;have:=nLL hb10.lt hr;have lo15:=nLT (Bel.size hB) hr;replace hB:=hB.tr0 hs;replace hbN:=hbN.tr0 hs;replace hbG:=hbG.tr0 hs;replace hbL:=hbL.tr0 hs;replace hbV:=hbV.tr0 hs;replace hC:=hC.st hs (by simp);replace hb7:=hb7.tr0 hs;replace hb10:=hb10.tr0 hs;refine zk hb15 rfl rfl zq rfl zK (fun w21 hq hs=>?_);replace hB:=hB.tr1 hs lo15;replace hbN:=hbN.tr1 hs om;replace hbG:=hbG.tr1 hs om;replace hbL:=hbL.tr1 hs om;replace hbV:=hbV.tr1 hs om;replace hC:=hC.st hs (fun g hg=>by rw [List.mem_singleton.1 hg];first | exact .inl (.inl rfl) | exact .inl (.inr rfl) | exact .inr or_hC_b15);replace hb7:=hb7.tr1 hs om;replace hb10:=hb10.tr1 hs om;replace hb15:=hq;refine zn9 ?_;refine zw rfl (fun c114=>?_) (fun c114=>?_)
   ·rw [if_neg c114] at hR;refine zn3 ?_;refine zk hb10 rfl rfl zq rfl zK (fun w22 hq hs=>?_);replace hbN:=hbN.tr1 hs om;replace hbL:=hbL.tr1 hs om;replace hC:=hC.st hs (fun g hg=>by rw [List.mem_singleton.1 hg];first | exact .inl (.inl rfl) | exact .inl (.inr rfl) | exact .inr or_hC_b10);replace hb10:=hq;refine zn8 ?_;refine x5 (.inl rfl) rfl (zy U37 rfl rfl hb10.range0 zq) ?_;rw [hgo,hR];exact⟨rfl,hC,hbN,_,hbL,hl2⟩
   have c114:(tw rs xs.length (t.kids[j]'hjl) (d + 1) (chN rs t ch) nj lj).2.2.1=0:=Classical.not_not.1 c114;rw [if_pos c114,← hl2 c114] at hR;obtain⟨_,hn3,hl4⟩:=tw_z hlj c114;rw [← hl2 c114] at hl4;refine zn7 ?_;refine xv (t.kids.length - (j + 1)) om agA ?_;exact⟨j + 1,_,_,by omega,rfl,rfl,hn3,hl4,hR,hB,hbN,hbG,hbL,hbV,hb7,hb10,hC⟩
  have hje:j=t.kids.length:=by omega
  rw [hje,List.drop_length,tws] at hR;refine zn7 ?_;refine wl (uw (vs:=#[]) (cs:=#[.int .i64 0,.int .i64 0]) (by simp) kR) ?_;refine zk hb10 rfl rfl zq rfl zK (fun w23 hq hs=>?_);replace hbN:=hbN.tr1 hs om;replace hbL:=hbL.tr1 hs om;replace hC:=hC.st hs (fun g hg=>by rw [List.mem_singleton.1 hg];first | exact .inl (.inl rfl) | exact .inl (.inr rfl) | exact .inr or_hC_b10);replace hb10:=hq;refine zn3 ?_;refine x5 (.inl rfl) rfl (zy U37 rfl rfl hb10.range0 zq) ?_;rw [hgo,hR];exact⟨rfl,hC,hbN,_,hbL,fun _=>rfl⟩
 have hcn:chN rs t ch=ch + 1:=by unfold chN;rw [if_pos (Classical.not_not.1 c94)]
 refine zn4 ?_;refine zJ 2 (.int .i64 ((chN rs t ch:Nat):Int)) (by rw [hcn];rfl) nu (zn5 ?_);refine zw rfl (fun c96=>?_) (fun c96=>?_)
 ·have hl3:3 < chN rs t ch:=by omega
  refine zn3 ?_;refine zV FZ (u9 _ _ _) rfl (fun e' w24 hr=>?_);obtain⟨rfl,hs⟩:=hr;replace hs:=sB hs;replace hbN:=hbN.tr0 hs;replace hbL:=hbL.tr0 hs;replace hC:=hC.st hs (by simp);replace hb10:=hb10.tr0 hs;refine⟨_,rfl,?_⟩;refine zk hb10 rfl rfl zq rfl zK (fun w25 hq hs=>?_);replace hbN:=hbN.tr1 hs om;replace hbL:=hbL.tr1 hs om;replace hC:=hC.st hs (fun g hg=>by rw [List.mem_singleton.1 hg];first | exact .inl (.inl rfl) | exact .inl (.inr rfl) | exact .inr or_hC_b10);replace hb10:=hq;refine zn4 ?_;refine x5 (.inl rfl) rfl (zy U37 rfl rfl hb10.range0 zq) ?_;rw [Vy c21 hcd hl3];exact⟨rfl,hC,hbN,_,hbL,fun h=>absurd (show (14:Int)=0 from h) dE⟩
 have hl3:¬3 < chN rs t ch:=by omega
 have hgo:=CK (l:=lf) c21 hcd hl3;refine yj ?_;refine q8 [14,15,102,103,104,105,106,107,108,109,110,111,112,113,114,115,116] (fun m g w'=>∃ j nj lj:Nat,j≤t.kids.length∧m=t.kids.length - j∧g 102= .int .i64 j∧nj≤200∧lj≤nj∧tws rs xs.length t.kids (d + 1) (chN rs t ch) (n + 1) (lfN t lf)=tws rs xs.length (t.kids.drop j) (d + 1) (chN rs t ch) nj lj∧Bel w0 w'∧Blk w' bN 3 #[.int .i64 ((nj:Nat):Int)]∧Blk w' bG 32 #[.slice AT l.length ct,.slice AF fs.length cf,.slice AR rs.length cr,.slice AX xs.length cx,.slice AS st.length cst]∧Blk w' bL 3 #[.int .i64 ((lj:Nat):Int)]∧Blk w' bV 109 #[.func (.func 51) #[] #[.pointer (some ⟨bN,0,none⟩),.pointer (some ⟨bG,0,none⟩),.pointer (some ⟨bL,0,none⟩),.pointer (some ⟨bV,0,none⟩)]]∧Blk w' b7 35 #[.int .i64 t.rule,.int .i64 t.lex,.slice A t.kids.length c]∧Blk w' b10 37 #[.int .i64 0,.int .i64 0]∧ChG (fun g=>g=bN∨g=bL) w w') (t.kids.length) ?_ (fun m g21 w26 hI=>?_)
 ·exact⟨0,n + 1,lfN t lf,Nat.zero_le _,rfl,rfl,by omega,by unfold lfN;split <;> omega,rfl,hB,hbN,hbG,hbL,hbV,hb7,hb10,hC⟩
 obtain⟨j,nj,lj,hj,hmj,h102,hnj,hlj,hR,hB,hbN,hbG,hbL,hbV,hb7,hb10,hC⟩:=hI;refine zJ 102 (.int .i64 j) h102 nu (zn6 ?_);refine zw rfl (fun c103=>?_) (fun c103=>?_)
 ·have hjl:j < t.kids.length:=by omega
  obtain⟨sb,so,A',c',rfl,hsb,hsr,hs2⟩:=hT.at_ hjl;have hdr:t.kids.drop j=t.kids[j] :: t.kids.drop (j + 1):=List.drop_eq_getElem_cons hjl;rw [hdr,tws] at hR;refine zn8 ?_;refine qZ (cs:=#[.int .i64 0,.int .i64 0,.slice none 0 0]) ze35 rfl (fun b14 w27 hb14 hs hr=>?_);have:=nLL hbN.lt hr;have:=nLL hbG.lt hr;have:=nLL hbL.lt hr;have:=nLL hbV.lt hr;have or_hC_b14:=(nLT hC.size hr)
  have:=nLL hb7.lt hr;have:=nLL hb10.lt hr;have lo14:=nLT (Bel.size hB) hr;replace hB:=hB.tr0 hs;replace hbN:=hbN.tr0 hs;replace hbG:=hbG.tr0 hs;replace hbL:=hbL.tr0 hs;replace hbV:=hbV.tr0 hs;replace hC:=hC.st hs (by simp);replace hb7:=hb7.tr0 hs;replace hb10:=hb10.tr0 hs;refine zk hb14 rfl rfl sz35 rfl zK (fun w28 hq hs=>?_);replace hB:=hB.tr1 hs lo14;replace hbN:=hbN.tr1 hs om;replace hbG:=hbG.tr1 hs om;replace hbL:=hbL.tr1 hs om;replace hbV:=hbV.tr1 hs om;replace hC:=hC.st hs (fun g hg=>by rw [List.mem_singleton.1 hg];first | exact .inl (.inl rfl) | exact .inl (.inr rfl) | exact .inr or_hC_b14);replace hb7:=hb7.tr1 hs om;replace hb10:=hb10.tr1 hs om;replace hb14:=hq;refine zn7 ?_;refine wl (kK (c:=((d + 1:Nat):Int)) rfl rfl rfl om) (wmI rfl ?_);refine xJ rfl fn51 (IH _ (List.getElem_mem hjl) A' c' (d + 1) (chN rs t ch) nj lj _ hs2 hnj om om hlj hB hbN hbG hbL hbV) rfl rfl (fun e' w29 hr=>?_);obtain⟨rfl,hC2,hbN2,l',hbL2,hl2⟩:=hr;replace hB:=hB.chG hC2 (fun g hg=>by rcases(show g=bN∨g=bL from hg) with e | e <;> rw [e] <;> assumption);replace hbG:=hbG.chG hC2 (fun hx=>by have hx:bG=bN∨bG=bL:=hx;omega);replace hbV:=hbV.chG hC2 (fun hx=>by have hx:bV=bN∨bV=bL:=hx;omega);replace hb7:=hb7.chG hC2 (fun hx=>by have hx:b7=bN∨b7=bL:=hx;omega);replace hb10:=hb10.chG hC2 (fun hx=>by have hx:b10=bN∨b10=bL:=hx;omega);replace hC:=hC.trans hC2 (fun g hg=> .inl hg);replace hbN:=hbN2;replace hbL:=hbL2;replace hb14:=hb14.chG hC2 (fun hx=>by have hx:b14=bN∨b14=bL:=hx;omega);refine⟨_,rfl,?_⟩;refine qZ (cs:=#[.int .i64 0,.int .i64 0]) zY rfl (fun b15 w30 hb15 hs hr=>?_);have:=nLL hbN.lt hr;have:=nLL hbG.lt hr;have:=nLL hbL.lt hr;have:=nLL hbV.lt hr;have or_hC_b15:=(nLT hC.size hr)
  have:=nLL hb7.lt hr;have:=nLL hb10.lt hr;have lo15:=nLT (Bel.size hB) hr;replace hB:=hB.tr0 hs;replace hbN:=hbN.tr0 hs;replace hbG:=hbG.tr0 hs;replace hbL:=hbL.tr0 hs;replace hbV:=hbV.tr0 hs;replace hC:=hC.st hs (by simp);replace hb7:=hb7.tr0 hs;replace hb10:=hb10.tr0 hs;refine zk hb15 rfl rfl zq rfl zK (fun w31 hq hs=>?_);replace hB:=hB.tr1 hs lo15;replace hbN:=hbN.tr1 hs om;replace hbG:=hbG.tr1 hs om;replace hbL:=hbL.tr1 hs om;replace hbV:=hbV.tr1 hs om;replace hC:=hC.st hs (fun g hg=>by rw [List.mem_singleton.1 hg];first | exact .inl (.inl rfl) | exact .inl (.inr rfl) | exact .inr or_hC_b15);replace hb7:=hb7.tr1 hs om;replace hb10:=hb10.tr1 hs om;replace hb15:=hq;refine zn9 ?_;refine zw rfl (fun c114=>?_) (fun c114=>?_)
  ·rw [if_neg c114] at hR;refine zn3 ?_;refine zk hb10 rfl rfl zq rfl zK (fun w32 hq hs=>?_);replace hbN:=hbN.tr1 hs om;replace hbL:=hbL.tr1 hs om;replace hC:=hC.st hs (fun g hg=>by rw [List.mem_singleton.1 hg];first | exact .inl (.inl rfl) | exact .inl (.inr rfl) | exact .inr or_hC_b10);replace hb10:=hq;refine zn8 ?_;refine x5 (.inl rfl) rfl (zy U37 rfl rfl hb10.range0 zq) ?_;rw [hgo,hR];exact⟨rfl,hC,hbN,_,hbL,hl2⟩
  have c114:(tw rs xs.length (t.kids[j]'hjl) (d + 1) (chN rs t ch) nj lj).2.2.1=0:=Classical.not_not.1 c114;rw [if_pos c114,← hl2 c114] at hR;obtain⟨_,hn3,hl4⟩:=tw_z hlj c114;rw [← hl2 c114] at hl4;refine zn7 ?_;refine xv (t.kids.length - (j + 1)) om agA ?_;exact⟨j + 1,_,_,by omega,rfl,rfl,hn3,hl4,hR,hB,hbN,hbG,hbL,hbV,hb7,hb10,hC⟩
 have hje:j=t.kids.length:=by omega
 rw [hje,List.drop_length,tws] at hR;refine zn7 ?_;refine wl (uw (vs:=#[]) (cs:=#[.int .i64 0,.int .i64 0]) (by simp) kR) ?_;refine zk hb10 rfl rfl zq rfl zK (fun w33 hq hs=>?_);replace hbN:=hbN.tr1 hs om;replace hbL:=hbL.tr1 hs om;replace hC:=hC.st hs (fun g hg=>by rw [List.mem_singleton.1 hg];first | exact .inl (.inl rfl) | exact .inl (.inr rfl) | exact .inr or_hC_b10);replace hb10:=hq;refine zn3 ?_;refine x5 (.inl rfl) rfl (zy U37 rfl rfl hb10.range0 zq) ?_;rw [hgo,hR];exact⟨rfl,hC,hbN,_,hbL,fun _=>rfl⟩
theorem tw_anyK {AT AF AR AX AS:Option Addr} {ct cf cr cx cst:Nat} {l:List Ty} {fs:List Ft} {rs:List Rl} {xs:List Lx} {st:List Nd} {w0:World} {bN bG bL bV:Nat} (hRu:RulesIn w0 AR rs) (l0N:w0.heap.size≤bN) (_l0G:w0.heap.size≤bG) (l0L:w0.heap.size≤bL) (_l0V:w0.heap.size≤bV) (hne:bN≠bL∧bN≠bG∧bN≠bV∧bL≠bG∧bL≠bV):∀ (k:Nat) (t:Dt),SizeOf.sizeOf t < k→∀ (A:Option Addr) (c d ch n lf:Nat) (w:World),TresIn w0 A t.kids→n≤200→d≤49→ch≤3→lf≤n→Bel w0 w→Blk w bN 3 #[.int .i64 ((n:Nat):Int)]→Blk w bG 32 #[.slice AT l.length ct,.slice AF fs.length cf,.slice AR rs.length cr,.slice AX xs.length cx,.slice AS st.length cst]→Blk w bL 3 #[.int .i64 ((lf:Nat):Int)]→Blk w bV 109 #[.func (.func 51) #[] #[.pointer (some ⟨bN,0,none⟩),.pointer (some ⟨bG,0,none⟩),.pointer (some ⟨bL,0,none⟩),.pointer (some ⟨bV,0,none⟩)]]→Calls Tryz.prog 51 #[.agg #[.int .i64 (t).rule,.int .i64 (t).lex,.slice A (t).kids.length c],.int .i64 ((d:Nat):Int),.int .i64 ((ch:Nat):Int),.pointer (some ⟨bN,0,none⟩),.pointer (some ⟨bG,0,none⟩),.pointer (some ⟨bL,0,none⟩),.pointer (some ⟨bV,0,none⟩)] w fun e w'=>e= .returned (flV (tw rs xs.length t d ch n lf).2.2)∧ChG (fun g=>g=bN∨g=bL) w w'∧Blk w' bN 3 #[.int .i64 (((tw rs xs.length t d ch n lf).1:Nat):Int)]∧∃ l':Nat,Blk w' bL 3 #[.int .i64 ((l':Nat):Int)]∧((tw rs xs.length t d ch n lf).2.2.1=0→l'=(tw rs xs.length t d ch n lf).2.1):=by
  intro k
  induction k with
  | zero=>intro t h;omega
  | succ k ih=>
    intro t h A c d ch n lf w hT hn hd hc hlf hB hbN hbG hbL hbV;refine tw_step hRu l0N _l0G l0L _l0V hne hT (fun x hx A2 c2 d2 ch2 n2 l2 w2 h1 h2 h3 h4 h5 h6 h7 h8 h9 h10=>ih x ?_ A2 c2 d2 ch2 n2 l2 w2 h1 h2 h3 h4 h5 h6 h7 h8 h9 h10) hn hd hc hlf hB hbN hbG hbL hbV;have:=List.sizeOf_lt_of_mem hx;cases t with
    | mk r x ks=>simp only [Dt.mk.sizeOf_spec,Dt.kids] at h this;omega
theorem tw_any {AT AF AR AX AS:Option Addr} {ct cf cr cx cst:Nat} {l:List Ty} {fs:List Ft} {rs:List Rl} {xs:List Lx} {st:List Nd} {w0:World} {bN bG bL bV:Nat} (hRu:RulesIn w0 AR rs) (l0N:w0.heap.size≤bN) (_l0G:w0.heap.size≤bG) (l0L:w0.heap.size≤bL) (_l0V:w0.heap.size≤bV) (hne:bN≠bL∧bN≠bG∧bN≠bV∧bL≠bG∧bL≠bV)  (t:Dt) (A:Option Addr) (c d ch n lf:Nat) (w:World):TresIn w0 A t.kids→n≤200→d≤49→ch≤3→lf≤n→Bel w0 w→Blk w bN 3 #[.int .i64 ((n:Nat):Int)]→Blk w bG 32 #[.slice AT l.length ct,.slice AF fs.length cf,.slice AR rs.length cr,.slice AX xs.length cx,.slice AS st.length cst]→Blk w bL 3 #[.int .i64 ((lf:Nat):Int)]→Blk w bV 109 #[.func (.func 51) #[] #[.pointer (some ⟨bN,0,none⟩),.pointer (some ⟨bG,0,none⟩),.pointer (some ⟨bL,0,none⟩),.pointer (some ⟨bV,0,none⟩)]]→Calls Tryz.prog 51 #[.agg #[.int .i64 (t).rule,.int .i64 (t).lex,.slice A (t).kids.length c],.int .i64 ((d:Nat):Int),.int .i64 ((ch:Nat):Int),.pointer (some ⟨bN,0,none⟩),.pointer (some ⟨bG,0,none⟩),.pointer (some ⟨bL,0,none⟩),.pointer (some ⟨bV,0,none⟩)] w fun e w'=>e= .returned (flV (tw rs xs.length t d ch n lf).2.2)∧ChG (fun g=>g=bN∨g=bL) w w'∧Blk w' bN 3 #[.int .i64 (((tw rs xs.length t d ch n lf).1:Nat):Int)]∧∃ l':Nat,Blk w' bL 3 #[.int .i64 ((l':Nat):Int)]∧((tw rs xs.length t d ch n lf).2.2.1=0→l'=(tw rs xs.length t d ch n lf).2.1):=tw_anyK hRu l0N _l0G l0L _l0V hne (SizeOf.sizeOf t + 1) t (Nat.lt_succ_self _) A c d ch n lf w
end Go.Proofs.YtdkfnakncaggoaaGreatDoor
