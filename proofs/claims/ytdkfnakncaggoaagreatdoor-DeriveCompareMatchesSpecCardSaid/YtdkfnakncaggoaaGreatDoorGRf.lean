/- What these functions of the program compute, at every world: glosswright/glosswrightref1.TermFault. What these functions of the program compute, at every world: glosswright/glosswrightref3.MeaningFault, glosswright/glosswrightref3.LexFault, glosswright/glosswrightref3.RuleFault. -/
import Derived.Test.YtdkfnakncaggoaaGreatDoorU
import Derived.Test.YtdkfnakncaggoaaGreatDoorName
import Derived.Test.YtdkfnakncaggoaaGreatDoorNN1
import Derived.Test.YtdkfnakncaggoaaGreatDoorDSh
import Derived.Test.YtdkfnakncaggoaaGreatDoorGEn
namespace Go.Proofs.YtdkfnakncaggoaaGreatDoor
open Go.RowKit
theorem fn92:zQ Tryz.prog 92=true:=by kernel_rfl
theorem fn93:zQ Tryz.prog 93=true:=by kernel_rfl
theorem fn94:zQ Tryz.prog 94=true:=by kernel_rfl
theorem fn95:zQ Tryz.prog 95=true:=by kernel_rfl
theorem in143:(Tryz.prog.info? 143).map (fun i=>(i.zero,i.size,i.bytes))=some (some (.agg #[.int .i64 0,.string ⟨#[]⟩,.int .i64 0,.string ⟨#[]⟩,.slice none 0 0,.slice none 0 0,.int .i64 0,.int .i64 0]),8,112):=by kernel_rfl
theorem NV:(Tryz.prog.info? 143).map (·.size)=some 8:=by kernel_rfl
theorem ze143:(Tryz.prog.info? 143).map (·.zero)=some (some (.agg #[.int .i64 0,.string ⟨#[]⟩,.int .i64 0,.string ⟨#[]⟩,.slice none 0 0,.slice none 0 0,.int .i64 0,.int .i64 0])):=by kernel_rfl
theorem ze55:(Tryz.prog.info? 55).map (·.zero)=some (some (.agg #[.int .i64 0,.string ⟨#[]⟩,.int .i64 0,.string ⟨#[]⟩,.slice none 0 0,.slice none 0 0])):=by kernel_rfl
set_option maxRecDepth 100000 in
set_option maxHeartbeats 8000000 in
theorem R7 (A B:Option Addr) (c mB:Nat) (t:Tm) (w:World) (hS:SimsIn w A t.type.args) (hT:TmsIn w B t.args):Calls Tryz.prog 76 #[.agg #[.int .i64 (t).kind,.string (t).name,.int .i64 (t).index,.string (t).type.base,.slice A (t).type.args.length c,.slice B (t).args.length mB]] w fun e w'=>e= .returned (flV (tmF t))∧Bel w w':=by
 have hR0:twk t 1 0 0=tst [(t,1,0)] 0:=(tst_one t 1 0 0).symm;refine enter Tryz.func76 Tryz.ntmps76 rfl (Nat.le_of_ble_eq_true rfl) ?_;have hB:Bel w w:=Below.refl _ _;refine zn2 ?_;refine qW (v:= .agg #[_,_,_,_,_,_]) (cs:=#[_,_,_,_,_,_]) rfl rfl (fun b1 w1 hb1 hs hr=>?_);replace hB:=hB.tr0 hs;refine qZ (cs:=#[.int .i64 0,.int .i64 0]) zY rfl (fun b2 w2 hb2 hs hr=>?_);have lo2:=nLT (Bel.size hB) hr;replace hB:=hB.tr0 hs;replace hb1:=hb1.tr0 hs;refine zn5 ?_;refine wl (Jw (v0:= .agg _) (v1:= .int _ _) (v2:= .int _ _) (fun v0 v1 v2=>#[(qX v0 0),(qX v0 1),(qX v0 2),(qX v0 3),(qX v0 4),(qX v0 5),v1,v2]) rfl rfl rfl kR) ?_;refine qJ (cs:=#[_,_,_,_,_,_,_,_]) [(0,.agg _)] rfl W1 NV ze143 dE dE kR rfl (fun b16 w3 hb16 hs hr=>?_);have lo16:=nLT (Bel.size hB) hr;replace hB:=hB.tr0 hs;replace hb1:=hb1.tr0 hs;replace hb2:=hb2.tr0 hs;refine yq ?_;refine q8 [3,4,5,6,7,8,9,10,11,17,18,19,20,21,22,23,24,25,26,27,28,29,30,31,32,33,34,35,36,37,38,39,40,41,42,43,44,45,46,47,48,49,50,51,52,53,54,55,56,57,58,59,60,61,62,63,64,65,66,67,68,69,70,71,72,73,74,75,76,77,78,79,80,81,82,83,84,85,86,87,88,89,90,91,92,93,94,95,96,97,98,99,100,101,102,103,104,105,106,107,108,109,110,111,112,113,114,115,116,117,118,119,120,121,122,123,124,125,126,127,128,129,130,131,132,133,134,135,136,137,138,139,140,141,142,143,144,145,146,147,148,149,150,151,152,153,154,155,156,157,158,159,160,161,162,163,164,165,166,167] (fun mm g w'=>∃ (st:List (Tm×Nat×Nat)) (vs:List Value) (q cap3 n:Nat),mm=201 - n∧n≤200∧st.length≤2 * n + 1∧g 3= .slice (some ⟨q,0,none⟩) st.length cap3∧g 4= .int .i64 n∧Bel w w'∧Blk w' b1 55 #[.int .i64 (t).kind,.string (t).name,.int .i64 (t).index,.string (t).type.base,.slice A (t).type.args.length c,.slice B (t).args.length mB]∧Blk w' b2 37 #[.int .i64 0,.int .i64 0]∧Own w' w.heap.size 143 8 (some ⟨q,0,none⟩) st.length cap3 vs∧StkT w st vs∧twk t 1 0 0=tst st.reverse n∧∀ x ∈ st,x.2.2 < x.2.1) (201) ?_ (fun m g3 w4 hI=>?_)
 ·exact⟨[(t,1,0)],_,_,_,0,rfl,by omega,by simp,rfl,rfl,hB,hb1,hb2,Yq (m:=1) hb16 lo16 rfl dE,.snoc .nil hS hT,hR0,fun x hx=>by rw [List.mem_singleton.1 hx];exact Nat.zero_lt_one⟩
 obtain⟨st,vs,q,cap3,n,hm,hn,hsl,h3,h4,hB,hb1,hb2,ho,hstk,hR,hbd⟩:=hI;have or_ho_b1:=gk ho hb1 dE;have or_ho_b2:=gk ho hb2 dE;refine zJ 3 (.slice (some ⟨q,0,none⟩) st.length cap3) h3 nu (zJ 4 (.int .i64 n) h4 nu (zn8 ?_));refine zw rfl (fun c19=>?_) (fun c19=>?_)
 ·obtain⟨st1,vs1,t1,d1,e1,A1,B1,c1,m1,rfl,rfl,hst1,hs1,ht1⟩:=hstk.pop om;have hlen:(st1 ++ [(t1,d1,e1)]).length=st1.length + 1:=by simp
  rw [XK] at hR;have hbd1:e1 < d1:=hbd (t1,d1,e1) (List.mem_append_right _ (List.mem_singleton.2 rfl));replace hbd:∀ x ∈ st1,x.2.2 < x.2.1:=fun x hx=>hbd x (List.mem_append_left _ hx)
  refine zn9 ?_;refine wl (jV (c:=(st1.length:Int)) rfl rfl (by rw [hlen];omega) om) (wl (yQ (i:=st1.length) W1 NV rfl rfl (by rw [hlen];omega) rfl) (wl (zW W2 rfl rfl (H6 ho hst1.len) NV) ?_));refine xV (cs:=#[.int .i64 0,.string ⟨#[]⟩,.int .i64 0,.string ⟨#[]⟩,.slice none 0 0,.slice none 0 0,.int .i64 0,.int .i64 0]) ze143 rfl (fun _=>rfl) (fun _=>rfl) NV rfl zK (fun b5 w6 hb5 hs hr=>?_);have:=nLL hb2.lt hr;have or_ho_b5:=(fun g hg=>nLL (ho.lt g hg).2 hr)
  replace hB:=hB.tr0 hs;replace hb1:=hb1.tr0 hs;replace hb2:=hb2.tr0 hs;replace ho:=ho.tr0 hs;refine zn7 ?_;refine wl (jV (c:=(st1.length:Int)) rfl rfl (by rw [hlen];omega) om) (wl (E2 (h:=st1.length) W1 NV rfl rfl (by have:=ho.cap_le;omega)) (zn4 ?_));replace ho:Own w6 w.heap.size 143 8 (some ⟨q,0,none⟩) st1.length cap3 vs1:=by
    have h:=ho.take (k':=st1.length) om om
    rwa [List.take_append_of_le_length (by rw [hst1.len];exact Nat.le_refl _),List.take_of_length_le (by rw [hst1.len];exact Nat.le_refl _)] at h
  refine zn2 ?_;refine wl (zW U55 rfl rfl (hb5.sub (n:=6) (xs:=[_,_,_,_,_,_]) rfl) QK) ?_;refine xV (cs:=#[.int .i64 0,.string ⟨#[]⟩,.int .i64 0,.string ⟨#[]⟩,.slice none 0 0,.slice none 0 0]) ze55 rfl (fun _=>rfl) (fun _=>rfl) QK rfl zK (fun b6 w8 hb6 hs hr=>?_);have:=nLL hb2.lt hr;have or_ho_b6:=(fun g hg=>nLL (ho.lt g hg).2 hr)
  replace hB:=hB.tr0 hs;replace hb1:=hb1.tr0 hs;replace hb2:=hb2.tr0 hs;replace ho:=ho.tr0 hs;replace hb5:=hb5.tr0 hs;refine zn9 ?_;refine x7 [35,36,37,38,39,40,41] 41 (.bool (decide (200 < n + 1∨40 < d1))) nu ?_ (fun gq=>?_)
  ·refine zn4 ?_;refine zj 37 rfl (fun g37=>?_) (fun g37=>?_)
   ·refine zn4 ?_;refine zZ (e_R ⟨rfl,agA,?_⟩);exact clA
   refine zn7 ?_;refine zZ (e_R ⟨rfl,agA,?_⟩);exact clA
  refine e_S ?_;refine xK [7,8,9,42,43,44,45,46,47,48,49,50,51,52,53,54,55,56,57,58,59,60,61,62,63,64,65,66,67,68,69,70,71,72,73,74,75,76,77,78,79,80,81,82,83,84,85,86,87,88,89,90,91,92,93,94,95,96,97,98,99,100,101,102,103,104,105,106,107,108,109,110,111,112,113,114,115,116,117,118,119,120,121,122,123,124,125,126,127,128,129,130,131,132,133,134] (fun g w'=>g 7= .int .i64 (ndX n d1 e1 t1)∧Bel w w'∧Blk w' b1 55 #[.int .i64 (t).kind,.string (t).name,.int .i64 (t).index,.string (t).type.base,.slice A (t).type.args.length c,.slice B (t).args.length mB]∧Blk w' b2 37 #[.int .i64 0,.int .i64 0]∧Blk w' b5 143 #[.int .i64 (t1).kind,.string (t1).name,.int .i64 (t1).index,.string (t1).type.base,.slice A1 (t1).type.args.length c1,.slice B1 (t1).args.length m1,.int .i64 (d1:Nat),.int .i64 (e1:Nat)]∧Blk w' b6 55 #[.int .i64 t1.kind,.string t1.name,.int .i64 t1.index,.string t1.type.base,.slice A1 t1.type.args.length c1,.slice B1 t1.args.length m1]∧Own w' w.heap.size 143 8 (some ⟨q,0,none⟩) st1.length cap3 vs1) ?_ (fun gx1 w9 hI=>?_)
  ·refine zw rfl (fun c41=>?_) (fun c41=>?_)
   ·have hcd:(ndX n d1 e1 t1)=1:=if_pos c41;refine zn3 ?_;refine e_R ⟨agA,?_⟩;exact⟨by rw [hcd];rfl,hB,hb1,hb2,hb5,hb6,ho⟩
   refine xX ?_;refine x7 [42,43,44,45,46,47,48,49] 49 (.bool (decide (t1.kind < 1∨4 < t1.kind))) nu ?_ (fun gq=>?_)
   ·refine zn5 ?_;refine zj 45 rfl (fun g45=>?_) (fun g45=>?_)
    ·refine zn4 ?_;refine zZ (e_R ⟨rfl,agA,?_⟩);exact clA
    refine zn7 ?_;refine zZ (e_R ⟨rfl,agA,?_⟩);exact clA
   refine e_S ?_;refine zw rfl (fun c49=>?_) (fun c49=>?_)
   ·have hcd:=ndX_4 (b:=e1) c41 c49;refine zn3 ?_;refine e_R ⟨agA,?_⟩;exact⟨by rw [hcd];rfl,hB,hb1,hb2,hb5,hb6,ho⟩
   obtain⟨kk,hkk⟩:∃ kk:Nat,t1.kind=kk:=⟨t1.kind.toNat,by omega⟩
   have h1k:1≤kk:=by omega
   have h4k:kk≤4:=by omega
   refine xX ?_;rw [hkk] at hb6;refine Y1 ?_;refine qJ (cs:=#[_,_,_,_,_]) [(0,.int _ _),(1,.int _ _),(2,.int _ _),(3,.int _ _),(4,.int _ _)] rfl U69 qw jw dE dE kR rfl (fun b50 w10 hb50 hs hr=>?_);replace hB:=hB.tr0 hs;replace hb1:=hb1.tr0 hs;replace hb2:=hb2.tr0 hs;replace ho:=ho.tr0 hs;replace hb5:=hb5.tr0 hs;replace hb6:=hb6.tr0 hs;refine zn3 ?_;refine wl (qk (v:= .int _ _) U3 rfl rfl (hb50.cell (arg_at om))) (zn4 ?_);rw [← hkk] at hb6;refine xK [9,55,56,57,58,59,60,61,62,63,64,65,66,67,68,69,70,71,72,73,74,75,76,77,78,79,80,81,82,83,84,85,86,87,88,89,90,91,92,93,94] (fun g w'=>(g 9= .bool (decide (zOk kk t1)))∧Same [] w10 w') ?_ (fun g14 w11 hI=>?_)
   ·have hZ:SameQ [] w10 w10:=Same.refl _ _;refine zn7 ?_;refine zj 60 rfl (fun g60=>?_) (fun g60=>?_)
    ·refine zn8 ?_;refine zj 64 rfl (fun g64=>?_) (fun g64=>?_)
     ·refine Zk ?_;refine zj 74 rfl (fun g74=>?_) (fun g74=>?_)
      ·refine Zk ?_;refine zj 84 rfl (fun g84=>?_) (fun g84=>?_)
       ·refine Zk ?_;refine e_R ⟨agA,?_⟩;refine⟨?_,hZ⟩;simp only [zOk]
        first | exact congrArg Value.bool (decide_eq_true (by grind)).symm | exact congrArg Value.bool (decide_eq_false (by grind)).symm | exact congrArg Value.bool (decide_eq_decide.2 (by grind)) | exact congrArg Value.bool (by grind)
       refine yq ?_;refine zj 89 rfl (fun g89=>?_) (fun g89=>?_)
       ·refine zn8 ?_;refine e_R ⟨agA,?_⟩;refine⟨?_,hZ⟩;simp only [zOk]
        first | exact congrArg Value.bool (decide_eq_true (by grind)).symm | exact congrArg Value.bool (decide_eq_false (by grind)).symm | exact congrArg Value.bool (decide_eq_decide.2 (by grind)) | exact congrArg Value.bool (by grind)
       refine zn3 ?_;refine wl (zW U52 rfl rfl (hb6.sub (n:=2) (xs:=[_,_]) rfl) xy) (zn1 ?_);refine zV fn92 (Qq A1 c1 t1.type _) rfl (fun e' w12 hr=>?_);obtain⟨rfl,hs⟩:=hr;replace hs:=sB hs;replace hZ:=SameQ.trans hZ hs (by simp);refine⟨_,rfl,?_⟩;refine zn5 ?_;refine e_R ⟨agA,?_⟩;refine⟨?_,hZ⟩;simp only [zOk]
       first | exact congrArg Value.bool (decide_eq_true (by grind)).symm | exact congrArg Value.bool (decide_eq_false (by grind)).symm | exact congrArg Value.bool (decide_eq_decide.2 (by grind)) | exact congrArg Value.bool (by grind)
      refine yq ?_;refine zj 80 rfl (fun g80=>?_) (fun g80=>?_)
      ·refine zn8 ?_;refine zj 84 rfl (fun g84=>?_) (fun g84=>?_)
       ·refine Zk ?_;refine e_R ⟨agA,?_⟩;refine⟨?_,hZ⟩;simp only [zOk]
        first | exact congrArg Value.bool (decide_eq_true (by grind)).symm | exact congrArg Value.bool (decide_eq_false (by grind)).symm | exact congrArg Value.bool (decide_eq_decide.2 (by grind)) | exact congrArg Value.bool (by grind)
       refine yq ?_;refine zj 89 rfl (fun g89=>?_) (fun g89=>?_)
       ·refine zn8 ?_;refine e_R ⟨agA,?_⟩;refine⟨?_,hZ⟩;simp only [zOk]
        first | exact congrArg Value.bool (decide_eq_true (by grind)).symm | exact congrArg Value.bool (decide_eq_false (by grind)).symm | exact congrArg Value.bool (decide_eq_decide.2 (by grind)) | exact congrArg Value.bool (by grind)
       refine zn3 ?_;refine wl (zW U52 rfl rfl (hb6.sub (n:=2) (xs:=[_,_]) rfl) xy) (zn1 ?_);refine zV fn92 (Qq A1 c1 t1.type _) rfl (fun e' w13 hr=>?_);obtain⟨rfl,hs⟩:=hr;replace hs:=sB hs;replace hZ:=SameQ.trans hZ hs (by simp);refine⟨_,rfl,?_⟩;refine zn5 ?_;refine e_R ⟨agA,?_⟩;refine⟨?_,hZ⟩;simp only [zOk]
       first | exact congrArg Value.bool (decide_eq_true (by grind)).symm | exact congrArg Value.bool (decide_eq_false (by grind)).symm | exact congrArg Value.bool (decide_eq_decide.2 (by grind)) | exact congrArg Value.bool (by grind)
      refine M1 ?_;refine e_R ⟨agA,?_⟩;refine⟨?_,hZ⟩;simp only [zOk]
      first | exact congrArg Value.bool (decide_eq_true (by grind)).symm | exact congrArg Value.bool (decide_eq_false (by grind)).symm | exact congrArg Value.bool (decide_eq_decide.2 (by grind)) | exact congrArg Value.bool (by grind)
     refine yq ?_;refine zj 70 rfl (fun g70=>?_) (fun g70=>?_)
     ·refine zn8 ?_;refine zj 74 rfl (fun g74=>?_) (fun g74=>?_)
      ·refine Zk ?_;refine zj 84 rfl (fun g84=>?_) (fun g84=>?_)
       ·refine Zk ?_;refine e_R ⟨agA,?_⟩;refine⟨?_,hZ⟩;simp only [zOk]
        first | exact congrArg Value.bool (decide_eq_true (by grind)).symm | exact congrArg Value.bool (decide_eq_false (by grind)).symm | exact congrArg Value.bool (decide_eq_decide.2 (by grind)) | exact congrArg Value.bool (by grind)
       refine yq ?_;refine zj 89 rfl (fun g89=>?_) (fun g89=>?_)
       ·refine zn8 ?_;refine e_R ⟨agA,?_⟩;refine⟨?_,hZ⟩;simp only [zOk]
        first | exact congrArg Value.bool (decide_eq_true (by grind)).symm | exact congrArg Value.bool (decide_eq_false (by grind)).symm | exact congrArg Value.bool (decide_eq_decide.2 (by grind)) | exact congrArg Value.bool (by grind)
       refine zn3 ?_;refine wl (zW U52 rfl rfl (hb6.sub (n:=2) (xs:=[_,_]) rfl) xy) (zn1 ?_);refine zV fn92 (Qq A1 c1 t1.type _) rfl (fun e' w14 hr=>?_);obtain⟨rfl,hs⟩:=hr;replace hs:=sB hs;replace hZ:=SameQ.trans hZ hs (by simp);refine⟨_,rfl,?_⟩;refine zn5 ?_;refine e_R ⟨agA,?_⟩;refine⟨?_,hZ⟩;simp only [zOk]
       first | exact congrArg Value.bool (decide_eq_true (by grind)).symm | exact congrArg Value.bool (decide_eq_false (by grind)).symm | exact congrArg Value.bool (decide_eq_decide.2 (by grind)) | exact congrArg Value.bool (by grind)
      refine yq ?_;refine zj 80 rfl (fun g80=>?_) (fun g80=>?_)
      ·refine zn8 ?_;refine zj 84 rfl (fun g84=>?_) (fun g84=>?_)
       ·refine Zk ?_;refine e_R ⟨agA,?_⟩;refine⟨?_,hZ⟩;simp only [zOk]
        first | exact congrArg Value.bool (decide_eq_true (by grind)).symm | exact congrArg Value.bool (decide_eq_false (by grind)).symm | exact congrArg Value.bool (decide_eq_decide.2 (by grind)) | exact congrArg Value.bool (by grind)
       refine yq ?_;refine zj 89 rfl (fun g89=>?_) (fun g89=>?_)
       ·refine zn8 ?_;refine e_R ⟨agA,?_⟩;refine⟨?_,hZ⟩;simp only [zOk]
        first | exact congrArg Value.bool (decide_eq_true (by grind)).symm | exact congrArg Value.bool (decide_eq_false (by grind)).symm | exact congrArg Value.bool (decide_eq_decide.2 (by grind)) | exact congrArg Value.bool (by grind)
       refine zn3 ?_;refine wl (zW U52 rfl rfl (hb6.sub (n:=2) (xs:=[_,_]) rfl) xy) (zn1 ?_);refine zV fn92 (Qq A1 c1 t1.type _) rfl (fun e' w15 hr=>?_);obtain⟨rfl,hs⟩:=hr;replace hs:=sB hs;replace hZ:=SameQ.trans hZ hs (by simp);refine⟨_,rfl,?_⟩;refine zn5 ?_;refine e_R ⟨agA,?_⟩;refine⟨?_,hZ⟩;simp only [zOk]
       first | exact congrArg Value.bool (decide_eq_true (by grind)).symm | exact congrArg Value.bool (decide_eq_false (by grind)).symm | exact congrArg Value.bool (decide_eq_decide.2 (by grind)) | exact congrArg Value.bool (by grind)
      refine M1 ?_;refine e_R ⟨agA,?_⟩;refine⟨?_,hZ⟩;simp only [zOk]
      first | exact congrArg Value.bool (decide_eq_true (by grind)).symm | exact congrArg Value.bool (decide_eq_false (by grind)).symm | exact congrArg Value.bool (decide_eq_decide.2 (by grind)) | exact congrArg Value.bool (by grind)
     refine zn26 ?_;refine e_R ⟨agA,?_⟩;refine⟨?_,hZ⟩;simp only [zOk]
     first | exact congrArg Value.bool (decide_eq_true (by grind)).symm | exact congrArg Value.bool (decide_eq_false (by grind)).symm | exact congrArg Value.bool (decide_eq_decide.2 (by grind)) | exact congrArg Value.bool (by grind)
    refine zn30 ?_;refine zn6 ?_;refine e_R ⟨agA,?_⟩;refine⟨?_,hZ⟩;simp only [zOk]
    first | exact congrArg Value.bool (decide_eq_true (by grind)).symm | exact congrArg Value.bool (decide_eq_false (by grind)).symm | exact congrArg Value.bool (decide_eq_decide.2 (by grind)) | exact congrArg Value.bool (by grind)
   obtain⟨h9,hs⟩:=hI;replace hB:=hB.tr0 hs;replace hb1:=hb1.tr0 hs;replace hb2:=hb2.tr0 hs;replace ho:=ho.tr0 hs;replace hb5:=hb5.tr0 hs;replace hb6:=hb6.tr0 hs;refine jJ 9 (.bool (decide (zOk kk t1))) h9 nu (zn7 ?_);refine zw rfl (fun c96=>?_) (fun c96=>?_)
   ·have hcd:=ndX_5 (b:=e1) c41 hkk h1k h4k c96;refine zn3 ?_;refine e_R ⟨agA,?_⟩;exact⟨by rw [hcd];rfl,hB,hb1,hb2,hb5,hb6,ho⟩
   have hzk:zOk kk t1:=Classical.not_not.1 c96;have hcz:=ndX_z (b:=e1) c41 hkk h1k h4k hzk;refine xX ?_;refine xK [97,98,99,100,101,102,103,104,105] (fun g w'=>(g 105= .bool (decide (kk=1∧¬y6 t1.name=true)))∧Same [] w11 w') ?_ (fun g17 w16 hI=>?_)
   ·have hZ:SameQ [] w11 w11:=Same.refl _ _;refine zn5 ?_;refine zj 100 rfl (fun g100=>?_) (fun g100=>?_)
    ·refine zn5 ?_;refine zV fn93 (name1_any _ _) rfl (fun e' w17 hr=>?_);obtain⟨rfl,rfl⟩:=hr;refine⟨_,rfl,?_⟩;refine zn4 ?_;refine e_R ⟨agA,?_⟩;refine⟨?_,hZ⟩
     first | exact congrArg Value.bool (decide_eq_true (by grind)).symm | exact congrArg Value.bool (decide_eq_false (by grind)).symm | exact congrArg Value.bool (decide_eq_decide.2 (by grind)) | exact congrArg Value.bool (by grind)
    refine zn6 ?_;refine e_R ⟨agA,?_⟩;refine⟨?_,hZ⟩
    first | exact congrArg Value.bool (decide_eq_true (by grind)).symm | exact congrArg Value.bool (decide_eq_false (by grind)).symm | exact congrArg Value.bool (decide_eq_decide.2 (by grind)) | exact congrArg Value.bool (by grind)
   obtain⟨h105,hs⟩:=hI;replace hB:=hB.tr0 hs;replace hb1:=hb1.tr0 hs;replace hb2:=hb2.tr0 hs;replace ho:=ho.tr0 hs;replace hb5:=hb5.tr0 hs;replace hb6:=hb6.tr0 hs;refine jJ 105 (.bool (decide (kk=1∧¬y6 t1.name=true))) h105 nu (e_S ?_);refine zw rfl (fun c105=>?_) (fun c105=>?_)
   ·have hcd:(ndX n d1 e1 t1)=10:=by rw [hcz,if_pos c105.1,if_neg c105.2]
    refine zn3 ?_;refine e_R ⟨agA,?_⟩;exact⟨by rw [hcd];rfl,hB,hb1,hb2,hb5,hb6,ho⟩
   refine xX ?_;refine xK [106,107,108,109,110,111,112,113,114,115,116,117,118,119] (fun g w'=>(g 119= .bool (decide ((kk=1∨kk=3)∧smF t1.type≠0)))∧Same [] w16 w') ?_ (fun g19 w18 hI=>?_)
   ·have hZ:SameQ [] w16 w16:=Same.refl _ _;refine zn5 ?_;refine zj 109 rfl (fun g109=>?_) (fun g109=>?_)
    ·refine zn8 ?_;refine wl (zW U52 rfl rfl (hb6.sub (n:=2) (xs:=[_,_]) rfl) xy) (zn1 ?_);refine zV fn94 (My A1 c1 t1.type _ (hs1.mono hB)) rfl (fun e' w19 hr=>?_);obtain⟨rfl,hs⟩:=hr;replace hs:=sB hs;replace hZ:=SameQ.trans hZ hs (by simp);refine⟨_,rfl,?_⟩;refine zn4 ?_;refine e_R ⟨agA,?_⟩;refine⟨?_,hZ⟩
     first | exact congrArg Value.bool (decide_eq_true (by grind)).symm | exact congrArg Value.bool (decide_eq_false (by grind)).symm | exact congrArg Value.bool (decide_eq_decide.2 (by grind)) | exact congrArg Value.bool (by grind)
    refine zn8 ?_;refine zj 114 rfl (fun g114=>?_) (fun g114=>?_)
    ·refine zn3 ?_;refine wl (zW U52 rfl rfl (hb6.sub (n:=2) (xs:=[_,_]) rfl) xy) (zn1 ?_);refine zV fn94 (My A1 c1 t1.type _ (hs1.mono hB)) rfl (fun e' w20 hr=>?_);obtain⟨rfl,hs⟩:=hr;replace hs:=sB hs;replace hZ:=SameQ.trans hZ hs (by simp);refine⟨_,rfl,?_⟩;refine zn4 ?_;refine e_R ⟨agA,?_⟩;refine⟨?_,hZ⟩
     first | exact congrArg Value.bool (decide_eq_true (by grind)).symm | exact congrArg Value.bool (decide_eq_false (by grind)).symm | exact congrArg Value.bool (decide_eq_decide.2 (by grind)) | exact congrArg Value.bool (by grind)
    refine zn6 ?_;refine e_R ⟨agA,?_⟩;refine⟨?_,hZ⟩
    first | exact congrArg Value.bool (decide_eq_true (by grind)).symm | exact congrArg Value.bool (decide_eq_false (by grind)).symm | exact congrArg Value.bool (decide_eq_decide.2 (by grind)) | exact congrArg Value.bool (by grind)
   obtain⟨h119,hs⟩:=hI;replace hB:=hB.tr0 hs;replace hb1:=hb1.tr0 hs;replace hb2:=hb2.tr0 hs;replace ho:=ho.tr0 hs;replace hb5:=hb5.tr0 hs;replace hb6:=hb6.tr0 hs;refine jJ 119 (.bool (decide ((kk=1∨kk=3)∧smF t1.type≠0))) h119 nu (e_S ?_);refine zw rfl (fun c119=>?_) (fun c119=>?_)
   ·have hcd:(ndX n d1 e1 t1)=12:=by rw [hcz];clear hcz;grind
    refine zn3 ?_;refine e_R ⟨agA,?_⟩;exact⟨by rw [hcd];rfl,hB,hb1,hb2,hb5,hb6,ho⟩
   refine xX ?_;refine x7 [120,121,122,123,124,125,126,127,128,129,130,131,132,133,134] 134 (.bool (decide (kk=2∧(t1.index < 0∨(e1:Int)≤t1.index)))) nu ?_ (fun gq=>?_)
   ·refine zn5 ?_;refine zj 123 rfl (fun g123=>?_) (fun g123=>?_)
    ·refine zn8 ?_;refine zj 127 rfl (fun g127=>?_) (fun g127=>?_)
     ·refine zn8 ?_;refine zZ (e_R ⟨rfl,agA,?_⟩);show Value.bool _=Value.bool _
      first | exact congrArg Value.bool (decide_eq_true (by grind)).symm | exact congrArg Value.bool (decide_eq_false (by grind)).symm | exact congrArg Value.bool (decide_eq_decide.2 (by grind)) | exact congrArg Value.bool (by grind)
     refine jq ?_;refine zZ (e_R ⟨rfl,agA,?_⟩);show Value.bool _=Value.bool _
     first | exact congrArg Value.bool (decide_eq_true (by grind)).symm | exact congrArg Value.bool (decide_eq_false (by grind)).symm | exact congrArg Value.bool (decide_eq_decide.2 (by grind)) | exact congrArg Value.bool (by grind)
    refine vx ?_;refine zZ (e_R ⟨rfl,agA,?_⟩);show Value.bool _=Value.bool _
    first | exact congrArg Value.bool (decide_eq_true (by grind)).symm | exact congrArg Value.bool (decide_eq_false (by grind)).symm | exact congrArg Value.bool (decide_eq_decide.2 (by grind)) | exact congrArg Value.bool (by grind)
   refine e_S ?_;refine zw rfl (fun c134=>?_) (fun c134=>?_)
   ·have hcd:(ndX n d1 e1 t1)=15:=by rw [hcz];clear hcz;grind
    refine zn3 ?_;refine e_R ⟨agA,?_⟩;exact⟨by rw [hcd];rfl,hB,hb1,hb2,hb5,hb6,ho⟩
   have hcd:(ndX n d1 e1 t1)=0:=by rw [hcz];clear hcz;grind
   refine uY ?_;refine e_R ⟨agA,?_⟩;exact⟨by rw [hcd];rfl,hB,hb1,hb2,hb5,hb6,ho⟩
  obtain⟨h7,hB,hb1,hb2,hb5,hb6,ho⟩:=hI;refine jJ 7 (.int .i64 (ndX n d1 e1 t1)) h7 nu (zn8 ?_);refine zw rfl (fun c136=>?_) (fun c136=>?_)
  ·rw [ndX_bad c136] at hR;have hF:tmF t=((ndX n d1 e1 t1),(n:Int)):=by rw [Wy (by rw [hR];exact c136),hR]
   refine zn4 ?_;refine wl (yz (v0:= .int _ _) (v1:= .int _ _) (fun v0 v1=>#[v0,v1]) rfl rfl kR) ?_;refine zk hb2 rfl rfl zq rfl zK (fun w21 hq hs=>?_);replace hB:=hB.tr1 hs lo2;replace hb2:=hq;refine zn9 ?_;refine x5 (.inl rfl) rfl (zy U37 rfl rfl hb2.range0 zq) ?_;exact⟨by rw [hF];rfl,hB⟩
  obtain⟨hR2,⟨hd40,hn200⟩,hcd0⟩:=ndX_go (r:=st1.reverse) (Classical.not_not.1 c136);rw [hR2] at hR;have hal:=ndC_len hcd0;refine M0 ?_;refine xK [10,145,146] (fun g w'=>g 10= .int .i64 ((inB t1 e1:Nat):Int)∧Bel w w'∧Blk w' b1 55 #[.int .i64 (t).kind,.string (t).name,.int .i64 (t).index,.string (t).type.base,.slice A (t).type.args.length c,.slice B (t).args.length mB]∧Blk w' b2 37 #[.int .i64 0,.int .i64 0]∧Blk w' b5 143 #[.int .i64 (t1).kind,.string (t1).name,.int .i64 (t1).index,.string (t1).type.base,.slice A1 (t1).type.args.length c1,.slice B1 (t1).args.length m1,.int .i64 (d1:Nat),.int .i64 (e1:Nat)]∧Blk w' b6 55 #[.int .i64 t1.kind,.string t1.name,.int .i64 t1.index,.string t1.type.base,.slice A1 t1.type.args.length c1,.slice B1 t1.args.length m1]∧Own w' w.heap.size 143 8 (some ⟨q,0,none⟩) st1.length cap3 vs1) ?_ (fun gx2 w22 hI=>?_)
  ·refine zw rfl (fun c144=>?_) (fun c144=>?_)
   ·have hin:inB t1 e1=e1 + 1:=if_pos c144;refine zn5 ?_;refine e_R ⟨agA,?_⟩;exact⟨by rw [hin];rfl,hB,hb1,hb2,hb5,hb6,ho⟩
   have hin:inB t1 e1=e1:=if_neg c144;refine uY ?_;refine e_R ⟨agA,?_⟩;exact⟨by rw [hin];rfl,hB,hb1,hb2,hb5,hb6,ho⟩
  obtain⟨h10,hB,hb1,hb2,hb5,hb6,ho⟩:=hI;refine jJ 10 (.int .i64 ((inB t1 e1:Nat):Int)) h10 nu (zn6 ?_);refine wl (jV rfl rfl rfl om) (zn4 ?_);refine q8 [3,11,151,152,153,154,155,156,157,158,159,160,161,162,163,164,165,166,167] (fun mm g w'=>∃ (i:Nat) (z:Int) (st2:List (Tm×Nat×Nat)) (vs2:List Value) (q2 cap2:Nat),i≤t1.args.length∧mm=i∧z + 1=i∧g 11= .int .i64 z∧g 3= .slice (some ⟨q2,0,none⟩) st2.length cap2∧st2.length=st1.length + (t1.args.length - i)∧st2.reverse=(t1.args.drop i).map (fun y=>(y,d1 + 1,inB t1 e1)) ++ st1.reverse∧Bel w w'∧Blk w' b1 55 #[.int .i64 (t).kind,.string (t).name,.int .i64 (t).index,.string (t).type.base,.slice A (t).type.args.length c,.slice B (t).args.length mB]∧Blk w' b2 37 #[.int .i64 0,.int .i64 0]∧Blk w' b5 143 #[.int .i64 (t1).kind,.string (t1).name,.int .i64 (t1).index,.string (t1).type.base,.slice A1 (t1).type.args.length c1,.slice B1 (t1).args.length m1,.int .i64 (d1:Nat),.int .i64 (e1:Nat)]∧Blk w' b6 55 #[.int .i64 t1.kind,.string t1.name,.int .i64 t1.index,.string t1.type.base,.slice A1 t1.type.args.length c1,.slice B1 t1.args.length m1]∧Own w' w.heap.size 143 8 (some ⟨q2,0,none⟩) st2.length cap2 vs2∧StkT w st2 vs2∧(∀ x ∈ st2,x.2.2 < x.2.1)∧∀ g ∈ aL (some (⟨q2,0,none⟩:Addr)),g≠b5) (t1.args.length) ?_ (fun m g29 w23 hI=>?_)
  ·exact⟨t1.args.length,_,st1,vs1,q,cap3,Nat.le_refl _,rfl,by omega,rfl,rfl,by omega,by rw [List.drop_length];rfl,hB,hb1,hb2,hb5,hb6,ho,hst1,hbd,fun g hg=>by have:=or_ho_b5 g hg;omega⟩
  obtain⟨i,z,st2,vs2,q2,cap2,hi,hmi,hzi,h11,h3,hl2,hrv,hB,hb1,hb2,hb5,hb6,ho,hstk2,hbd2,or_ho_b5⟩:=hI;have or_ho_b1:=gk ho hb1 dE;have or_ho_b2:=gk ho hb2 dE;have or_ho_b6:=gk ho hb6 dE;refine zJ 11 (.int .i64 z) h11 nu (zJ 3 (.slice (some ⟨q2,0,none⟩) st2.length cap2) h3 nu (zn7 ?_));refine zw rfl (fun c152=>?_) (fun c152=>?_)
  ·obtain⟨p,rfl⟩:∃ p:Nat,z=p:=⟨z.toNat,by omega⟩
   obtain rfl:i=p + 1:=by omega
   have hpl:p < t1.args.length:=by omega
   obtain⟨tb,to,A9,c9,B9,m9,rfl,htb,htr,hs9,ht9⟩:=ht1.at_ hpl;have hrv2:(st2 ++ [((t1.args[p]'hpl),d1 + 1,inB t1 e1)]).reverse=(t1.args.drop p).map (fun y=>(y,d1 + 1,inB t1 e1)) ++ st1.reverse:=by
     rw [XK,hrv,List.drop_eq_getElem_cons hpl];rfl
   refine zn4 ?_;have zo:=fun g hg=>(ho.lt g hg).2
   have lt5W:=hb5.lt;refine N6 13 [155,156,157,158,159,160,161,162,163,164,165,166,167] (aL (some ⟨q2,0,none⟩)) 12 (fun ix v wv=>match ix with | 0=>v= .slice (some ⟨q2,0,none⟩) st2.length cap2 | 1=>v= .pointer (some ⟨b6,0 + 5,none⟩) | 2=>v= .slice (some ⟨tb,to,none⟩) t1.args.length m1 | 3=>v= .int .i64 ((p:Nat):Int) | 4=>v= .pointer (some ⟨tb,to + p * 6,none⟩) | 5=>v= .agg #[.int .i64 ((t1.args[p]'hpl)).kind,.string ((t1.args[p]'hpl)).name,.int .i64 ((t1.args[p]'hpl)).index,.string ((t1.args[p]'hpl)).type.base,.slice A9 ((t1.args[p]'hpl)).type.args.length c9,.slice B9 ((t1.args[p]'hpl)).args.length m9] | 6=>v= .pointer (some ⟨b5,0 + 6,none⟩) | 7=>v= .int .i64 ((d1:Nat):Int) | 8=>v= .int .i64 ((d1:Nat) + 1:Int) | 9=>v= .int .i64 ((inB t1 e1:Nat):Int) | 10=>v= .agg #[.int .i64 ((t1.args[p]'hpl)).kind,.string ((t1.args[p]'hpl)).name,.int .i64 ((t1.args[p]'hpl)).index,.string ((t1.args[p]'hpl)).type.base,.slice A9 ((t1.args[p]'hpl)).type.args.length c9,.slice B9 ((t1.args[p]'hpl)).args.length m9,.int .i64 ((d1:Nat) + 1:Int),.int .i64 ((inB t1 e1:Nat):Int)] | 11=>∃ b,v= .slice (some ⟨b,0,none⟩) 1 1∧w23.heap.size≤b∧Blk wv b 143 #[.int .i64 ((t1.args[p]'hpl)).kind,.string ((t1.args[p]'hpl)).name,.int .i64 ((t1.args[p]'hpl)).index,.string ((t1.args[p]'hpl)).type.base,.slice A9 ((t1.args[p]'hpl)).type.args.length c9,.slice B9 ((t1.args[p]'hpl)).args.length m9,.int .i64 ((d1:Nat) + 1:Int),.int .i64 ((inB t1 e1:Nat):Int)] | 12=>∃ g cap,v= .slice (some ⟨g,0,none⟩) (st2.length + 1) cap∧Own wv w.heap.size 143 8 (some ⟨g,0,none⟩) (st2.length + 1) cap (vs2 ++ [.int .i64 ((t1.args[p]'hpl)).kind,.string ((t1.args[p]'hpl)).name,.int .i64 ((t1.args[p]'hpl)).index,.string ((t1.args[p]'hpl)).type.base,.slice A9 ((t1.args[p]'hpl)).type.args.length c9,.slice B9 ((t1.args[p]'hpl)).args.length m9,.int .i64 ((d1:Nat) + 1:Int),.int .i64 ((inB t1 e1:Nat):Int)])∧(g=q2∨w23.heap.size≤g) | _=>True) (fun _=>True) kR kR ?_ (fun _ _ _ _=>trivial) ?_ ?_ dE ?_
   ·intro ix v wv wv2 h hs
    match ix,h with
    | 0,h=>exact h
    | 1,h=>exact h
    | 2,h=>exact h
    | 3,h=>exact h
    | 4,h=>exact h
    | 5,h=>exact h
    | 6,h=>exact h
    | 7,h=>exact h
    | 8,h=>exact h
    | 9,h=>exact h
    | 10,h=>exact h
    | 11,h=>
     obtain⟨b166,e166,lo166,hb166⟩:=h;exact⟨b166,e166,lo166,hb166.tr0 hs⟩
    | 12,h=>
     obtain⟨g167,cap167,e167,ho167,hg167⟩:=h;exact⟨g167,cap167,e167,ho167.tr0 hs,hg167⟩
    | _ + 13,h=>exact trivial
   ·intro ix o hix hne hoq gg wx hs hd
    match ix,hix,hne,hoq with
    | 0,_,_,hoq=>
     cases sI hoq;refine xZ (x9 (v:= .slice _ _ _) rfl) ⟨Same.refl _ _,?_⟩;exact rfl
    | 1,_,_,hoq=>
     cases sI hoq;refine xZ (vX U55 sz53 dE rfl rfl rfl) ⟨Same.refl _ _,?_⟩;exact rfl
    | 2,_,_,hoq=>
     cases sI hoq;replace hb6:=hb6.tr hs (fun hx=>by have:=(ho.lt _ hx).1;(try have:=or_ho_b6 _ hx);omega);refine z4 156 (.pointer (some ⟨b6,0 + 5,none⟩)) (hd 1 (zz kR)) nu ?_;refine xZ (qk (v:= .slice _ _ _) U53 rfl rfl (hb6.cell rfl)) ⟨Same.refl _ _,?_⟩;exact rfl
    | 3,_,_,hoq=>
     cases sI hoq;refine xZ (x9 (v:= .int _ _) rfl) ⟨Same.refl _ _,?_⟩;exact rfl
    | 4,_,_,hoq=>
     cases sI hoq;refine z4 157 (.slice (some ⟨tb,to,none⟩) t1.args.length m1) (hd 2 (zz kR)) nu (z4 158 (.int .i64 ((p:Nat):Int)) (hd 3 (zz kR)) nu ?_);refine xZ (yQ (i:=p) U53 QK rfl rfl hpl rfl) ⟨Same.refl _ _,?_⟩;exact rfl
    | 5,_,_,hoq=>
     cases sI hoq;replace hB:=hB.tr hs (fun g hg=>nLT (Nat.le_refl _) (ho.lt g hg).1);refine z4 159 (.pointer (some ⟨tb,to + p * 6,none⟩)) (hd 4 (zz kR)) nu ?_;refine xZ (zW U55 rfl rfl (hB.range htb htr) QK) ⟨Same.refl _ _,?_⟩;exact rfl
    | 6,_,_,hoq=>
     cases sI hoq;refine xZ (vX W2 qw dE rfl rfl rfl) ⟨Same.refl _ _,?_⟩;exact rfl
    | 7,_,_,hoq=>
     cases sI hoq;replace hb5:=hb5.tr hs (fun hx=>by have:=(ho.lt _ hx).1;(try have:=or_ho_b5 _ hx);omega);refine z4 161 (.pointer (some ⟨b5,0 + 6,none⟩)) (hd 6 (zz kR)) nu ?_;refine xZ (qk (v:= .int _ _) U3 rfl rfl (hb5.cell rfl)) ⟨Same.refl _ _,?_⟩;exact rfl
    | 8,_,_,hoq=>
     cases sI hoq;refine z4 162 (.int .i64 ((d1:Nat):Int)) (hd 7 (zz kR)) nu ?_;refine xZ (kK rfl rfl rfl om) ⟨Same.refl _ _,?_⟩;exact rfl
    | 9,_,_,hoq=>
     cases sI hoq;refine xZ (x9 (v:= .int _ _) rfl) ⟨Same.refl _ _,?_⟩;exact rfl
    | 10,_,_,hoq=>
     cases sI hoq;refine z4 160 (.agg #[.int .i64 ((t1.args[p]'hpl)).kind,.string ((t1.args[p]'hpl)).name,.int .i64 ((t1.args[p]'hpl)).index,.string ((t1.args[p]'hpl)).type.base,.slice A9 ((t1.args[p]'hpl)).type.args.length c9,.slice B9 ((t1.args[p]'hpl)).args.length m9]) (hd 5 (zz kR)) nu (z4 163 (.int .i64 ((d1:Nat) + 1:Int)) (hd 8 (zz kR)) nu (z4 164 (.int .i64 ((inB t1 e1:Nat):Int)) (hd 9 (zz kR)) nu ?_));refine xZ (Jw (v0:= .agg _) (v1:= .int _ _) (v2:= .int _ _) (fun v0 v1 v2=>#[(qX v0 0),(qX v0 1),(qX v0 2),(qX v0 3),(qX v0 4),(qX v0 5),v1,v2]) rfl rfl rfl kR) ⟨Same.refl _ _,?_⟩;exact rfl
    | 11,_,_,hoq=>
     cases sI hoq;have hs0:=hs;refine z4 165 (.agg #[.int .i64 ((t1.args[p]'hpl)).kind,.string ((t1.args[p]'hpl)).name,.int .i64 ((t1.args[p]'hpl)).index,.string ((t1.args[p]'hpl)).type.base,.slice A9 ((t1.args[p]'hpl)).type.args.length c9,.slice B9 ((t1.args[p]'hpl)).args.length m9,.int .i64 ((d1:Nat) + 1:Int),.int .i64 ((inB t1 e1:Nat):Int)]) (hd 10 (zz kR)) nu ?_;refine jx (fun ops Q K=>?_);refine qJ (cs:=#[_,_,_,_,_,_,_,_]) [(0,.agg _)] rfl W1 NV ze143 dE dE kR rfl (fun b166 w24 hb166 hs hr=>?_);exact K _ _ ⟨hs,⟨_,rfl,nLT hs0.size hr,hb166⟩⟩
    | 12,_,hne,_=>exact absurd rfl hne
    | _ + 13,hix,_,_=>exact absurd hix om
   ·intro o hoq gg wx hs hd;cases sI hoq;have hs0:=hs;replace hB:=hB.tr0 hs;replace ho:=ho.tr0 hs;obtain⟨b166,e166,lo166,hb166⟩:=hd 11 (zz kR);refine z4 155 (.slice (some ⟨q2,0,none⟩) st2.length cap2) (hd 0 (zz kR)) nu (z4 166 (.slice (some ⟨b166,0,none⟩) 1 1) e166 nu ?_);refine jx (fun ops Q K=>?_);refine o8 W1 in143 rfl dE ho hb166 rfl rfl rfl zK dE om om (Bel.size hB) (fun g167 cap167 w2 ho167 hs2 hg167=>?_);refine K _ _ ⟨hs2,⟨_,_,rfl,ho167,hg167.imp (fun h=>(List.singleton_inj.1 h).symm) (fun h=>nLT hs0.size h)⟩,trivial,fun kx v hne h=>?_⟩
    match kx,hne,h with
    | 0,_,h=>exact h
    | 1,_,h=>exact h
    | 2,_,h=>exact h
    | 3,_,h=>exact h
    | 4,_,h=>exact h
    | 5,_,h=>exact h
    | 6,_,h=>exact h
    | 7,_,h=>exact h
    | 8,_,h=>exact h
    | 9,_,h=>exact h
    | 10,_,h=>exact h
    | 11,_,h=>
     obtain⟨b166,e166,lo166,hb166⟩:=h;exact⟨b166,e166,lo166,hb166.tr hs2 (fun hx=>by have:=zo _ hx;omega)⟩
    | 12,hne,_=>exact absurd rfl hne
    | _ + 13,_,_=>exact trivial
   intro gg w25 hs _ hR;replace hB:=hB.tr hs (fun g hg=>nLT (Nat.le_refl _) (ho.lt g hg).1);replace hb1:=hb1.tr hs (fun hx=>by have:=(ho.lt _ hx).1;(try have:=or_ho_b1 _ hx);omega);replace hb2:=hb2.tr hs (fun hx=>by have:=(ho.lt _ hx).1;(try have:=or_ho_b2 _ hx);omega);replace hb5:=hb5.tr hs (fun hx=>by have:=(ho.lt _ hx).1;(try have:=or_ho_b5 _ hx);omega);replace hb6:=hb6.tr hs (fun hx=>by have:=(ho.lt _ hx).1;(try have:=or_ho_b6 _ hx);omega);obtain⟨g167,cap167,e167,ho167,hg167⟩:=hR 12 dE;have q1:(st2 ++ [((t1.args[p]'hpl),d1 + 1,inB t1 e1)]).length=st2.length + 1:=by simp
   have ho:Own w25 w.heap.size 143 8 (some ⟨g167,0,none⟩) (st2 ++ [((t1.args[p]'hpl),d1 + 1,inB t1 e1)]).length cap167 (vs2 ++ [.int .i64 ((t1.args[p]'hpl)).kind,.string ((t1.args[p]'hpl)).name,.int .i64 ((t1.args[p]'hpl)).index,.string ((t1.args[p]'hpl)).type.base,.slice A9 ((t1.args[p]'hpl)).type.args.length c9,.slice B9 ((t1.args[p]'hpl)).args.length m9,.int .i64 ((d1:Nat) + 1:Int),.int .i64 ((inB t1 e1:Nat):Int)]):=by rw [q1];exact ho167
   have or_ho_b5n:∀ g ∈ aL (some (⟨g167,0,none⟩:Addr)),g≠b5:=fun g hg=>by
     rw [List.mem_singleton.1 hg];rcases hg167 with h | h
     · show g167≠b5
       rw [h];exact or_ho_b5 q2 (List.mem_singleton.2 rfl)
     · show g167≠b5
       omega
   refine qK 167 (.slice (some ⟨g167,0,none⟩) (st2.length + 1) cap167) e167 nu (zn6 ?_);refine wl (jV rfl rfl rfl om) (zn2 ?_);refine xv (p) om agA ?_
   exact⟨p,_,st2 ++ [((t1.args[p]'hpl),d1 + 1,inB t1 e1)],_,_,_,by omega,rfl,by omega,rfl,(by rw [q1];rfl),(by rw [q1,hl2];omega),hrv2,hB,hb1,hb2,hb5,hb6,ho,.snoc hstk2 hs9 ht9,(fun x hx=>by
     rcases List.mem_append.1 hx with h | h
     · exact hbd2 x h
     · rw [List.mem_singleton.1 h];show inB t1 e1 < d1 + 1;have:=inB_le t1 e1;omega),or_ho_b5n⟩
  obtain rfl:i=0:=by omega
  rw [List.drop_zero] at hrv;have hR2:twk t 1 0 0=tst st2.reverse (n + 1):=by rw [hR,hrv]
  have hl3:st2.length=st1.length + t1.args.length:=by rw [hl2,Nat.sub_zero]
  refine vx ?_;refine xv (201 - (n + 1)) om agA ?_;exact⟨st2,vs2,_,_,n + 1,rfl,by omega,by omega,rfl,rfl,hB,hb1,hb2,ho,hstk2,hR2,hbd2⟩
 have hst:st= []:=List.length_eq_zero_iff.1 om;subst hst;have hz:(twk t 1 0 0).2.1=0:=by rw [hR];rfl
 obtain⟨tv,rfl,hok,_,hv2⟩:=EQ t 1 0 0 hz;have hF:=tmF_ok hz;refine zn9 ?_;refine zV fn95 (TY tv A B c mB _ (hS.mono hB) (hT.mono hB) om hok) rfl (fun e' w26 hr=>?_);obtain⟨⟨sX,AX,nX,cX,rfl⟩,hs⟩:=hr;replace hs:=sB hs;replace hB:=hB.tr0 hs;replace hb1:=hb1.tr0 hs;replace hb2:=hb2.tr0 hs;replace ho:=ho.tr0 hs;refine⟨_,rfl,?_⟩;refine wmT rfl (wl (jv (v:= .agg _) rfl rfl) (wl (jv (v:= .bool _) rfl rfl) ?_));refine xV (cs:=#[.string ⟨#[]⟩,.slice none 0 0]) Vx rfl (fun _=>rfl) (fun _=>rfl) xy rfl zK (fun b12 w28 hb12 hs hr=>?_);replace hB:=hB.tr0 hs;replace hb2:=hb2.tr0 hs;refine zn9 ?_;refine j7 rfl (fun c174=>?_) (fun c174=>?_)
 ·rw [if_neg (by simpa using c174)] at hF;refine zn2 ?_;refine wl (yz (v0:= .int _ _) (v1:= .int _ _) (fun v0 v1=>#[v0,v1]) rfl rfl kR) ?_;refine zk hb2 rfl rfl zq rfl zK (fun w29 hq hs=>?_);replace hB:=hB.tr1 hs lo2;replace hb2:=hq;refine zn4 ?_;refine x5 (.inl rfl) rfl (zy U37 rfl rfl hb2.range0 zq) ?_;exact⟨by rw [hF];rfl,hB⟩
 rw [if_pos (by simpa using c174)] at hF;refine zn4 ?_;refine wl (uw (vs:=#[]) (cs:=#[.int .i64 0,.int .i64 0]) (by simp) kR) ?_;refine zk hb2 rfl rfl zq rfl zK (fun w30 hq hs=>?_);replace hB:=hB.tr1 hs lo2;replace hb2:=hq;refine zn3 ?_;refine x5 (.inl rfl) rfl (zy U37 rfl rfl hb2.range0 zq) ?_;exact⟨by rw [hF];rfl,hB⟩
end Go.Proofs.YtdkfnakncaggoaaGreatDoor
namespace Go.Proofs.YtdkfnakncaggoaaGreatDoor
open Go.RowKit
theorem fn14:zQ Tryz.prog 14=true:=by kernel_rfl
theorem fn50_GRf:zQ Tryz.prog 50=true:=by kernel_rfl
theorem fn59:zQ Tryz.prog 59=true:=by kernel_rfl
theorem fn60:zQ Tryz.prog 60=true:=by kernel_rfl
theorem fn76:zQ Tryz.prog 76=true:=by kernel_rfl
theorem MW (SA BA:Option Addr) (cs mB:Nat) (t:Tm) (w:World) (hS:SimsIn w SA t.type.args) (hT:TmsIn w BA t.args):Calls Tryz.prog 59 #[.agg #[.int .i64 (t).kind,.string (t).name,.int .i64 (t).index,.string (t).type.base,.slice SA (t).type.args.length cs,.slice BA (t).args.length mB]] w fun e w'=>e= .returned (flV (tmF t))∧Bel w w':=by
 refine enter Tryz.func59 Tryz.ntmps59 rfl (Nat.le_of_ble_eq_true rfl) ?_;have hB:Bel w w:=Below.refl _ _;refine zn2 ?_;refine qW (v:= .agg #[_,_,_,_,_,_]) (cs:=#[_,_,_,_,_,_]) rfl rfl (fun b1 w1 hb1 hs hr=>?_);replace hB:=hB.tr0 hs;refine qZ (cs:=#[.int .i64 0,.int .i64 0]) zY rfl (fun b2 w2 hb2 hs hr=>?_);have lo2:=nLT (Bel.size hB) hr;replace hB:=hB.tr0 hs;replace hb1:=hb1.tr0 hs;refine zn5 ?_;refine zV fn76 (R7 SA BA cs mB t _ (hS.mono hB) (hT.mono hB)) rfl (fun e' w3 hr=>?_);obtain⟨rfl,hs⟩:=hr;replace hs:=sB hs;replace hB:=hB.tr0 hs;replace hb2:=hb2.tr0 hs;refine⟨_,rfl,?_⟩;refine zk hb2 rfl rfl zq rfl zK (fun w4 hq hs=>?_);replace hB:=hB.tr1 hs lo2;replace hb2:=hq;refine zn3 ?_;refine x5 (.inl rfl) rfl (zy U37 rfl rfl hb2.range0 zq) ?_;exact⟨qQ rfl,hB⟩
theorem lexr_any (A B G SA BA:Option Addr) (c d cg cs mB:Nat) (l:List Ty) (fs:List Ft) (x:Lx) (w:World) (hTy:TypesIn w A l) (hv:VT l) (h60:l.length≤60) (hF:FeatsIn w B fs) (hfo:FOk l.length fs) (hG:NodesIn w G x.gr) (hS:SimsIn w SA x.mean.type.args) (hT:TmsIn w BA x.mean.args) (hsz:x.word.size < 9223372036854775807):Calls Tryz.prog 33 #[.agg #[.slice A l.length c,.slice B fs.length d],.agg #[.string (x).word,.slice G (x).gr.length cg,.int .i64 (x).wt,.int .i64 ((x).mean).kind,.string ((x).mean).name,.int .i64 ((x).mean).index,.string ((x).mean).type.base,.slice SA ((x).mean).type.args.length cs,.slice BA ((x).mean).args.length mB]] w fun e w'=>e= .returned (.int .i64 (Iv l fs x))∧Bel w w':=by
 refine enter Tryz.func33 Tryz.ntmps33 rfl (Nat.le_of_ble_eq_true rfl) ?_;have hB:Bel w w:=Below.refl _ _;refine zn2 ?_;refine qW (v:= .agg #[_,_]) (cs:=#[_,_]) rfl rfl (fun b2 w1 hb2 hs hr=>?_);replace hB:=hB.tr0 hs;refine qW (v:= .agg #[_,_,_,_,_,_,_,_,_]) (cs:=#[_,_,_,_,_,_,_,_,_]) rfl rfl (fun b3 w2 hb3 hs hr=>?_);replace hB:=hB.tr0 hs;replace hb2:=hb2.tr0 hs;refine zn8 ?_;refine zV fn60 (L6 x.word _ hsz) rfl (fun e' w3 hr=>?_);obtain⟨rfl,hs⟩:=hr;replace hs:=sB hs;replace hB:=hB.tr0 hs;replace hb2:=hb2.tr0 hs;replace hb3:=hb3.tr0 hs;refine⟨_,rfl,?_⟩;refine zn3 ?_;refine j7 rfl (fun c9=>?_) (fun c9=>?_)
 ·have hwd:jz x.word=false:=by simpa using c9
  refine zn8 ?_;exact⟨oW (Dk hwd),hB⟩
 have hwd:jz x.word=true:=by simpa using c9
 refine zn4 ?_;refine x7 [10,11,12,13,14,15,16,17] 17 (.bool (decide (x.wt < 0∨1000000 < x.wt))) nu ?_ (fun gq=>?_)
 ·refine zn5 ?_;refine zj 13 rfl (fun g13=>?_) (fun g13=>?_)
  ·refine zn4 ?_;refine zZ (e_R ⟨rfl,agA,?_⟩);exact clA
  refine zn7 ?_;refine zZ (e_R ⟨rfl,agA,?_⟩);exact clA
 refine e_S ?_;refine zw rfl (fun c17=>?_) (fun c17=>?_)
 ·refine zn8 ?_;exact⟨oW (F6 hwd c17),hB⟩
 refine zn7 ?_;refine wl (zW U30 rfl rfl (hb3.sub (n:=1) (xs:=[_]) rfl) EW) ?_;refine zV fn14 (DJ A B G c d cg l fs x.gr _ (hTy.mono hB) hv h60 (hF.mono hB) (hG.mono hB) hfo) rfl (fun e' w4 hr=>?_);obtain⟨rfl,hs⟩:=hr;replace hs:=sB hs;replace hB:=hB.tr0 hs;replace hb2:=hb2.tr0 hs;replace hb3:=hb3.tr0 hs;refine⟨_,rfl,?_⟩;refine xV (cs:=#[.int .i64 0,.int .i64 0]) zY rfl (fun _=>rfl) (fun _=>rfl) zq rfl zK (fun b5 w6 hb5 hs hr=>?_);replace hB:=hB.tr0 hs;replace hb3:=hb3.tr0 hs;refine zn9 ?_;refine zw rfl (fun c24=>?_) (fun c24=>?_)
 ·refine yq ?_;exact⟨oW (lx_gr hwd c17 c24),hB⟩
 have hin:=Decidable.not_not.1 c24;refine zn5 ?_;refine wl (zW U55 rfl rfl (hb3.sub (n:=6) (xs:=[_,_,_,_,_,_]) rfl) QK) ?_;refine zV fn59 (MW SA BA cs mB x.mean _ (hS.mono hB) (hT.mono hB)) rfl (fun e' w7 hr=>?_);obtain⟨rfl,hs⟩:=hr;replace hs:=sB hs;replace hB:=hB.tr0 hs;refine⟨_,rfl,?_⟩;refine wl (E3 (v:= .int _ _) U37 rfl U3 rfl rfl rfl) (zn5 ?_);exact⟨oW (lx_ok hwd c17 hin),hB⟩
theorem ruler_any (A B G SA BA:Option Addr) (c d cg cs mB:Nat) (l:List Ty) (fs:List Ft) (r:Rl) (w:World) (hTy:TypesIn w A l) (hv:VT l) (h60:l.length≤60) (hF:FeatsIn w B fs) (hfo:FOk l.length fs) (hG:NodesIn w G r.gr) (hS:SimsIn w SA r.mean.type.args) (hT:TmsIn w BA r.mean.args):Calls Tryz.prog 32 #[.agg #[.slice A l.length c,.slice B fs.length d],.agg #[.string (r).name,.slice G (r).gr.length cg,.int .i64 (r).kids,.int .i64 (r).wt,.int .i64 ((r).mean).kind,.string ((r).mean).name,.int .i64 ((r).mean).index,.string ((r).mean).type.base,.slice SA ((r).mean).type.args.length cs,.slice BA ((r).mean).args.length mB]] w fun e w'=>e= .returned (.int .i64 (QQ l fs r))∧Bel w w':=by
 refine enter Tryz.func32 Tryz.ntmps32 rfl (Nat.le_of_ble_eq_true rfl) ?_;have hB:Bel w w:=Below.refl _ _;refine zn2 ?_;refine qW (v:= .agg #[_,_]) (cs:=#[_,_]) rfl rfl (fun b2 w1 hb2 hs hr=>?_);replace hB:=hB.tr0 hs;refine qW (v:= .agg #[_,_,_,_,_,_,_,_,_,_]) (cs:=#[_,_,_,_,_,_,_,_,_,_]) rfl rfl (fun b3 w2 hb3 hs hr=>?_);replace hB:=hB.tr0 hs;replace hb2:=hb2.tr0 hs;refine zn5 ?_;refine x7 [7,8,9,10,11,12,13,14,15,16,17,18,19,20,21,22,23,24] 24 (.bool (decide (r.kids < 1∨3 < r.kids∨r.wt < 0∨1000000 < r.wt))) nu ?_ (fun gq=>?_)
 ·refine zn5 ?_;refine zj 10 rfl (fun g10=>?_) (fun g10=>?_)
  ·refine oY ?_;refine zZ (e_R ⟨rfl,agA,?_⟩);exact clA
  refine zn8 ?_;refine zj 15 rfl (fun g15=>?_) (fun g15=>?_)
  ·refine zn9 ?_;refine zZ (e_R ⟨rfl,agA,?_⟩);exact clA
  refine zn8 ?_;refine zj 20 rfl (fun g20=>?_) (fun g20=>?_)
  ·refine zn4 ?_;refine zZ (e_R ⟨rfl,agA,?_⟩);exact clA
  refine zn7 ?_;refine zZ (e_R ⟨rfl,agA,?_⟩);exact clA
 refine e_S ?_;refine zw rfl (fun c24=>?_) (fun c24=>?_)
 ·refine zn8 ?_;exact⟨oW (RK c24),hB⟩
 refine zn7 ?_;refine wl (zW U30 rfl rfl (hb3.sub (n:=1) (xs:=[_]) rfl) EW) ?_;refine zV fn14 (DJ A B G c d cg l fs r.gr _ (hTy.mono hB) hv h60 (hF.mono hB) (hG.mono hB) hfo) rfl (fun e' w3 hr=>?_);obtain⟨rfl,hs⟩:=hr;replace hs:=sB hs;replace hB:=hB.tr0 hs;replace hb2:=hb2.tr0 hs;replace hb3:=hb3.tr0 hs;refine⟨_,rfl,?_⟩;refine xV (cs:=#[.int .i64 0,.int .i64 0]) zY rfl (fun _=>rfl) (fun _=>rfl) zq rfl zK (fun b5 w5 hb5 hs hr=>?_);replace hB:=hB.tr0 hs;replace hb3:=hb3.tr0 hs;refine zn9 ?_;refine zw rfl (fun c31=>?_) (fun c31=>?_)
 ·refine yq ?_;exact⟨oW (rl_gr c24 c31),hB⟩
 have hin:=Decidable.not_not.1 c31;have hk0:=DY (M3 hin);have h0:=hk0.pos;refine zn9 ?_;refine q8 [4,6,34,35,36,37,38,39,40,41,42,43,44,45,46,47] (fun m g w'=>∃ j:Nat,j≤4∧m=4 - j∧g 34= .int .i64 j∧Bel w w'∧Blk w' b3 60 #[.string (r).name,.slice G (r).gr.length cg,.int .i64 (r).kids,.int .i64 (r).wt,.int .i64 ((r).mean).kind,.string ((r).mean).name,.int .i64 ((r).mean).index,.string ((r).mean).type.base,.slice SA ((r).mean).type.args.length cs,.slice BA ((r).mean).args.length mB]∧∀ f,f < j→plN r.gr r.kids f=true) (4) ?_ (fun m g7 w6 hI=>?_)
 ·exact⟨0,by omega,rfl,rfl,hB,hb3,fun f hf=>by omega⟩
 obtain⟨j,hj,hm,h34,hB,hb3,hall⟩:=hI;refine zJ 34 (.int .i64 j) h34 nu (zn6 ?_);refine zw rfl (fun c35=>?_) (fun c35=>?_)
 ·refine vx ?_;refine yk 10 [37,38,39,40,41,42,43,44,45,46] (fun _=>false) (fun ix v wv=>match ix with | 0=>v= .pointer (some ⟨b3,1,none⟩) | 1=>v= .agg #[.slice G (r.gr).length cg] | 2=>v= .int .i64 j | 3=>v= .int .i64 (tgt (r.gr[0]'h0).ln ((j:Nat):Int)) | 4=>v= .bool (decide ((0:Int)≤(tgt (r.gr[0]'h0).ln ((j:Nat):Int)))) | 5=>v= .int .i64 j | 6=>v= .pointer (some ⟨b3,2,none⟩) | 7=>v= .int .i64 r.kids | 8=>v= .bool (decide (((j:Nat):Int)≤r.kids)) | 9=>v= .bool (!(decide ((0:Int)≤(tgt (r.gr[0]'h0).ln ((j:Nat):Int))) == decide (((j:Nat):Int)≤r.kids))) | _=>True) kR kR ?_ ?_ ?_
  ·intro ix v wv wv2 h hs
   match ix,h with
   | 0,h=>exact h
   | 1,h=>exact h
   | 2,h=>exact h
   | 3,h=>exact h
   | 4,h=>exact h
   | 5,h=>exact h
   | 6,h=>exact h
   | 7,h=>exact h
   | 8,h=>exact h
   | 9,h=>exact h
   | _ + 10,h=>exact trivial
  ·intro ix o hix hoq gg wx hs hd hdis
   match ix,hix,hoq with
   | 0,_,hoq=>
    cases sI hoq;exact oV (vX U60 EW dE rfl rfl rfl) rfl
   | 1,_,hoq=>
    cases sI hoq;replace hb3:=hb3.tr0 hs;refine z4 37 (.pointer (some ⟨b3,1,none⟩)) (hd 0 (zz kR)) nu ?_;exact oV (zW U30 rfl rfl (hb3.sub (n:=1) (xs:=[_]) rfl) EW) rfl
   | 2,_,hoq=>
    cases sI hoq;exact oV (x9 (v:= .int _ _) rfl) rfl
   | 3,_,hoq=>
    cases sI hoq;replace hB:=hB.tr0 hs;refine z4 38 (.agg #[.slice G (r.gr).length cg]) (hd 1 (zz kR)) nu (z4 39 (.int .i64 j) (hd 2 (zz kR)) nu ?_);refine qx fn50_GRf (BV G cg r.gr 0 ((j:Nat):Int) wx (hG.mono hB) h0) rfl (fun e' w2 hr=>?_);obtain⟨rfl,hs⟩:=hr;exact⟨_,rfl,sB hs,rfl,zX⟩
   | 4,_,hoq=>
    cases sI hoq;refine z4 40 (.int .i64 (tgt (r.gr[0]'h0).ln ((j:Nat):Int))) (hd 3 (zz kR)) nu ?_;exact oV (r_geq rfl rfl) rfl
   | 5,_,hoq=>
    cases sI hoq;exact oV (x9 (v:= .int _ _) rfl) rfl
   | 6,_,hoq=>
    cases sI hoq;exact oV (vX U60 qw dE rfl rfl rfl) rfl
   | 7,_,hoq=>
    cases sI hoq;replace hb3:=hb3.tr0 hs;refine z4 43 (.pointer (some ⟨b3,2,none⟩)) (hd 6 (zz kR)) nu ?_;exact oV (qk (v:= .int _ _) U3 rfl rfl (hb3.cell rfl)) rfl
   | 8,_,hoq=>
    cases sI hoq;refine z4 42 (.int .i64 j) (hd 5 (zz kR)) nu (z4 44 (.int .i64 r.kids) (hd 7 (zz kR)) nu ?_);exact oV (r_leq rfl rfl) rfl
   | 9,_,hoq=>
    cases sI hoq;refine z4 41 (.bool (decide ((0:Int)≤(tgt (r.gr[0]'h0).ln ((j:Nat):Int))))) (hd 4 (zz kR)) nu (z4 45 (.bool (decide (((j:Nat):Int)≤r.kids))) (hd 8 (zz kR)) nu ?_);exact oV (O8 U4 rfl rfl) rfl
   | _ + 10,hix,_=>exact absurd hix om
  intro gg w7 hs hR hdis;replace hB:=hB.tr0 hs;replace hb3:=hb3.tr0 hs;refine qK 46 (.bool (!(decide ((0:Int)≤(tgt (r.gr[0]'h0).ln ((j:Nat):Int))) == decide (((j:Nat):Int)≤r.kids)))) (hR 9 dE) nu (zZ (e_S ?_));refine j7 rfl (fun c46=>?_) (fun c46=>?_)
  ·have hpl:plN r.gr r.kids j=false:=by
     have h:=c46;rw [Bool.not_eq_true'] at h;rw [OW h0];exact h
   refine yj ?_;exact⟨oW (rl_pl c24 hin (pl_no om hpl)),hB⟩
  have hpl:plN r.gr r.kids j=true:=by
    have h:=c46;rw [Bool.not_eq_false'] at h;rw [OW h0];exact h
  refine zn7 ?_;refine xv (4 - (j + 1)) om agA ?_
  exact⟨j + 1,by omega,rfl,rfl,hB,hb3,fun f hf=>by
    by_cases e:f=j
    · rw [e];exact hpl
    · exact hall f om⟩
 refine zn8 ?_;refine wl (zW U55 rfl rfl (hb3.sub (n:=6) (xs:=[_,_,_,_,_,_]) rfl) QK) ?_;refine zV fn59 (MW SA BA cs mB r.mean _ (hS.mono hB) (hT.mono hB)) rfl (fun e' w8 hr=>?_);obtain⟨rfl,hs⟩:=hr;replace hs:=sB hs;replace hB:=hB.tr0 hs;refine⟨_,rfl,?_⟩;refine wl (E3 (v:= .int _ _) U37 rfl U3 rfl rfl rfl) (zn5 ?_);exact⟨oW (rl_ok c24 hin (pl_yes (fun f hf=>hall f om))),hB⟩
end Go.Proofs.YtdkfnakncaggoaaGreatDoor
