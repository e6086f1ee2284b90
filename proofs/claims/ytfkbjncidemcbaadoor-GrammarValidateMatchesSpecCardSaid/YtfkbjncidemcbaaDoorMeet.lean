/- What these functions of the program compute, at every world: glosswright/glosswrightref3.Name, glosswright/glosswrightref3.TypesFault. What these functions of the program compute, at every world: glosswright/glosswrightref3.Sub. Sets of small numbers as bits. What these functions of the program compute, at every world: math/bits.TrailingZeros64, (glosswright/hierarchy.Table).Meet, (glosswright/hierarchy.Table).Sub. -/
import Derived.Test.YtfkbjncidemcbaaDoorU
import Derived.Test.YtfkbjncidemcbaaDoorTypes
import Derived.Lib.TrailingZeros
namespace Go.Proofs.YtfkbjncidemcbaaDoor
open Go.RowKit
theorem seen_yes {l:List Ty} {j k:Nat} {s:ByteArray} (hk:k < l.length) (hj:j < k) (h:(l[j]'om).name=s):u3 ((l.take k).map (·.name)) s=true:=by
  simp only [u3,List.any_eq_true,decide_eq_true_eq,List.mem_map];refine⟨_,⟨l[j]'om,?_,rfl⟩,h⟩;rw [List.mem_take_iff_getElem];exact⟨j,by omega,rfl⟩
theorem fn43:qZ Tryd.prog 43=true:=by kernel_rfl
theorem sz5:(Tryd.prog.info? 5).map (·.size)=some 1:=by kernel_rfl
theorem Mx (s:ByteArray) (w:World):Calls Tryd.prog 43 #[.string s] w fun e w'=>e= .returned (.bool (vZ s))∧Bel w w':=by
 obtain⟨c0,e0⟩:=W8 s;have hN:=Lib.hid (My s c0 e0);refine enter Tryd.func43 Tryd.ntmps43 rfl (Nat.le_of_ble_eq_true rfl) ?_;have hB:Bel w w:=Below.refl _ _;refine zz (z4 (waB rfl (zx (e_S (zz (zz ?_))))));refine yx [7,8,9,10,11,12,13,14] 14 (.bool (decide (s.size < 1∨30 < s.size))) nu ?_ (fun gq=>?_)
 ·refine z4 (wl (qw (v:= .string _) rfl) (wl (jY U9 rfl) (wl (xv rfl rfl) (wmB rfl ?_))));refine zJ 10 rfl (fun g10=>?_) (fun g10=>?_)
  ·refine zw 10 rfl rfl rfl (zw 10 rfl rfl rfl (zw 10 rfl rfl rfl (wl (qX (v:= .bool _) rfl rfl) ?_)));refine zx (e_R ⟨rfl,agA,?_⟩);exact clA
  refine zk 10 rfl rfl (wl (qw (v:= .string _) rfl) (zk 10 rfl rfl (wl (jY U9 rfl) (zk 10 rfl rfl (wl (vW rfl rfl) (wl (xq (v:= .bool _) rfl rfl) ?_))))));refine zx (e_R ⟨rfl,agA,?_⟩);exact clA
 refine e_S ?_;refine qv rfl (fun c14=>?_) (fun c14=>?_)
 ·refine zz (z4 (waB rfl (zx (e_S (qq (qV (x7 (.inl rfl) rfl rfl ?_)))))));exact⟨uv (by rw [hN.out];exact decide_eq_false (fun h=>by omega)),hB⟩
 refine zK (e_S (zz (zz (z4 (wl (qw (v:= .string _) rfl) ?_)))));refine wl_cvB U9 Tryd.underlying131 U5 rfl (fun b16 c16 w1 hc16 hs hr=>?_);replace hB:=hB.tr0 hs;refine wl (xk Tryd.underlying131 rfl) (wmI rfl (zx (e_S (qz ?_))));refine xj [2,3,4,5,6,18,19,20,21,22,23,24,25,26,27,28,29,30,31,32,33,34,35,36,37,38,39,40,41,42,43,44,45,46,47,48,49,50,51,52,53] (fun m g w'=>∃ k:Nat,k≤s.size∧m=s.size - k∧g 18= .int .i64 k∧w1=w'∧(0 < k→97≤c0∧c0≤122)∧(∀ j (hj:j < s.size),j < k→Z4 (s[j]'hj)=true)) (s.size) ?_ (fun m g4 w2 hI=>?_)
 ·exact⟨0,Nat.zero_le _,rfl,rfl,rfl,fun h=>by omega,fun j hj h=>by omega⟩
 obtain⟨k,hk,hm,h18,rfl,hz,hall⟩:=hI;refine qx 18 (.int .i64 k) h18 nu (zz (z4 (wl (xv rfl rfl) (zx (e_S (zz ?_))))));refine qv rfl (fun c19=>?_) (fun c19=>?_)
 ·refine zK (e_S (zz (qz (zz (z4 (wmI rfl (wl (xQ (i:=k) Tryd.underlying131 sz5 rfl rfl om rfl) (wl (zQ (v:= .int _ _) U5 rfl rfl (hc16 k om)) (waI rfl (waI rfl (zx (e_S (zz ?_)))))))))))));refine yx [5,23,24,25,26,27,28] 5 (.bool (decide (97≤(s[k]'om).toNat∧(s[k]'om).toNat≤122))) nu ?_ (fun gq=>?_)
  ·refine z4 (wmI rfl (wl (jJ rfl rfl) (wmB rfl ?_)));refine zJ 25 rfl (fun g25=>?_) (fun g25=>?_)
   ·refine zk 25 rfl rfl (wmI rfl (zk 25 rfl rfl (wl (uy rfl rfl) (wl (qX (v:= .bool _) rfl rfl) (waB rfl ?_)))));refine zx (e_R ⟨rfl,agA,?_⟩);exact clA
   refine zw 25 rfl rfl rfl (zw 25 rfl rfl rfl (wl (xq (v:= .bool _) rfl rfl) (waB rfl ?_)));refine zx (e_R ⟨rfl,agA,?_⟩);exact clA
  refine e_S (zz ?_);refine yx [6,29,30,31,32,33,34,35,36,37,38,39,40,41,42] 6 (.bool (decide ((48≤(s[k]'om).toNat∧(s[k]'om).toNat≤57)∨(s[k]'om).toNat=95∨(s[k]'om).toNat=45))) nu ?_ (fun gq=>?_)
  ·refine z4 (wmI rfl (wl (jJ rfl rfl) (wmB rfl ?_)));refine zJ 31 rfl (fun g31=>?_) (fun g31=>?_)
   ·refine zk 31 rfl rfl (wmI rfl (zk 31 rfl rfl (wl (uy rfl rfl) (wl (qX (v:= .bool _) rfl rfl) (wmB rfl ?_)))));refine zJ 35 rfl (fun g35=>?_) (fun g35=>?_)
    ·refine zw 35 rfl rfl rfl (zw 35 rfl rfl rfl (wl (qX (v:= .bool _) rfl rfl) (wmB rfl (zw 39 rfl rfl rfl (zw 39 rfl rfl rfl (wl (qX (v:= .bool _) rfl rfl) (waB rfl ?_)))))));refine zx (e_R ⟨rfl,agA,?_⟩);exact clA
    refine zk 35 rfl rfl (wmI rfl (zk 35 rfl rfl (wl (xJ rfl rfl) (wl (xq (v:= .bool _) rfl rfl) (wmB rfl ?_)))));refine zJ 39 rfl (fun g39=>?_) (fun g39=>?_)
    ·refine zw 39 rfl rfl rfl (zw 39 rfl rfl rfl (wl (qX (v:= .bool _) rfl rfl) (waB rfl ?_)));refine zx (e_R ⟨rfl,agA,?_⟩);exact clA
    refine zk 39 rfl rfl (wmI rfl (zk 39 rfl rfl (wl (xJ rfl rfl) (wl (xq (v:= .bool _) rfl rfl) (waB rfl ?_)))));refine zx (e_R ⟨rfl,agA,?_⟩);exact clA
   refine zw 31 rfl rfl rfl (zw 31 rfl rfl rfl (wl (xq (v:= .bool _) rfl rfl) (wmB rfl (zk 35 rfl rfl (wmI rfl (zk 35 rfl rfl (wl (xJ rfl rfl) (wl (xq (v:= .bool _) rfl rfl) (wmB rfl ?_)))))))));refine zJ 39 rfl (fun g39=>?_) (fun g39=>?_)
   ·refine zw 39 rfl rfl rfl (zw 39 rfl rfl rfl (wl (qX (v:= .bool _) rfl rfl) (waB rfl ?_)));refine zx (e_R ⟨rfl,agA,?_⟩);exact clA
   refine zk 39 rfl rfl (wmI rfl (zk 39 rfl rfl (wl (xJ rfl rfl) (wl (xq (v:= .bool _) rfl rfl) (waB rfl ?_)))));refine zx (e_R ⟨rfl,agA,?_⟩);exact clA
  refine e_S (zz ?_);refine yx [43,44,45,46,47,48,49,50,51,52] 52 (.bool (decide (¬(97≤(s[k]'om).toNat∧(s[k]'om).toNat≤122)∧(¬((48≤(s[k]'om).toNat∧(s[k]'om).toNat≤57)∨(s[k]'om).toNat=95∨(s[k]'om).toNat=45)∨k=0)))) nu ?_ (fun gq=>?_)
  ·refine z4 (wmB rfl (wl (Zq rfl) (wmB rfl ?_)));refine zJ 45 rfl (fun g45=>?_) (fun g45=>?_)
   ·refine zk 45 rfl rfl (wmB rfl (zk 45 rfl rfl (wl (Zq rfl) (zk 45 rfl rfl (wmB rfl ?_)))));refine zJ 48 rfl (fun g48=>?_) (fun g48=>?_)
    ·refine zw 48 rfl rfl rfl (zw 48 rfl rfl rfl (zk 45 rfl rfl (wl (qX (v:= .bool _) rfl rfl) (wl (qX (v:= .bool _) rfl rfl) ?_))));refine zx (e_R ⟨rfl,agA,?_⟩);exact clA
    refine zk 48 rfl rfl (wmI rfl (zk 48 rfl rfl (wl (xJ rfl rfl) (zk 45 rfl rfl (wl (xq (v:= .bool _) rfl rfl) (wl (qX (v:= .bool _) rfl rfl) ?_))))));refine zx (e_R ⟨rfl,agA,?_⟩);exact clA
   refine zw 45 rfl rfl rfl (zw 45 rfl rfl rfl (zw 45 rfl rfl rfl (jW 48 rfl rfl (jW 48 rfl rfl (zw 45 rfl rfl rfl (wl (xq (v:= .bool _) rfl rfl) ?_))))));refine zx (e_R ⟨rfl,agA,?_⟩);exact clA
  refine e_S ?_;refine qv rfl (fun c52=>?_) (fun c52=>?_)
  ·have hno:¬((97≤c0∧c0≤122)∧∀ j (hj:j < s.size),Z4 (s[j]'hj)=true):=fun h=>by
     have h1:=(Zj _).1 (h.2 k om);have h2:k=0:=by omega
     subst h2;have:=e0 om;omega
   refine zz (z4 (waB rfl (zx (e_S (qq (x8 (qV (yq (x8 (qV (x7 (.inl rfl) rfl rfl ?_)))))))))));exact⟨uv (by rw [hN.out];exact decide_eq_false (fun h=>hno h.2)),hB⟩
  have hz':97≤c0∧c0≤122:=by
    by_cases e:k=0
    · subst e;have:=e0 om;omega
    · exact hz om
  have hall':∀ j (hj:j < s.size),j < k + 1→Z4 (s[j]'hj)=true:=fun j hj h=>by
    by_cases e:j=k
    · subst e;exact(Zj _).2 om
    · exact hall j hj om
  refine zK (e_B (e_S (z4 (wl (y6 rfl rfl rfl om) (wmI rfl (zx (yV (s.size - (k + 1)) om agA ?_)))))));exact⟨k + 1,by omega,rfl,rfl,rfl,fun _=>hz',fun j hj h=>hall' j hj h⟩
 refine xw (vK (yv (vV (e_S (zz (z4 (waB rfl (zx (e_S (qq (x7 (.inl rfl) rfl rfl ?_)))))))))));exact⟨uv (by rw [hN.out];exact decide_eq_true ⟨by omega,hz om,fun j hj=>hall j hj om⟩),hB⟩
theorem NY (A:Option Addr) (c:Nat) (l:List Ty) (w:World) (hc:l.length≤c) (hT:TypesIn w A l):Calls Tryd.prog 71 #[.slice A l.length c] w fun e w'=>e= .returned (flV (yz l))∧Bel w w':=by
 refine enter Tryd.func71 Tryd.ntmps71 rfl (Nat.le_of_ble_eq_true rfl) ?_;have hB:Bel w w:=Below.refl _ _;refine zz (z4 ?_);refine y8 (cs:=#[.int .i64 0,.int .i64 0]) ze43 rfl (fun b2 w1 hb2 hs hr=>?_);have lo2:=nLT (Bel.size hB) hr;replace hB:=hB.tr0 hs;refine zx (e_S (zz (zz ?_)));refine yx [9,10,11,12,13,14,15,16] 16 (.bool (decide (l.length=0∨60 < l.length))) nu ?_ (fun gq=>?_)
 ·refine z4 (wmS rfl (wl (xk U22 rfl) (wl (xJ rfl rfl) (wmB rfl ?_))));refine zJ 12 rfl (fun g12=>?_) (fun g12=>?_)
  ·refine zw 12 rfl rfl rfl (zw 12 rfl rfl rfl (zw 12 rfl rfl rfl (wl (qX (v:= .bool _) rfl rfl) ?_)));refine zx (e_R ⟨rfl,agA,?_⟩);exact clA
  refine zk 12 rfl rfl (wmS rfl (zk 12 rfl rfl (wl (xk U22 rfl) (zk 12 rfl rfl (wl (vW rfl rfl) (wl (xq (v:= .bool _) rfl rfl) ?_))))));refine zx (e_R ⟨rfl,agA,?_⟩);exact clA
 refine e_S ?_;refine qv rfl (fun c16=>?_) (fun c16=>?_)
 ·refine zz (z4 (wl (jk (v0:= .int _ _) (v1:= .int _ _) (fun v0 v1=>#[v0,v1]) rfl rfl kR) ?_));refine qk hb2 rfl rfl gK rfl qY (fun w2 hq hs=>?_);replace hB:=hB.tr1 hs lo2;replace hb2:=hq;refine zx (e_S (qq (qV (x7 (.inl rfl) rfl (qy U43 rfl rfl hb2.range0 gK) ?_))));exact⟨xK (by simp only [yz,if_pos c16]),hB⟩
 have hR:=Lib.hid (show yz l=y9 (j6 l) 0 (l.length - 0) by simp only [yz,if_neg c16,Nat.sub_zero]);refine zK (e_S (zz (zz (z4 (wmS rfl (wl (xk U22 rfl) (wmI rfl (zx (e_S (qz ?_))))))))));refine xj [3,4,6,7,8,20,21,22,23,24,25,26,27,28,29,30,31,32,33,34,35,36,37,38,39,40,41,42,43,44,45,46,47,48,49,50,51,52,53,54,55,56,57,58,59,60,61,62,63,64,65,66,67,68,69,70,71,72,73,74,75,76,77,78,79,80,81,82,83,84,85,86,87,88] (fun m g w'=>∃ (k:Nat),k≤l.length∧m=l.length - k∧g 20= .int .i64 k∧Bel w w'∧Blk w' b2 43 #[.int .i64 0,.int .i64 0]∧yz l=y9 (j6 l) k (l.length - k)) (l.length) ?_ (fun m g4 w3 hI=>?_)
 ·exact⟨0,Nat.zero_le _,rfl,rfl,hB,hb2,hR.out⟩
 obtain⟨k,hk,hm,h20,hB,hb2,hR'⟩:=hI;refine qx 20 (.int .i64 k) h20 nu (zz (z4 (wl (xv rfl rfl) (zx (e_S (zz ?_))))));refine qv rfl (fun c21=>?_) (fun c21=>?_)
 ·have hlt:k < l.length:=by omega
  obtain⟨tb,to,A',cp,rfl,htb,htr,hpar⟩:=hT.at_ hB hlt;refine zK (e_S (zz (qz (zz (z4 (wmI rfl (wl (xQ (i:=k) U22 YX rfl rfl om rfl) (wl (zV Xx rfl rfl htr YX) ?_))))))));refine y8 (cs:=#[.string ⟨#[]⟩,.slice none 0 0]) ze122 rfl (fun b4 w4 hb4 hs hr=>?_);have:=nLL hb2.lt hr;have lo4:=nLT (Bel.size hB) hr;replace hB:=hB.tr0 hs;replace hb2:=hb2.tr0 hs;refine waI rfl ?_;refine qk hb4 rfl rfl YX rfl qY (fun w5 hq hs=>?_);replace hB:=hB.tr1 hs lo4;replace hb2:=hb2.tr1 hs om;replace hb4:=hq;refine zx (e_S (zz (zz (z4 (wl (q8 Xx sz9 dE rfl rfl rfl) (wl (zQ (v:= .string _) U9 rfl rfl (hb4.cell rfl)) ?_))))));refine qJ fn43 (Mx _ _) rfl (fun e' w6 hr=>?_);obtain⟨rfl,hs⟩:=hr;replace hs:=sB hs;replace hB:=hB.tr0 hs;replace hb2:=hb2.tr0 hs;replace hb4:=hb4.tr0 hs;refine⟨_,rfl,?_⟩;refine wl (j7 rfl) (zx (e_S ?_));refine kK rfl (fun c28=>?_) (fun c28=>?_)
  ·have hty:=ty10 l k hlt (by simpa using c28);refine zz (z4 (wmI rfl (wl (jk (v0:= .int _ _) (v1:= .int _ _) (fun v0 v1=>#[v0,v1]) rfl rfl kR) ?_)));refine qk hb2 rfl rfl gK rfl qY (fun w7 hq hs=>?_);replace hB:=hB.tr1 hs lo2;replace hb2:=hq;refine zx (e_S (qq (qV (x8 (qV (yq (x8 (qV (x7 (.inl rfl) rfl (qy U43 rfl rfl hb2.range0 gK) ?_)))))))));exact⟨xK (hR'.trans (xy (c:=10) om hty dE)),hB⟩
  have hnm:vZ (l[k]'hlt).name=true:=by simpa using c28
  refine zK (e_S (zz (zz (z4 (wmS rfl (wmI rfl (wl (P4 (h:=k) U22 YX rfl rfl om) (wl (xk U22 rfl) (wmI rfl (zx (e_S (qz ?_))))))))))));refine xj [6,35,36,37,38,39,40,41,42,43,44,45,46] (fun m g w'=>∃ (j:Nat),j≤k∧m=k - j∧g 35= .int .i64 j∧Bel w w'∧Blk w' b2 43 #[.int .i64 0,.int .i64 0]∧Blk w' b4 122 #[.string (l[k]'hlt).name,.slice A' (l[k]'hlt).par.length cp]∧u3 ((l.take j).map (·.name)) (l[k]'hlt).name=false) (k) ?_ (fun m g9 w8 hI=>?_)
  ·exact⟨0,Nat.zero_le _,rfl,rfl,hB,hb2,hb4,rfl⟩
  obtain⟨j,hj,hmj,h35,hB,hb2,hb4,hse⟩:=hI;refine qx 35 (.int .i64 j) h35 nu (zz (z4 (wl (xv rfl rfl) (zx (e_S (zz ?_))))));refine qv rfl (fun c36=>?_) (fun c36=>?_)
  ·have hjt:j < l.length:=by omega
   obtain⟨ub,uo,B',cq,he,hub,hur,_⟩:=hT.at_ hB hjt;cases he;refine zK (e_S (zz (qz (zz (z4 (wl (xQ (i:=j) U22 YX rfl rfl om rfl) (wl (zV Xx rfl rfl hur YX) ?_)))))));refine vx (cs:=#[.string ⟨#[]⟩,.slice none 0 0]) ze122 rfl (fun _=>rfl) (fun _=>rfl) YX rfl qY (fun b6 w10 hb6 hs hr=>?_);replace hB:=hB.tr0 hs;replace hb2:=hb2.tr0 hs;replace hb4:=hb4.tr0 hs;refine zx (e_S (zz (z4 (wl (q8 Xx sz9 dE rfl rfl rfl) (wl (zQ (v:= .string _) U9 rfl rfl (hb6.cell rfl)) (wl (q8 Xx sz9 dE rfl rfl rfl) (wl (zQ (v:= .string _) U9 rfl rfl (hb4.cell rfl)) (wl (Zx rfl rfl) (zx (e_S ?_))))))))));refine qv rfl (fun c43=>?_) (fun c43=>?_)
   ·have hty:=ty7 l k hlt hnm (seen_yes hlt om c43);refine zz (z4 (wmI rfl (wl (jk (v0:= .int _ _) (v1:= .int _ _) (fun v0 v1=>#[v0,v1]) rfl rfl kR) ?_)));refine qk hb2 rfl rfl gK rfl qY (fun w11 hq hs=>?_);replace hB:=hB.tr1 hs lo2;replace hb2:=hq;refine zx (e_S (qq (x8 (qV (yq (x8 (qV (x8 (qV (yq (x8 (qV (x7 (.inl rfl) rfl (qy U43 rfl rfl hb2.range0 gK) ?_)))))))))))));exact⟨xK (hR'.trans (xy (c:=7) om hty dE)),hB⟩
   have hse':u3 ((l.take (j + 1)).map (·.name)) (l[k]'hlt).name=false:=by rw [gZ l hjt,List.map_append,List.map_cons,List.map_nil,Qq,hse];simp [c43]
   refine zK (e_B (e_S (z4 (wl (y6 rfl rfl rfl om) (wmI rfl (zx (yV (k - (j + 1)) om agA ?_)))))));exact⟨j + 1,by omega,rfl,rfl,hB,hb2,hb4,hse'⟩
  have hsn:u3 ((l.take k).map (·.name)) (l[k]'hlt).name=false:=by
    have e:k=j:=by omega
    subst e;exact hse
  refine xw (vK (yv (vV (e_S (zz (zz (z4 (wmI rfl (wl (xJ rfl rfl) (wl (q8 Xx G0 dE rfl rfl rfl) (wl (zQ (v:= .slice _ _ _) U73 rfl rfl (hb4.cell rfl)) (wl (xk U73 rfl) (wl (xJ rfl rfl) (wl (D5 U4 rfl rfl) (zx (e_S ?_))))))))))))))));refine kK rfl (fun c53=>?_) (fun c53=>?_)
  ·have hty:=ty5 l k hlt hnm hsn (HK c53);refine zz (z4 (wmI rfl (wl (jk (v0:= .int _ _) (v1:= .int _ _) (fun v0 v1=>#[v0,v1]) rfl rfl kR) ?_)));refine qk hb2 rfl rfl gK rfl qY (fun w12 hq hs=>?_);replace hB:=hB.tr1 hs lo2;replace hb2:=hq;refine zx (e_S (qq (qV (x8 (qV (yq (x8 (qV (x7 (.inl rfl) rfl (qy U43 rfl rfl hb2.range0 gK) ?_)))))))));exact⟨xK (hR'.trans (xy (c:=5) om hty dE)),hB⟩
  have hmal:=mal_no c53;refine zK (e_S (zz (z4 (wl (q8 Xx G0 dE rfl rfl rfl) (wl (zQ (v:= .slice _ _ _) U73 rfl rfl (hb4.cell rfl)) (wl (xk U73 rfl) (wmI rfl (zx (e_S (qz ?_))))))))));refine xj [7,8,59,60,61,62,63,64,65,66,67,68,69,70,71,72,73,74,75,76,77,78,79,80,81,82,83,84,85,86,87] (fun m g w'=>∃ (j:Nat) (last:Int),j≤(l[k]'hlt).par.length∧m=(l[k]'hlt).par.length - j∧g 59= .int .i64 j∧w8=w'∧(j=0→last= -1)∧(∀ h:0 < j∧j - 1 < (l[k]'hlt).par.length,last=((l[k]'hlt).par[j - 1]'h.2))∧j6 l k=kz k last ((l[k]'hlt).par.drop j)) ((l[k]'hlt).par.length) ?_ (fun m g17 w13 hI=>?_)
  ·exact⟨0,-1,Nat.zero_le _,rfl,rfl,rfl,fun _=>rfl,fun h=>by omega,PZ l k hlt hnm hsn hmal⟩
  obtain⟨j,last,hj,hmj,h59,rfl,hl0,hl1,hP⟩:=hI;refine qx 59 (.int .i64 j) h59 nu (zz (z4 (wl (xv rfl rfl) (zx (e_S (zz ?_))))));refine qv rfl (fun c60=>?_) (fun c60=>?_)
  ·have hlj:j < (l[k]'hlt).par.length:=by omega
   have hmx:=hpar.1;unfold kY at hmx;have hpar':=hpar;obtain⟨pb,po,rfl,hpb,hpc⟩:=hpar.at_ hlj;replace hpc:=hB.cell hpb hpc;have hpd:∀ h:j - 1 < (l[k]'hlt).par.length,w8.cell? ⟨pb,po + (j - 1) * 1,none⟩=some (.int .i64 ((l[k]'hlt).par[j - 1]'h)):=fun h=>by
     obtain⟨pb2,po2,he,hpb2,hpc2⟩:=hpar'.at_ h;cases he;exact hB.cell hpb2 hpc2
   refine zK (e_S (zz (qz (zz (z4 (wmI rfl (wl (xQ (i:=j) U73 sz3 rfl rfl om rfl) (wl (zQ (v:= .int _ _) U3 rfl rfl hpc) (waI rfl (waI rfl (zx (e_S (zz (zz ?_))))))))))))));refine yx [64,65,66,67,68,69,70] 70 (.bool (decide ((l[k]'hlt).par[j] < 0∨(k:Int)≤(l[k]'hlt).par[j]))) nu ?_ (fun gq=>?_)
   ·refine z4 (wmI rfl (wl (xv rfl rfl) (wmB rfl ?_)));refine zJ 66 rfl (fun g66=>?_) (fun g66=>?_)
    ·refine zw 66 rfl rfl rfl (zw 66 rfl rfl rfl (zw 66 rfl rfl rfl (wl (qX (v:= .bool _) rfl rfl) ?_)));refine zx (e_R ⟨rfl,agA,?_⟩);exact clA
    refine zk 66 rfl rfl (wmI rfl (zk 66 rfl rfl (wmI rfl (zk 66 rfl rfl (wl (jJ rfl rfl) (wl (xq (v:= .bool _) rfl rfl) ?_))))));refine zx (e_R ⟨rfl,agA,?_⟩);exact clA
   refine e_S ?_;refine qv rfl (fun c70=>?_) (fun c70=>?_)
   ·have hty:j6 l k=3:=by rw [hP,List.drop_eq_getElem_cons hlj];simp only [kz,if_pos c70]
    refine zz (z4 (wmI rfl (wl (jk (v0:= .int _ _) (v1:= .int _ _) (fun v0 v1=>#[v0,v1]) rfl rfl kR) ?_)));refine qk hb2 rfl rfl gK rfl qY (fun w14 hq hs=>?_);replace hB:=hB.tr1 hs lo2;replace hb2:=hq;refine zx (e_S (qq (qV (x8 (qV (yq (x8 (x8 (qV (yq (x8 (qV (x7 (.inl rfl) rfl (qy U43 rfl rfl hb2.range0 gK) ?_)))))))))))));exact⟨xK (hR'.trans (xy (c:=3) om hty dE)),hB⟩
   refine zK (e_S (zz ?_));refine yx [73,74,75,76,77,78,79,80,81,82,83,84] 84 (.bool (decide (0 < j∧(l[k]'hlt).par[j]≤((l[k]'hlt).par[j - 1]'om)))) nu ?_ (fun gq=>?_)
   ·refine z4 (wmI rfl (wl (vW rfl rfl) (wmB rfl ?_)));refine zJ 75 rfl (fun g75=>?_) (fun g75=>?_)
    ·refine zk 75 rfl rfl (wmI rfl (zk 75 rfl rfl (wl (q8 Xx G0 dE rfl rfl rfl) (zk 75 rfl rfl (wl (zQ (v:= .slice _ _ _) U73 rfl rfl (hb4.cell rfl)) (zk 75 rfl rfl (wmI rfl (zk 75 rfl rfl (wl (uw (c:=((j - 1:Nat):Int)) rfl rfl om om) (zk 75 rfl rfl (wl (xQ (i:=j - 1) U73 sz3 rfl rfl om rfl) (zk 75 rfl rfl (wl (zQ (v:= .int _ _) U3 rfl rfl (hpd om)) (zk 75 rfl rfl (wl (uy rfl rfl) (wl (qX (v:= .bool _) rfl rfl) ?_))))))))))))))));refine zx (e_R ⟨rfl,agA,?_⟩);exact clA
    refine zw 75 rfl rfl rfl (zw 75 rfl rfl rfl (zw 75 rfl rfl rfl (zw 75 rfl rfl rfl (zw 75 rfl rfl rfl (zw 75 rfl rfl rfl (zw 75 rfl rfl rfl (zw 75 rfl rfl rfl (wl (xq (v:= .bool _) rfl rfl) ?_))))))));refine zx (e_R ⟨rfl,agA,?_⟩);exact clA
   refine e_S ?_;refine qv rfl (fun c84=>?_) (fun c84=>?_)
   ·have hty:j6 l k=13:=by rw [hP,List.drop_eq_getElem_cons hlj,hl1 ⟨c84.1,by omega⟩];simp only [kz,if_neg c70,if_pos c84.2]
    refine zz (z4 (wmI rfl (wl (jk (v0:= .int _ _) (v1:= .int _ _) (fun v0 v1=>#[v0,v1]) rfl rfl kR) ?_)));refine qk hb2 rfl rfl gK rfl qY (fun w15 hq hs=>?_);replace hB:=hB.tr1 hs lo2;replace hb2:=hq;refine zx (e_S (qq (x8 (qV (yq (x8 (x8 (qV (yq (x8 (qV (x7 (.inl rfl) rfl (qy U43 rfl rfl hb2.range0 gK) ?_))))))))))));exact⟨xK (hR'.trans (xy (c:=13) om hty dE)),hB⟩
   have hP':j6 l k=kz k (l[k]'hlt).par[j] ((l[k]'hlt).par.drop (j + 1)):=by
     have hnl:¬(l[k]'hlt).par[j]≤last:=fun h=>by
       by_cases e:j=0
       · have:=hl0 e;omega
       · have:=hl1 ⟨by omega,by omega⟩;exact c84 ⟨by omega,by omega⟩
     rw [hP,List.drop_eq_getElem_cons hlj];simp only [kz,if_neg c70,if_neg hnl]
   refine zK (e_B (e_S (z4 (wl (y6 rfl rfl rfl om) (wmI rfl (zx (yV ((l[k]'hlt).par.length - (j + 1)) om agA ?_)))))));exact⟨j + 1,(l[k]'hlt).par[j],by omega,rfl,rfl,rfl,fun h=>by omega,fun h=>rfl,hP'⟩
  have hty:=Lib.hid (show j6 l k=0 by rw [hP,List.drop_eq_nil_of_le om];rfl);refine xw (vK (yv (vV (e_B (e_S (z4 (wl (y6 rfl rfl rfl om) (wmI rfl (zx (yV (l.length - (k + 1)) om agA ?_))))))))));exact⟨k + 1,by omega,rfl,rfl,hB,hb2,hR'.trans (vY hlt hty.out)⟩
 refine xw (vK (yv (vV (e_S (zz (z4 (wl (ZY (vs:=#[]) (cs:=#[.int .i64 0,.int .i64 0]) (by simp) kR) ?_)))))));refine qk hb2 rfl rfl gK rfl qY (fun w16 hq hs=>?_);replace hB:=hB.tr1 hs lo2;replace hb2:=hq;refine zx (e_S (qq (x7 (.inl rfl) rfl (qy U43 rfl rfl hb2.range0 gK) ?_)));exact⟨xK (hR'.trans (jw om)),hB⟩
end Go.Proofs.YtfkbjncidemcbaaDoor
namespace Go.Proofs.YtfkbjncidemcbaaDoor
open Go.RowKit
def N8 (l:List Ty) (i:Nat):List Nat:=match l[i]? with
  | none=>[]
  | some t=>t.par.map Int.toNat
def T6 (l:List Ty):Nat→Nat→Nat→Bool
  | 0,a,b=>decide (a=b)
  | f + 1,a,b=>decide (a=b) || (N8 l a).any (fun p=>T6 l f p b)
def sub (l:List Ty) (a b:Nat):Bool:=T6 l a a b
def VT (l:List Ty):Prop:=∀ i (h:i < l.length),∀ p ∈ (l[i]).par,0≤p∧p < (i:Int)
theorem VT.par {l:List Ty} (h:VT l) {a p:Nat} (hp:p ∈ N8 l a):p < a:=by
  unfold N8 at hp;by_cases ha:a < l.length
  · rw [List.getElem?_eq_getElem ha] at hp
    simp only [List.mem_map] at hp;obtain⟨q,hq,rfl⟩:=hp;have:=h a ha q hq;omega
  · rw [List.getElem?_eq_none om] at hp;cases hp
theorem Oz {α:Type} {l:List α} {p q:α→Bool} (h:∀ x ∈ l,p x=q x):l.any p=l.any q:=by
  induction l with
  | nil=>rfl
  | cons a r ih=>
    simp only [List.any_cons];rw [h a (by simp),ih (fun x hx=>h x (by simp [hx]))]
theorem G3 {l:List Ty} (hv:VT l) (b:Nat):∀ (n a:Nat),a≤n→∀ f,a≤f→T6 l f a b=T6 l a a b:=by
  intro n
  induction n with
  | zero=>
    intro a ha f hf;have:a=0:=by omega
    subst this;have hp:N8 l 0= []:=by
      cases h:N8 l 0 with
      | nil=>rfl
      | cons p r=>exact absurd (hv.par (a:=0) (p:=p) (by rw [h];simp)) om
    cases f <;> simp [T6,hp]
  | succ n ih=>
    intro a ha f hf;cases a with
    | zero=>exact ih 0 om f om
    | succ a=>
      cases f with
      | zero=>omega
      | succ f=>
        simp only [T6]
        congr 1
        apply Oz
        intro p hp;have:=hv.par hp;rw [ih p om f om,ih p om a om]
theorem Fj {l:List Ty} (hv:VT l) (a b:Nat):sub l a b=(decide (a=b) || (N8 l a).any (fun p=>sub l p b)):=by
  unfold sub;cases a with
  | zero=>
    have hp:N8 l 0= []:=by
      cases h:N8 l 0 with
      | nil=>rfl
      | cons p r=>exact absurd (hv.par (a:=0) (p:=p) (by rw [h];simp)) om
    simp [T6,hp]
  | succ a=>
    conv=>lhs;unfold T6
    congr 1
    apply Oz
    intro p hp;have:=hv.par hp;rw [G3 hv b (a + 1) p om a om]
theorem K4 {l:List Ty} (hv:VT l) (a:Nat):sub l a a=true:=by rw [Fj hv];simp
theorem Y6 {l:List Ty} (hv:VT l) (a b:Nat):sub l a b=true ↔ a=b∨∃ p ∈ N8 l a,sub l p b=true:=by
  rw [Fj hv];simp
theorem sub_le {l:List Ty} (hv:VT l):∀ (n a b:Nat),a≤n→sub l a b=true→b≤a:=by
  intro n
  induction n with
  | zero=>
    intro a b ha h;rcases(Y6 hv a b).1 h with rfl | ⟨p,hp,_⟩
    · omega
    · have:=hv.par hp;omega
  | succ n ih=>
    intro a b ha h;rcases(Y6 hv a b).1 h with rfl | ⟨p,hp,hs⟩
    · omega
    · have:=hv.par hp
      have:=ih p b om hs;omega
theorem K5 {l:List Ty} (hv:VT l) {a b:Nat} (h:sub l a b=true):b≤a:=sub_le hv a a b (Nat.le_refl _) h
theorem G2 {l:List Ty} (hv:VT l) (c:Nat):∀ (n a b:Nat),a≤n→sub l a b=true→sub l b c=true→sub l a c=true:=by
  intro n
  induction n with
  | zero=>
    intro a b ha h h2;rcases(Y6 hv a b).1 h with rfl | ⟨p,hp,_⟩
    · exact h2
    · have:=hv.par hp;omega
  | succ n ih=>
    intro a b ha h h2;rcases(Y6 hv a b).1 h with rfl | ⟨p,hp,hs⟩
    · exact h2
    · have:=hv.par hp
      exact(Y6 hv a c).2 (.inr ⟨p,hp,ih p b om hs h2⟩)
theorem Ew {l:List Ty} (hv:VT l) {a b c:Nat} (h:sub l a b=true) (h2:sub l b c=true):sub l a c=true:=G2 hv c a a b (Nat.le_refl _) h h2
theorem sub_par {l:List Ty} (hv:VT l) {i:Nat} (hi:i < l.length) {p:Int} (hp:p ∈ (l[i]).par):sub l i p.toNat=true:=by
  refine(Y6 hv i _).2 (.inr ⟨p.toNat,?_,K4 hv _⟩);simp only [N8,List.getElem?_eq_getElem hi,List.mem_map];exact⟨p,hp,rfl⟩
def Mj (ps:List Int) (x:Nat):Bool:=ps.any (fun p=>decide (p=(x:Int)))
theorem TX (ps:List Int) (x:Nat):Mj ps x=true ↔ (x:Int) ∈ ps:=by simp [Mj]
theorem parB_snoc (ps:List Int) {j:Nat} (hj:j < ps.length) (x:Nat):Mj (ps.take (j + 1)) x=(Mj (ps.take j) x || decide (ps[j]=(x:Int))):=by
  simp only [Mj];rw [List.take_succ_eq_append_getElem hj,List.any_append];simp
structure Marks (l:List Ty) (a i:Nat) (mk:Nat→Bool):Prop where
  ok:∀ j,mk j=true→sub l a j=true
  all:∀ c,c≤i→sub l a c=true→∃ j,j≤i∧mk j=true∧sub l j c=true
theorem Marks.start {l:List Ty} (hv:VT l) (a:Nat):Marks l a a (fun j=>if j=a then true else false):=
  ⟨fun j h=>by
    by_cases e:j=a
    · subst e;exact K4 hv _
    · simp [e] at h,fun c _ h=>⟨a,Nat.le_refl _,by simp,h⟩⟩
theorem Marks.yes {l:List Ty} (hv:VT l) {a i:Nat} {mk:Nat→Bool} (h:Marks l a i mk) (hi:i < l.length) (hm:mk i=true):Marks l a (i - 1) (fun x=>mk x || Mj (l[i]).par x):=
  ⟨fun j hj=>by
    simp only [Bool.or_eq_true] at hj
    rcases hj with hj | hj
    · exact h.ok j hj
    · have:=sub_par hv hi ((TX _ _).1 hj)
      simp only [Int.toNat_natCast] at this
      exact Ew hv (h.ok i hm) this,fun c hc hs=>by
    by_cases hi0:i=0
    · subst hi0
      obtain⟨j,hj,h1,h2⟩:=h.all c om hs
      exact⟨j,by omega,by simp [h1],h2⟩
    obtain⟨j,hj,h1,h2⟩:=h.all c om hs
    by_cases e:j=i
    · subst e
      rcases(Y6 hv j c).1 h2 with rfl | ⟨p,hp,hps⟩
      · omega
      · have hlt:=hv.par hp
        refine⟨p,by omega,?_,hps⟩
        simp only [N8,List.getElem?_eq_getElem hi,List.mem_map] at hp
        obtain⟨q,hq,rfl⟩:=hp
        have:=hv j hi q hq
        have hq':((q.toNat:Nat):Int) ∈ (l[j]).par:=by rw [Int.toNat_of_nonneg this.1];exact hq
        simp only [Bool.or_eq_true]
        exact .inr ((TX _ _).2 hq')
    · exact⟨j,by omega,by simp [h1],h2⟩⟩
theorem Marks.no {l:List Ty} {a i:Nat} {mk:Nat→Bool} (h:Marks l a i mk) (hm:mk i=false):Marks l a (i - 1) mk:=
  ⟨h.ok,fun c hc hs=>by
    obtain⟨j,hj,h1,h2⟩:=h.all c om hs
    by_cases e:j=i
    · subst e;rw [hm] at h1;cases h1
    · exact⟨j,by omega,h1,h2⟩⟩
theorem Marks.end_ {l:List Ty} (hv:VT l) {a b i:Nat} {mk:Nat→Bool} (h:Marks l a i mk) (hi:i≤b) (hb:b≤a→b≤i):mk b=sub l a b:=by
  cases hs:sub l a b
  · cases hm:mk b
    · rfl
    · rw [h.ok b hm] at hs;cases hs
  · have hle:=K5 hv hs
    have hib:i=b:=Nat.le_antisymm hi (hb hle);subst hib;obtain⟨j,hj,h1,h2⟩:=h.all i (Nat.le_refl _) hs;have:=K5 hv h2;have:j=i:=by omega
    subst this;exact h1
theorem in4:(Tryd.prog.info? 4).map (fun i=>(i.zero,i.size,i.bytes))=some (some (.bool false),1,1):=by kernel_rfl
theorem sz4:(Tryd.prog.info? 4).map (·.size)=some 1:=by kernel_rfl
theorem PW (A:Option Addr) (c:Nat) (l:List Ty) (a b:Nat) (w:World) (hT:TypesIn w A l) (hv:VT l) (h60:l.length≤60) (ha:a < l.length) (hb:b < l.length):Calls Tryd.prog 50 #[.slice A l.length c,.int .i64 a,.int .i64 b] w fun e w'=>e= .returned (.bool (sub l a b))∧Bel w w':=by
 have hmx:=hT.1;unfold kY at hmx;refine enter Tryd.func50 Tryd.ntmps50 rfl (Nat.le_of_ble_eq_true rfl) ?_;have hB:Bel w w:=Below.refl _ _;refine zz (z4 (waB rfl (zx (e_S (zz (z4 (wmS rfl (wl (xk U22 rfl) ?_))))))));refine J4 (m:=l.length) Q9 in4 rfl rfl rfl om hmx (fun b13 w1 hb13 hs hr=>?_);have lo13:=nLT (Bel.size hB) hr;replace hB:=hB.tr0 hs;refine waS rfl (zx (e_S (zz (z4 (wmS rfl (wmI rfl (wl (xQ (i:=a) Q9 sz4 rfl rfl om rfl) ?_)))))));refine j8 (v:= .bool _) hb13 rfl rfl sz4 (by rw [row_size];omega) rfl gk (fun w2 hq hs=>?_);replace hB:=hB.tr1 hs lo13;replace hb13:=hq;refine zx (e_S (zz (zz ?_)));have hb13':Blk w2 b13 4 (row l.length (fun j=> .bool (if j=a then true else false))):=by
   rw [show (row l.length (fun j=>Value.bool (if j=a then true else false)))=row l.length (fun j=>if j=a then Value.bool true else Value.bool false) from jz (fun j _=>by split <;> rfl)];exact hb13
 refine z4 (wmI rfl (waI rfl (zx (e_S (qz ?_)))));refine xj [8,10,18,19,20,21,22,23,24,25,26,27,28,29,30,31,32,33,34,35,36,37,38,39,40] (fun m g w'=>∃ (i:Nat) (mk:Nat→Bool),i≤a∧m=i∧g 8= .int .i64 i∧(b≤a→b≤i)∧Bel w w'∧Blk w' b13 4 (row l.length (fun j=> .bool (mk j)))∧Marks l a i mk) (a) ?_ (fun m g4 w3 hI=>?_)
 ·exact⟨a,_,Nat.le_refl _,rfl,rfl,fun h=>h,hB,hb13',Marks.start hv a⟩
 obtain⟨i,mk,hi,hm,h8,hbi,hB,hb13,hM⟩:=hI;refine qx 8 (.int .i64 i) h8 nu (zz (zz (z4 (wmI rfl (wmI rfl (wl (vW rfl rfl) (zx (e_S ?_))))))));refine qv rfl (fun c20=>?_) (fun c20=>?_)
 ·refine zK (e_S (zz (qz (zz (z4 (wmS rfl (wmI rfl (wl (xQ (i:=i) Q9 sz4 rfl rfl om rfl) (wl (zQ (v:= .bool _) U4 rfl rfl (hb13.cell (kj om))) (zx (e_S ?_)))))))))));refine kK rfl (fun c26=>?_) (fun c26=>?_)
  ·have hil:i < l.length:=by omega
   obtain⟨tb,to,A',cp,rfl,htb,htr,hpar⟩:=hT.at_ hB hil;have hpx:=hpar.1;unfold kY at hpx;refine zz (z4 (wmS rfl (wmI rfl (wl (xQ (i:=i) U22 YX rfl rfl om rfl) (wl (q8 Xx G0 dE rfl rfl rfl) (wl (zQ (v:= .slice _ _ _) U73 rfl rfl (htr 1 _ rfl)) (wl (xk U73 rfl) (wmI rfl (zx (e_S (qz ?_)))))))))));refine xj [10,33,34,35,36,37,38,39,40] (fun m g w'=>∃ (j:Nat),j≤(l[i]'hil).par.length∧m=(l[i]'hil).par.length - j∧g 33= .int .i64 j∧Bel w w'∧Blk w' b13 4 (row l.length (fun x=> .bool (mk x || Mj ((l[i]'hil).par.take j) x)))) ((l[i]'hil).par.length) ?_ (fun m g8 w4 hI=>?_)
   ·refine⟨0,Nat.zero_le _,rfl,rfl,hB,?_⟩;rw [show (row l.length (fun x=>Value.bool (mk x || Mj ((l[i]'hil).par.take 0) x)))=row l.length (fun j=> .bool (mk j)) from jz (fun x _=>by simp [Mj])];exact hb13
   obtain⟨j,hj,hmj,h33,hB,hb13⟩:=hI;refine qx 33 (.int .i64 j) h33 nu (zz (z4 (wl (xv rfl rfl) (zx (e_S (zz ?_))))));refine qv rfl (fun c34=>?_) (fun c34=>?_)
   ·have hlj:j < (l[i]'hil).par.length:=by omega
    obtain⟨pb,po,rfl,hpb,hpc⟩:=hpar.at_ hlj;replace hpc:=hB.cell hpb hpc;have hpr:=hv i hil _ (List.getElem_mem hlj);refine zK (e_S (zz (qz (zz (z4 (wl (xQ (i:=j) U73 sz3 rfl rfl om rfl) (wl (zQ (v:= .int _ _) U3 rfl rfl hpc) (waI rfl (zx (e_S (z4 (wmS rfl (wmI rfl (wl (xQ (i:=((l[i]'hil).par[j]).toNat) Q9 sz4 rfl (show ev _ _ _=_ from congrArg (Value.int .i64) (Int.toNat_of_nonneg hpr.1).symm) om rfl) ?_))))))))))))));refine j8 (v:= .bool _) hb13 rfl rfl sz4 (by rw [row_size];omega) rfl gk (fun w5 hq hs=>?_);replace hB:=hB.tr1 hs lo13;replace hb13:=hq;refine zx (e_B (e_S (z4 (wl (y6 rfl rfl rfl om) (wmI rfl (zx (yV ((l[i]'hil).par.length - (j + 1)) om agA ?_)))))));refine⟨j + 1,by omega,rfl,rfl,hB,?_⟩
    rw [show (row l.length (fun x=>Value.bool (mk x || Mj ((l[i]'hil).par.take (j + 1)) x)))=row l.length (fun x=>if x=((l[i]'hil).par[j]).toNat then Value.bool true else .bool (mk x || Mj ((l[i]'hil).par.take j) x)) from jz (fun x _=>by
      rw [parB_snoc _ hlj];by_cases e:x=((l[i]'hil).par[j]).toNat
      · rw [if_pos e];have:(l[i]'hil).par[j]=(x:Int):=by omega
        simp [this]
      · rw [if_neg e];have:¬(l[i]'hil).par[j]=(x:Int):=by omega
        simp [this])]
    exact hb13
   have hM':=hM.yes hv hil c26;have hjl:j=(l[i]'hil).par.length:=by omega
   rw [hjl,List.take_length] at hb13;obtain⟨mk',hmk'⟩:∃ mk':Nat→Bool,mk'=fun x=>mk x || Mj (l[i]'hil).par x:=⟨_,rfl⟩
   rw [show (row l.length (fun x=>Value.bool (mk x || Mj (l[i]'hil).par x)))=row l.length (fun x=> .bool (mk' x)) from jz (fun x _=>by rw [hmk'])] at hb13;rw [← hmk'] at hM';refine xw (vK (yv (vV (e_B (e_S (z4 (wmI rfl (wl (uw (c:=((i - 1:Nat):Int)) rfl rfl om om) (waI rfl (zx (yV (i - 1) om agA ?_)))))))))));exact⟨i - 1,mk',by omega,rfl,rfl,fun h=>by omega,hB,hb13,hM'⟩
  have hM':=hM.no c26;obtain⟨mk',hmk'⟩:∃ mk',mk'=mk:=⟨_,rfl⟩
  rw [← hmk'] at hM' hb13;clear hmk';refine zK (e_B (e_S (z4 (wmI rfl (wl (uw (c:=((i - 1:Nat):Int)) rfl rfl om om) (waI rfl (zx (yV (i - 1) om agA ?_))))))));exact⟨i - 1,mk',by omega,rfl,rfl,fun h=>by omega,hB,hb13,hM'⟩
 refine xw (vK (yv (vV (e_S (zz (z4 (wmS rfl (wmI rfl (wl (xQ (i:=b) Q9 sz4 rfl rfl om rfl) (wl (zQ (v:= .bool _) U4 rfl rfl (hb13.cell (kj om))) (waB rfl (zx (e_S (qq (x7 (.inl rfl) rfl rfl ?_)))))))))))))));exact⟨uv (hM.end_ hv om hbi).symm,hB⟩
end Go.Proofs.YtfkbjncidemcbaaDoor
namespace Go.Proofs.YtfkbjncidemcbaaDoor
open Go.RowKit
def kX (p:Nat→Bool):Nat→Nat
  | 0=>0
  | n + 1=>kX p n ||| (if p n then 2 ^ n else 0)
theorem kQ (p:Nat→Bool):∀ (n j:Nat),(kX p n).testBit j=(decide (j < n) && p j)
  | 0,j=>by simp [kX]
  | n + 1,j=>by
    rw [kX,Nat.testBit_or,kQ p n j]
    by_cases h:j=n
    · subst h
      cases hp:p j <;> simp [Nat.testBit_two_pow_self]
    · have h1:(if p n then 2 ^ n else 0:Nat).testBit j=false:=by
        cases hp:p n
        · simp
        · simp [Ne.symm h]
      have h2:decide (j < n + 1)=decide (j < n):=by simp;omega
      rw [h1,h2];simp
theorem mask_lt (p:Nat→Bool) (n:Nat):kX p n < 2 ^ n:=by
  apply Nat.lt_pow_two_of_testBit
  intro i hi;rw [kQ];simp;omega
theorem Qx (p:Nat→Bool) {n:Nat} (h:n≤60):kX p n < 18446744073709551616:=by
  have h1:=mask_lt p n;have h2:2 ^ n≤2 ^ 60:=Nat.pow_le_pow_right dE h;have h3:(2:Nat) ^ 60=1152921504606846976:=by decide
  omega
theorem Vq {x:Nat} {p:Nat→Bool} {n:Nat} (h:∀ j,x.testBit j=(decide (j < n) && p j)):x=kX p n:=
  Nat.eq_of_testBit_eq (fun j=>by rw [h,kQ])
theorem kZ {p q:Nat→Bool} {n:Nat} (h:∀ j,j < n→p j=q j):kX p n=kX q n:=by
  apply Vq
  intro j;rw [kQ];by_cases hj:j < n
  · rw [h j hj]
  · simp [hj]
theorem HJ (p q:Nat→Bool) (n:Nat):kX p n ||| kX q n=kX (fun j=>p j || q j) n:=
  Vq (fun j=>by rw [Nat.testBit_or,kQ,kQ];cases decide (j < n) <;> simp)
theorem mask_and (p q:Nat→Bool) (n:Nat):kX p n &&& kX q n=kX (fun j=>p j && q j) n:=
  Vq (fun j=>by rw [Nat.testBit_and,kQ,kQ];cases decide (j < n) <;> simp)
theorem TY {k n:Nat} (h:k < n):2 ^ k=kX (fun j=>decide (j=k)) n:=by
  apply Vq
  intro j;rw [Nat.testBit_two_pow];by_cases e:k=j
  · subst e;simp [h]
  · simp [e,Ne.symm e]
theorem mask_zero (n:Nat):kX (fun _=>false) n=0:=by
  symm;apply Vq;intro j;simp
theorem mask_eq_zero {p:Nat→Bool} {n:Nat}:kX p n=0 ↔ ∀ j,j < n→p j=false:=by
  constructor
  · intro h j hj
    have:=kQ p n j;rw [h] at this
    simpa [hj] using this.symm
  · intro h
    rw [← mask_zero n];exact kZ h
theorem mask_inj {p q:Nat→Bool} {n:Nat}:kX p n=kX q n ↔ ∀ j,j < n→p j=q j:=by
  constructor
  · intro h j hj
    have h1:=kQ p n j;have h2:=kQ q n j;rw [h] at h1;rw [h1] at h2
    simpa [hj] using h2
  · exact kZ
theorem P2 (x j:Nat):decide (((x >>> j) &&& 1)=1)=x.testBit j:=by
  rw [Nat.testBit_eq_decide_div_mod_eq,Nat.shiftRight_eq_div_pow,Nat.and_one_is_mod]
theorem IK {p:Nat→Bool} {n:Nat} (hn:n≤60) (h0:kX p n≠0):Lib.ctz 64 (kX p n) < n∧p (Lib.ctz 64 (kX p n))=true∧∀ j,j < Lib.ctz 64 (kX p n)→p j=false:=by
  have hlt:kX p n < 2 ^ 64:=by
    have h1:=Qx p hn;have h2:(2:Nat) ^ 64=18446744073709551616:=by decide
    omega
  obtain⟨m,hm,hk⟩:=Lib.ctzFrom_spec 64 (kX p n) om hlt;have e:Lib.ctz 64 (kX p n)=Lib.ctzFrom 64 (kX p n):=by simp [Lib.ctz,h0]
  rw [e]
  generalize hc:Lib.ctzFrom 64 (kX p n)=c at *
  have hb:∀ j,(kX p n).testBit j=(decide (c≤j) && (2 * m + 1).testBit (j - c)):=by
    intro j;rw [hm,Nat.mul_comm,Nat.testBit_mul_two_pow]
  have hcb:(kX p n).testBit c=true:=by rw [hb];simp
  rw [kQ] at hcb;simp only [Bool.and_eq_true,decide_eq_true_eq] at hcb;refine⟨hcb.1,hcb.2,fun j hj=>?_⟩;have:=hb j;rw [kQ] at this;have hcj:¬c≤j:=by omega
  simp only [hcj,decide_false,Bool.false_and] at this;have hjn:j < n:=by omega
  simpa [hjn] using this
def TabIn (w:World):Prop:=0 < w.heap.size∧∀ k,k < 64→w.cell? ⟨0,0 + k * 1,none⟩=some (.int .u8 ((Lib.deBruijn64tab.getD k 0:Nat):Int))
theorem TabIn.mono {w w':World} (h:TabIn w) (hb:Bel w w'):TabIn w':=⟨nLL h.1 hb.size,fun k hk=>hb.cell h.1 (h.2 k hk)⟩
theorem ctz_eq {x c:Nat} (h0:x≠0) (hx:x < 18446744073709551616) (hc:18446744073709551616 - x=c):x &&& c=2 ^ Lib.ctz 64 x∧Lib.ctz 64 x < 64:=by
  subst hc
  exact Lib.lowest_bit 64 x h0 (by have : (2 : Nat) ^ 64 = 18446744073709551616 := by decide
                                   omega)
def tzI (x:Nat):Nat:=((x &&& (18446744073709551616 - x)) * 285870213051353865 % 18446744073709551616) >>> 58
theorem tzI_spec {x:Nat} (h0:x≠0) (hx:x < 18446744073709551616):tzI x < 64∧Lib.deBruijn64tab.getD (tzI x) 0=Lib.ctz 64 x:=by
  have h:=ctz_eq h0 hx rfl;have h2:=Lib.deBruijn64_at (Lib.ctz 64 x) h.2;unfold tzI;rw [h.1,Nat.shiftRight_eq_div_pow];exact h2
def upN (l:List Ty) (i:Nat):Nat:=kX (fun j=>sub l i j) l.length
def Q1 (l:List Ty) (j:Nat):Nat:=kX (fun i=>sub l i j) l.length
def rU (n:Nat) (g:Nat→Nat):Array Value:=row n (fun i=> .int .u64 (g i))
def TableIn (w:World) (l:List Ty) (bu bd:Nat):Prop:=Blk w bu 126 (rU l.length (upN l))∧Blk w bd 126 (rU l.length (Q1 l))
theorem Blk.bel {w w':World} {b:Nat} {t:TypeId} {cs:Array Value} (h:Blk w b t cs) (hb:Bel w w'):Blk w' b t cs:=(hb.block b h.lt).trans h
theorem TableIn.mono {w w':World} {l:List Ty} {bu bd:Nat} (h:TableIn w l bu bd) (hb:Bel w w'):TableIn w' l bu bd:=⟨h.1.bel hb,h.2.bel hb⟩
theorem TableIn.up {w:World} {l:List Ty} {bu bd i:Nat} (h:TableIn w l bu bd) (hi:i < l.length):w.cell? ⟨bu,0 + i * 1,none⟩=some (.int .u64 (upN l i)):=h.1.cell (kj hi)
theorem TableIn.down {w:World} {l:List Ty} {bu bd i:Nat} (h:TableIn w l bu bd) (hi:i < l.length):w.cell? ⟨bd,0 + i * 1,none⟩=some (.int .u64 (Q1 l i)):=h.2.cell (kj hi)
theorem F0 {l:List Ty} (h:l.length≤60) (i:Nat):upN l i < 18446744073709551616:=Qx _ h
theorem Rk {l:List Ty} (h:l.length≤60) (i:Nat):Q1 l i < 18446744073709551616:=Qx _ h
def K1 (n bu bd:Nat):Value:= .agg #[.slice (some ⟨bu,0,none⟩) n n,.slice (some ⟨bd,0,none⟩) n n]
def ov (l:List Ty) (a b:Nat) (i:Nat):Bool:=sub l i a && sub l i b
def jy (l:List Ty) (a b:Nat):Nat:=kX (ov l a b) l.length
theorem comm_and (l:List Ty) (a b:Nat):Q1 l a &&& Q1 l b=jy l a b:=mask_and _ _ _
def Zk (l:List Ty) (a b:Nat):Nat×Bool×Bool:=
  if jy l a b=0 then (0,false,false)
  else if Q1 l (Lib.ctz 64 (jy l a b))≠jy l a b then (0,false,true)
  else (Lib.ctz 64 (jy l a b),true,false)
def meetV (r:Nat×Bool×Bool):Value:= .tuple #[.int .i64 r.1,.bool r.2.1,.bool r.2.2]
theorem EJ {m:Nat} {p q:Bool} {r:Nat×Bool×Bool} (h:r=(m,p,q)):Ending.returned (.tuple #[.int .i64 (m:Int),.bool p,.bool q])= .returned (meetV r):=by rw [h];rfl
end Go.Proofs.YtfkbjncidemcbaaDoor
namespace Go.Proofs.YtfkbjncidemcbaaDoor
open Go.RowKit
theorem fn86:qZ Tryd.prog 86=true:=by kernel_rfl
theorem X2:(Tryd.prog.info? 126).map (·.size)=some 1:=by kernel_rfl
theorem sz5_Meet:(Tryd.prog.info? 5).map (·.size)=some 1:=by kernel_rfl
theorem PV:(Tryd.prog.info? 87).map (·.size)=some 1:=by kernel_rfl
theorem tz_any (x:Nat) (w:World) (h0:x≠0) (hx:x < 18446744073709551616) (hTab:TabIn w):Calls Tryd.prog 86 #[.int .u64 x] w fun e w'=>e= .returned (.int .i64 (Lib.ctz 64 x:Nat))∧w=w':=by
 have hz:=tzI_spec h0 hx;have hgd:=hTab.2 (tzI x) hz.1;rw [hz.2] at hgd;refine enter Tryd.func86 Tryd.ntmps86 rfl (Nat.le_of_ble_eq_true rfl) (zz (z4 (waI rfl (zx (e_S (zz (zz (z4 (wmI rfl (wl (xJ rfl rfl) (zx (e_S ?_))))))))))));refine qv rfl (fun c4=>?_) (fun c4=>?_)
 ·exact absurd c4 om
 refine zK (e_S (zz (z4 (wmI rfl (wmI rfl (wl (r_negU rfl om hx rfl) (wl (Jx (b:=18446744073709551616 - x) rfl rfl hx om) (wl (r_mulU (b:=285870213051353865) rfl rfl rfl) (wl (Hk (b:=58) rfl rfl dE rfl) (wl (Tk (i:=tzI x) Tryd.underlying160 sz5_Meet rfl rfl hz.1 rfl) (wl (zQ (v:= .int _ _) U5 rfl rfl hgd) (wl (EK U5 U3 rfl (by have:=(ctz_eq h0 hx rfl).2;omega)) (waI rfl (zx (e_S (qq (x7 (.inl rfl) rfl rfl ?_)))))))))))))))));exact⟨rfl,rfl⟩
theorem meet_any (l:List Ty) (bu bd a b:Nat) (w:World) (hTab:TabIn w) (hI:TableIn w l bu bd) (_hv:VT l) (h60:l.length≤60) (ha:a < l.length) (hb:b < l.length):Calls Tryd.prog 63 #[K1 l.length bu bd,.int .i64 a,.int .i64 b] w fun e w'=>e= .returned (meetV (Zk l a b))∧Bel w w':=by
 have hca:=Rk h60 a;have hcb:=Rk h60 b;have hcc:jy l a b < 18446744073709551616:=Qx _ h60;refine enter Tryd.func63 Tryd.ntmps63 rfl (Nat.le_of_ble_eq_true rfl) ?_;have hB:Bel w w:=Below.refl _ _;refine zz (z4 ?_);refine yQ (v:= .agg #[_,_]) (cs:=#[_,_]) rfl rfl (fun b3 w1 hb3 hs hr=>?_);replace hB:=hB.tr0 hs;refine waI rfl (waB rfl (waB rfl (zx (e_S (zz ?_)))));refine X5 kR kR (fun w2 hs=>?_);replace hB:=hB.tr0 hs;replace hb3:=hb3.tr0 hs;refine ws (q8 U89 PV dE rfl rfl rfl) (ws (zQ (v:= .slice _ _ _) U87 rfl rfl (hb3.cell rfl)) (ws (qw (v:= .int _ _) rfl) (ws (xQ (i:=a) U87 X2 rfl rfl om rfl) (ws (zQ (v:= .int _ _) VW rfl rfl ((hI.mono hB).down ha)) (ws (q8 U89 PV dE rfl rfl rfl) (ws (zQ (v:= .slice _ _ _) U87 rfl rfl (hb3.cell rfl)) (ws (qw (v:= .int _ _) rfl) (ws (xQ (i:=b) U87 X2 rfl rfl om rfl) (ws (zQ (v:= .int _ _) VW rfl rfl ((hI.mono hB).down hb)) (ws (Jx rfl rfl hca hcb) (ws (oK (v:= .int .u64 (jy l a b:Nat)) (congrArg (fun z:Nat=>Value.int .u64 (z:Int)) (comm_and l a b))) (oX (e_S (zz (zz (z4 (wmI rfl (wl (xJ rfl rfl) (zx (e_S ?_))))))))))))))))))));refine qv rfl (fun c22=>?_) (fun c22=>?_)
 ·have hz0:jy l a b=0:=by omega
  refine zz (z4 (waI rfl (waB rfl (waB rfl (zx (e_S (qq (qV (fin3 (.inl rfl) rfl rfl rfl rfl ?_)))))))));exact⟨EJ (by simp only [Zk,if_pos hz0]),hB⟩
 have hne:jy l a b≠0:=fun h=>c22 (by rw [h];rfl)
 have hz:=IK h60 hne;refine zK (e_S (zz (z4 (wmI rfl ?_))));refine qJ fn86 (tz_any _ _ hne hcc (hTab.mono hB)) rfl (fun e' w3 hr=>?_);obtain⟨rfl,rfl⟩:=hr;refine⟨_,rfl,?_⟩;refine waI rfl (zx (e_S (zz (zz (z4 (wl (q8 U89 PV dE rfl rfl rfl) (wl (zQ (v:= .slice _ _ _) U87 rfl rfl (hb3.cell rfl)) (wmI rfl (wl (xQ (i:=Lib.ctz 64 (jy l a b)) U87 X2 rfl rfl hz.1 rfl) (wl (zQ (v:= .int _ _) VW rfl rfl ((hI.mono hB).down hz.1)) (wmI rfl (wl (jq rfl rfl) (zx (e_S ?_))))))))))))));refine qv rfl (fun c31=>?_) (fun c31=>?_)
 ·have hne2:Q1 l (Lib.ctz 64 (jy l a b))≠jy l a b:=by omega
  refine zz (z4 (waI rfl (waB rfl (waB rfl (zx (e_S (qq (qV (fin3 (.inl rfl) rfl rfl rfl rfl ?_)))))))));exact⟨EJ (by simp only [Zk,if_neg hne,if_pos hne2]),hB⟩
 have heq:Q1 l (Lib.ctz 64 (jy l a b))=jy l a b:=by omega
 refine zK (e_S (zz (z4 (wmI rfl (waI rfl (waB rfl (waB rfl (zx (e_S (qq (fin3 (.inl rfl) rfl rfl rfl rfl ?_)))))))))));exact⟨EJ (by simp only [Zk,if_neg hne,heq,ne_eq,not_true_eq_false,if_false]),hB⟩
theorem SW (l:List Ty) (bu bd a b:Nat) (w:World) (hI:TableIn w l bu bd) (h60:l.length≤60) (ha:a < l.length) (hb:b < l.length):Calls Tryd.prog 68 #[K1 l.length bu bd,.int .i64 a,.int .i64 b] w fun e w'=>e= .returned (.bool (sub l a b))∧Bel w w':=by
 have hca:=F0 h60 a;refine enter Tryd.func68 Tryd.ntmps68 rfl (Nat.le_of_ble_eq_true rfl) ?_;have hB:Bel w w:=Below.refl _ _;refine zz (z4 ?_);refine yQ (v:= .agg #[_,_]) (cs:=#[_,_]) rfl rfl (fun b3 w1 hb3 hs hr=>?_);replace hB:=hB.tr0 hs;refine waB rfl (zx (e_S (zz (z4 (wl (q8 U89 PV dE rfl rfl rfl) (wl (zQ (v:= .slice _ _ _) U87 rfl rfl (hb3.cell rfl)) (wmI rfl (wl (xQ (i:=a) U87 X2 rfl rfl om rfl) (wl (zQ (v:= .int _ _) VW rfl rfl ((hI.mono hB).up ha)) (wmI rfl (wl (Hk (b:=b) rfl rfl om rfl) (wl (Jx (b:=1) rfl rfl (Nat.lt_of_le_of_lt (Nat.shiftRight_le _ _) hca) dE) (wl (xJ rfl rfl) (waB rfl (zx (e_S (qq (x7 (.inl rfl) rfl rfl ?_))))))))))))))))));refine⟨uv ?_,hB⟩;have h1:=P2 (upN l a) b;unfold upN at h1;rw [kQ] at h1;simp only [hb,decide_true,Bool.true_and] at h1;rw [← h1];exact decide_eq_decide.2 (by unfold upN;omega)
end Go.Proofs.YtfkbjncidemcbaaDoor
