/- What these functions of the program compute, at every world: glosswright/glosswrightref3.Name, glosswright/glosswrightref3.TypesFault. What these functions of the program compute, at every world: glosswright/glosswrightref3.Sub. Sets of small numbers as bits. What these functions of the program compute, at every world: math/bits.TrailingZeros64, (glosswright/hierarchy.Table).Meet, (glosswright/hierarchy.Table).Sub. -/
import Derived.Test.YtfkbjncidemcbaaDoorU
import Derived.Test.YtfkbjncidemcbaaDoorTypes
import Derived.Lib.TrailingZeros
namespace Go.Proofs.YtfkbjncidemcbaaDoor
open Go.RowKit
theorem seen_yes {l:List Ty} {j k:Nat} {s:ByteArray} (hk:k < l.length) (hj:j < k) (h:(l[j]'om).name=s):ky ((l.take k).map (·.name)) s=true:=by
  simp only [ky,List.any_eq_true,decide_eq_true_eq,List.mem_map];refine⟨_,⟨l[j]'om,?_,rfl⟩,h⟩;rw [List.mem_take_iff_getElem];exact⟨j,by omega,rfl⟩
theorem fn43:qj Tryd.prog 43=true:=by kernel_rfl
theorem sz5:(Tryd.prog.info? 5).map (·.size)=some 1:=by kernel_rfl
theorem I6 (s:ByteArray) (w:World):Calls Tryd.prog 43 #[.string s] w fun e w'=>e= .returned (.bool (yK s))∧Bel w w':=by
 obtain⟨c0,e0⟩:=RK s;have hN:=Lib.hid (Ix s c0 e0);refine enter Tryd.func43 Tryd.ntmps43 rfl (Nat.le_of_ble_eq_true rfl) ?_;have hB:Bel w w:=Below.refl _ _;refine zz (z4 (waB rfl (zq (e_S (zz (zz ?_))))));refine y7 [7,8,9,10,11,12,13,14] 14 (.bool (decide (s.size < 1∨30 < s.size))) nu ?_ (fun gq=>?_)
 ·refine z4 (wl (qy (v:= .string _) rfl) (wl (jX U9 rfl) (wl (x9 rfl rfl) (wmB rfl ?_))));refine zJ 10 rfl (fun g10=>?_) (fun g10=>?_)
  ·refine zy 10 rfl rfl rfl (zy 10 rfl rfl rfl (zy 10 rfl rfl rfl (wl (qw (v:= .bool _) rfl rfl) ?_)));refine zq (e_R ⟨rfl,agA,?_⟩);exact clA
  refine zw 10 rfl rfl (wl (qy (v:= .string _) rfl) (zw 10 rfl rfl (wl (jX U9 rfl) (zw 10 rfl rfl (wl (yX rfl rfl) (wl (qV (v:= .bool _) rfl rfl) ?_))))));refine zq (e_R ⟨rfl,agA,?_⟩);exact clA
 refine e_S ?_;refine qx rfl (fun c14=>?_) (fun c14=>?_)
 ·refine zz (z4 (waB rfl (zq (e_S (q8 (qQ (qK (.inl rfl) rfl rfl ?_)))))));exact⟨u7 (by rw [hN.out];exact decide_eq_false (fun h=>by omega)),hB⟩
 refine zK (e_S (zz (zz (z4 (wl (qy (v:= .string _) rfl) ?_)))));refine wl_cvB U9 Tryd.underlying131 U5 rfl (fun b16 c16 w1 hc16 hs hr=>?_);replace hB:=hB.tr0 hs;refine wl (x6 Tryd.underlying131 rfl) (wmI rfl (zq (e_S (zY ?_))));refine x8 [2,3,4,5,6,18,19,20,21,22,23,24,25,26,27,28,29,30,31,32,33,34,35,36,37,38,39,40,41,42,43,44,45,46,47,48,49,50,51,52,53] (fun m g w'=>∃ k:Nat,k≤s.size∧m=s.size - k∧g 18= .int .i64 k∧w1=w'∧(0 < k→97≤c0∧c0≤122)∧(∀ j (hj:j < s.size),j < k→gX (s[j]'hj)=true)) (s.size) ?_ (fun m g4 w2 hI=>?_)
 ·exact⟨0,Nat.zero_le _,rfl,rfl,rfl,fun h=>by omega,fun j hj h=>by omega⟩
 obtain⟨k,hk,hm,h18,rfl,hz,hall⟩:=hI;refine qv 18 (.int .i64 k) h18 nu (zz (z4 (wl (x9 rfl rfl) (zq (e_S (zz ?_))))));refine qx rfl (fun c19=>?_) (fun c19=>?_)
 ·refine zK (e_S (zz (zY (zz (z4 (wmI rfl (wl (xX (i:=k) Tryd.underlying131 sz5 rfl rfl om rfl) (wl (zQ (v:= .int _ _) U5 rfl rfl (hc16 k om)) (waI rfl (waI rfl (zq (e_S (zz ?_)))))))))))));refine y7 [5,23,24,25,26,27,28] 5 (.bool (decide (97≤(s[k]'om).toNat∧(s[k]'om).toNat≤122))) nu ?_ (fun gq=>?_)
  ·refine z4 (wmI rfl (wl (vK rfl rfl) (wmB rfl ?_)));refine zJ 25 rfl (fun g25=>?_) (fun g25=>?_)
   ·refine zw 25 rfl rfl (wmI rfl (zw 25 rfl rfl (wl (uz rfl rfl) (wl (qw (v:= .bool _) rfl rfl) (waB rfl ?_)))));refine zq (e_R ⟨rfl,agA,?_⟩);exact clA
   refine zy 25 rfl rfl rfl (zy 25 rfl rfl rfl (wl (qV (v:= .bool _) rfl rfl) (waB rfl ?_)));refine zq (e_R ⟨rfl,agA,?_⟩);exact clA
  refine e_S (zz ?_);refine y7 [6,29,30,31,32,33,34,35,36,37,38,39,40,41,42] 6 (.bool (decide ((48≤(s[k]'om).toNat∧(s[k]'om).toNat≤57)∨(s[k]'om).toNat=95∨(s[k]'om).toNat=45))) nu ?_ (fun gq=>?_)
  ·refine z4 (wmI rfl (wl (vK rfl rfl) (wmB rfl ?_)));refine zJ 31 rfl (fun g31=>?_) (fun g31=>?_)
   ·refine zw 31 rfl rfl (wmI rfl (zw 31 rfl rfl (wl (uz rfl rfl) (wl (qw (v:= .bool _) rfl rfl) (wmB rfl ?_)))));refine zJ 35 rfl (fun g35=>?_) (fun g35=>?_)
    ·refine zy 35 rfl rfl rfl (zy 35 rfl rfl rfl (wl (qw (v:= .bool _) rfl rfl) (wmB rfl (zy 39 rfl rfl rfl (zy 39 rfl rfl rfl (wl (qw (v:= .bool _) rfl rfl) (waB rfl ?_)))))));refine zq (e_R ⟨rfl,agA,?_⟩);exact clA
    refine zw 35 rfl rfl (wmI rfl (zw 35 rfl rfl (wl (xv rfl rfl) (wl (qV (v:= .bool _) rfl rfl) (wmB rfl ?_)))));refine zJ 39 rfl (fun g39=>?_) (fun g39=>?_)
    ·refine zy 39 rfl rfl rfl (zy 39 rfl rfl rfl (wl (qw (v:= .bool _) rfl rfl) (waB rfl ?_)));refine zq (e_R ⟨rfl,agA,?_⟩);exact clA
    refine zw 39 rfl rfl (wmI rfl (zw 39 rfl rfl (wl (xv rfl rfl) (wl (qV (v:= .bool _) rfl rfl) (waB rfl ?_)))));refine zq (e_R ⟨rfl,agA,?_⟩);exact clA
   refine zy 31 rfl rfl rfl (zy 31 rfl rfl rfl (wl (qV (v:= .bool _) rfl rfl) (wmB rfl (zw 35 rfl rfl (wmI rfl (zw 35 rfl rfl (wl (xv rfl rfl) (wl (qV (v:= .bool _) rfl rfl) (wmB rfl ?_)))))))));refine zJ 39 rfl (fun g39=>?_) (fun g39=>?_)
   ·refine zy 39 rfl rfl rfl (zy 39 rfl rfl rfl (wl (qw (v:= .bool _) rfl rfl) (waB rfl ?_)));refine zq (e_R ⟨rfl,agA,?_⟩);exact clA
   refine zw 39 rfl rfl (wmI rfl (zw 39 rfl rfl (wl (xv rfl rfl) (wl (qV (v:= .bool _) rfl rfl) (waB rfl ?_)))));refine zq (e_R ⟨rfl,agA,?_⟩);exact clA
  refine e_S (zz ?_);refine y7 [43,44,45,46,47,48,49,50,51,52] 52 (.bool (decide (¬(97≤(s[k]'om).toNat∧(s[k]'om).toNat≤122)∧(¬((48≤(s[k]'om).toNat∧(s[k]'om).toNat≤57)∨(s[k]'om).toNat=95∨(s[k]'om).toNat=45)∨k=0)))) nu ?_ (fun gq=>?_)
  ·refine z4 (wmB rfl (wl (Z2 rfl) (wmB rfl ?_)));refine zJ 45 rfl (fun g45=>?_) (fun g45=>?_)
   ·refine zw 45 rfl rfl (wmB rfl (zw 45 rfl rfl (wl (Z2 rfl) (zw 45 rfl rfl (wmB rfl ?_)))));refine zJ 48 rfl (fun g48=>?_) (fun g48=>?_)
    ·refine zy 48 rfl rfl rfl (zy 48 rfl rfl rfl (zw 45 rfl rfl (wl (qw (v:= .bool _) rfl rfl) (wl (qw (v:= .bool _) rfl rfl) ?_))));refine zq (e_R ⟨rfl,agA,?_⟩);exact clA
    refine zw 48 rfl rfl (wmI rfl (zw 48 rfl rfl (wl (xv rfl rfl) (zw 45 rfl rfl (wl (qV (v:= .bool _) rfl rfl) (wl (qw (v:= .bool _) rfl rfl) ?_))))));refine zq (e_R ⟨rfl,agA,?_⟩);exact clA
   refine zy 45 rfl rfl rfl (zy 45 rfl rfl rfl (zy 45 rfl rfl rfl (yz 48 rfl rfl (yz 48 rfl rfl (zy 45 rfl rfl rfl (wl (qV (v:= .bool _) rfl rfl) ?_))))));refine zq (e_R ⟨rfl,agA,?_⟩);exact clA
  refine e_S ?_;refine qx rfl (fun c52=>?_) (fun c52=>?_)
  ·have hno:¬((97≤c0∧c0≤122)∧∀ j (hj:j < s.size),gX (s[j]'hj)=true):=fun h=>by
     have h1:=(Z4 _).1 (h.2 k om);have h2:k=0:=by omega
     subst h2;have:=e0 om;omega
   refine zz (z4 (waB rfl (zq (e_S (q8 (qW (qQ (y8 (qW (qQ (qK (.inl rfl) rfl rfl ?_)))))))))));exact⟨u7 (by rw [hN.out];exact decide_eq_false (fun h=>hno h.2)),hB⟩
  have hz':97≤c0∧c0≤122:=by
    by_cases e:k=0
    · subst e;have:=e0 om;omega
    · exact hz om
  have hall':∀ j (hj:j < s.size),j < k + 1→gX (s[j]'hj)=true:=fun j hj h=>by
    by_cases e:j=k
    · subst e;exact(Z4 _).2 om
    · exact hall j hj om
  refine zK (e_B (e_S (z4 (wl (xw rfl rfl rfl om) (wmI rfl (zq (yw (s.size - (k + 1)) om agA ?_)))))));exact⟨k + 1,by omega,rfl,rfl,rfl,fun _=>hz',fun j hj h=>hall' j hj h⟩
 refine xx (vx (yq (vj (e_S (zz (z4 (waB rfl (zq (e_S (q8 (qK (.inl rfl) rfl rfl ?_)))))))))));exact⟨u7 (by rw [hN.out];exact decide_eq_true ⟨by omega,hz om,fun j hj=>hall j hj om⟩),hB⟩
theorem MJ (A:Option Addr) (c:Nat) (l:List Ty) (w:World) (hc:l.length≤c) (hT:TypesIn w A l):Calls Tryd.prog 71 #[.slice A l.length c] w fun e w'=>e= .returned (flV (y9 l))∧Bel w w':=by
 refine enter Tryd.func71 Tryd.ntmps71 rfl (Nat.le_of_ble_eq_true rfl) ?_;have hB:Bel w w:=Below.refl _ _;refine zz (z4 ?_);refine xQ (cs:=#[.int .i64 0,.int .i64 0]) ze43 rfl (fun b2 w1 hb2 hs hr=>?_);have lo2:=nLT (Bel.size hB) hr;replace hB:=hB.tr0 hs;refine zq (e_S (zz (zz ?_)));refine y7 [9,10,11,12,13,14,15,16] 16 (.bool (decide (l.length=0∨60 < l.length))) nu ?_ (fun gq=>?_)
 ·refine z4 (wmS rfl (wl (x6 U22 rfl) (wl (xv rfl rfl) (wmB rfl ?_))));refine zJ 12 rfl (fun g12=>?_) (fun g12=>?_)
  ·refine zy 12 rfl rfl rfl (zy 12 rfl rfl rfl (zy 12 rfl rfl rfl (wl (qw (v:= .bool _) rfl rfl) ?_)));refine zq (e_R ⟨rfl,agA,?_⟩);exact clA
  refine zw 12 rfl rfl (wmS rfl (zw 12 rfl rfl (wl (x6 U22 rfl) (zw 12 rfl rfl (wl (yX rfl rfl) (wl (qV (v:= .bool _) rfl rfl) ?_))))));refine zq (e_R ⟨rfl,agA,?_⟩);exact clA
 refine e_S ?_;refine qx rfl (fun c16=>?_) (fun c16=>?_)
 ·refine zz (z4 (wl (vZ (v0:= .int _ _) (v1:= .int _ _) (fun v0 v1=>#[v0,v1]) rfl rfl kR) ?_));refine qz hb2 rfl rfl gz rfl qX (fun w2 hq hs=>?_);replace hB:=hB.tr1 hs lo2;replace hb2:=hq;refine zq (e_S (q8 (qQ (qK (.inl rfl) rfl (qq U43 rfl rfl hb2.range0 gz) ?_))));exact⟨xj (by simp only [y9,if_pos c16]),hB⟩
 have hR:=Lib.hid (show y9 l=xV (vW l) 0 (l.length - 0) by simp only [y9,if_neg c16,Nat.sub_zero]);refine zK (e_S (zz (zz (z4 (wmS rfl (wl (x6 U22 rfl) (wmI rfl (zq (e_S (zY ?_))))))))));refine x8 [3,4,6,7,8,20,21,22,23,24,25,26,27,28,29,30,31,32,33,34,35,36,37,38,39,40,41,42,43,44,45,46,47,48,49,50,51,52,53,54,55,56,57,58,59,60,61,62,63,64,65,66,67,68,69,70,71,72,73,74,75,76,77,78,79,80,81,82,83,84,85,86,87,88] (fun m g w'=>∃ (k:Nat),k≤l.length∧m=l.length - k∧g 20= .int .i64 k∧Bel w w'∧Blk w' b2 43 #[.int .i64 0,.int .i64 0]∧y9 l=xV (vW l) k (l.length - k)) (l.length) ?_ (fun m g4 w3 hI=>?_)
 ·exact⟨0,Nat.zero_le _,rfl,rfl,hB,hb2,hR.out⟩
 obtain⟨k,hk,hm,h20,hB,hb2,hR'⟩:=hI;refine qv 20 (.int .i64 k) h20 nu (zz (z4 (wl (x9 rfl rfl) (zq (e_S (zz ?_))))));refine qx rfl (fun c21=>?_) (fun c21=>?_)
 ·have hlt:k < l.length:=by omega
  obtain⟨tb,to,A',cp,rfl,htb,htr,hpar⟩:=hT.at_ hB hlt;refine zK (e_S (zz (zY (zz (z4 (wmI rfl (wl (xX (i:=k) U22 Y7 rfl rfl om rfl) (wl (zW QJ rfl rfl htr Y7) ?_))))))));refine xQ (cs:=#[.string ⟨#[]⟩,.slice none 0 0]) ze122 rfl (fun b4 w4 hb4 hs hr=>?_);have:=nLL hb2.lt hr;have lo4:=nLT (Bel.size hB) hr;replace hB:=hB.tr0 hs;replace hb2:=hb2.tr0 hs;refine waI rfl ?_;refine qz hb4 rfl rfl Y7 rfl qX (fun w5 hq hs=>?_);replace hB:=hB.tr1 hs lo4;replace hb2:=hb2.tr1 hs om;replace hb4:=hq;refine zq (e_S (zz (zz (z4 (wl (zV QJ sz9 dE rfl rfl rfl) (wl (zQ (v:= .string _) U9 rfl rfl (hb4.cell rfl)) ?_))))));refine qJ fn43 (I6 _ _) rfl (fun e' w6 hr=>?_);obtain⟨rfl,hs⟩:=hr;replace hs:=sB hs;replace hB:=hB.tr0 hs;replace hb2:=hb2.tr0 hs;replace hb4:=hb4.tr0 hs;refine⟨_,rfl,?_⟩;refine wl (vY rfl) (zq (e_S ?_));refine kZ rfl (fun c28=>?_) (fun c28=>?_)
  ·have hty:=ty10 l k hlt (by simpa using c28);refine zz (z4 (wmI rfl (wl (vZ (v0:= .int _ _) (v1:= .int _ _) (fun v0 v1=>#[v0,v1]) rfl rfl kR) ?_)));refine qz hb2 rfl rfl gz rfl qX (fun w7 hq hs=>?_);replace hB:=hB.tr1 hs lo2;replace hb2:=hq;refine zq (e_S (q8 (qQ (qW (qQ (y8 (qW (qQ (qK (.inl rfl) rfl (qq U43 rfl rfl hb2.range0 gz) ?_)))))))));exact⟨xj (hR'.trans (xy (c:=10) om hty dE)),hB⟩
  have hnm:yK (l[k]'hlt).name=true:=by simpa using c28
  refine zK (e_S (zz (zz (z4 (wmS rfl (wmI rfl (wl (EQ (h:=k) U22 Y7 rfl rfl om) (wl (x6 U22 rfl) (wmI rfl (zq (e_S (zY ?_))))))))))));refine x8 [6,35,36,37,38,39,40,41,42,43,44,45,46] (fun m g w'=>∃ (j:Nat),j≤k∧m=k - j∧g 35= .int .i64 j∧Bel w w'∧Blk w' b2 43 #[.int .i64 0,.int .i64 0]∧Blk w' b4 122 #[.string (l[k]'hlt).name,.slice A' (l[k]'hlt).par.length cp]∧ky ((l.take j).map (·.name)) (l[k]'hlt).name=false) (k) ?_ (fun m g9 w8 hI=>?_)
  ·exact⟨0,Nat.zero_le _,rfl,rfl,hB,hb2,hb4,rfl⟩
  obtain⟨j,hj,hmj,h35,hB,hb2,hb4,hse⟩:=hI;refine qv 35 (.int .i64 j) h35 nu (zz (z4 (wl (x9 rfl rfl) (zq (e_S (zz ?_))))));refine qx rfl (fun c36=>?_) (fun c36=>?_)
  ·have hjt:j < l.length:=by omega
   obtain⟨ub,uo,B',cq,he,hub,hur,_⟩:=hT.at_ hB hjt;cases he;refine zK (e_S (zz (zY (zz (z4 (wl (xX (i:=j) U22 Y7 rfl rfl om rfl) (wl (zW QJ rfl rfl hur Y7) ?_)))))));refine yW (cs:=#[.string ⟨#[]⟩,.slice none 0 0]) ze122 rfl (fun _=>rfl) (fun _=>rfl) Y7 rfl qX (fun b6 w10 hb6 hs hr=>?_);replace hB:=hB.tr0 hs;replace hb2:=hb2.tr0 hs;replace hb4:=hb4.tr0 hs;refine zq (e_S (zz (z4 (wl (zV QJ sz9 dE rfl rfl rfl) (wl (zQ (v:= .string _) U9 rfl rfl (hb6.cell rfl)) (wl (zV QJ sz9 dE rfl rfl rfl) (wl (zQ (v:= .string _) U9 rfl rfl (hb4.cell rfl)) (wl (Z3 rfl rfl) (zq (e_S ?_))))))))));refine qx rfl (fun c43=>?_) (fun c43=>?_)
   ·have hty:=ty7 l k hlt hnm (seen_yes hlt om c43);refine zz (z4 (wmI rfl (wl (vZ (v0:= .int _ _) (v1:= .int _ _) (fun v0 v1=>#[v0,v1]) rfl rfl kR) ?_)));refine qz hb2 rfl rfl gz rfl qX (fun w11 hq hs=>?_);replace hB:=hB.tr1 hs lo2;replace hb2:=hq;refine zq (e_S (q8 (qW (qQ (y8 (qW (qQ (qW (qQ (y8 (qW (qQ (qK (.inl rfl) rfl (qq U43 rfl rfl hb2.range0 gz) ?_)))))))))))));exact⟨xj (hR'.trans (xy (c:=7) om hty dE)),hB⟩
   have hse':ky ((l.take (j + 1)).map (·.name)) (l[k]'hlt).name=false:=by rw [oQ l hjt,List.map_append,List.map_cons,List.map_nil,ZJ,hse];simp [c43]
   refine zK (e_B (e_S (z4 (wl (xw rfl rfl rfl om) (wmI rfl (zq (yw (k - (j + 1)) om agA ?_)))))));exact⟨j + 1,by omega,rfl,rfl,hB,hb2,hb4,hse'⟩
  have hsn:ky ((l.take k).map (·.name)) (l[k]'hlt).name=false:=by
    have e:k=j:=by omega
    subst e;exact hse
  refine xx (vx (yq (vj (e_S (zz (zz (z4 (wmI rfl (wl (xv rfl rfl) (wl (zV QJ HQ dE rfl rfl rfl) (wl (zQ (v:= .slice _ _ _) U73 rfl rfl (hb4.cell rfl)) (wl (x6 U73 rfl) (wl (xv rfl rfl) (wl (Ow U4 rfl rfl) (zq (e_S ?_))))))))))))))));refine kZ rfl (fun c53=>?_) (fun c53=>?_)
  ·have hty:=ty5 l k hlt hnm hsn (Wy c53);refine zz (z4 (wmI rfl (wl (vZ (v0:= .int _ _) (v1:= .int _ _) (fun v0 v1=>#[v0,v1]) rfl rfl kR) ?_)));refine qz hb2 rfl rfl gz rfl qX (fun w12 hq hs=>?_);replace hB:=hB.tr1 hs lo2;replace hb2:=hq;refine zq (e_S (q8 (qQ (qW (qQ (y8 (qW (qQ (qK (.inl rfl) rfl (qq U43 rfl rfl hb2.range0 gz) ?_)))))))));exact⟨xj (hR'.trans (xy (c:=5) om hty dE)),hB⟩
  have hmal:=mal_no c53;refine zK (e_S (zz (z4 (wl (zV QJ HQ dE rfl rfl rfl) (wl (zQ (v:= .slice _ _ _) U73 rfl rfl (hb4.cell rfl)) (wl (x6 U73 rfl) (wmI rfl (zq (e_S (zY ?_))))))))));refine x8 [7,8,59,60,61,62,63,64,65,66,67,68,69,70,71,72,73,74,75,76,77,78,79,80,81,82,83,84,85,86,87] (fun m g w'=>∃ (j:Nat) (last:Int),j≤(l[k]'hlt).par.length∧m=(l[k]'hlt).par.length - j∧g 59= .int .i64 j∧w8=w'∧(j=0→last= -1)∧(∀ h:0 < j∧j - 1 < (l[k]'hlt).par.length,last=((l[k]'hlt).par[j - 1]'h.2))∧vW l k=jK k last ((l[k]'hlt).par.drop j)) ((l[k]'hlt).par.length) ?_ (fun m g17 w13 hI=>?_)
  ·exact⟨0,-1,Nat.zero_le _,rfl,rfl,rfl,fun _=>rfl,fun h=>by omega,O6 l k hlt hnm hsn hmal⟩
  obtain⟨j,last,hj,hmj,h59,rfl,hl0,hl1,hP⟩:=hI;refine qv 59 (.int .i64 j) h59 nu (zz (z4 (wl (x9 rfl rfl) (zq (e_S (zz ?_))))));refine qx rfl (fun c60=>?_) (fun c60=>?_)
  ·have hlj:j < (l[k]'hlt).par.length:=by omega
   have hmx:=hpar.1;unfold jJ at hmx;have hpar':=hpar;obtain⟨pb,po,rfl,hpb,hpc⟩:=hpar.at_ hlj;replace hpc:=hB.cell hpb hpc;have hpd:∀ h:j - 1 < (l[k]'hlt).par.length,w8.cell? ⟨pb,po + (j - 1) * 1,none⟩=some (.int .i64 ((l[k]'hlt).par[j - 1]'h)):=fun h=>by
     obtain⟨pb2,po2,he,hpb2,hpc2⟩:=hpar'.at_ h;cases he;exact hB.cell hpb2 hpc2
   refine zK (e_S (zz (zY (zz (z4 (wmI rfl (wl (xX (i:=j) U73 sz3 rfl rfl om rfl) (wl (zQ (v:= .int _ _) U3 rfl rfl hpc) (waI rfl (waI rfl (zq (e_S (zz (zz ?_))))))))))))));refine y7 [64,65,66,67,68,69,70] 70 (.bool (decide ((l[k]'hlt).par[j] < 0∨(k:Int)≤(l[k]'hlt).par[j]))) nu ?_ (fun gq=>?_)
   ·refine z4 (wmI rfl (wl (x9 rfl rfl) (wmB rfl ?_)));refine zJ 66 rfl (fun g66=>?_) (fun g66=>?_)
    ·refine zy 66 rfl rfl rfl (zy 66 rfl rfl rfl (zy 66 rfl rfl rfl (wl (qw (v:= .bool _) rfl rfl) ?_)));refine zq (e_R ⟨rfl,agA,?_⟩);exact clA
    refine zw 66 rfl rfl (wmI rfl (zw 66 rfl rfl (wmI rfl (zw 66 rfl rfl (wl (vK rfl rfl) (wl (qV (v:= .bool _) rfl rfl) ?_))))));refine zq (e_R ⟨rfl,agA,?_⟩);exact clA
   refine e_S ?_;refine qx rfl (fun c70=>?_) (fun c70=>?_)
   ·have hty:vW l k=3:=by rw [hP,List.drop_eq_getElem_cons hlj];simp only [jK,if_pos c70]
    refine zz (z4 (wmI rfl (wl (vZ (v0:= .int _ _) (v1:= .int _ _) (fun v0 v1=>#[v0,v1]) rfl rfl kR) ?_)));refine qz hb2 rfl rfl gz rfl qX (fun w14 hq hs=>?_);replace hB:=hB.tr1 hs lo2;replace hb2:=hq;refine zq (e_S (q8 (qQ (qW (qQ (y8 (qW (qW (qQ (y8 (qW (qQ (qK (.inl rfl) rfl (qq U43 rfl rfl hb2.range0 gz) ?_)))))))))))));exact⟨xj (hR'.trans (xy (c:=3) om hty dE)),hB⟩
   refine zK (e_S (zz ?_));refine y7 [73,74,75,76,77,78,79,80,81,82,83,84] 84 (.bool (decide (0 < j∧(l[k]'hlt).par[j]≤((l[k]'hlt).par[j - 1]'om)))) nu ?_ (fun gq=>?_)
   ·refine z4 (wmI rfl (wl (yX rfl rfl) (wmB rfl ?_)));refine zJ 75 rfl (fun g75=>?_) (fun g75=>?_)
    ·refine zw 75 rfl rfl (wmI rfl (zw 75 rfl rfl (wl (zV QJ HQ dE rfl rfl rfl) (zw 75 rfl rfl (wl (zQ (v:= .slice _ _ _) U73 rfl rfl (hb4.cell rfl)) (zw 75 rfl rfl (wmI rfl (zw 75 rfl rfl (wl (u9 (c:=((j - 1:Nat):Int)) rfl rfl om om) (zw 75 rfl rfl (wl (xX (i:=j - 1) U73 sz3 rfl rfl om rfl) (zw 75 rfl rfl (wl (zQ (v:= .int _ _) U3 rfl rfl (hpd om)) (zw 75 rfl rfl (wl (uz rfl rfl) (wl (qw (v:= .bool _) rfl rfl) ?_))))))))))))))));refine zq (e_R ⟨rfl,agA,?_⟩);exact clA
    refine zy 75 rfl rfl rfl (zy 75 rfl rfl rfl (zy 75 rfl rfl rfl (zy 75 rfl rfl rfl (zy 75 rfl rfl rfl (zy 75 rfl rfl rfl (zy 75 rfl rfl rfl (zy 75 rfl rfl rfl (wl (qV (v:= .bool _) rfl rfl) ?_))))))));refine zq (e_R ⟨rfl,agA,?_⟩);exact clA
   refine e_S ?_;refine qx rfl (fun c84=>?_) (fun c84=>?_)
   ·have hty:vW l k=13:=by rw [hP,List.drop_eq_getElem_cons hlj,hl1 ⟨c84.1,by omega⟩];simp only [jK,if_neg c70,if_pos c84.2]
    refine zz (z4 (wmI rfl (wl (vZ (v0:= .int _ _) (v1:= .int _ _) (fun v0 v1=>#[v0,v1]) rfl rfl kR) ?_)));refine qz hb2 rfl rfl gz rfl qX (fun w15 hq hs=>?_);replace hB:=hB.tr1 hs lo2;replace hb2:=hq;refine zq (e_S (q8 (qW (qQ (y8 (qW (qW (qQ (y8 (qW (qQ (qK (.inl rfl) rfl (qq U43 rfl rfl hb2.range0 gz) ?_))))))))))));exact⟨xj (hR'.trans (xy (c:=13) om hty dE)),hB⟩
   have hP':vW l k=jK k (l[k]'hlt).par[j] ((l[k]'hlt).par.drop (j + 1)):=by
     have hnl:¬(l[k]'hlt).par[j]≤last:=fun h=>by
       by_cases e:j=0
       · have:=hl0 e;omega
       · have:=hl1 ⟨by omega,by omega⟩;exact c84 ⟨by omega,by omega⟩
     rw [hP,List.drop_eq_getElem_cons hlj];simp only [jK,if_neg c70,if_neg hnl]
   refine zK (e_B (e_S (z4 (wl (xw rfl rfl rfl om) (wmI rfl (zq (yw ((l[k]'hlt).par.length - (j + 1)) om agA ?_)))))));exact⟨j + 1,(l[k]'hlt).par[j],by omega,rfl,rfl,rfl,fun h=>by omega,fun h=>rfl,hP'⟩
  have hty:=Lib.hid (show vW l k=0 by rw [hP,List.drop_eq_nil_of_le om];rfl);refine xx (vx (yq (vj (e_B (e_S (z4 (wl (xw rfl rfl rfl om) (wmI rfl (zq (yw (l.length - (k + 1)) om agA ?_))))))))));exact⟨k + 1,by omega,rfl,rfl,hB,hb2,hR'.trans (vV hlt hty.out)⟩
 refine xx (vx (yq (vj (e_S (zz (z4 (wl (gZ (vs:=#[]) (cs:=#[.int .i64 0,.int .i64 0]) (by simp) kR) ?_)))))));refine qz hb2 rfl rfl gz rfl qX (fun w16 hq hs=>?_);replace hB:=hB.tr1 hs lo2;replace hb2:=hq;refine zq (e_S (q8 (qK (.inl rfl) rfl (qq U43 rfl rfl hb2.range0 gz) ?_)));exact⟨xj (hR'.trans (jz om)),hB⟩
end Go.Proofs.YtfkbjncidemcbaaDoor
namespace Go.Proofs.YtfkbjncidemcbaaDoor
open Go.RowKit
def M3 (l:List Ty) (i:Nat):List Nat:=match l[i]? with
  | none=>[]
  | some t=>t.par.map Int.toNat
def B8 (l:List Ty):Nat→Nat→Nat→Bool
  | 0,a,b=>decide (a=b)
  | f + 1,a,b=>decide (a=b) || (M3 l a).any (fun p=>B8 l f p b)
def sub (l:List Ty) (a b:Nat):Bool:=B8 l a a b
def VT (l:List Ty):Prop:=∀ i (h:i < l.length),∀ p ∈ (l[i]).par,0≤p∧p < (i:Int)
theorem VT.par {l:List Ty} (h:VT l) {a p:Nat} (hp:p ∈ M3 l a):p < a:=by
  unfold M3 at hp;by_cases ha:a < l.length
  · rw [List.getElem?_eq_getElem ha] at hp
    simp only [List.mem_map] at hp;obtain⟨q,hq,rfl⟩:=hp;have:=h a ha q hq;omega
  · rw [List.getElem?_eq_none om] at hp;cases hp
theorem NY {α:Type} {l:List α} {p q:α→Bool} (h:∀ x ∈ l,p x=q x):l.any p=l.any q:=by
  induction l with
  | nil=>rfl
  | cons a r ih=>
    simp only [List.any_cons];rw [h a (by simp),ih (fun x hx=>h x (by simp [hx]))]
theorem HW {l:List Ty} (hv:VT l) (b:Nat):∀ (n a:Nat),a≤n→∀ f,a≤f→B8 l f a b=B8 l a a b:=by
  intro n
  induction n with
  | zero=>
    intro a ha f hf;have:a=0:=by omega
    subst this;have hp:M3 l 0= []:=by
      cases h:M3 l 0 with
      | nil=>rfl
      | cons p r=>exact absurd (hv.par (a:=0) (p:=p) (by rw [h];simp)) om
    cases f <;> simp [B8,hp]
  | succ n ih=>
    intro a ha f hf;cases a with
    | zero=>exact ih 0 om f om
    | succ a=>
      cases f with
      | zero=>omega
      | succ f=>
        simp only [B8]
        congr 1
        apply NY
        intro p hp;have:=hv.par hp;rw [ih p om f om,ih p om a om]
theorem TV {l:List Ty} (hv:VT l) (a b:Nat):sub l a b=(decide (a=b) || (M3 l a).any (fun p=>sub l p b)):=by
  unfold sub;cases a with
  | zero=>
    have hp:M3 l 0= []:=by
      cases h:M3 l 0 with
      | nil=>rfl
      | cons p r=>exact absurd (hv.par (a:=0) (p:=p) (by rw [h];simp)) om
    simp [B8,hp]
  | succ a=>
    conv=>lhs;unfold B8
    congr 1
    apply NY
    intro p hp;have:=hv.par hp;rw [HW hv b (a + 1) p om a om]
theorem Jx {l:List Ty} (hv:VT l) (a:Nat):sub l a a=true:=by rw [TV hv];simp
theorem Xj {l:List Ty} (hv:VT l) (a b:Nat):sub l a b=true ↔ a=b∨∃ p ∈ M3 l a,sub l p b=true:=by
  rw [TV hv];simp
theorem sub_le {l:List Ty} (hv:VT l):∀ (n a b:Nat),a≤n→sub l a b=true→b≤a:=by
  intro n
  induction n with
  | zero=>
    intro a b ha h;rcases(Xj hv a b).1 h with rfl | ⟨p,hp,_⟩
    · omega
    · have:=hv.par hp;omega
  | succ n ih=>
    intro a b ha h;rcases(Xj hv a b).1 h with rfl | ⟨p,hp,hs⟩
    · omega
    · have:=hv.par hp
      have:=ih p b om hs;omega
theorem Jj {l:List Ty} (hv:VT l) {a b:Nat} (h:sub l a b=true):b≤a:=sub_le hv a a b (Nat.le_refl _) h
theorem HV {l:List Ty} (hv:VT l) (c:Nat):∀ (n a b:Nat),a≤n→sub l a b=true→sub l b c=true→sub l a c=true:=by
  intro n
  induction n with
  | zero=>
    intro a b ha h h2;rcases(Xj hv a b).1 h with rfl | ⟨p,hp,_⟩
    · exact h2
    · have:=hv.par hp;omega
  | succ n ih=>
    intro a b ha h h2;rcases(Xj hv a b).1 h with rfl | ⟨p,hp,hs⟩
    · exact h2
    · have:=hv.par hp
      exact(Xj hv a c).2 (.inr ⟨p,hp,ih p b om hs h2⟩)
theorem N5 {l:List Ty} (hv:VT l) {a b c:Nat} (h:sub l a b=true) (h2:sub l b c=true):sub l a c=true:=HV hv c a a b (Nat.le_refl _) h h2
theorem sub_par {l:List Ty} (hv:VT l) {i:Nat} (hi:i < l.length) {p:Int} (hp:p ∈ (l[i]).par):sub l i p.toNat=true:=by
  refine(Xj hv i _).2 (.inr ⟨p.toNat,?_,Jx hv _⟩);simp only [M3,List.getElem?_eq_getElem hi,List.mem_map];exact⟨p,hp,rfl⟩
def I7 (ps:List Int) (x:Nat):Bool:=ps.any (fun p=>decide (p=(x:Int)))
theorem BW (ps:List Int) (x:Nat):I7 ps x=true ↔ (x:Int) ∈ ps:=by simp [I7]
theorem GZ (ps:List Int) {j:Nat} (hj:j < ps.length) (x:Nat):I7 (ps.take (j + 1)) x=(I7 (ps.take j) x || decide (ps[j]=(x:Int))):=by
  simp only [I7];rw [List.take_succ_eq_append_getElem hj,List.any_append];simp
structure Marks (l:List Ty) (a i:Nat) (mk:Nat→Bool):Prop where
  ok:∀ j,mk j=true→sub l a j=true
  all:∀ c,c≤i→sub l a c=true→∃ j,j≤i∧mk j=true∧sub l j c=true
theorem Marks.start {l:List Ty} (hv:VT l) (a:Nat):Marks l a a (fun j=>if j=a then true else false):=
  ⟨fun j h=>by
    by_cases e:j=a
    · subst e;exact Jx hv _
    · simp [e] at h,fun c _ h=>⟨a,Nat.le_refl _,by simp,h⟩⟩
theorem Marks.yes {l:List Ty} (hv:VT l) {a i:Nat} {mk:Nat→Bool} (h:Marks l a i mk) (hi:i < l.length) (hm:mk i=true):Marks l a (i - 1) (fun x=>mk x || I7 (l[i]).par x):=
  ⟨fun j hj=>by
    simp only [Bool.or_eq_true] at hj
    rcases hj with hj | hj
    · exact h.ok j hj
    · have:=sub_par hv hi ((BW _ _).1 hj)
      simp only [Int.toNat_natCast] at this
      exact N5 hv (h.ok i hm) this,fun c hc hs=>by
    by_cases hi0:i=0
    · subst hi0
      obtain⟨j,hj,h1,h2⟩:=h.all c om hs
      exact⟨j,by omega,by simp [h1],h2⟩
    obtain⟨j,hj,h1,h2⟩:=h.all c om hs
    by_cases e:j=i
    · subst e
      rcases(Xj hv j c).1 h2 with rfl | ⟨p,hp,hps⟩
      · omega
      · have hlt:=hv.par hp
        refine⟨p,by omega,?_,hps⟩
        simp only [M3,List.getElem?_eq_getElem hi,List.mem_map] at hp
        obtain⟨q,hq,rfl⟩:=hp
        have:=hv j hi q hq
        have hq':((q.toNat:Nat):Int) ∈ (l[j]).par:=by rw [Int.toNat_of_nonneg this.1];exact hq
        simp only [Bool.or_eq_true]
        exact .inr ((BW _ _).2 hq')
    · exact⟨j,by omega,by simp [h1],h2⟩⟩
theorem Marks.no {l:List Ty} {a i:Nat} {mk:Nat→Bool} (h:Marks l a i mk) (hm:mk i=false):Marks l a (i - 1) mk:=
  ⟨h.ok,fun c hc hs=>by
    obtain⟨j,hj,h1,h2⟩:=h.all c om hs
    by_cases e:j=i
    · subst e;rw [hm] at h1;cases h1
    · exact⟨j,by omega,h1,h2⟩⟩
theorem Marks.end_ {l:List Ty} (hv:VT l) {a b i:Nat} {mk:Nat→Bool} (h:Marks l a i mk) (hi:i≤b) (hb:b≤a→b≤i):mk b=sub l a b:=by
  cases hs:sub l a b
  · cases hm:mk b
    · rfl
    · rw [h.ok b hm] at hs;cases hs
  · have hle:=Jj hv hs
    have hib:i=b:=Nat.le_antisymm hi (hb hle);subst hib;obtain⟨j,hj,h1,h2⟩:=h.all i (Nat.le_refl _) hs;have:=Jj hv h2;have:j=i:=by omega
    subst this;exact h1
theorem in4:(Tryd.prog.info? 4).map (fun i=>(i.zero,i.size,i.bytes))=some (some (.bool false),1,1):=by kernel_rfl
theorem sz4:(Tryd.prog.info? 4).map (·.size)=some 1:=by kernel_rfl
theorem O9 (A:Option Addr) (c:Nat) (l:List Ty) (a b:Nat) (w:World) (hT:TypesIn w A l) (hv:VT l) (h60:l.length≤60) (ha:a < l.length) (hb:b < l.length):Calls Tryd.prog 50 #[.slice A l.length c,.int .i64 a,.int .i64 b] w fun e w'=>e= .returned (.bool (sub l a b))∧Bel w w':=by
 have hmx:=hT.1;unfold jJ at hmx;refine enter Tryd.func50 Tryd.ntmps50 rfl (Nat.le_of_ble_eq_true rfl) ?_;have hB:Bel w w:=Below.refl _ _;refine zz (z4 (waB rfl (zq (e_S (zz (z4 (wmS rfl (wl (x6 U22 rfl) ?_))))))));refine Vy (m:=l.length) ZQ in4 rfl rfl rfl om hmx (fun b13 w1 hb13 hs hr=>?_);have lo13:=nLT (Bel.size hB) hr;replace hB:=hB.tr0 hs;refine waS rfl (zq (e_S (zz (z4 (wmS rfl (wmI rfl (wl (xX (i:=a) ZQ sz4 rfl rfl om rfl) ?_)))))));refine vw (v:= .bool _) hb13 rfl rfl sz4 (by rw [row_size];omega) rfl oq (fun w2 hq hs=>?_);replace hB:=hB.tr1 hs lo13;replace hb13:=hq;refine zq (e_S (zz (zz ?_)));have hb13':Blk w2 b13 4 (row l.length (fun j=> .bool (if j=a then true else false))):=by
   rw [show (row l.length (fun j=>Value.bool (if j=a then true else false)))=row l.length (fun j=>if j=a then Value.bool true else Value.bool false) from j6 (fun j _=>by split <;> rfl)];exact hb13
 refine z4 (wmI rfl (waI rfl (zq (e_S (zY ?_)))));refine x8 [8,10,18,19,20,21,22,23,24,25,26,27,28,29,30,31,32,33,34,35,36,37,38,39,40] (fun m g w'=>∃ (i:Nat) (mk:Nat→Bool),i≤a∧m=i∧g 8= .int .i64 i∧(b≤a→b≤i)∧Bel w w'∧Blk w' b13 4 (row l.length (fun j=> .bool (mk j)))∧Marks l a i mk) (a) ?_ (fun m g4 w3 hI=>?_)
 ·exact⟨a,_,Nat.le_refl _,rfl,rfl,fun h=>h,hB,hb13',Marks.start hv a⟩
 obtain⟨i,mk,hi,hm,h8,hbi,hB,hb13,hM⟩:=hI;refine qv 8 (.int .i64 i) h8 nu (zz (zz (z4 (wmI rfl (wmI rfl (wl (yX rfl rfl) (zq (e_S ?_))))))));refine qx rfl (fun c20=>?_) (fun c20=>?_)
 ·refine zK (e_S (zz (zY (zz (z4 (wmS rfl (wmI rfl (wl (xX (i:=i) ZQ sz4 rfl rfl om rfl) (wl (zQ (v:= .bool _) U4 rfl rfl (hb13.cell (jV om))) (zq (e_S ?_)))))))))));refine kZ rfl (fun c26=>?_) (fun c26=>?_)
  ·have hil:i < l.length:=by omega
   obtain⟨tb,to,A',cp,rfl,htb,htr,hpar⟩:=hT.at_ hB hil;have hpx:=hpar.1;unfold jJ at hpx;refine zz (z4 (wmS rfl (wmI rfl (wl (xX (i:=i) U22 Y7 rfl rfl om rfl) (wl (zV QJ HQ dE rfl rfl rfl) (wl (zQ (v:= .slice _ _ _) U73 rfl rfl (htr 1 _ rfl)) (wl (x6 U73 rfl) (wmI rfl (zq (e_S (zY ?_)))))))))));refine x8 [10,33,34,35,36,37,38,39,40] (fun m g w'=>∃ (j:Nat),j≤(l[i]'hil).par.length∧m=(l[i]'hil).par.length - j∧g 33= .int .i64 j∧Bel w w'∧Blk w' b13 4 (row l.length (fun x=> .bool (mk x || I7 ((l[i]'hil).par.take j) x)))) ((l[i]'hil).par.length) ?_ (fun m g8 w4 hI=>?_)
   ·refine⟨0,Nat.zero_le _,rfl,rfl,hB,?_⟩;rw [show (row l.length (fun x=>Value.bool (mk x || I7 ((l[i]'hil).par.take 0) x)))=row l.length (fun j=> .bool (mk j)) from j6 (fun x _=>by simp [I7])];exact hb13
   obtain⟨j,hj,hmj,h33,hB,hb13⟩:=hI;refine qv 33 (.int .i64 j) h33 nu (zz (z4 (wl (x9 rfl rfl) (zq (e_S (zz ?_))))));refine qx rfl (fun c34=>?_) (fun c34=>?_)
   ·have hlj:j < (l[i]'hil).par.length:=by omega
    obtain⟨pb,po,rfl,hpb,hpc⟩:=hpar.at_ hlj;replace hpc:=hB.cell hpb hpc;have hpr:=hv i hil _ (List.getElem_mem hlj);refine zK (e_S (zz (zY (zz (z4 (wl (xX (i:=j) U73 sz3 rfl rfl om rfl) (wl (zQ (v:= .int _ _) U3 rfl rfl hpc) (waI rfl (zq (e_S (z4 (wmS rfl (wmI rfl (wl (xX (i:=((l[i]'hil).par[j]).toNat) ZQ sz4 rfl (show ev _ _ _=_ from congrArg (Value.int .i64) (Int.toNat_of_nonneg hpr.1).symm) om rfl) ?_))))))))))))));refine vw (v:= .bool _) hb13 rfl rfl sz4 (by rw [row_size];omega) rfl oq (fun w5 hq hs=>?_);replace hB:=hB.tr1 hs lo13;replace hb13:=hq;refine zq (e_B (e_S (z4 (wl (xw rfl rfl rfl om) (wmI rfl (zq (yw ((l[i]'hil).par.length - (j + 1)) om agA ?_)))))));refine⟨j + 1,by omega,rfl,rfl,hB,?_⟩
    rw [show (row l.length (fun x=>Value.bool (mk x || I7 ((l[i]'hil).par.take (j + 1)) x)))=row l.length (fun x=>if x=((l[i]'hil).par[j]).toNat then Value.bool true else .bool (mk x || I7 ((l[i]'hil).par.take j) x)) from j6 (fun x _=>by
      rw [GZ _ hlj];by_cases e:x=((l[i]'hil).par[j]).toNat
      · rw [if_pos e];have:(l[i]'hil).par[j]=(x:Int):=by omega
        simp [this]
      · rw [if_neg e];have:¬(l[i]'hil).par[j]=(x:Int):=by omega
        simp [this])]
    exact hb13
   have hM':=hM.yes hv hil c26;have hjl:j=(l[i]'hil).par.length:=by omega
   rw [hjl,List.take_length] at hb13;obtain⟨mk',hmk'⟩:∃ mk':Nat→Bool,mk'=fun x=>mk x || I7 (l[i]'hil).par x:=⟨_,rfl⟩
   rw [show (row l.length (fun x=>Value.bool (mk x || I7 (l[i]'hil).par x)))=row l.length (fun x=> .bool (mk' x)) from j6 (fun x _=>by rw [hmk'])] at hb13;rw [← hmk'] at hM';refine xx (vx (yq (vj (e_B (e_S (z4 (wmI rfl (wl (u9 (c:=((i - 1:Nat):Int)) rfl rfl om om) (waI rfl (zq (yw (i - 1) om agA ?_)))))))))));exact⟨i - 1,mk',by omega,rfl,rfl,fun h=>by omega,hB,hb13,hM'⟩
  have hM':=hM.no c26;obtain⟨mk',hmk'⟩:∃ mk',mk'=mk:=⟨_,rfl⟩
  rw [← hmk'] at hM' hb13;clear hmk';refine zK (e_B (e_S (z4 (wmI rfl (wl (u9 (c:=((i - 1:Nat):Int)) rfl rfl om om) (waI rfl (zq (yw (i - 1) om agA ?_))))))));exact⟨i - 1,mk',by omega,rfl,rfl,fun h=>by omega,hB,hb13,hM'⟩
 refine xx (vx (yq (vj (e_S (zz (z4 (wmS rfl (wmI rfl (wl (xX (i:=b) ZQ sz4 rfl rfl om rfl) (wl (zQ (v:= .bool _) U4 rfl rfl (hb13.cell (jV om))) (waB rfl (zq (e_S (q8 (qK (.inl rfl) rfl rfl ?_)))))))))))))));exact⟨u7 (hM.end_ hv om hbi).symm,hB⟩
end Go.Proofs.YtfkbjncidemcbaaDoor
namespace Go.Proofs.YtfkbjncidemcbaaDoor
open Go.RowKit
def kv (p:Nat→Bool):Nat→Nat
  | 0=>0
  | n + 1=>kv p n ||| (if p n then 2 ^ n else 0)
theorem kj (p:Nat→Bool):∀ (n j:Nat),(kv p n).testBit j=(decide (j < n) && p j)
  | 0,j=>by simp [kv]
  | n + 1,j=>by
    rw [kv,Nat.testBit_or,kj p n j]
    by_cases h:j=n
    · subst h
      cases hp:p j <;> simp [Nat.testBit_two_pow_self]
    · have h1:(if p n then 2 ^ n else 0:Nat).testBit j=false:=by
        cases hp:p n
        · simp
        · simp [Ne.symm h]
      have h2:decide (j < n + 1)=decide (j < n):=by simp;omega
      rw [h1,h2];simp
theorem mask_lt (p:Nat→Bool) (n:Nat):kv p n < 2 ^ n:=by
  apply Nat.lt_pow_two_of_testBit
  intro i hi;rw [kj];simp;omega
theorem ZK (p:Nat→Bool) {n:Nat} (h:n≤60):kv p n < 18446744073709551616:=by
  have h1:=mask_lt p n;have h2:2 ^ n≤2 ^ 60:=Nat.pow_le_pow_right dE h;have h3:(2:Nat) ^ 60=1152921504606846976:=by decide
  omega
theorem YV {x:Nat} {p:Nat→Bool} {n:Nat} (h:∀ j,x.testBit j=(decide (j < n) && p j)):x=kv p n:=
  Nat.eq_of_testBit_eq (fun j=>by rw [h,kj])
theorem kq {p q:Nat→Bool} {n:Nat} (h:∀ j,j < n→p j=q j):kv p n=kv q n:=by
  apply YV
  intro j;rw [kj];by_cases hj:j < n
  · rw [h j hj]
  · simp [hj]
theorem Ww (p q:Nat→Bool) (n:Nat):kv p n ||| kv q n=kv (fun j=>p j || q j) n:=
  YV (fun j=>by rw [Nat.testBit_or,kj,kj];cases decide (j < n) <;> simp)
theorem mask_and (p q:Nat→Bool) (n:Nat):kv p n &&& kv q n=kv (fun j=>p j && q j) n:=
  YV (fun j=>by rw [Nat.testBit_and,kj,kj];cases decide (j < n) <;> simp)
theorem S6 {k n:Nat} (h:k < n):2 ^ k=kv (fun j=>decide (j=k)) n:=by
  apply YV
  intro j;rw [Nat.testBit_two_pow];by_cases e:k=j
  · subst e;simp [h]
  · simp [e,Ne.symm e]
theorem mask_zero (n:Nat):kv (fun _=>false) n=0:=by
  symm;apply YV;intro j;simp
theorem mask_eq_zero {p:Nat→Bool} {n:Nat}:kv p n=0 ↔ ∀ j,j < n→p j=false:=by
  constructor
  · intro h j hj
    have:=kj p n j;rw [h] at this
    simpa [hj] using this.symm
  · intro h
    rw [← mask_zero n];exact kq h
theorem mask_inj {p q:Nat→Bool} {n:Nat}:kv p n=kv q n ↔ ∀ j,j < n→p j=q j:=by
  constructor
  · intro h j hj
    have h1:=kj p n j;have h2:=kj q n j;rw [h] at h1;rw [h1] at h2
    simpa [hj] using h2
  · exact kq
theorem Ey (x j:Nat):decide (((x >>> j) &&& 1)=1)=x.testBit j:=by
  rw [Nat.testBit_eq_decide_div_mod_eq,Nat.shiftRight_eq_div_pow,Nat.and_one_is_mod]
theorem Kw {p:Nat→Bool} {n:Nat} (hn:n≤60) (h0:kv p n≠0):Lib.ctz 64 (kv p n) < n∧p (Lib.ctz 64 (kv p n))=true∧∀ j,j < Lib.ctz 64 (kv p n)→p j=false:=by
  have hlt:kv p n < 2 ^ 64:=by
    have h1:=ZK p hn;have h2:(2:Nat) ^ 64=18446744073709551616:=by decide
    omega
  obtain⟨m,hm,hk⟩:=Lib.ctzFrom_spec 64 (kv p n) om hlt;have e:Lib.ctz 64 (kv p n)=Lib.ctzFrom 64 (kv p n):=by simp [Lib.ctz,h0]
  rw [e]
  generalize hc:Lib.ctzFrom 64 (kv p n)=c at *
  have hb:∀ j,(kv p n).testBit j=(decide (c≤j) && (2 * m + 1).testBit (j - c)):=by
    intro j;rw [hm,Nat.mul_comm,Nat.testBit_mul_two_pow]
  have hcb:(kv p n).testBit c=true:=by rw [hb];simp
  rw [kj] at hcb;simp only [Bool.and_eq_true,decide_eq_true_eq] at hcb;refine⟨hcb.1,hcb.2,fun j hj=>?_⟩;have:=hb j;rw [kj] at this;have hcj:¬c≤j:=by omega
  simp only [hcj,decide_false,Bool.false_and] at this;have hjn:j < n:=by omega
  simpa [hjn] using this
def TabIn (w:World):Prop:=0 < w.heap.size∧∀ k,k < 64→w.cell? ⟨0,0 + k * 1,none⟩=some (.int .u8 ((Lib.deBruijn64tab.getD k 0:Nat):Int))
theorem TabIn.mono {w w':World} (h:TabIn w) (hb:Bel w w'):TabIn w':=⟨nLL h.1 hb.size,fun k hk=>hb.cell h.1 (h.2 k hk)⟩
theorem ctz_eq {x c:Nat} (h0:x≠0) (hx:x < 18446744073709551616) (hc:18446744073709551616 - x=c):x &&& c=2 ^ Lib.ctz 64 x∧Lib.ctz 64 x < 64:=by
  subst hc
  exact Lib.lowest_bit 64 x h0 (by have : (2 : Nat) ^ 64 = 18446744073709551616 := by decide
                                   omega)
def tzI (x:Nat):Nat:=((x &&& (18446744073709551616 - x)) * 285870213051353865 % 18446744073709551616) >>> 58
theorem tzI_spec {x:Nat} (h0:x≠0) (hx:x < 18446744073709551616):tzI x < 64∧Lib.deBruijn64tab.getD (tzI x) 0=Lib.ctz 64 x:=by
  have h:=ctz_eq h0 hx rfl;have h2:=Lib.deBruijn64_at (Lib.ctz 64 x) h.2;unfold tzI;rw [h.1,Nat.shiftRight_eq_div_pow];exact h2
def upN (l:List Ty) (i:Nat):Nat:=kv (fun j=>sub l i j) l.length
def Zj (l:List Ty) (j:Nat):Nat:=kv (fun i=>sub l i j) l.length
def rU (n:Nat) (g:Nat→Nat):Array Value:=row n (fun i=> .int .u64 (g i))
def TableIn (w:World) (l:List Ty) (bu bd:Nat):Prop:=Blk w bu 126 (rU l.length (upN l))∧Blk w bd 126 (rU l.length (Zj l))
theorem Blk.bel {w w':World} {b:Nat} {t:TypeId} {cs:Array Value} (h:Blk w b t cs) (hb:Bel w w'):Blk w' b t cs:=(hb.block b h.lt).trans h
theorem TableIn.mono {w w':World} {l:List Ty} {bu bd:Nat} (h:TableIn w l bu bd) (hb:Bel w w'):TableIn w' l bu bd:=⟨h.1.bel hb,h.2.bel hb⟩
theorem TableIn.up {w:World} {l:List Ty} {bu bd i:Nat} (h:TableIn w l bu bd) (hi:i < l.length):w.cell? ⟨bu,0 + i * 1,none⟩=some (.int .u64 (upN l i)):=h.1.cell (jV hi)
theorem TableIn.down {w:World} {l:List Ty} {bu bd i:Nat} (h:TableIn w l bu bd) (hi:i < l.length):w.cell? ⟨bd,0 + i * 1,none⟩=some (.int .u64 (Zj l i)):=h.2.cell (jV hi)
theorem T8 {l:List Ty} (h:l.length≤60) (i:Nat):upN l i < 18446744073709551616:=ZK _ h
theorem SW {l:List Ty} (h:l.length≤60) (i:Nat):Zj l i < 18446744073709551616:=ZK _ h
def J9 (n bu bd:Nat):Value:= .agg #[.slice (some ⟨bu,0,none⟩) n n,.slice (some ⟨bd,0,none⟩) n n]
def uV (l:List Ty) (a b:Nat) (i:Nat):Bool:=sub l i a && sub l i b
def jq (l:List Ty) (a b:Nat):Nat:=kv (uV l a b) l.length
theorem comm_and (l:List Ty) (a b:Nat):Zj l a &&& Zj l b=jq l a b:=mask_and _ _ _
def Z5 (l:List Ty) (a b:Nat):Nat×Bool×Bool:=
  if jq l a b=0 then (0,false,false)
  else if Zj l (Lib.ctz 64 (jq l a b))≠jq l a b then (0,false,true)
  else (Lib.ctz 64 (jq l a b),true,false)
def meetV (r:Nat×Bool×Bool):Value:= .tuple #[.int .i64 r.1,.bool r.2.1,.bool r.2.2]
theorem N9 {m:Nat} {p q:Bool} {r:Nat×Bool×Bool} (h:r=(m,p,q)):Ending.returned (.tuple #[.int .i64 (m:Int),.bool p,.bool q])= .returned (meetV r):=by rw [h];rfl
end Go.Proofs.YtfkbjncidemcbaaDoor
namespace Go.Proofs.YtfkbjncidemcbaaDoor
open Go.RowKit
theorem fn86:qj Tryd.prog 86=true:=by kernel_rfl
theorem Qz:(Tryd.prog.info? 126).map (·.size)=some 1:=by kernel_rfl
theorem sz5_Meet:(Tryd.prog.info? 5).map (·.size)=some 1:=by kernel_rfl
theorem O8:(Tryd.prog.info? 87).map (·.size)=some 1:=by kernel_rfl
theorem tz_any (x:Nat) (w:World) (h0:x≠0) (hx:x < 18446744073709551616) (hTab:TabIn w):Calls Tryd.prog 86 #[.int .u64 x] w fun e w'=>e= .returned (.int .i64 (Lib.ctz 64 x:Nat))∧w=w':=by
 have hz:=tzI_spec h0 hx;have hgd:=hTab.2 (tzI x) hz.1;rw [hz.2] at hgd;refine enter Tryd.func86 Tryd.ntmps86 rfl (Nat.le_of_ble_eq_true rfl) (zz (z4 (waI rfl (zq (e_S (zz (zz (z4 (wmI rfl (wl (xv rfl rfl) (zq (e_S ?_))))))))))));refine qx rfl (fun c4=>?_) (fun c4=>?_)
 ·exact absurd c4 om
 refine zK (e_S (zz (z4 (wmI rfl (wmI rfl (wl (r_negU rfl om hx rfl) (wl (J0 (b:=18446744073709551616 - x) rfl rfl hx om) (wl (r_mulU (b:=285870213051353865) rfl rfl rfl) (wl (Wz (b:=58) rfl rfl dE rfl) (wl (BX (i:=tzI x) Tryd.underlying160 sz5_Meet rfl rfl hz.1 rfl) (wl (zQ (v:= .int _ _) U5 rfl rfl hgd) (wl (Nz U5 U3 rfl (by have:=(ctz_eq h0 hx rfl).2;omega)) (waI rfl (zq (e_S (q8 (qK (.inl rfl) rfl rfl ?_)))))))))))))))));exact⟨rfl,rfl⟩
theorem meet_any (l:List Ty) (bu bd a b:Nat) (w:World) (hTab:TabIn w) (hI:TableIn w l bu bd) (_hv:VT l) (h60:l.length≤60) (ha:a < l.length) (hb:b < l.length):Calls Tryd.prog 63 #[J9 l.length bu bd,.int .i64 a,.int .i64 b] w fun e w'=>e= .returned (meetV (Z5 l a b))∧Bel w w':=by
 have hca:=SW h60 a;have hcb:=SW h60 b;have hcc:jq l a b < 18446744073709551616:=ZK _ h60;refine enter Tryd.func63 Tryd.ntmps63 rfl (Nat.le_of_ble_eq_true rfl) ?_;have hB:Bel w w:=Below.refl _ _;refine zz (z4 ?_);refine yx (v:= .agg #[_,_]) (cs:=#[_,_]) rfl rfl (fun b3 w1 hb3 hs hr=>?_);replace hB:=hB.tr0 hs;refine waI rfl (waB rfl (waB rfl (zq (e_S (zz ?_)))));refine Qj kR kR (fun w2 hs=>?_);replace hB:=hB.tr0 hs;replace hb3:=hb3.tr0 hs;refine ws (zV U89 O8 dE rfl rfl rfl) (ws (zQ (v:= .slice _ _ _) U87 rfl rfl (hb3.cell rfl)) (ws (qy (v:= .int _ _) rfl) (ws (xX (i:=a) U87 Qz rfl rfl om rfl) (ws (zQ (v:= .int _ _) Vx rfl rfl ((hI.mono hB).down ha)) (ws (zV U89 O8 dE rfl rfl rfl) (ws (zQ (v:= .slice _ _ _) U87 rfl rfl (hb3.cell rfl)) (ws (qy (v:= .int _ _) rfl) (ws (xX (i:=b) U87 Qz rfl rfl om rfl) (ws (zQ (v:= .int _ _) Vx rfl rfl ((hI.mono hB).down hb)) (ws (J0 rfl rfl hca hcb) (ws (oy (v:= .int .u64 (jq l a b:Nat)) (congrArg (fun z:Nat=>Value.int .u64 (z:Int)) (comm_and l a b))) (o6 (e_S (zz (zz (z4 (wmI rfl (wl (xv rfl rfl) (zq (e_S ?_))))))))))))))))))));refine qx rfl (fun c22=>?_) (fun c22=>?_)
 ·have hz0:jq l a b=0:=by omega
  refine zz (z4 (waI rfl (waB rfl (waB rfl (zq (e_S (q8 (qQ (fin3 (.inl rfl) rfl rfl rfl rfl ?_)))))))));exact⟨N9 (by simp only [Z5,if_pos hz0]),hB⟩
 have hne:jq l a b≠0:=fun h=>c22 (by rw [h];rfl)
 have hz:=Kw h60 hne;refine zK (e_S (zz (z4 (wmI rfl ?_))));refine qJ fn86 (tz_any _ _ hne hcc (hTab.mono hB)) rfl (fun e' w3 hr=>?_);obtain⟨rfl,rfl⟩:=hr;refine⟨_,rfl,?_⟩;refine waI rfl (zq (e_S (zz (zz (z4 (wl (zV U89 O8 dE rfl rfl rfl) (wl (zQ (v:= .slice _ _ _) U87 rfl rfl (hb3.cell rfl)) (wmI rfl (wl (xX (i:=Lib.ctz 64 (jq l a b)) U87 Qz rfl rfl hz.1 rfl) (wl (zQ (v:= .int _ _) Vx rfl rfl ((hI.mono hB).down hz.1)) (wmI rfl (wl (yY rfl rfl) (zq (e_S ?_))))))))))))));refine qx rfl (fun c31=>?_) (fun c31=>?_)
 ·have hne2:Zj l (Lib.ctz 64 (jq l a b))≠jq l a b:=by omega
  refine zz (z4 (waI rfl (waB rfl (waB rfl (zq (e_S (q8 (qQ (fin3 (.inl rfl) rfl rfl rfl rfl ?_)))))))));exact⟨N9 (by simp only [Z5,if_neg hne,if_pos hne2]),hB⟩
 have heq:Zj l (Lib.ctz 64 (jq l a b))=jq l a b:=by omega
 refine zK (e_S (zz (z4 (wmI rfl (waI rfl (waB rfl (waB rfl (zq (e_S (q8 (fin3 (.inl rfl) rfl rfl rfl rfl ?_)))))))))));exact⟨N9 (by simp only [Z5,if_neg hne,heq,ne_eq,not_true_eq_false,if_false]),hB⟩
theorem CJ (l:List Ty) (bu bd a b:Nat) (w:World) (hI:TableIn w l bu bd) (h60:l.length≤60) (ha:a < l.length) (hb:b < l.length):Calls Tryd.prog 68 #[J9 l.length bu bd,.int .i64 a,.int .i64 b] w fun e w'=>e= .returned (.bool (sub l a b))∧Bel w w':=by
 have hca:=T8 h60 a;refine enter Tryd.func68 Tryd.ntmps68 rfl (Nat.le_of_ble_eq_true rfl) ?_;have hB:Bel w w:=Below.refl _ _;refine zz (z4 ?_);refine yx (v:= .agg #[_,_]) (cs:=#[_,_]) rfl rfl (fun b3 w1 hb3 hs hr=>?_);replace hB:=hB.tr0 hs;refine waB rfl (zq (e_S (zz (z4 (wl (zV U89 O8 dE rfl rfl rfl) (wl (zQ (v:= .slice _ _ _) U87 rfl rfl (hb3.cell rfl)) (wmI rfl (wl (xX (i:=a) U87 Qz rfl rfl om rfl) (wl (zQ (v:= .int _ _) Vx rfl rfl ((hI.mono hB).up ha)) (wmI rfl (wl (Wz (b:=b) rfl rfl om rfl) (wl (J0 (b:=1) rfl rfl (Nat.lt_of_le_of_lt (Nat.shiftRight_le _ _) hca) dE) (wl (xv rfl rfl) (waB rfl (zq (e_S (q8 (qK (.inl rfl) rfl rfl ?_))))))))))))))))));refine⟨u7 ?_,hB⟩;have h1:=Ey (upN l a) b;unfold upN at h1;rw [kj] at h1;simp only [hb,decide_true,Bool.true_and] at h1;rw [← h1];exact decide_eq_decide.2 (by unfold upN;omega)
end Go.Proofs.YtfkbjncidemcbaaDoor
