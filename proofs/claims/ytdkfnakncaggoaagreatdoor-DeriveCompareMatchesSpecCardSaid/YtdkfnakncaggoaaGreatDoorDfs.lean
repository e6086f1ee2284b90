/- What these functions of the program compute, at every world: glosswright/glosswrightref3.HierarchyFault. Plain laws of the order of types: meets, joins, remainders. No program in sight. Feature graphs as plain values, their faults, and what is reached in them. No program in sight but for how a world holds them. The depth-first traversal of a graph as a relation, the numbers that it gives, and worlds that change in few blocks. -/
import Derived.Test.YtdkfnakncaggoaaGreatDoorU
import Derived.Test.YtdkfnakncaggoaaGreatDoorName
import Derived.Test.YtdkfnakncaggoaaGreatDoorUnmet
namespace Go.Proofs.YtdkfnakncaggoaaGreatDoor
open Go.RowKit
theorem fseen_yes {l:List Ft} {j k:Nat} {s:ByteArray} (hk:k < l.length) (hj:j < k) (h:(l[j]'om).name=s):j9 ((l.take k).map (·.name)) s=true:=by
  simp only [j9,List.any_eq_true,decide_eq_true_eq,List.mem_map];refine⟨_,⟨l[j]'om,?_,rfl⟩,h⟩;rw [List.mem_take_iff_getElem];exact⟨j,by omega,rfl⟩
theorem K0 (f:Nat→Int):∀ (m i:Nat),qy f i m=(0,0)∨∃ j:Nat,qy f i m=(f j,(j:Int))∧f j≠0
  | 0,_=> .inl rfl
  | m + 1,i=>by
    unfold qy
    by_cases h:f i≠0
    · exact .inr ⟨i,by rw [if_pos h],h⟩
    · rw [if_neg h];exact K0 f m (i + 1)
theorem Vw (l:List Ty):ky l=(0,0)∨∃ j:Nat,ky l=(16,(j:Int)):=by
  rcases K0 (Ij l) l.length 0 with h | ⟨j,h,hne⟩
  · exact .inl h
  · refine .inr ⟨j,?_⟩
    have h16:Ij l j=16:=by
      unfold Ij at hne ⊢
      split
      · rfl
      · rename_i hx;rw [if_neg hx] at hne;exact absurd rfl hne
    rw [← h16];exact h
theorem unmI_geq {l:List Ty} (h:0≤CJ l):ky l=(16,CJ l):=by
  rcases Vw l with e | ⟨j,e⟩
  · rw [W7 e] at h;omega
  · rw [M5 e,e]
theorem unmI_lss {l:List Ty} (h:¬0≤CJ l):ky l=(0,0):=by
  rcases Vw l with e | ⟨j,e⟩
  · exact e
  · rw [M5 e] at h;omega
theorem Iz:zQ Tryz.prog 31=true:=by kernel_rfl
theorem fn57:zQ Tryz.prog 57=true:=by kernel_rfl
theorem fn58:zQ Tryz.prog 58=true:=by kernel_rfl
theorem Nx (A B:Option Addr) (c d:Nat) (l:List Ty) (fs:List Ft) (w:World) (hc:l.length≤c) (hd:fs.length≤d) (hT:TypesIn w A l) (hF:FeatsIn w B fs):Calls Tryz.prog 30 #[.agg #[.slice A l.length c,.slice B fs.length d]] w fun e w'=>e= .returned (flV (qY l fs))∧Bel w w':=by
 refine enter Tryz.func30 Tryz.ntmps30 rfl (Nat.le_of_ble_eq_true rfl) ?_;have hB:Bel w w:=Below.refl _ _;refine zn2 ?_;refine qW (v:= .agg #[_,_]) (cs:=#[_,_]) rfl rfl (fun b1 w1 hb1 hs hr=>?_);replace hB:=hB.tr0 hs;refine qZ (cs:=#[.int .i64 0,.int .i64 0]) Q1 rfl (fun b2 w2 hb2 hs hr=>?_);have lo2:=nLT (Bel.size hB) hr;replace hB:=hB.tr0 hs;replace hb1:=hb1.tr0 hs;refine vx ?_;refine zw rfl (fun c12=>?_) (fun c12=>?_)
 ·refine zn2 ?_;refine wl (yz (v0:= .int _ _) (v1:= .int _ _) (fun v0 v1=>#[v0,v1]) rfl rfl kR) ?_;refine zk hb2 rfl rfl xz rfl zK (fun w3 hq hs=>?_);replace hB:=hB.tr1 hs lo2;replace hb2:=hq;refine zn4 ?_;refine x5 (.inl rfl) rfl (zy U37 rfl rfl hb2.range0 xz) ?_;exact⟨qQ (HQ (.inr (.inr om))),hB⟩
 refine zn7 ?_;refine zV fn57 (M8 _ _ _ _ hc (hT.mono hB)) rfl (fun e' w4 hr=>?_);obtain⟨rfl,hs⟩:=hr;replace hs:=sB hs;replace hB:=hB.tr0 hs;replace hb1:=hb1.tr0 hs;replace hb2:=hb2.tr0 hs;refine⟨_,rfl,?_⟩;refine xV (cs:=#[.int .i64 0,.int .i64 0]) Q1 rfl (fun _=>rfl) (fun _=>rfl) xz rfl zK (fun b3 w6 hb3 hs hr=>?_);replace hB:=hB.tr0 hs;replace hb1:=hb1.tr0 hs;replace hb2:=hb2.tr0 hs;refine zn9 ?_;refine zw rfl (fun c19=>?_) (fun c19=>?_)
 ·refine zn3 ?_;refine zk hb2 rfl rfl xz rfl zK (fun w7 hq hs=>?_);replace hB:=hB.tr1 hs lo2;replace hb2:=hq;refine zn4 ?_;refine x5 (.inl rfl) rfl (zy U37 rfl rfl hb2.range0 xz) ?_;exact⟨qQ (SV om om),hB⟩
 have ht0:(xx l).1=0:=by omega
 have hv:=vt_of ht0;have htl:=Kz ht0;refine zn7 ?_;refine zV fn58 (TV _ _ _ _ (hT.mono hB) hv om) rfl (fun e' w8 hr=>?_);obtain⟨rfl,hs⟩:=hr;replace hs:=sB hs;replace hB:=hB.tr0 hs;replace hb1:=hb1.tr0 hs;replace hb2:=hb2.tr0 hs;refine⟨_,rfl,?_⟩;refine zn9 ?_;refine zw rfl (fun c25=>?_) (fun c25=>?_)
 ·have hfin:=SK (fs:=fs) om ht0 (unmI_geq c25);refine zn3 ?_;refine wl (yz (v0:= .int _ _) (v1:= .int _ _) (fun v0 v1=>#[v0,v1]) rfl rfl kR) ?_;refine zk hb2 rfl rfl xz rfl zK (fun w9 hq hs=>?_);replace hB:=hB.tr1 hs lo2;replace hb2:=hq;refine zn4 ?_;refine x5 (.inl rfl) rfl (zy U37 rfl rfl hb2.range0 xz) ?_;exact⟨qQ hfin,hB⟩
 have hR:=Lib.hid (HX (fs:=fs) om ht0 (unmI_lss c25));refine yj ?_;refine q8 [5,6,8,31,32,33,34,35,36,37,38,39,40,41,42,43,44,45,46,47,48,49,50,51,52,53,54,55,56,57,58,59,60,61,62,63,64,65,66,67,68,69,70,71,72,73,74,75,76,77,78,79,80,81,82,83,84,85] (fun m g w'=>∃ (k:Nat),k≤fs.length∧m=fs.length - k∧g 31= .int .i64 k∧Bel w w'∧Blk w' b1 25 #[.slice A l.length c,.slice B fs.length d]∧Blk w' b2 37 #[.int .i64 0,.int .i64 0]∧qY l fs=qy (u4 l.length fs) k (fs.length - k)) (fs.length) ?_ (fun m g10 w10 hI=>?_)
 ·exact⟨0,Nat.zero_le _,rfl,rfl,hB,hb1,hb2,hR.out⟩
 obtain⟨k,hk,hm,h31,hB,hb1,hb2,hR'⟩:=hI;refine zJ 31 (.int .i64 k) h31 nu (zn6 ?_);refine zw rfl (fun c32=>?_) (fun c32=>?_)
 ·have hlt:k < fs.length:=by omega
  obtain⟨tb,to,rfl,htb,htr⟩:=hF.at_ hB hlt;refine zn8 ?_;refine wl (zW U71 rfl rfl htr Rz) ?_;refine qZ (cs:=#[.string ⟨#[]⟩,.int .i64 0,.int .i64 0]) ze71 rfl (fun b6 w11 hb6 hs hr=>?_);have:=nLL hb1.lt hr;have:=nLL hb2.lt hr;have lo6:=nLT (Bel.size hB) hr;replace hB:=hB.tr0 hs;replace hb1:=hb1.tr0 hs;replace hb2:=hb2.tr0 hs;refine waI rfl ?_;refine zk hb6 rfl rfl Rz rfl zK (fun w12 hq hs=>?_);replace hB:=hB.tr1 hs lo6;replace hb1:=hb1.tr1 hs om;replace hb2:=hb2.tr1 hs om;replace hb6:=hq;refine zn7 ?_;refine zV Iz (KZ _ _) rfl (fun e' w13 hr=>?_);obtain⟨rfl,hs⟩:=hr;replace hs:=sB hs;replace hB:=hB.tr0 hs;replace hb1:=hb1.tr0 hs;replace hb2:=hb2.tr0 hs;replace hb6:=hb6.tr0 hs;refine⟨_,rfl,?_⟩;refine zn3 ?_;refine j7 rfl (fun c39=>?_) (fun c39=>?_)
  ·have hty:=ft10 l.length fs k hlt (by simpa using c39);refine zn3 ?_;refine wl (yz (v0:= .int _ _) (v1:= .int _ _) (fun v0 v1=>#[v0,v1]) rfl rfl kR) ?_;refine zk hb2 rfl rfl xz rfl zK (fun w14 hq hs=>?_);replace hB:=hB.tr1 hs lo2;replace hb2:=hq;refine zn9 ?_;refine x5 (.inl rfl) rfl (zy U37 rfl rfl hb2.range0 xz) ?_;exact⟨qQ (hR'.trans (qV (c:=10) om hty dE)),hB⟩
  have hnm:y6 (fs[k]'hlt).name=true:=by simpa using c39
  refine zn8 ?_;refine wl (E2 (h:=k) U23 Rz rfl rfl om) (zn5 ?_);refine q8 [8,47,48,49,50,51,52,53,54,55,56,57,58] (fun m g w'=>∃ (j:Nat),j≤k∧m=k - j∧g 47= .int .i64 j∧Bel w w'∧Blk w' b1 25 #[.slice A l.length c,.slice (some ⟨tb,to,none⟩) fs.length d]∧Blk w' b2 37 #[.int .i64 0,.int .i64 0]∧Blk w' b6 71 #[.string (fs[k]'hlt).name,.int .i64 (fs[k]'hlt).of,.int .i64 (fs[k]'hlt).val]∧j9 ((fs.take j).map (·.name)) (fs[k]'hlt).name=false) (k) ?_ (fun m g15 w15 hI=>?_)
  ·exact⟨0,Nat.zero_le _,rfl,rfl,hB,hb1,hb2,hb6,rfl⟩
  obtain⟨j,hj,hmj,h47,hB,hb1,hb2,hb6,hse⟩:=hI;refine zJ 47 (.int .i64 j) h47 nu (zn6 ?_);refine zw rfl (fun c48=>?_) (fun c48=>?_)
  ·have hjt:j < fs.length:=by omega
   obtain⟨ub,uo,he,hub,hur⟩:=hF.at_ hB hjt;cases he;refine zn7 ?_;refine wl (zW U71 rfl rfl hur Rz) ?_;refine xV (cs:=#[.string ⟨#[]⟩,.int .i64 0,.int .i64 0]) ze71 rfl (fun _=>rfl) (fun _=>rfl) Rz rfl zK (fun b8 w17 hb8 hs hr=>?_);replace hB:=hB.tr0 hs;replace hb1:=hb1.tr0 hs;replace hb2:=hb2.tr0 hs;replace hb6:=hb6.tr0 hs;refine vx ?_;refine zw rfl (fun c55=>?_) (fun c55=>?_)
   ·have hty:=ft7 l.length fs k hlt hnm (fseen_yes hlt om c55);refine zn3 ?_;refine wl (yz (v0:= .int _ _) (v1:= .int _ _) (fun v0 v1=>#[v0,v1]) rfl rfl kR) ?_;refine zk hb2 rfl rfl xz rfl zK (fun w18 hq hs=>?_);replace hB:=hB.tr1 hs lo2;replace hb2:=hq;refine jq ?_;refine x5 (.inl rfl) rfl (zy U37 rfl rfl hb2.range0 xz) ?_;exact⟨qQ (hR'.trans (qV (c:=7) om hty dE)),hB⟩
   have hse':j9 ((fs.take (j + 1)).map (·.name)) (fs[k]'hlt).name=false:=by rw [uz fs hjt,List.map_append,List.map_cons,List.map_nil,gv,hse];simp [c55]
   refine zn7 ?_;refine xv (k - (j + 1)) om agA ?_;exact⟨j + 1,by omega,rfl,rfl,hB,hb1,hb2,hb6,hse'⟩
  have hsn:j9 ((fs.take k).map (·.name)) (fs[k]'hlt).name=false:=by
    have e:k=j:=by omega
    subst e;exact hse
  refine zn6 ?_;refine x7 [59,60,61,62,63,64,65,66,67,68,69,70,71,72,73,74,75,76,77,78,79,80,81,82] 82 (.bool (decide ((fs[k]'hlt).of < 0∨(l.length:Int)≤(fs[k]'hlt).of∨(fs[k]'hlt).val < 0∨(l.length:Int)≤(fs[k]'hlt).val))) nu ?_ (fun gq=>?_)
  ·refine zn5 ?_;refine zj 62 rfl (fun g62=>?_) (fun g62=>?_)
   ·refine zn20 ?_;refine zZ (e_R ⟨rfl,agA,?_⟩);exact clA
   refine oY ?_;refine zj 70 rfl (fun g70=>?_) (fun g70=>?_)
   ·refine yj ?_;refine zZ (e_R ⟨rfl,agA,?_⟩);exact clA
   refine zn8 ?_;refine zj 75 rfl (fun g75=>?_) (fun g75=>?_)
   ·refine zn7 ?_;refine zZ (e_R ⟨rfl,agA,?_⟩);exact clA
   refine jq ?_;refine zZ (e_R ⟨rfl,agA,?_⟩);exact clA
  refine e_S ?_;refine zw rfl (fun c82=>?_) (fun c82=>?_)
  ·have hty:=ft3 l.length fs k hlt hnm hsn c82;refine zn3 ?_;refine wl (yz (v0:= .int _ _) (v1:= .int _ _) (fun v0 v1=>#[v0,v1]) rfl rfl kR) ?_;refine zk hb2 rfl rfl xz rfl zK (fun w19 hq hs=>?_);replace hB:=hB.tr1 hs lo2;replace hb2:=hq;refine zn8 ?_;refine x5 (.inl rfl) rfl (zy U37 rfl rfl hb2.range0 xz) ?_;exact⟨qQ (hR'.trans (qV (c:=3) om hty dE)),hB⟩
  have hty:=ft0 l.length fs k hlt hnm hsn c82;refine zn7 ?_;refine xv (fs.length - (k + 1)) om agA ?_;exact⟨k + 1,by omega,rfl,rfl,hB,hb1,hb2,hR'.trans (yx hlt hty)⟩
 refine zn7 ?_;refine wl (uw (vs:=#[]) (cs:=#[.int .i64 0,.int .i64 0]) (by simp) kR) ?_;refine zk hb2 rfl rfl xz rfl zK (fun w20 hq hs=>?_);replace hB:=hB.tr1 hs lo2;replace hb2:=hq;refine zn3 ?_;refine x5 (.inl rfl) rfl (zy U37 rfl rfl hb2.range0 xz) ?_;exact⟨qQ (hR'.trans (yK om)),hB⟩
end Go.Proofs.YtdkfnakncaggoaaGreatDoor
namespace Go.Proofs.YtdkfnakncaggoaaGreatDoor
open Go.RowKit
def capB (l:List Ty) (a b c:Nat):Bool:=sub l a c && sub l b c
def joinB (l:List Ty) (a b c:Nat):Bool:=capB l a b c && (List.range l.length).all (fun j=>!(!(decide (j=c)) && sub l j c && capB l a b j))
def restN (l:List Ty) (a b k:Nat):Nat:=j6 (fun i=>capB l a b i && decide (k≤i)) l.length
structure RestAt (l:List Ty) (a b k i:Nat):Prop where
  lt:i < l.length
  le:k≤i
  cap:capB l a b i=true
  gap:∀ j,k≤j→j < i→joinB l a b j=false
  next:restN l a b k &&& (restN l a b k - 1)=restN l a b (i + 1)
theorem meet_is {l:List Ty} (hv:VT l) (h60:l.length≤60) {a b m:Nat} (hm:m < l.length) (hcm:kZ l a b m=true) (hs:∀ i,i < l.length→kZ l a b i=true→sub l i m=true):oj l a b=(m,true,false):=by
  have h0:yV l a b≠0:=fun h=>by
    have:=mask_eq_zero.1 h m hm;rw [hcm] at this;cases this
  have hz:=K1 h60 h0;have he:Lib.ctz 64 (yV l a b)=m:=by
    have h1:¬m < Lib.ctz 64 (yV l a b):=fun h=>by
      have:=hz.2.2 m h;rw [hcm] at this;cases this
    have h2:=VY hv (hs _ hz.1 hz.2.1);exact Nat.le_antisymm (Nat.le_of_not_lt h1) h2
  have hd:oJ l (Lib.ctz 64 (yV l a b))=yV l a b:=by
    rw [he];refine vY (fun i hi=>?_);cases h1:sub l i m with
    | true=>
      simp only [kZ,Bool.and_eq_true] at hcm;simp [kZ,Mv hv h1 hcm.1,Mv hv h1 hcm.2]
    | false=>
      cases h2:kZ l a b i with
      | false=>rfl
      | true=>rw [hs i hi h2] at h1;cases h1
  unfold oj;rw [if_neg h0,if_neg (fun h=>h hd),he]
theorem meet_comm (l:List Ty) (a b:Nat):oj l b a=oj l a b:=by
  have e:yV l b a=yV l a b:=vY (fun i _=>Bool.and_comm _ _);unfold oj;rw [e]
structure Sound (l:List Ty):Prop where
  vt:VT l
  pos:0 < l.length
  le:l.length≤60
  all:∀ a b i,a < l.length→b < l.length→i < l.length→kZ l a b i=true→(oj l a b).2.1=true
theorem BZ {l:List Ty} {fs:List Ft} (h:(qY l fs).1=0):Sound l:=by
  unfold qY at h;by_cases h4:40 < fs.length
  · rw [if_pos h4] at h;cases h
  rw [if_neg h4] at h;by_cases ht:(xx l).1≠0
  · rw [if_pos ht] at h;exact absurd h ht
  rw [if_neg ht] at h;have ht0:=Decidable.not_not.1 ht;by_cases hu:(ky l).1≠0
  · rw [if_pos hu] at h;exact absurd h hu
  have hu0:=Decidable.not_not.1 hu;have hv:=vt_of ht0;have hl:=Kz ht0;have h60:l.length≤60:=by omega
  have hlt:∀ a b,a < b→b < l.length→(oj l a b).2.2=false:=fun a b hab hb=>by
    have h1:=ux hu0 b (Nat.zero_le _) om;cases h2:(oj l a b).2.2 with
    | false=>rfl
    | true=>rw [M6 hab h2] at h1;cases h1
  have hall:∀ a b,a < l.length→b < l.length→(oj l a b).2.2=false:=fun a b ha hb=>by
    rcases Nat.lt_trichotomy a b with h1 | h1 | h1
    · exact hlt a b h1 hb
    · subst h1
      have:=meet_is hv h60 (a:=a) (b:=a) ha (by simp [kZ,VW hv]) (fun i _ hc=>by
        simp only [kZ,Bool.and_eq_true] at hc
        exact hc.1)
      rw [this]
    · rw [← meet_comm];exact hlt b a h1 ha
  refine⟨hv,by omega,h60,fun a b i ha hb hi hc=>?_⟩;have h1:=hall a b ha hb;have h0:yV l a b≠0:=fun h=>by
    have:=mask_eq_zero.1 h i hi;rw [hc] at this;cases this
  by_cases hd:oJ l (Lib.ctz 64 (yV l a b))≠yV l a b
  · simp only [oj,if_neg h0,if_pos hd] at h1;cases h1
  · simp only [oj,if_neg h0,if_neg hd]
theorem sub_anti {l:List Ty} (hv:VT l) {a b:Nat} (h:sub l a b=true) (h2:sub l b a=true):a=b:=Nat.le_antisymm (VY hv h2) (VY hv h)
structure Tri (l:List Ty) (a b c m:Nat) (ok:Bool):Prop where
  yes:ok=true→m < l.length∧(sub l m a=true∧sub l m b=true∧sub l m c=true)∧∀ i,i < l.length→sub l i a=true→sub l i b=true→sub l i c=true→sub l i m=true
  no:ok=false→m=0∧∀ i,i < l.length→sub l i a=true→sub l i b=true→sub l i c=true→False
theorem Tri.uniq {l:List Ty} (hv:VT l) {a b c m n:Nat} {p q:Bool} (h:Tri l a b c m p) (k:Tri l a b c n q):p=q∧m=n:=by
  cases p with
  | true=>
    obtain⟨h1,⟨h2,h3,h4⟩,h5⟩:=h.yes rfl;cases q with
    | true=>
      obtain⟨k1,⟨k2,k3,k4⟩,k5⟩:=k.yes rfl;exact⟨rfl,sub_anti hv (k5 m h1 h2 h3 h4) (h5 n k1 k2 k3 k4)⟩
    | false=>exact((k.no rfl).2 m h1 h2 h3 h4).elim
  | false=>
    cases q with
    | true=>
      obtain⟨k1,⟨k2,k3,k4⟩,k5⟩:=k.yes rfl;exact((h.no rfl).2 n k1 k2 k3 k4).elim
    | false=>exact⟨rfl,(h.no rfl).1.trans (k.no rfl).1.symm⟩
def twoF (l:List Ty) (fs:List Ft) (a b:Int):Fl:=
  if (qY l fs).1≠0 then qY l fs else if a < 0∨(l.length:Int)≤a then (3,-2) else if b < 0∨(l.length:Int)≤b then (3,-3) else (0,0)
structure TwoOk (l:List Ty) (fs:List Ft) (a b:Int):Prop where
  h:(qY l fs).1=0
  s:Sound l
  a0:0≤a
  al:a < l.length
  b0:0≤b
  bl:b < l.length
  z:twoF l fs a b=(0,0)
theorem Jy {w:World} {base:Nat} {A:Option Addr} {cap:Nat} {xs:List Int} (h:Own w base 3 1 A xs.length cap (xs.map (Value.int .i64))):IntsIn w A xs:=
  ⟨h.max,fun hn=>by
    obtain⟨g,e,hb,hg,hc⟩:=h.cell (by simpa using hn)
    refine⟨g,0,e,hg,fun k hk=>?_⟩
    have:=hc k (.int .i64 xs[k]) (by simp [hk])
    simpa using this⟩
theorem ZV {w:World} {base:Nat} {A:Option Addr} {cap:Nat} {xs:List Int} {z:Int} (h:Own w base 3 1 A (xs.length + 1) cap (xs.map (Value.int .i64) ++ [Value.int .i64 z])):Own w base 3 1 A (xs ++ [z]).length cap ((xs ++ [z]).map (Value.int .i64)):=by
  rw [List.length_append,List.map_append];exact h
theorem Y9 (A:Option Addr) (cap:Nat) (xs:List Int) (z:Int):Value.slice A (xs.length + 1) cap=Value.slice A (xs ++ [z]).length cap:=by rw [List.length_append];rfl
end Go.Proofs.YtdkfnakncaggoaaGreatDoor
namespace Go.Proofs.YtdkfnakncaggoaaGreatDoor
open Go.RowKit
structure Nd where
  ty:Int
  ln:List (Int×Int)
theorem nd_ext {a b:Nd} (h1:a.ty=b.ty) (h2:a.ln=b.ln):a=b:=by
  cases a;cases b;simp only at h1 h2;rw [h1,h2]
instance:DecidableEq Nd:=fun a b=>decidable_of_iff (a.ty=b.ty∧a.ln=b.ln) ⟨fun h=>nd_ext h.1 h.2,fun h=>by rw [h];exact⟨rfl,rfl⟩⟩
def LinksIn (w:World) (A:Option Addr) (xs:List (Int×Int)):Prop:=
  xs.length≤yJ∧(xs≠[]→∃ b o,A=some ⟨b,o,none⟩∧b < w.heap.size∧∀ k (h:k < xs.length),w.rangeAt b (o + k * 2) [.int .i64 (xs[k]).1,.int .i64 (xs[k]).2])
theorem LinksIn.mono {w w':World} {A:Option Addr} {xs:List (Int×Int)} (h:LinksIn w A xs) (hb:Bel w w'):LinksIn w' A xs:=
  ⟨h.1,fun hn=>by
    obtain⟨b,o,e,hl,hc⟩:=h.2 hn
    exact⟨b,o,e,nLL hl hb.size,fun k hk=>hb.range hl (hc k hk)⟩⟩
theorem LinksIn.at_ {w w':World} {A:Option Addr} {xs:List (Int×Int)} (h:LinksIn w A xs) (hb:Bel w w') {k:Nat} (hk:k < xs.length):
    ∃ b o,A=some ⟨b,o,none⟩∧b < w.heap.size∧w'.rangeAt b (o + k * 2) [.int .i64 (xs[k]).1,.int .i64 (xs[k]).2]:=by
  obtain⟨b,o,e,hl,hc⟩:=h.2 (by rintro rfl;simp at hk);exact⟨b,o,e,hl,hb.range hl (hc k hk)⟩
def NdIn (w:World) (b o:Nat) (n:Nd):Prop:=∃ A c,w.rangeAt b o [.int .i64 n.ty,.slice A n.ln.length c]∧LinksIn w A n.ln
def NodesIn (w:World) (A:Option Addr) (g:List Nd):Prop:=
  g.length≤yJ∧(g≠[]→∃ b o,A=some ⟨b,o,none⟩∧b < w.heap.size∧∀ k (h:k < g.length),NdIn w b (o + k * 2) g[k])
theorem NdIn.mono {w w':World} {b o:Nat} {n:Nd} (h:NdIn w b o n) (hb:Bel w w') (hl:b < w.heap.size):NdIn w' b o n:=by
  obtain⟨A,c,h1,h2⟩:=h;exact⟨A,c,hb.range hl h1,h2.mono hb⟩
theorem NodesIn.mono {w w':World} {A:Option Addr} {g:List Nd} (h:NodesIn w A g) (hb:Bel w w'):NodesIn w' A g:=
  ⟨h.1,fun hn=>by
    obtain⟨b,o,e,hl,hc⟩:=h.2 hn
    exact⟨b,o,e,nLL hl hb.size,fun k hk=>(hc k hk).mono hb hl⟩⟩
theorem NodesIn.at_ {w w':World} {A:Option Addr} {g:List Nd} (h:NodesIn w A g) (hb:Bel w w') {k:Nat} (hk:k < g.length):
    ∃ b o A' c,A=some ⟨b,o,none⟩∧b < w.heap.size∧w'.rangeAt b (o + k * 2) [.int .i64 (g[k]).ty,.slice A' (g[k]).ln.length c]∧LinksIn w A' (g[k]).ln:=by
  obtain⟨b,o,e,hl,hc⟩:=h.2 (by rintro rfl;simp at hk);obtain⟨A',c,h1,h2⟩:=hc k hk;exact⟨b,o,A',c,e,hl,hb.range hl h1,h2⟩
def uK (nf n:Nat) (x:Int×Int):Prop:=x.1 < 0∨(nf:Int)≤x.1∨x.2 < 0∨(n:Int)≤x.2
instance (nf n:Nat) (x:Int×Int):Decidable (uK nf n x):=by unfold uK;infer_instance
def yZ (nf n:Nat):Int→List (Int×Int)→Int
  | _,[]=>0
  | last,x :: xs=>if uK nf n x then 3 else if x.1≤last then 13 else yZ nf n x.1 xs
def P0 (nt nf n:Nat) (x:Nd):Int:=if x.ty < 0∨(nt:Int)≤x.ty then 3 else yZ nf n (-1) x.ln
def gV (nt nf:Nat) (g:List Nd) (i:Nat):Int:=match g[i]? with
  | none=>0
  | some x=>P0 nt nf g.length x
def vw (nt nf:Nat) (g:List Nd):Fl:=if g.length=0∨60 < g.length then (2,-2) else qy (gV nt nf g) 0 g.length
theorem Yj {nt nf:Nat} {g:List Nd} {i:Nat} (hi:i < g.length) (h:(g[i]).ty < 0∨(nt:Int)≤(g[i]).ty):gV nt nf g i=3:=by
  simp only [gV,List.getElem?_eq_getElem hi,P0,if_pos h]
theorem Yk {nt nf:Nat} {g:List Nd} {i:Nat} (hi:i < g.length) (h:¬((g[i]).ty < 0∨(nt:Int)≤(g[i]).ty)):gV nt nf g i=yZ nf g.length (-1) ((g[i]).ln.drop 0):=by
  simp only [gV,List.getElem?_eq_getElem hi,P0,if_neg h,List.drop_zero]
theorem ln_bad {nf n:Nat} {last:Int} {xs:List (Int×Int)} {j:Nat} (hj:j < xs.length) (h:uK nf n xs[j]):yZ nf n last (xs.drop j)=3:=by
  rw [List.drop_eq_getElem_cons hj];simp only [yZ,if_pos h]
theorem ln_ord {nf n:Nat} {last:Int} {xs:List (Int×Int)} {j:Nat} (hj:j < xs.length) (h:¬uK nf n xs[j]) (h2:(xs[j]).1≤last):yZ nf n last (xs.drop j)=13:=by
  rw [List.drop_eq_getElem_cons hj];simp only [yZ,if_neg h,if_pos h2]
theorem Dw {nf n:Nat} {last:Int} {xs:List (Int×Int)} {j:Nat} (hj:j < xs.length) (h:¬uK nf n xs[j]) (h2:¬(xs[j]).1≤last):yZ nf n last (xs.drop j)=yZ nf n (xs[j]).1 (xs.drop (j + 1)):=by
  rw [List.drop_eq_getElem_cons hj];simp only [yZ,if_neg h,if_neg h2]
theorem ln_end {nf n:Nat} {last:Int} {xs:List (Int×Int)} {j:Nat} (hj:xs.length≤j):yZ nf n last (xs.drop j)=0:=by
  rw [List.drop_eq_nil_of_le hj];rfl
theorem MY {nf n:Nat}:∀ {xs:List (Int×Int)} {last:Int},yZ nf n last xs=0→∀ x ∈ xs,¬uK nf n x
  | [],_,_,x,hx=>by cases hx
  | y :: ys,last,h,x,hx=>by
    unfold yZ at h
    by_cases h1:uK nf n y
    · rw [if_pos h1] at h;cases h
    rw [if_neg h1] at h
    by_cases h2:y.1≤last
    · rw [if_pos h2] at h;cases h
    rw [if_neg h2] at h
    rcases List.mem_cons.1 hx with rfl | hx
    · exact h1
    · exact MY h x hx
theorem I9 {nf n:Nat}:∀ {xs:List (Int×Int)} {last:Int},yZ nf n last xs=0→-1≤last→last < nf→(xs.length:Int)≤nf - 1 - last
  | [],last,_,h1,h2=>by simp only [List.length_nil];omega
  | y :: ys,last,h,h1,h2=>by
    unfold yZ at h
    by_cases h3:uK nf n y
    · rw [if_pos h3] at h;cases h
    rw [if_neg h3] at h
    by_cases h4:y.1≤last
    · rw [if_pos h4] at h;cases h
    rw [if_neg h4] at h
    unfold uK at h3
    have:=I9 h om om
    simp only [List.length_cons]
    omega
structure GOk (nt nf:Nat) (g:List Nd):Prop where
  pos:0 < g.length
  le:g.length≤60
  ty:∀ i (h:i < g.length),0≤(g[i]).ty∧(g[i]).ty < nt
  ln:∀ i (h:i < g.length),∀ x ∈ (g[i]).ln,0≤x.1∧x.1 < nf∧0≤x.2∧x.2 < g.length
  few:∀ i (h:i < g.length),(g[i]).ln.length≤nf
structure GOk2 (nf:Nat) (g:List Nd):Prop where
  pos:0 < g.length
  le:g.length≤1000000
  ln:∀ i (h:i < g.length),∀ x ∈ (g[i]).ln,0≤x.1∧x.1 < nf∧0≤x.2∧x.2 < g.length
  few:∀ i (h:i < g.length),(g[i]).ln.length≤nf
theorem GOk.two {nt nf:Nat} {g:List Nd} (h:GOk nt nf g):GOk2 nf g:=⟨h.pos,nLT h.le dE,h.ln,h.few⟩
theorem DY {nt nf:Nat} {g:List Nd} (h:(vw nt nf g).1=0):GOk nt nf g:=by
  unfold vw at h;by_cases h0:g.length=0∨60 < g.length
  · rw [if_pos h0] at h;cases h
  rw [if_neg h0] at h;have hi:∀ i (h:i < g.length),¬((g[i]).ty < 0∨(nt:Int)≤(g[i]).ty)∧yZ nf g.length (-1) (g[i]).ln=0:=fun i hl=>by
    have h1:=ux h i (Nat.zero_le _) om;by_cases h2:(g[i]).ty < 0∨(nt:Int)≤(g[i]).ty
    · rw [Yj hl h2] at h1;cases h1
    · rw [Yk hl h2,List.drop_zero] at h1
      exact⟨h2,h1⟩
  refine⟨by omega,by omega,fun i hl=>?_,fun i hl x hx=>?_,fun i hl=>?_⟩
  · have:=(hi i hl).1;omega
  · have:=MY (hi i hl).2 x hx
    unfold uK at this;omega
  · have:=I9 (hi i hl).2 om om
    omega
theorem loose_ln {nt nf:Nat} {g:List Nd} (h:(vw nt nf g).1=0):∀ i (hi:i < g.length),yZ nf g.length (-1) (g[i]).ln=0:=fun i hl=>by
  unfold vw at h
  by_cases h0:g.length=0∨60 < g.length
  · rw [if_pos h0] at h;cases h
  rw [if_neg h0] at h
  have h1:=ux h i (Nat.zero_le _) om
  by_cases h2:(g[i]).ty < 0∨(nt:Int)≤(g[i]).ty
  · rw [Yj hl h2] at h1;cases h1
  · rw [Yk hl h2,List.drop_zero] at h1
    exact h1
def ftAt (fs:List Ft) (z:Int):Ft:=fs.getD z.toNat ⟨⟨#[]⟩,0,0⟩
def Sz (g:List Nd) (z:Int):Nd:=g.getD z.toNat ⟨0,[]⟩
def F7 (l:List Ty) (fs:List Ft) (g:List Nd) (t:Int) (x:Int×Int):Bool:=
  !(sub l t.toNat (ftAt fs x.1).of.toNat) || !(sub l (Sz g x.2).ty.toNat (ftAt fs x.1).val.toNat)
def tyN (l:List Ty) (fs:List Ft) (g:List Nd) (i:Nat):Int:=match g[i]? with
  | none=>0
  | some x=>if x.ln.any (F7 l fs g x.ty) then 12 else 0
def tyF (l:List Ty) (fs:List Ft) (g:List Nd):Fl:=qy (tyN l fs g) 0 g.length
theorem W9 {l:List Ty} {fs:List Ft} {g:List Nd} {i j:Nat} (hi:i < g.length) (hj:j < (g[i]).ln.length) (h:F7 l fs g (g[i]).ty (g[i]).ln[j]=true):tyN l fs g i=12:=by
  simp only [tyN,List.getElem?_eq_getElem hi];rw [if_pos (List.any_eq_true.2 ⟨_,List.getElem_mem hj,h⟩)]
theorem tyN_no {l:List Ty} {fs:List Ft} {g:List Nd} {i:Nat} (hi:i < g.length) (h:∀ j (hj:j < (g[i]).ln.length),F7 l fs g (g[i]).ty (g[i]).ln[j]=false):tyN l fs g i=0:=by
  simp only [tyN,List.getElem?_eq_getElem hi];rw [if_neg];intro hc;obtain⟨x,hx,h2⟩:=List.any_eq_true.1 hc;obtain⟨j,hj,rfl⟩:=List.getElem_of_mem hx;rw [h j hj] at h2;cases h2
inductive Rch (g:List Nd):Nat→Prop
  | zero:Rch g 0
  | step {i:Nat} {x:Int×Int} (h:Rch g i) (hi:i < g.length) (hx:x ∈ (g[i]).ln):Rch g x.2.toNat
def CL (g:List Nd) (mk:Nat→Bool):Prop:=∀ i (hi:i < g.length),mk i=true→∀ x ∈ (g[i]).ln,mk x.2.toNat=true
def Only (g:List Nd) (mk:Nat→Bool):Prop:=∀ i,mk i=true→Rch g i
theorem reach_cl {g:List Nd} {mk:Nat→Bool} (h0:mk 0=true) (hc:CL g mk) {i:Nat} (h:Rch g i):mk i=true:=by
  induction h with
  | zero=>exact h0
  | step h hi hx ih=>exact hc _ hi ih _ hx
def UnrIs (g:List Nd) (r:Int):Prop:=(r= -1∧∀ i,i < g.length→Rch g i)∨∃ k:Nat,r=k∧k < g.length∧¬Rch g k∧∀ i,i < k→Rch g i
theorem UnrIs.uniq {g:List Nd} {r s:Int} (h:UnrIs g r) (k:UnrIs g s):r=s:=by
  rcases h with ⟨h1,h2⟩ | ⟨a,h1,h2,h3,h4⟩ <;> rcases k with ⟨k1,k2⟩ | ⟨b,k1,k2,k3,k4⟩
  · omega
  · exact absurd (h2 b k2) k3
  · exact absurd (k2 a h2) h3
  · have:¬a < b:=fun h=>h3 (k4 a h)
    have:¬b < a:=fun h=>k3 (h4 b h)
    omega
noncomputable def Vv (g:List Nd):Int:=@Classical.epsilon Int ⟨0⟩ (UnrIs g)
theorem TK {g:List Nd} {r:Int} (h:UnrIs g r):r=Vv g:=h.uniq (@Classical.epsilon_spec Int (UnrIs g) ⟨r,h⟩)
structure AllM (g:List Nd) (mk:Nat→Bool):Prop where
  zero:mk 0=true
  only:Only g mk
  cl:CL g mk
theorem AllM.no {g:List Nd} {mk:Nat→Bool} (h:AllM g mk) {k:Nat} (hk:k < g.length) (hm:mk k=false) (hb:∀ i,i < k→mk i=true):((k:Nat):Int)=Vv g:=
  TK (.inr ⟨k,rfl,hk,fun hr=>absurd ((reach_cl h.zero h.cl hr).symm.trans hm) (by simp),fun i hi=>h.only i (hb i hi)⟩)
theorem AllM.yes {g:List Nd} {mk:Nat→Bool} (h:AllM g mk) (hb:∀ i,i < g.length→mk i=true):(-1:Int)=Vv g:=
  TK (.inl ⟨rfl,fun i hi=>h.only i (hb i hi)⟩)
def uv (mk:Nat→Bool) (j:Nat) (x:Nat):Bool:=if x=j then true else mk x
theorem Yz (mk:Nat→Bool) (j:Nat):uv mk j j=true:=by simp [uv]
theorem jY {mk:Nat→Bool} {j x:Nat} (h:mk x=true):uv mk j x=true:=by
  unfold uv;split
  · rfl
  · exact h
theorem u6 {mk:Nat→Bool} {j x:Nat} (h:uv mk j x=true):x=j∨mk x=true:=by
  unfold uv at h;by_cases e:x=j
  · exact .inl e
  · rw [if_neg e] at h;exact .inr h
def ZY (n:Nat) (mk:Nat→Bool):Nat:=(List.range n).countP (fun i=>!mk i)
theorem Hv (n:Nat) (mk:Nat→Bool):ZY n mk≤n:=by
  have:=List.countP_le_length (p:=fun i=>!mk i) (l:=List.range n)
  simpa [ZY] using this
theorem Sw {n j:Nat} {mk:Nat→Bool} (hj:j < n) (h:mk j=false):ZY n (uv mk j) < ZY n mk:=
  oy (fun x hx=>by
    cases hm:mk x with
    | false=>rfl
    | true=>
      have:=jY (j:=j) hm
      simp [this] at hx) (List.range n) j (List.mem_range.2 hj) (by simp [h]) (by simp [Yz])
structure DS (g:List Nd) (mk:Nat→Bool) (st:List Int) (i k:Nat):Prop where
  zero:mk 0=true
  only:Only g mk
  stk:∀ s ∈ st,∃ n:Nat,s=(n:Int)∧n < g.length∧mk n=true
  cl:∀ j (hj:j < g.length),mk j=true→j≠i→(j:Int) ∈ st∨∀ x ∈ (g[j]).ln,mk x.2.toNat=true
  me:∀ (hi:i < g.length),mk i=true∧∀ x ∈ (g[i]).ln.take k,mk x.2.toNat=true
theorem DS.start {g:List Nd} (h:0 < g.length):DS g (uv (fun _=>false) 0) [0] g.length 0:=
  ⟨by simp [uv],fun i hi=>by
    rcases u6 hi with rfl | h
    · exact .zero
    · exact absurd h Bool.false_ne_true,fun s hs=>by
    obtain rfl:=List.mem_singleton.1 hs
    exact⟨0,rfl,h,by simp [uv]⟩,fun j hj hm _=>by
    rcases u6 hm with rfl | h
    · exact .inl (by simp)
    · exact absurd h Bool.false_ne_true,fun hi=>absurd hi (Nat.lt_irrefl _)⟩
theorem DS.pop {g:List Nd} {mk:Nat→Bool} {st:List Int} {z:Int} (h:DS g mk (st ++ [z]) g.length 0):∃ n:Nat,z=(n:Int)∧n < g.length∧DS g mk st n 0:=by
  obtain⟨n,rfl,hn,hm⟩:=h.stk z (by simp);refine⟨n,rfl,hn,h.zero,h.only,fun s hs=>h.stk s (by simp [hs]),fun j hj hmj hne=>?_,fun hi=>⟨hm,fun x hx=>by simp at hx⟩⟩;rcases h.cl j hj hmj om with h1 | h1
  · rcases List.mem_append.1 h1 with h2 | h2
    · exact .inl h2
    · have:=List.mem_singleton.1 h2
      omega
  · exact .inr h1
theorem DS.old {g:List Nd} {mk:Nat→Bool} {st:List Int} {i k:Nat} (h:DS g mk st i k) (hi:i < g.length) (hk:k < (g[i]).ln.length) (hm:mk ((g[i]).ln[k]).2.toNat=true):DS g mk st i (k + 1):=
  ⟨h.zero,h.only,h.stk,h.cl,fun _=>⟨(h.me hi).1,fun x hx=>by
    rw [List.take_succ_eq_append_getElem hk] at hx
    rcases List.mem_append.1 hx with hx | hx
    · exact(h.me hi).2 x hx
    · rw [List.mem_singleton.1 hx];exact hm⟩⟩
theorem DS.new {g:List Nd} {mk:Nat→Bool} {st:List Int} {i k t:Nat} (h:DS g mk st i k) (hi:i < g.length) (hk:k < (g[i]).ln.length) (ht:((g[i]).ln[k]).2=(t:Int)) (htl:t < g.length):DS g (uv mk t) (st ++ [(t:Int)]) i (k + 1):=
  ⟨jY h.zero,fun j hj=>by
    rcases u6 hj with rfl | hj
    · have:=Rch.step (h.only i (h.me hi).1) hi (List.getElem_mem hk)
      rw [ht] at this;simpa using this
    · exact h.only j hj,fun s hs=>by
    rcases List.mem_append.1 hs with hs | hs
    · obtain⟨n,h1,h2,h3⟩:=h.stk s hs
      exact⟨n,h1,h2,jY h3⟩
    · exact⟨t,List.mem_singleton.1 hs,htl,Yz _ _⟩,fun j hj hm hne=>by
    rcases u6 hm with rfl | hm
    · exact .inl (by simp)
    · rcases h.cl j hj hm hne with h1 | h1
      · exact .inl (by simp [h1])
      · exact .inr (fun x hx=>jY (h1 x hx)),fun _=>⟨jY (h.me hi).1,fun x hx=>by
    rw [List.take_succ_eq_append_getElem hk] at hx
    rcases List.mem_append.1 hx with hx | hx
    · exact jY ((h.me hi).2 x hx)
    · rw [List.mem_singleton.1 hx,ht];simp [Yz]⟩⟩
theorem DS.done {g:List Nd} {mk:Nat→Bool} {st:List Int} {i k:Nat} (h:DS g mk st i k) (hi:i < g.length) (hk:k=(g[i]).ln.length):DS g mk st g.length 0:=
  ⟨h.zero,h.only,h.stk,fun j hj hm _=>by
    by_cases e:j=i
    · subst e
      have h1:=(h.me hj).2
      rw [hk,List.take_length] at h1
      exact .inr h1
    · exact h.cl j hj hm e,fun hi=>absurd hi (Nat.lt_irrefl _)⟩
theorem DS.end_ {g:List Nd} {mk:Nat→Bool} (h:DS g mk [] g.length 0):AllM g mk:=
  ⟨h.zero,h.only,fun i hi hm x hx=>by
    rcases h.cl i hi hm om with h1 | h1
    · cases h1
    · exact h1 x hx⟩
def cntN (n:Nat) (mk:Nat→Bool):Nat:=(List.range n).countP mk
theorem cnt_le (n:Nat) (mk:Nat→Bool):cntN n mk≤n:=by
  have:=List.countP_le_length (p:=mk) (l:=List.range n)
  simpa [cntN] using this
structure PS (g:List Nd) (mk:Nat→Bool) (p:Nat):Prop where
  zero:mk 0=true
  only:Only g mk
  far:CL g mk∨p + 1≤cntN g.length mk
structure PP (g:List Nd) (m0 mk:Nat→Bool) (i k:Nat):Prop where
  zero:mk 0=true
  only:Only g mk
  sup:∀ j,m0 j=true→mk j=true
  same:CL g m0→∀ j,mk j=true→m0 j=true
  done:∀ j (hj:j < g.length),j < i→m0 j=true→∀ x ∈ (g[j]).ln,mk x.2.toNat=true
  me:∀ (hi:i < g.length),m0 i=true→∀ x ∈ (g[i]).ln.take k,mk x.2.toNat=true
theorem PS.start {g:List Nd} (h:0 < g.length):PS g (uv (fun _=>false) 0) 0:=
  ⟨by simp [uv],fun i hi=>by
    rcases u6 hi with rfl | h
    · exact .zero
    · exact absurd h Bool.false_ne_true,.inr (by
    have:0 < cntN g.length (uv (fun _=>false) 0):=List.countP_pos_iff.2 ⟨0,List.mem_range.2 h,by simp [uv]⟩
    omega)⟩
theorem PP.start {g:List Nd} {mk:Nat→Bool} {p:Nat} (h:PS g mk p):PP g mk mk 0 0:=
  ⟨h.zero,h.only,fun _ h=>h,fun _ _ h=>h,fun j _ hj=>by omega,fun _ _ x hx=>by simp at hx⟩
theorem PP.skip {g:List Nd} {m0 mk:Nat→Bool} {i k:Nat} (h:PP g m0 mk i k) (hm:mk i=false):PP g m0 mk i (k + 1):=
  ⟨h.zero,h.only,h.sup,h.same,h.done,fun _ h0=>absurd ((h.sup i h0).symm.trans hm) (by simp)⟩
theorem PP.mark {g:List Nd} {m0 mk:Nat→Bool} {i k t:Nat} (h:PP g m0 mk i k) (hi:i < g.length) (hk:k < (g[i]).ln.length) (ht:((g[i]).ln[k]).2=(t:Int)) (hm:mk i=true):PP g m0 (uv mk t) i (k + 1):=
  ⟨jY h.zero,fun j hj=>by
    rcases u6 hj with rfl | hj
    · have:=Rch.step (h.only i hm) hi (List.getElem_mem hk)
      rw [ht] at this;simpa using this
    · exact h.only j hj,fun j hj=>jY (h.sup j hj),fun hc j hj=>by
    rcases u6 hj with rfl | hj
    · have:=hc i hi (h.same hc i hm) _ (List.getElem_mem hk)
      rw [ht] at this;simpa using this
    · exact h.same hc j hj,fun j hj hji h0 x hx=>jY (h.done j hj hji h0 x hx),fun _ h0 x hx=>by
    rw [List.take_succ_eq_append_getElem hk] at hx
    rcases List.mem_append.1 hx with hx | hx
    · exact jY (h.me hi h0 x hx)
    · rw [List.mem_singleton.1 hx,ht];simp [Yz]⟩
theorem PP.next {g:List Nd} {m0 mk:Nat→Bool} {i k:Nat} (h:PP g m0 mk i k) (hi:i < g.length) (hk:k=(g[i]).ln.length):PP g m0 mk (i + 1) 0:=
  ⟨h.zero,h.only,h.sup,h.same,fun j hj hji h0 x hx=>by
    by_cases e:j=i
    · subst e
      have:=h.me hj h0
      rw [hk,List.take_length] at this
      exact this x hx
    · exact h.done j hj om h0 x hx,fun _ _ x hx=>by simp at hx⟩
theorem PP.end_ {g:List Nd} (hr:∀ i (hi:i < g.length),∀ x ∈ (g[i]).ln,x.2.toNat < g.length) {m0 mk:Nat→Bool} {p:Nat} (h0:PS g m0 p) (h:PP g m0 mk g.length 0):PS g mk (p + 1):=by
  refine⟨h.zero,h.only,?_⟩;have hcl:CL g m0→CL g mk:=fun hc i hi hm x hx=>h.sup _ (hc i hi (h.same hc i hm) x hx)
  by_cases hc:CL g m0
  · exact .inl (hcl hc)
  · right
    rcases h0.far with h1 | h1
    · exact absurd h1 hc
    · have hex:∃ i,∃ hi:i < g.length,m0 i=true∧∃ x,x ∈ (g[i]).ln∧m0 x.2.toNat=false:=Classical.byContradiction (fun hn=>hc (fun i hi hm x hx=>by
        cases hv:m0 x.2.toNat with
        | true=>rfl
        | false=>exact absurd ⟨i,hi,hm,x,hx,hv⟩ hn))
      obtain⟨i,hi,hm,x,hx,hv⟩:=hex;have hnew:=h.done i hi hi hm x hx;have hl:=hr i hi x hx;have:cntN g.length m0 < cntN g.length mk:=oy h.sup (List.range g.length) _ (List.mem_range.2 hl) hnew hv;omega
theorem PS.end_ {g:List Nd} {mk:Nat→Bool} (h:PS g mk g.length):AllM g mk:=
  ⟨h.zero,h.only,by
    rcases h.far with h1 | h1
    · exact h1
    · have:=cnt_le g.length mk
      omega⟩
theorem snoc_of {st:List Int} (h:0 < st.length):∃ s z,st=s ++ [z]:=by
  rcases List.eq_nil_or_concat st with rfl | ⟨s,z,rfl⟩
  · cases h
  · exact⟨s,z,List.concat_eq_append⟩
theorem BW {n j:Nat} {mk:Nat→Bool}:row n (fun x=>if x=j then Value.bool true else .bool (mk x))=row n (fun x=> .bool (uv mk j x)):=
  yy (fun x _=>by by_cases e:x=j <;> simp [uv,e])
theorem gok_rng {nt nf:Nat} {g:List Nd} (h:GOk nt nf g):∀ i (hi:i < g.length),∀ x ∈ (g[i]).ln,x.2.toNat < g.length:=fun i hi x hx=>by
  have:=h.ln i hi x hx;omega
structure FOk (nt:Nat) (fs:List Ft):Prop where
  at_:∀ i (h:i < fs.length),0≤(fs[i]).of∧(fs[i]).of < nt∧0≤(fs[i]).val∧(fs[i]).val < nt
theorem fok_of {l:List Ty} {fs:List Ft} (h:(qY l fs).1=0):FOk l.length fs:=by
  unfold qY at h;by_cases h4:40 < fs.length
  · rw [if_pos h4] at h;cases h
  rw [if_neg h4] at h;by_cases ht:(xx l).1≠0
  · rw [if_pos ht] at h;exact absurd h ht
  rw [if_neg ht] at h;by_cases hu:(ky l).1≠0
  · rw [if_pos hu] at h;exact absurd h hu
  rw [if_neg hu] at h;refine⟨fun i hi=>?_⟩;have h1:=ux h i (Nat.zero_le _) om;by_cases hn:y6 (fs[i]).name=false
  · rw [ft10 l.length fs i hi hn] at h1;cases h1
  have hn':y6 (fs[i]).name=true:=by simpa using hn
  by_cases hs:j9 ((fs.take i).map (·.name)) (fs[i]).name=true
  · rw [ft7 l.length fs i hi hn' hs] at h1;cases h1
  have hs':j9 ((fs.take i).map (·.name)) (fs[i]).name=false:=by simpa using hs
  by_cases hb:N1 l.length fs[i]
  · rw [ft3 l.length fs i hi hn' hs' hb] at h1;cases h1
  · unfold N1 at hb;omega
theorem Hj {l:List Ty} {fs:List Ft} {g:List Nd} {t:Int} {x:Int×Int} {fi ti yn on vn zn:Nat} (h1:x.1=(fi:Int)) (hfi:fi < fs.length) (h2:x.2=(ti:Int)) (hti:ti < g.length) (ht:t=(yn:Int)) (ho:(fs[fi]).of=(on:Int)) (hv:(fs[fi]).val=(vn:Int)) (hz:(g[ti]).ty=(zn:Int)):
    F7 l fs g t x=(!sub l yn on || !sub l zn vn):=by
  unfold F7 ftAt Sz;rw [h1,h2,ht];have e1:fs.getD (fi:Int).toNat ⟨⟨#[]⟩,0,0⟩=fs[fi]:=by simp [List.getD,hfi]
  have e2:g.getD (ti:Int).toNat ⟨0,[]⟩=g[ti]:=by simp [List.getD,hti]
  rw [e1,e2,ho,hv,hz];simp
noncomputable def y9 (l:List Ty) (fs:List Ft) (g:List Nd):Fl:=
  if (vw l.length fs.length g).1≠0 then vw l.length fs.length g else if (tyF l fs g).1≠0 then tyF l fs g else if 0≤Vv g then (5,Vv g) else (0,0)
theorem M4 {l:List Ty} {fs:List Ft} {g:List Nd} (h:¬(vw l.length fs.length g).1=0):y9 l fs g=((vw l.length fs.length g).1,(vw l.length fs.length g).2):=by unfold y9;rw [if_pos h]
theorem wi_ty {l:List Ty} {fs:List Ft} {g:List Nd} {k:Int} (h:(vw l.length fs.length g).1=0) (ht:tyF l fs g=(12,k)):y9 l fs g=(12,k):=by
  unfold y9;rw [if_neg (fun e=>e h),ht];rfl
theorem wi_unr {l:List Ty} {fs:List Ft} {g:List Nd} (h:(vw l.length fs.length g).1=0) (ht:tyF l fs g=(0,0)) (hu:0≤Vv g):y9 l fs g=(5,Vv g):=by
  unfold y9;rw [if_neg (fun e=>e h),ht,if_neg (fun e=>e rfl),if_pos hu]
theorem Ev {l:List Ty} {fs:List Ft} {g:List Nd} (h:(vw l.length fs.length g).1=0) (ht:tyF l fs g=(0,0)) (hu:¬0≤Vv g):y9 l fs g=(0,0):=by
  unfold y9;rw [if_neg (fun e=>e h),ht,if_neg (fun e=>e rfl),if_neg hu]
noncomputable def graphF (l:List Ty) (fs:List Ft) (g:List Nd):Fl:=if (qY l fs).1≠0 then qY l fs else y9 l fs g
end Go.Proofs.YtdkfnakncaggoaaGreatDoor
namespace Go.Proofs.YtdkfnakncaggoaaGreatDoor
open Go.RowKit
def nd (g:List Nd) (i:Nat):Nd:=g.getD i ⟨0,[]⟩
theorem nd_eq {g:List Nd} {i:Nat} (hi:i < g.length):nd g i=g[i]:=by simp [nd,List.getD,hi]
def YY (g:List Nd) (i:Nat):List Nat:=(nd g i).ln.map (fun x=>x.2.toNat)
inductive DL (g:List Nd):List Nat→List Nat→List Nat→Prop
  | nil {o:List Nat}:DL g [] o o
  | old {i:Nat} {is o o':List Nat} (h:i ∈ o) (t:DL g is o o'):DL g (i :: is) o o'
  | new {i:Nat} {is o o1 o':List Nat} (h:¬i ∈ o) (s:DL g (YY g i) (o ++ [i]) o1) (t:DL g is o1 o'):DL g (i :: is) o o'
theorem DL.append {g:List Nd} {xs a b:List Nat} (h:DL g xs a b):∀ {ys c:List Nat},DL g ys b c→DL g (xs ++ ys) a c:=by
  induction h with
  | nil=>intro ys c k;exact k
  | old h t ih=>intro ys c k;exact .old h (ih k)
  | new h s t ihs iht=>intro ys c k;exact .new h s (iht k)
def F4 (o:List Nat) (x:Nat):Bool:=decide (x ∈ o)
structure OOk (n:Nat) (o:List Nat):Prop where
  lt:∀ x ∈ o,x < n
  cnt:o.length + ZY n (F4 o)≤n
theorem OOk.nil (n:Nat):OOk n []:=⟨fun x hx=>by simp at hx,by have:=Hv n (F4 []);simpa using this⟩
theorem lack_snoc {n i:Nat} {o:List Nat} (hi:i < n) (h:¬i ∈ o):ZY n (F4 (o ++ [i])) < ZY n (F4 o):=
  oy (fun x hx=>by
    simp only [F4,Bool.not_eq_true',decide_eq_false_iff_not,List.mem_append,not_or] at hx ⊢
    exact hx.1) (List.range n) i (List.mem_range.2 hi) (by simp [F4,h]) (by simp [F4])
theorem OOk.snoc {n i:Nat} {o:List Nat} (h:OOk n o) (hi:i < n) (hn:¬i ∈ o):OOk n (o ++ [i]):=
  ⟨fun x hx=>by
    rcases List.mem_append.1 hx with hx | hx
    · exact h.lt x hx
    · rw [List.mem_singleton.1 hx];exact hi,by
    have h1:=lack_snoc hi hn
    have h2:=h.cnt
    simp only [List.length_append,List.length_cons,List.length_nil]
    omega⟩
theorem DL.ok {g:List Nd} (hr:∀ i,i < g.length→∀ t ∈ YY g i,t < g.length) {is o o':List Nat} (h:DL g is o o'):(∀ i ∈ is,i < g.length)→OOk g.length o→OOk g.length o'∧∃ s,o'=o ++ s:=by
  induction h with
  | nil=>intro _ k;exact⟨k,[],by simp⟩
  | old h t ih=>intro hi k;exact ih (fun i h=>hi i (List.mem_cons_of_mem _ h)) k
  | new h s t ihs iht=>
    intro hi k;have hlt:=hi _ (List.mem_cons_self ..);obtain⟨h1,s1,e1⟩:=ihs (hr _ hlt) (k.snoc hlt h);obtain⟨h2,s2,e2⟩:=iht (fun i h=>hi i (List.mem_cons_of_mem _ h)) h1;exact⟨h2,_,by rw [e2,e1,List.append_assoc,List.append_assoc]⟩
def numO (o:List Nat) (x:Nat):Int:=if x ∈ o then (o.idxOf x:Nat) else -1
structure Chg (base:Nat) (X:List Nat) (w w':World):Prop where
  os:w'.os=w.os
  tape:w'.tape=w.tape
  output:w'.output=w.output
  size:w.heap.size≤w'.heap.size
  blk:∀ k,k < base→¬k ∈ X→w'.heap[k]? =w.heap[k]?
theorem Chg.refl (base:Nat) (X:List Nat) (w:World):Chg base X w w:=⟨rfl,rfl,rfl,Nat.le_refl _,fun _ _ _=>rfl⟩
theorem Chg.trans {base:Nat} {X:List Nat} {a b c:World} (h:Chg base X a b) (k:Chg base X b c):Chg base X a c:=
  ⟨k.os.trans h.os,k.tape.trans h.tape,k.output.trans h.output,nLT h.size k.size,fun i hi hx=>(k.blk i hi hx).trans (h.blk i hi hx)⟩
theorem Chg.st {base:Nat} {X Y:List Nat} {a b c:World} (h:Chg base X a b) (k:Same Y b c) (hb:base≤b.heap.size) (hy:∀ g ∈ Y,g ∈ X∨base≤g):Chg base X a c:=
  h.trans ⟨k.os,k.tape,k.output,k.size,fun i hi hx=>k.blk i (nLL hi hb) (fun hm=>by
    rcases hy i hm with h1 | h1
    · exact hx h1
    · omega)⟩
def o6 (m:Nat) (f h:Nat→Value):Array Value:=Array.ofFn (n:=m * 2) (fun i=>if i.val % 2=0 then f (i.val / 2) else h (i.val / 2))
theorem ZQ (m:Nat) (f h:Nat→Value):(o6 m f h).size=m * 2:=by simp [o6]
theorem row2_get0 {m i:Nat} {f h:Nat→Value} (hi:i < m):(o6 m f h)[0 + i * 2 + 0]? =some (f i):=by
  have e1:0 + i * 2 + 0=i * 2:=by omega
  have e2:i * 2 < m * 2:=by omega
  rw [e1];simp [o6,e2]
theorem row2_get1 {m i:Nat} {f h:Nat→Value} (hi:i < m):(o6 m f h)[0 + i * 2 + 1]? =some (h i):=by
  have e1:0 + i * 2 + 1=i * 2 + 1:=by omega
  have e2:i * 2 + 1 < m * 2:=by omega
  have e3:(i * 2 + 1) % 2=1:=by omega
  have e4:(i * 2 + 1) / 2=i:=by omega
  rw [e1];simp [o6,e2,e3,e4]
theorem row2_set0 {m i:Nat} {f h:Nat→Value} {v:Value}:(o6 m f h).setIfInBounds (0 + i * 2 + 0) v=o6 m (fun j=>if j=i then v else f j) h:=by
  apply Array.ext
  · simp [o6]
  · intro k h1 h2
    rw [Array.getElem_setIfInBounds (by simpa using h1)];simp only [o6,Array.getElem_ofFn];by_cases e:0 + i * 2 + 0=k
    · have e1:k % 2=0:=by omega
      have e2:k / 2=i:=by omega
      rw [if_pos e];simp [e1,e2]
    · rw [if_neg e]
      by_cases e1:k % 2=0
      · have e2:¬k / 2=i:=by omega
        simp [e1,e2]
      · simp [e1]
theorem row2_set1 {m i:Nat} {f h:Nat→Value} {v:Value}:(o6 m f h).setIfInBounds (0 + i * 2 + 1) v=o6 m f (fun j=>if j=i then v else h j):=by
  apply Array.ext
  · simp [o6]
  · intro k h1 h2
    rw [Array.getElem_setIfInBounds (by simpa using h1)];simp only [o6,Array.getElem_ofFn];by_cases e:0 + i * 2 + 1=k
    · have e1:k % 2=1:=by omega
      have e2:k / 2=i:=by omega
      rw [if_pos e];simp [e1,e2]
    · rw [if_neg e]
      by_cases e1:k % 2=0
      · simp [e1]
      · have e2:¬k / 2=i:=by omega
        simp [e1,e2]
theorem row2_made (m:Nat) (a b:Value):madeCells #[a,b] (m * 2)=o6 m (fun _=>a) (fun _=>b):=by
  apply Array.ext
  · simp [o6,madeCells]
  · intro k h1 h2
    simp only [o6,madeCells,Array.getElem_ofFn,Array.getElem_map,Array.getElem_range];rcases(by omega:k % 2=0∨k % 2=1) with e | e
    · simp [e]
    · simp [e]
def canL (o:List Nat) (x:Int×Int):Int×Int:=(x.1,numO o x.2.toNat)
def canN (g:List Nd) (o:List Nat) (i:Nat):Nd:=⟨(nd g i).ty,(nd g i).ln.map (canL o)⟩
def canG (g:List Nd) (o:List Nat):List Nd:=o.map (canN g o)
def lnV (xs:List (Int×Int)):List Value:=xs.flatMap (fun x=>[Value.int .i64 x.1,Value.int .i64 x.2])
structure FrSame (B:Nat) (w w2:World):Prop where
  size:w.heap.size≤w2.heap.size
  blk:∀ k,B≤k→k < w.heap.size→w2.heap[k]? =w.heap[k]?
theorem FrSame.of {B:Nat} {w0 w w':World} {X:List Nat} (h:FrSame B w0 w) (hs:Same X w w') (hx:∀ g ∈ X,g < B∨w0.heap.size≤g):FrSame B w0 w':=
  ⟨nLT h.size hs.size,fun k hk hk2=>by
    rw [hs.blk k (nLL hk2 h.size) (fun hm=>by have:=hx k hm;omega)]
    exact h.blk k hk hk2⟩
theorem FrSame.refl (B:Nat) (w:World):FrSame B w w:=⟨Nat.le_refl _,fun _ _ _=>rfl⟩
theorem FrSame.at_ {B b t:Nat} {w w2:World} {cs:Array Value} (h:FrSame B w w2) (hb:Blk w b t cs) (hl:B≤b):Blk w2 b t cs:=(h.blk b hl hb.lt).trans hb
def RowO (w:World) (lo bs:Nat) (v:Value) (xs:List (Int×Int)):Prop:=∃ A c,v= .slice A xs.length c∧Own w lo 103 2 A xs.length c (lnV xs)∧∀ g ∈ aL A,g < bs
theorem Own.typ {w:World} {base:Nat} {e:TypeId} {sz:Nat} {A:Option Addr} {k cap:Nat} {xs:List Value} (h:Own w base e sz A k cap xs):∀ g ∈ aL A,∃ cs,Blk w g e cs:=fun g hg=>by
  rcases h.2 with ⟨hn,_⟩ | ⟨g',c,cur,hv,hb,hgg,r⟩
  · cases hn;cases hg
  · cases hv
    simp only [aL,List.mem_singleton] at hg
    subst hg;exact⟨cur,hgg⟩
theorem RowO.tr {w w':World} {lo bs:Nat} {v:Value} {xs:List (Int×Int)} {X:List Nat} (h:RowO w lo bs v xs) (hs:Same X w w') (hx:∀ g ∈ X,bs≤g∨∃ cs t,Blk w g t cs∧t≠103):RowO w' lo bs v xs:=by
  obtain⟨A,c,h1,h2,h3⟩:=h;refine⟨A,c,h1,h2.tr hs (fun g hg hm=>?_),h3⟩;rcases hx g hm with h4 | ⟨cs,t,h4,h5⟩
  · have:=h3 g hg;omega
  · obtain⟨cs2,h6⟩:=h2.typ g hg
    exact h5 (jQ h4 h6)
theorem RowO.up {w:World} {lo bs bs':Nat} {v:Value} {xs:List (Int×Int)} (h:RowO w lo bs v xs) (hb:bs≤bs'):RowO w lo bs' v xs:=by
  obtain⟨A,c,h1,h2,h3⟩:=h;exact⟨A,c,h1,h2,fun g hg=>nLL (h3 g hg) hb⟩
theorem RowO.of {w:World} {lo base:Nat} {A:Option Addr} {cap:Nat} {xs:List (Int×Int)} (hl:lo≤base) (h:Own w base 103 2 A xs.length cap (lnV xs)):RowO w lo w.heap.size (.slice A xs.length cap) xs:=⟨A,cap,rfl,h.low hl,fun g hg=>(h.lt g hg).2⟩
theorem RowO.fr {w w2:World} {lo bs:Nat} {v:Value} {xs:List (Int×Int)} (h:RowO w lo bs v xs) (hf:FrSame lo w w2):RowO w2 lo bs v xs:=by
  obtain⟨A,c,h1,h2,h3⟩:=h;refine⟨A,c,h1,⟨h2.1,?_⟩,h3⟩;rcases h2.2 with hn | ⟨g,c,cur,hv,hb,hg,r⟩
  · exact .inl hn
  · exact .inr ⟨g,c,cur,hv,hb,(hf.blk g hb (jk hg)).trans hg,r⟩
def OrdF (w:World) (bn bd:Nat) (A:Option Addr) (o:List Nat):Prop:=
  (o= []∧A=none)∨(o≠[]∧∃ b,A=some ⟨b,0,none⟩∧b≠bn∧b < bd∧b < w.heap.size∧∀ k (hk:k < o.length),w.cell? ⟨b,0 + k,none⟩=some (.int .i64 (o[k]:Nat)))
theorem OrdF.nil (w:World) (bn bd:Nat):OrdF w bn bd none []:= .inl ⟨rfl,rfl⟩
theorem OrdF.tr {w w':World} {bn bd:Nat} {A:Option Addr} {o:List Nat} {X:List Nat} (h:OrdF w bn bd A o) (hs:Same X w w') (hx:∀ g ∈ X,g=bn∨bd≤g):OrdF w' bn bd A o:=by
  rcases h with h | ⟨h1,b,h2,h3,h4,h5,h6⟩
  · exact .inl h
  · refine .inr ⟨h1,b,h2,h3,h4,nLL h5 hs.size,fun k hk=>?_⟩
    rw [World.cell?_of_block (hs.blk b h5 (fun hm=>by rcases hx b hm with h | h <;> omega))];exact h6 k hk
theorem OrdF.up {w:World} {bn bd bd':Nat} {A:Option Addr} {o:List Nat} (h:OrdF w bn bd A o) (hb:bd≤bd'):OrdF w bn bd' A o:=by
  rcases h with h | ⟨h1,b,h2,h3,h4,h5,h6⟩
  · exact .inl h
  · exact .inr ⟨h1,b,h2,h3,nLL h4 hb,h5,h6⟩
theorem Same.freshL {X Y:List Nat} {w w1 w2:World} (h:Same X w w1) (hs:Same Y w1 w2) (hb:∀ g ∈ Y,g ∈ X∨w.heap.size≤g):Same X w w2:=
  ⟨hs.os.trans h.os,hs.tape.trans h.tape,hs.output.trans h.output,nLT h.size hs.size,fun k hk hx=>(hs.blk k (nLL hk h.size) (fun hm=>by
    rcases hb k hm with h1 | h1
    · exact hx h1
    · omega)).trans (h.blk k hk hx)⟩
def ndV (f h:Nat→Value) (k:Nat):List Value:=(List.range k).flatMap (fun x=>[f x,h x])
theorem JQ (f h:Nat→Value) (k:Nat):ndV f h (k + 1)=ndV f h k ++ [f k,h k]:=by simp [ndV,List.range_succ,List.flatMap_append]
theorem ZW {f f' h h':Nat→Value}:∀ {k:Nat},(∀ x,x < k→f x=f' x)→(∀ x,x < k→h x=h' x)→ndV f h k=ndV f' h' k
  | 0,_,_=>rfl
  | k + 1,h1,h2=>by rw [JQ,JQ,ZW (fun x hx=>h1 x om) (fun x hx=>h2 x om),h1 k om,h2 k om]
theorem JX (f h:Nat→Value):∀ k,(ndV f h k).length=k * 2
  | 0=>rfl
  | k + 1=>by rw [JQ,List.length_append,JX f h k];simp only [List.length_cons,List.length_nil];omega
theorem Z6 (f h:Nat→Value):∀ {k x:Nat},x < k→(ndV f h k)[x * 2]? =some (f x)∧(ndV f h k)[x * 2 + 1]? =some (h x)
  | 0,_,hx=>by omega
  | k + 1,x,hx=>by
    have hl:=JX f h k
    rw [JQ]
    by_cases e:x < k
    · have ih:=Z6 f h e
      rw [List.getElem?_append_left om,List.getElem?_append_left om]
      exact ih
    · have e2:x=k:=by omega
      subst e2
      rw [List.getElem?_append_right om,List.getElem?_append_right om,hl]
      have e3:x * 2 - x * 2=0:=by omega
      have e4:x * 2 + 1 - x * 2=1:=by omega
      rw [e3,e4];exact⟨rfl,rfl⟩
theorem Own.fr {w w2:World} {lo base:Nat} {e:TypeId} {sz:Nat} {A:Option Addr} {k cap:Nat} {xs:List Value} (h:Own w base e sz A k cap xs) (hl:lo≤base) (hf:FrSame lo w w2):Own w2 base e sz A k cap xs:=by
  refine⟨h.1,?_⟩;rcases h.2 with hn | ⟨g,c,cur,hv,hb,hg,r⟩
  · exact .inl hn
  · exact .inr ⟨g,c,cur,hv,hb,(hf.blk g (nLT hl hb) (jk hg)).trans hg,r⟩
end Go.Proofs.YtdkfnakncaggoaaGreatDoor
