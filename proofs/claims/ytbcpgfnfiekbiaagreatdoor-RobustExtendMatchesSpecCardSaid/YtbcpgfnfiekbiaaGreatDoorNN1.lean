/- What these functions of the program compute, at every world: cmp.isNaN[int], cmp.Compare[int], glosswright/graph.Target$1, slices.BinarySearchFunc[[]glosswright/api.Link,glosswright/api.Link,int]. What these functions of the program compute, at every world: glosswright/graph.Target, glosswright/glosswrightref3.Target. What these functions of the program compute, at every world: glosswright/lexrule.Places, glosswright/lexrule.Entry, glosswright/grammar.Rule, glosswright/grammar.fault. What these functions of the program compute, at every world: glosswright/glosswrightref3.runeLength, glosswright/glosswrightref3.Word. What these functions of the program compute, at every world: glosswright/glosswrightref1.Name. -/
import Derived.Test.YtbcpgfnfiekbiaaGreatDoorU
import Derived.Test.YtbcpgfnfiekbiaaGreatDoorTrm
import Derived.Test.YtbcpgfnfiekbiaaGreatDoorRng
import Derived.Test.YtbcpgfnfiekbiaaGreatDoorLxd
import Derived.Test.YtbcpgfnfiekbiaaGreatDoorNTv
import Derived.Test.YtbcpgfnfiekbiaaGreatDoorEng4
import Derived.Test.YtbcpgfnfiekbiaaGreatDoorRws
import Derived.Test.YtbcpgfnfiekbiaaGreatDoorNTo
namespace Go.Proofs.YtbcpgfnfiekbiaaGreatDoor
open Go.RowKit
theorem r_cvU {P:Program} {n:Nat} {f:Fr} {w:World} {dst:Option Tmp} {gd:Option (Nat×Bool)} {ty:TypeId} {pos:String} {af:Array Edge} {x:Operand} {k':IntKind} {a:Int} {t t':TypeId} {dd:TypeDesc} (hs:P.underlying t=some dd) (hd:P.underlying t'=some (.int .u64)) (hx:ev n f x= .int k' a) (ha:0≤a∧a≤18446744073709551615):
    RV P n f w ⟨dst,.convert t t' x,ty,pos,af,gd⟩ (.int .u64 a) w:=by
  have:=IntWalk.u64_in a ha;simp [RV,execOp,hx,convert,run_underlying hs,run_underlying hd,Conv.intToInt,this]
def OY (a b:Int):Int:=if a < b then -1 else if b < a then 1 else 0
theorem cmpI_lt {a b:Int}:OY a b < 0 ↔ a < b:=by unfold OY;split <;> (try split) <;> omega
theorem cmpI_eq {a b:Int}:OY a b=0 ↔ a=b:=by unfold OY;split <;> (try split) <;> omega
theorem fn126:zZ Tryz.prog 126=true:=by kernel_rfl
theorem fn127:zZ Tryz.prog 127=true:=by kernel_rfl
theorem fn136:zZ Tryz.prog 136=true:=by kernel_rfl
theorem Z4:(Tryz.prog.info? 115).map (·.size)=some 2:=by kernel_rfl
theorem nan_any (a:Int) (w:World):Calls Tryz.prog 136 #[.int .i64 a] w fun e w'=>e= .returned (.bool false)∧Bel w w':=by
 refine enT Tryz.func136 Tryz.ntmps136 rfl rfl fun hB=>?_;refine Z6 ?_;exact⟨yZ (decide_eq_false (fun h=>h rfl)).symm,hB⟩
theorem W5 (a b:Int) (w:World):Calls Tryz.prog 127 #[.int .i64 a,.int .i64 b] w fun e w'=>e= .returned (.int .i64 (OY a b))∧Bel w w':=by
 refine enT Tryz.func127 Tryz.ntmps127 rfl rfl fun hB=>?_;refine zn8 ?_;refine zJ fn136 (nan_any _ _) rfl (fun e' w1 hr=>?_);obtain⟨rfl,s1⟩:=hr;replace s1:=sB s1;refine⟨_,rfl,?_⟩;refine zn6 ?_;refine zJ fn136 (nan_any _ _) rfl (fun e' w2 hr=>?_);obtain⟨rfl,s2⟩:=hr;replace s2:=sB s2;refine⟨_,rfl,?_⟩;refine zn9 ?_;refine vw rfl (fun c11=>?_) (fun c11=>?_)
 ·exact absurd c11 dE
 refine zn8 ?_;refine vw rfl (fun c13=>?_) (fun c13=>?_)
 ·exact absurd c13 dE
 refine yw ?_;refine zy rfl (fun c16=>?_) (fun c16=>?_)
 ·refine zn8 ?_;replace hB:=hB.tr0 (s1.trans s2);exact⟨gz (by unfold OY;rw [if_pos c16]),hB⟩
 refine yw ?_;refine zy rfl (fun c19=>?_) (fun c19=>?_)
 ·refine zn8 ?_;replace hB:=hB.tr0 (s1.trans s2);exact⟨gz (by unfold OY;rw [if_neg c16];exact if_pos c19),hB⟩
 refine zn9 ?_;replace hB:=hB.tr0 (s1.trans s2);exact⟨gz (by unfold OY;rw [if_neg c16];exact if_neg c19),hB⟩
theorem tcl_any (a b f:Int) (w:World):Calls Tryz.prog 126 #[.agg #[.int .i64 a,.int .i64 b],.int .i64 f] w fun e w'=>e= .returned (.int .i64 (OY a f))∧Bel w w':=by
 refine enT Tryz.func126 Tryz.ntmps126 rfl rfl fun hB=>?_;refine zn2 ?_;refine qK (v:= .agg #[_,_]) (cs:=#[_,_]) rfl rfl (fun b2 w1 hb2 s1 hr=>?_);refine zn8 ?_;refine zJ fn127 (W5 _ _ _) rfl (fun e' w2 hr=>?_);obtain⟨rfl,s2⟩:=hr;replace s2:=sB s2;refine⟨_,rfl,?_⟩;refine zn5 ?_;exact⟨rfl,hB.u⟩
theorem bsf_any (A:Option Addr) (c:Nat) (xs:List (Int×Int)) (f:Int) (w:World) (hX:LinksIn w A xs) (hl:xs.length≤1000) (hmono:∀ i j (hi:i < xs.length) (hj:j < xs.length),i≤j→(xs[i]).1≤(xs[j]).1):Calls Tryz.prog 125 #[.slice A xs.length c,.int .i64 f,.func (.func 126) #[] #[]] w fun e w'=>(∃ (i:Nat) (b:Bool),i≤xs.length∧e= .returned (.tuple #[.int .i64 i,.bool b])∧(∀ j (hj:j < xs.length),j < i→(xs[j]).1 < f)∧(∀ j (hj:j < xs.length),i≤j→f≤(xs[j]).1)∧(b=true ↔ ∃ h:i < xs.length,(xs[i]).1=f))∧Bel w w':=by
 refine enT Tryz.func125 Tryz.ntmps125 rfl rfl fun hB=>?_;refine zn22 ?_;refine zK (rg [9,10,11] 15 20) (fun m g w'=>∃ i j:Nat,i≤j∧j≤xs.length∧m=j - i∧g 9= .int .i64 i∧g 10= .int .i64 j∧Bel w w'∧(∀ x (hx:x < xs.length),x < i→(xs[x]).1 < f)∧(∀ x (hx:x < xs.length),j≤x→f≤(xs[x]).1)) (xs.length) ?_ (fun m g3 w1 hI=>?_)
 ·exact⟨0,xs.length,Nat.zero_le _,Nat.le_refl _,rfl,rfl,rfl,hB,fun x _ h=>by omega,fun x h1 h2=>by omega⟩
 obtain⟨i,j,hij,hj,hm,h9,h10,hB,hlo,hhi⟩:=hI;refine zQ 9 _ h9 nu (zQ 10 _ h10 nu (zn8 ?_));refine zy rfl (fun c17=>?_) (fun c17=>?_)
 ·obtain⟨h,hh⟩:∃ h,h=(i + j) / 2:=⟨_,rfl⟩
  have hhl:h < xs.length:=by omega
  obtain⟨lb,lof,rfl,hlb,hlr⟩:=hX.at_ hB hhl;refine zn7 ?_;refine wl (I6 (c:=((i + j:Nat):Int)) rfl rfl om om) (wl (r_cvU U3 Tryz.underlying182 rfl om) (wl (r_shr (b:=1) (c:=h) rfl rfl om (by rw [hh,Nat.shiftRight_eq_div_pow])) (wl (O6 Tryz.underlying182 U3 rfl om) (zn9 ?_))));refine wl (zV Q6 rfl rfl hlr Z4) (wmI rfl ?_);refine xX rfl fn126 (tcl_any _ _ f _) rfl rfl (fun e' w2 hr=>?_);obtain⟨rfl,hs⟩:=hr;replace hB:=hB.tr0 (sB hs);refine⟨_,rfl,?_⟩;refine zn3 ?_;refine zy rfl (fun c31=>?_) (fun c31=>?_)
  ·have hlt:=cmpI_lt.1 c31;obtain⟨i2,hi2⟩:∃ i2,i2=h + 1:=⟨_,rfl⟩
   obtain⟨j2,hj2⟩:∃ j2,j2=j:=⟨_,rfl⟩
   have hlo2:∀ x (hx:x < xs.length),x < i2→(xs[x]).1 < f:=fun x hx hxi=>by
     by_cases e:x=h
     · subst e;exact hlt
     · have hsx:(xs[x]).1≤(xs[h]).1:=hmono x h hx hhl om
       omega
   have hhi2:∀ x (hx:x < xs.length),j2≤x→f≤(xs[x]).1:=fun x hx hxj=>hhi x hx om
   refine zn6 ?_;refine qV (j2 - i2) om agA ?_;exact⟨i2,j2,by omega,by omega,rfl,by subst hi2;rfl,by subst hj2;rfl,hB,hlo2,hhi2⟩
  have hge:¬(xs[h]).1 < f:=fun h=>c31 (cmpI_lt.2 h)
  obtain⟨i2,hi2⟩:∃ i2,i2=i:=⟨_,rfl⟩
  obtain⟨j2,hj2⟩:∃ j2,j2=h:=⟨_,rfl⟩
  have hlo2:∀ x (hx:x < xs.length),x < i2→(xs[x]).1 < f:=fun x hx hxi=>hlo x hx om
  have hhi2:∀ x (hx:x < xs.length),j2≤x→f≤(xs[x]).1:=fun x hx hxj=>by
    have hsx:(xs[h]).1≤(xs[x]).1:=hmono h x hhl hx om;omega
  refine zn5 ?_;refine qV (j2 - i2) om agA ?_;exact⟨i2,j2,by omega,by omega,rfl,by subst hi2;rfl,by subst hj2;rfl,hB,hlo2,hhi2⟩
 have hije:i=j:=by omega
 subst hije;refine y8 ?_;refine zx 39 rfl (fun g39=>?_) (fun g39=>?_)
 ·refine zn6 ?_;have hiN:i < xs.length:=by omega
  obtain⟨lb,lof,rfl,hlb,hlr⟩:=hX.at_ hB hiN;refine zn3 ?_;refine wl (zV Q6 rfl rfl hlr Z4) (zn3 ?_);refine xX rfl fn126 (tcl_any _ _ f _) rfl rfl (fun e' w3 hr=>?_);obtain⟨rfl,hs⟩:=hr;replace hB:=hB.tr0 (sB hs);refine⟨_,rfl,?_⟩;refine zn8 ?_;refine gy (.inl rfl) rfl rfl rfl ?_
  first
    | exact⟨⟨i,false,by omega,rfl,hlo,hhi,⟨fun h=>(Bool.noConfusion h),fun hh=>absurd hh.1 om⟩⟩,hB⟩
    | exact⟨⟨i,decide (OY (xs[i]'hiN).1 f=0),by omega,rfl,hlo,hhi,by rw [decide_eq_true_iff,cmpI_eq];exact⟨fun h=>⟨hiN,h⟩,fun⟨_,h⟩=>h⟩⟩,hB⟩
 refine gV ?_;refine gy (.inl rfl) rfl rfl rfl ?_
 first
   | exact⟨⟨i,false,by omega,rfl,hlo,hhi,⟨fun h=>(Bool.noConfusion h),fun hh=>absurd hh.1 om⟩⟩,hB⟩
   | exact⟨⟨i,decide (OY (xs[i]'hiN).1 f=0),by omega,rfl,hlo,hhi,by rw [decide_eq_true_iff,cmpI_eq];exact⟨fun h=>⟨hiN,h⟩,fun⟨_,h⟩=>h⟩⟩,hB⟩
end Go.Proofs.YtbcpgfnfiekbiaaGreatDoor
namespace Go.Proofs.YtbcpgfnfiekbiaaGreatDoor
open Go.RowKit
theorem fn125:zZ Tryz.prog 125=true:=by kernel_rfl
theorem Jj:(Tryz.prog.info? 113).map (·.size)=some 2:=by kernel_rfl
theorem Wx:(Tryz.prog.info? 115).map (·.zero)=some (some (.agg #[.int .i64 0,.int .i64 0])):=by kernel_rfl
theorem H0 (G:Option Addr) (cg nf:Nat) (gr:List Nd) (i:Nat) (f:Int) (w:World) (hG:NodesIn w G gr) (hi:i < gr.length) (hl:yj nf gr.length (-1) (gr[i]'hi).ln=0) (hw:(gr[i]'hi).ln.length≤1000):Calls Tryz.prog 119 #[.agg #[.slice G gr.length cg],.int .i64 i,.int .i64 f] w fun e w'=>e= .returned (.int .i64 (tgt (gr[i]'hi).ln f))∧Bel w w':=by
 obtain⟨nb,no,LA,lc,rfl,hnb,hnr,hln⟩:=hG.at_ (Below.refl _ _:Bel w w) hi;have hso:=(J0 hl).2;refine enT Tryz.func119 Tryz.ntmps119 rfl rfl fun hB=>?_;refine zn2 ?_;refine qK (v:= .agg #[_]) (cs:=#[_]) rfl rfl (fun b3 w1 hb3 s1 hr=>?_);refine zn8 ?_;refine wl (xw (i:=i) U28 Jj rfl rfl hi rfl) (zn1 ?_);refine wl (qZ (v:= .slice _ _ _) Q4 rfl rfl (hB.u.cell hnb (hnr 1 _ rfl))) (wmI rfl ?_);replace hB:=hB.tr0 s1
 refine zJ fn125 (bsf_any LA lc (gr[i]'hi).ln f _ (hln.mono hB) hw (fun x y hx hy hxy=>by
       by_cases e:x=y
       · subst e;exact Int.le_refl _
       · exact Int.le_of_lt (hso x y hx hy om))) rfl (fun e' w2 hr=>?_)
 obtain⟨⟨ix,b,hix,rfl,hlo,hhi,hbt⟩,s2⟩:=hr;replace s2:=sB s2;obtain⟨hy,hn⟩:=tgt_bs hl hlo hhi;refine⟨_,rfl,?_⟩;refine wmT rfl (wl (jw (v:= .int _ _) rfl rfl) (wl (jw (v:= .bool _) rfl rfl) (yx ?_)));refine vw rfl (fun c21=>?_) (fun c21=>?_)
 ·have hbf:¬b=true:=by simpa using c21
  have hno:=hn (fun h=>hbf (hbt.2 h));refine zn8 ?_;exact⟨gz hno,hB.u⟩
 have hbt2:b=true:=by simpa using c21
 obtain⟨hxl,hxe⟩:=hbt.1 hbt2;have hyes:=hy hxl hxe;replace hB:=hB.tr0 s2;obtain⟨lb,lof,rfl,hlb,hlr⟩:=hln.at_ hB hxl;refine zn7 ?_;refine wl (xw (i:=i) U28 Jj rfl rfl hi rfl) (zn1 ?_);refine wl (qZ (v:= .slice _ _ _) Q4 rfl rfl (hB.cell hnb (hnr 1 _ rfl))) (zn3 ?_);refine wl (qZ (v:= .int _ _) U3 rfl rfl (hlr 1 _ rfl)) (zn5 ?_);exact⟨gz hyes,hB⟩
theorem R9 (G:Option Addr) (cg:Nat) (gr:List Nd) (i:Nat) (f:Int) (w:World) (hG:NodesIn w G gr) (hi:i < gr.length):Calls Tryz.prog 63 #[.agg #[.slice G gr.length cg],.int .i64 i,.int .i64 f] w fun e w'=>e= .returned (.int .i64 (tgt (gr[i]'hi).ln f))∧Bel w w':=by
 obtain⟨nb,no,LA,lc,rfl,hnb,hnr,hln⟩:=hG.at_ (Below.refl _ _:Bel w w) hi;have hmx:=hln.1;unfold vQ at hmx;refine enT Tryz.func63 Tryz.ntmps63 rfl rfl fun hB=>?_;refine zn2 ?_;refine qK (v:= .agg #[_]) (cs:=#[_]) rfl rfl (fun b3 w1 hb3 s1 hr=>?_);refine zn9 ?_;refine wl (xw (i:=i) U28 Jj rfl rfl hi rfl) (zn1 ?_);refine wl (qZ (v:= .slice _ _ _) Q4 rfl rfl (hB.u.cell hnb (hnr 1 _ rfl))) (zn5 ?_);refine zK (rg [6,8] 16 11) (fun m g w'=>∃ k:Nat,k≤(gr[i]'hi).ln.length∧m=(gr[i]'hi).ln.length - k∧g 16= .int .i64 k∧Bel w w'∧(∀ j (hj:j < (gr[i]'hi).ln.length),j < k→¬((gr[i]'hi).ln[j]).1=f)) ((gr[i]'hi).ln.length) ?_ (fun m g2 w2 hI=>?_)
 ·exact⟨0,Nat.zero_le _,rfl,rfl,hB.u,fun j _ h=>by omega⟩
 obtain⟨k,hk,hm,h16,hB,hno⟩:=hI;refine zQ 16 _ h16 nu (zn6 ?_);refine zy rfl (fun c17=>?_) (fun c17=>?_)
 ·have hkl:k < (gr[i]'hi).ln.length:=by omega
  obtain⟨lb,lof,rfl,hlb,hlr⟩:=hln.at_ hB hkl;refine zn7 ?_;refine wl (zV Q6 rfl rfl hlr Z4) ?_;refine xW (cs:=#[.int .i64 0,.int .i64 0]) Wx rfl (fun _=>rfl) (fun _=>rfl) Z4 rfl zX (fun b8 w4 hb8 s2 hr=>?_);refine yw ?_;refine zy rfl (fun c23=>?_) (fun c23=>?_)
  ·refine gV ?_;exact⟨gz (WW hkl c23 (fun j hj h=>hno j hj h)),hB.u⟩
  refine zn7 ?_;refine qV ((gr[i]'hi).ln.length - (k + 1)) om agA ?_;replace hB:=hB.tr0 s2
  exact⟨k + 1,by omega,rfl,rfl,hB,fun j hj h=>by
    by_cases e:j=k
    · subst e;exact c23
    · exact hno j hj om⟩
 have hall:tgt (gr[i]'hi).ln f= -1:=WV (fun j hj=>hno j hj om);refine y8 ?_;exact⟨gz hall,hB⟩
end Go.Proofs.YtbcpgfnfiekbiaaGreatDoor
namespace Go.Proofs.YtbcpgfnfiekbiaaGreatDoor
open Go.RowKit
theorem Zj {a b:Int} (h:b=a):Ending.returned (.int .i64 a)= .returned (.int .i64 b):=by rw [h]
theorem ret_b {a b:Bool} (h:b=a):Ending.returned (.bool a)= .returned (.bool b):=by rw [h]
theorem fn119:zZ Tryz.prog 119=true:=by kernel_rfl
theorem fn54:zZ Tryz.prog 54=true:=by kernel_rfl
theorem fn76:zZ Tryz.prog 76=true:=by kernel_rfl
theorem fn84:zZ Tryz.prog 84=true:=by kernel_rfl
theorem fn85:zZ Tryz.prog 85=true:=by kernel_rfl
theorem L1 (G:Option Addr) (cg nf:Nat) (gr:List Nd) (k:Int) (w:World) (hG:NodesIn w G gr) (h0:0 < gr.length) (hl:yj nf gr.length (-1) (gr[0]'h0).ln=0) (hw:(gr[0]'h0).ln.length≤1000):Calls Tryz.prog 85 #[.agg #[.slice G (gr).length cg],.int .i64 k] w fun e w'=>e= .returned (.bool (gk gr k))∧Bel w w':=by
 refine enT Tryz.func85 Tryz.ntmps85 rfl rfl fun hB=>?_;refine zn2 ?_;refine qK (v:= .agg #[_]) (cs:=#[_]) rfl rfl (fun b2 w1 hb2 s1 hr=>?_);refine yw ?_;refine zK (rg [] 4 14) (fun m g w'=>∃ j:Nat,j≤4∧m=4 - j∧g 6= .int .i64 j∧Bel w w'∧Blk w' b2 30 #[.slice G (gr).length cg]∧∀ f,f < j→plN gr k f=true) (4) ?_ (fun m g2 w2 hI=>?_)
 ·exact⟨0,by omega,rfl,rfl,hB.u,hb2,fun f hf=>by omega⟩
 obtain⟨j,hj,hm,h6,hB,hb2,hall⟩:=hI;refine zQ 6 _ h6 nu (zn6 ?_);refine zy rfl (fun c7=>?_) (fun c7=>?_)
 ·refine gV ?_;refine zJ fn119 (H0 G cg nf gr 0 ((j:Nat):Int) _ (hG.mono hB) h0 hl hw) rfl (fun e' w3 hr=>?_);obtain⟨rfl,s2⟩:=hr;replace s2:=sB s2;refine⟨_,rfl,?_⟩;refine zn4 ?_;refine wl (Bq U4 rfl rfl) (zw (e_S ?_));refine vw rfl (fun c16=>?_) (fun c16=>?_)
  ·have hpl:plN gr k j=false:=by
     have h:=c16;rw [Bool.not_eq_true'] at h;rw [By h0];exact h
   refine y8 ?_;exact⟨ret_b (pl_no om hpl),hB.u⟩
  have hpl:plN gr k j=true:=by
    have h:=c16;rw [Bool.not_eq_false'] at h;rw [By h0];exact h
  refine zn7 ?_;refine qV (4 - (j + 1)) om agA ?_;replace hB:=hB.tr0 s2;replace hb2:=hb2.tr0 s2
  exact⟨j + 1,by omega,rfl,rfl,hB,hb2,fun f hf=>by
    by_cases e:f=j
    · rw [e];exact hpl
    · exact hall f om⟩
 refine y8 ?_;exact⟨ret_b (pl_yes (fun f hf=>hall f om)),hB⟩
theorem C5 (A B G SA BA:Option Addr) (c d cg cs mB bu bd:Nat) (l:List Ty) (fs:List Ft) (x:Lx) (w:World) (hU:U8In w) (hI:TableIn w l bu bd) (h60:l.length≤60) (hF:FeatsIn w B fs) (hfo:FOk l.length fs) (hG:NodesIn w G x.gr) (hS:SimsIn w SA x.mean.type.args) (hT:TmsIn w BA x.mean.args) (hsz:x.word.size < 9223372036854775807):Calls Tryz.prog 56 #[.agg #[.slice A l.length c,.slice B fs.length d],tabV l.length bu bd,.agg #[.string (x).word,.slice G (x).gr.length cg,.int .i64 (x).wt,.int .i64 ((x).mean).kind,.string ((x).mean).name,.int .i64 ((x).mean).index,.string ((x).mean).type.base,.slice SA ((x).mean).type.args.length cs,.slice BA ((x).mean).args.length mB]] w fun e w'=>e= .returned (.int .i64 (Y0 l fs x))∧Bel w w':=by
 refine enT Tryz.func56 Tryz.ntmps56 rfl rfl fun hB=>?_;refine zn2 ?_;refine qK (v:= .agg #[_,_]) (cs:=#[_,_]) rfl rfl (fun b3 w1 hb3 s1 hr=>?_);refine qK (v:= .agg #[_,_]) (cs:=#[_,_]) rfl rfl (fun b4 w2 hb4 s2 hr=>?_);refine qK (v:= .agg #[_,_,_,_,_,_,_,_,_]) (cs:=#[_,_,_,_,_,_,_,_,_]) rfl rfl (fun b5 w3 hb5 s3 hr=>?_);refine zn8 ?_;refine zJ fn54 (word_p x.word _ (hU.mono hB.u) hsz) rfl (fun e' w4 hr=>?_);obtain⟨rfl,s4⟩:=hr;replace s4:=sB s4;refine⟨_,rfl,?_⟩;refine zn3 ?_;refine vw rfl (fun c11=>?_) (fun c11=>?_)
 ·have hwd:yX x.word=false:=by simpa using c11
  refine zn8 ?_;exact⟨Zj (BK hwd),hB.u⟩
 have hwd:yX x.word=true:=by simpa using c11
 refine zn4 ?_;replace hB:=hB.tr0 (s1.trans (s2.trans (s3.trans s4)));refine x6 (rg [] 12 8) 19 (.bool (decide (x.wt < 0∨1000000 < x.wt))) nu ?_ (fun gq=>?_)
 ·refine zn5 ?_;refine zx 15 rfl (fun g15=>?_) (fun g15=>?_)
  ·refine zn4 ?_;refine zw (e_R ⟨rfl,agA,?_⟩);exact clA
  refine zn7 ?_;refine zw (e_R ⟨rfl,agA,?_⟩);exact clA
 refine e_S ?_;refine zy rfl (fun c19=>?_) (fun c19=>?_)
 ·refine zn8 ?_;exact⟨Zj (L9 hwd c19),hB⟩
 refine zn8 ?_;refine wl (zV U30 rfl rfl (hb5.u.sub (n:=1) (xs:=[_]) rfl) uj) ?_;refine zJ fn84 (Jz A B G c d cg bu bd l fs x.gr _ (hI.mono hB) h60 (hF.mono hB) (hG.mono hB) hfo) rfl (fun e' w5 hr=>?_);obtain⟨rfl,s5⟩:=hr;replace s5:=sB s5;refine⟨_,rfl,?_⟩;refine xW (cs:=#[.int .i64 0,.int .i64 0]) qk rfl (fun _=>rfl) (fun _=>rfl) z4 rfl zX (fun b7 w7 hb7 s6 hr=>?_);refine zn9 ?_;refine zy rfl (fun c27=>?_) (fun c27=>?_)
 ·refine yw ?_;exact⟨Zj (lx_gr hwd c19 c27),hB.u⟩
 have hin:=Decidable.not_not.1 c27;refine zn5 ?_;refine wl (zV U44 rfl rfl (hb5.u.sub (n:=6) (xs:=[_,_,_,_,_,_]) rfl) Yy) ?_;refine zJ fn76 (T9 SA BA cs mB x.mean _ (hS.mono hB.u) (hT.mono hB.u)) rfl (fun e' w8 hr=>?_);obtain⟨rfl,s7⟩:=hr;replace s7:=sB s7;refine⟨_,rfl,?_⟩;refine wl (Dk (v:= .int _ _) U36 rfl U3 rfl rfl rfl) (zn5 ?_);exact⟨Zj (lx_ok hwd c19 hin),hB.u⟩
theorem rule_any (A B G SA BA:Option Addr) (c d cg cs mB bu bd:Nat) (l:List Ty) (fs:List Ft) (r:Rl) (w:World) (hI:TableIn w l bu bd) (h60:l.length≤60) (hF:FeatsIn w B fs) (hfo:FOk l.length fs) (h40:fs.length≤40) (hG:NodesIn w G r.gr) (hS:SimsIn w SA r.mean.type.args) (hT:TmsIn w BA r.mean.args):Calls Tryz.prog 45 #[.agg #[.slice A l.length c,.slice B fs.length d],tabV l.length bu bd,.agg #[.string (r).name,.slice G (r).gr.length cg,.int .i64 (r).kids,.int .i64 (r).wt,.int .i64 ((r).mean).kind,.string ((r).mean).name,.int .i64 ((r).mean).index,.string ((r).mean).type.base,.slice SA ((r).mean).type.args.length cs,.slice BA ((r).mean).args.length mB]] w fun e w'=>e= .returned (.int .i64 (X5 l fs r))∧Bel w w':=by
 refine enT Tryz.func45 Tryz.ntmps45 rfl rfl fun hB=>?_;refine zn2 ?_;refine qK (v:= .agg #[_,_]) (cs:=#[_,_]) rfl rfl (fun b3 w1 hb3 s1 hr=>?_);refine qK (v:= .agg #[_,_]) (cs:=#[_,_]) rfl rfl (fun b4 w2 hb4 s2 hr=>?_);refine qK (v:= .agg #[_,_,_,_,_,_,_,_,_,_]) (cs:=#[_,_,_,_,_,_,_,_,_,_]) rfl rfl (fun b5 w3 hb5 s3 hr=>?_);refine zn5 ?_;replace hB:=hB.tr0 (s1.trans (s2.trans s3));refine x6 (rg [] 8 18) 25 (.bool (decide (r.kids < 1∨3 < r.kids∨r.wt < 0∨1000000 < r.wt))) nu ?_ (fun gq=>?_)
 ·refine zn5 ?_;refine zx 11 rfl (fun g11=>?_) (fun g11=>?_)
  ·refine gV ?_;refine zw (e_R ⟨rfl,agA,?_⟩);exact clA
  refine zn8 ?_;refine zx 16 rfl (fun g16=>?_) (fun g16=>?_)
  ·refine zn9 ?_;refine zw (e_R ⟨rfl,agA,?_⟩);exact clA
  refine zn8 ?_;refine zx 21 rfl (fun g21=>?_) (fun g21=>?_)
  ·refine zn4 ?_;refine zw (e_R ⟨rfl,agA,?_⟩);exact clA
  refine zn7 ?_;refine zw (e_R ⟨rfl,agA,?_⟩);exact clA
 refine e_S ?_;refine zy rfl (fun c25=>?_) (fun c25=>?_)
 ·refine zn8 ?_;exact⟨Zj (HZ c25),hB⟩
 refine zn8 ?_;refine wl (zV U30 rfl rfl (hb5.sub (n:=1) (xs:=[_]) rfl) uj) ?_;refine zJ fn84 (Jz A B G c d cg bu bd l fs r.gr _ (hI.mono hB) h60 (hF.mono hB) (hG.mono hB) hfo) rfl (fun e' w4 hr=>?_);obtain⟨rfl,s4⟩:=hr;replace s4:=sB s4;refine⟨_,rfl,?_⟩;refine xW (cs:=#[.int .i64 0,.int .i64 0]) qk rfl (fun _=>rfl) (fun _=>rfl) z4 rfl zX (fun b7 w6 hb7 s5 hr=>?_);refine zn9 ?_;refine zy rfl (fun c33=>?_) (fun c33=>?_)
 ·refine yw ?_;exact⟨Zj (rl_gr c25 c33),hB.u⟩
 have hin:=Decidable.not_not.1 c33;have hl0:=E6 hin;have hk0:=Oy hl0;have hw0:=hk0.few 0 hk0.pos;refine zn6 ?_;refine wl (zV U30 rfl rfl (hb5.u.sub (n:=1) (xs:=[_]) rfl) uj) (zn2 ?_);refine zJ fn85 (L1 G cg fs.length r.gr r.kids _ (hG.mono hB.u) hk0.pos (Oq hl0 0 hk0.pos) om) rfl (fun e' w7 hr=>?_);obtain⟨rfl,s6⟩:=hr;replace s6:=sB s6;refine⟨_,rfl,?_⟩;refine zn3 ?_;refine vw rfl (fun c41=>?_) (fun c41=>?_)
 ·have hpl:gk r.gr r.kids=false:=by simpa using c41
  refine zn8 ?_;exact⟨Zj (rl_pl c25 hin hpl),hB.u⟩
 have hpl:gk r.gr r.kids=true:=by simpa using c41
 refine zn5 ?_;refine wl (zV U44 rfl rfl (hb5.u.sub (n:=6) (xs:=[_,_,_,_,_,_]) rfl) Yy) ?_;refine zJ fn76 (T9 SA BA cs mB r.mean _ (hS.mono hB.u) (hT.mono hB.u)) rfl (fun e' w8 hr=>?_);obtain⟨rfl,s7⟩:=hr;replace s7:=sB s7;refine⟨_,rfl,?_⟩;refine wl (Dk (v:= .int _ _) U36 rfl U3 rfl rfl rfl) (zn5 ?_);exact⟨Zj (rl_ok c25 hin hpl),hB.u⟩
theorem uz (a b:Int) (w:World):Calls Tryz.prog 94 #[.int .i64 a,.int .i64 b] w fun e w'=>e= .returned (flV (a,b))∧Bel w w':=by
 refine enT Tryz.func94 Tryz.ntmps94 rfl rfl fun hB=>?_;refine zn2 ?_;refine zY (cs:=#[.int .i64 0,.int .i64 0]) qk rfl (fun b4 w1 hb4 s1 hr=>?_);have lo4:=nLT (Bel.size hB) hr;refine zn6 ?_;refine wl (yv (v0:= .int _ _) (v1:= .int _ _) (fun v0 v1=>#[v0,v1]) rfl rfl kR) ?_;refine zj hb4 rfl rfl z4 rfl zX (fun w2 hq s2=>?_);replace hb4:=hq;refine zn3 ?_;refine x8 (.inl rfl) rfl (zk U36 rfl rfl hb4.range0 z4) ?_;exact⟨qQ rfl,hB.u⟩
end Go.Proofs.YtbcpgfnfiekbiaaGreatDoor
namespace Go.Proofs.YtbcpgfnfiekbiaaGreatDoor
open Go.RowKit
theorem fn68:zZ Tryz.prog 68=true:=by kernel_rfl
set_option maxHeartbeats 2000000 in
theorem rl_any (x:ByteArray) (hx:0 < x.size) (w:World):Calls Tryz.prog 68 #[.string x] w fun e w'=>e= .returned (.int .i64 (I2 x))∧w=w':=by
 have hb0:=u5 x 0;refine enter Tryz.func68 Tryz.ntmps68 rfl (Nat.le_of_ble_eq_true rfl) (zn8 ?_);refine wl (jk (i:=0) U9 rfl rfl hx) (zn23 ?_);refine zy rfl (fun c10=>?_) (fun c10=>?_)
 ·refine zn9 ?_;exact⟨congrArg (fun z=>Ending.returned (.int .i64 z)) (rlen_low om).symm,rfl⟩
 have h128:128≤gb x 0:=by omega
 refine xv ?_;refine x6 [13,14,15,16,17,18,19] 13 (.bool (decide (194≤gb x 0∧gb x 0≤223))) nu ?_ (fun gq=>?_)
 ·refine zn4 ?_;refine zx 16 rfl (fun g16=>?_) (fun g16=>?_)
  ·refine zn6 ?_;refine zw (e_R ⟨rfl,agA,?_⟩);exact clA
  refine zn4 ?_;refine zw (e_R ⟨rfl,agA,?_⟩);exact clA
 refine e_S ?_;refine y7 (rg [2,4,5,6] 20 23) (fun g w'=>∃ (nn:Nat) (vz lz:Int),g 4= .int .i64 (nn:Int)∧g 6= .int .i64 vz∧g 5= .int .i64 lz∧Hd (gb x 0) nn vz lz∧w=w') ?_ (fun gx1 w1 hI=>?_)
 ·refine zy rfl (fun c13=>?_) (fun c13=>?_)
  ·refine zn2 ?_;refine wl (O6 U5 U3 rfl om) (wl (kW rfl rfl rfl om) (zn4 ?_));refine e_R ⟨agA,?_⟩
   first
     | exact⟨2,_,_,rfl,rfl,rfl,.inl ⟨c13.1,c13.2,rfl,rfl,rfl⟩,rfl⟩
     | exact⟨3,_,_,rfl,rfl,rfl,.inr (.inl ⟨c23.1,c23.2,rfl,rfl,rfl⟩),rfl⟩
     | exact⟨4,_,_,rfl,rfl,rfl,.inr (.inr ⟨c33.1,c33.2,rfl,rfl,rfl⟩),rfl⟩
  refine xv ?_;refine x6 [23,24,25,26,27,28,29] 23 (.bool (decide (224≤gb x 0∧gb x 0≤239))) nu ?_ (fun gq=>?_)
  ·refine zn4 ?_;refine zx 26 rfl (fun g26=>?_) (fun g26=>?_)
   ·refine zn6 ?_;refine zw (e_R ⟨rfl,agA,?_⟩);exact clA
   refine zn4 ?_;refine zw (e_R ⟨rfl,agA,?_⟩);exact clA
  refine e_S ?_;refine zy rfl (fun c23=>?_) (fun c23=>?_)
  ·refine zn2 ?_;refine wl (O6 U5 U3 rfl om) (wl (kW rfl rfl rfl om) (zn4 ?_));refine e_R ⟨agA,?_⟩
   first
     | exact⟨2,_,_,rfl,rfl,rfl,.inl ⟨c13.1,c13.2,rfl,rfl,rfl⟩,rfl⟩
     | exact⟨3,_,_,rfl,rfl,rfl,.inr (.inl ⟨c23.1,c23.2,rfl,rfl,rfl⟩),rfl⟩
     | exact⟨4,_,_,rfl,rfl,rfl,.inr (.inr ⟨c33.1,c33.2,rfl,rfl,rfl⟩),rfl⟩
  refine xv ?_;refine x6 [33,34,35,36,37,38,39] 33 (.bool (decide (240≤gb x 0∧gb x 0≤244))) nu ?_ (fun gq=>?_)
  ·refine zn4 ?_;refine zx 36 rfl (fun g36=>?_) (fun g36=>?_)
   ·refine zn6 ?_;refine zw (e_R ⟨rfl,agA,?_⟩);exact clA
   refine zn4 ?_;refine zw (e_R ⟨rfl,agA,?_⟩);exact clA
  refine e_S ?_;refine zy rfl (fun c33=>?_) (fun c33=>?_)
  ·refine zn2 ?_;refine wl (O6 U5 U3 rfl om) (wl (kW rfl rfl rfl om) (zn4 ?_));refine e_R ⟨agA,?_⟩
   first
     | exact⟨2,_,_,rfl,rfl,rfl,.inl ⟨c13.1,c13.2,rfl,rfl,rfl⟩,rfl⟩
     | exact⟨3,_,_,rfl,rfl,rfl,.inr (.inl ⟨c23.1,c23.2,rfl,rfl,rfl⟩),rfl⟩
     | exact⟨4,_,_,rfl,rfl,rfl,.inr (.inr ⟨c33.1,c33.2,rfl,rfl,rfl⟩),rfl⟩
  refine zn6 ?_;refine e_RSr (zn3 ?_);exact⟨congrArg (fun z=>Ending.returned (.int .i64 z)) (rlen_no h128 om).symm,rfl⟩
 obtain⟨nn,vz,lz,h4,h6,h5,hd,rfl⟩:=hI;obtain⟨hd1,hd2⟩:=hd_rl hd;have hn:2≤nn∧nn≤4∧0≤vz∧vz≤31:=by
   rcases hd with ⟨q1,q2,q3,q4,q5⟩ | ⟨q1,q2,q3,q4,q5⟩ | ⟨q1,q2,q3,q4,q5⟩ <;> omega
 clear hd;refine ky 4 _ h4 nu (ky 6 _ h6 nu (ky 5 _ h5 nu (yx ?_)));refine zy rfl (fun c46=>?_) (fun c46=>?_)
 ·refine zn8 ?_;exact⟨congrArg (fun z=>Ending.returned (.int .i64 z)) (hd2 (.inl om)).symm,rfl⟩
 have hxs:nn≤x.size:=by omega
 refine zn9 ?_;refine zK (rg [2,6,7] 47 23) (fun m g w'=>∃ k:Nat,k + 1≤nn∧m=nn - (k + 1)∧g 7= .int .i64 ((k + 1:Nat):Int)∧g 6= .int .i64 (vv x vz k)∧(∀ j,1≤j→j < k + 1→128≤gb x j∧gb x j≤191)∧0≤vv x vz k∧((k=0∧vv x vz k≤31)∨(k=1∧vv x vz k≤2047)∨(k=2∧vv x vz k≤131071)∨(k=3∧vv x vz k≤8388607))∧w=w') (nn - 1) ?_ (fun m g16 w2 hI=>?_)
 ·exact⟨0,by omega,rfl,rfl,rfl,fun j h1 h2=>by omega,hn.2.2.1,.inl ⟨rfl,hn.2.2.2⟩,rfl⟩
 obtain⟨k,hk,hm,h7,h6b,hall,hv0,hvb,rfl⟩:=hI;refine zQ 7 _ h7 nu (zQ 6 _ h6b nu (zn8 ?_));refine zy rfl (fun c49=>?_) (fun c49=>?_)
 ·have hk2:k + 1 < nn:=by omega
  refine zn6 ?_;refine x6 (rg [] 52 10) 61 (.bool (decide ((¬(128≤gb x (k + 1)∧gb x (k + 1)≤191))))) nu ?_ (fun gq=>?_)
  ·refine zn3 ?_;refine wl (jk (i:=(k + 1)) U9 rfl rfl om) (zn2 ?_);refine zx 56 rfl (fun g56=>?_) (fun g56=>?_)
   ·refine zn5 ?_;refine zw (e_R ⟨rfl,agA,?_⟩);exact clA
   refine zn5 ?_;refine wl (jk (i:=(k + 1)) U9 rfl rfl om) (zn3 ?_);refine zw (e_R ⟨rfl,agA,?_⟩);exact clA
  refine e_S ?_;refine zy rfl (fun c61=>?_) (fun c61=>?_)
  ·refine kJ ?_;exact⟨congrArg (fun z=>Ending.returned (.int .i64 z)) (hd2 (.inr (.inl ⟨k + 1,by omega,hk2,c61⟩))).symm,rfl⟩
  have hbt:128≤gb x (k + 1)∧gb x (k + 1)≤191:=Decidable.not_not.1 c61;refine zn4 ?_;refine wl (r_mul rfl rfl rfl (by clear hall hd1 hd2;omega)) (zn2 ?_);refine wl (jk (i:=(k + 1)) U9 rfl rfl om) (wl (O6 U5 U3 rfl om) (wl (I6 rfl rfl rfl (by clear hall hd1 hd2;omega)) (wl (kW rfl rfl rfl (by clear hall hd1 hd2;omega)) (zn9 ?_))));refine qV (nn - (k + 2)) om agA ?_;refine⟨k + 1,by omega,rfl,rfl,rfl,fun j h1 h2=>?_,?_,?_,rfl⟩
  · by_cases e:j=k + 1
    · rw [e];exact hbt
    · exact hall j h1 om
  · simp only [vv];omega
  · simp only [vv];clear hall hd1 hd2;omega
 have hkn:nn=k + 1:=by omega
 subst hkn;simp only [Nat.add_sub_cancel] at hd1 hd2;refine zn7 ?_
 try clear h6
 refine x6 (rg [] 70 15) 84 (.bool (decide (vv x vz k < lz∨1114111 < vv x vz k∨(55296≤vv x vz k∧vv x vz k≤57343)))) nu ?_ (fun gq=>?_)
 ·refine zn5 ?_;refine zx 73 rfl (fun g73=>?_) (fun g73=>?_)
  ·refine yx ?_;refine zw (e_R ⟨rfl,agA,?_⟩);exact clA
  refine zn6 ?_;refine zx 77 rfl (fun g77=>?_) (fun g77=>?_)
  ·refine zn7 ?_;refine zw (e_R ⟨rfl,agA,?_⟩);exact clA
  refine zn6 ?_;refine zx 80 rfl (fun g80=>?_) (fun g80=>?_)
  ·refine zn7 ?_;refine zw (e_R ⟨rfl,agA,?_⟩);exact clA
  refine zn5 ?_;refine zw (e_R ⟨rfl,agA,?_⟩);exact clA
 refine e_S ?_;refine zy rfl (fun c84=>?_) (fun c84=>?_)
 ·refine zn8 ?_;exact⟨congrArg (fun z=>Ending.returned (.int .i64 z)) (hd2 (.inr (.inr ⟨c84,hall⟩))).symm,rfl⟩
 refine yw ?_;exact⟨congrArg (fun z=>Ending.returned (.int .i64 z)) (hd1 hxs hall c84).symm,rfl⟩
set_option maxHeartbeats 2000000 in
theorem PY (s:ByteArray) (w:World) (hsz:s.size < 9223372036854775807):Calls Tryz.prog 34 #[.string s] w fun e w'=>e= .returned (.bool (yX s))∧Bel w w':=by
 refine enT Tryz.func34 Tryz.ntmps34 rfl rfl fun hB=>?_;refine gV ?_;refine Gz U9 rfl (fun b9 w1 hb9 s1 hr=>?_);have lo9:=nLT (Bel.size hB) hr;refine zn3 ?_;refine zK (rg [2,3,5] 10 39) (fun m g w'=>∃ p n:Nat,p≤s.size∧m=s.size - p∧n≤p∧g 3= .int .i64 n∧n + (ch s p).length=(ch s 0).length∧brd s 0=brd s p∧Bel w w'∧ItIn w' b9 s p) (s.size) ?_ (fun m g3 w2 hI=>?_)
 ·exact⟨0,0,Nat.zero_le _,rfl,Nat.le_refl _,rfl,Nat.zero_add _,rfl,hB.u,hb9⟩
 obtain⟨p,n,hp,hm,hnp,h3,hc,hbr,hB,hb9⟩:=hI;refine zQ 3 _ h3 nu (zn2 ?_);rcases Nat.lt_or_ge (p) (s).size with hnlt | hnge
 ·refine Gq hb9 rfl hnlt (fun w3 hq s2=>?_);replace hb9:=hq;have hwp:=Q7 hnlt;have hwl:=Cz hnlt;rw [Iy hnlt,List.length_cons] at hc;refine wl (jw (v:= .bool true) rfl rfl) (zn9 ?_);refine wl (jw (v:= .int _ _) rfl rfl) (yx ?_);replace hB:=hB.tr1 s2 lo9;refine x6 (rg [] 15 34) 48 (.bool (decide ((Utf8.decode s p).1=32∨(Utf8.decode s p).1=9∨(Utf8.decode s p).1=10∨(Utf8.decode s p).1=40∨(Utf8.decode s p).1=41∨(Utf8.decode s p).1=91∨(Utf8.decode s p).1=93∨(Utf8.decode s p).1=44∨(Utf8.decode s p).1=59))) nu ?_ (fun gq=>?_)
  ·refine zn4 ?_;refine zx 17 rfl (fun g17=>?_) (fun g17=>?_)
   ·refine zn30 ?_;refine zn1 ?_;refine zw (e_R ⟨rfl,agA,?_⟩);exact clA
   refine zn6 ?_;refine zx 21 rfl (fun g21=>?_) (fun g21=>?_)
   ·refine zn27 ?_;refine zw (e_R ⟨rfl,agA,?_⟩);exact clA
   refine zn6 ?_;refine zx 25 rfl (fun g25=>?_) (fun g25=>?_)
   ·refine zn23 ?_;refine zw (e_R ⟨rfl,agA,?_⟩);exact clA
   refine zn6 ?_;refine zx 29 rfl (fun g29=>?_) (fun g29=>?_)
   ·refine zn19 ?_;refine zw (e_R ⟨rfl,agA,?_⟩);exact clA
   refine zn6 ?_;refine zx 33 rfl (fun g33=>?_) (fun g33=>?_)
   ·refine Z6 ?_;refine zw (e_R ⟨rfl,agA,?_⟩);exact clA
   refine zn6 ?_;refine zx 37 rfl (fun g37=>?_) (fun g37=>?_)
   ·refine yx ?_;refine zw (e_R ⟨rfl,agA,?_⟩);exact clA
   refine zn6 ?_;refine zx 41 rfl (fun g41=>?_) (fun g41=>?_)
   ·refine zn7 ?_;refine zw (e_R ⟨rfl,agA,?_⟩);exact clA
   refine zn6 ?_;refine zx 45 rfl (fun g45=>?_) (fun g45=>?_)
   ·refine zn3 ?_;refine zw (e_R ⟨rfl,agA,?_⟩);exact clA
   refine zn5 ?_;refine zw (e_R ⟨rfl,agA,?_⟩);exact clA
  refine e_S ?_;refine zy rfl (fun c48=>?_) (fun c48=>?_)
  ·refine yx ?_;exact⟨congrArg (fun b=>Ending.returned (.bool b)) (by unfold yX;rw [hbr,Xq hnlt,(spc_iff _).2 c48];simp),hB⟩
  have hsn:spc (Utf8.decode s p).1=false:=by
    cases h:spc (Utf8.decode s p).1 with
    | false=>rfl
    | true=>exact absurd ((spc_iff _).1 h) c48
  refine Y5 (e_B (qV (s.size - (p + wdt s p)) om agA ?_));exact⟨p + wdt s p,n + 1,hwl,rfl,by omega,rfl,by omega,by rw [hbr,Xq hnlt,hsn,Bool.false_or],hB,hb9⟩
 refine wl (r_ne hb9 rfl (Nat.not_lt.2 hnge)) ?_;rw [SZ (Nat.not_lt.2 hnge),List.length_nil,Nat.add_zero] at hc;rw [E2 (Nat.not_lt.2 hnge)] at hbr;refine wl (jw (v:= .bool false) rfl rfl) (yx ?_);refine x6 [49,50,51,52,53,54] 54 (.bool (decide (n < 1∨30 < n))) nu ?_ (fun gq=>?_)
 ·refine zn4 ?_;refine zx 51 rfl (fun g51=>?_) (fun g51=>?_)
  ·refine zn3 ?_;refine zw (e_R ⟨rfl,agA,?_⟩);exact clA
  refine zn5 ?_;refine zw (e_R ⟨rfl,agA,?_⟩);exact clA
 refine e_S ?_;refine zy rfl (fun c54=>?_) (fun c54=>?_)
 ·refine zn8 ?_;exact⟨congrArg (fun b=>Ending.returned (.bool b)) (by unfold yX;rcases c54 with h | h <;> first | (rw [decide_eq_false (show ¬1≤(ch s 0).length by omega)];rfl) | (rw [decide_eq_false (show ¬(ch s 0).length≤30 by omega)];simp)),hB⟩
 refine zn9 ?_;refine zK (rg [2,6,7] 55 13) (fun m g w'=>∃ q:Nat,q≤s.size∧s.size - q≤m∧g 6= .int .i64 q∧vq s 0=vq s q∧Bel w w') (s.size) ?_ (fun m g11 w4 hI=>?_)
 ·exact⟨0,Nat.zero_le _,Nat.le_refl _,rfl,rfl,hB⟩
 obtain⟨q,hq,hm2,h6,hv,hB⟩:=hI;obtain⟨mo,rfl⟩:∃ x,x=m:=⟨_,rfl⟩
 refine zQ 6 _ h6 nu (zn9 ?_);refine zy rfl (fun c58=>?_) (fun c58=>?_)
 ·have hqs:q < s.size:=by omega
  have hwp2:=Q7 hqs;have hwl2:=Cz hqs;refine zn7 ?_;refine wl (X8 (l:=q) U9 rfl rfl om) ?_;refine zJ fn68 (rl_any (sdr q s) (by rw [y5];omega) _) rfl (fun e' w5 hr=>?_);obtain⟨rfl,rfl⟩:=hr;have hrl0:=rlen_sdr q s;refine⟨_,rfl,?_⟩;refine yw ?_;refine zy rfl (fun c64=>?_) (fun c64=>?_)
  ·have hok:ZY s q=false:=by
     cases h:ZY s q with
     | false=>rfl
     | true=>rw [h,if_pos rfl] at hrl0;omega
   refine y8 ?_;exact⟨congrArg (fun b=>Ending.returned (.bool b)) (by unfold yX;rw [hv,T5 hqs hok];simp),hB⟩
  have hok:ZY s q=true:=by
    cases h:ZY s q with
    | true=>rfl
    | false=>rw [h,if_neg dE] at hrl0;exact absurd hrl0 c64
  have hrl:I2 (sdr q s)=((wdt s q:Nat):Int):=by rw [hrl0,hok,if_pos rfl]
  refine zn5 ?_;refine wl (I6 rfl rfl rfl (by rw [hrl];omega)) (zn3 ?_);refine qV (mo - 1) om agA ?_;exact⟨q + wdt s q,hwl2,by omega,by rw [hrl];rfl,by rw [hv,T6 hqs hok],hB⟩
 rw [vq_end (p:=q) om] at hv;refine y8 ?_;exact⟨congrArg (fun b=>Ending.returned (.bool b)) (by unfold yX;rw [hv,hbr,decide_eq_true (show 1≤(ch s 0).length by omega),decide_eq_true (show (ch s 0).length≤30 by omega)];rfl),hB⟩
end Go.Proofs.YtbcpgfnfiekbiaaGreatDoor
namespace Go.Proofs.YtbcpgfnfiekbiaaGreatDoor
open Go.RowKit
theorem inB_le (t:Tm) (b:Nat):inB t b≤b + 1:=by unfold inB;split <;> omega
def argN (k:Nat):Int:=if k=3 then 1 else if k=4 then 2 else 0
theorem arg_at {k:Nat} (h:k < 5):(#[.int .i64 0,.int .i64 0,.int .i64 0,.int .i64 1,.int .i64 2]:Array Value)[0 + k * 1]? =some (.int .i64 (argN k)):=by
  match k,h with
  | 0,_=>rfl
  | 1,_=>rfl
  | 2,_=>rfl
  | 3,_=>rfl
  | 4,_=>rfl
def zOk (k:Nat) (t:Tm):Prop:=((t.args.length:Nat):Int)=argN k∧(k=1∨t.name=⟨#[]⟩)∧(k=2∨t.index=0)∧(k=1∨k=3∨J4 t.type)
instance (k:Nat) (t:Tm):Decidable (zOk k t):=by unfold zOk;infer_instance
def ndX (n d b:Nat) (t:Tm):Int:=if 200 < n + 1∨40 < d then 1 else ndC b t
theorem ndX_bad {n d b:Nat} {t:Tm} {r:List (Tm×Nat×Nat)} (h:ndX n d b t≠0):tst ((t,d,b) :: r) n=(n + 1,(ndX n d b t,(n:Int))):=by
  unfold ndX at h ⊢;by_cases e:200 < n + 1∨40 < d
  · rw [if_pos e];exact tst_out e
  · rw [if_neg e] at h ⊢;exact tst_bad e h
theorem ndX_go {n d b:Nat} {t:Tm} {r:List (Tm×Nat×Nat)} (h:ndX n d b t=0):tst ((t,d,b) :: r) n=tst (t.args.map (fun y=>(y,d + 1,inB t b)) ++ r) (n + 1)∧(d≤40∧n + 1≤200)∧ndC b t=0:=by
  unfold ndX at h;by_cases e:200 < n + 1∨40 < d
  · rw [if_pos e] at h;cases h
  · rw [if_neg e] at h;exact⟨tst_go e h,⟨by omega,by omega⟩,h⟩
theorem ndC_len {b:Nat} {t:Tm} (h:ndC b t=0):t.args.length≤2:=by
  unfold ndC at h
  repeat' split at h
  all_goals first | omega | (exfalso;revert h;decide)
section x
variable {n d b k:Nat} {t:Tm} (hb:¬(200 < n + 1∨40 < d)) (hk:t.kind=(k:Int)) (h1:1≤k) (h4:k≤4)
include hb
theorem ndX_4 (h:t.kind < 1∨4 < t.kind):ndX n d b t=4:=by
  unfold ndX ndC;rw [if_neg hb,if_neg om,if_neg om,if_neg om,if_neg om]
include hk h1 h4
theorem ndX_5 (h:¬zOk k t):ndX n d b t=5:=by
  unfold ndX ndC;rw [if_neg hb];unfold zOk argN at h
  match k,hk,h1,h4 with
  | 1,hk,_,_=>
    have hk:t.kind=1:=hk;rw [if_pos hk,if_neg (fun e=>h ⟨by simp [e.2],.inl rfl,.inr e.1,.inl rfl⟩)]
  | 2,hk,_,_=>
    have hk:t.kind=2:=hk;rw [if_neg (show ¬t.kind=1 by rw [hk];decide),if_pos hk,if_neg (fun e=>h ⟨by simp [e.2.2],.inr e.1,.inl rfl,.inr (.inr e.2.1)⟩)]
  | 3,hk,_,_=>
    have hk:t.kind=3:=hk;rw [if_neg (show ¬t.kind=1 by rw [hk];decide),if_neg (show ¬t.kind=2 by rw [hk];decide),if_pos hk,if_neg (fun e=>h ⟨by simp [e.2.2],.inr e.1,.inr e.2.1,.inr (.inl rfl)⟩)]
  | 4,hk,_,_=>
    have hk:t.kind=4:=hk;rw [if_neg (show ¬t.kind=1 by rw [hk];decide),if_neg (show ¬t.kind=2 by rw [hk];decide),if_neg (show ¬t.kind=3 by rw [hk];decide),if_pos hk,if_neg (fun e=>h ⟨by simp [e.2.2.2],.inr e.1,.inr e.2.1,.inr (.inr e.2.2.1)⟩)]
theorem ndX_z (h:zOk k t):ndX n d b t=if k=1 then (if xK t.name=true then (if smF t.type=0 then 0 else 12) else 10) else if k=2 then (if t.index < 0∨(b:Int)≤t.index then 15 else 0) else if k=3 then (if smF t.type=0 then 0 else 12) else 0:=by
  unfold ndX ndC;rw [if_neg hb];unfold zOk argN at h;obtain⟨a1,a2,a3,a4⟩:=h
  match k,hk,h1,h4 with
  | 1,hk,_,_=>
    have hk:t.kind=1:=hk;have q1:=a3.resolve_left dE;have q2:t.args.length=0:=by simpa using a1
    rw [if_pos hk,if_pos ⟨q1,q2⟩];rfl
  | 2,hk,_,_=>
    have hk:t.kind=2:=hk;have q1:=a2.resolve_left dE;have q2:t.args.length=0:=by simpa using a1
    have q3:=(a4.resolve_left dE).resolve_left dE;rw [if_neg (show ¬t.kind=1 by rw [hk];decide),if_pos hk,if_pos ⟨q1,q3,q2⟩];rfl
  | 3,hk,_,_=>
    have hk:t.kind=3:=hk;have q1:=a2.resolve_left dE;have q0:=a3.resolve_left dE;have q2:t.args.length=1:=by simp at a1;omega
    rw [if_neg (show ¬t.kind=1 by rw [hk];decide),if_neg (show ¬t.kind=2 by rw [hk];decide),if_pos hk,if_pos ⟨q1,q0,q2⟩];rfl
  | 4,hk,_,_=>
    have hk:t.kind=4:=hk;have q1:=a2.resolve_left dE;have q0:=a3.resolve_left dE;have q2:t.args.length=2:=by simp at a1;omega
    have q3:=(a4.resolve_left dE).resolve_left dE;rw [if_neg (show ¬t.kind=1 by rw [hk];decide),if_neg (show ¬t.kind=2 by rw [hk];decide),if_neg (show ¬t.kind=3 by rw [hk];decide),if_pos hk,if_pos ⟨q1,q0,q3,q2⟩];rfl
end x
theorem name1_any (s:ByteArray) (w:World):Calls Tryz.prog 87 #[.string s] w fun e w'=>e= .returned (.bool (xK s))∧w=w':=by
 obtain⟨c0,e0⟩:=Ly s;have hN:=Lib.hid (My s c0 e0);refine enter Tryz.func87 Tryz.ntmps87 rfl (Nat.le_of_ble_eq_true rfl) (zn7 ?_);refine x6 (rg [] 6 8) 13 (.bool (decide (s.size < 1∨30 < s.size))) nu ?_ (fun gq=>?_)
 ·refine zn5 ?_;refine zx 9 rfl (fun g9=>?_) (fun g9=>?_)
  ·refine zn4 ?_;refine zw (e_R ⟨rfl,agA,?_⟩);exact clA
  refine zn7 ?_;refine zw (e_R ⟨rfl,agA,?_⟩);exact clA
 refine e_S ?_;refine zy rfl (fun c13=>?_) (fun c13=>?_)
 ·refine zn8 ?_;exact⟨yZ (by rw [hN.out];exact decide_eq_false (fun h=>by omega)),rfl⟩
 refine zn9 ?_;refine zK (rg [2,3,4,5] 14 48) (fun m g w'=>∃ k:Nat,k≤s.size∧m=s.size - k∧g 3= .int .i64 k∧w=w'∧(0 < k→97≤c0∧c0≤122)∧(∀ j (hj:j < s.size),j < k→gw (s[j]'hj)=true)) (s.size) ?_ (fun m g4 w1 hI=>?_)
 ·exact⟨0,Nat.zero_le _,rfl,rfl,rfl,fun h=>by omega,fun j hj h=>by omega⟩
 obtain⟨k,hk,hm,h3,rfl,hz,hall⟩:=hI;refine zQ 3 _ h3 nu (zn9 ?_);refine zy rfl (fun c17=>?_) (fun c17=>?_)
 ·refine zn5 ?_;refine x6 (rg [4] 20 10) 4 (.bool (decide (97≤(s[k]'om).toNat∧(s[k]'om).toNat≤122))) nu ?_ (fun gq=>?_)
  ·refine zn3 ?_;refine wl (Y9 (i:=k) U9 rfl rfl om) (zn2 ?_);refine zx 24 rfl (fun g24=>?_) (fun g24=>?_)
   ·refine zn5 ?_;refine wl (Y9 (i:=k) U9 rfl rfl om) (zn4 ?_);refine zw (e_R ⟨rfl,agA,?_⟩);exact clA
   refine zn6 ?_;refine zw (e_R ⟨rfl,agA,?_⟩);exact clA
  refine e_S (xv ?_);refine x6 (rg [5] 30 22) 5 (.bool (decide ((48≤(s[k]'om).toNat∧(s[k]'om).toNat≤57)∨(s[k]'om).toNat=95∨(s[k]'om).toNat=45))) nu ?_ (fun gq=>?_)
  ·refine zn3 ?_;refine wl (Y9 (i:=k) U9 rfl rfl om) (zn2 ?_);refine zx 34 rfl (fun g34=>?_) (fun g34=>?_)
   ·refine zn5 ?_;refine wl (Y9 (i:=k) U9 rfl rfl om) (zn4 ?_);refine zx 40 rfl (fun g40=>?_) (fun g40=>?_)
    ·refine y8 ?_;refine zw (e_R ⟨rfl,agA,?_⟩);exact clA
    refine zn5 ?_;refine wl (Y9 (i:=k) U9 rfl rfl om) (zn4 ?_);refine zx 46 rfl (fun g46=>?_) (fun g46=>?_)
    ·refine zn6 ?_;refine zw (e_R ⟨rfl,agA,?_⟩);exact clA
    refine zn5 ?_;refine wl (Y9 (i:=k) U9 rfl rfl om) (zn4 ?_);refine zw (e_R ⟨rfl,agA,?_⟩);exact clA
   refine yx ?_;refine wl (Y9 (i:=k) U9 rfl rfl om) (zn4 ?_);refine zx 46 rfl (fun g46=>?_) (fun g46=>?_)
   ·refine zn6 ?_;refine zw (e_R ⟨rfl,agA,?_⟩);exact clA
   refine zn5 ?_;refine wl (Y9 (i:=k) U9 rfl rfl om) (zn4 ?_);refine zw (e_R ⟨rfl,agA,?_⟩);exact clA
  refine e_S (xv ?_);refine x6 (rg [] 52 10) 61 (.bool (decide (¬(97≤(s[k]'om).toNat∧(s[k]'om).toNat≤122)∧(¬((48≤(s[k]'om).toNat∧(s[k]'om).toNat≤57)∨(s[k]'om).toNat=95∨(s[k]'om).toNat=45)∨k=0)))) nu ?_ (fun gq=>?_)
  ·refine zn4 ?_;refine zx 54 rfl (fun g54=>?_) (fun g54=>?_)
   ·refine zn6 ?_;refine zx 57 rfl (fun g57=>?_) (fun g57=>?_)
    ·refine zn5 ?_;refine zw (e_R ⟨rfl,agA,?_⟩);exact clA
    refine zn7 ?_;refine zw (e_R ⟨rfl,agA,?_⟩);exact clA
   refine zn7 ?_;refine zw (e_R ⟨rfl,agA,?_⟩);exact clA
  refine e_S ?_;refine zy rfl (fun c61=>?_) (fun c61=>?_)
  ·have hno:¬((97≤c0∧c0≤122)∧∀ j (hj:j < s.size),gw (s[j]'hj)=true):=fun h=>by
     have h1:=(gY _).1 (h.2 k om);have h2:k=0:=by omega
     subst h2;have:=e0 om;omega
   refine y8 ?_;exact⟨yZ (by rw [hN.out];exact decide_eq_false (fun h=>hno h.2)),rfl⟩
  have hz':97≤c0∧c0≤122:=by
    by_cases e:k=0
    · subst e;have:=e0 om;omega
    · exact hz om
  have hall':∀ j (hj:j < s.size),j < k + 1→gw (s[j]'hj)=true:=fun j hj h=>by
    by_cases e:j=k
    · subst e;exact(gY _).2 om
    · exact hall j hj om
  refine zn8 ?_;refine qV (s.size - (k + 1)) om agA ?_;exact⟨k + 1,by omega,rfl,rfl,rfl,fun _=>hz',fun j hj h=>hall' j hj h⟩
 refine y8 ?_;exact⟨yZ (by rw [hN.out];exact decide_eq_true ⟨by omega,hz om,fun j hj=>hall j hj om⟩),rfl⟩
end Go.Proofs.YtbcpgfnfiekbiaaGreatDoor
