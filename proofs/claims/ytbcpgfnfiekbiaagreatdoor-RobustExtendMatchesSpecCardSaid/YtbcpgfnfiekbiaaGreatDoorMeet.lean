/- What these functions of the program compute, at every world: glosswright/hierarchy.Types. What these functions of the program compute, at every world: glosswright/glosswrightref3.Name, glosswright/glosswrightref3.TypesFault. What these functions of the program compute, at every world: glosswright/glosswrightref3.Sub. Sets of small numbers as bits. What these functions of the program compute, at every world: math/bits.TrailingZeros64, (glosswright/hierarchy.Table).Meet, (glosswright/hierarchy.Table).Sub. -/
import Derived.Test.YtbcpgfnfiekbiaaGreatDoorU
import Derived.Test.YtbcpgfnfiekbiaaGreatDoorTrm
import Derived.Lib.TrailingZeros
namespace Go.Proofs.YtbcpgfnfiekbiaaGreatDoor
open Go.RowKit
def yQ (l:List Ty) (i:Nat):Int:=match l[i]? with
  | none=>0
  | some t=>if xK t.name=false then 10 else if jj ((l.take i).map (·.name)) t.name=true then 7 else if (decide (i=0) == t.par.isEmpty)=false then 5 else vx i (-1) t.par
def qY (l:List Ty):Fl:=if l.length=0∨60 < l.length then (2,-1) else zW (yQ l) 0 l.length
theorem Iz (xs:List Int):decide ((xs.length:Int)=0)=xs.isEmpty:=by cases xs <;> simp;omega
theorem mal_yes {k:Nat} {xs:List Int} (h:(!(decide ((k:Int)=0) == decide ((xs.length:Int)=0)))=true):(decide (k=0) == xs.isEmpty)=false:=by
  rw [Iz] at h
  simpa using h
theorem mal_no {k:Nat} {xs:List Int} (h:(!(decide ((k:Int)=0) == decide ((xs.length:Int)=0)))=false):(decide (k=0) == xs.isEmpty)=true:=by
  rw [Iz] at h
  simpa using h
theorem ty10 (l:List Ty) (k:Nat) (hlt:k < l.length) (h1:xK l[k].name=false):yQ l k=10:=by
  simp only [yQ,List.getElem?_eq_getElem hlt,h1,if_true]
theorem ty7 (l:List Ty) (k:Nat) (hlt:k < l.length) (h1:xK l[k].name=true) (h2:jj ((l.take k).map (·.name)) l[k].name=true):yQ l k=7:=by
  simp only [yQ,List.getElem?_eq_getElem hlt,h1,h2,if_true];rfl
theorem ty5 (l:List Ty) (k:Nat) (hlt:k < l.length) (h1:xK l[k].name=true) (h2:jj ((l.take k).map (·.name)) l[k].name=false) (h3:(decide (k=0) == l[k].par.isEmpty)=false):yQ l k=5:=by
  simp only [yQ,List.getElem?_eq_getElem hlt,h1,h2,h3,if_true];rfl
theorem Cj (l:List Ty) (k:Nat) (hlt:k < l.length) (h1:xK l[k].name=true) (h2:jj ((l.take k).map (·.name)) l[k].name=false) (h3:(decide (k=0) == l[k].par.isEmpty)=true):yQ l k=vx k (-1) (l[k].par.drop 0):=by
  simp only [yQ,List.getElem?_eq_getElem hlt,h1,h2,h3,List.drop_zero];rfl
theorem C0:zZ Tryz.prog 104=true:=by kernel_rfl
theorem fn44:zZ Tryz.prog 44=true:=by kernel_rfl
theorem EY:(Tryz.prog.info? 110).map (·.size)=some 2:=by kernel_rfl
theorem sz3:(Tryz.prog.info? 3).map (·.size)=some 1:=by kernel_rfl
theorem ze110:(Tryz.prog.info? 110).map (·.zero)=some (some (.agg #[.string ⟨#[]⟩,.slice none 0 0])):=by kernel_rfl
theorem ze3:(Tryz.prog.info? 3).map (·.zero)=some (some (.int .i64 0)):=by kernel_rfl
theorem types_any (A:Option Addr) (c:Nat) (l:List Ty) (w:World) (hT:TypesIn w A l):Calls Tryz.prog 105 #[.slice A l.length c] w fun e w'=>e= .returned (flV (qY l))∧Bel w w':=by
 refine enT Tryz.func105 Tryz.ntmps105 rfl rfl fun hB=>?_;refine zn2 ?_;refine zY (cs:=#[.int .i64 0,.int .i64 0]) ze36 rfl (fun b2 w1 hb2 s1 hr=>?_);have lo2:=nLT (Bel.size hB) hr;refine zn4 ?_;replace hB:=hB.tr0 s1;refine x6 (rg [] 11 8) 18 (.bool (decide (l.length=0∨60 < l.length))) nu ?_ (fun gq=>?_)
 ·refine zn5 ?_;refine zx 14 rfl (fun g14=>?_) (fun g14=>?_)
  ·refine zn4 ?_;refine zw (e_R ⟨rfl,agA,?_⟩);exact clA
  refine zn7 ?_;refine zw (e_R ⟨rfl,agA,?_⟩);exact clA
 refine e_S ?_;refine zy rfl (fun c18=>?_) (fun c18=>?_)
 ·refine zn2 ?_;refine zJ C0 (kv _ _ _) rfl (fun e' w2 hr=>?_);obtain⟨rfl,s2⟩:=hr;replace s2:=sB s2;refine⟨_,rfl,?_⟩;refine zj hb2.u rfl rfl oJ rfl zX (fun w3 hq s3=>?_);replace hb2:=hq;refine zn4 ?_;refine x8 (.inl rfl) rfl (zk U36 rfl rfl hb2.range0 oJ) ?_;replace hB:=(hB.tr0 s2).tr1 s3 lo2;exact⟨qQ (by simp only [qY,if_pos c18]),hB⟩
 have hR:=Lib.hid (show qY l=zW (yQ l) 0 (l.length - 0) by simp only [qY,if_neg c18,Nat.sub_zero]);refine zn4 ?_;refine wl_mm (fun b20 w4 hb20 s4 hr=>?_);have:=nLL hb2.lt hr;have lo20:=nLT (Bel.size hB) hr;refine wl (Zw (v:= .map _) rfl) (yx ?_);refine zK [4,5,6,7,8,10,23,24,25,26,27,28,29,30,31,32,33,34,35,36,37,38,39,40,41,42,43,44,45,46,47,48,49,50,51,52,53,54,55,56,57,58,59,60,61,62,63,64,65,66,67,68,69,70,71,72,73,74,75,76,77,78,79,80] (fun m g w'=>∃ (k:Nat) (mp:List (ByteArray×Value)),k≤l.length∧m=l.length - k∧g 23= .int .i64 k∧Bel w w'∧Blk w' b2 36 #[.int .i64 0,.int .i64 0]∧MapS w' b20 mp∧(∀ s,lkB mp s=jj ((l.take k).map (·.name)) s)∧qY l=zW (yQ l) k (l.length - k)) (l.length) ?_ (fun m g5 w5 hI=>?_)
 ·exact⟨0,[],Nat.zero_le _,rfl,rfl,hB.u,hb2.u,hb20,fun s=>rfl,hR.out⟩
 obtain⟨k,mp,hk,hm,h23,hB,hb2,hb20,hmp,hR'⟩:=hI;refine zQ 23 _ h23 nu (zn6 ?_);refine zy rfl (fun c24=>?_) (fun c24=>?_)
 ·have hlt:k < l.length:=by omega
  obtain⟨tb,to,A',cp,rfl,htb,htr,hpar⟩:=hT.at_ hB hlt;refine zn8 ?_;refine wl (zV Nk rfl rfl htr EY) ?_;refine zY (cs:=#[.string ⟨#[]⟩,.slice none 0 0]) ze110 rfl (fun b5 w6 hb5 s5 hr=>?_);have:=nLL hb2.lt hr;have:=nLL hb20.lt hr;have lo5:=nLT (Bel.size hB) hr;refine waI rfl ?_;refine zj hb5 rfl rfl EY rfl zX (fun w7 hq s6=>?_);replace hb5:=hq;refine zn7 ?_;refine zJ fn44 (I9 _ _) rfl (fun e' w8 hr=>?_);obtain⟨rfl,rfl⟩:=hr;refine⟨_,rfl,?_⟩;refine zn3 ?_;refine vw rfl (fun c31=>?_) (fun c31=>?_)
  ·have hty:=ty10 l k hlt (by simpa using c31);refine zn3 ?_;refine zJ C0 (kv _ _ _) rfl (fun e' w9 hr=>?_);obtain⟨rfl,s7⟩:=hr;replace s7:=sB s7;refine⟨_,rfl,?_⟩;refine zj hb2.u rfl rfl oJ rfl zX (fun w10 hq s8=>?_);replace hb2:=hq;refine zn9 ?_;refine x8 (.inl rfl) rfl (zk U36 rfl rfl hb2.range0 oJ) ?_;exact⟨qQ (hR'.trans (qw (c:=10) om hty dE)),hB.u⟩
  have hnm:xK (l[k]'hlt).name=true:=by simpa using c31
  refine zn5 ?_;refine wl (xZ (v:= .map _) rfl) (zn2 ?_);replace hb20:=(hb20.tr0 s5).tr1 s6 om;refine wl (r_lkS hb20 U94 U9 ze3 rfl rfl) (wmT rfl (wl (jw (v:=_) rfl rfl) (wl (jw (v:= .bool _) rfl rfl) (wl (Zw (v:=_) rfl) (zn8 ?_)))));refine vw rfl (fun c41=>?_) (fun c41=>?_)
  ·have hty:=ty7 l k hlt hnm ((hmp _).symm.trans c41);refine zn3 ?_;refine zJ C0 (kv _ _ _) rfl (fun e' w11 hr=>?_);obtain⟨rfl,s9⟩:=hr;replace s9:=sB s9;refine⟨_,rfl,?_⟩;refine zj hb2.u rfl rfl oJ rfl zX (fun w12 hq s10=>?_);replace hb2:=hq;refine zn9 ?_;refine x8 (.inl rfl) rfl (zk U36 rfl rfl hb2.range0 oJ) ?_;exact⟨qQ (hR'.trans (qw (c:=7) om hty dE)),hB.u⟩
  have hsn:jj ((l.take k).map (·.name)) (l[k]'hlt).name=false:=by rw [← hmp];exact c41
  have hmp':∀ s,lkB (M4 mp (l[k]'hlt).name (.int .i64 k)) s=jj ((l.take (k + 1)).map (·.name)) s:=fun s=>by
    rw [o5 _ _ _ c41,ux l hlt,List.map_append,List.map_cons,List.map_nil,ZQ,← hmp];simp [lkB]
  refine zn4 ?_;refine wl (xZ (v:= .map _) rfl) (zn3 ?_);refine Wj (v:= .int _ _) hb20 U94 U9 rfl rfl rfl (fun w13 hq s11=>?_);replace hb20:=hq;refine yx ?_;refine wl (Bq U4 rfl rfl) (zw (e_S ?_));refine vw rfl (fun c54=>?_) (fun c54=>?_)
  ·have hty:=ty5 l k hlt hnm hsn (mal_yes c54);refine zn3 ?_;refine zJ C0 (kv _ _ _) rfl (fun e' w14 hr=>?_);obtain⟨rfl,s12⟩:=hr;replace s12:=sB s12;refine⟨_,rfl,?_⟩;refine zj hb2.u rfl rfl oJ rfl zX (fun w15 hq s13=>?_);replace hb2:=hq;refine zn9 ?_;refine x8 (.inl rfl) rfl (zk U36 rfl rfl hb2.range0 oJ) ?_;exact⟨qQ (hR'.trans (qw (c:=5) om hty dE)),hB.u⟩
  have hmal:=mal_no c54;refine IK ?_;refine zK (rg [8,10] 60 20) (fun m g w'=>∃ (j:Nat) (last:Int),j≤(l[k]'hlt).par.length∧m=(l[k]'hlt).par.length - j∧g 60= .int .i64 j∧g 8= .int .i64 last∧w13=w'∧yQ l k=vx k last ((l[k]'hlt).par.drop j)) ((l[k]'hlt).par.length) ?_ (fun m g17 w16 hI=>?_)
  ·exact⟨0,-1,Nat.zero_le _,rfl,rfl,rfl,rfl,Cj l k hlt hnm hsn hmal⟩
  obtain⟨j,last,hj,hmj,h60,h8,rfl,hP⟩:=hI;refine zQ 60 _ h60 nu (zQ 8 _ h8 nu (zn6 ?_));refine zy rfl (fun c61=>?_) (fun c61=>?_)
  ·have hlj:j < (l[k]'hlt).par.length:=by omega
   have hmx:=hpar.1;unfold vQ at hmx;obtain⟨pb,po,rfl,hpb,hpc⟩:=hpar.at_ hlj;replace hB:=((hB.tr0 s5).tr1 s6 lo5).tr1 s11 lo20;replace hpc:=hB.cell hpb hpc;refine zn7 ?_;refine wl (qZ (v:= .int _ _) U3 rfl rfl hpc) (zn5 ?_);replace hb2:=((hb2.tr0 s5).tr1 s6 om).tr1 s11 om;refine x6 [64,65,66,67,68,69,70] 70 (.bool (decide ((l[k]'hlt).par[j] < 0∨(k:Int)≤(l[k]'hlt).par[j]))) nu ?_ (fun gq=>?_)
   ·refine zn4 ?_;refine zx 66 rfl (fun g66=>?_) (fun g66=>?_)
    ·refine zn4 ?_;refine zw (e_R ⟨rfl,agA,?_⟩);exact clA
    refine zn7 ?_;refine zw (e_R ⟨rfl,agA,?_⟩);exact clA
   refine e_S ?_;refine zy rfl (fun c70=>?_) (fun c70=>?_)
   ·have hty:yQ l k=3:=by rw [hP,List.drop_eq_getElem_cons hlj];simp only [vx,if_pos c70]
    refine zn3 ?_;refine zJ C0 (kv _ _ _) rfl (fun e' w17 hr=>?_);obtain⟨rfl,s14⟩:=hr;replace s14:=sB s14;refine⟨_,rfl,?_⟩;refine zj hb2.u rfl rfl oJ rfl zX (fun w18 hq s15=>?_);replace hb2:=hq;refine kJ ?_;refine x8 (.inl rfl) rfl (zk U36 rfl rfl hb2.range0 oJ) ?_;exact⟨qQ (hR'.trans (qw (c:=3) om hty dE)),hB.u⟩
   refine yw ?_;refine zy rfl (fun c75=>?_) (fun c75=>?_)
   ·have hty:yQ l k=13:=by rw [hP,List.drop_eq_getElem_cons hlj];simp only [vx,if_neg c70,if_pos c75]
    refine zn3 ?_;refine zJ C0 (kv _ _ _) rfl (fun e' w19 hr=>?_);obtain⟨rfl,s16⟩:=hr;replace s16:=sB s16;refine⟨_,rfl,?_⟩;refine zj hb2.u rfl rfl oJ rfl zX (fun w20 hq s17=>?_);replace hb2:=hq;refine kJ ?_;refine x8 (.inl rfl) rfl (zk U36 rfl rfl hb2.range0 oJ) ?_;exact⟨qQ (hR'.trans (qw (c:=13) om hty dE)),hB.u⟩
   have hP':yQ l k=vx k (l[k]'hlt).par[j] ((l[k]'hlt).par.drop (j + 1)):=by rw [hP,List.drop_eq_getElem_cons hlj];simp only [vx,if_neg c70,if_neg c75]
   refine y8 ?_;refine qV ((l[k]'hlt).par.length - (j + 1)) om agA ?_;exact⟨j + 1,(l[k]'hlt).par[j],by omega,rfl,rfl,rfl,rfl,hP'⟩
  have hty:=Lib.hid (show yQ l k=0 by rw [hP,List.drop_eq_nil_of_le om];rfl);refine yw ?_;refine qV (l.length - (k + 1)) om agA ?_;exact⟨k + 1,M4 mp (l[k]'hlt).name (.int .i64 k),by omega,rfl,rfl,hB.u,hb2.u,hb20,hmp',hR'.trans (xV hlt hty.out)⟩
 refine zn7 ?_;refine wl (uv (vs:=#[]) (cs:=#[.int .i64 0,.int .i64 0]) (by simp) kR) ?_;refine zj hb2 rfl rfl oJ rfl zX (fun w21 hq s18=>?_);replace hb2:=hq;refine zn3 ?_;refine x8 (.inl rfl) rfl (zk U36 rfl rfl hb2.range0 oJ) ?_;exact⟨qQ (hR'.trans (yq om)),hB.u⟩
end Go.Proofs.YtbcpgfnfiekbiaaGreatDoor
namespace Go.Proofs.YtbcpgfnfiekbiaaGreatDoor
open Go.RowKit
theorem seen_yes {l:List Ty} {j k:Nat} {s:ByteArray} (hk:k < l.length) (hj:j < k) (h:(l[j]'om).name=s):jj ((l.take k).map (·.name)) s=true:=by
  simp only [jj,List.any_eq_true,decide_eq_true_eq,List.mem_map];refine⟨_,⟨l[j]'om,?_,rfl⟩,h⟩;rw [List.mem_take_iff_getElem];exact⟨j,by omega,rfl⟩
theorem fn30:zZ Tryz.prog 30=true:=by kernel_rfl
theorem M9 (s:ByteArray) (w:World):Calls Tryz.prog 30 #[.string s] w fun e w'=>e= .returned (.bool (xK s))∧Bel w w':=by
 obtain⟨c0,e0⟩:=Ly s;have hN:=Lib.hid (My s c0 e0);refine enT Tryz.func30 Tryz.ntmps30 rfl rfl fun hB=>?_;refine zn7 ?_;refine x6 (rg [] 7 8) 14 (.bool (decide (s.size < 1∨30 < s.size))) nu ?_ (fun gq=>?_)
 ·refine zn5 ?_;refine zx 10 rfl (fun g10=>?_) (fun g10=>?_)
  ·refine zn4 ?_;refine zw (e_R ⟨rfl,agA,?_⟩);exact clA
  refine zn7 ?_;refine zw (e_R ⟨rfl,agA,?_⟩);exact clA
 refine e_S ?_;refine zy rfl (fun c14=>?_) (fun c14=>?_)
 ·refine zn8 ?_;exact⟨yZ (by rw [hN.out];exact decide_eq_false (fun h=>by omega)),hB⟩
 refine zn6 ?_;refine wl_cvB U9 Tryz.underlying123 U5 rfl (fun b16 c16 w1 hc16 s1 hr=>?_);refine zn5 ?_;refine zK (rg (rg [] 2 5) 18 36) (fun m g w'=>∃ k:Nat,k≤s.size∧m=s.size - k∧g 18= .int .i64 k∧w1=w'∧(0 < k→97≤c0∧c0≤122)∧(∀ j (hj:j < s.size),j < k→gw (s[j]'hj)=true)) (s.size) ?_ (fun m g4 w2 hI=>?_)
 ·exact⟨0,Nat.zero_le _,rfl,rfl,rfl,fun h=>by omega,fun j hj h=>by omega⟩
 obtain⟨k,hk,hm,h18,rfl,hz,hall⟩:=hI;refine zQ 18 _ h18 nu (zn6 ?_);refine zy rfl (fun c19=>?_) (fun c19=>?_)
 ·refine zn8 ?_;refine wl (qZ (v:= .int _ _) U5 rfl rfl (hc16 k om)) (zn5 ?_);refine x6 [5,23,24,25,26,27,28] 5 (.bool (decide (97≤(s[k]'om).toNat∧(s[k]'om).toNat≤122))) nu ?_ (fun gq=>?_)
  ·refine zn4 ?_;refine zx 25 rfl (fun g25=>?_) (fun g25=>?_)
   ·refine zn6 ?_;refine zw (e_R ⟨rfl,agA,?_⟩);exact clA
   refine zn4 ?_;refine zw (e_R ⟨rfl,agA,?_⟩);exact clA
  refine e_S (xv ?_);refine x6 (rg [6] 29 14) 6 (.bool (decide ((48≤(s[k]'om).toNat∧(s[k]'om).toNat≤57)∨(s[k]'om).toNat=95∨(s[k]'om).toNat=45))) nu ?_ (fun gq=>?_)
  ·refine zn4 ?_;refine zx 31 rfl (fun g31=>?_) (fun g31=>?_)
   ·refine zn6 ?_;refine zx 35 rfl (fun g35=>?_) (fun g35=>?_)
    ·refine zn8 ?_;refine zw (e_R ⟨rfl,agA,?_⟩);exact clA
    refine zn6 ?_;refine zx 39 rfl (fun g39=>?_) (fun g39=>?_)
    ·refine zn4 ?_;refine zw (e_R ⟨rfl,agA,?_⟩);exact clA
    refine zn6 ?_;refine zw (e_R ⟨rfl,agA,?_⟩);exact clA
   refine yw ?_;refine zx 39 rfl (fun g39=>?_) (fun g39=>?_)
   ·refine zn4 ?_;refine zw (e_R ⟨rfl,agA,?_⟩);exact clA
   refine zn6 ?_;refine zw (e_R ⟨rfl,agA,?_⟩);exact clA
  refine e_S (xv ?_);refine x6 (rg [] 43 10) 52 (.bool (decide (¬(97≤(s[k]'om).toNat∧(s[k]'om).toNat≤122)∧(¬((48≤(s[k]'om).toNat∧(s[k]'om).toNat≤57)∨(s[k]'om).toNat=95∨(s[k]'om).toNat=45)∨k=0)))) nu ?_ (fun gq=>?_)
  ·refine zn4 ?_;refine zx 45 rfl (fun g45=>?_) (fun g45=>?_)
   ·refine zn6 ?_;refine zx 48 rfl (fun g48=>?_) (fun g48=>?_)
    ·refine zn5 ?_;refine zw (e_R ⟨rfl,agA,?_⟩);exact clA
    refine zn7 ?_;refine zw (e_R ⟨rfl,agA,?_⟩);exact clA
   refine zn7 ?_;refine zw (e_R ⟨rfl,agA,?_⟩);exact clA
  refine e_S ?_;refine zy rfl (fun c52=>?_) (fun c52=>?_)
  ·have hno:¬((97≤c0∧c0≤122)∧∀ j (hj:j < s.size),gw (s[j]'hj)=true):=fun h=>by
     have h1:=(gY _).1 (h.2 k om);have h2:k=0:=by omega
     subst h2;have:=e0 om;omega
   refine y8 ?_;replace hB:=hB.tr0 s1;exact⟨yZ (by rw [hN.out];exact decide_eq_false (fun h=>hno h.2)),hB⟩
  have hz':97≤c0∧c0≤122:=by
    by_cases e:k=0
    · subst e;have:=e0 om;omega
    · exact hz om
  have hall':∀ j (hj:j < s.size),j < k + 1→gw (s[j]'hj)=true:=fun j hj h=>by
    by_cases e:j=k
    · subst e;exact(gY _).2 om
    · exact hall j hj om
  refine zn7 ?_;refine qV (s.size - (k + 1)) om agA ?_;exact⟨k + 1,by omega,rfl,rfl,rfl,fun _=>hz',fun j hj h=>hall' j hj h⟩
 refine y8 ?_;replace hB:=hB.tr0 s1;exact⟨yZ (by rw [hN.out];exact decide_eq_true ⟨by omega,hz om,fun j hj=>hall j hj om⟩),hB⟩
theorem Ek (A:Option Addr) (c:Nat) (l:List Ty) (w:World) (hc:l.length≤c) (hT:TypesIn w A l):Calls Tryz.prog 61 #[.slice A l.length c] w fun e w'=>e= .returned (flV (qY l))∧Bel w w':=by
 refine enT Tryz.func61 Tryz.ntmps61 rfl rfl fun hB=>?_;refine zn2 ?_;refine zY (cs:=#[.int .i64 0,.int .i64 0]) ze36 rfl (fun b2 w1 hb2 s1 hr=>?_);have lo2:=nLT (Bel.size hB) hr;refine zn4 ?_;replace hB:=hB.tr0 s1;refine x6 (rg [] 9 8) 16 (.bool (decide (l.length=0∨60 < l.length))) nu ?_ (fun gq=>?_)
 ·refine zn5 ?_;refine zx 12 rfl (fun g12=>?_) (fun g12=>?_)
  ·refine zn4 ?_;refine zw (e_R ⟨rfl,agA,?_⟩);exact clA
  refine zn7 ?_;refine zw (e_R ⟨rfl,agA,?_⟩);exact clA
 refine e_S ?_;refine zy rfl (fun c16=>?_) (fun c16=>?_)
 ·refine zn2 ?_;refine wl (yv (v0:= .int _ _) (v1:= .int _ _) (fun v0 v1=>#[v0,v1]) rfl rfl kR) ?_;refine zj hb2 rfl rfl oJ rfl zX (fun w2 hq s2=>?_);replace hb2:=hq;refine zn4 ?_;refine x8 (.inl rfl) rfl (zk U36 rfl rfl hb2.range0 oJ) ?_;replace hB:=hB.tr1 s2 lo2;exact⟨qQ (by simp only [qY,if_pos c16]),hB⟩
 have hR:=Lib.hid (show qY l=zW (yQ l) 0 (l.length - 0) by simp only [qY,if_neg c16,Nat.sub_zero]);refine yx ?_;refine zK (rg [3,4,6,7,8] 20 69) (fun m g w'=>∃ (k:Nat),k≤l.length∧m=l.length - k∧g 20= .int .i64 k∧Bel w w'∧Blk w' b2 36 #[.int .i64 0,.int .i64 0]∧qY l=zW (yQ l) k (l.length - k)) (l.length) ?_ (fun m g4 w3 hI=>?_)
 ·exact⟨0,Nat.zero_le _,rfl,rfl,hB,hb2,hR.out⟩
 obtain⟨k,hk,hm,h20,hB,hb2,hR'⟩:=hI;refine zQ 20 _ h20 nu (zn6 ?_);refine zy rfl (fun c21=>?_) (fun c21=>?_)
 ·have hlt:k < l.length:=by omega
  obtain⟨tb,to,A',cp,rfl,htb,htr,hpar⟩:=hT.at_ hB hlt;refine zn8 ?_;refine wl (zV Nk rfl rfl htr EY) ?_;refine zY (cs:=#[.string ⟨#[]⟩,.slice none 0 0]) ze110 rfl (fun b4 w4 hb4 s3 hr=>?_);have:=nLL hb2.lt hr;have lo4:=nLT (Bel.size hB) hr;refine waI rfl ?_;refine zj hb4 rfl rfl EY rfl zX (fun w5 hq s4=>?_);replace hb4:=hq;refine zn7 ?_;refine zJ fn30 (M9 _ _) rfl (fun e' w6 hr=>?_);obtain⟨rfl,s5⟩:=hr;replace s5:=sB s5;refine⟨_,rfl,?_⟩;refine zn3 ?_;refine vw rfl (fun c28=>?_) (fun c28=>?_)
  ·have hty:=ty10 l k hlt (by simpa using c28);refine zn3 ?_;refine wl (yv (v0:= .int _ _) (v1:= .int _ _) (fun v0 v1=>#[v0,v1]) rfl rfl kR) ?_;refine zj hb2.u rfl rfl oJ rfl zX (fun w7 hq s6=>?_);replace hb2:=hq;refine zn9 ?_;refine x8 (.inl rfl) rfl (zk U36 rfl rfl hb2.range0 oJ) ?_;exact⟨qQ (hR'.trans (qw (c:=10) om hty dE)),hB.u⟩
  have hnm:xK (l[k]'hlt).name=true:=by simpa using c28
  refine zn7 ?_;refine wl (Dj (h:=k) U22 EY rfl rfl om) (zn5 ?_);refine zK (rg [6] 35 12) (fun m g w'=>∃ (j:Nat),j≤k∧m=k - j∧g 35= .int .i64 j∧Bel w w'∧Blk w' b2 36 #[.int .i64 0,.int .i64 0]∧Blk w' b4 110 #[.string (l[k]'hlt).name,.slice A' (l[k]'hlt).par.length cp]∧jj ((l.take j).map (·.name)) (l[k]'hlt).name=false) (k) ?_ (fun m g9 w8 hI=>?_)
  ·exact⟨0,Nat.zero_le _,rfl,rfl,hB.u,hb2.u,hb4.u,rfl⟩
  obtain⟨j,hj,hmj,h35,hB,hb2,hb4,hse⟩:=hI;refine zQ 35 _ h35 nu (zn6 ?_);refine zy rfl (fun c36=>?_) (fun c36=>?_)
  ·have hjt:j < l.length:=by omega
   obtain⟨ub,uo,B',cq,he,hub,hur,_⟩:=hT.at_ hB hjt;cases he;refine zn7 ?_;refine wl (zV Nk rfl rfl hur EY) ?_;refine xW (cs:=#[.string ⟨#[]⟩,.slice none 0 0]) ze110 rfl (fun _=>rfl) (fun _=>rfl) EY rfl zX (fun b6 w10 hb6 s7 hr=>?_);refine yx ?_;refine zy rfl (fun c43=>?_) (fun c43=>?_)
   ·have hty:=ty7 l k hlt hnm (seen_yes hlt om c43);refine zn3 ?_;refine wl (yv (v0:= .int _ _) (v1:= .int _ _) (fun v0 v1=>#[v0,v1]) rfl rfl kR) ?_;refine zj hb2.u rfl rfl oJ rfl zX (fun w11 hq s8=>?_);replace hb2:=hq;refine kJ ?_;refine x8 (.inl rfl) rfl (zk U36 rfl rfl hb2.range0 oJ) ?_;exact⟨qQ (hR'.trans (qw (c:=7) om hty dE)),hB.u⟩
   have hse':jj ((l.take (j + 1)).map (·.name)) (l[k]'hlt).name=false:=by rw [ux l hjt,List.map_append,List.map_cons,List.map_nil,ZQ,hse];simp [c43]
   refine zn7 ?_;refine qV (k - (j + 1)) om agA ?_;exact⟨j + 1,by omega,rfl,rfl,hB.u,hb2.u,hb4.u,hse'⟩
  have hsn:jj ((l.take k).map (·.name)) (l[k]'hlt).name=false:=by
    have e:k=j:=by omega
    subst e;exact hse
  refine gV ?_;refine wl (Bq U4 rfl rfl) (zw (e_S ?_));refine vw rfl (fun c53=>?_) (fun c53=>?_)
  ·have hty:=ty5 l k hlt hnm hsn (mal_yes c53);refine zn3 ?_;refine wl (yv (v0:= .int _ _) (v1:= .int _ _) (fun v0 v1=>#[v0,v1]) rfl rfl kR) ?_;refine zj hb2 rfl rfl oJ rfl zX (fun w12 hq s9=>?_);replace hb2:=hq;refine zn9 ?_;refine x8 (.inl rfl) rfl (zk U36 rfl rfl hb2.range0 oJ) ?_;exact⟨qQ (hR'.trans (qw (c:=5) om hty dE)),hB.u⟩
  have hmal:=mal_no c53;refine yx ?_;refine zK (rg [7,8] 59 29) (fun m g w'=>∃ (j:Nat) (last:Int),j≤(l[k]'hlt).par.length∧m=(l[k]'hlt).par.length - j∧g 59= .int .i64 j∧w8=w'∧(j=0→last= -1)∧(∀ h:0 < j∧j - 1 < (l[k]'hlt).par.length,last=((l[k]'hlt).par[j - 1]'h.2))∧yQ l k=vx k last ((l[k]'hlt).par.drop j)) ((l[k]'hlt).par.length) ?_ (fun m g17 w13 hI=>?_)
  ·exact⟨0,-1,Nat.zero_le _,rfl,rfl,rfl,fun _=>rfl,fun h=>by omega,Cj l k hlt hnm hsn hmal⟩
  obtain⟨j,last,hj,hmj,h59,rfl,hl0,hl1,hP⟩:=hI;refine zQ 59 _ h59 nu (zn6 ?_);refine zy rfl (fun c60=>?_) (fun c60=>?_)
  ·have hlj:j < (l[k]'hlt).par.length:=by omega
   have hmx:=hpar.1;unfold vQ at hmx;have hpar':=hpar;obtain⟨pb,po,rfl,hpb,hpc⟩:=hpar.at_ hlj;replace hpc:=hB.cell hpb hpc;have hpd:∀ h:j - 1 < (l[k]'hlt).par.length,w8.cell? ⟨pb,po + (j - 1) * 1,none⟩=some (.int .i64 ((l[k]'hlt).par[j - 1]'h)):=fun h=>by
     obtain⟨pb2,po2,he,hpb2,hpc2⟩:=hpar'.at_ h;cases he;exact hB.cell hpb2 hpc2
   refine zn8 ?_;refine wl (qZ (v:= .int _ _) U3 rfl rfl hpc) (zn6 ?_);refine x6 [64,65,66,67,68,69,70] 70 (.bool (decide ((l[k]'hlt).par[j] < 0∨(k:Int)≤(l[k]'hlt).par[j]))) nu ?_ (fun gq=>?_)
   ·refine zn4 ?_;refine zx 66 rfl (fun g66=>?_) (fun g66=>?_)
    ·refine zn4 ?_;refine zw (e_R ⟨rfl,agA,?_⟩);exact clA
    refine zn7 ?_;refine zw (e_R ⟨rfl,agA,?_⟩);exact clA
   refine e_S ?_;refine zy rfl (fun c70=>?_) (fun c70=>?_)
   ·have hty:yQ l k=3:=by rw [hP,List.drop_eq_getElem_cons hlj];simp only [vx,if_pos c70]
    refine zn3 ?_;refine wl (yv (v0:= .int _ _) (v1:= .int _ _) (fun v0 v1=>#[v0,v1]) rfl rfl kR) ?_;refine zj hb2 rfl rfl oJ rfl zX (fun w14 hq s10=>?_);replace hb2:=hq;refine kJ ?_;refine x8 (.inl rfl) rfl (zk U36 rfl rfl hb2.range0 oJ) ?_;exact⟨qQ (hR'.trans (qw (c:=3) om hty dE)),hB.u⟩
   refine zn3 ?_;refine x6 (rg [] 73 12) 84 (.bool (decide (0 < j∧(l[k]'hlt).par[j]≤((l[k]'hlt).par[j - 1]'om)))) nu ?_ (fun gq=>?_)
   ·refine zn4 ?_;refine zx 75 rfl (fun g75=>?_) (fun g75=>?_)
    ·refine zn9 ?_;refine wl (kW (c:=((j - 1:Nat):Int)) rfl rfl om om) (zn1 ?_);refine wl (xw (i:=j - 1) U66 sz3 rfl rfl om rfl) (zn1 ?_);refine wl (qZ (v:= .int _ _) U3 rfl rfl (hpd om)) (zn3 ?_);refine zw (e_R ⟨rfl,agA,?_⟩);exact clA
    refine zn9 ?_;refine zw (e_R ⟨rfl,agA,?_⟩);exact clA
   refine e_S ?_;refine zy rfl (fun c84=>?_) (fun c84=>?_)
   ·have hty:yQ l k=13:=by rw [hP,List.drop_eq_getElem_cons hlj,hl1 ⟨c84.1,by omega⟩];simp only [vx,if_neg c70,if_pos c84.2]
    refine zn3 ?_;refine wl (yv (v0:= .int _ _) (v1:= .int _ _) (fun v0 v1=>#[v0,v1]) rfl rfl kR) ?_;refine zj hb2 rfl rfl oJ rfl zX (fun w15 hq s11=>?_);replace hb2:=hq;refine y8 ?_;refine x8 (.inl rfl) rfl (zk U36 rfl rfl hb2.range0 oJ) ?_;exact⟨qQ (hR'.trans (qw (c:=13) om hty dE)),hB.u⟩
   have hP':yQ l k=vx k (l[k]'hlt).par[j] ((l[k]'hlt).par.drop (j + 1)):=by
     have hnl:¬(l[k]'hlt).par[j]≤last:=fun h=>by
       by_cases e:j=0
       · have:=hl0 e;omega
       · have:=hl1 ⟨by omega,by omega⟩;exact c84 ⟨by omega,by omega⟩
     rw [hP,List.drop_eq_getElem_cons hlj];simp only [vx,if_neg c70,if_neg hnl]
   refine zn7 ?_;refine qV ((l[k]'hlt).par.length - (j + 1)) om agA ?_;exact⟨j + 1,(l[k]'hlt).par[j],by omega,rfl,rfl,rfl,fun h=>by omega,fun h=>rfl,hP'⟩
  have hty:=Lib.hid (show yQ l k=0 by rw [hP,List.drop_eq_nil_of_le om];rfl);refine yw ?_;refine qV (l.length - (k + 1)) om agA ?_;exact⟨k + 1,by omega,rfl,rfl,hB,hb2,hR'.trans (xV hlt hty.out)⟩
 refine zn7 ?_;refine wl (uv (vs:=#[]) (cs:=#[.int .i64 0,.int .i64 0]) (by simp) kR) ?_;refine zj hb2 rfl rfl oJ rfl zX (fun w16 hq s12=>?_);replace hb2:=hq;refine zn3 ?_;refine x8 (.inl rfl) rfl (zk U36 rfl rfl hb2.range0 oJ) ?_;exact⟨qQ (hR'.trans (yq om)),hB.u⟩
end Go.Proofs.YtbcpgfnfiekbiaaGreatDoor
namespace Go.Proofs.YtbcpgfnfiekbiaaGreatDoor
open Go.RowKit
def Nq (l:List Ty) (i:Nat):List Nat:=match l[i]? with
  | none=>[]
  | some t=>t.par.map Int.toNat
def TY (l:List Ty):Nat→Nat→Nat→Bool
  | 0,a,b=>decide (a=b)
  | f + 1,a,b=>decide (a=b) || (Nq l a).any (fun p=>TY l f p b)
def sub (l:List Ty) (a b:Nat):Bool:=TY l a a b
def VT (l:List Ty):Prop:=∀ i (h:i < l.length),∀ p ∈ (l[i]).par,0≤p∧p < (i:Int)
theorem VT.par {l:List Ty} (h:VT l) {a p:Nat} (hp:p ∈ Nq l a):p < a:=by
  unfold Nq at hp;by_cases ha:a < l.length
  · rw [List.getElem?_eq_getElem ha] at hp
    simp only [List.mem_map] at hp;obtain⟨q,hq,rfl⟩:=hp;have:=h a ha q hq;omega
  · rw [List.getElem?_eq_none om] at hp;cases hp
theorem P4 {α:Type} {l:List α} {p q:α→Bool} (h:∀ x ∈ l,p x=q x):l.any p=l.any q:=by
  induction l with
  | nil=>rfl
  | cons a r ih=>
    simp only [List.any_cons];rw [h a (by simp),ih (fun x hx=>h x (by simp [hx]))]
theorem subF_fuel {l:List Ty} (hv:VT l) (b:Nat):∀ (n a:Nat),a≤n→∀ f,a≤f→TY l f a b=TY l a a b:=by
  intro n
  induction n with
  | zero=>
    intro a ha f hf;have:a=0:=by omega
    subst this;have hp:Nq l 0= []:=by
      cases h:Nq l 0 with
      | nil=>rfl
      | cons p r=>exact absurd (hv.par (a:=0) (p:=p) (by rw [h];simp)) om
    cases f <;> simp [TY,hp]
  | succ n ih=>
    intro a ha f hf;cases a with
    | zero=>exact ih 0 om f om
    | succ a=>
      cases f with
      | zero=>omega
      | succ f=>
        simp only [TY]
        congr 1
        apply P4
        intro p hp;have:=hv.par hp;rw [ih p om f om,ih p om a om]
theorem H4 {l:List Ty} (hv:VT l) (a b:Nat):sub l a b=(decide (a=b) || (Nq l a).any (fun p=>sub l p b)):=by
  unfold sub;cases a with
  | zero=>
    have hp:Nq l 0= []:=by
      cases h:Nq l 0 with
      | nil=>rfl
      | cons p r=>exact absurd (hv.par (a:=0) (p:=p) (by rw [h];simp)) om
    simp [TY,hp]
  | succ a=>
    conv=>lhs;unfold TY
    congr 1
    apply P4
    intro p hp;have:=hv.par hp;rw [subF_fuel hv b (a + 1) p om a om]
theorem YZ {l:List Ty} (hv:VT l) (a:Nat):sub l a a=true:=by rw [H4 hv];simp
theorem XZ {l:List Ty} (hv:VT l) (a b:Nat):sub l a b=true ↔ a=b∨∃ p ∈ Nq l a,sub l p b=true:=by
  rw [H4 hv];simp
theorem sub_le {l:List Ty} (hv:VT l):∀ (n a b:Nat),a≤n→sub l a b=true→b≤a:=by
  intro n
  induction n with
  | zero=>
    intro a b ha h;rcases(XZ hv a b).1 h with rfl | ⟨p,hp,_⟩
    · omega
    · have:=hv.par hp;omega
  | succ n ih=>
    intro a b ha h;rcases(XZ hv a b).1 h with rfl | ⟨p,hp,hs⟩
    · omega
    · have:=hv.par hp
      have:=ih p b om hs;omega
theorem Kx {l:List Ty} (hv:VT l) {a b:Nat} (h:sub l a b=true):b≤a:=sub_le hv a a b (Nat.le_refl _) h
theorem sub_trans {l:List Ty} (hv:VT l) (c:Nat):∀ (n a b:Nat),a≤n→sub l a b=true→sub l b c=true→sub l a c=true:=by
  intro n
  induction n with
  | zero=>
    intro a b ha h h2;rcases(XZ hv a b).1 h with rfl | ⟨p,hp,_⟩
    · exact h2
    · have:=hv.par hp;omega
  | succ n ih=>
    intro a b ha h h2;rcases(XZ hv a b).1 h with rfl | ⟨p,hp,hs⟩
    · exact h2
    · have:=hv.par hp
      exact(XZ hv a c).2 (.inr ⟨p,hp,ih p b om hs h2⟩)
theorem M2 {l:List Ty} (hv:VT l) {a b c:Nat} (h:sub l a b=true) (h2:sub l b c=true):sub l a c=true:=sub_trans hv c a a b (Nat.le_refl _) h h2
theorem sub_par {l:List Ty} (hv:VT l) {i:Nat} (hi:i < l.length) {p:Int} (hp:p ∈ (l[i]).par):sub l i p.toNat=true:=by
  refine(XZ hv i _).2 (.inr ⟨p.toNat,?_,YZ hv _⟩);simp only [Nq,List.getElem?_eq_getElem hi,List.mem_map];exact⟨p,hp,rfl⟩
def Mq (ps:List Int) (x:Nat):Bool:=ps.any (fun p=>decide (p=(x:Int)))
theorem RX (ps:List Int) (x:Nat):Mq ps x=true ↔ (x:Int) ∈ ps:=by simp [Mq]
theorem parB_snoc (ps:List Int) {j:Nat} (hj:j < ps.length) (x:Nat):Mq (ps.take (j + 1)) x=(Mq (ps.take j) x || decide (ps[j]=(x:Int))):=by
  simp only [Mq];rw [List.take_succ_eq_append_getElem hj,List.any_append];simp
structure Marks (l:List Ty) (a i:Nat) (mk:Nat→Bool):Prop where
  ok:∀ j,mk j=true→sub l a j=true
  all:∀ c,c≤i→sub l a c=true→∃ j,j≤i∧mk j=true∧sub l j c=true
theorem Marks.start {l:List Ty} (hv:VT l) (a:Nat):Marks l a a (fun j=>if j=a then true else false):=
  ⟨fun j h=>by
    by_cases e:j=a
    · subst e;exact YZ hv _
    · simp [e] at h,fun c _ h=>⟨a,Nat.le_refl _,by simp,h⟩⟩
theorem Marks.yes {l:List Ty} (hv:VT l) {a i:Nat} {mk:Nat→Bool} (h:Marks l a i mk) (hi:i < l.length) (hm:mk i=true):Marks l a (i - 1) (fun x=>mk x || Mq (l[i]).par x):=
  ⟨fun j hj=>by
    simp only [Bool.or_eq_true] at hj
    rcases hj with hj | hj
    · exact h.ok j hj
    · have:=sub_par hv hi ((RX _ _).1 hj)
      simp only [Int.toNat_natCast] at this
      exact M2 hv (h.ok i hm) this,fun c hc hs=>by
    by_cases hi0:i=0
    · subst hi0
      obtain⟨j,hj,h1,h2⟩:=h.all c om hs
      exact⟨j,by omega,by simp [h1],h2⟩
    obtain⟨j,hj,h1,h2⟩:=h.all c om hs
    by_cases e:j=i
    · subst e
      rcases(XZ hv j c).1 h2 with rfl | ⟨p,hp,hps⟩
      · omega
      · have hlt:=hv.par hp
        refine⟨p,by omega,?_,hps⟩
        simp only [Nq,List.getElem?_eq_getElem hi,List.mem_map] at hp
        obtain⟨q,hq,rfl⟩:=hp
        have:=hv j hi q hq
        have hq':((q.toNat:Nat):Int) ∈ (l[j]).par:=by rw [Int.toNat_of_nonneg this.1];exact hq
        simp only [Bool.or_eq_true]
        exact .inr ((RX _ _).2 hq')
    · exact⟨j,by omega,by simp [h1],h2⟩⟩
theorem Marks.no {l:List Ty} {a i:Nat} {mk:Nat→Bool} (h:Marks l a i mk) (hm:mk i=false):Marks l a (i - 1) mk:=
  ⟨h.ok,fun c hc hs=>by
    obtain⟨j,hj,h1,h2⟩:=h.all c om hs
    by_cases e:j=i
    · subst e;rw [hm] at h1;cases h1
    · exact⟨j,by omega,h1,h2⟩⟩
theorem Marks.end_ {l:List Ty} (hv:VT l) {a b i:Nat} {mk:Nat→Bool} (h:Marks l a i mk) (hi:i≤b) (hb:b≤a→b≤i):mk b=sub l a b:=by
  cases hs:sub l a b
  · cases hm:mk b
    · rfl
    · rw [h.ok b hm] at hs;cases hs
  · have hle:=Kx hv hs
    have hib:i=b:=Nat.le_antisymm hi (hb hle);subst hib;obtain⟨j,hj,h1,h2⟩:=h.all i (Nat.le_refl _) hs;have:=Kx hv h2;have:j=i:=by omega
    subst this;exact h1
theorem in4:(Tryz.prog.info? 4).map (fun i=>(i.zero,i.size,i.bytes))=some (some (.bool false),1,1):=by kernel_rfl
theorem sz4:(Tryz.prog.info? 4).map (·.size)=some 1:=by kernel_rfl
theorem Cw (A:Option Addr) (c:Nat) (l:List Ty) (a b:Nat) (w:World) (hT:TypesIn w A l) (hv:VT l) (h60:l.length≤60) (ha:a < l.length) (hb:b < l.length):Calls Tryz.prog 66 #[.slice A l.length c,.int .i64 a,.int .i64 b] w fun e w'=>e= .returned (.bool (sub l a b))∧Bel w w':=by
 have hmx:=hT.1;unfold vQ at hmx;refine enT Tryz.func66 Tryz.ntmps66 rfl rfl fun hB=>?_;refine zn9 ?_;refine Xj (m:=l.length) J6 in4 rfl rfl rfl om hmx (fun b13 w1 hb13 s1 hr=>?_);have lo13:=nLT (Bel.size hB) hr;refine zn8 ?_;refine x9 (v:= .bool _) hb13 rfl rfl sz4 (by rw [row_size];omega) rfl jV (fun w2 hq s2=>?_);replace hb13:=hq;refine zn4 ?_;have hb13':Blk w2 b13 4 (row l.length (fun j=> .bool (if j=a then true else false))):=by
   rw [show (row l.length (fun j=>Value.bool (if j=a then true else false)))=row l.length (fun j=>if j=a then Value.bool true else Value.bool false) from xQ (fun j _=>by split <;> rfl)];exact hb13
 refine zn6 ?_;refine zK (rg [8,10] 18 23) (fun m g w'=>∃ (i:Nat) (mk:Nat→Bool),i≤a∧m=i∧g 8= .int .i64 i∧(b≤a→b≤i)∧Bel w w'∧Blk w' b13 4 (row l.length (fun j=> .bool (mk j)))∧Marks l a i mk) (a) ?_ (fun m g4 w3 hI=>?_)
 ·exact⟨a,_,Nat.le_refl _,rfl,rfl,fun h=>h,hB.u,hb13',Marks.start hv a⟩
 obtain⟨i,mk,hi,hm,h8,hbi,hB,hb13,hM⟩:=hI;refine zQ 8 _ h8 nu (zn8 ?_);refine zy rfl (fun c20=>?_) (fun c20=>?_)
 ·refine zn9 ?_;refine wl (qZ (v:= .bool _) U4 rfl rfl (hb13.cell (yY om))) (zw (e_S ?_));refine vw rfl (fun c26=>?_) (fun c26=>?_)
  ·have hil:i < l.length:=by omega
   obtain⟨tb,to,A',cp,rfl,htb,htr,hpar⟩:=hT.at_ hB hil;have hpx:=hpar.1;unfold vQ at hpx;refine zn6 ?_;refine wl (qZ (v:= .slice _ _ _) U66 rfl rfl (htr 1 _ rfl)) (zn5 ?_);refine zK (rg [10] 33 8) (fun m g w'=>∃ (j:Nat),j≤(l[i]'hil).par.length∧m=(l[i]'hil).par.length - j∧g 33= .int .i64 j∧Bel w w'∧Blk w' b13 4 (row l.length (fun x=> .bool (mk x || Mq ((l[i]'hil).par.take j) x)))) ((l[i]'hil).par.length) ?_ (fun m g8 w4 hI=>?_)
   ·refine⟨0,Nat.zero_le _,rfl,rfl,hB,?_⟩;rw [show (row l.length (fun x=>Value.bool (mk x || Mq ((l[i]'hil).par.take 0) x)))=row l.length (fun j=> .bool (mk j)) from xQ (fun x _=>by simp [Mq])];exact hb13
   obtain⟨j,hj,hmj,h33,hB,hb13⟩:=hI;refine zQ 33 _ h33 nu (zn6 ?_);refine zy rfl (fun c34=>?_) (fun c34=>?_)
   ·have hlj:j < (l[i]'hil).par.length:=by omega
    obtain⟨pb,po,rfl,hpb,hpc⟩:=hpar.at_ hlj;replace hpc:=hB.cell hpb hpc;have hpr:=hv i hil _ (List.getElem_mem hlj);refine zn7 ?_;refine wl (qZ (v:= .int _ _) U3 rfl rfl hpc) (zn6 ?_);refine wl (xw (i:=((l[i]'hil).par[j]).toNat) J6 sz4 rfl (show ev _ _ _=_ from congrArg (Value.int .i64) (Int.toNat_of_nonneg hpr.1).symm) om rfl) ?_;refine x9 (v:= .bool _) hb13 rfl rfl sz4 (by rw [row_size];omega) rfl jV (fun w5 hq s3=>?_);replace hb13:=hq;refine zn7 ?_;refine qV ((l[i]'hil).par.length - (j + 1)) om agA ?_;refine⟨j + 1,by omega,rfl,rfl,hB.u,?_⟩
    rw [show (row l.length (fun x=>Value.bool (mk x || Mq ((l[i]'hil).par.take (j + 1)) x)))=row l.length (fun x=>if x=((l[i]'hil).par[j]).toNat then Value.bool true else .bool (mk x || Mq ((l[i]'hil).par.take j) x)) from xQ (fun x _=>by
      rw [parB_snoc _ hlj];by_cases e:x=((l[i]'hil).par[j]).toNat
      · rw [if_pos e];have:(l[i]'hil).par[j]=(x:Int):=by omega
        simp [this]
      · rw [if_neg e];have:¬(l[i]'hil).par[j]=(x:Int):=by omega
        simp [this])]
    exact hb13
   have hM':=hM.yes hv hil c26;have hjl:j=(l[i]'hil).par.length:=by omega
   rw [hjl,List.take_length] at hb13;obtain⟨mk',hmk'⟩:∃ mk':Nat→Bool,mk'=fun x=>mk x || Mq (l[i]'hil).par x:=⟨_,rfl⟩
   rw [show (row l.length (fun x=>Value.bool (mk x || Mq (l[i]'hil).par x)))=row l.length (fun x=> .bool (mk' x)) from xQ (fun x _=>by rw [hmk'])] at hb13;rw [← hmk'] at hM';refine zn8 ?_;refine wl (kW (c:=((i - 1:Nat):Int)) rfl rfl om om) (zn2 ?_);refine qV (i - 1) om agA ?_;exact⟨i - 1,mk',by omega,rfl,rfl,fun h=>by omega,hB,hb13,hM'⟩
  have hM':=hM.no c26;obtain⟨mk',hmk'⟩:∃ mk',mk'=mk:=⟨_,rfl⟩
  rw [← hmk'] at hM' hb13;clear hmk';refine zn5 ?_;refine wl (kW (c:=((i - 1:Nat):Int)) rfl rfl om om) (zn2 ?_);refine qV (i - 1) om agA ?_;exact⟨i - 1,mk',by omega,rfl,rfl,fun h=>by omega,hB,hb13,hM'⟩
 refine yw ?_;refine wl (qZ (v:= .bool _) U4 rfl rfl (hb13.cell (yY om))) (zn5 ?_);exact⟨yZ (hM.end_ hv om hbi).symm,hB⟩
end Go.Proofs.YtbcpgfnfiekbiaaGreatDoor
namespace Go.Proofs.YtbcpgfnfiekbiaaGreatDoor
open Go.RowKit
def jq (p:Nat→Bool):Nat→Nat
  | 0=>0
  | n + 1=>jq p n ||| (if p n then 2 ^ n else 0)
theorem jz (p:Nat→Bool):∀ (n j:Nat),(jq p n).testBit j=(decide (j < n) && p j)
  | 0,j=>by simp [jq]
  | n + 1,j=>by
    rw [jq,Nat.testBit_or,jz p n j]
    by_cases h:j=n
    · subst h
      cases hp:p j <;> simp [Nat.testBit_two_pow_self]
    · have h1:(if p n then 2 ^ n else 0:Nat).testBit j=false:=by
        cases hp:p n
        · simp
        · simp [Ne.symm h]
      have h2:decide (j < n + 1)=decide (j < n):=by simp;omega
      rw [h1,h2];simp
theorem mask_lt (p:Nat→Bool) (n:Nat):jq p n < 2 ^ n:=by
  apply Nat.lt_pow_two_of_testBit
  intro i hi;rw [jz];simp;omega
theorem ZJ (p:Nat→Bool) {n:Nat} (h:n≤60):jq p n < 18446744073709551616:=by
  have h1:=mask_lt p n;have h2:2 ^ n≤2 ^ 60:=Nat.pow_le_pow_right dE h;have h3:(2:Nat) ^ 60=1152921504606846976:=by decide
  omega
theorem Vx {x:Nat} {p:Nat→Bool} {n:Nat} (h:∀ j,x.testBit j=(decide (j < n) && p j)):x=jq p n:=
  Nat.eq_of_testBit_eq (fun j=>by rw [h,jz])
theorem j9 {p q:Nat→Bool} {n:Nat} (h:∀ j,j < n→p j=q j):jq p n=jq q n:=by
  apply Vx
  intro j;rw [jz];by_cases hj:j < n
  · rw [h j hj]
  · simp [hj]
theorem mask_or (p q:Nat→Bool) (n:Nat):jq p n ||| jq q n=jq (fun j=>p j || q j) n:=
  Vx (fun j=>by rw [Nat.testBit_or,jz,jz];cases decide (j < n) <;> simp)
theorem mask_and (p q:Nat→Bool) (n:Nat):jq p n &&& jq q n=jq (fun j=>p j && q j) n:=
  Vx (fun j=>by rw [Nat.testBit_and,jz,jz];cases decide (j < n) <;> simp)
theorem F6 {k n:Nat} (h:k < n):2 ^ k=jq (fun j=>decide (j=k)) n:=by
  apply Vx
  intro j;rw [Nat.testBit_two_pow];by_cases e:k=j
  · subst e;simp [h]
  · simp [e,Ne.symm e]
theorem mask_zero (n:Nat):jq (fun _=>false) n=0:=by
  symm;apply Vx;intro j;simp
theorem mask_eq_zero {p:Nat→Bool} {n:Nat}:jq p n=0 ↔ ∀ j,j < n→p j=false:=by
  constructor
  · intro h j hj
    have:=jz p n j;rw [h] at this
    simpa [hj] using this.symm
  · intro h
    rw [← mask_zero n];exact j9 h
theorem mask_inj {p q:Nat→Bool} {n:Nat}:jq p n=jq q n ↔ ∀ j,j < n→p j=q j:=by
  constructor
  · intro h j hj
    have h1:=jz p n j;have h2:=jz q n j;rw [h] at h1;rw [h1] at h2
    simpa [hj] using h2
  · exact j9
theorem D7 (x j:Nat):decide (((x >>> j) &&& 1)=1)=x.testBit j:=by
  rw [Nat.testBit_eq_decide_div_mod_eq,Nat.shiftRight_eq_div_pow,Nat.and_one_is_mod]
theorem Iw {p:Nat→Bool} {n:Nat} (hn:n≤60) (h0:jq p n≠0):Lib.ctz 64 (jq p n) < n∧p (Lib.ctz 64 (jq p n))=true∧∀ j,j < Lib.ctz 64 (jq p n)→p j=false:=by
  have hlt:jq p n < 2 ^ 64:=by
    have h1:=ZJ p hn;have h2:(2:Nat) ^ 64=18446744073709551616:=by decide
    omega
  obtain⟨m,hm,hk⟩:=Lib.ctzFrom_spec 64 (jq p n) om hlt;have e:Lib.ctz 64 (jq p n)=Lib.ctzFrom 64 (jq p n):=by simp [Lib.ctz,h0]
  rw [e]
  generalize hc:Lib.ctzFrom 64 (jq p n)=c at *
  have hb:∀ j,(jq p n).testBit j=(decide (c≤j) && (2 * m + 1).testBit (j - c)):=by
    intro j;rw [hm,Nat.mul_comm,Nat.testBit_mul_two_pow]
  have hcb:(jq p n).testBit c=true:=by rw [hb];simp
  rw [jz] at hcb;simp only [Bool.and_eq_true,decide_eq_true_eq] at hcb;refine⟨hcb.1,hcb.2,fun j hj=>?_⟩;have:=hb j;rw [jz] at this;have hcj:¬c≤j:=by omega
  simp only [hcj,decide_false,Bool.false_and] at this;have hjn:j < n:=by omega
  simpa [hjn] using this
def TabIn (w:World):Prop:=2 < w.heap.size∧∀ k,k < 64→w.cell? ⟨2,0 + k * 1,none⟩=some (.int .u8 ((Lib.deBruijn64tab.getD k 0:Nat):Int))
theorem TabIn.mono {w w':World} (h:TabIn w) (hb:Bel w w'):TabIn w':=⟨nLL h.1 hb.size,fun k hk=>hb.cell h.1 (h.2 k hk)⟩
theorem ctz_eq {x c:Nat} (h0:x≠0) (hx:x < 18446744073709551616) (hc:18446744073709551616 - x=c):x &&& c=2 ^ Lib.ctz 64 x∧Lib.ctz 64 x < 64:=by
  subst hc
  exact Lib.lowest_bit 64 x h0 (by have : (2 : Nat) ^ 64 = 18446744073709551616 := by decide
                                   omega)
def tzI (x:Nat):Nat:=((x &&& (18446744073709551616 - x)) * 285870213051353865 % 18446744073709551616) >>> 58
theorem tzI_spec {x:Nat} (h0:x≠0) (hx:x < 18446744073709551616):tzI x < 64∧Lib.deBruijn64tab.getD (tzI x) 0=Lib.ctz 64 x:=by
  have h:=ctz_eq h0 hx rfl;have h2:=Lib.deBruijn64_at (Lib.ctz 64 x) h.2;unfold tzI;rw [h.1,Nat.shiftRight_eq_div_pow];exact h2
def upN (l:List Ty) (i:Nat):Nat:=jq (fun j=>sub l i j) l.length
def Zz (l:List Ty) (j:Nat):Nat:=jq (fun i=>sub l i j) l.length
def rU (n:Nat) (g:Nat→Nat):Array Value:=row n (fun i=> .int .u64 (g i))
def TableIn (w:World) (l:List Ty) (bu bd:Nat):Prop:=Blk w bu 157 (rU l.length (upN l))∧Blk w bd 157 (rU l.length (Zz l))
theorem Blk.bel {w w':World} {b:Nat} {t:TypeId} {cs:Array Value} (h:Blk w b t cs) (hb:Bel w w'):Blk w' b t cs:=(hb.block b h.lt).trans h
theorem TableIn.mono {w w':World} {l:List Ty} {bu bd:Nat} (h:TableIn w l bu bd) (hb:Bel w w'):TableIn w' l bu bd:=⟨h.1.bel hb,h.2.bel hb⟩
theorem TableIn.up {w:World} {l:List Ty} {bu bd i:Nat} (h:TableIn w l bu bd) (hi:i < l.length):w.cell? ⟨bu,0 + i * 1,none⟩=some (.int .u64 (upN l i)):=h.1.cell (yY hi)
theorem TableIn.down {w:World} {l:List Ty} {bu bd i:Nat} (h:TableIn w l bu bd) (hi:i < l.length):w.cell? ⟨bd,0 + i * 1,none⟩=some (.int .u64 (Zz l i)):=h.2.cell (yY hi)
theorem Wy {l:List Ty} (h:l.length≤60) (i:Nat):upN l i < 18446744073709551616:=ZJ _ h
theorem W4 {l:List Ty} (h:l.length≤60) (i:Nat):Zz l i < 18446744073709551616:=ZJ _ h
def tabV (n bu bd:Nat):Value:= .agg #[.slice (some ⟨bu,0,none⟩) n n,.slice (some ⟨bd,0,none⟩) n n]
def uQ (l:List Ty) (a b:Nat) (i:Nat):Bool:=sub l i a && sub l i b
def vk (l:List Ty) (a b:Nat):Nat:=jq (uQ l a b) l.length
theorem comm_and (l:List Ty) (a b:Nat):Zz l a &&& Zz l b=vk l a b:=mask_and _ _ _
def Z1 (l:List Ty) (a b:Nat):Nat×Bool×Bool:=
  if vk l a b=0 then (0,false,false)
  else if Zz l (Lib.ctz 64 (vk l a b))≠vk l a b then (0,false,true)
  else (Lib.ctz 64 (vk l a b),true,false)
def meetV (r:Nat×Bool×Bool):Value:= .tuple #[.int .i64 r.1,.bool r.2.1,.bool r.2.2]
theorem O3 {m:Nat} {p q:Bool} {r:Nat×Bool×Bool} (h:r=(m,p,q)):Ending.returned (.tuple #[.int .i64 (m:Int),.bool p,.bool q])= .returned (meetV r):=by rw [h];rfl
end Go.Proofs.YtbcpgfnfiekbiaaGreatDoor
namespace Go.Proofs.YtbcpgfnfiekbiaaGreatDoor
open Go.RowKit
theorem fn122:zZ Tryz.prog 122=true:=by kernel_rfl
theorem sz157:(Tryz.prog.info? 157).map (·.size)=some 1:=by kernel_rfl
theorem sz5_Meet:(Tryz.prog.info? 5).map (·.size)=some 1:=by kernel_rfl
theorem tz_any (x:Nat) (w:World) (h0:x≠0) (hx:x < 18446744073709551616) (hTab:TabIn w):Calls Tryz.prog 122 #[.int .u64 x] w fun e w'=>e= .returned (.int .i64 (Lib.ctz 64 x:Nat))∧w=w':=by
 have hz:=tzI_spec h0 hx;have hgd:=hTab.2 (tzI x) hz.1;rw [hz.2] at hgd;refine enter Tryz.func122 Tryz.ntmps122 rfl (Nat.le_of_ble_eq_true rfl) (y8 ?_);refine zy rfl (fun c4=>?_) (fun c4=>?_)
 ·exact absurd c4 om
 refine zn6 ?_;refine wl (r_negU rfl om hx rfl) (wl (Jw (b:=18446744073709551616 - x) rfl rfl hx om) (wl (r_mulU (b:=285870213051353865) rfl rfl rfl) (wl (r_shr (b:=58) rfl rfl dE rfl) (wl (Ry (i:=tzI x) Tryz.underlying197 sz5_Meet rfl rfl hz.1 rfl) (wl (qZ (v:= .int _ _) U5 rfl rfl hgd) (wl (O6 U5 U3 rfl (by have:=(ctz_eq h0 hx rfl).2;omega)) (zn5 ?_)))))));exact⟨rfl,rfl⟩
theorem meet_any (l:List Ty) (bu bd a b:Nat) (w:World) (hTab:TabIn w) (hI:TableIn w l bu bd) (_hv:VT l) (h60:l.length≤60) (ha:a < l.length) (hb:b < l.length):Calls Tryz.prog 106 #[tabV l.length bu bd,.int .i64 a,.int .i64 b] w fun e w'=>e= .returned (meetV (Z1 l a b))∧Bel w w':=by
 have hca:=W4 h60 a;have hcb:=W4 h60 b;have hcc:vk l a b < 18446744073709551616:=ZJ _ h60;refine enT Tryz.func106 Tryz.ntmps106 rfl rfl fun hB=>?_;refine zn2 ?_;refine qK (v:= .agg #[_,_]) (cs:=#[_,_]) rfl rfl (fun b3 w1 hb3 s1 hr=>?_);refine zn6 ?_;refine gQ kR kR (fun w2 s2=>?_);refine zn4 ?_;refine ws (qZ (v:= .int _ _) Yj rfl rfl ((hI.mono hB.u).down ha)) (zn4 ?_);refine ws (qZ (v:= .int _ _) Yj rfl rfl ((hI.mono hB.u).down hb)) (ws (Jw rfl rfl hca hcb) (ws (Zw (v:= .int .u64 (vk l a b:Nat)) (congrArg (fun z:Nat=>Value.int .u64 (z:Int)) (comm_and l a b))) (u4 (zn8 ?_))));refine zy rfl (fun c22=>?_) (fun c22=>?_)
 ·have hz0:vk l a b=0:=by omega
  refine zn9 ?_;refine fin3 (.inl rfl) rfl rfl rfl rfl ?_;replace hB:=hB.tr0 (s1.trans s2);exact⟨O3 (by simp only [Z1,if_pos hz0]),hB⟩
 have hne:vk l a b≠0:=fun h=>c22 (by rw [h];rfl)
 have hz:=Iw h60 hne;refine zn5 ?_;refine zJ fn122 (tz_any _ _ hne hcc (hTab.mono hB.u)) rfl (fun e' w3 hr=>?_);obtain⟨rfl,rfl⟩:=hr;refine⟨_,rfl,?_⟩;refine zn9 ?_;refine wl (xw (i:=Lib.ctz 64 (vk l a b)) U87 sz157 rfl rfl hz.1 rfl) (wl (qZ (v:= .int _ _) Yj rfl rfl ((hI.mono hB.u).down hz.1)) (zn4 ?_));refine zy rfl (fun c31=>?_) (fun c31=>?_)
 ·have hne2:Zz l (Lib.ctz 64 (vk l a b))≠vk l a b:=by omega
  refine zn9 ?_;refine fin3 (.inl rfl) rfl rfl rfl rfl ?_;replace hB:=hB.tr0 (s1.trans s2);exact⟨O3 (by simp only [Z1,if_neg hne,if_pos hne2]),hB⟩
 have heq:Zz l (Lib.ctz 64 (vk l a b))=vk l a b:=by omega
 refine yx ?_;refine fin3 (.inl rfl) rfl rfl rfl rfl ?_;replace hB:=hB.tr0 (s1.trans s2);exact⟨O3 (by simp only [Z1,if_neg hne,heq,ne_eq,not_true_eq_false,if_false]),hB⟩
theorem Tz (l:List Ty) (bu bd a b:Nat) (w:World) (hI:TableIn w l bu bd) (h60:l.length≤60) (ha:a < l.length) (hb:b < l.length):Calls Tryz.prog 116 #[tabV l.length bu bd,.int .i64 a,.int .i64 b] w fun e w'=>e= .returned (.bool (sub l a b))∧Bel w w':=by
 have hca:=Wy h60 a;refine enT Tryz.func116 Tryz.ntmps116 rfl rfl fun hB=>?_;refine zn2 ?_;refine qK (v:= .agg #[_,_]) (cs:=#[_,_]) rfl rfl (fun b3 w1 hb3 s1 hr=>?_);refine zn9 ?_;refine wl (qZ (v:= .int _ _) Yj rfl rfl ((hI.mono hB.u).up ha)) (wmI rfl (wl (r_shr (b:=b) rfl rfl om rfl) (wl (Jw (b:=1) rfl rfl (Nat.lt_of_le_of_lt (Nat.shiftRight_le _ _) hca) dE) (zn6 ?_))));refine⟨yZ ?_,hB.u⟩;have h1:=D7 (upN l a) b;unfold upN at h1;rw [jz] at h1;simp only [hb,decide_true,Bool.true_and] at h1;rw [← h1];exact decide_eq_decide.2 (by unfold upN;omega)
end Go.Proofs.YtbcpgfnfiekbiaaGreatDoor
