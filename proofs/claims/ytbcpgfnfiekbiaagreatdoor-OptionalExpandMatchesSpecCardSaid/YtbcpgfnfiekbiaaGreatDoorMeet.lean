/- What these functions of the program compute, at every world: glosswright/hierarchy.Types. What these functions of the program compute, at every world: glosswright/glosswrightref3.Name, glosswright/glosswrightref3.TypesFault. What these functions of the program compute, at every world: glosswright/glosswrightref3.Sub. Sets of small numbers as bits. What these functions of the program compute, at every world: math/bits.TrailingZeros64, (glosswright/hierarchy.Table).Meet, (glosswright/hierarchy.Table).Sub. -/
import Derived.Test.YtbcpgfnfiekbiaaGreatDoorU
import Derived.Test.YtbcpgfnfiekbiaaGreatDoorTrm
import Derived.Lib.TrailingZeros
namespace Go.Proofs.YtbcpgfnfiekbiaaGreatDoor
open Go.RowKit
def yW (l:List Ty) (i:Nat):Int:=match l[i]? with
  | none=>0
  | some t=>if xj t.name=false then 10 else if jX ((l.take i).map (·.name)) t.name=true then 7 else if (decide (i=0) == t.par.isEmpty)=false then 5 else j9 i (-1) t.par
def xx (l:List Ty):Fl:=if l.length=0∨60 < l.length then (2,-1) else x8 (yW l) 0 l.length
theorem KY (xs:List Int):decide ((xs.length:Int)=0)=xs.isEmpty:=by cases xs <;> simp;omega
theorem mal_yes {k:Nat} {xs:List Int} (h:(!(decide ((k:Int)=0) == decide ((xs.length:Int)=0)))=true):(decide (k=0) == xs.isEmpty)=false:=by
  rw [KY] at h
  simpa using h
theorem mal_no {k:Nat} {xs:List Int} (h:(!(decide ((k:Int)=0) == decide ((xs.length:Int)=0)))=false):(decide (k=0) == xs.isEmpty)=true:=by
  rw [KY] at h
  simpa using h
theorem ty10 (l:List Ty) (k:Nat) (hlt:k < l.length) (h1:xj l[k].name=false):yW l k=10:=by
  simp only [yW,List.getElem?_eq_getElem hlt,h1,if_true]
theorem ty7 (l:List Ty) (k:Nat) (hlt:k < l.length) (h1:xj l[k].name=true) (h2:jX ((l.take k).map (·.name)) l[k].name=true):yW l k=7:=by
  simp only [yW,List.getElem?_eq_getElem hlt,h1,h2,if_true];rfl
theorem ty5 (l:List Ty) (k:Nat) (hlt:k < l.length) (h1:xj l[k].name=true) (h2:jX ((l.take k).map (·.name)) l[k].name=false) (h3:(decide (k=0) == l[k].par.isEmpty)=false):yW l k=5:=by
  simp only [yW,List.getElem?_eq_getElem hlt,h1,h2,h3,if_true];rfl
theorem Cx (l:List Ty) (k:Nat) (hlt:k < l.length) (h1:xj l[k].name=true) (h2:jX ((l.take k).map (·.name)) l[k].name=false) (h3:(decide (k=0) == l[k].par.isEmpty)=true):yW l k=j9 k (-1) (l[k].par.drop 0):=by
  simp only [yW,List.getElem?_eq_getElem hlt,h1,h2,h3,List.drop_zero];rfl
theorem DW:zK Tryz.prog 104=true:=by kernel_rfl
theorem fn44:zK Tryz.prog 44=true:=by kernel_rfl
theorem Ex:(Tryz.prog.info? 110).map (·.size)=some 2:=by kernel_rfl
theorem sz3:(Tryz.prog.info? 3).map (·.size)=some 1:=by kernel_rfl
theorem ze110:(Tryz.prog.info? 110).map (·.zero)=some (some (.agg #[.string ⟨#[]⟩,.slice none 0 0])):=by kernel_rfl
theorem ze3:(Tryz.prog.info? 3).map (·.zero)=some (some (.int .i64 0)):=by kernel_rfl
theorem types_any (A:Option Addr) (c:Nat) (l:List Ty) (w:World) (hT:TypesIn w A l):Calls Tryz.prog 105 #[.slice A l.length c] w fun e w'=>e= .returned (flV (xx l))∧Bel w w':=by
 refine enT Tryz.func105 Tryz.ntmps105 rfl rfl fun hB=>?_;refine zn2 ?_;refine qq (cs:=#[.int .i64 0,.int .i64 0]) ze36 rfl (fun b2 w1 hb2 s1 hr=>?_);have lo2:=nLT (Bel.size hB) hr;refine zn4 ?_;replace hB:=hB.tr0 s1;refine xJ (rg [] 11 8) 18 (.bool (decide (l.length=0∨60 < l.length))) nu ?_ (fun gq=>?_)
 ·refine zn5 ?_;refine zw 14 rfl (fun g14=>?_) (fun g14=>?_)
  ·refine zn4 ?_;refine zJ (e_R ⟨rfl,agA,?_⟩);exact clA
  refine zn7 ?_;refine zJ (e_R ⟨rfl,agA,?_⟩);exact clA
 refine e_S ?_;refine zX rfl (fun c18=>?_) (fun c18=>?_)
 ·refine zn2 ?_;refine zV DW (kw _ _ _) rfl (fun e' w2 hr=>?_);obtain⟨rfl,s2⟩:=hr;replace s2:=sB s2;refine⟨_,rfl,?_⟩;refine zk hb2.u rfl rfl o8 rfl zQ (fun w3 hq s3=>?_);replace hb2:=hq;refine zn4 ?_;refine x7 (.inl rfl) rfl (zy U36 rfl rfl hb2.range0 o8) ?_;replace hB:=(hB.tr0 s2).tr1 s3 lo2;exact⟨qK (by simp only [xx,if_pos c18]),hB⟩
 have hR:=Lib.hid (show xx l=x8 (yW l) 0 (l.length - 0) by simp only [xx,if_neg c18,Nat.sub_zero]);refine zn4 ?_;refine wl_mm (fun b20 w4 hb20 s4 hr=>?_);have:=nLL hb2.lt hr;have lo20:=nLT (Bel.size hB) hr;refine wl (Y0 (v:= .map _) rfl) (vq ?_);refine zW [4,5,6,7,8,10,23,24,25,26,27,28,29,30,31,32,33,34,35,36,37,38,39,40,41,42,43,44,45,46,47,48,49,50,51,52,53,54,55,56,57,58,59,60,61,62,63,64,65,66,67,68,69,70,71,72,73,74,75,76,77,78,79,80] (fun m g w'=>∃ (k:Nat) (mp:List (ByteArray×Value)),k≤l.length∧m=l.length - k∧g 23= .int .i64 k∧Bel w w'∧Blk w' b2 36 #[.int .i64 0,.int .i64 0]∧MapS w' b20 mp∧(∀ s,lkB mp s=jX ((l.take k).map (·.name)) s)∧xx l=x8 (yW l) k (l.length - k)) (l.length) ?_ (fun m g5 w5 hI=>?_)
 ·exact⟨0,[],Nat.zero_le _,rfl,rfl,hB.u,hb2.u,hb20,fun s=>rfl,hR.out⟩
 obtain⟨k,mp,hk,hm,h23,hB,hb2,hb20,hmp,hR'⟩:=hI;refine zZ 23 _ h23 nu (zn6 ?_);refine zX rfl (fun c24=>?_) (fun c24=>?_)
 ·have hlt:k < l.length:=by omega
  obtain⟨tb,to,A',cp,rfl,htb,htr,hpar⟩:=hT.at_ hB hlt;refine zn8 ?_;refine wl (zY T1 rfl rfl htr Ex) ?_;refine qq (cs:=#[.string ⟨#[]⟩,.slice none 0 0]) ze110 rfl (fun b5 w6 hb5 s5 hr=>?_);have:=nLL hb2.lt hr;have:=nLL hb20.lt hr;have lo5:=nLT (Bel.size hB) hr;refine waI rfl ?_;refine zk hb5 rfl rfl Ex rfl zQ (fun w7 hq s6=>?_);replace hb5:=hq;refine zn7 ?_;refine zV fn44 (YV _ _) rfl (fun e' w8 hr=>?_);obtain⟨rfl,rfl⟩:=hr;refine⟨_,rfl,?_⟩;refine zn3 ?_;refine vK rfl (fun c31=>?_) (fun c31=>?_)
  ·have hty:=ty10 l k hlt (by simpa using c31);refine zn3 ?_;refine zV DW (kw _ _ _) rfl (fun e' w9 hr=>?_);obtain⟨rfl,s7⟩:=hr;replace s7:=sB s7;refine⟨_,rfl,?_⟩;refine zk hb2.u rfl rfl o8 rfl zQ (fun w10 hq s8=>?_);replace hb2:=hq;refine zn9 ?_;refine x7 (.inl rfl) rfl (zy U36 rfl rfl hb2.range0 o8) ?_;exact⟨qK (hR'.trans (qQ (c:=10) oM hty dE)),hB.u⟩
  have hnm:xj (l[k]'hlt).name=true:=by simpa using c31
  refine zn5 ?_;refine wl (yq (v:= .map _) rfl) (zn2 ?_);replace hb20:=(hb20.tr0 s5).tr1 s6 oM;refine wl (r_lkS hb20 U94 U9 ze3 rfl rfl) (wmT rfl (wl (j5 (v:=_) rfl rfl) (wl (j5 (v:= .bool _) rfl rfl) (wl (Y0 (v:=_) rfl) (zn8 ?_)))));refine vK rfl (fun c41=>?_) (fun c41=>?_)
  ·have hty:=ty7 l k hlt hnm ((hmp _).symm.trans c41);refine zn3 ?_;refine zV DW (kw _ _ _) rfl (fun e' w11 hr=>?_);obtain⟨rfl,s9⟩:=hr;replace s9:=sB s9;refine⟨_,rfl,?_⟩;refine zk hb2.u rfl rfl o8 rfl zQ (fun w12 hq s10=>?_);replace hb2:=hq;refine zn9 ?_;refine x7 (.inl rfl) rfl (zy U36 rfl rfl hb2.range0 o8) ?_;exact⟨qK (hR'.trans (qQ (c:=7) oM hty dE)),hB.u⟩
  have hsn:jX ((l.take k).map (·.name)) (l[k]'hlt).name=false:=by rw [← hmp];exact c41
  have hmp':∀ s,lkB (MW mp (l[k]'hlt).name (.int .i64 k)) s=jX ((l.take (k + 1)).map (·.name)) s:=fun s=>by
    rw [uw _ _ _ c41,Zv l hlt,List.map_append,List.map_cons,List.map_nil,X0,← hmp];simp [lkB]
  refine zn4 ?_;refine wl (yq (v:= .map _) rfl) (zn3 ?_);refine WJ (v:= .int _ _) hb20 U94 U9 rfl rfl rfl (fun w13 hq s11=>?_);replace hb20:=hq;refine vq ?_;refine wl (Bz U4 rfl rfl) (zJ (e_S ?_));refine vK rfl (fun c54=>?_) (fun c54=>?_)
  ·have hty:=ty5 l k hlt hnm hsn (mal_yes c54);refine zn3 ?_;refine zV DW (kw _ _ _) rfl (fun e' w14 hr=>?_);obtain⟨rfl,s12⟩:=hr;replace s12:=sB s12;refine⟨_,rfl,?_⟩;refine zk hb2.u rfl rfl o8 rfl zQ (fun w15 hq s13=>?_);replace hb2:=hq;refine zn9 ?_;refine x7 (.inl rfl) rfl (zy U36 rfl rfl hb2.range0 o8) ?_;exact⟨qK (hR'.trans (qQ (c:=5) oM hty dE)),hB.u⟩
  have hmal:=mal_no c54;refine Nk ?_;refine zW (rg [8,10] 60 20) (fun m g w'=>∃ (j:Nat) (last:Int),j≤(l[k]'hlt).par.length∧m=(l[k]'hlt).par.length - j∧g 60= .int .i64 j∧g 8= .int .i64 last∧w13=w'∧yW l k=j9 k last ((l[k]'hlt).par.drop j)) ((l[k]'hlt).par.length) ?_ (fun m g17 w16 hI=>?_)
  ·exact⟨0,-1,Nat.zero_le _,rfl,rfl,rfl,rfl,Cx l k hlt hnm hsn hmal⟩
  obtain⟨j,last,hj,hmj,h60,h8,rfl,hP⟩:=hI;refine zZ 60 _ h60 nu (zZ 8 _ h8 nu (zn6 ?_));refine zX rfl (fun c61=>?_) (fun c61=>?_)
  ·have hlj:j < (l[k]'hlt).par.length:=by omega
   have hmx:=hpar.1;unfold yJ at hmx;obtain⟨pb,po,rfl,hpb,hpc⟩:=hpar.at_ hlj;replace hB:=((hB.tr0 s5).tr1 s6 lo5).tr1 s11 lo20;replace hpc:=hB.cell hpb hpc;refine zn7 ?_;refine wl (qV (v:= .int _ _) U3 rfl rfl hpc) (zn5 ?_);replace hb2:=((hb2.tr0 s5).tr1 s6 oM).tr1 s11 oM;refine xJ [64,65,66,67,68,69,70] 70 (.bool (decide ((l[k]'hlt).par[j] < 0∨(k:Int)≤(l[k]'hlt).par[j]))) nu ?_ (fun gq=>?_)
   ·refine zn4 ?_;refine zw 66 rfl (fun g66=>?_) (fun g66=>?_)
    ·refine zn4 ?_;refine zJ (e_R ⟨rfl,agA,?_⟩);exact clA
    refine zn7 ?_;refine zJ (e_R ⟨rfl,agA,?_⟩);exact clA
   refine e_S ?_;refine zX rfl (fun c70=>?_) (fun c70=>?_)
   ·have hty:yW l k=3:=by rw [hP,List.drop_eq_getElem_cons hlj];simp only [j9,if_pos c70]
    refine zn3 ?_;refine zV DW (kw _ _ _) rfl (fun e' w17 hr=>?_);obtain⟨rfl,s14⟩:=hr;replace s14:=sB s14;refine⟨_,rfl,?_⟩;refine zk hb2.u rfl rfl o8 rfl zQ (fun w18 hq s15=>?_);replace hb2:=hq;refine ky ?_;refine x7 (.inl rfl) rfl (zy U36 rfl rfl hb2.range0 o8) ?_;exact⟨qK (hR'.trans (qQ (c:=3) oM hty dE)),hB.u⟩
   refine yv ?_;refine zX rfl (fun c75=>?_) (fun c75=>?_)
   ·have hty:yW l k=13:=by rw [hP,List.drop_eq_getElem_cons hlj];simp only [j9,if_neg c70,if_pos c75]
    refine zn3 ?_;refine zV DW (kw _ _ _) rfl (fun e' w19 hr=>?_);obtain⟨rfl,s16⟩:=hr;replace s16:=sB s16;refine⟨_,rfl,?_⟩;refine zk hb2.u rfl rfl o8 rfl zQ (fun w20 hq s17=>?_);replace hb2:=hq;refine ky ?_;refine x7 (.inl rfl) rfl (zy U36 rfl rfl hb2.range0 o8) ?_;exact⟨qK (hR'.trans (qQ (c:=13) oM hty dE)),hB.u⟩
   have hP':yW l k=j9 k (l[k]'hlt).par[j] ((l[k]'hlt).par.drop (j + 1)):=by rw [hP,List.drop_eq_getElem_cons hlj];simp only [j9,if_neg c70,if_neg c75]
   refine yZ ?_;refine xv ((l[k]'hlt).par.length - (j + 1)) oM agA ?_;exact⟨j + 1,(l[k]'hlt).par[j],by omega,rfl,rfl,rfl,rfl,hP'⟩
  have hty:=Lib.hid (show yW l k=0 by rw [hP,List.drop_eq_nil_of_le oM];rfl);refine yv ?_;refine xv (l.length - (k + 1)) oM agA ?_;exact⟨k + 1,MW mp (l[k]'hlt).name (.int .i64 k),by omega,rfl,rfl,hB.u,hb2.u,hb20,hmp',hR'.trans (yw hlt hty.out)⟩
 refine zn7 ?_;refine wl (uW (vs:=#[]) (cs:=#[.int .i64 0,.int .i64 0]) (by simp) kR) ?_;refine zk hb2 rfl rfl o8 rfl zQ (fun w21 hq s18=>?_);replace hb2:=hq;refine zn3 ?_;refine x7 (.inl rfl) rfl (zy U36 rfl rfl hb2.range0 o8) ?_;exact⟨qK (hR'.trans (vk oM)),hB.u⟩
end Go.Proofs.YtbcpgfnfiekbiaaGreatDoor
namespace Go.Proofs.YtbcpgfnfiekbiaaGreatDoor
open Go.RowKit
theorem seen_yes {l:List Ty} {j k:Nat} {s:ByteArray} (hk:k < l.length) (hj:j < k) (h:(l[j]'oM).name=s):jX ((l.take k).map (·.name)) s=true:=by
  simp only [jX,List.any_eq_true,decide_eq_true_eq,List.mem_map];refine⟨_,⟨l[j]'oM,?_,rfl⟩,h⟩;rw [List.mem_take_iff_getElem];exact⟨j,by omega,rfl⟩
theorem fn30:zK Tryz.prog 30=true:=by kernel_rfl
theorem V9 (s:ByteArray) (w:World):Calls Tryz.prog 30 #[.string s] w fun e w'=>e= .returned (.bool (xj s))∧Bel w w':=by
 obtain⟨c0,e0⟩:=LK s;have hN:=Lib.hid (M3 s c0 e0);refine enT Tryz.func30 Tryz.ntmps30 rfl rfl fun hB=>?_;refine zn7 ?_;refine xJ (rg [] 7 8) 14 (.bool (decide (s.size < 1∨30 < s.size))) nu ?_ (fun gq=>?_)
 ·refine zn5 ?_;refine zw 10 rfl (fun g10=>?_) (fun g10=>?_)
  ·refine zn4 ?_;refine zJ (e_R ⟨rfl,agA,?_⟩);exact clA
  refine zn7 ?_;refine zJ (e_R ⟨rfl,agA,?_⟩);exact clA
 refine e_S ?_;refine zX rfl (fun c14=>?_) (fun c14=>?_)
 ·refine zn8 ?_;exact⟨vZ (by rw [hN.out];exact decide_eq_false (fun h=>by omega)),hB⟩
 refine zn6 ?_;refine wl_cvB U9 Tryz.underlying123 U5 rfl (fun b16 c16 w1 hc16 s1 hr=>?_);refine zn5 ?_;refine zW (rg (rg [] 2 5) 18 36) (fun m g w'=>∃ k:Nat,k≤s.size∧m=s.size - k∧g 18= .int .i64 k∧w1=w'∧(0 < k→97≤c0∧c0≤122)∧(∀ j (hj:j < s.size),j < k→oX (s[j]'hj)=true)) (s.size) ?_ (fun m g4 w2 hI=>?_)
 ·exact⟨0,Nat.zero_le _,rfl,rfl,rfl,fun h=>by omega,fun j hj h=>by omega⟩
 obtain⟨k,hk,hm,h18,rfl,hz,hall⟩:=hI;refine zZ 18 _ h18 nu (zn6 ?_);refine zX rfl (fun c19=>?_) (fun c19=>?_)
 ·refine zn8 ?_;refine wl (qV (v:= .int _ _) U5 rfl rfl (hc16 k oM)) (zn5 ?_);refine xJ [5,23,24,25,26,27,28] 5 (.bool (decide (97≤(s[k]'oM).toNat∧(s[k]'oM).toNat≤122))) nu ?_ (fun gq=>?_)
  ·refine zn4 ?_;refine zw 25 rfl (fun g25=>?_) (fun g25=>?_)
   ·refine zn6 ?_;refine zJ (e_R ⟨rfl,agA,?_⟩);exact clA
   refine zn4 ?_;refine zJ (e_R ⟨rfl,agA,?_⟩);exact clA
  refine e_S (yj ?_);refine xJ (rg [6] 29 14) 6 (.bool (decide ((48≤(s[k]'oM).toNat∧(s[k]'oM).toNat≤57)∨(s[k]'oM).toNat=95∨(s[k]'oM).toNat=45))) nu ?_ (fun gq=>?_)
  ·refine zn4 ?_;refine zw 31 rfl (fun g31=>?_) (fun g31=>?_)
   ·refine zn6 ?_;refine zw 35 rfl (fun g35=>?_) (fun g35=>?_)
    ·refine zn8 ?_;refine zJ (e_R ⟨rfl,agA,?_⟩);exact clA
    refine zn6 ?_;refine zw 39 rfl (fun g39=>?_) (fun g39=>?_)
    ·refine zn4 ?_;refine zJ (e_R ⟨rfl,agA,?_⟩);exact clA
    refine zn6 ?_;refine zJ (e_R ⟨rfl,agA,?_⟩);exact clA
   refine yv ?_;refine zw 39 rfl (fun g39=>?_) (fun g39=>?_)
   ·refine zn4 ?_;refine zJ (e_R ⟨rfl,agA,?_⟩);exact clA
   refine zn6 ?_;refine zJ (e_R ⟨rfl,agA,?_⟩);exact clA
  refine e_S (yj ?_);refine xJ (rg [] 43 10) 52 (.bool (decide (¬(97≤(s[k]'oM).toNat∧(s[k]'oM).toNat≤122)∧(¬((48≤(s[k]'oM).toNat∧(s[k]'oM).toNat≤57)∨(s[k]'oM).toNat=95∨(s[k]'oM).toNat=45)∨k=0)))) nu ?_ (fun gq=>?_)
  ·refine zn4 ?_;refine zw 45 rfl (fun g45=>?_) (fun g45=>?_)
   ·refine zn6 ?_;refine zw 48 rfl (fun g48=>?_) (fun g48=>?_)
    ·refine zn5 ?_;refine zJ (e_R ⟨rfl,agA,?_⟩);exact clA
    refine zn7 ?_;refine zJ (e_R ⟨rfl,agA,?_⟩);exact clA
   refine zn7 ?_;refine zJ (e_R ⟨rfl,agA,?_⟩);exact clA
  refine e_S ?_;refine zX rfl (fun c52=>?_) (fun c52=>?_)
  ·have hno:¬((97≤c0∧c0≤122)∧∀ j (hj:j < s.size),oX (s[j]'hj)=true):=fun h=>by
     have h1:=(gX _).1 (h.2 k oM);have h2:k=0:=by omega
     subst h2;have:=e0 oM;omega
   refine yZ ?_;replace hB:=hB.tr0 s1;exact⟨vZ (by rw [hN.out];exact decide_eq_false (fun h=>hno h.2)),hB⟩
  have hz':97≤c0∧c0≤122:=by
    by_cases e:k=0
    · subst e;have:=e0 oM;omega
    · exact hz oM
  have hall':∀ j (hj:j < s.size),j < k + 1→oX (s[j]'hj)=true:=fun j hj h=>by
    by_cases e:j=k
    · subst e;exact(gX _).2 oM
    · exact hall j hj oM
  refine zn7 ?_;refine xv (s.size - (k + 1)) oM agA ?_;exact⟨k + 1,by omega,rfl,rfl,rfl,fun _=>hz',fun j hj h=>hall' j hj h⟩
 refine yZ ?_;replace hB:=hB.tr0 s1;exact⟨vZ (by rw [hN.out];exact decide_eq_true ⟨by omega,hz oM,fun j hj=>hall j hj oM⟩),hB⟩
theorem E0 (A:Option Addr) (c:Nat) (l:List Ty) (w:World) (hc:l.length≤c) (hT:TypesIn w A l):Calls Tryz.prog 61 #[.slice A l.length c] w fun e w'=>e= .returned (flV (xx l))∧Bel w w':=by
 refine enT Tryz.func61 Tryz.ntmps61 rfl rfl fun hB=>?_;refine zn2 ?_;refine qq (cs:=#[.int .i64 0,.int .i64 0]) ze36 rfl (fun b2 w1 hb2 s1 hr=>?_);have lo2:=nLT (Bel.size hB) hr;refine zn4 ?_;replace hB:=hB.tr0 s1;refine xJ (rg [] 9 8) 16 (.bool (decide (l.length=0∨60 < l.length))) nu ?_ (fun gq=>?_)
 ·refine zn5 ?_;refine zw 12 rfl (fun g12=>?_) (fun g12=>?_)
  ·refine zn4 ?_;refine zJ (e_R ⟨rfl,agA,?_⟩);exact clA
  refine zn7 ?_;refine zJ (e_R ⟨rfl,agA,?_⟩);exact clA
 refine e_S ?_;refine zX rfl (fun c16=>?_) (fun c16=>?_)
 ·refine zn2 ?_;refine wl (xY (v0:= .int _ _) (v1:= .int _ _) (fun v0 v1=>#[v0,v1]) rfl rfl kR) ?_;refine zk hb2 rfl rfl o8 rfl zQ (fun w2 hq s2=>?_);replace hb2:=hq;refine zn4 ?_;refine x7 (.inl rfl) rfl (zy U36 rfl rfl hb2.range0 o8) ?_;replace hB:=hB.tr1 s2 lo2;exact⟨qK (by simp only [xx,if_pos c16]),hB⟩
 have hR:=Lib.hid (show xx l=x8 (yW l) 0 (l.length - 0) by simp only [xx,if_neg c16,Nat.sub_zero]);refine vq ?_;refine zW (rg [3,4,6,7,8] 20 69) (fun m g w'=>∃ (k:Nat),k≤l.length∧m=l.length - k∧g 20= .int .i64 k∧Bel w w'∧Blk w' b2 36 #[.int .i64 0,.int .i64 0]∧xx l=x8 (yW l) k (l.length - k)) (l.length) ?_ (fun m g4 w3 hI=>?_)
 ·exact⟨0,Nat.zero_le _,rfl,rfl,hB,hb2,hR.out⟩
 obtain⟨k,hk,hm,h20,hB,hb2,hR'⟩:=hI;refine zZ 20 _ h20 nu (zn6 ?_);refine zX rfl (fun c21=>?_) (fun c21=>?_)
 ·have hlt:k < l.length:=by omega
  obtain⟨tb,to,A',cp,rfl,htb,htr,hpar⟩:=hT.at_ hB hlt;refine zn8 ?_;refine wl (zY T1 rfl rfl htr Ex) ?_;refine qq (cs:=#[.string ⟨#[]⟩,.slice none 0 0]) ze110 rfl (fun b4 w4 hb4 s3 hr=>?_);have:=nLL hb2.lt hr;have lo4:=nLT (Bel.size hB) hr;refine waI rfl ?_;refine zk hb4 rfl rfl Ex rfl zQ (fun w5 hq s4=>?_);replace hb4:=hq;refine zn7 ?_;refine zV fn30 (V9 _ _) rfl (fun e' w6 hr=>?_);obtain⟨rfl,s5⟩:=hr;replace s5:=sB s5;refine⟨_,rfl,?_⟩;refine zn3 ?_;refine vK rfl (fun c28=>?_) (fun c28=>?_)
  ·have hty:=ty10 l k hlt (by simpa using c28);refine zn3 ?_;refine wl (xY (v0:= .int _ _) (v1:= .int _ _) (fun v0 v1=>#[v0,v1]) rfl rfl kR) ?_;refine zk hb2.u rfl rfl o8 rfl zQ (fun w7 hq s6=>?_);replace hb2:=hq;refine zn9 ?_;refine x7 (.inl rfl) rfl (zy U36 rfl rfl hb2.range0 o8) ?_;exact⟨qK (hR'.trans (qQ (c:=10) oM hty dE)),hB.u⟩
  have hnm:xj (l[k]'hlt).name=true:=by simpa using c28
  refine zn7 ?_;refine wl (RW (h:=k) U22 Ex rfl rfl oM) (zn5 ?_);refine zW (rg [6] 35 12) (fun m g w'=>∃ (j:Nat),j≤k∧m=k - j∧g 35= .int .i64 j∧Bel w w'∧Blk w' b2 36 #[.int .i64 0,.int .i64 0]∧Blk w' b4 110 #[.string (l[k]'hlt).name,.slice A' (l[k]'hlt).par.length cp]∧jX ((l.take j).map (·.name)) (l[k]'hlt).name=false) (k) ?_ (fun m g9 w8 hI=>?_)
  ·exact⟨0,Nat.zero_le _,rfl,rfl,hB.u,hb2.u,hb4.u,rfl⟩
  obtain⟨j,hj,hmj,h35,hB,hb2,hb4,hse⟩:=hI;refine zZ 35 _ h35 nu (zn6 ?_);refine zX rfl (fun c36=>?_) (fun c36=>?_)
  ·have hjt:j < l.length:=by omega
   obtain⟨ub,uo,B',cq,he,hub,hur,_⟩:=hT.at_ hB hjt;cases he;refine zn7 ?_;refine wl (zY T1 rfl rfl hur Ex) ?_;refine xV (cs:=#[.string ⟨#[]⟩,.slice none 0 0]) ze110 rfl (fun _=>rfl) (fun _=>rfl) Ex rfl zQ (fun b6 w10 hb6 s7 hr=>?_);refine vq ?_;refine zX rfl (fun c43=>?_) (fun c43=>?_)
   ·have hty:=ty7 l k hlt hnm (seen_yes hlt oM c43);refine zn3 ?_;refine wl (xY (v0:= .int _ _) (v1:= .int _ _) (fun v0 v1=>#[v0,v1]) rfl rfl kR) ?_;refine zk hb2.u rfl rfl o8 rfl zQ (fun w11 hq s8=>?_);replace hb2:=hq;refine ky ?_;refine x7 (.inl rfl) rfl (zy U36 rfl rfl hb2.range0 o8) ?_;exact⟨qK (hR'.trans (qQ (c:=7) oM hty dE)),hB.u⟩
   have hse':jX ((l.take (j + 1)).map (·.name)) (l[k]'hlt).name=false:=by rw [Zv l hjt,List.map_append,List.map_cons,List.map_nil,X0,hse];simp [c43]
   refine zn7 ?_;refine xv (k - (j + 1)) oM agA ?_;exact⟨j + 1,by omega,rfl,rfl,hB.u,hb2.u,hb4.u,hse'⟩
  have hsn:jX ((l.take k).map (·.name)) (l[k]'hlt).name=false:=by
    have e:k=j:=by omega
    subst e;exact hse
  refine ZX ?_;refine wl (Bz U4 rfl rfl) (zJ (e_S ?_));refine vK rfl (fun c53=>?_) (fun c53=>?_)
  ·have hty:=ty5 l k hlt hnm hsn (mal_yes c53);refine zn3 ?_;refine wl (xY (v0:= .int _ _) (v1:= .int _ _) (fun v0 v1=>#[v0,v1]) rfl rfl kR) ?_;refine zk hb2 rfl rfl o8 rfl zQ (fun w12 hq s9=>?_);replace hb2:=hq;refine zn9 ?_;refine x7 (.inl rfl) rfl (zy U36 rfl rfl hb2.range0 o8) ?_;exact⟨qK (hR'.trans (qQ (c:=5) oM hty dE)),hB.u⟩
  have hmal:=mal_no c53;refine vq ?_;refine zW (rg [7,8] 59 29) (fun m g w'=>∃ (j:Nat) (last:Int),j≤(l[k]'hlt).par.length∧m=(l[k]'hlt).par.length - j∧g 59= .int .i64 j∧w8=w'∧(j=0→last= -1)∧(∀ h:0 < j∧j - 1 < (l[k]'hlt).par.length,last=((l[k]'hlt).par[j - 1]'h.2))∧yW l k=j9 k last ((l[k]'hlt).par.drop j)) ((l[k]'hlt).par.length) ?_ (fun m g17 w13 hI=>?_)
  ·exact⟨0,-1,Nat.zero_le _,rfl,rfl,rfl,fun _=>rfl,fun h=>by omega,Cx l k hlt hnm hsn hmal⟩
  obtain⟨j,last,hj,hmj,h59,rfl,hl0,hl1,hP⟩:=hI;refine zZ 59 _ h59 nu (zn6 ?_);refine zX rfl (fun c60=>?_) (fun c60=>?_)
  ·have hlj:j < (l[k]'hlt).par.length:=by omega
   have hmx:=hpar.1;unfold yJ at hmx;have hpar':=hpar;obtain⟨pb,po,rfl,hpb,hpc⟩:=hpar.at_ hlj;replace hpc:=hB.cell hpb hpc;have hpd:∀ h:j - 1 < (l[k]'hlt).par.length,w8.cell? ⟨pb,po + (j - 1) * 1,none⟩=some (.int .i64 ((l[k]'hlt).par[j - 1]'h)):=fun h=>by
     obtain⟨pb2,po2,he,hpb2,hpc2⟩:=hpar'.at_ h;cases he;exact hB.cell hpb2 hpc2
   refine zn8 ?_;refine wl (qV (v:= .int _ _) U3 rfl rfl hpc) (zn6 ?_);refine xJ [64,65,66,67,68,69,70] 70 (.bool (decide ((l[k]'hlt).par[j] < 0∨(k:Int)≤(l[k]'hlt).par[j]))) nu ?_ (fun gq=>?_)
   ·refine zn4 ?_;refine zw 66 rfl (fun g66=>?_) (fun g66=>?_)
    ·refine zn4 ?_;refine zJ (e_R ⟨rfl,agA,?_⟩);exact clA
    refine zn7 ?_;refine zJ (e_R ⟨rfl,agA,?_⟩);exact clA
   refine e_S ?_;refine zX rfl (fun c70=>?_) (fun c70=>?_)
   ·have hty:yW l k=3:=by rw [hP,List.drop_eq_getElem_cons hlj];simp only [j9,if_pos c70]
    refine zn3 ?_;refine wl (xY (v0:= .int _ _) (v1:= .int _ _) (fun v0 v1=>#[v0,v1]) rfl rfl kR) ?_;refine zk hb2 rfl rfl o8 rfl zQ (fun w14 hq s10=>?_);replace hb2:=hq;refine ky ?_;refine x7 (.inl rfl) rfl (zy U36 rfl rfl hb2.range0 o8) ?_;exact⟨qK (hR'.trans (qQ (c:=3) oM hty dE)),hB.u⟩
   refine zn3 ?_;refine xJ (rg [] 73 12) 84 (.bool (decide (0 < j∧(l[k]'hlt).par[j]≤((l[k]'hlt).par[j - 1]'oM)))) nu ?_ (fun gq=>?_)
   ·refine zn4 ?_;refine zw 75 rfl (fun g75=>?_) (fun g75=>?_)
    ·refine zn9 ?_;refine wl (j8 (c:=((j - 1:Nat):Int)) rfl rfl oM oM) (zn1 ?_);refine wl (xk (i:=j - 1) U66 sz3 rfl rfl oM rfl) (zn1 ?_);refine wl (qV (v:= .int _ _) U3 rfl rfl (hpd oM)) (zn3 ?_);refine zJ (e_R ⟨rfl,agA,?_⟩);exact clA
    refine zn9 ?_;refine zJ (e_R ⟨rfl,agA,?_⟩);exact clA
   refine e_S ?_;refine zX rfl (fun c84=>?_) (fun c84=>?_)
   ·have hty:yW l k=13:=by rw [hP,List.drop_eq_getElem_cons hlj,hl1 ⟨c84.1,by omega⟩];simp only [j9,if_neg c70,if_pos c84.2]
    refine zn3 ?_;refine wl (xY (v0:= .int _ _) (v1:= .int _ _) (fun v0 v1=>#[v0,v1]) rfl rfl kR) ?_;refine zk hb2 rfl rfl o8 rfl zQ (fun w15 hq s11=>?_);replace hb2:=hq;refine yZ ?_;refine x7 (.inl rfl) rfl (zy U36 rfl rfl hb2.range0 o8) ?_;exact⟨qK (hR'.trans (qQ (c:=13) oM hty dE)),hB.u⟩
   have hP':yW l k=j9 k (l[k]'hlt).par[j] ((l[k]'hlt).par.drop (j + 1)):=by
     have hnl:¬(l[k]'hlt).par[j]≤last:=fun h=>by
       by_cases e:j=0
       · have:=hl0 e;omega
       · have:=hl1 ⟨by omega,by omega⟩;exact c84 ⟨by omega,by omega⟩
     rw [hP,List.drop_eq_getElem_cons hlj];simp only [j9,if_neg c70,if_neg hnl]
   refine zn7 ?_;refine xv ((l[k]'hlt).par.length - (j + 1)) oM agA ?_;exact⟨j + 1,(l[k]'hlt).par[j],by omega,rfl,rfl,rfl,fun h=>by omega,fun h=>rfl,hP'⟩
  have hty:=Lib.hid (show yW l k=0 by rw [hP,List.drop_eq_nil_of_le oM];rfl);refine yv ?_;refine xv (l.length - (k + 1)) oM agA ?_;exact⟨k + 1,by omega,rfl,rfl,hB,hb2,hR'.trans (yw hlt hty.out)⟩
 refine zn7 ?_;refine wl (uW (vs:=#[]) (cs:=#[.int .i64 0,.int .i64 0]) (by simp) kR) ?_;refine zk hb2 rfl rfl o8 rfl zQ (fun w16 hq s12=>?_);replace hb2:=hq;refine zn3 ?_;refine x7 (.inl rfl) rfl (zy U36 rfl rfl hb2.range0 o8) ?_;exact⟨qK (hR'.trans (vk oM)),hB.u⟩
end Go.Proofs.YtbcpgfnfiekbiaaGreatDoor
namespace Go.Proofs.YtbcpgfnfiekbiaaGreatDoor
open Go.RowKit
def MY (l:List Ty) (i:Nat):List Nat:=match l[i]? with
  | none=>[]
  | some t=>t.par.map Int.toNat
def TW (l:List Ty):Nat→Nat→Nat→Bool
  | 0,a,b=>decide (a=b)
  | f + 1,a,b=>decide (a=b) || (MY l a).any (fun p=>TW l f p b)
def sub (l:List Ty) (a b:Nat):Bool:=TW l a a b
def VT (l:List Ty):Prop:=∀ i (h:i < l.length),∀ p ∈ (l[i]).par,0≤p∧p < (i:Int)
theorem VT.par {l:List Ty} (h:VT l) {a p:Nat} (hp:p ∈ MY l a):p < a:=by
  unfold MY at hp;by_cases ha:a < l.length
  · rw [List.getElem?_eq_getElem ha] at hp
    simp only [List.mem_map] at hp;obtain⟨q,hq,rfl⟩:=hp;have:=h a ha q hq;omega
  · rw [List.getElem?_eq_none oM] at hp;cases hp
theorem OQ {α:Type} {l:List α} {p q:α→Bool} (h:∀ x ∈ l,p x=q x):l.any p=l.any q:=by
  induction l with
  | nil=>rfl
  | cons a r ih=>
    simp only [List.any_cons];rw [h a (by simp),ih (fun x hx=>h x (by simp [hx]))]
theorem subF_fuel {l:List Ty} (hv:VT l) (b:Nat):∀ (n a:Nat),a≤n→∀ f,a≤f→TW l f a b=TW l a a b:=by
  intro n
  induction n with
  | zero=>
    intro a ha f hf;have:a=0:=by omega
    subst this;have hp:MY l 0= []:=by
      cases h:MY l 0 with
      | nil=>rfl
      | cons p r=>exact absurd (hv.par (a:=0) (p:=p) (by rw [h];simp)) oM
    cases f <;> simp [TW,hp]
  | succ n ih=>
    intro a ha f hf;cases a with
    | zero=>exact ih 0 oM f oM
    | succ a=>
      cases f with
      | zero=>omega
      | succ f=>
        simp only [TW]
        congr 1
        apply OQ
        intro p hp;have:=hv.par hp;rw [ih p oM f oM,ih p oM a oM]
theorem Hq {l:List Ty} (hv:VT l) (a b:Nat):sub l a b=(decide (a=b) || (MY l a).any (fun p=>sub l p b)):=by
  unfold sub;cases a with
  | zero=>
    have hp:MY l 0= []:=by
      cases h:MY l 0 with
      | nil=>rfl
      | cons p r=>exact absurd (hv.par (a:=0) (p:=p) (by rw [h];simp)) oM
    simp [TW,hp]
  | succ a=>
    conv=>lhs;unfold TW
    congr 1
    apply OQ
    intro p hp;have:=hv.par hp;rw [subF_fuel hv b (a + 1) p oM a oM]
theorem Y4 {l:List Ty} (hv:VT l) (a:Nat):sub l a a=true:=by rw [Hq hv];simp
theorem X6 {l:List Ty} (hv:VT l) (a b:Nat):sub l a b=true ↔ a=b∨∃ p ∈ MY l a,sub l p b=true:=by
  rw [Hq hv];simp
theorem sub_le {l:List Ty} (hv:VT l):∀ (n a b:Nat),a≤n→sub l a b=true→b≤a:=by
  intro n
  induction n with
  | zero=>
    intro a b ha h;rcases(X6 hv a b).1 h with rfl | ⟨p,hp,_⟩
    · omega
    · have:=hv.par hp;omega
  | succ n ih=>
    intro a b ha h;rcases(X6 hv a b).1 h with rfl | ⟨p,hp,hs⟩
    · omega
    · have:=hv.par hp
      have:=ih p b oM hs;omega
theorem JJ {l:List Ty} (hv:VT l) {a b:Nat} (h:sub l a b=true):b≤a:=sub_le hv a a b (Nat.le_refl _) h
theorem sub_trans {l:List Ty} (hv:VT l) (c:Nat):∀ (n a b:Nat),a≤n→sub l a b=true→sub l b c=true→sub l a c=true:=by
  intro n
  induction n with
  | zero=>
    intro a b ha h h2;rcases(X6 hv a b).1 h with rfl | ⟨p,hp,_⟩
    · exact h2
    · have:=hv.par hp;omega
  | succ n ih=>
    intro a b ha h h2;rcases(X6 hv a b).1 h with rfl | ⟨p,hp,hs⟩
    · exact h2
    · have:=hv.par hp
      exact(X6 hv a c).2 (.inr ⟨p,hp,ih p b oM hs h2⟩)
theorem Iy {l:List Ty} (hv:VT l) {a b c:Nat} (h:sub l a b=true) (h2:sub l b c=true):sub l a c=true:=sub_trans hv c a a b (Nat.le_refl _) h h2
theorem sub_par {l:List Ty} (hv:VT l) {i:Nat} (hi:i < l.length) {p:Int} (hp:p ∈ (l[i]).par):sub l i p.toNat=true:=by
  refine(X6 hv i _).2 (.inr ⟨p.toNat,?_,Y4 hv _⟩);simp only [MY,List.getElem?_eq_getElem hi,List.mem_map];exact⟨p,hp,rfl⟩
def IY (ps:List Int) (x:Nat):Bool:=ps.any (fun p=>decide (p=(x:Int)))
theorem F4 (ps:List Int) (x:Nat):IY ps x=true ↔ (x:Int) ∈ ps:=by simp [IY]
theorem parB_snoc (ps:List Int) {j:Nat} (hj:j < ps.length) (x:Nat):IY (ps.take (j + 1)) x=(IY (ps.take j) x || decide (ps[j]=(x:Int))):=by
  simp only [IY];rw [List.take_succ_eq_append_getElem hj,List.any_append];simp
structure Marks (l:List Ty) (a i:Nat) (mk:Nat→Bool):Prop where
  ok:∀ j,mk j=true→sub l a j=true
  all:∀ c,c≤i→sub l a c=true→∃ j,j≤i∧mk j=true∧sub l j c=true
theorem Marks.start {l:List Ty} (hv:VT l) (a:Nat):Marks l a a (fun j=>if j=a then true else false):=
  ⟨fun j h=>by
    by_cases e:j=a
    · subst e;exact Y4 hv _
    · simp [e] at h,fun c _ h=>⟨a,Nat.le_refl _,by simp,h⟩⟩
theorem Marks.yes {l:List Ty} (hv:VT l) {a i:Nat} {mk:Nat→Bool} (h:Marks l a i mk) (hi:i < l.length) (hm:mk i=true):Marks l a (i - 1) (fun x=>mk x || IY (l[i]).par x):=
  ⟨fun j hj=>by
    simp only [Bool.or_eq_true] at hj
    rcases hj with hj | hj
    · exact h.ok j hj
    · have:=sub_par hv hi ((F4 _ _).1 hj)
      simp only [Int.toNat_natCast] at this
      exact Iy hv (h.ok i hm) this,fun c hc hs=>by
    by_cases hi0:i=0
    · subst hi0
      obtain⟨j,hj,h1,h2⟩:=h.all c oM hs
      exact⟨j,by omega,by simp [h1],h2⟩
    obtain⟨j,hj,h1,h2⟩:=h.all c oM hs
    by_cases e:j=i
    · subst e
      rcases(X6 hv j c).1 h2 with rfl | ⟨p,hp,hps⟩
      · omega
      · have hlt:=hv.par hp
        refine⟨p,by omega,?_,hps⟩
        simp only [MY,List.getElem?_eq_getElem hi,List.mem_map] at hp
        obtain⟨q,hq,rfl⟩:=hp
        have:=hv j hi q hq
        have hq':((q.toNat:Nat):Int) ∈ (l[j]).par:=by rw [Int.toNat_of_nonneg this.1];exact hq
        simp only [Bool.or_eq_true]
        exact .inr ((F4 _ _).2 hq')
    · exact⟨j,by omega,by simp [h1],h2⟩⟩
theorem Marks.no {l:List Ty} {a i:Nat} {mk:Nat→Bool} (h:Marks l a i mk) (hm:mk i=false):Marks l a (i - 1) mk:=
  ⟨h.ok,fun c hc hs=>by
    obtain⟨j,hj,h1,h2⟩:=h.all c oM hs
    by_cases e:j=i
    · subst e;rw [hm] at h1;cases h1
    · exact⟨j,by omega,h1,h2⟩⟩
theorem Marks.end_ {l:List Ty} (hv:VT l) {a b i:Nat} {mk:Nat→Bool} (h:Marks l a i mk) (hi:i≤b) (hb:b≤a→b≤i):mk b=sub l a b:=by
  cases hs:sub l a b
  · cases hm:mk b
    · rfl
    · rw [h.ok b hm] at hs;cases hs
  · have hle:=JJ hv hs
    have hib:i=b:=Nat.le_antisymm hi (hb hle);subst hib;obtain⟨j,hj,h1,h2⟩:=h.all i (Nat.le_refl _) hs;have:=JJ hv h2;have:j=i:=by omega
    subst this;exact h1
theorem in4:(Tryz.prog.info? 4).map (fun i=>(i.zero,i.size,i.bytes))=some (some (.bool false),1,1):=by kernel_rfl
theorem sz4:(Tryz.prog.info? 4).map (·.size)=some 1:=by kernel_rfl
theorem Cy (A:Option Addr) (c:Nat) (l:List Ty) (a b:Nat) (w:World) (hT:TypesIn w A l) (hv:VT l) (h60:l.length≤60) (ha:a < l.length) (hb:b < l.length):Calls Tryz.prog 66 #[.slice A l.length c,.int .i64 a,.int .i64 b] w fun e w'=>e= .returned (.bool (sub l a b))∧Bel w w':=by
 have hmx:=hT.1;unfold yJ at hmx;refine enT Tryz.func66 Tryz.ntmps66 rfl rfl fun hB=>?_;refine zn9 ?_;refine gv (m:=l.length) QX in4 rfl rfl rfl oM hmx (fun b13 w1 hb13 s1 hr=>?_);have lo13:=nLT (Bel.size hB) hr;refine zn8 ?_;refine xz (v:= .bool _) hb13 rfl rfl sz4 (by rw [row_size];omega) rfl jQ (fun w2 hq s2=>?_);replace hb13:=hq;refine zn4 ?_;have hb13':Blk w2 b13 4 (row l.length (fun j=> .bool (if j=a then true else false))):=by
   rw [show (row l.length (fun j=>Value.bool (if j=a then true else false)))=row l.length (fun j=>if j=a then Value.bool true else Value.bool false) from yz (fun j _=>by split <;> rfl)];exact hb13
 refine zn6 ?_;refine zW (rg [8,10] 18 23) (fun m g w'=>∃ (i:Nat) (mk:Nat→Bool),i≤a∧m=i∧g 8= .int .i64 i∧(b≤a→b≤i)∧Bel w w'∧Blk w' b13 4 (row l.length (fun j=> .bool (mk j)))∧Marks l a i mk) (a) ?_ (fun m g4 w3 hI=>?_)
 ·exact⟨a,_,Nat.le_refl _,rfl,rfl,fun h=>h,hB.u,hb13',Marks.start hv a⟩
 obtain⟨i,mk,hi,hm,h8,hbi,hB,hb13,hM⟩:=hI;refine zZ 8 _ h8 nu (zn8 ?_);refine zX rfl (fun c20=>?_) (fun c20=>?_)
 ·refine zn9 ?_;refine wl (qV (v:= .bool _) U4 rfl rfl (hb13.cell (yk oM))) (zJ (e_S ?_));refine vK rfl (fun c26=>?_) (fun c26=>?_)
  ·have hil:i < l.length:=by omega
   obtain⟨tb,to,A',cp,rfl,htb,htr,hpar⟩:=hT.at_ hB hil;have hpx:=hpar.1;unfold yJ at hpx;refine zn6 ?_;refine wl (qV (v:= .slice _ _ _) U66 rfl rfl (htr 1 _ rfl)) (zn5 ?_);refine zW (rg [10] 33 8) (fun m g w'=>∃ (j:Nat),j≤(l[i]'hil).par.length∧m=(l[i]'hil).par.length - j∧g 33= .int .i64 j∧Bel w w'∧Blk w' b13 4 (row l.length (fun x=> .bool (mk x || IY ((l[i]'hil).par.take j) x)))) ((l[i]'hil).par.length) ?_ (fun m g8 w4 hI=>?_)
   ·refine⟨0,Nat.zero_le _,rfl,rfl,hB,?_⟩;rw [show (row l.length (fun x=>Value.bool (mk x || IY ((l[i]'hil).par.take 0) x)))=row l.length (fun j=> .bool (mk j)) from yz (fun x _=>by simp [IY])];exact hb13
   obtain⟨j,hj,hmj,h33,hB,hb13⟩:=hI;refine zZ 33 _ h33 nu (zn6 ?_);refine zX rfl (fun c34=>?_) (fun c34=>?_)
   ·have hlj:j < (l[i]'hil).par.length:=by omega
    obtain⟨pb,po,rfl,hpb,hpc⟩:=hpar.at_ hlj;replace hpc:=hB.cell hpb hpc;have hpr:=hv i hil _ (List.getElem_mem hlj);refine zn7 ?_;refine wl (qV (v:= .int _ _) U3 rfl rfl hpc) (zn6 ?_);refine wl (xk (i:=((l[i]'hil).par[j]).toNat) QX sz4 rfl (show ev _ _ _=_ from congrArg (Value.int .i64) (Int.toNat_of_nonneg hpr.1).symm) oM rfl) ?_;refine xz (v:= .bool _) hb13 rfl rfl sz4 (by rw [row_size];omega) rfl jQ (fun w5 hq s3=>?_);replace hb13:=hq;refine zn7 ?_;refine xv ((l[i]'hil).par.length - (j + 1)) oM agA ?_;refine⟨j + 1,by omega,rfl,rfl,hB.u,?_⟩
    rw [show (row l.length (fun x=>Value.bool (mk x || IY ((l[i]'hil).par.take (j + 1)) x)))=row l.length (fun x=>if x=((l[i]'hil).par[j]).toNat then Value.bool true else .bool (mk x || IY ((l[i]'hil).par.take j) x)) from yz (fun x _=>by
      rw [parB_snoc _ hlj];by_cases e:x=((l[i]'hil).par[j]).toNat
      · rw [if_pos e];have:(l[i]'hil).par[j]=(x:Int):=by omega
        simp [this]
      · rw [if_neg e];have:¬(l[i]'hil).par[j]=(x:Int):=by omega
        simp [this])]
    exact hb13
   have hM':=hM.yes hv hil c26;have hjl:j=(l[i]'hil).par.length:=by omega
   rw [hjl,List.take_length] at hb13;obtain⟨mk',hmk'⟩:∃ mk':Nat→Bool,mk'=fun x=>mk x || IY (l[i]'hil).par x:=⟨_,rfl⟩
   rw [show (row l.length (fun x=>Value.bool (mk x || IY (l[i]'hil).par x)))=row l.length (fun x=> .bool (mk' x)) from yz (fun x _=>by rw [hmk'])] at hb13;rw [← hmk'] at hM';refine zn8 ?_;refine wl (j8 (c:=((i - 1:Nat):Int)) rfl rfl oM oM) (zn2 ?_);refine xv (i - 1) oM agA ?_;exact⟨i - 1,mk',by omega,rfl,rfl,fun h=>by omega,hB,hb13,hM'⟩
  have hM':=hM.no c26;obtain⟨mk',hmk'⟩:∃ mk',mk'=mk:=⟨_,rfl⟩
  rw [← hmk'] at hM' hb13;clear hmk';refine zn5 ?_;refine wl (j8 (c:=((i - 1:Nat):Int)) rfl rfl oM oM) (zn2 ?_);refine xv (i - 1) oM agA ?_;exact⟨i - 1,mk',by omega,rfl,rfl,fun h=>by omega,hB,hb13,hM'⟩
 refine yv ?_;refine wl (qV (v:= .bool _) U4 rfl rfl (hb13.cell (yk oM))) (zn5 ?_);exact⟨vZ (hM.end_ hv oM hbi).symm,hB⟩
end Go.Proofs.YtbcpgfnfiekbiaaGreatDoor
namespace Go.Proofs.YtbcpgfnfiekbiaaGreatDoor
open Go.RowKit
def jZ (p:Nat→Bool):Nat→Nat
  | 0=>0
  | n + 1=>jZ p n ||| (if p n then 2 ^ n else 0)
theorem jy (p:Nat→Bool):∀ (n j:Nat),(jZ p n).testBit j=(decide (j < n) && p j)
  | 0,j=>by simp [jZ]
  | n + 1,j=>by
    rw [jZ,Nat.testBit_or,jy p n j]
    by_cases h:j=n
    · subst h
      cases hp:p j <;> simp [Nat.testBit_two_pow_self]
    · have h1:(if p n then 2 ^ n else 0:Nat).testBit j=false:=by
        cases hp:p n
        · simp
        · simp [Ne.symm h]
      have h2:decide (j < n + 1)=decide (j < n):=by simp;omega
      rw [h1,h2];simp
theorem mask_lt (p:Nat→Bool) (n:Nat):jZ p n < 2 ^ n:=by
  apply Nat.lt_pow_two_of_testBit
  intro i hi;rw [jy];simp;omega
theorem ZZ (p:Nat→Bool) {n:Nat} (h:n≤60):jZ p n < 18446744073709551616:=by
  have h1:=mask_lt p n;have h2:2 ^ n≤2 ^ 60:=Nat.pow_le_pow_right dE h;have h3:(2:Nat) ^ 60=1152921504606846976:=by decide
  omega
theorem YW {x:Nat} {p:Nat→Bool} {n:Nat} (h:∀ j,x.testBit j=(decide (j < n) && p j)):x=jZ p n:=
  Nat.eq_of_testBit_eq (fun j=>by rw [h,jy])
theorem jw {p q:Nat→Bool} {n:Nat} (h:∀ j,j < n→p j=q j):jZ p n=jZ q n:=by
  apply YW
  intro j;rw [jy];by_cases hj:j < n
  · rw [h j hj]
  · simp [hj]
theorem mask_or (p q:Nat→Bool) (n:Nat):jZ p n ||| jZ q n=jZ (fun j=>p j || q j) n:=
  YW (fun j=>by rw [Nat.testBit_or,jy,jy];cases decide (j < n) <;> simp)
theorem mask_and (p q:Nat→Bool) (n:Nat):jZ p n &&& jZ q n=jZ (fun j=>p j && q j) n:=
  YW (fun j=>by rw [Nat.testBit_and,jy,jy];cases decide (j < n) <;> simp)
theorem Fw {k n:Nat} (h:k < n):2 ^ k=jZ (fun j=>decide (j=k)) n:=by
  apply YW
  intro j;rw [Nat.testBit_two_pow];by_cases e:k=j
  · subst e;simp [h]
  · simp [e,Ne.symm e]
theorem mask_zero (n:Nat):jZ (fun _=>false) n=0:=by
  symm;apply YW;intro j;simp
theorem mask_eq_zero {p:Nat→Bool} {n:Nat}:jZ p n=0 ↔ ∀ j,j < n→p j=false:=by
  constructor
  · intro h j hj
    have:=jy p n j;rw [h] at this
    simpa [hj] using this.symm
  · intro h
    rw [← mask_zero n];exact jw h
theorem mask_inj {p q:Nat→Bool} {n:Nat}:jZ p n=jZ q n ↔ ∀ j,j < n→p j=q j:=by
  constructor
  · intro h j hj
    have h1:=jy p n j;have h2:=jy q n j;rw [h] at h1;rw [h1] at h2
    simpa [hj] using h2
  · exact jw
theorem D1 (x j:Nat):decide (((x >>> j) &&& 1)=1)=x.testBit j:=by
  rw [Nat.testBit_eq_decide_div_mod_eq,Nat.shiftRight_eq_div_pow,Nat.and_one_is_mod]
theorem I5 {p:Nat→Bool} {n:Nat} (hn:n≤60) (h0:jZ p n≠0):Lib.ctz 64 (jZ p n) < n∧p (Lib.ctz 64 (jZ p n))=true∧∀ j,j < Lib.ctz 64 (jZ p n)→p j=false:=by
  have hlt:jZ p n < 2 ^ 64:=by
    have h1:=ZZ p hn;have h2:(2:Nat) ^ 64=18446744073709551616:=by decide
    omega
  obtain⟨m,hm,hk⟩:=Lib.ctzFrom_spec 64 (jZ p n) oM hlt;have e:Lib.ctz 64 (jZ p n)=Lib.ctzFrom 64 (jZ p n):=by simp [Lib.ctz,h0]
  rw [e]
  generalize hc:Lib.ctzFrom 64 (jZ p n)=c at *
  have hb:∀ j,(jZ p n).testBit j=(decide (c≤j) && (2 * m + 1).testBit (j - c)):=by
    intro j;rw [hm,Nat.mul_comm,Nat.testBit_mul_two_pow]
  have hcb:(jZ p n).testBit c=true:=by rw [hb];simp
  rw [jy] at hcb;simp only [Bool.and_eq_true,decide_eq_true_eq] at hcb;refine⟨hcb.1,hcb.2,fun j hj=>?_⟩;have:=hb j;rw [jy] at this;have hcj:¬c≤j:=by omega
  simp only [hcj,decide_false,Bool.false_and] at this;have hjn:j < n:=by omega
  simpa [hjn] using this
def TabIn (w:World):Prop:=2 < w.heap.size∧∀ k,k < 64→w.cell? ⟨2,0 + k * 1,none⟩=some (.int .u8 ((Lib.deBruijn64tab.getD k 0:Nat):Int))
theorem TabIn.mono {w w':World} (h:TabIn w) (hb:Bel w w'):TabIn w':=⟨nLL h.1 hb.size,fun k hk=>hb.cell h.1 (h.2 k hk)⟩
theorem ctz_eq {x c:Nat} (h0:x≠0) (hx:x < 18446744073709551616) (hc:18446744073709551616 - x=c):x &&& c=2 ^ Lib.ctz 64 x∧Lib.ctz 64 x < 64:=by
  subst hc
  exact Lib.lowest_bit 64 x h0 (by have : (2 : Nat) ^ 64 = 18446744073709551616 := by decide
                                   omega)
def tzI (x:Nat):Nat:=((x &&& (18446744073709551616 - x)) * 285870213051353865 % 18446744073709551616) >>> 58
theorem tzI_spec {x:Nat} (h0:x≠0) (hx:x < 18446744073709551616):tzI x < 64∧Lib.deBruijn64tab.getD (tzI x) 0=Lib.ctz 64 x:=by
  have h:=ctz_eq h0 hx rfl;have h2:=Lib.deBruijn64_at (Lib.ctz 64 x) h.2;unfold tzI;rw [h.1,Nat.shiftRight_eq_div_pow];exact h2
def upN (l:List Ty) (i:Nat):Nat:=jZ (fun j=>sub l i j) l.length
def Z6 (l:List Ty) (j:Nat):Nat:=jZ (fun i=>sub l i j) l.length
def rU (n:Nat) (g:Nat→Nat):Array Value:=row n (fun i=> .int .u64 (g i))
def TableIn (w:World) (l:List Ty) (bu bd:Nat):Prop:=Blk w bu 157 (rU l.length (upN l))∧Blk w bd 157 (rU l.length (Z6 l))
theorem Blk.bel {w w':World} {b:Nat} {t:TypeId} {cs:Array Value} (h:Blk w b t cs) (hb:Bel w w'):Blk w' b t cs:=(hb.block b h.lt).trans h
theorem TableIn.mono {w w':World} {l:List Ty} {bu bd:Nat} (h:TableIn w l bu bd) (hb:Bel w w'):TableIn w' l bu bd:=⟨h.1.bel hb,h.2.bel hb⟩
theorem TableIn.up {w:World} {l:List Ty} {bu bd i:Nat} (h:TableIn w l bu bd) (hi:i < l.length):w.cell? ⟨bu,0 + i * 1,none⟩=some (.int .u64 (upN l i)):=h.1.cell (yk hi)
theorem TableIn.down {w:World} {l:List Ty} {bu bd i:Nat} (h:TableIn w l bu bd) (hi:i < l.length):w.cell? ⟨bd,0 + i * 1,none⟩=some (.int .u64 (Z6 l i)):=h.2.cell (yk hi)
theorem WY {l:List Ty} (h:l.length≤60) (i:Nat):upN l i < 18446744073709551616:=ZZ _ h
theorem Wz {l:List Ty} (h:l.length≤60) (i:Nat):Z6 l i < 18446744073709551616:=ZZ _ h
def tabV (n bu bd:Nat):Value:= .agg #[.slice (some ⟨bu,0,none⟩) n n,.slice (some ⟨bd,0,none⟩) n n]
def ux (l:List Ty) (a b:Nat) (i:Nat):Bool:=sub l i a && sub l i b
def vv (l:List Ty) (a b:Nat):Nat:=jZ (ux l a b) l.length
theorem comm_and (l:List Ty) (a b:Nat):Z6 l a &&& Z6 l b=vv l a b:=mask_and _ _ _
def gJ (l:List Ty) (a b:Nat):Nat×Bool×Bool:=
  if vv l a b=0 then (0,false,false)
  else if Z6 l (Lib.ctz 64 (vv l a b))≠vv l a b then (0,false,true)
  else (Lib.ctz 64 (vv l a b),true,false)
def meetV (r:Nat×Bool×Bool):Value:= .tuple #[.int .i64 r.1,.bool r.2.1,.bool r.2.2]
theorem EZ {m:Nat} {p q:Bool} {r:Nat×Bool×Bool} (h:r=(m,p,q)):Ending.returned (.tuple #[.int .i64 (m:Int),.bool p,.bool q])= .returned (meetV r):=by rw [h];rfl
end Go.Proofs.YtbcpgfnfiekbiaaGreatDoor
namespace Go.Proofs.YtbcpgfnfiekbiaaGreatDoor
open Go.RowKit
theorem fn122:zK Tryz.prog 122=true:=by kernel_rfl
theorem sz157:(Tryz.prog.info? 157).map (·.size)=some 1:=by kernel_rfl
theorem sz5_Meet:(Tryz.prog.info? 5).map (·.size)=some 1:=by kernel_rfl
theorem tz_any (x:Nat) (w:World) (h0:x≠0) (hx:x < 18446744073709551616) (hTab:TabIn w):Calls Tryz.prog 122 #[.int .u64 x] w fun e w'=>e= .returned (.int .i64 (Lib.ctz 64 x:Nat))∧w=w':=by
 have hz:=tzI_spec h0 hx;have hgd:=hTab.2 (tzI x) hz.1;rw [hz.2] at hgd;refine enter Tryz.func122 Tryz.ntmps122 rfl (Nat.le_of_ble_eq_true rfl) (yZ ?_);refine zX rfl (fun c4=>?_) (fun c4=>?_)
 ·exact absurd c4 oM
 refine zn6 ?_;refine wl (r_negU rfl oM hx rfl) (wl (Bq (b:=18446744073709551616 - x) rfl rfl hx oM) (wl (r_mulU (b:=285870213051353865) rfl rfl rfl) (wl (r_shr (b:=58) rfl rfl dE rfl) (wl (r_iaA (i:=tzI x) Tryz.underlying197 sz5_Meet rfl rfl hz.1 rfl) (wl (qV (v:= .int _ _) U5 rfl rfl hgd) (wl (r_cvI U5 U3 rfl (by have:=(ctz_eq h0 hx rfl).2;omega)) (zn5 ?_)))))));exact⟨rfl,rfl⟩
theorem meet_any (l:List Ty) (bu bd a b:Nat) (w:World) (hTab:TabIn w) (hI:TableIn w l bu bd) (_hv:VT l) (h60:l.length≤60) (ha:a < l.length) (hb:b < l.length):Calls Tryz.prog 106 #[tabV l.length bu bd,.int .i64 a,.int .i64 b] w fun e w'=>e= .returned (meetV (gJ l a b))∧Bel w w':=by
 have hca:=Wz h60 a;have hcb:=Wz h60 b;have hcc:vv l a b < 18446744073709551616:=ZZ _ h60;refine enT Tryz.func106 Tryz.ntmps106 rfl rfl fun hB=>?_;refine zn2 ?_;refine x6 (v:= .agg #[_,_]) (cs:=#[_,_]) rfl rfl (fun b3 w1 hb3 s1 hr=>?_);refine zn6 ?_;refine SW kR kR (fun w2 s2=>?_);refine zn4 ?_;refine ws (qV (v:= .int _ _) Pj rfl rfl ((hI.mono hB.u).down ha)) (zn4 ?_);refine ws (qV (v:= .int _ _) Pj rfl rfl ((hI.mono hB.u).down hb)) (ws (Bq rfl rfl hca hcb) (ws (Y0 (v:= .int .u64 (vv l a b:Nat)) (congrArg (fun z:Nat=>Value.int .u64 (z:Int)) (comm_and l a b))) (s_nil (zn8 ?_))));refine zX rfl (fun c22=>?_) (fun c22=>?_)
 ·have hz0:vv l a b=0:=by omega
  refine zn9 ?_;refine fin3 (.inl rfl) rfl rfl rfl rfl ?_;replace hB:=hB.tr0 (s1.trans s2);exact⟨EZ (by simp only [gJ,if_pos hz0]),hB⟩
 have hne:vv l a b≠0:=fun h=>c22 (by rw [h];rfl)
 have hz:=I5 h60 hne;refine zn5 ?_;refine zV fn122 (tz_any _ _ hne hcc (hTab.mono hB.u)) rfl (fun e' w3 hr=>?_);obtain⟨rfl,rfl⟩:=hr;refine⟨_,rfl,?_⟩;refine zn9 ?_;refine wl (xk (i:=Lib.ctz 64 (vv l a b)) U87 sz157 rfl rfl hz.1 rfl) (wl (qV (v:= .int _ _) Pj rfl rfl ((hI.mono hB.u).down hz.1)) (zn4 ?_));refine zX rfl (fun c31=>?_) (fun c31=>?_)
 ·have hne2:Z6 l (Lib.ctz 64 (vv l a b))≠vv l a b:=by omega
  refine zn9 ?_;refine fin3 (.inl rfl) rfl rfl rfl rfl ?_;replace hB:=hB.tr0 (s1.trans s2);exact⟨EZ (by simp only [gJ,if_neg hne,if_pos hne2]),hB⟩
 have heq:Z6 l (Lib.ctz 64 (vv l a b))=vv l a b:=by omega
 refine vq ?_;refine fin3 (.inl rfl) rfl rfl rfl rfl ?_;replace hB:=hB.tr0 (s1.trans s2);exact⟨EZ (by simp only [gJ,if_neg hne,heq,ne_eq,not_true_eq_false,if_false]),hB⟩
theorem Tq (l:List Ty) (bu bd a b:Nat) (w:World) (hI:TableIn w l bu bd) (h60:l.length≤60) (ha:a < l.length) (hb:b < l.length):Calls Tryz.prog 116 #[tabV l.length bu bd,.int .i64 a,.int .i64 b] w fun e w'=>e= .returned (.bool (sub l a b))∧Bel w w':=by
 have hca:=WY h60 a;refine enT Tryz.func116 Tryz.ntmps116 rfl rfl fun hB=>?_;refine zn2 ?_;refine x6 (v:= .agg #[_,_]) (cs:=#[_,_]) rfl rfl (fun b3 w1 hb3 s1 hr=>?_);refine zn9 ?_;refine wl (qV (v:= .int _ _) Pj rfl rfl ((hI.mono hB.u).up ha)) (wl (yq (v:= .int _ _) rfl) (wl (r_shr (b:=b) rfl rfl oM rfl) (wl (Bq (b:=1) rfl rfl (Nat.lt_of_le_of_lt (Nat.shiftRight_le _ _) hca) dE) (zn6 ?_))));refine⟨vZ ?_,hB.u⟩;have h1:=D1 (upN l a) b;unfold upN at h1;rw [jy] at h1;simp only [hb,decide_true,Bool.true_and] at h1;rw [← h1];exact decide_eq_decide.2 (by unfold upN;omega)
end Go.Proofs.YtbcpgfnfiekbiaaGreatDoor
