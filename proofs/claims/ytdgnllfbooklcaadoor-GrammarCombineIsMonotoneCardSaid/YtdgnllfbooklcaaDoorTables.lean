/- What these functions of the program compute, at every world: glosswright/hierarchy.Types. What these functions of the program compute, at every world: glosswright/glosswrightref3.Sub. Sets of small numbers as bits. What these functions of the program compute, at every world: math/bits.TrailingZeros64, (glosswright/hierarchy.Table).Meet, (glosswright/hierarchy.Table).Sub. What these functions of the program compute, at every world: glosswright/hierarchy.Tables. -/
import Derived.Test.YtdgnllfbooklcaaDoorU
import Derived.Test.YtdgnllfbooklcaaDoorName
import Derived.Lib.TrailingZeros
namespace Go.Proofs.YtdgnllfbooklcaaDoor
open Go.RowKit
def jX (l:List Ty) (i:Nat):Int:=match l[i]? with
  | none=>0
  | some t=>if yX t.name=false then 10 else if oJ ((l.take i).map (·.name)) t.name=true then 7 else if (decide (i=0) == t.par.isEmpty)=false then 5 else uV i (-1) t.par
def xX (l:List Ty):Fl:=if l.length=0∨60 < l.length then (2,-1) else qZ (jX l) 0 l.length
theorem M2 (xs:List Int):decide ((xs.length:Int)=0)=xs.isEmpty:=by cases xs <;> simp;omega
theorem mal_yes {k:Nat} {xs:List Int} (h:(!(decide ((k:Int)=0) == decide ((xs.length:Int)=0)))=true):(decide (k=0) == xs.isEmpty)=false:=by
  rw [M2] at h
  simpa using h
theorem mal_no {k:Nat} {xs:List Int} (h:(!(decide ((k:Int)=0) == decide ((xs.length:Int)=0)))=false):(decide (k=0) == xs.isEmpty)=true:=by
  rw [M2] at h
  simpa using h
theorem ty10 (l:List Ty) (k:Nat) (hlt:k < l.length) (h1:yX l[k].name=false):jX l k=10:=by
  simp only [jX,List.getElem?_eq_getElem hlt,h1,if_true]
theorem ty7 (l:List Ty) (k:Nat) (hlt:k < l.length) (h1:yX l[k].name=true) (h2:oJ ((l.take k).map (·.name)) l[k].name=true):jX l k=7:=by
  simp only [jX,List.getElem?_eq_getElem hlt,h1,h2,if_true];rfl
theorem ty5 (l:List Ty) (k:Nat) (hlt:k < l.length) (h1:yX l[k].name=true) (h2:oJ ((l.take k).map (·.name)) l[k].name=false) (h3:(decide (k=0) == l[k].par.isEmpty)=false):jX l k=5:=by
  simp only [jX,List.getElem?_eq_getElem hlt,h1,h2,h3,if_true];rfl
theorem H7 (l:List Ty) (k:Nat) (hlt:k < l.length) (h1:yX l[k].name=true) (h2:oJ ((l.take k).map (·.name)) l[k].name=false) (h3:(decide (k=0) == l[k].par.isEmpty)=true):jX l k=uV k (-1) (l[k].par.drop 0):=by
  simp only [jX,List.getElem?_eq_getElem hlt,h1,h2,h3,List.drop_zero];rfl
theorem fn46:zZ Tryd.prog 46=true:=by kernel_rfl
theorem fn62:zZ Tryd.prog 62=true:=by kernel_rfl
theorem sz110:(Tryd.prog.info? 110).map (·.size)=some 2:=by kernel_rfl
theorem ze110:(Tryd.prog.info? 110).map (·.zero)=some (some (.agg #[.string ⟨#[]⟩,.slice none 0 0])):=by kernel_rfl
theorem ze3:(Tryd.prog.info? 3).map (·.zero)=some (some (.int .i64 0)):=by kernel_rfl
theorem GJ (A:Option Addr) (c:Nat) (l:List Ty) (w:World) (hT:TypesIn w A l):Calls Tryd.prog 63 #[.slice A l.length c] w fun e w'=>e= .returned (flV (xX l))∧Bel w w':=by
 refine enter Tryd.func63 Tryd.ntmps63 rfl (Nat.le_of_ble_eq_true rfl) ?_;have hB:Bel w w:=Below.refl _ _;refine zn2 ?_;refine qV (cs:=#[.int .i64 0,.int .i64 0]) ze36 rfl (fun b2 w1 hb2 s1 hr=>?_);have lo2:=nLT (Bel.size hB) hr;refine zn4 ?_;replace hB:=hB.tr0 s1;refine yV [11,12,13,14,15,16,17,18] 18 (.bool (decide (l.length=0∨60 < l.length))) nu ?_ (fun gq=>?_)
 ·refine zn5 ?_;refine zY 14 rfl (fun g14=>?_) (fun g14=>?_)
  ·refine zn4 ?_;refine zQ (e_R ⟨rfl,agA,?_⟩);exact clA
  refine zn7 ?_;refine zQ (e_R ⟨rfl,agA,?_⟩);exact clA
 refine e_S ?_;refine zW rfl (fun c18=>?_) (fun c18=>?_)
 ·refine zn2 ?_;refine qz fn62 (kK _ _ _) rfl (fun e' w2 hr=>?_);obtain⟨rfl,s2⟩:=hr;replace s2:=sB s2;refine⟨_,rfl,?_⟩;replace hb2:=hb2.tr0 s2;refine zk hb2 rfl rfl K6 rfl zJ (fun w3 hq s3=>?_);replace hb2:=hq;refine zn4 ?_;refine y7 (.inl rfl) rfl (zw U36 rfl rfl hb2.range0 K6) ?_;replace hB:=(hB.tr0 s2).tr1 s3 lo2;exact⟨xK (by simp only [xX,if_pos c18]),hB⟩
 have hR:=Lib.hid (show xX l=qZ (jX l) 0 (l.length - 0) by simp only [xX,if_neg c18,Nat.sub_zero]);refine zn4 ?_;refine wl_mm (fun b20 w4 hb20 s4 hr=>?_);have:=nLL hb2.lt hr;have lo20:=nLT (Bel.size hB) hr;refine wl (u7 (v:= .map _) rfl) (ZQ ?_);replace hB:=hB.tr0 s4;replace hb2:=hb2.tr0 s4;refine qQ [4,5,6,7,8,10,23,24,25,26,27,28,29,30,31,32,33,34,35,36,37,38,39,40,41,42,43,44,45,46,47,48,49,50,51,52,53,54,55,56,57,58,59,60,61,62,63,64,65,66,67,68,69,70,71,72,73,74,75,76,77,78,79,80] (fun m g w'=>∃ (k:Nat) (mp:List (ByteArray×Value)),k≤l.length∧m=l.length - k∧g 23= .int .i64 k∧Bel w w'∧Blk w' b2 36 #[.int .i64 0,.int .i64 0]∧MapS w' b20 mp∧(∀ s,lkB mp s=oJ ((l.take k).map (·.name)) s)∧xX l=qZ (jX l) k (l.length - k)) (l.length) ?_ (fun m g5 w5 hI=>?_)
 ·exact⟨0,[],Nat.zero_le _,rfl,rfl,hB,hb2,hb20,fun s=>rfl,hR.out⟩
 obtain⟨k,mp,hk,hm,h23,hB,hb2,hb20,hmp,hR'⟩:=hI;refine zX 23 _ h23 nu (zn6 ?_);refine zW rfl (fun c24=>?_) (fun c24=>?_)
 ·have hlt:k < l.length:=by omega
  obtain⟨tb,to,A',cp,rfl,htb,htr,hpar⟩:=hT.at_ hB hlt;refine zn8 ?_;refine wl (qW H2 rfl rfl htr sz110) ?_;refine qV (cs:=#[.string ⟨#[]⟩,.slice none 0 0]) ze110 rfl (fun b5 w6 hb5 s5 hr=>?_);have:=nLL hb2.lt hr;have:=nLL hb20.lt hr;have lo5:=nLT (Bel.size hB) hr;refine waI rfl ?_;refine zk hb5 rfl rfl sz110 rfl zJ (fun w7 hq s6=>?_);replace hb5:=hq;refine zn7 ?_;refine qz fn46 (IW _ _) rfl (fun e' w8 hr=>?_);obtain⟨rfl,rfl⟩:=hr;refine⟨_,rfl,?_⟩;refine zn3 ?_;replace hB:=(hB.tr0 s5).tr1 s6 lo5;replace hb2:=(hb2.tr0 s5).tr1 s6 om;refine kw rfl (fun c31=>?_) (fun c31=>?_)
  ·have hty:=ty10 l k hlt (by simpa using c31);refine zn3 ?_;refine qz fn62 (kK _ _ _) rfl (fun e' w9 hr=>?_);obtain⟨rfl,s7⟩:=hr;replace s7:=sB s7;refine⟨_,rfl,?_⟩;replace hb2:=hb2.tr0 s7;refine zk hb2 rfl rfl K6 rfl zJ (fun w10 hq s8=>?_);replace hb2:=hq;refine zn9 ?_;refine y7 (.inl rfl) rfl (zw U36 rfl rfl hb2.range0 K6) ?_;replace hB:=(hB.tr0 s7).tr1 s8 lo2;exact⟨xK (hR'.trans (xJ (c:=10) om hty dE)),hB⟩
  have hnm:yX (l[k]'hlt).name=true:=by simpa using c31
  refine zn5 ?_;refine wl (x8 (v:= .map _) rfl) (zn2 ?_);replace hb20:=(hb20.tr0 s5).tr1 s6 om;refine wl (r_lkS hb20 Rq U9 ze3 rfl rfl) (wmT rfl (wl (yZ (v:=_) rfl rfl) (wl (yZ (v:= .bool _) rfl rfl) (wl (u7 (v:=_) rfl) (zn8 ?_)))));refine kw rfl (fun c41=>?_) (fun c41=>?_)
  ·have hty:=ty7 l k hlt hnm ((hmp _).symm.trans c41);refine zn3 ?_;refine qz fn62 (kK _ _ _) rfl (fun e' w11 hr=>?_);obtain⟨rfl,s9⟩:=hr;replace s9:=sB s9;refine⟨_,rfl,?_⟩;replace hb2:=hb2.tr0 s9;refine zk hb2 rfl rfl K6 rfl zJ (fun w12 hq s10=>?_);replace hb2:=hq;refine zn9 ?_;refine y7 (.inl rfl) rfl (zw U36 rfl rfl hb2.range0 K6) ?_;replace hB:=(hB.tr0 s9).tr1 s10 lo2;exact⟨xK (hR'.trans (xJ (c:=7) om hty dE)),hB⟩
  have hsn:oJ ((l.take k).map (·.name)) (l[k]'hlt).name=false:=by rw [← hmp];exact c41
  have hmp':∀ s,lkB (MK mp (l[k]'hlt).name (.int .i64 k)) s=oJ ((l.take (k + 1)).map (·.name)) s:=fun s=>by
    rw [gz _ _ _ c41,XX l hlt,List.map_append,List.map_cons,List.map_nil,MW,← hmp];simp [lkB]
  refine zn4 ?_;refine wl (x8 (v:= .map _) rfl) (zn3 ?_);refine Rv (v:= .int _ _) hb20 Rq U9 rfl rfl rfl (fun w13 hq s11=>?_);replace hb20:=hq;refine ZQ ?_;refine wl (r_neqB U4 rfl rfl) (zQ (e_S ?_));replace hB:=hB.tr1 s11 lo20;replace hb2:=hb2.tr1 s11 om;refine kw rfl (fun c54=>?_) (fun c54=>?_)
  ·have hty:=ty5 l k hlt hnm hsn (mal_yes c54);refine zn3 ?_;refine qz fn62 (kK _ _ _) rfl (fun e' w14 hr=>?_);obtain⟨rfl,s12⟩:=hr;replace s12:=sB s12;refine⟨_,rfl,?_⟩;replace hb2:=hb2.tr0 s12;refine zk hb2 rfl rfl K6 rfl zJ (fun w15 hq s13=>?_);replace hb2:=hq;refine zn9 ?_;refine y7 (.inl rfl) rfl (zw U36 rfl rfl hb2.range0 K6) ?_;replace hB:=(hB.tr0 s12).tr1 s13 lo2;exact⟨xK (hR'.trans (xJ (c:=5) om hty dE)),hB⟩
  have hmal:=mal_no c54;refine E2 ?_;refine qQ [8,10,60,61,62,63,64,65,66,67,68,69,70,71,72,73,74,75,76,77,78,79] (fun m g w'=>∃ (j:Nat) (last:Int),j≤(l[k]'hlt).par.length∧m=(l[k]'hlt).par.length - j∧g 60= .int .i64 j∧g 8= .int .i64 last∧w13=w'∧jX l k=uV k last ((l[k]'hlt).par.drop j)) ((l[k]'hlt).par.length) ?_ (fun m g17 w16 hI=>?_)
  ·exact⟨0,-1,Nat.zero_le _,rfl,rfl,rfl,rfl,H7 l k hlt hnm hsn hmal⟩
  obtain⟨j,last,hj,hmj,h60,h8,rfl,hP⟩:=hI;refine zX 60 _ h60 nu (zX 8 _ h8 nu (zn6 ?_));refine zW rfl (fun c61=>?_) (fun c61=>?_)
  ·have hlj:j < (l[k]'hlt).par.length:=by omega
   have hmx:=hpar.1;unfold j7 at hmx;obtain⟨pb,po,rfl,hpb,hpc⟩:=hpar.at_ hlj;replace hpc:=hB.cell hpb hpc;refine zn7 ?_;refine wl (qY (v:= .int _ _) U3 rfl rfl hpc) (zn5 ?_);refine yV [64,65,66,67,68,69,70] 70 (.bool (decide ((l[k]'hlt).par[j] < 0∨(k:Int)≤(l[k]'hlt).par[j]))) nu ?_ (fun gq=>?_)
   ·refine zn4 ?_;refine zY 66 rfl (fun g66=>?_) (fun g66=>?_)
    ·refine zn4 ?_;refine zQ (e_R ⟨rfl,agA,?_⟩);exact clA
    refine zn7 ?_;refine zQ (e_R ⟨rfl,agA,?_⟩);exact clA
   refine e_S ?_;refine zW rfl (fun c70=>?_) (fun c70=>?_)
   ·have hty:jX l k=3:=by rw [hP,List.drop_eq_getElem_cons hlj];simp only [uV,if_pos c70]
    refine zn3 ?_;refine qz fn62 (kK _ _ _) rfl (fun e' w17 hr=>?_);obtain⟨rfl,s14⟩:=hr;replace s14:=sB s14;refine⟨_,rfl,?_⟩;replace hb2:=hb2.tr0 s14;refine zk hb2 rfl rfl K6 rfl zJ (fun w18 hq s15=>?_);replace hb2:=hq;refine Z8 ?_;refine y7 (.inl rfl) rfl (zw U36 rfl rfl hb2.range0 K6) ?_;replace hB:=(hB.tr0 s14).tr1 s15 lo2;exact⟨xK (hR'.trans (xJ (c:=3) om hty dE)),hB⟩
   refine kv ?_;refine zW rfl (fun c75=>?_) (fun c75=>?_)
   ·have hty:jX l k=13:=by rw [hP,List.drop_eq_getElem_cons hlj];simp only [uV,if_neg c70,if_pos c75]
    refine zn3 ?_;refine qz fn62 (kK _ _ _) rfl (fun e' w19 hr=>?_);obtain⟨rfl,s16⟩:=hr;replace s16:=sB s16;refine⟨_,rfl,?_⟩;replace hb2:=hb2.tr0 s16;refine zk hb2 rfl rfl K6 rfl zJ (fun w20 hq s17=>?_);replace hb2:=hq;refine Z8 ?_;refine y7 (.inl rfl) rfl (zw U36 rfl rfl hb2.range0 K6) ?_;replace hB:=(hB.tr0 s16).tr1 s17 lo2;exact⟨xK (hR'.trans (xJ (c:=13) om hty dE)),hB⟩
   have hP':jX l k=uV k (l[k]'hlt).par[j] ((l[k]'hlt).par.drop (j + 1)):=by rw [hP,List.drop_eq_getElem_cons hlj];simp only [uV,if_neg c70,if_neg c75]
   refine jw ?_;refine y6 ((l[k]'hlt).par.length - (j + 1)) om agA ?_;exact⟨j + 1,(l[k]'hlt).par[j],by omega,rfl,rfl,rfl,rfl,hP'⟩
  have hty:=Lib.hid (show jX l k=0 by rw [hP,List.drop_eq_nil_of_le om];rfl);refine kv ?_;refine y6 (l.length - (k + 1)) om agA ?_;exact⟨k + 1,MK mp (l[k]'hlt).name (.int .i64 k),by omega,rfl,rfl,hB,hb2,hb20,hmp',hR'.trans (jj hlt hty.out)⟩
 refine zn7 ?_;refine wl (uZ (vs:=#[]) (cs:=#[.int .i64 0,.int .i64 0]) (by simp) kR) ?_;refine zk hb2 rfl rfl K6 rfl zJ (fun w21 hq s18=>?_);replace hb2:=hq;refine zn3 ?_;refine y7 (.inl rfl) rfl (zw U36 rfl rfl hb2.range0 K6) ?_;replace hB:=hB.tr1 s18 lo2;exact⟨xK (hR'.trans (kj om)),hB⟩
end Go.Proofs.YtdgnllfbooklcaaDoor
namespace Go.Proofs.YtdgnllfbooklcaaDoor
open Go.RowKit
def E7 (l:List Ty) (i:Nat):List Nat:=match l[i]? with
  | none=>[]
  | some t=>t.par.map Int.toNat
def S7 (l:List Ty):Nat→Nat→Nat→Bool
  | 0,a,b=>decide (a=b)
  | f + 1,a,b=>decide (a=b) || (E7 l a).any (fun p=>S7 l f p b)
def sub (l:List Ty) (a b:Nat):Bool:=S7 l a a b
def VT (l:List Ty):Prop:=∀ i (h:i < l.length),∀ p ∈ (l[i]).par,0≤p∧p < (i:Int)
theorem VT.par {l:List Ty} (h:VT l) {a p:Nat} (hp:p ∈ E7 l a):p < a:=by
  unfold E7 at hp;by_cases ha:a < l.length
  · rw [List.getElem?_eq_getElem ha] at hp
    simp only [List.mem_map] at hp;obtain⟨q,hq,rfl⟩:=hp;have:=h a ha q hq;omega
  · rw [List.getElem?_eq_none om] at hp;cases hp
theorem OV {α:Type} {l:List α} {p q:α→Bool} (h:∀ x ∈ l,p x=q x):l.any p=l.any q:=by
  induction l with
  | nil=>rfl
  | cons a r ih=>
    simp only [List.any_cons];rw [h a (by simp),ih (fun x hx=>h x (by simp [hx]))]
theorem subF_fuel {l:List Ty} (hv:VT l) (b:Nat):∀ (n a:Nat),a≤n→∀ f,a≤f→S7 l f a b=S7 l a a b:=by
  intro n
  induction n with
  | zero=>
    intro a ha f hf;have:a=0:=by omega
    subst this;have hp:E7 l 0= []:=by
      cases h:E7 l 0 with
      | nil=>rfl
      | cons p r=>exact absurd (hv.par (a:=0) (p:=p) (by rw [h];simp)) om
    cases f <;> simp [S7,hp]
  | succ n ih=>
    intro a ha f hf;cases a with
    | zero=>exact ih 0 om f om
    | succ a=>
      cases f with
      | zero=>omega
      | succ f=>
        simp only [S7]
        congr 1
        apply OV
        intro p hp;have:=hv.par hp;rw [ih p om f om,ih p om a om]
theorem F6 {l:List Ty} (hv:VT l) (a b:Nat):sub l a b=(decide (a=b) || (E7 l a).any (fun p=>sub l p b)):=by
  unfold sub;cases a with
  | zero=>
    have hp:E7 l 0= []:=by
      cases h:E7 l 0 with
      | nil=>rfl
      | cons p r=>exact absurd (hv.par (a:=0) (p:=p) (by rw [h];simp)) om
    simp [S7,hp]
  | succ a=>
    conv=>lhs;unfold S7
    congr 1
    apply OV
    intro p hp;have:=hv.par hp;rw [subF_fuel hv b (a + 1) p om a om]
theorem XJ {l:List Ty} (hv:VT l) (a:Nat):sub l a a=true:=by rw [F6 hv];simp
theorem Yj {l:List Ty} (hv:VT l) (a b:Nat):sub l a b=true ↔ a=b∨∃ p ∈ E7 l a,sub l p b=true:=by
  rw [F6 hv];simp
theorem sub_le {l:List Ty} (hv:VT l):∀ (n a b:Nat),a≤n→sub l a b=true→b≤a:=by
  intro n
  induction n with
  | zero=>
    intro a b ha h;rcases(Yj hv a b).1 h with rfl | ⟨p,hp,_⟩
    · omega
    · have:=hv.par hp;omega
  | succ n ih=>
    intro a b ha h;rcases(Yj hv a b).1 h with rfl | ⟨p,hp,hs⟩
    · omega
    · have:=hv.par hp
      have:=ih p b om hs;omega
theorem I5 {l:List Ty} (hv:VT l) {a b:Nat} (h:sub l a b=true):b≤a:=sub_le hv a a b (Nat.le_refl _) h
theorem sub_trans {l:List Ty} (hv:VT l) (c:Nat):∀ (n a b:Nat),a≤n→sub l a b=true→sub l b c=true→sub l a c=true:=by
  intro n
  induction n with
  | zero=>
    intro a b ha h h2;rcases(Yj hv a b).1 h with rfl | ⟨p,hp,_⟩
    · exact h2
    · have:=hv.par hp;omega
  | succ n ih=>
    intro a b ha h h2;rcases(Yj hv a b).1 h with rfl | ⟨p,hp,hs⟩
    · exact h2
    · have:=hv.par hp
      exact(Yj hv a c).2 (.inr ⟨p,hp,ih p b om hs h2⟩)
theorem Q6 {l:List Ty} (hv:VT l) {a b c:Nat} (h:sub l a b=true) (h2:sub l b c=true):sub l a c=true:=sub_trans hv c a a b (Nat.le_refl _) h h2
theorem sub_par {l:List Ty} (hv:VT l) {i:Nat} (hi:i < l.length) {p:Int} (hp:p ∈ (l[i]).par):sub l i p.toNat=true:=by
  refine(Yj hv i _).2 (.inr ⟨p.toNat,?_,XJ hv _⟩);simp only [E7,List.getElem?_eq_getElem hi,List.mem_map];exact⟨p,hp,rfl⟩
def N2 (ps:List Int) (x:Nat):Bool:=ps.any (fun p=>decide (p=(x:Int)))
theorem T0 (ps:List Int) (x:Nat):N2 ps x=true ↔ (x:Int) ∈ ps:=by simp [N2]
theorem parB_snoc (ps:List Int) {j:Nat} (hj:j < ps.length) (x:Nat):N2 (ps.take (j + 1)) x=(N2 (ps.take j) x || decide (ps[j]=(x:Int))):=by
  simp only [N2];rw [List.take_succ_eq_append_getElem hj,List.any_append];simp
structure Marks (l:List Ty) (a i:Nat) (mk:Nat→Bool):Prop where
  ok:∀ j,mk j=true→sub l a j=true
  all:∀ c,c≤i→sub l a c=true→∃ j,j≤i∧mk j=true∧sub l j c=true
theorem Marks.start {l:List Ty} (hv:VT l) (a:Nat):Marks l a a (fun j=>if j=a then true else false):=
  ⟨fun j h=>by
    by_cases e:j=a
    · subst e;exact XJ hv _
    · simp [e] at h,fun c _ h=>⟨a,Nat.le_refl _,by simp,h⟩⟩
theorem Marks.yes {l:List Ty} (hv:VT l) {a i:Nat} {mk:Nat→Bool} (h:Marks l a i mk) (hi:i < l.length) (hm:mk i=true):Marks l a (i - 1) (fun x=>mk x || N2 (l[i]).par x):=
  ⟨fun j hj=>by
    simp only [Bool.or_eq_true] at hj
    rcases hj with hj | hj
    · exact h.ok j hj
    · have:=sub_par hv hi ((T0 _ _).1 hj)
      simp only [Int.toNat_natCast] at this
      exact Q6 hv (h.ok i hm) this,fun c hc hs=>by
    by_cases hi0:i=0
    · subst hi0
      obtain⟨j,hj,h1,h2⟩:=h.all c om hs
      exact⟨j,by omega,by simp [h1],h2⟩
    obtain⟨j,hj,h1,h2⟩:=h.all c om hs
    by_cases e:j=i
    · subst e
      rcases(Yj hv j c).1 h2 with rfl | ⟨p,hp,hps⟩
      · omega
      · have hlt:=hv.par hp
        refine⟨p,by omega,?_,hps⟩
        simp only [E7,List.getElem?_eq_getElem hi,List.mem_map] at hp
        obtain⟨q,hq,rfl⟩:=hp
        have:=hv j hi q hq
        have hq':((q.toNat:Nat):Int) ∈ (l[j]).par:=by rw [Int.toNat_of_nonneg this.1];exact hq
        simp only [Bool.or_eq_true]
        exact .inr ((T0 _ _).2 hq')
    · exact⟨j,by omega,by simp [h1],h2⟩⟩
theorem Marks.no {l:List Ty} {a i:Nat} {mk:Nat→Bool} (h:Marks l a i mk) (hm:mk i=false):Marks l a (i - 1) mk:=
  ⟨h.ok,fun c hc hs=>by
    obtain⟨j,hj,h1,h2⟩:=h.all c om hs
    by_cases e:j=i
    · subst e;rw [hm] at h1;cases h1
    · exact⟨j,by omega,h1,h2⟩⟩
theorem Marks.end_ {l:List Ty} (hv:VT l) {a b i:Nat} {mk:Nat→Bool} (h:Marks l a i mk) (hi:i≤b) (hb:b≤a→b≤i):mk b=sub l a b:=by
  cases hs:sub l a b
  · cases hm:mk b
    · rfl
    · rw [h.ok b hm] at hs;cases hs
  · have hle:=I5 hv hs
    have hib:i=b:=Nat.le_antisymm hi (hb hle);subst hib;obtain⟨j,hj,h1,h2⟩:=h.all i (Nat.le_refl _) hs;have:=I5 hv h2;have:j=i:=by omega
    subst this;exact h1
theorem in4:(Tryd.prog.info? 4).map (fun i=>(i.zero,i.size,i.bytes))=some (some (.bool false),1,1):=by kernel_rfl
theorem sz4:(Tryd.prog.info? 4).map (·.size)=some 1:=by kernel_rfl
theorem HZ (A:Option Addr) (c:Nat) (l:List Ty) (a b:Nat) (w:World) (hT:TypesIn w A l) (hv:VT l) (h60:l.length≤60) (ha:a < l.length) (hb:b < l.length):Calls Tryd.prog 33 #[.slice A l.length c,.int .i64 a,.int .i64 b] w fun e w'=>e= .returned (.bool (sub l a b))∧Bel w w':=by
 have hmx:=hT.1;unfold j7 at hmx;refine enter Tryd.func33 Tryd.ntmps33 rfl (Nat.le_of_ble_eq_true rfl) ?_;have hB:Bel w w:=Below.refl _ _;refine zn9 ?_;refine Kx (m:=l.length) OY in4 rfl rfl rfl om hmx (fun b13 w1 hb13 s1 hr=>?_);have lo13:=nLT (Bel.size hB) hr;refine zn8 ?_;refine xQ (v:= .bool _) hb13 rfl rfl sz4 (by rw [row_size];omega) rfl u5 (fun w2 hq s2=>?_);replace hb13:=hq;refine zn4 ?_;replace hB:=(hB.tr0 s1).tr1 s2 lo13;have hb13':Blk w2 b13 4 (row l.length (fun j=> .bool (if j=a then true else false))):=by
   rw [show (row l.length (fun j=>Value.bool (if j=a then true else false)))=row l.length (fun j=>if j=a then Value.bool true else Value.bool false) from yK (fun j _=>by split <;> rfl)];exact hb13
 refine zn6 ?_;refine qQ [8,10,18,19,20,21,22,23,24,25,26,27,28,29,30,31,32,33,34,35,36,37,38,39,40] (fun m g w'=>∃ (i:Nat) (mk:Nat→Bool),i≤a∧m=i∧g 8= .int .i64 i∧(b≤a→b≤i)∧Bel w w'∧Blk w' b13 4 (row l.length (fun j=> .bool (mk j)))∧Marks l a i mk) (a) ?_ (fun m g4 w3 hI=>?_)
 ·exact⟨a,_,Nat.le_refl _,rfl,rfl,fun h=>h,hB,hb13',Marks.start hv a⟩
 obtain⟨i,mk,hi,hm,h8,hbi,hB,hb13,hM⟩:=hI;refine zX 8 _ h8 nu (zn8 ?_);refine zW rfl (fun c20=>?_) (fun c20=>?_)
 ·refine zn9 ?_;refine wl (qY (v:= .bool _) U4 rfl rfl (hb13.cell (j9 om))) (zQ (e_S ?_));refine kw rfl (fun c26=>?_) (fun c26=>?_)
  ·have hil:i < l.length:=by omega
   obtain⟨tb,to,A',cp,rfl,htb,htr,hpar⟩:=hT.at_ hB hil;have hpx:=hpar.1;unfold j7 at hpx;refine zn6 ?_;refine wl (qY (v:= .slice _ _ _) U70 rfl rfl (htr 1 _ rfl)) (zn5 ?_);refine qQ [10,33,34,35,36,37,38,39,40] (fun m g w'=>∃ (j:Nat),j≤(l[i]'hil).par.length∧m=(l[i]'hil).par.length - j∧g 33= .int .i64 j∧Bel w w'∧Blk w' b13 4 (row l.length (fun x=> .bool (mk x || N2 ((l[i]'hil).par.take j) x)))) ((l[i]'hil).par.length) ?_ (fun m g8 w4 hI=>?_)
   ·refine⟨0,Nat.zero_le _,rfl,rfl,hB,?_⟩;rw [show (row l.length (fun x=>Value.bool (mk x || N2 ((l[i]'hil).par.take 0) x)))=row l.length (fun j=> .bool (mk j)) from yK (fun x _=>by simp [N2])];exact hb13
   obtain⟨j,hj,hmj,h33,hB,hb13⟩:=hI;refine zX 33 _ h33 nu (zn6 ?_);refine zW rfl (fun c34=>?_) (fun c34=>?_)
   ·have hlj:j < (l[i]'hil).par.length:=by omega
    obtain⟨pb,po,rfl,hpb,hpc⟩:=hpar.at_ hlj;replace hpc:=hB.cell hpb hpc;have hpr:=hv i hil _ (List.getElem_mem hlj);refine zn7 ?_;refine wl (qY (v:= .int _ _) U3 rfl rfl hpc) (zn6 ?_);refine wl (yz (i:=((l[i]'hil).par[j]).toNat) OY sz4 rfl (show ev _ _ _=_ from congrArg (Value.int .i64) (Int.toNat_of_nonneg hpr.1).symm) om rfl) ?_;refine xQ (v:= .bool _) hb13 rfl rfl sz4 (by rw [row_size];omega) rfl u5 (fun w5 hq s3=>?_);replace hb13:=hq;refine zn7 ?_;refine y6 ((l[i]'hil).par.length - (j + 1)) om agA ?_;replace hB:=hB.tr1 s3 lo13;refine⟨j + 1,by omega,rfl,rfl,hB,?_⟩
    rw [show (row l.length (fun x=>Value.bool (mk x || N2 ((l[i]'hil).par.take (j + 1)) x)))=row l.length (fun x=>if x=((l[i]'hil).par[j]).toNat then Value.bool true else .bool (mk x || N2 ((l[i]'hil).par.take j) x)) from yK (fun x _=>by
      rw [parB_snoc _ hlj];by_cases e:x=((l[i]'hil).par[j]).toNat
      · rw [if_pos e];have:(l[i]'hil).par[j]=(x:Int):=by omega
        simp [this]
      · rw [if_neg e];have:¬(l[i]'hil).par[j]=(x:Int):=by omega
        simp [this])]
    exact hb13
   have hM':=hM.yes hv hil c26;have hjl:j=(l[i]'hil).par.length:=by omega
   rw [hjl,List.take_length] at hb13;obtain⟨mk',hmk'⟩:∃ mk':Nat→Bool,mk'=fun x=>mk x || N2 (l[i]'hil).par x:=⟨_,rfl⟩
   rw [show (row l.length (fun x=>Value.bool (mk x || N2 (l[i]'hil).par x)))=row l.length (fun x=> .bool (mk' x)) from yK (fun x _=>by rw [hmk'])] at hb13;rw [← hmk'] at hM';refine zn8 ?_;refine wl (QX (c:=((i - 1:Nat):Int)) rfl rfl om om) (zn2 ?_);refine y6 (i - 1) om agA ?_;exact⟨i - 1,mk',by omega,rfl,rfl,fun h=>by omega,hB,hb13,hM'⟩
  have hM':=hM.no c26;obtain⟨mk',hmk'⟩:∃ mk',mk'=mk:=⟨_,rfl⟩
  rw [← hmk'] at hM' hb13;clear hmk';refine zn5 ?_;refine wl (QX (c:=((i - 1:Nat):Int)) rfl rfl om om) (zn2 ?_);refine y6 (i - 1) om agA ?_;exact⟨i - 1,mk',by omega,rfl,rfl,fun h=>by omega,hB,hb13,hM'⟩
 refine kv ?_;refine wl (qY (v:= .bool _) U4 rfl rfl (hb13.cell (j9 om))) (zn5 ?_);exact⟨XY (hM.end_ hv om hbi).symm,hB⟩
end Go.Proofs.YtdgnllfbooklcaaDoor
namespace Go.Proofs.YtdgnllfbooklcaaDoor
open Go.RowKit
def jQ (p:Nat→Bool):Nat→Nat
  | 0=>0
  | n + 1=>jQ p n ||| (if p n then 2 ^ n else 0)
theorem jZ (p:Nat→Bool):∀ (n j:Nat),(jQ p n).testBit j=(decide (j < n) && p j)
  | 0,j=>by simp [jQ]
  | n + 1,j=>by
    rw [jQ,Nat.testBit_or,jZ p n j]
    by_cases h:j=n
    · subst h
      cases hp:p j <;> simp [Nat.testBit_two_pow_self]
    · have h1:(if p n then 2 ^ n else 0:Nat).testBit j=false:=by
        cases hp:p n
        · simp
        · simp [Ne.symm h]
      have h2:decide (j < n + 1)=decide (j < n):=by simp;omega
      rw [h1,h2];simp
theorem mask_lt (p:Nat→Bool) (n:Nat):jQ p n < 2 ^ n:=by
  apply Nat.lt_pow_two_of_testBit
  intro i hi;rw [jZ];simp;omega
theorem Qj (p:Nat→Bool) {n:Nat} (h:n≤60):jQ p n < 18446744073709551616:=by
  have h1:=mask_lt p n;have h2:2 ^ n≤2 ^ 60:=Nat.pow_le_pow_right dE h;have h3:(2:Nat) ^ 60=1152921504606846976:=by decide
  omega
theorem Jz {x:Nat} {p:Nat→Bool} {n:Nat} (h:∀ j,x.testBit j=(decide (j < n) && p j)):x=jQ p n:=
  Nat.eq_of_testBit_eq (fun j=>by rw [h,jZ])
theorem jy {p q:Nat→Bool} {n:Nat} (h:∀ j,j < n→p j=q j):jQ p n=jQ q n:=by
  apply Jz
  intro j;rw [jZ];by_cases hj:j < n
  · rw [h j hj]
  · simp [hj]
theorem L6 (p q:Nat→Bool) (n:Nat):jQ p n ||| jQ q n=jQ (fun j=>p j || q j) n:=
  Jz (fun j=>by rw [Nat.testBit_or,jZ,jZ];cases decide (j < n) <;> simp)
theorem mask_and (p q:Nat→Bool) (n:Nat):jQ p n &&& jQ q n=jQ (fun j=>p j && q j) n:=
  Jz (fun j=>by rw [Nat.testBit_and,jZ,jZ];cases decide (j < n) <;> simp)
theorem Tz {k n:Nat} (h:k < n):2 ^ k=jQ (fun j=>decide (j=k)) n:=by
  apply Jz
  intro j;rw [Nat.testBit_two_pow];by_cases e:k=j
  · subst e;simp [h]
  · simp [e,Ne.symm e]
theorem mask_zero (n:Nat):jQ (fun _=>false) n=0:=by
  symm;apply Jz;intro j;simp
theorem mask_eq_zero {p:Nat→Bool} {n:Nat}:jQ p n=0 ↔ ∀ j,j < n→p j=false:=by
  constructor
  · intro h j hj
    have:=jZ p n j;rw [h] at this
    simpa [hj] using this.symm
  · intro h
    rw [← mask_zero n];exact jy h
theorem mask_inj {p q:Nat→Bool} {n:Nat}:jQ p n=jQ q n ↔ ∀ j,j < n→p j=q j:=by
  constructor
  · intro h j hj
    have h1:=jZ p n j;have h2:=jZ q n j;rw [h] at h1;rw [h1] at h2
    simpa [hj] using h2
  · exact jy
theorem D7 (x j:Nat):decide (((x >>> j) &&& 1)=1)=x.testBit j:=by
  rw [Nat.testBit_eq_decide_div_mod_eq,Nat.shiftRight_eq_div_pow,Nat.and_one_is_mod]
theorem M9 {p:Nat→Bool} {n:Nat} (hn:n≤60) (h0:jQ p n≠0):Lib.ctz 64 (jQ p n) < n∧p (Lib.ctz 64 (jQ p n))=true∧∀ j,j < Lib.ctz 64 (jQ p n)→p j=false:=by
  have hlt:jQ p n < 2 ^ 64:=by
    have h1:=Qj p hn;have h2:(2:Nat) ^ 64=18446744073709551616:=by decide
    omega
  obtain⟨m,hm,hk⟩:=Lib.ctzFrom_spec 64 (jQ p n) om hlt;have e:Lib.ctz 64 (jQ p n)=Lib.ctzFrom 64 (jQ p n):=by simp [Lib.ctz,h0]
  rw [e]
  generalize hc:Lib.ctzFrom 64 (jQ p n)=c at *
  have hb:∀ j,(jQ p n).testBit j=(decide (c≤j) && (2 * m + 1).testBit (j - c)):=by
    intro j;rw [hm,Nat.mul_comm,Nat.testBit_mul_two_pow]
  have hcb:(jQ p n).testBit c=true:=by rw [hb];simp
  rw [jZ] at hcb;simp only [Bool.and_eq_true,decide_eq_true_eq] at hcb;refine⟨hcb.1,hcb.2,fun j hj=>?_⟩;have:=hb j;rw [jZ] at this;have hcj:¬c≤j:=by omega
  simp only [hcj,decide_false,Bool.false_and] at this;have hjn:j < n:=by omega
  simpa [hjn] using this
def TabIn (w:World):Prop:=0 < w.heap.size∧∀ k,k < 64→w.cell? ⟨0,0 + k * 1,none⟩=some (.int .u8 ((Lib.deBruijn64tab.getD k 0:Nat):Int))
theorem TabIn.mono {w w':World} (h:TabIn w) (hb:Bel w w'):TabIn w':=⟨nLL h.1 hb.size,fun k hk=>hb.cell h.1 (h.2 k hk)⟩
theorem ctz_eq {x c:Nat} (h0:x≠0) (hx:x < 18446744073709551616) (hc:18446744073709551616 - x=c):x &&& c=2 ^ Lib.ctz 64 x∧Lib.ctz 64 x < 64:=by
  subst hc
  exact Lib.lowest_bit 64 x h0 (by have : (2 : Nat) ^ 64 = 18446744073709551616 := by decide
                                   omega)
def tzI (x:Nat):Nat:=((x &&& (18446744073709551616 - x)) * 285870213051353865 % 18446744073709551616) >>> 58
theorem tzI_spec {x:Nat} (h0:x≠0) (hx:x < 18446744073709551616):tzI x < 64∧Lib.deBruijn64tab.getD (tzI x) 0=Lib.ctz 64 x:=by
  have h:=ctz_eq h0 hx rfl;have h2:=Lib.deBruijn64_at (Lib.ctz 64 x) h.2;unfold tzI;rw [h.1,Nat.shiftRight_eq_div_pow];exact h2
def upN (l:List Ty) (i:Nat):Nat:=jQ (fun j=>sub l i j) l.length
def Zw (l:List Ty) (j:Nat):Nat:=jQ (fun i=>sub l i j) l.length
def rU (n:Nat) (g:Nat→Nat):Array Value:=row n (fun i=> .int .u64 (g i))
def TableIn (w:World) (l:List Ty) (bu bd:Nat):Prop:=Blk w bu 117 (rU l.length (upN l))∧Blk w bd 117 (rU l.length (Zw l))
theorem Blk.bel {w w':World} {b:Nat} {t:TypeId} {cs:Array Value} (h:Blk w b t cs) (hb:Bel w w'):Blk w' b t cs:=(hb.block b h.lt).trans h
theorem TableIn.mono {w w':World} {l:List Ty} {bu bd:Nat} (h:TableIn w l bu bd) (hb:Bel w w'):TableIn w' l bu bd:=⟨h.1.bel hb,h.2.bel hb⟩
theorem TableIn.up {w:World} {l:List Ty} {bu bd i:Nat} (h:TableIn w l bu bd) (hi:i < l.length):w.cell? ⟨bu,0 + i * 1,none⟩=some (.int .u64 (upN l i)):=h.1.cell (j9 hi)
theorem TableIn.down {w:World} {l:List Ty} {bu bd i:Nat} (h:TableIn w l bu bd) (hi:i < l.length):w.cell? ⟨bd,0 + i * 1,none⟩=some (.int .u64 (Zw l i)):=h.2.cell (j9 hi)
theorem RQ {l:List Ty} (h:l.length≤60) (i:Nat):upN l i < 18446744073709551616:=Qj _ h
theorem R5 {l:List Ty} (h:l.length≤60) (i:Nat):Zw l i < 18446744073709551616:=Qj _ h
def GW (n bu bd:Nat):Value:= .agg #[.slice (some ⟨bu,0,none⟩) n n,.slice (some ⟨bd,0,none⟩) n n]
def gY (l:List Ty) (a b:Nat) (i:Nat):Bool:=sub l i a && sub l i b
def vK (l:List Ty) (a b:Nat):Nat:=jQ (gY l a b) l.length
theorem comm_and (l:List Ty) (a b:Nat):Zw l a &&& Zw l b=vK l a b:=mask_and _ _ _
def jK (l:List Ty) (a b:Nat):Nat×Bool×Bool:=
  if vK l a b=0 then (0,false,false)
  else if Zw l (Lib.ctz 64 (vK l a b))≠vK l a b then (0,false,true)
  else (Lib.ctz 64 (vK l a b),true,false)
def meetV (r:Nat×Bool×Bool):Value:= .tuple #[.int .i64 r.1,.bool r.2.1,.bool r.2.2]
theorem O8 {m:Nat} {p q:Bool} {r:Nat×Bool×Bool} (h:r=(m,p,q)):Ending.returned (.tuple #[.int .i64 (m:Int),.bool p,.bool q])= .returned (meetV r):=by rw [h];rfl
end Go.Proofs.YtdgnllfbooklcaaDoor
namespace Go.Proofs.YtdgnllfbooklcaaDoor
open Go.RowKit
theorem fn76:zZ Tryd.prog 76=true:=by kernel_rfl
theorem Hk:(Tryd.prog.info? 117).map (·.size)=some 1:=by kernel_rfl
theorem sz5:(Tryd.prog.info? 5).map (·.size)=some 1:=by kernel_rfl
theorem tz_any (x:Nat) (w:World) (h0:x≠0) (hx:x < 18446744073709551616) (hTab:TabIn w):Calls Tryd.prog 76 #[.int .u64 x] w fun e w'=>e= .returned (.int .i64 (Lib.ctz 64 x:Nat))∧w=w':=by
 have hz:=tzI_spec h0 hx;have hgd:=hTab.2 (tzI x) hz.1;rw [hz.2] at hgd;refine enter Tryd.func76 Tryd.ntmps76 rfl (Nat.le_of_ble_eq_true rfl) (jw ?_);refine zW rfl (fun c4=>?_) (fun c4=>?_)
 ·exact absurd c4 om
 refine zn6 ?_;refine wl (r_negU rfl om hx rfl) (wl (Ky (b:=18446744073709551616 - x) rfl rfl hx om) (wl (r_mulU (b:=285870213051353865) rfl rfl rfl) (wl (HV (b:=58) rfl rfl dE rfl) (wl (O9 (i:=tzI x) Tryd.underlying154 sz5 rfl rfl hz.1 rfl) (wl (qY (v:= .int _ _) U5 rfl rfl hgd) (wl (r_cvI U5 U3 rfl (by have:=(ctz_eq h0 hx rfl).2;omega)) (zn5 ?_)))))));exact⟨rfl,rfl⟩
theorem T9 (l:List Ty) (bu bd a b:Nat) (w:World) (hTab:TabIn w) (hI:TableIn w l bu bd) (_hv:VT l) (h60:l.length≤60) (ha:a < l.length) (hb:b < l.length):Calls Tryd.prog 64 #[GW l.length bu bd,.int .i64 a,.int .i64 b] w fun e w'=>e= .returned (meetV (jK l a b))∧Bel w w':=by
 have hca:=R5 h60 a;have hcb:=R5 h60 b;have hcc:vK l a b < 18446744073709551616:=Qj _ h60;refine enter Tryd.func64 Tryd.ntmps64 rfl (Nat.le_of_ble_eq_true rfl) ?_;have hB:Bel w w:=Below.refl _ _;refine zn2 ?_;refine xk (v:= .agg #[_,_]) (cs:=#[_,_]) rfl rfl (fun b3 w1 hb3 s1 hr=>?_);refine zn6 ?_;refine ZY kR kR (fun w2 s2=>?_);refine zn4 ?_;replace hB:=hB.tr0 (s1.trans s2);refine ws (qY (v:= .int _ _) Vk rfl rfl ((hI.mono hB).down ha)) (zn4 ?_);refine ws (qY (v:= .int _ _) Vk rfl rfl ((hI.mono hB).down hb)) (ws (Ky rfl rfl hca hcb) (ws (u7 (v:= .int .u64 (vK l a b:Nat)) (congrArg (fun z:Nat=>Value.int .u64 (z:Int)) (comm_and l a b))) (uX (zn8 ?_))));refine zW rfl (fun c22=>?_) (fun c22=>?_)
 ·have hz0:vK l a b=0:=by omega
  refine zn9 ?_;refine K7 (.inl rfl) rfl rfl rfl rfl ?_;exact⟨O8 (by simp only [jK,if_pos hz0]),hB⟩
 have hne:vK l a b≠0:=fun h=>c22 (by rw [h];rfl)
 have hz:=M9 h60 hne;refine zn5 ?_;refine qz fn76 (tz_any _ _ hne hcc (hTab.mono hB)) rfl (fun e' w3 hr=>?_);obtain⟨rfl,rfl⟩:=hr;refine⟨_,rfl,?_⟩;refine zn9 ?_;refine wl (yz (i:=Lib.ctz 64 (vK l a b)) U84 Hk rfl rfl hz.1 rfl) (wl (qY (v:= .int _ _) Vk rfl rfl ((hI.mono hB).down hz.1)) (zn4 ?_));refine zW rfl (fun c31=>?_) (fun c31=>?_)
 ·have hne2:Zw l (Lib.ctz 64 (vK l a b))≠vK l a b:=by omega
  refine zn9 ?_;refine K7 (.inl rfl) rfl rfl rfl rfl ?_;exact⟨O8 (by simp only [jK,if_neg hne,if_pos hne2]),hB⟩
 have heq:Zw l (Lib.ctz 64 (vK l a b))=vK l a b:=by omega
 refine ZQ ?_;refine K7 (.inl rfl) rfl rfl rfl rfl ?_;exact⟨O8 (by simp only [jK,if_neg hne,heq,ne_eq,not_true_eq_false,if_false]),hB⟩
theorem EY (l:List Ty) (bu bd a b:Nat) (w:World) (hI:TableIn w l bu bd) (h60:l.length≤60) (ha:a < l.length) (hb:b < l.length):Calls Tryd.prog 50 #[GW l.length bu bd,.int .i64 a,.int .i64 b] w fun e w'=>e= .returned (.bool (sub l a b))∧Bel w w':=by
 have hca:=RQ h60 a;refine enter Tryd.func50 Tryd.ntmps50 rfl (Nat.le_of_ble_eq_true rfl) ?_;have hB:Bel w w:=Below.refl _ _;refine zn2 ?_;refine xk (v:= .agg #[_,_]) (cs:=#[_,_]) rfl rfl (fun b3 w1 hb3 s1 hr=>?_);refine zn9 ?_;replace hB:=hB.tr0 s1;refine wl (qY (v:= .int _ _) Vk rfl rfl ((hI.mono hB).up ha)) (wmI rfl (wl (HV (b:=b) rfl rfl om rfl) (wl (Ky (b:=1) rfl rfl (Nat.lt_of_le_of_lt (Nat.shiftRight_le _ _) hca) dE) (zn6 ?_))));refine⟨XY ?_,hB⟩;have h1:=D7 (upN l a) b;unfold upN at h1;rw [jZ] at h1;simp only [hb,decide_true,Bool.true_and] at h1;rw [← h1];exact decide_eq_decide.2 (by unfold upN;omega)
end Go.Proofs.YtdgnllfbooklcaaDoor
namespace Go.Proofs.YtdgnllfbooklcaaDoor
open Go.RowKit
def KZ (l:List Ty) (k:Nat) (ps:List Int) (x:Nat):Bool:=decide (x=k) || ps.any (fun p=>sub l p.toNat x)
theorem parM_zero {l:List Ty} {k:Nat} (hk:k < l.length):jQ (KZ l k []) l.length=2 ^ k:=by
  rw [Tz hk];exact jy (fun j _=>by simp [KZ])
theorem parM_snoc {l:List Ty} {k j:Nat} {ps:List Int} (hj:j < ps.length):jQ (KZ l k (ps.take j)) l.length ||| upN l (ps[j]).toNat=jQ (KZ l k (ps.take (j + 1))) l.length:=by
  unfold upN;rw [L6];refine jy (fun x _=>?_);simp only [KZ];rw [List.take_succ_eq_append_getElem hj,List.any_append];simp [Bool.or_assoc]
theorem parM_end {l:List Ty} (hv:VT l) {k:Nat} (hk:k < l.length):jQ (KZ l k (l[k]).par) l.length=upN l k:=by
  unfold upN;refine jy (fun x _=>?_);rw [F6 hv];have e1:decide (x=k)=decide (k=x):=by simp only [eq_comm]
  simp only [KZ,e1]
  congr 1
  simp only [E7,List.getElem?_eq_getElem hk,List.any_map];rfl
def upP (l:List Ty) (k i:Nat):Nat:=if i < k then upN l i else 0
def uS (l:List Ty) (k X i:Nat):Nat:=if i=k then X else upP l k i
theorem uS_k (l:List Ty) (k X:Nat):uS l k X k=X:=by simp [uS]
theorem uS_lt {l:List Ty} {k X p:Nat} (h:p < k):uS l k X p=upN l p:=by
  have:p≠k:=by omega
  simp [uS,upP,this,h]
theorem uS_end (l:List Ty) (k i:Nat):uS l k (upN l k) i=upP l (k + 1) i:=by
  unfold uS upP;by_cases h:i=k
  · subst h;simp
  · have:(i < k + 1) ↔ (i < k):=by omega
    simp [h,this]
def dnP (l:List Ty) (k j:Nat):Nat:=jQ (fun i=>decide (i < k) && sub l i j) l.length
theorem dnP_zero (l:List Ty) (j:Nat):dnP l 0 j=0:=mask_eq_zero.2 (fun i _=>by simp)
theorem dnP_yes {l:List Ty} {k j:Nat} (hk:k < l.length) (h:sub l k j=true):dnP l k j ||| 2 ^ k=dnP l (k + 1) j:=by
  unfold dnP;rw [Tz hk,L6];refine jy (fun i _=>?_);by_cases e:i=k
  · subst e;simp [h]
  · have e1:decide (i < k + 1)=decide (i < k):=decide_eq_decide.2 om
    simp [e,e1]
theorem dnP_no {l:List Ty} {k j:Nat} (h:sub l k j=false):dnP l k j=dnP l (k + 1) j:=by
  unfold dnP;refine jy (fun i _=>?_);by_cases e:i=k
  · subst e;simp [h]
  · have e1:decide (i < k + 1)=decide (i < k):=decide_eq_decide.2 om
    simp [e1]
theorem dnP_end (l:List Ty) (j:Nat):dnP l l.length j=Zw l j:=by
  unfold dnP Zw;exact jy (fun i hi=>by simp [hi])
theorem upP_end {l:List Ty} {i:Nat} (h:i < l.length):upP l l.length i=upN l i:=by simp [upP,h]
def dS (l:List Ty) (k j x:Nat):Nat:=if x < j then dnP l (k + 1) x else dnP l k x
theorem dS_j (l:List Ty) (k j:Nat):dS l k j j=dnP l k j:=by simp [dS]
theorem dS_yes {l:List Ty} {k j:Nat} (hk:k < l.length) (h:sub l k j=true) (x:Nat):(if x=j then dS l k j j ||| 2 ^ k else dS l k j x)=dS l k (j + 1) x:=by
  by_cases e:x=j
  · subst e;simp only [if_true,dS_j,dnP_yes hk h];simp [dS]
  · have e1:(x < j + 1) ↔ (x < j):=by omega
    simp [e,dS,e1]
theorem dS_no {l:List Ty} {k j:Nat} (h:sub l k j=false) (x:Nat):dS l k j x=dS l k (j + 1) x:=by
  by_cases e:x=j
  · subst e;rw [dS_j,dnP_no h];simp [dS]
  · have e1:(x < j + 1) ↔ (x < j):=by omega
    simp [dS,e1]
theorem dS_lt {l:List Ty} (h:l.length≤60) (k j x:Nat):dS l k j x < 18446744073709551616:=by
  unfold dS dnP;split <;> exact Qj _ h
theorem uS_bd {l:List Ty} (h:l.length≤60) {k X x:Nat} (hX:X < 18446744073709551616):uS l k X x < 18446744073709551616:=by
  unfold uS upP;split
  · exact hX
  · split
    · exact RQ h _
    · decide
theorem J5 {n:Nat} {g:Nat→Nat} {f:Nat→Nat} (h:∀ j,j < n→g j=f j):row n (fun j=>Value.int .u64 ((g j:Nat):Int))=row n (fun j=>Value.int .u64 ((f j:Nat):Int)):=yK (fun j hj=>by rw [h j hj])
theorem Fv {n k c:Nat} {g:Nat→Nat}:row n (fun j=>if j=k then Value.int .u64 (c:Int) else Value.int .u64 ((g j:Nat):Int))=row n (fun j=>Value.int .u64 ((if j=k then c else g j:Nat):Int)):=yK (fun j _=>by split <;> rfl)
theorem in117:(Tryd.prog.info? 117).map (fun i=>(i.zero,i.size,i.bytes))=some (some (.int .u64 0),1,8):=by kernel_rfl
theorem I4:(Tryd.prog.info? 110).map (·.size)=some 2:=by kernel_rfl
theorem sz86:(Tryd.prog.info? 86).map (·.size)=some 2:=by kernel_rfl
theorem C3:(Tryd.prog.info? 110).map (·.zero)=some (some (.agg #[.string ⟨#[]⟩,.slice none 0 0])):=by kernel_rfl
theorem ze86:(Tryd.prog.info? 86).map (·.zero)=some (some (.agg #[.slice none 0 0,.slice none 0 0])):=by kernel_rfl
theorem Yz (A:Option Addr) (c:Nat) (l:List Ty) (w:World) (hT:TypesIn w A l) (hv:VT l) (h60:l.length≤60):Calls Tryd.prog 29 #[.slice A l.length c] w fun e w'=>∃ bu bd,e= .returned (GW l.length bu bd)∧TableIn w' l bu bd∧Bel w w':=by
 refine enter Tryd.func29 Tryd.ntmps29 rfl (Nat.le_of_ble_eq_true rfl) ?_;have hB:Bel w w:=Below.refl _ _;refine zn2 ?_;refine qV (cs:=#[.slice none 0 0,.slice none 0 0]) ze86 rfl (fun b2 w1 hb2 s1 hr=>?_);have lo2:=nLT (Bel.size hB) hr;refine zn3 ?_;have z2:=hb2.lt;replace hB:=hB.tr0 s1;have hsz:=Bel.size hB;refine o7 8 [9,10,11,12,13,14,15,3] (fun ix=>Nat.beq ix 2 || Nat.beq ix 5 || Nat.beq ix 7) (fun ix v wv=>match ix with | 0=>v= .slice A l.length c | 1=>v= .int .i64 l.length | 2=>∃ bu,v= .slice (some ⟨bu,0,none⟩) l.length l.length∧w1.heap.size≤bu∧Blk wv bu 117 (row l.length (fun _=> .int .u64 0)) | 3=>v= .slice A l.length c | 4=>v= .int .i64 l.length | 5=>∃ bd,v= .slice (some ⟨bd,0,none⟩) l.length l.length∧w1.heap.size≤bd∧Blk wv bd 117 (row l.length (fun _=> .int .u64 0)) | 6=>∃ bu bd,v= .agg #[.slice (some ⟨bu,0,none⟩) l.length l.length,.slice (some ⟨bd,0,none⟩) l.length l.length]∧w1.heap.size≤bu∧Blk wv bu 117 (row l.length (fun _=> .int .u64 0))∧w1.heap.size≤bd∧Blk wv bd 117 (row l.length (fun _=> .int .u64 0))∧bu≠bd | 7=>∃ b,v= .pointer (some ⟨b,0,none⟩)∧w1.heap.size≤b∧Blk wv b 86 #[.slice none 0 0,.slice none 0 0] | _=>True) kR kR ?_ ?_ ?_
 ·intro ix v wv wv2 h s2
  match ix,h with
  | 0,h=>exact h
  | 1,h=>exact h
  | 2,h=>
   obtain⟨bu,e11,lobu,hbu⟩:=(show ∃ bu,v= .slice (some ⟨bu,0,none⟩) l.length l.length∧w1.heap.size≤bu∧Blk wv bu 117 (row l.length (fun _=> .int .u64 0)) from h)
   exact⟨bu,e11,lobu,hbu.tr0 s2⟩
  | 3,h=>exact h
  | 4,h=>exact h
  | 5,h=>
   obtain⟨bd,e14,lobd,hbd⟩:=(show ∃ bd,v= .slice (some ⟨bd,0,none⟩) l.length l.length∧w1.heap.size≤bd∧Blk wv bd 117 (row l.length (fun _=> .int .u64 0)) from h)
   exact⟨bd,e14,lobd,hbd.tr0 s2⟩
  | 6,h=>
   obtain⟨bu,bd,e15,lobu,hbu,lobd,hbd,hne⟩:=(show ∃ bu bd,v= .agg #[.slice (some ⟨bu,0,none⟩) l.length l.length,.slice (some ⟨bd,0,none⟩) l.length l.length]∧w1.heap.size≤bu∧Blk wv bu 117 (row l.length (fun _=> .int .u64 0))∧w1.heap.size≤bd∧Blk wv bd 117 (row l.length (fun _=> .int .u64 0))∧bu≠bd from h)
   exact⟨bu,bd,e15,lobu,hbu.tr0 s2,lobd,hbd.tr0 s2,hne⟩
  | 7,h=>
   obtain⟨b3,e3,lo3,hb3⟩:=(show ∃ b,v= .pointer (some ⟨b,0,none⟩)∧w1.heap.size≤b∧Blk wv b 86 #[.slice none 0 0,.slice none 0 0] from h)
   exact⟨b3,e3,lo3,hb3.tr0 s2⟩
  | _ + 8,h=>exact trivial
 ·intro ix o hix hoq gg wx s3 hd hdis
  match ix,hix,hoq with
  | 0,_,hoq=>
   cases sI hoq;exact oVq (x8 (v:= .slice _ _ _) rfl) rfl
  | 1,_,hoq=>
   cases sI hoq;have d0:gg 9= .slice A l.length c:=hd 0 (zj kR);have e9:=d0;refine zz 9 _ e9 nu ?_;exact oVq (Ny U22 rfl) rfl
  | 2,_,hoq=>
   cases sI hoq;have hs0:=s3;have d1:gg 10= .int .i64 l.length:=hd 1 (zj kR);have e10:=d1;refine zz 10 _ e10 nu ?_;refine j5 (fun ops Q K=>?_);refine Kx U84 in117 rfl rfl rfl om om (fun b11 w2 hb11 s4 hr=>?_);exact K _ _ ⟨s4,⟨_,rfl,nLT hs0.size hr,hb11⟩,fRq hr hb11.lt⟩
  | 3,_,hoq=>
   cases sI hoq;exact oVq (x8 (v:= .slice _ _ _) rfl) rfl
  | 4,_,hoq=>
   cases sI hoq;have d3:gg 12= .slice A l.length c:=hd 3 (zj kR);have e12:=d3;refine zz 12 _ e12 nu ?_;exact oVq (Ny U22 rfl) rfl
  | 5,_,hoq=>
   cases sI hoq;have hs0:=s3;have d4:gg 13= .int .i64 l.length:=hd 4 (zj kR);have e13:=d4;refine zz 13 _ e13 nu ?_;refine j5 (fun ops Q K=>?_);refine Kx U84 in117 rfl rfl rfl om om (fun b14 w3 hb14 s5 hr=>?_);exact K _ _ ⟨s5,⟨_,rfl,nLT hs0.size hr,hb14⟩,fRq hr hb14.lt⟩
  | 6,_,hoq=>
   cases sI hoq;have d2:∃ bu,gg 11= .slice (some ⟨bu,0,none⟩) l.length l.length∧w1.heap.size≤bu∧Blk wx bu 117 (row l.length (fun _=> .int .u64 0)):=hd 2 (zj kR);obtain⟨bu,e11,lobu,hbu⟩:=d2;have d5:∃ bd,gg 14= .slice (some ⟨bd,0,none⟩) l.length l.length∧w1.heap.size≤bd∧Blk wx bd 117 (row l.length (fun _=> .int .u64 0)):=hd 5 (zj kR);obtain⟨bd,e14,lobd,hbd⟩:=d5;have hne:bu≠bd:=fun h=>hdis 2 5 bu (zj kR) (zj kR) dE rfl rfl (show jz (gg 11)=some bu by rw [e11];rfl) (show jz (gg 14)=some bu by rw [e14,h];rfl)
   refine zz 11 _ e11 nu (zz 14 _ e14 nu ?_);exact oVq (oK (v0:= .slice _ _ _) (v1:= .slice _ _ _) (fun v0 v1=>#[v0,v1]) rfl rfl kR) ⟨_,_,rfl,lobu,hbu,lobd,hbd,hne⟩
  | 7,_,hoq=>
   cases sI hoq;have hs0:=s3;refine j5 (fun ops Q K=>?_);refine qV (cs:=#[.slice none 0 0,.slice none 0 0]) ze86 rfl (fun b3 w4 hb3 s6 hr=>?_);exact K _ _ ⟨s6,⟨_,rfl,nLT hs0.size hr,hb3⟩,fRq hr hb3.lt⟩
  | _ + 8,hix,_=>exact absurd hix om
 intro gg w5 s7 hR hdis;have d6:∃ bu bd,gg 15= .agg #[.slice (some ⟨bu,0,none⟩) l.length l.length,.slice (some ⟨bd,0,none⟩) l.length l.length]∧w1.heap.size≤bu∧Blk w5 bu 117 (row l.length (fun _=> .int .u64 0))∧w1.heap.size≤bd∧Blk w5 bd 117 (row l.length (fun _=> .int .u64 0))∧bu≠bd:=hR 6 dE;obtain⟨bu,bd,e15,lobu,hbu,lobd,hbd,hne⟩:=d6;have d7:∃ b,gg 3= .pointer (some ⟨b,0,none⟩)∧w1.heap.size≤b∧Blk w5 b 86 #[.slice none 0 0,.slice none 0 0]:=hR 7 dE;obtain⟨b3,e3,lo3,hb3⟩:=d7;have h3u:b3≠bu:=fun h=>absurd (vw (h ▸ hb3) hbu) dE
 have h3d:b3≠bd:=fun h=>absurd (vw (h ▸ hb3) hbd) dE
 have or_2_3:b2 < b3:=nLL z2 lo3;have or_2_u:b2 < bu:=nLL z2 lobu;have or_2_d:b2 < bd:=nLL z2 lobd;replace lo3:=nLT hsz lo3;replace lobu:=nLT hsz lobu;replace lobd:=nLT hsz lobd;refine x9 15 _ e15 nu (x9 3 _ e3 nu ?_);refine zk hb3 rfl rfl sz86 rfl zJ (fun w6 hq s8=>?_);replace hb3:=hq;refine ZQ ?_;replace hB:=(hB.tr0 s7).tr1 s8 lo3;replace hb2:=(hb2.tr0 s7).tr1 s8 om;replace hbu:=hbu.tr1 s8 om;replace hbd:=hbd.tr1 s8 om;refine qQ [4,5,7,8,18,19,20,21,22,23,24,25,26,27,28,29,30,31,32,33,34,35,36,37,38,39,40,41,42,43,44,45,46,47,48,49,50,51,52,53,54,55,56,57,58,59,60,61,62,63,64,65,66,67,68,69,70,71,72,73] (fun m g w'=>∃ (k:Nat),k≤l.length∧m=l.length - k∧g 18= .int .i64 k∧Bel w w'∧Blk w' b2 86 #[.slice none 0 0,.slice none 0 0]∧Blk w' b3 86 #[.slice (some ⟨bu,0,none⟩) l.length l.length,.slice (some ⟨bd,0,none⟩) l.length l.length]∧Blk w' bu 117 (row l.length (fun i=> .int .u64 ((upP l k i:Nat):Int)))∧Blk w' bd 117 (row l.length (fun i=> .int .u64 ((dnP l k i:Nat):Int)))) (l.length) ?_ (fun m g3 w7 hI=>?_)
 ·refine⟨0,Nat.zero_le _,rfl,rfl,hB,hb2,hb3,?_,?_⟩
  · rw [J5 (f:=fun _=>0) (fun j _=>by simp [upP])];exact hbu
  · rw [J5 (f:=fun _=>0) (fun j _=>dnP_zero l j)];exact hbd
 obtain⟨k,hk,hm,h18,hB,hb2,hb3,hbu,hbd⟩:=hI;refine zX 18 _ h18 nu (zn6 ?_);refine zW rfl (fun c19=>?_) (fun c19=>?_)
 ·have hlt:k < l.length:=by omega
  obtain⟨tb,to,A',cp,rfl,htb,htr,hpar⟩:=hT.at_ hB hlt;have hmx:=hpar.1;unfold j7 at hmx;refine zn8 ?_;refine wl (qW H2 rfl rfl htr I4) ?_;refine qV (cs:=#[.string ⟨#[]⟩,.slice none 0 0]) C3 rfl (fun b5 w8 hb5 s9 hr=>?_);have:=nLL hb2.lt hr;have:=nLL hbu.lt hr;have:=nLL hbd.lt hr;have:=nLL hb3.lt hr;have lo5:=nLT (Bel.size hB) hr;refine waI rfl ?_;refine zk hb5 rfl rfl I4 rfl zJ (fun w9 hq s10=>?_);replace hb5:=hq;refine zn3 ?_;refine Jx 6 kR kR (fun w10 s11=>?_);refine zn4 ?_;refine ws (r_shl1 rfl rfl om rfl) (zn1 ?_);refine J3 ?_;replace hbu:=((hbu.tr0 s9).tr1 s10 om).tr0 s11;refine xQ (v:= .int _ _) hbu rfl rfl Hk (by rw [row_size];omega) rfl u5 (fun w11 hq s12=>?_);replace hbu:=hq;replace hB:=(((hB.tr0 s9).tr1 s10 lo5).tr0 s11).tr1 s12 lobu;replace hb2:=(((hb2.tr0 s9).tr1 s10 om).tr0 s11).tr1 s12 om;replace hbd:=(((hbd.tr0 s9).tr1 s10 om).tr0 s11).tr1 s12 om;replace hb3:=(((hb3.tr0 s9).tr1 s10 om).tr0 s11).tr1 s12 om;replace hb5:=(hb5.tr0 s11).tr1 s12 om;replace hbu:Blk w11 bu 117 (row l.length (fun i=> .int .u64 ((uS l k (jQ (KZ l k ((l[k]'hlt).par.take 0)) l.length) i:Nat):Int))):=by
    rw [Fv (g:=fun i=>upP l k i)] at hbu;rw [J5 (f:=fun i=>if i=k then 2 ^ k else upP l k i) (fun j _=>by rw [List.take_zero,parM_zero hlt];rfl)];exact hbu
  refine jw ?_;refine qQ [7,32,33,34,35,36,37,38,39,40,41,42,43,44,45,46,47,48] (fun m g w'=>∃ (j:Nat),j≤(l[k]'hlt).par.length∧m=(l[k]'hlt).par.length - j∧g 32= .int .i64 j∧Bel w w'∧Blk w' b2 86 #[.slice none 0 0,.slice none 0 0]∧Blk w' b3 86 #[.slice (some ⟨bu,0,none⟩) l.length l.length,.slice (some ⟨bd,0,none⟩) l.length l.length]∧Blk w' bu 117 (row l.length (fun i=> .int .u64 ((uS l k (jQ (KZ l k ((l[k]'hlt).par.take j)) l.length) i:Nat):Int)))∧Blk w' bd 117 (row l.length (fun i=> .int .u64 ((dnP l k i:Nat):Int)))∧Blk w' b5 110 #[.string (l[k]'hlt).name,.slice A' (l[k]'hlt).par.length cp]) ((l[k]'hlt).par.length) ?_ (fun m g7 w12 hI=>?_)
  ·exact⟨0,Nat.zero_le _,rfl,rfl,hB,hb2,hb3,hbu,hbd,hb5⟩
  obtain⟨j,hj,hmj,h32,hB,hb2,hb3,hbu,hbd,hb5⟩:=hI;refine zX 32 _ h32 nu (zn6 ?_);refine zW rfl (fun c33=>?_) (fun c33=>?_)
  ·have hlj:j < (l[k]'hlt).par.length:=by omega
   obtain⟨pb,po,rfl,hpb,hpc⟩:=hpar.at_ hlj;replace hpc:=hB.cell hpb hpc;have hpr:=hv k hlt _ (List.getElem_mem hlj);obtain⟨pn,hpn⟩:∃ pn:Nat,pn=((l[k]'hlt).par[j]).toNat:=⟨_,rfl⟩
   have hpi:(l[k]'hlt).par[j]=(pn:Int):=by rw [hpn];exact(Int.toNat_of_nonneg hpr.1).symm
   rw [hpi] at hpc hpr;have hXl:=Qj (KZ l k ((l[k]'hlt).par.take j)) h60;refine zn7 ?_;refine wl (qY (v:= .int _ _) U3 rfl rfl hpc) (zn3 ?_);refine Jx 12 kR kR (fun w13 s13=>?_);refine zn4 ?_;replace hbu:=hbu.tr0 s13;refine ws (qY (v:= .int _ _) Vk rfl rfl (hbu.cell (j9 hlt))) (zn4 ?_);refine ws (qY (v:= .int _ _) Vk rfl rfl (hbu.cell (j9 om))) (ws (Y0 rfl rfl (uS_bd h60 hXl) (uS_bd h60 hXl)) (zn1 ?_));refine J3 ?_;refine xQ (v:= .int _ _) hbu rfl rfl Hk (by rw [row_size];omega) rfl u5 (fun w14 hq s14=>?_);replace hbu:=hq;replace hbu:Blk w14 bu 117 (row l.length (fun i=> .int .u64 ((uS l k (jQ (KZ l k ((l[k]'hlt).par.take (j + 1))) l.length) i:Nat):Int))):=by
     rw [Fv (g:=fun i=>uS l k (jQ (KZ l k ((l[k]'hlt).par.take j)) l.length) i)] at hbu
     rw [J5 (f:=fun i=>if i=k then uS l k (jQ (KZ l k ((l[k]'hlt).par.take j)) l.length) k ||| uS l k (jQ (KZ l k ((l[k]'hlt).par.take j)) l.length) pn else uS l k (jQ (KZ l k ((l[k]'hlt).par.take j)) l.length) i) (fun i _=>by
       rw [uS_k,uS_lt (show pn < k by omega),hpn,parM_snoc hlj];by_cases e:i=k
       · simp [e,uS_k]
       · simp [e,uS])]
     exact hbu
   refine zn7 ?_;refine y6 ((l[k]'hlt).par.length - (j + 1)) om agA ?_;replace hB:=(hB.tr0 s13).tr1 s14 lobu;replace hb2:=(hb2.tr0 s13).tr1 s14 om;replace hbd:=(hbd.tr0 s13).tr1 s14 om;replace hb3:=(hb3.tr0 s13).tr1 s14 om;replace hb5:=(hb5.tr0 s13).tr1 s14 om;exact⟨j + 1,by omega,rfl,rfl,hB,hb2,hb3,hbu,hbd,hb5⟩
  have hjl:j=(l[k]'hlt).par.length:=by omega
  rw [hjl,List.take_length,parM_end hv hlt,J5 (f:=fun i=>upP l (k + 1) i) (fun i _=>uS_end l k i)] at hbu;refine Z8 ?_;refine qQ [8,51,52,53,54,55,56,57,58,59,60,61,62,63,64,65,66,67,68,69,70,71,72] (fun m g w'=>∃ (j:Nat),j≤l.length∧m=l.length - j∧g 51= .int .i64 j∧Bel w w'∧Blk w' b2 86 #[.slice none 0 0,.slice none 0 0]∧Blk w' b3 86 #[.slice (some ⟨bu,0,none⟩) l.length l.length,.slice (some ⟨bd,0,none⟩) l.length l.length]∧Blk w' bu 117 (row l.length (fun i=> .int .u64 ((upP l (k + 1) i:Nat):Int)))∧Blk w' bd 117 (row l.length (fun i=> .int .u64 ((dS l k j i:Nat):Int)))) (l.length) ?_ (fun m g12 w15 hI=>?_)
  ·refine⟨0,Nat.zero_le _,rfl,rfl,hB,hb2,hb3,hbu,?_⟩;rw [J5 (f:=fun i=>dnP l k i) (fun i _=>by simp [dS])];exact hbd
  obtain⟨j,hj,hmj,h51,hB,hb2,hb3,hbu,hbd⟩:=hI;refine zX 51 _ h51 nu (zn6 ?_);refine zW rfl (fun c52=>?_) (fun c52=>?_)
  ·have hlj:j < l.length:=by omega
   have huk:upP l (k + 1) k=upN l k:=by simp [upP]
   have huv:=RQ h60 k;have hbit:=D7 (upN l k) j;have hbt:(upN l k).testBit j=sub l k j:=by unfold upN;rw [jZ];simp [hlj]
   rw [hbt] at hbit;refine E2 ?_;refine wl (qY (v:= .int _ _) Vk rfl rfl (hbu.cell (j9 hlt))) (wmI rfl (wl (HV (b:=j) rfl rfl om rfl) (wl (Ky (b:=1) rfl rfl (by rw [huk];exact Nat.lt_of_le_of_lt (Nat.shiftRight_le _ _) huv) dE) (zn3 ?_))));refine zW rfl (fun c62=>?_) (fun c62=>?_)
   ·have hs1:sub l k j=true:=by rw [← hbit];exact decide_eq_true (by rw [huk] at c62;omega)
    refine Jx 9 kR kR (fun w16 s15=>?_);refine zn4 ?_;replace hbd:=hbd.tr0 s15;refine ws (qY (v:= .int _ _) Vk rfl rfl (hbd.cell (j9 hlj))) (zn1 ?_);refine ws (r_shl1 rfl rfl om rfl) (ws (Y0 rfl rfl (dS_lt h60 _ _ _) (nLL (Nat.pow_lt_pow_right dE (show k < 60 by omega)) dE)) (zn1 ?_));refine J3 ?_;refine xQ (v:= .int _ _) hbd rfl rfl Hk (by rw [row_size];omega) rfl u5 (fun w17 hq s16=>?_);replace hbd:=hq;rw [Fv (g:=fun i=>dS l k j i),J5 (f:=fun i=>dS l k (j + 1) i) (fun i _=>dS_yes hlt hs1 i)] at hbd;refine zn7 ?_;refine y6 (l.length - (j + 1)) om agA ?_;replace hB:=(hB.tr0 s15).tr1 s16 lobd;replace hb2:=(hb2.tr0 s15).tr1 s16 om;replace hbu:=(hbu.tr0 s15).tr1 s16 om;replace hb3:=(hb3.tr0 s15).tr1 s16 om;exact⟨j + 1,by omega,rfl,rfl,hB,hb2,hb3,hbu,hbd⟩
   have hs1:sub l k j=false:=by rw [← hbit];exact decide_eq_false (by rw [huk] at c62;omega)
   rw [J5 (f:=fun i=>dS l k (j + 1) i) (fun i _=>dS_no hs1 i)] at hbd;refine zn7 ?_;refine y6 (l.length - (j + 1)) om agA ?_;exact⟨j + 1,by omega,rfl,rfl,hB,hb2,hb3,hbu,hbd⟩
  have hjl:j=l.length:=by omega
  rw [hjl,J5 (f:=fun i=>dnP l (k + 1) i) (fun i hi=>by simp [dS,hi])] at hbd;refine kv ?_;refine y6 (l.length - (k + 1)) om agA ?_;exact⟨k + 1,by omega,rfl,rfl,hB,hb2,hb3,hbu,hbd⟩
 have hkl:k=l.length:=by omega
 subst hkl;refine zn8 ?_;refine zk hb2 rfl rfl sz86 rfl zJ (fun w18 hq s17=>?_);replace hb2:=hq;refine zn3 ?_;refine y7 (.inl rfl) rfl (zw U86 rfl rfl hb2.range0 sz86) ?_;replace hB:=hB.tr1 s17 lo2;refine⟨bu,bd,rfl,⟨?_,?_⟩,hB⟩;replace hbu:=hbu.tr1 s17 om
 · rw [J5 (f:=upN l) (fun i hi=>upP_end hi)] at hbu;exact hbu
 replace hbd:=hbd.tr1 s17 om
 · rw [J5 (f:=Zw l) (fun i _=>dnP_end l i)] at hbd;exact hbd
end Go.Proofs.YtdgnllfbooklcaaDoor
