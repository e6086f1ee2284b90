/- What these functions of the program compute, at every world: glosswright/hierarchy.Validate. What these functions of the program compute, at every world: . Plain laws of the order of types: meets, joins, remainders. No program in sight. Feature graphs as plain values, their faults, and what is reached in them. No program in sight but for how a world holds them. -/
import Derived.Test.YtdgnllfbooklcaaDoorU
import Derived.Test.YtdgnllfbooklcaaDoorName
import Derived.Test.YtdgnllfbooklcaaDoorTables
namespace Go.Proofs.YtdgnllfbooklcaaDoor
open Go.RowKit
theorem NZ {i:Int}:∀ {ps:List Int} {last:Int},uV i last ps=0→∀ p ∈ ps,0≤p∧p < i
  | [],_,_,p,hp=>by cases hp
  | q :: ps,last,h,p,hp=>by
    unfold uV at h
    by_cases h1:q < 0∨i≤q
    · rw [if_pos h1] at h;cases h
    rw [if_neg h1] at h
    by_cases h2:q≤last
    · rw [if_pos h2] at h;cases h
    rw [if_neg h2] at h
    rcases List.mem_cons.1 hp with rfl | hp
    · omega
    · exact NZ h p hp
theorem RY {l:List Ty} {k:Nat} (hk:k < l.length) (h:jX l k=0):yX (l[k]).name=true∧oJ ((l.take k).map (·.name)) (l[k]).name=false∧(decide (k=0) == (l[k]).par.isEmpty)=true∧uV k (-1) (l[k]).par=0:=by
  cases h1:yX (l[k]).name with
  | false=>rw [ty10 l k hk h1] at h;cases h
  | true=>
    cases h2:oJ ((l.take k).map (·.name)) (l[k]).name with
    | true=>rw [ty7 l k hk h1 h2] at h;cases h
    | false=>
      cases h3:(decide (k=0) == (l[k]).par.isEmpty) with
      | false=>rw [ty5 l k hk h1 h2 h3] at h;cases h
      | true=>
        rw [H7 l k hk h1 h2 h3,List.drop_zero] at h;exact⟨rfl,rfl,rfl,h⟩
theorem u4 {f:Nat→Int}:∀ {m i:Nat},(qZ f i m).1=0→∀ j,i≤j→j < i + m→f j=0
  | 0,i,_,j,h1,h2=>by omega
  | m + 1,i,h,j,h1,h2=>by
    unfold qZ at h
    by_cases h3:f i≠0
    · rw [if_pos h3] at h;exact absurd h h3
    rw [if_neg h3] at h
    by_cases e:j=i
    · subst e;exact Decidable.not_not.1 h3
    · exact u4 h j om om
theorem D0 {l:List Ty} (h:(xX l).1=0):¬(l.length=0∨60 < l.length):=by
  intro hb;simp only [xX,if_pos hb] at h;cases h
theorem types_ok {l:List Ty} (h:(xX l).1=0) {k:Nat} (hk:k < l.length):jX l k=0:=by
  have hb:=D0 h;simp only [xX,if_neg hb] at h;exact u4 h k (Nat.zero_le _) om
theorem vt_of {l:List Ty} (h:(xX l).1=0):VT l:=fun _ hi p hp=>NZ (RY hi (types_ok h hi)).2.2.2 p hp
def RX (l:List Ty) (b:Nat):Int:=if (List.range b).any (fun a=>(jK l a b).2.2) then 16 else 0
theorem BZ {l:List Ty} {a b:Nat} (h:a < b) (hm:(jK l a b).2.2=true):RX l b=16:=by
  unfold RX;rw [if_pos (List.any_eq_true.2 ⟨a,List.mem_range.2 h,hm⟩)]
theorem unmF_no {l:List Ty} {b:Nat} (h:∀ a,a < b→(jK l a b).2.2=false):RX l b=0:=by
  unfold RX;rw [if_neg];intro hc;obtain⟨a,ha,hm⟩:=List.any_eq_true.1 hc;rw [h a (List.mem_range.1 ha)] at hm;cases hm
def OX (n:Nat) (t:Ft):Prop:=t.of < 0∨(n:Int)≤t.of∨t.val < 0∨(n:Int)≤t.val
instance (n:Nat) (t:Ft):Decidable (OX n t):=by unfold OX;infer_instance
def Zv (n:Nat) (fs:List Ft) (i:Nat):Int:=match fs[i]? with
  | none=>0
  | some t=>if yX t.name=false then 10 else if oJ ((fs.take i).map (·.name)) t.name=true then 7 else if OX n t then 3 else 0
theorem ft10 (n:Nat) (l:List Ft) (k:Nat) (hlt:k < l.length) (h1:yX l[k].name=false):Zv n l k=10:=by
  simp only [Zv,List.getElem?_eq_getElem hlt,h1,if_true]
theorem ft7 (n:Nat) (l:List Ft) (k:Nat) (hlt:k < l.length) (h1:yX l[k].name=true) (h2:oJ ((l.take k).map (·.name)) l[k].name=true):Zv n l k=7:=by
  simp only [Zv,List.getElem?_eq_getElem hlt,h1,h2,if_true];rfl
theorem ft3 (n:Nat) (l:List Ft) (k:Nat) (hlt:k < l.length) (h1:yX l[k].name=true) (h2:oJ ((l.take k).map (·.name)) l[k].name=false) (h3:OX n l[k]):Zv n l k=3:=by
  simp only [Zv,List.getElem?_eq_getElem hlt,h1,h2,if_pos h3];rfl
theorem ft0 (n:Nat) (l:List Ft) (k:Nat) (hlt:k < l.length) (h1:yX l[k].name=true) (h2:oJ ((l.take k).map (·.name)) l[k].name=false) (h3:¬OX n l[k]):Zv n l k=0:=by
  simp only [Zv,List.getElem?_eq_getElem hlt,h1,h2,if_neg h3];rfl
def Kj (l:List Ty):Fl:=qZ (RX l) 0 l.length
def qq (l:List Ty) (fs:List Ft):Fl:=
  if 40 < fs.length then (2,-1)
  else if (xX l).1≠0 then xX l
  else if (Kj l).1≠0 then Kj l
  else qZ (Zv l.length fs) 0 fs.length
theorem hf_size {l:List Ty} {fs:List Ft} (h:l.length=0∨60 < l.length∨40 < fs.length):qq l fs=(2,-1):=by
  unfold qq;by_cases h4:40 < fs.length
  · rw [if_pos h4]
  · have hb:l.length=0∨60 < l.length:=by omega
    have ht:xX l=(2,-1):=by simp only [xX,if_pos hb]
    rw [if_neg h4,ht];rfl
theorem hf_types {l:List Ty} {fs:List Ft} (h:¬40 < fs.length) (ht:(xX l).1≠0):qq l fs=((xX l).1,(xX l).2):=by
  unfold qq;rw [if_neg h,if_pos ht]
theorem hf_unmet {l:List Ty} {fs:List Ft} (h:¬40 < fs.length) (ht:(xX l).1=0) {k:Int} (hu:Kj l=(16,k)):qq l fs=(16,k):=by
  unfold qq;rw [if_neg h,if_neg (by rw [ht];exact fun h=>h rfl),hu];rfl
theorem hf_rest {l:List Ty} {fs:List Ft} (h:¬40 < fs.length) (ht:(xX l).1=0) (hu:Kj l=(0,0)):qq l fs=qZ (Zv l.length fs) 0 (fs.length - 0):=by
  unfold qq;rw [if_neg h,if_neg (by rw [ht];exact fun h=>h rfl),hu];rfl
theorem fn29:zZ Tryd.prog 29=true:=by kernel_rfl
theorem WQ:zZ Tryd.prog 46=true:=by kernel_rfl
theorem QV:zZ Tryd.prog 62=true:=by kernel_rfl
theorem fn63:zZ Tryd.prog 63=true:=by kernel_rfl
theorem fn64:zZ Tryd.prog 64=true:=by kernel_rfl
theorem vj:(Tryd.prog.info? 36).map (·.size)=some 2:=by kernel_rfl
theorem sz72:(Tryd.prog.info? 72).map (·.size)=some 3:=by kernel_rfl
theorem Gz:(Tryd.prog.info? 3).map (·.zero)=some (some (.int .i64 0)):=by kernel_rfl
theorem EJ:(Tryd.prog.info? 36).map (·.zero)=some (some (.agg #[.int .i64 0,.int .i64 0])):=by kernel_rfl
theorem ze72:(Tryd.prog.info? 72).map (·.zero)=some (some (.agg #[.string ⟨#[]⟩,.int .i64 0,.int .i64 0])):=by kernel_rfl
theorem I1 (A B:Option Addr) (c d:Nat) (l:List Ty) (fs:List Ft) (w:World) (hTab:TabIn w) (hT:TypesIn w A l) (hF:FeatsIn w B fs):Calls Tryd.prog 45 #[.agg #[.slice A l.length c,.slice B fs.length d]] w fun e w'=>e= .returned (flV (qq l fs))∧Bel w w':=by
 refine enter Tryd.func45 Tryd.ntmps45 rfl (Nat.le_of_ble_eq_true rfl) ?_;have hB:Bel w w:=Below.refl _ _;refine zn2 ?_;refine xk (v:= .agg #[_,_]) (cs:=#[_,_]) rfl rfl (fun b1 w1 hb1 s1 hr=>?_);refine qV (cs:=#[.int .i64 0,.int .i64 0]) EJ rfl (fun b2 w2 hb2 s2 hr=>?_);replace hB:=hB.tr0 s1;have lo2:=nLT (Bel.size hB) hr;refine zn4 ?_;replace hB:=hB.tr0 s2;refine yV [15,16,17,18,19,20,21,22,23,24,25,26,27,28,29,30] 30 (.bool (decide (l.length=0∨60 < l.length∨40 < fs.length))) nu ?_ (fun gq=>?_)
 ·refine zn6 ?_;refine zY 19 rfl (fun g19=>?_) (fun g19=>?_)
  ·refine ZQ ?_;refine zQ (e_R ⟨rfl,agA,?_⟩);exact clA
  refine kv ?_;refine zY 25 rfl (fun g25=>?_) (fun g25=>?_)
  ·refine zn5 ?_;refine zQ (e_R ⟨rfl,agA,?_⟩);exact clA
  refine zn9 ?_;refine zQ (e_R ⟨rfl,agA,?_⟩);exact clA
 refine e_S ?_;refine zW rfl (fun c30=>?_) (fun c30=>?_)
 ·refine zn2 ?_;refine qz QV (kK _ _ _) rfl (fun e' w3 hr=>?_);obtain⟨rfl,s3⟩:=hr;replace s3:=sB s3;refine⟨_,rfl,?_⟩;replace hb2:=hb2.tr0 s3;refine zk hb2 rfl rfl vj rfl zJ (fun w4 hq s4=>?_);replace hb2:=hq;refine zn4 ?_;refine y7 (.inl rfl) rfl (zw U36 rfl rfl hb2.range0 vj) ?_;replace hB:=(hB.tr0 s3).tr1 s4 lo2;exact⟨xK (hf_size c30),hB⟩
 refine zn7 ?_;refine qz fn63 (GJ _ _ _ _ (hT.mono hB)) rfl (fun e' w5 hr=>?_);obtain⟨rfl,s5⟩:=hr;replace s5:=sB s5;refine⟨_,rfl,?_⟩;refine yv (cs:=#[.int .i64 0,.int .i64 0]) EJ rfl (fun _=>rfl) (fun _=>rfl) vj rfl zJ (fun b3 w7 hb3 s6 hr=>?_);refine zn9 ?_;replace hB:=hB.tr0 (s5.trans s6);replace hb2:=hb2.tr0 (s5.trans s6);refine zW rfl (fun c37=>?_) (fun c37=>?_)
 ·refine zn3 ?_;refine zk hb2 rfl rfl vj rfl zJ (fun w8 hq s7=>?_);replace hb2:=hq;refine zn4 ?_;refine y7 (.inl rfl) rfl (zw U36 rfl rfl hb2.range0 vj) ?_;replace hB:=hB.tr1 s7 lo2;exact⟨xK (hf_types om om),hB⟩
 have ht0:(xX l).1=0:=by omega
 have hv:=vt_of ht0;refine zn6 ?_;refine qz fn29 (Yz _ _ _ _ (hT.mono hB) hv om) rfl (fun e' w9 hr=>?_);obtain⟨bu,bd,rfl,⟨hbu,hbd⟩,s8⟩:=hr;replace s8:=sB s8;replace hb2:=hb2.tr0 s8;have h2u:b2≠bu:=fun h=>absurd (vw (h ▸ hb2) hbu) dE
 have h2d:b2≠bd:=fun h=>absurd (vw (h ▸ hb2) hbd) dE
 refine⟨_,rfl,?_⟩;refine yv (cs:=#[.slice none 0 0,.slice none 0 0]) ze86 rfl (fun _=>rfl) (fun _=>rfl) sz86 rfl zJ (fun b4 w11 hb4 s9 hr=>?_);refine jw ?_;replace hb1:=hb1.tr0 (s2.trans (s5.trans (s6.trans (s8.trans s9))));replace hB:=hB.tr0 (s8.trans s9);replace hb2:=hb2.tr0 s9;replace hbu:=hbu.tr0 s9;replace hbd:=hbd.tr0 s9;refine qQ [5,6,7,8,9,45,46,47,48,49,50,51,52,53,54,55,56,57,58,59,60,61,62,63,64] (fun m g w'=>∃ (k:Nat),k≤l.length∧m=l.length - k∧g 45= .int .i64 k∧Bel w w'∧Blk w' b1 25 #[.slice A l.length c,.slice B fs.length d]∧Blk w' b2 36 #[.int .i64 0,.int .i64 0]∧Blk w' b4 86 #[.slice (some ⟨bu,0,none⟩) l.length l.length,.slice (some ⟨bd,0,none⟩) l.length l.length]∧Blk w' bu 117 (rU l.length (upN l))∧Blk w' bd 117 (rU l.length (Zw l))∧Kj l=qZ (RX l) k (l.length - k)) (l.length) ?_ (fun m g8 w12 hI=>?_)
 ·exact⟨0,Nat.zero_le _,rfl,rfl,hB,hb1,hb2,hb4,hbu,hbd,rfl⟩
 obtain⟨k,hk,hm,h45,hB,hb1,hb2,hb4,hbu,hbd,hU⟩:=hI;refine zX 45 _ h45 nu (zn6 ?_);refine zW rfl (fun c46=>?_) (fun c46=>?_)
 ·have hlt:k < l.length:=by omega
  refine G6 ?_;refine qQ [6,7,8,9,49,50,51,52,53,54,55,56,57,58,59,60,61,62,63] (fun m g w'=>∃ (a:Nat),a≤k∧m=k - a∧g 49= .int .i64 a∧Bel w w'∧Blk w' b1 25 #[.slice A l.length c,.slice B fs.length d]∧Blk w' b2 36 #[.int .i64 0,.int .i64 0]∧Blk w' b4 86 #[.slice (some ⟨bu,0,none⟩) l.length l.length,.slice (some ⟨bd,0,none⟩) l.length l.length]∧Blk w' bu 117 (rU l.length (upN l))∧Blk w' bd 117 (rU l.length (Zw l))∧(∀ j,j < a→(jK l j k).2.2=false)) (k) ?_ (fun m g11 w13 hI=>?_)
  ·exact⟨0,Nat.zero_le _,rfl,rfl,hB,hb1,hb2,hb4,hbu,hbd,fun j hj=>by omega⟩
  obtain⟨a,ha,hma,h49,hB,hb1,hb2,hb4,hbu,hbd,hM⟩:=hI;refine zX 49 _ h49 nu (zn6 ?_);refine zW rfl (fun c50=>?_) (fun c50=>?_)
  ·refine G7 ?_;refine qz fn64 (T9 l bu bd a k _ (hTab.mono hB) ⟨hbu,hbd⟩ hv om om hlt) rfl (fun e' w14 hr=>?_);obtain⟨rfl,s10⟩:=hr;replace s10:=sB s10;refine⟨_,rfl,?_⟩;refine wmT rfl (wl (yZ (v:= .int _ _) rfl rfl) (wl (yZ (v:= .bool _) rfl rfl) (wl (yZ (v:= .bool _) rfl rfl) (kv ?_))));replace hB:=hB.tr0 s10;replace hb2:=hb2.tr0 s10;refine kw rfl (fun c60=>?_) (fun c60=>?_)
   ·have hun:=BZ (show a < k by omega) c60;have hfin:=hf_unmet (fs:=fs) om ht0 (hU.trans (xJ om hun dE));refine zn3 ?_;refine qz QV (kK _ _ _) rfl (fun e' w15 hr=>?_);obtain⟨rfl,s11⟩:=hr;replace s11:=sB s11;refine⟨_,rfl,?_⟩;replace hb2:=hb2.tr0 s11;refine zk hb2 rfl rfl vj rfl zJ (fun w16 hq s12=>?_);replace hb2:=hq;refine jw ?_;refine y7 (.inl rfl) rfl (zw U36 rfl rfl hb2.range0 vj) ?_;replace hB:=(hB.tr0 s11).tr1 s12 lo2;exact⟨xK hfin,hB⟩
   refine zn7 ?_;refine y6 (k - (a + 1)) om agA ?_;replace hb1:=hb1.tr0 s10;replace hbu:=hbu.tr0 s10;replace hbd:=hbd.tr0 s10;replace hb4:=hb4.tr0 s10
   exact⟨a + 1,by omega,rfl,rfl,hB,hb1,hb2,hb4,hbu,hbd,fun j hj=>by
     by_cases e:j=a
     · subst e;exact c60
     · exact hM j om⟩
  have hun:RX l k=0:=unmF_no (fun j hj=>hM j om);refine kv ?_;refine y6 (l.length - (k + 1)) om agA ?_;exact⟨k + 1,by omega,rfl,rfl,hB,hb1,hb2,hb4,hbu,hbd,hU.trans (jj hlt hun)⟩
 have hR:=Lib.hid (hf_rest (fs:=fs) om ht0 (hU.trans (kj om)));refine zn7 ?_;refine wl_mm (fun b65 w17 hb65 s13 hr=>?_);have:=nLL hb1.lt hr;have:=nLL hb2.lt hr;have lo65:=nLT (Bel.size hB) hr;refine wl (u7 (v:= .map _) rfl) (jw ?_);replace hB:=hB.tr0 s13;replace hb1:=hb1.tr0 s13;replace hb2:=hb2.tr0 s13;refine qQ [11,12,13,14,69,70,71,72,73,74,75,76,77,78,79,80,81,82,83,84,85,86,87,88,89,90,91,92,93,94,95,96,97,98,99,100,101,102,103,104,105,106,107,108,109,110,111,112,113,114,115,116,117,118,119,120] (fun m g w'=>∃ (k:Nat) (mp:List (ByteArray×Value)),k≤fs.length∧m=fs.length - k∧g 69= .int .i64 k∧Bel w w'∧Blk w' b1 25 #[.slice A l.length c,.slice B fs.length d]∧Blk w' b2 36 #[.int .i64 0,.int .i64 0]∧MapS w' b65 mp∧(∀ s,lkB mp s=oJ ((fs.take k).map (·.name)) s)∧qq l fs=qZ (Zv l.length fs) k (fs.length - k)) (fs.length) ?_ (fun m g20 w18 hI=>?_)
 ·exact⟨0,[],Nat.zero_le _,rfl,rfl,hB,hb1,hb2,hb65,fun s=>rfl,hR.out⟩
 obtain⟨k,mp,hk,hm,h69,hB,hb1,hb2,hb65,hmp,hR'⟩:=hI;refine zX 69 _ h69 nu (zn6 ?_);refine zW rfl (fun c70=>?_) (fun c70=>?_)
 ·have hlt:k < fs.length:=by omega
  obtain⟨tb,to,rfl,htb,htr⟩:=hF.at_ hB hlt;refine zn8 ?_;refine wl (qW U72 rfl rfl htr sz72) ?_;refine qV (cs:=#[.string ⟨#[]⟩,.int .i64 0,.int .i64 0]) ze72 rfl (fun b12 w19 hb12 s14 hr=>?_);have:=nLL hb1.lt hr;have:=nLL hb2.lt hr;have:=nLL hb65.lt hr;have lo12:=nLT (Bel.size hB) hr;refine waI rfl ?_;refine zk hb12 rfl rfl sz72 rfl zJ (fun w20 hq s15=>?_);replace hb12:=hq;refine zn7 ?_;refine qz WQ (IW _ _) rfl (fun e' w21 hr=>?_);obtain⟨rfl,rfl⟩:=hr;refine⟨_,rfl,?_⟩;refine zn3 ?_;replace hB:=(hB.tr0 s14).tr1 s15 lo12;replace hb2:=(hb2.tr0 s14).tr1 s15 om;refine kw rfl (fun c77=>?_) (fun c77=>?_)
  ·have hty:=ft10 l.length fs k hlt (by simpa using c77);refine zn3 ?_;refine qz QV (kK _ _ _) rfl (fun e' w22 hr=>?_);obtain⟨rfl,s16⟩:=hr;replace s16:=sB s16;refine⟨_,rfl,?_⟩;replace hb2:=hb2.tr0 s16;refine zk hb2 rfl rfl vj rfl zJ (fun w23 hq s17=>?_);replace hb2:=hq;refine zn9 ?_;refine y7 (.inl rfl) rfl (zw U36 rfl rfl hb2.range0 vj) ?_;replace hB:=(hB.tr0 s16).tr1 s17 lo2;exact⟨xK (hR'.trans (xJ (c:=10) om hty dE)),hB⟩
  have hnm:yX (fs[k]'hlt).name=true:=by simpa using c77
  refine zn5 ?_;refine wl (x8 (v:= .map _) rfl) (zn2 ?_);replace hb65:=(hb65.tr0 s14).tr1 s15 om;refine wl (r_lkS hb65 Rq U9 Gz rfl rfl) (wmT rfl (wl (yZ (v:=_) rfl rfl) (wl (yZ (v:= .bool _) rfl rfl) (wl (u7 (v:=_) rfl) (zn8 ?_)))));refine kw rfl (fun c87=>?_) (fun c87=>?_)
  ·have hty:=ft7 l.length fs k hlt hnm ((hmp _).symm.trans c87);refine zn3 ?_;refine qz QV (kK _ _ _) rfl (fun e' w24 hr=>?_);obtain⟨rfl,s18⟩:=hr;replace s18:=sB s18;refine⟨_,rfl,?_⟩;replace hb2:=hb2.tr0 s18;refine zk hb2 rfl rfl vj rfl zJ (fun w25 hq s19=>?_);replace hb2:=hq;refine zn9 ?_;refine y7 (.inl rfl) rfl (zw U36 rfl rfl hb2.range0 vj) ?_;replace hB:=(hB.tr0 s18).tr1 s19 lo2;exact⟨xK (hR'.trans (xJ (c:=7) om hty dE)),hB⟩
  have hsn:oJ ((fs.take k).map (·.name)) (fs[k]'hlt).name=false:=by rw [← hmp];exact c87
  have hmp':∀ s,lkB (MK mp (fs[k]'hlt).name (.int .i64 k)) s=oJ ((fs.take (k + 1)).map (·.name)) s:=fun s=>by
    rw [gz _ _ _ c87,XX fs hlt,List.map_append,List.map_cons,List.map_nil,MW,← hmp];simp [lkB]
  refine zn4 ?_;refine wl (x8 (v:= .map _) rfl) (zn3 ?_);refine Rv (v:= .int _ _) hb65 Rq U9 rfl rfl rfl (fun w26 hq s20=>?_);replace hb65:=hq;refine zn3 ?_;replace hB:=hB.tr1 s20 lo65;replace hb2:=hb2.tr1 s20 om;refine yV [94,95,96,97,98,99,100,101,102,103,104,105,106,107,108,109,110,111,112,113,114,115,116,117] 117 (.bool (decide ((fs[k]'hlt).of < 0∨(l.length:Int)≤(fs[k]'hlt).of∨(fs[k]'hlt).val < 0∨(l.length:Int)≤(fs[k]'hlt).val))) nu ?_ (fun gq=>?_)
  ·refine zn5 ?_;refine zY 97 rfl (fun g97=>?_) (fun g97=>?_)
   ·refine zn20 ?_;refine zQ (e_R ⟨rfl,agA,?_⟩);exact clA
   refine V8 ?_;refine zY 105 rfl (fun g105=>?_) (fun g105=>?_)
   ·refine jw ?_;refine zQ (e_R ⟨rfl,agA,?_⟩);exact clA
   refine zn8 ?_;refine zY 110 rfl (fun g110=>?_) (fun g110=>?_)
   ·refine zn7 ?_;refine zQ (e_R ⟨rfl,agA,?_⟩);exact clA
   refine Z8 ?_;refine zQ (e_R ⟨rfl,agA,?_⟩);exact clA
  refine e_S ?_;refine zW rfl (fun c117=>?_) (fun c117=>?_)
  ·have hty:=ft3 l.length fs k hlt hnm hsn c117;refine zn3 ?_;refine qz QV (kK _ _ _) rfl (fun e' w27 hr=>?_);obtain⟨rfl,s21⟩:=hr;replace s21:=sB s21;refine⟨_,rfl,?_⟩;replace hb2:=hb2.tr0 s21;refine zk hb2 rfl rfl vj rfl zJ (fun w28 hq s22=>?_);replace hb2:=hq;refine zn8 ?_;refine y7 (.inl rfl) rfl (zw U36 rfl rfl hb2.range0 vj) ?_;replace hB:=(hB.tr0 s21).tr1 s22 lo2;exact⟨xK (hR'.trans (xJ (c:=3) om hty dE)),hB⟩
  have hty:=ft0 l.length fs k hlt hnm hsn c117;refine zn7 ?_;refine y6 (fs.length - (k + 1)) om agA ?_;replace hb1:=((hb1.tr0 s14).tr1 s15 om).tr1 s20 om;exact⟨k + 1,MK mp (fs[k]'hlt).name (.int .i64 k),by omega,rfl,rfl,hB,hb1,hb2,hb65,hmp',hR'.trans (jj hlt hty)⟩
 refine zn7 ?_;refine wl (uZ (vs:=#[]) (cs:=#[.int .i64 0,.int .i64 0]) (by simp) kR) ?_;refine zk hb2 rfl rfl vj rfl zJ (fun w29 hq s23=>?_);replace hb2:=hq;refine zn3 ?_;refine y7 (.inl rfl) rfl (zw U36 rfl rfl hb2.range0 vj) ?_;replace hB:=hB.tr1 s23 lo2;exact⟨xK (hR'.trans (kj om)),hB⟩
end Go.Proofs.YtdgnllfbooklcaaDoor
namespace Go.Proofs.YtdgnllfbooklcaaDoor
open Go.RowKit
theorem meet_none {l:List Ty} {a b:Nat} (h:∀ i,i < l.length→gY l a b i=false):(jK l a b).2.2=false:=by
  have h0:vK l a b=0:=mask_eq_zero.2 h;simp only [jK,if_pos h0]
theorem meet_some {l:List Ty} (hv:VT l) (h60:l.length≤60) {a b m:Nat} (hm:m < l.length) (hcm:gY l a b m=true) (hl:∀ i,i < m→gY l a b i=false) (hs:∀ i,i < l.length→gY l a b i=true→sub l i m=true):(jK l a b).2.2=false:=by
  have h0:vK l a b≠0:=fun h=>by
    have:=mask_eq_zero.1 h m hm;rw [hcm] at this;cases this
  have hz:=M9 h60 h0;have he:Lib.ctz 64 (vK l a b)=m:=by
    have h1:¬Lib.ctz 64 (vK l a b) < m:=fun h=>by
      have:=hl _ h;rw [show gY l a b (Lib.ctz 64 (vK l a b))=true from hz.2.1] at this;cases this
    have h2:¬m < Lib.ctz 64 (vK l a b):=fun h=>by
      have:=hz.2.2 m h;rw [hcm] at this;cases this
    omega
  have hd:Zw l (Lib.ctz 64 (vK l a b))=vK l a b:=by
    rw [he];refine jy (fun i hi=>?_);cases h1:sub l i m with
    | true=>
      simp only [gY,Bool.and_eq_true] at hcm;simp [gY,Q6 hv h1 hcm.1,Q6 hv h1 hcm.2]
    | false=>
      cases h2:gY l a b i with
      | false=>rfl
      | true=>rw [hs i hi h2] at h1;cases h1
  simp only [jK,if_neg h0,hd,ne_eq,not_true_eq_false,if_false]
inductive MS (l:List Ty) (a b c:Nat) (m:Int):Prop
  | none (h:m= -1) (h0:∀ i,i < c→gY l a b i=false)
  | some (n:Nat) (h:m=n) (hn:n < c) (h1:gY l a b n=true) (h2:∀ i,i < n→gY l a b i=false) (h3:∀ i,i < c→gY l a b i=true→sub l i n=true)
theorem MS.start (l:List Ty) (a b:Nat):MS l a b 0 (-1):= .none rfl (fun i h=>by omega)
theorem MS.skip {l:List Ty} {a b c:Nat} {m:Int} (h:MS l a b c m) (hc:gY l a b c=false):MS l a b (c + 1) m:=by
  cases h with
  | none h h0=>exact .none h (fun i hi=>by
      by_cases e:i=c
      · subst e;exact hc
      · exact h0 i om)
  | some n h hn h1 h2 h3=>exact .some n h om h1 h2 (fun i hi hci=>by
      by_cases e:i=c
      · subst e;rw [hc] at hci;cases hci
      · exact h3 i om hci)
theorem MS.first {l:List Ty} (hv:VT l) {a b c:Nat} {m:Int} (h:MS l a b c m) (hm:m < 0) (hc:gY l a b c=true):MS l a b (c + 1) c:=by
  cases h with
  | none h h0=>exact .some c rfl om hc h0 (fun i hi hci=>by
      by_cases e:i=c
      · subst e;exact XJ hv _
      · rw [h0 i om] at hci;cases hci)
  | some n h=>omega
theorem MS.pos {l:List Ty} {a b c:Nat} {m:Int} (h:MS l a b c m) (hm:¬m < 0):∃ n:Nat,m=n∧n < c∧gY l a b n=true∧(∀ i,i < n→gY l a b i=false)∧∀ i,i < c→gY l a b i=true→sub l i n=true:=by
  cases h with
  | none h=>omega
  | some n h hn h1 h2 h3=>exact⟨n,h,hn,h1,h2,h3⟩
theorem MS.end_ {l:List Ty} (hv:VT l) (h60:l.length≤60) {a b:Nat} {m:Int} (h:MS l a b l.length m):(jK l a b).2.2=false:=by
  cases h with
  | none h h0=>exact meet_none h0
  | some n h hn h1 h2 h3=>exact meet_some hv h60 hn h1 h2 h3
theorem X5 {a b:Int} (h:a=b):Ending.returned (.int .i64 b)= .returned (.int .i64 a):=by rw [h]
end Go.Proofs.YtdgnllfbooklcaaDoor
namespace Go.Proofs.YtdgnllfbooklcaaDoor
open Go.RowKit
def capB (l:List Ty) (a b c:Nat):Bool:=sub l a c && sub l b c
def joinB (l:List Ty) (a b c:Nat):Bool:=capB l a b c && (List.range l.length).all (fun j=>!(!(decide (j=c)) && sub l j c && capB l a b j))
def restN (l:List Ty) (a b k:Nat):Nat:=jQ (fun i=>capB l a b i && decide (k≤i)) l.length
structure RestAt (l:List Ty) (a b k i:Nat):Prop where
  lt:i < l.length
  le:k≤i
  cap:capB l a b i=true
  gap:∀ j,k≤j→j < i→joinB l a b j=false
  next:restN l a b k &&& (restN l a b k - 1)=restN l a b (i + 1)
theorem meet_is {l:List Ty} (hv:VT l) (h60:l.length≤60) {a b m:Nat} (hm:m < l.length) (hcm:gY l a b m=true) (hs:∀ i,i < l.length→gY l a b i=true→sub l i m=true):jK l a b=(m,true,false):=by
  have h0:vK l a b≠0:=fun h=>by
    have:=mask_eq_zero.1 h m hm;rw [hcm] at this;cases this
  have hz:=M9 h60 h0;have he:Lib.ctz 64 (vK l a b)=m:=by
    have h1:¬m < Lib.ctz 64 (vK l a b):=fun h=>by
      have:=hz.2.2 m h;rw [hcm] at this;cases this
    have h2:=I5 hv (hs _ hz.1 hz.2.1);exact Nat.le_antisymm (Nat.le_of_not_lt h1) h2
  have hd:Zw l (Lib.ctz 64 (vK l a b))=vK l a b:=by
    rw [he];refine jy (fun i hi=>?_);cases h1:sub l i m with
    | true=>
      simp only [gY,Bool.and_eq_true] at hcm;simp [gY,Q6 hv h1 hcm.1,Q6 hv h1 hcm.2]
    | false=>
      cases h2:gY l a b i with
      | false=>rfl
      | true=>rw [hs i hi h2] at h1;cases h1
  unfold jK;rw [if_neg h0,if_neg (fun h=>h hd),he]
theorem meet_spec {l:List Ty} (h60:l.length≤60) {a b:Nat} (h:(jK l a b).2.1=true):(jK l a b).1 < l.length∧gY l a b (jK l a b).1=true∧∀ i,i < l.length→gY l a b i=true→sub l i (jK l a b).1=true:=by
  by_cases h0:vK l a b=0
  · simp only [jK,if_pos h0] at h;cases h
  by_cases hd:Zw l (Lib.ctz 64 (vK l a b))≠vK l a b
  · simp only [jK,if_neg h0,if_pos hd] at h;cases h
  have e:jK l a b=(Lib.ctz 64 (vK l a b),true,false):=by simp only [jK,if_neg h0,if_neg hd]
  have hz:=M9 h60 h0;rw [e];refine⟨hz.1,hz.2.1,fun i hi hc=>?_⟩;have hd':Zw l (Lib.ctz 64 (vK l a b))=vK l a b:=Decidable.not_not.1 hd;have:=mask_inj.1 hd' i hi;rw [hc] at this;exact this
theorem meet_comm (l:List Ty) (a b:Nat):jK l b a=jK l a b:=by
  have e:vK l b a=vK l a b:=jy (fun i _=>Bool.and_comm _ _);unfold jK;rw [e]
structure Jv (l:List Ty):Prop where
  vt:VT l
  pos:0 < l.length
  le:l.length≤60
  all:∀ a b i,a < l.length→b < l.length→i < l.length→gY l a b i=true→(jK l a b).2.1=true
theorem XK {l:List Ty} {fs:List Ft} (h:(qq l fs).1=0):Jv l:=by
  unfold qq at h;by_cases h4:40 < fs.length
  · rw [if_pos h4] at h;cases h
  rw [if_neg h4] at h;by_cases ht:(xX l).1≠0
  · rw [if_pos ht] at h;exact absurd h ht
  rw [if_neg ht] at h;have ht0:=Decidable.not_not.1 ht;by_cases hu:(Kj l).1≠0
  · rw [if_pos hu] at h;exact absurd h hu
  have hu0:=Decidable.not_not.1 hu;have hv:=vt_of ht0;have hl:=D0 ht0;have h60:l.length≤60:=by omega
  have hlt:∀ a b,a < b→b < l.length→(jK l a b).2.2=false:=fun a b hab hb=>by
    have h1:=u4 hu0 b (Nat.zero_le _) om;cases h2:(jK l a b).2.2 with
    | false=>rfl
    | true=>rw [BZ hab h2] at h1;cases h1
  have hall:∀ a b,a < l.length→b < l.length→(jK l a b).2.2=false:=fun a b ha hb=>by
    rcases Nat.lt_trichotomy a b with h1 | h1 | h1
    · exact hlt a b h1 hb
    · subst h1
      have:=meet_is hv h60 (a:=a) (b:=a) ha (by simp [gY,XJ hv]) (fun i _ hc=>by
        simp only [gY,Bool.and_eq_true] at hc
        exact hc.1)
      rw [this]
    · rw [← meet_comm];exact hlt b a h1 ha
  refine⟨hv,by omega,h60,fun a b i ha hb hi hc=>?_⟩;have h1:=hall a b ha hb;have h0:vK l a b≠0:=fun h=>by
    have:=mask_eq_zero.1 h i hi;rw [hc] at this;cases this
  by_cases hd:Zw l (Lib.ctz 64 (vK l a b))≠vK l a b
  · simp only [jK,if_neg h0,if_pos hd] at h1;cases h1
  · simp only [jK,if_neg h0,if_neg hd]
theorem S6 {l:List Ty} (hv:VT l) {a b:Nat} (h:sub l a b=true) (h2:sub l b a=true):a=b:=Nat.le_antisymm (I5 hv h2) (I5 hv h)
structure Tri (l:List Ty) (a b c m:Nat) (ok:Bool):Prop where
  yes:ok=true→m < l.length∧(sub l m a=true∧sub l m b=true∧sub l m c=true)∧∀ i,i < l.length→sub l i a=true→sub l i b=true→sub l i c=true→sub l i m=true
  no:ok=false→m=0∧∀ i,i < l.length→sub l i a=true→sub l i b=true→sub l i c=true→False
theorem Tri.uniq {l:List Ty} (hv:VT l) {a b c m n:Nat} {p q:Bool} (h:Tri l a b c m p) (k:Tri l a b c n q):p=q∧m=n:=by
  cases p with
  | true=>
    obtain⟨h1,⟨h2,h3,h4⟩,h5⟩:=h.yes rfl;cases q with
    | true=>
      obtain⟨k1,⟨k2,k3,k4⟩,k5⟩:=k.yes rfl;exact⟨rfl,S6 hv (k5 m h1 h2 h3 h4) (h5 n k1 k2 k3 k4)⟩
    | false=>exact((k.no rfl).2 m h1 h2 h3 h4).elim
  | false=>
    cases q with
    | true=>
      obtain⟨k1,⟨k2,k3,k4⟩,k5⟩:=k.yes rfl;exact((h.no rfl).2 n k1 k2 k3 k4).elim
    | false=>exact⟨rfl,(h.no rfl).1.trans (k.no rfl).1.symm⟩
def twoF (l:List Ty) (fs:List Ft) (a b:Int):Fl:=
  if (qq l fs).1≠0 then qq l fs else if a < 0∨(l.length:Int)≤a then (3,-2) else if b < 0∨(l.length:Int)≤b then (3,-3) else (0,0)
structure TwoOk (l:List Ty) (fs:List Ft) (a b:Int):Prop where
  h:(qq l fs).1=0
  s:Jv l
  a0:0≤a
  al:a < l.length
  b0:0≤b
  bl:b < l.length
  z:twoF l fs a b=(0,0)
def hsub (l:List Ty) (fs:List Ft) (a b:Int):Bool:=if (twoF l fs a b).1≠0 then false else sub l a.toNat b.toNat
theorem IJ {w:World} {base:Nat} {A:Option Addr} {cap:Nat} {xs:List Int} {z:Int} (h:Own w base 3 1 A (xs.length + 1) cap (xs.map (Value.int .i64) ++ [Value.int .i64 z])):Own w base 3 1 A (xs ++ [z]).length cap ((xs ++ [z]).map (Value.int .i64)):=by
  rw [List.length_append,List.map_append];exact h
theorem Ex (A:Option Addr) (cap:Nat) (xs:List Int) (z:Int):Value.slice A (xs.length + 1) cap=Value.slice A (xs ++ [z]).length cap:=by rw [List.length_append];rfl
end Go.Proofs.YtdgnllfbooklcaaDoor
namespace Go.Proofs.YtdgnllfbooklcaaDoor
open Go.RowKit
structure Nd where
  ty:Int
  ln:List (Int×Int)
theorem YZ {a b:Nd} (h1:a.ty=b.ty) (h2:a.ln=b.ln):a=b:=by
  cases a;cases b;simp only at h1 h2;rw [h1,h2]
instance:DecidableEq Nd:=fun a b=>decidable_of_iff (a.ty=b.ty∧a.ln=b.ln) ⟨fun h=>YZ h.1 h.2,fun h=>by rw [h];exact⟨rfl,rfl⟩⟩
def LinksIn (w:World) (A:Option Addr) (xs:List (Int×Int)):Prop:=
  xs.length≤j7∧(xs≠[]→∃ b o,A=some ⟨b,o,none⟩∧b < w.heap.size∧∀ k (h:k < xs.length),w.rangeAt b (o + k * 2) [.int .i64 (xs[k]).1,.int .i64 (xs[k]).2])
theorem LinksIn.mono {w w':World} {A:Option Addr} {xs:List (Int×Int)} (h:LinksIn w A xs) (hb:Bel w w'):LinksIn w' A xs:=
  ⟨h.1,fun hn=>by
    obtain⟨b,o,e,hl,hc⟩:=h.2 hn
    exact⟨b,o,e,nLL hl hb.size,fun k hk=>hb.range hl (hc k hk)⟩⟩
theorem LinksIn.at_ {w w':World} {A:Option Addr} {xs:List (Int×Int)} (h:LinksIn w A xs) (hb:Bel w w') {k:Nat} (hk:k < xs.length):
    ∃ b o,A=some ⟨b,o,none⟩∧b < w.heap.size∧w'.rangeAt b (o + k * 2) [.int .i64 (xs[k]).1,.int .i64 (xs[k]).2]:=by
  obtain⟨b,o,e,hl,hc⟩:=h.2 (by rintro rfl;simp at hk);exact⟨b,o,e,hl,hb.range hl (hc k hk)⟩
def NdIn (w:World) (b o:Nat) (n:Nd):Prop:=∃ A c,w.rangeAt b o [.int .i64 n.ty,.slice A n.ln.length c]∧LinksIn w A n.ln
def NodesIn (w:World) (A:Option Addr) (g:List Nd):Prop:=
  g.length≤j7∧(g≠[]→∃ b o,A=some ⟨b,o,none⟩∧b < w.heap.size∧∀ k (h:k < g.length),NdIn w b (o + k * 2) g[k])
theorem NdIn.mono {w w':World} {b o:Nat} {n:Nd} (h:NdIn w b o n) (hb:Bel w w') (hl:b < w.heap.size):NdIn w' b o n:=by
  obtain⟨A,c,h1,h2⟩:=h;exact⟨A,c,hb.range hl h1,h2.mono hb⟩
theorem NodesIn.mono {w w':World} {A:Option Addr} {g:List Nd} (h:NodesIn w A g) (hb:Bel w w'):NodesIn w' A g:=
  ⟨h.1,fun hn=>by
    obtain⟨b,o,e,hl,hc⟩:=h.2 hn
    exact⟨b,o,e,nLL hl hb.size,fun k hk=>(hc k hk).mono hb hl⟩⟩
theorem NodesIn.at_ {w w':World} {A:Option Addr} {g:List Nd} (h:NodesIn w A g) (hb:Bel w w') {k:Nat} (hk:k < g.length):
    ∃ b o A' c,A=some ⟨b,o,none⟩∧b < w.heap.size∧w'.rangeAt b (o + k * 2) [.int .i64 (g[k]).ty,.slice A' (g[k]).ln.length c]∧LinksIn w A' (g[k]).ln:=by
  obtain⟨b,o,e,hl,hc⟩:=h.2 (by rintro rfl;simp at hk);obtain⟨A',c,h1,h2⟩:=hc k hk;exact⟨b,o,A',c,e,hl,hb.range hl h1,h2⟩
def uy (nf n:Nat) (x:Int×Int):Prop:=x.1 < 0∨(nf:Int)≤x.1∨x.2 < 0∨(n:Int)≤x.2
instance (nf n:Nat) (x:Int×Int):Decidable (uy nf n x):=by unfold uy;infer_instance
def y9 (nf n:Nat):Int→List (Int×Int)→Int
  | _,[]=>0
  | last,x :: xs=>if uy nf n x then 3 else if x.1≤last then 13 else y9 nf n x.1 xs
def CJ (nt nf n:Nat) (x:Nd):Int:=if x.ty < 0∨(nt:Int)≤x.ty then 3 else y9 nf n (-1) x.ln
def QK (nt nf:Nat) (g:List Nd) (i:Nat):Int:=match g[i]? with
  | none=>0
  | some x=>CJ nt nf g.length x
def vk (nt nf:Nat) (g:List Nd):Fl:=if g.length=0∨60 < g.length then (2,-2) else qZ (QK nt nf g) 0 g.length
theorem JY {nt nf:Nat} {g:List Nd} {i:Nat} (hi:i < g.length) (h:(g[i]).ty < 0∨(nt:Int)≤(g[i]).ty):QK nt nf g i=3:=by
  simp only [QK,List.getElem?_eq_getElem hi,CJ,if_pos h]
theorem Qk {nt nf:Nat} {g:List Nd} {i:Nat} (hi:i < g.length) (h:¬((g[i]).ty < 0∨(nt:Int)≤(g[i]).ty)):QK nt nf g i=y9 nf g.length (-1) ((g[i]).ln.drop 0):=by
  simp only [QK,List.getElem?_eq_getElem hi,CJ,if_neg h,List.drop_zero]
theorem ln_bad {nf n:Nat} {last:Int} {xs:List (Int×Int)} {j:Nat} (hj:j < xs.length) (h:uy nf n xs[j]):y9 nf n last (xs.drop j)=3:=by
  rw [List.drop_eq_getElem_cons hj];simp only [y9,if_pos h]
theorem ln_ord {nf n:Nat} {last:Int} {xs:List (Int×Int)} {j:Nat} (hj:j < xs.length) (h:¬uy nf n xs[j]) (h2:(xs[j]).1≤last):y9 nf n last (xs.drop j)=13:=by
  rw [List.drop_eq_getElem_cons hj];simp only [y9,if_neg h,if_pos h2]
theorem CV {nf n:Nat} {last:Int} {xs:List (Int×Int)} {j:Nat} (hj:j < xs.length) (h:¬uy nf n xs[j]) (h2:¬(xs[j]).1≤last):y9 nf n last (xs.drop j)=y9 nf n (xs[j]).1 (xs.drop (j + 1)):=by
  rw [List.drop_eq_getElem_cons hj];simp only [y9,if_neg h,if_neg h2]
theorem ln_end {nf n:Nat} {last:Int} {xs:List (Int×Int)} {j:Nat} (hj:xs.length≤j):y9 nf n last (xs.drop j)=0:=by
  rw [List.drop_eq_nil_of_le hj];rfl
theorem Ok {nf n:Nat}:∀ {xs:List (Int×Int)} {last:Int},y9 nf n last xs=0→∀ x ∈ xs,¬uy nf n x
  | [],_,_,x,hx=>by cases hx
  | y :: ys,last,h,x,hx=>by
    unfold y9 at h
    by_cases h1:uy nf n y
    · rw [if_pos h1] at h;cases h
    rw [if_neg h1] at h
    by_cases h2:y.1≤last
    · rw [if_pos h2] at h;cases h
    rw [if_neg h2] at h
    rcases List.mem_cons.1 hx with rfl | hx
    · exact h1
    · exact Ok h x hx
theorem NK {nf n:Nat}:∀ {xs:List (Int×Int)} {last:Int},y9 nf n last xs=0→-1≤last→last < nf→(xs.length:Int)≤nf - 1 - last
  | [],last,_,h1,h2=>by simp only [List.length_nil];omega
  | y :: ys,last,h,h1,h2=>by
    unfold y9 at h
    by_cases h3:uy nf n y
    · rw [if_pos h3] at h;cases h
    rw [if_neg h3] at h
    by_cases h4:y.1≤last
    · rw [if_pos h4] at h;cases h
    rw [if_neg h4] at h
    unfold uy at h3
    have:=NK h om om
    simp only [List.length_cons]
    omega
structure GOk (nt nf:Nat) (g:List Nd):Prop where
  pos:0 < g.length
  le:g.length≤60
  ty:∀ i (h:i < g.length),0≤(g[i]).ty∧(g[i]).ty < nt
  ln:∀ i (h:i < g.length),∀ x ∈ (g[i]).ln,0≤x.1∧x.1 < nf∧0≤x.2∧x.2 < g.length
  few:∀ i (h:i < g.length),(g[i]).ln.length≤nf
structure PV (nf:Nat) (g:List Nd):Prop where
  pos:0 < g.length
  le:g.length≤1000000
  ln:∀ i (h:i < g.length),∀ x ∈ (g[i]).ln,0≤x.1∧x.1 < nf∧0≤x.2∧x.2 < g.length
  few:∀ i (h:i < g.length),(g[i]).ln.length≤nf
theorem GOk.two {nt nf:Nat} {g:List Nd} (h:GOk nt nf g):PV nf g:=⟨h.pos,nLT h.le dE,h.ln,h.few⟩
theorem B5 {nt nf:Nat} {g:List Nd} (h:(vk nt nf g).1=0):GOk nt nf g:=by
  unfold vk at h;by_cases h0:g.length=0∨60 < g.length
  · rw [if_pos h0] at h;cases h
  rw [if_neg h0] at h;have hi:∀ i (h:i < g.length),¬((g[i]).ty < 0∨(nt:Int)≤(g[i]).ty)∧y9 nf g.length (-1) (g[i]).ln=0:=fun i hl=>by
    have h1:=u4 h i (Nat.zero_le _) om;by_cases h2:(g[i]).ty < 0∨(nt:Int)≤(g[i]).ty
    · rw [JY hl h2] at h1;cases h1
    · rw [Qk hl h2,List.drop_zero] at h1
      exact⟨h2,h1⟩
  refine⟨by omega,by omega,fun i hl=>?_,fun i hl x hx=>?_,fun i hl=>?_⟩
  · have:=(hi i hl).1;omega
  · have:=Ok (hi i hl).2 x hx
    unfold uy at this;omega
  · have:=NK (hi i hl).2 om om
    omega
theorem Y6 {nt nf:Nat} {g:List Nd} (h:(vk nt nf g).1=0):∀ i (hi:i < g.length),y9 nf g.length (-1) (g[i]).ln=0:=fun i hl=>by
  unfold vk at h
  by_cases h0:g.length=0∨60 < g.length
  · rw [if_pos h0] at h;cases h
  rw [if_neg h0] at h
  have h1:=u4 h i (Nat.zero_le _) om
  by_cases h2:(g[i]).ty < 0∨(nt:Int)≤(g[i]).ty
  · rw [JY hl h2] at h1;cases h1
  · rw [Qk hl h2,List.drop_zero] at h1
    exact h1
theorem gW {f:Nat→Int}:∀ {m i:Nat},(∀ j,i≤j→j < i + m→f j=0)→qZ f i m=(0,0)
  | 0,_,_=>rfl
  | m + 1,i,h=>by
    unfold qZ
    rw [if_neg (fun e=>e (h i (Nat.le_refl _) om))]
    exact gW (fun j h1 h2=>h j om om)
theorem DJ {f:Nat→Int}:∀ {m i:Nat},(qZ f i m).1=0→qZ f i m=(0,0)
  | 0,_,_=>rfl
  | m + 1,i,h=>by
    unfold qZ at h ⊢
    by_cases h3:f i≠0
    · rw [if_pos h3] at h;exact absurd h h3
    · rw [if_neg h3] at h ⊢;exact DJ h
def N8 (fs:List Ft) (z:Int):Ft:=fs.getD z.toNat ⟨⟨#[]⟩,0,0⟩
def IV (g:List Nd) (z:Int):Nd:=g.getD z.toNat ⟨0,[]⟩
def M1 (l:List Ty) (fs:List Ft) (g:List Nd) (t:Int) (x:Int×Int):Bool:=
  !(sub l t.toNat (N8 fs x.1).of.toNat) || !(sub l (IV g x.2).ty.toNat (N8 fs x.1).val.toNat)
def tyN (l:List Ty) (fs:List Ft) (g:List Nd) (i:Nat):Int:=match g[i]? with
  | none=>0
  | some x=>if x.ln.any (M1 l fs g x.ty) then 12 else 0
def tyF (l:List Ty) (fs:List Ft) (g:List Nd):Fl:=qZ (tyN l fs g) 0 g.length
theorem H6 {l:List Ty} {fs:List Ft} {g:List Nd} {i j:Nat} (hi:i < g.length) (hj:j < (g[i]).ln.length) (h:M1 l fs g (g[i]).ty (g[i]).ln[j]=true):tyN l fs g i=12:=by
  simp only [tyN,List.getElem?_eq_getElem hi];rw [if_pos (List.any_eq_true.2 ⟨_,List.getElem_mem hj,h⟩)]
theorem C5 {l:List Ty} {fs:List Ft} {g:List Nd} {i:Nat} (hi:i < g.length) (h:∀ j (hj:j < (g[i]).ln.length),M1 l fs g (g[i]).ty (g[i]).ln[j]=false):tyN l fs g i=0:=by
  simp only [tyN,List.getElem?_eq_getElem hi];rw [if_neg];intro hc;obtain⟨x,hx,h2⟩:=List.any_eq_true.1 hc;obtain⟨j,hj,rfl⟩:=List.getElem_of_mem hx;rw [h j hj] at h2;cases h2
inductive Rch (g:List Nd):Nat→Prop
  | zero:Rch g 0
  | step {i:Nat} {x:Int×Int} (h:Rch g i) (hi:i < g.length) (hx:x ∈ (g[i]).ln):Rch g x.2.toNat
def CL (g:List Nd) (mk:Nat→Bool):Prop:=∀ i (hi:i < g.length),mk i=true→∀ x ∈ (g[i]).ln,mk x.2.toNat=true
def Only (g:List Nd) (mk:Nat→Bool):Prop:=∀ i,mk i=true→Rch g i
theorem reach_cl {g:List Nd} {mk:Nat→Bool} (h0:mk 0=true) (hc:CL g mk) {i:Nat} (h:Rch g i):mk i=true:=by
  induction h with
  | zero=>exact h0
  | step h hi hx ih=>exact hc _ hi ih _ hx
def UnrIs (g:List Nd) (r:Int):Prop:=(r= -1∧∀ i,i < g.length→Rch g i)∨∃ k:Nat,r=k∧k < g.length∧¬Rch g k∧∀ i,i < k→Rch g i
theorem UnrIs.uniq {g:List Nd} {r s:Int} (h:UnrIs g r) (k:UnrIs g s):r=s:=by
  rcases h with ⟨h1,h2⟩ | ⟨a,h1,h2,h3,h4⟩ <;> rcases k with ⟨k1,k2⟩ | ⟨b,k1,k2,k3,k4⟩
  · omega
  · exact absurd (h2 b k2) k3
  · exact absurd (k2 a h2) h3
  · have:¬a < b:=fun h=>h3 (k4 a h)
    have:¬b < a:=fun h=>k3 (h4 b h)
    omega
noncomputable def Vv (g:List Nd):Int:=@Classical.epsilon Int ⟨0⟩ (UnrIs g)
theorem Mw {g:List Nd} {r:Int} (h:UnrIs g r):r=Vv g:=h.uniq (@Classical.epsilon_spec Int (UnrIs g) ⟨r,h⟩)
structure AllM (g:List Nd) (mk:Nat→Bool):Prop where
  zero:mk 0=true
  only:Only g mk
  cl:CL g mk
theorem AllM.no {g:List Nd} {mk:Nat→Bool} (h:AllM g mk) {k:Nat} (hk:k < g.length) (hm:mk k=false) (hb:∀ i,i < k→mk i=true):((k:Nat):Int)=Vv g:=
  Mw (.inr ⟨k,rfl,hk,fun hr=>absurd ((reach_cl h.zero h.cl hr).symm.trans hm) (by simp),fun i hi=>h.only i (hb i hi)⟩)
theorem AllM.yes {g:List Nd} {mk:Nat→Bool} (h:AllM g mk) (hb:∀ i,i < g.length→mk i=true):(-1:Int)=Vv g:=
  Mw (.inl ⟨rfl,fun i hi=>h.only i (hb i hi)⟩)
def Z7 (mk:Nat→Bool) (j:Nat) (x:Nat):Bool:=if x=j then true else mk x
theorem JV (mk:Nat→Bool) (j:Nat):Z7 mk j j=true:=by simp [Z7]
theorem uj {mk:Nat→Bool} {j x:Nat} (h:mk x=true):Z7 mk j x=true:=by
  unfold Z7;split
  · rfl
  · exact h
theorem gQ {mk:Nat→Bool} {j x:Nat} (h:Z7 mk j x=true):x=j∨mk x=true:=by
  unfold Z7 at h;by_cases e:x=j
  · exact .inl e
  · rw [if_neg e] at h;exact .inr h
def jq (n:Nat) (mk:Nat→Bool):Nat:=(List.range n).countP (fun i=>!mk i)
theorem Ey (n:Nat) (mk:Nat→Bool):jq n mk≤n:=by
  have:=List.countP_le_length (p:=fun i=>!mk i) (l:=List.range n)
  simpa [jq] using this
theorem Tj {n j:Nat} {mk:Nat→Bool} (hj:j < n) (h:mk j=false):jq n (Z7 mk j) < jq n mk:=
  jv (fun x hx=>by
    cases hm:mk x with
    | false=>rfl
    | true=>
      have:=uj (j:=j) hm
      simp [this] at hx) (List.range n) j (List.mem_range.2 hj) (by simp [h]) (by simp [JV])
structure DS (g:List Nd) (mk:Nat→Bool) (st:List Int) (i k:Nat):Prop where
  zero:mk 0=true
  only:Only g mk
  stk:∀ s ∈ st,∃ n:Nat,s=(n:Int)∧n < g.length∧mk n=true
  cl:∀ j (hj:j < g.length),mk j=true→j≠i→(j:Int) ∈ st∨∀ x ∈ (g[j]).ln,mk x.2.toNat=true
  me:∀ (hi:i < g.length),mk i=true∧∀ x ∈ (g[i]).ln.take k,mk x.2.toNat=true
theorem DS.start {g:List Nd} (h:0 < g.length):DS g (Z7 (fun _=>false) 0) [0] g.length 0:=
  ⟨by simp [Z7],fun i hi=>by
    rcases gQ hi with rfl | h
    · exact .zero
    · exact absurd h Bool.false_ne_true,fun s hs=>by
    obtain rfl:=List.mem_singleton.1 hs
    exact⟨0,rfl,h,by simp [Z7]⟩,fun j hj hm _=>by
    rcases gQ hm with rfl | h
    · exact .inl (by simp)
    · exact absurd h Bool.false_ne_true,fun hi=>absurd hi (Nat.lt_irrefl _)⟩
theorem DS.pop {g:List Nd} {mk:Nat→Bool} {st:List Int} {z:Int} (h:DS g mk (st ++ [z]) g.length 0):∃ n:Nat,z=(n:Int)∧n < g.length∧DS g mk st n 0:=by
  obtain⟨n,rfl,hn,hm⟩:=h.stk z (by simp);refine⟨n,rfl,hn,h.zero,h.only,fun s hs=>h.stk s (by simp [hs]),fun j hj hmj hne=>?_,fun hi=>⟨hm,fun x hx=>by simp at hx⟩⟩;rcases h.cl j hj hmj om with h1 | h1
  · rcases List.mem_append.1 h1 with h2 | h2
    · exact .inl h2
    · have:=List.mem_singleton.1 h2
      omega
  · exact .inr h1
theorem DS.old {g:List Nd} {mk:Nat→Bool} {st:List Int} {i k:Nat} (h:DS g mk st i k) (hi:i < g.length) (hk:k < (g[i]).ln.length) (hm:mk ((g[i]).ln[k]).2.toNat=true):DS g mk st i (k + 1):=
  ⟨h.zero,h.only,h.stk,h.cl,fun _=>⟨(h.me hi).1,fun x hx=>by
    rw [List.take_succ_eq_append_getElem hk] at hx
    rcases List.mem_append.1 hx with hx | hx
    · exact(h.me hi).2 x hx
    · rw [List.mem_singleton.1 hx];exact hm⟩⟩
theorem DS.new {g:List Nd} {mk:Nat→Bool} {st:List Int} {i k t:Nat} (h:DS g mk st i k) (hi:i < g.length) (hk:k < (g[i]).ln.length) (ht:((g[i]).ln[k]).2=(t:Int)) (htl:t < g.length):DS g (Z7 mk t) (st ++ [(t:Int)]) i (k + 1):=
  ⟨uj h.zero,fun j hj=>by
    rcases gQ hj with rfl | hj
    · have:=Rch.step (h.only i (h.me hi).1) hi (List.getElem_mem hk)
      rw [ht] at this;simpa using this
    · exact h.only j hj,fun s hs=>by
    rcases List.mem_append.1 hs with hs | hs
    · obtain⟨n,h1,h2,h3⟩:=h.stk s hs
      exact⟨n,h1,h2,uj h3⟩
    · exact⟨t,List.mem_singleton.1 hs,htl,JV _ _⟩,fun j hj hm hne=>by
    rcases gQ hm with rfl | hm
    · exact .inl (by simp)
    · rcases h.cl j hj hm hne with h1 | h1
      · exact .inl (by simp [h1])
      · exact .inr (fun x hx=>uj (h1 x hx)),fun _=>⟨uj (h.me hi).1,fun x hx=>by
    rw [List.take_succ_eq_append_getElem hk] at hx
    rcases List.mem_append.1 hx with hx | hx
    · exact uj ((h.me hi).2 x hx)
    · rw [List.mem_singleton.1 hx,ht];simp [JV]⟩⟩
theorem DS.done {g:List Nd} {mk:Nat→Bool} {st:List Int} {i k:Nat} (h:DS g mk st i k) (hi:i < g.length) (hk:k=(g[i]).ln.length):DS g mk st g.length 0:=
  ⟨h.zero,h.only,h.stk,fun j hj hm _=>by
    by_cases e:j=i
    · subst e
      have h1:=(h.me hj).2
      rw [hk,List.take_length] at h1
      exact .inr h1
    · exact h.cl j hj hm e,fun hi=>absurd hi (Nat.lt_irrefl _)⟩
theorem DS.end_ {g:List Nd} {mk:Nat→Bool} (h:DS g mk [] g.length 0):AllM g mk:=
  ⟨h.zero,h.only,fun i hi hm x hx=>by
    rcases h.cl i hi hm om with h1 | h1
    · cases h1
    · exact h1 x hx⟩
def cntN (n:Nat) (mk:Nat→Bool):Nat:=(List.range n).countP mk
theorem cnt_le (n:Nat) (mk:Nat→Bool):cntN n mk≤n:=by
  have:=List.countP_le_length (p:=mk) (l:=List.range n)
  simpa [cntN] using this
structure PS (g:List Nd) (mk:Nat→Bool) (p:Nat):Prop where
  zero:mk 0=true
  only:Only g mk
  far:CL g mk∨p + 1≤cntN g.length mk
structure PP (g:List Nd) (m0 mk:Nat→Bool) (i k:Nat):Prop where
  zero:mk 0=true
  only:Only g mk
  sup:∀ j,m0 j=true→mk j=true
  same:CL g m0→∀ j,mk j=true→m0 j=true
  done:∀ j (hj:j < g.length),j < i→m0 j=true→∀ x ∈ (g[j]).ln,mk x.2.toNat=true
  me:∀ (hi:i < g.length),m0 i=true→∀ x ∈ (g[i]).ln.take k,mk x.2.toNat=true
theorem PS.start {g:List Nd} (h:0 < g.length):PS g (Z7 (fun _=>false) 0) 0:=
  ⟨by simp [Z7],fun i hi=>by
    rcases gQ hi with rfl | h
    · exact .zero
    · exact absurd h Bool.false_ne_true,.inr (by
    have:0 < cntN g.length (Z7 (fun _=>false) 0):=List.countP_pos_iff.2 ⟨0,List.mem_range.2 h,by simp [Z7]⟩
    omega)⟩
theorem PP.start {g:List Nd} {mk:Nat→Bool} {p:Nat} (h:PS g mk p):PP g mk mk 0 0:=
  ⟨h.zero,h.only,fun _ h=>h,fun _ _ h=>h,fun j _ hj=>by omega,fun _ _ x hx=>by simp at hx⟩
theorem PP.skip {g:List Nd} {m0 mk:Nat→Bool} {i k:Nat} (h:PP g m0 mk i k) (hm:mk i=false):PP g m0 mk i (k + 1):=
  ⟨h.zero,h.only,h.sup,h.same,h.done,fun _ h0=>absurd ((h.sup i h0).symm.trans hm) (by simp)⟩
theorem PP.mark {g:List Nd} {m0 mk:Nat→Bool} {i k t:Nat} (h:PP g m0 mk i k) (hi:i < g.length) (hk:k < (g[i]).ln.length) (ht:((g[i]).ln[k]).2=(t:Int)) (hm:mk i=true):PP g m0 (Z7 mk t) i (k + 1):=
  ⟨uj h.zero,fun j hj=>by
    rcases gQ hj with rfl | hj
    · have:=Rch.step (h.only i hm) hi (List.getElem_mem hk)
      rw [ht] at this;simpa using this
    · exact h.only j hj,fun j hj=>uj (h.sup j hj),fun hc j hj=>by
    rcases gQ hj with rfl | hj
    · have:=hc i hi (h.same hc i hm) _ (List.getElem_mem hk)
      rw [ht] at this;simpa using this
    · exact h.same hc j hj,fun j hj hji h0 x hx=>uj (h.done j hj hji h0 x hx),fun _ h0 x hx=>by
    rw [List.take_succ_eq_append_getElem hk] at hx
    rcases List.mem_append.1 hx with hx | hx
    · exact uj (h.me hi h0 x hx)
    · rw [List.mem_singleton.1 hx,ht];simp [JV]⟩
theorem PP.next {g:List Nd} {m0 mk:Nat→Bool} {i k:Nat} (h:PP g m0 mk i k) (hi:i < g.length) (hk:k=(g[i]).ln.length):PP g m0 mk (i + 1) 0:=
  ⟨h.zero,h.only,h.sup,h.same,fun j hj hji h0 x hx=>by
    by_cases e:j=i
    · subst e
      have:=h.me hj h0
      rw [hk,List.take_length] at this
      exact this x hx
    · exact h.done j hj om h0 x hx,fun _ _ x hx=>by simp at hx⟩
theorem PP.end_ {g:List Nd} (hr:∀ i (hi:i < g.length),∀ x ∈ (g[i]).ln,x.2.toNat < g.length) {m0 mk:Nat→Bool} {p:Nat} (h0:PS g m0 p) (h:PP g m0 mk g.length 0):PS g mk (p + 1):=by
  refine⟨h.zero,h.only,?_⟩;have hcl:CL g m0→CL g mk:=fun hc i hi hm x hx=>h.sup _ (hc i hi (h.same hc i hm) x hx)
  by_cases hc:CL g m0
  · exact .inl (hcl hc)
  · right
    rcases h0.far with h1 | h1
    · exact absurd h1 hc
    · have hex:∃ i,∃ hi:i < g.length,m0 i=true∧∃ x,x ∈ (g[i]).ln∧m0 x.2.toNat=false:=Classical.byContradiction (fun hn=>hc (fun i hi hm x hx=>by
        cases hv:m0 x.2.toNat with
        | true=>rfl
        | false=>exact absurd ⟨i,hi,hm,x,hx,hv⟩ hn))
      obtain⟨i,hi,hm,x,hx,hv⟩:=hex;have hnew:=h.done i hi hi hm x hx;have hl:=hr i hi x hx;have:cntN g.length m0 < cntN g.length mk:=jv h.sup (List.range g.length) _ (List.mem_range.2 hl) hnew hv;omega
theorem PS.end_ {g:List Nd} {mk:Nat→Bool} (h:PS g mk g.length):AllM g mk:=
  ⟨h.zero,h.only,by
    rcases h.far with h1 | h1
    · exact h1
    · have:=cnt_le g.length mk
      omega⟩
theorem HK {st:List Int} (h:0 < st.length):∃ s z,st=s ++ [z]:=by
  rcases List.eq_nil_or_concat st with rfl | ⟨s,z,rfl⟩
  · cases h
  · exact⟨s,z,List.concat_eq_append⟩
theorem Sw {n j:Nat} {mk:Nat→Bool}:row n (fun x=>if x=j then Value.bool true else .bool (mk x))=row n (fun x=> .bool (Z7 mk j x)):=
  yK (fun x _=>by by_cases e:x=j <;> simp [Z7,e])
theorem gok_rng {nt nf:Nat} {g:List Nd} (h:GOk nt nf g):∀ i (hi:i < g.length),∀ x ∈ (g[i]).ln,x.2.toNat < g.length:=fun i hi x hx=>by
  have:=h.ln i hi x hx;omega
structure FOk (nt:Nat) (fs:List Ft):Prop where
  at_:∀ i (h:i < fs.length),0≤(fs[i]).of∧(fs[i]).of < nt∧0≤(fs[i]).val∧(fs[i]).val < nt
theorem N9 {l:List Ty} {fs:List Ft} (h:(qq l fs).1=0):FOk l.length fs:=by
  unfold qq at h;by_cases h4:40 < fs.length
  · rw [if_pos h4] at h;cases h
  rw [if_neg h4] at h;by_cases ht:(xX l).1≠0
  · rw [if_pos ht] at h;exact absurd h ht
  rw [if_neg ht] at h;by_cases hu:(Kj l).1≠0
  · rw [if_pos hu] at h;exact absurd h hu
  rw [if_neg hu] at h;refine⟨fun i hi=>?_⟩;have h1:=u4 h i (Nat.zero_le _) om;by_cases hn:yX (fs[i]).name=false
  · rw [ft10 l.length fs i hi hn] at h1;cases h1
  have hn':yX (fs[i]).name=true:=by simpa using hn
  by_cases hs:oJ ((fs.take i).map (·.name)) (fs[i]).name=true
  · rw [ft7 l.length fs i hi hn' hs] at h1;cases h1
  have hs':oJ ((fs.take i).map (·.name)) (fs[i]).name=false:=by simpa using hs
  by_cases hb:OX l.length fs[i]
  · rw [ft3 l.length fs i hi hn' hs' hb] at h1;cases h1
  · unfold OX at hb;omega
theorem Lz {l:List Ty} {fs:List Ft} {g:List Nd} {t:Int} {x:Int×Int} {fi ti yn on vn zn:Nat} (h1:x.1=(fi:Int)) (hfi:fi < fs.length) (h2:x.2=(ti:Int)) (hti:ti < g.length) (ht:t=(yn:Int)) (ho:(fs[fi]).of=(on:Int)) (hv:(fs[fi]).val=(vn:Int)) (hz:(g[ti]).ty=(zn:Int)):
    M1 l fs g t x=(!sub l yn on || !sub l zn vn):=by
  unfold M1 N8 IV;rw [h1,h2,ht];have e1:fs.getD (fi:Int).toNat ⟨⟨#[]⟩,0,0⟩=fs[fi]:=by simp [List.getD,hfi]
  have e2:g.getD (ti:Int).toNat ⟨0,[]⟩=g[ti]:=by simp [List.getD,hti]
  rw [e1,e2,ho,hv,hz];simp
noncomputable def qK (l:List Ty) (fs:List Ft) (g:List Nd):Fl:=
  if (vk l.length fs.length g).1≠0 then vk l.length fs.length g else if (tyF l fs g).1≠0 then tyF l fs g else if 0≤Vv g then (5,Vv g) else (0,0)
theorem I0 {l:List Ty} {fs:List Ft} {g:List Nd} (h:¬(vk l.length fs.length g).1=0):qK l fs g=((vk l.length fs.length g).1,(vk l.length fs.length g).2):=by unfold qK;rw [if_pos h]
theorem wi_ty {l:List Ty} {fs:List Ft} {g:List Nd} {k:Int} (h:(vk l.length fs.length g).1=0) (ht:tyF l fs g=(12,k)):qK l fs g=(12,k):=by
  unfold qK;rw [if_neg (fun e=>e h),ht];rfl
theorem Ry {l:List Ty} {fs:List Ft} {g:List Nd} (h:(vk l.length fs.length g).1=0) (ht:tyF l fs g=(0,0)) (hu:0≤Vv g):qK l fs g=(5,Vv g):=by
  unfold qK;rw [if_neg (fun e=>e h),ht,if_neg (fun e=>e rfl),if_pos hu]
theorem X4 {l:List Ty} {fs:List Ft} {g:List Nd} (h:(vk l.length fs.length g).1=0) (ht:tyF l fs g=(0,0)) (hu:¬0≤Vv g):qK l fs g=(0,0):=by
  unfold qK;rw [if_neg (fun e=>e h),ht,if_neg (fun e=>e rfl),if_neg hu]
noncomputable def vQ (l:List Ty) (fs:List Ft) (g:List Nd):Fl:=if (qq l fs).1≠0 then qq l fs else qK l fs g
theorem LX {l:List Ty} {fs:List Ft} {g:List Nd} (h:¬(qq l fs).1=0):vQ l fs g=((qq l fs).1,(qq l fs).2):=by unfold vQ;rw [if_pos h]
theorem Jq {l:List Ty} {fs:List Ft} {g:List Nd} (h:(qq l fs).1=0):vQ l fs g=((qK l fs g).1,(qK l fs g).2):=by unfold vQ;rw [if_neg (fun e=>e h)]
end Go.Proofs.YtdgnllfbooklcaaDoor
