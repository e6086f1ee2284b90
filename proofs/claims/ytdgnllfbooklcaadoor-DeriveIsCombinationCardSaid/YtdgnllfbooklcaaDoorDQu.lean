/- What these functions of the program compute, at every world: glosswright/glosswrightequal.Small$1. What these functions of the program compute, at every world: glosswright/glosswrightequal.hierarchyOf. What these functions of the program compute, at every world: glosswright/glosswrightequal.base, glosswright/glosswrightequal.fun, glosswright/glosswrightequal.con, glosswright/glosswrightequal.bound, glosswright/glosswrightequal.abs, glosswright/glosswrightequal.app. What these functions of the program compute, at every world: glosswright/glosswrightequal.quantified, glosswright/glosswrightequal.quantified. -/
import Derived.Test.YtdgnllfbooklcaaDoorU
import Derived.Test.YtdgnllfbooklcaaDoorSim
import Derived.Test.YtdgnllfbooklcaaDoorStk
import Derived.Test.YtdgnllfbooklcaaDoorDGo
import Derived.Test.YtdgnllfbooklcaaDoorNSv
namespace Go.Proofs.YtdgnllfbooklcaaDoor
open Go.RowKit
theorem TY:zZ Tryd.prog 20=true:=by kernel_rfl
theorem in46:(Tryd.prog.info? 46).map (fun i=>(i.zero,i.size,i.bytes))=some (some (.agg #[.string ⟨#[]⟩,.slice none 0 0,.int .i64 0,.int .i64 0,.string ⟨#[]⟩,.int .i64 0,.string ⟨#[]⟩,.slice none 0 0,.slice none 0 0]),9,144):=by kernel_rfl
theorem Ex:(Tryd.prog.info? 27).map (·.size)=some 1:=by kernel_rfl
theorem jZ:(Tryd.prog.info? 44).map (·.size)=some 6:=by kernel_rfl
theorem S8:(Tryd.prog.info? 46).map (·.size)=some 9:=by kernel_rfl
theorem ze46_DAd:(Tryd.prog.info? 46).map (·.zero)=some (some (.agg #[.string ⟨#[]⟩,.slice none 0 0,.int .i64 0,.int .i64 0,.string ⟨#[]⟩,.int .i64 0,.string ⟨#[]⟩,.slice none 0 0,.slice none 0 0])):=by kernel_rfl
set_option maxHeartbeats 1000000 in
theorem uY (s:ByteArray) (z:Int) (x:Tv) (SA BA R A:Option Addr) (cs cb:Nat) (rs:List (List Int)) (c bG base k cap nT nL:Nat) (c0 c1 c2 c4:Value) (xs:List Value) (lx:List Lx) (w:World) (hs9:s.size < 9223372036854775807) (hR:RowsIn w R rs) (hT:Fz [] nT TS w (fun w=>SimsIn w SA x.tm.type.args∧TmsIn w BA x.tm.args)) (hbG:Blk w bG 32 #[c0,c1,c2,.slice A k cap,c4]) (ho:Own w base 46 9 A k cap xs) (hL:Fz [] nL TS w (fun w=>LxData w lx xs)) (hbase:base≤w.heap.size) (hbl:bG < base) (hk:k≤1000):Calls Tryd.prog 21 #[.string s,.int .i64 z,.agg #[.int .i64 (x).tm.kind,.string (x).tm.name,.int .i64 (x).tm.index,.string (x).tm.type.base,.slice SA (x).tm.type.args.length cs,.slice BA (x).tm.args.length cb],.slice R rs.length c,.pointer (some ⟨bG,0,none⟩)] w (fun e w'=>e= .returned (.tuple #[])∧∃ A' cap' xs',Blk w' bG 32 #[c0,c1,c2,.slice A' (k + 1) cap',c4]∧Own w' base 46 9 A' (k + 1) cap' xs'∧Fz [] w'.heap.size TS w' (fun w=>LxData w (lx ++ [⟨s,rs.map Yk,z,x.tm⟩]) xs')∧Same (bG :: aL A) w w'∧(aL A'=aL A∨∀ g ∈ aL A',w.heap.size≤g)):=by
 refine enter Tryd.func21 Tryd.ntmps21 rfl (Nat.le_of_ble_eq_true rfl) ?_;have hB:Bel w w:=Below.refl _ _;refine zn2 ?_;refine xz (v:= .agg #[_,_,_,_,_,_]) (cs:=#[_,_,_,_,_,_]) rfl rfl (fun b7 w1 hb7 s1 hr=>?_);have or_ho_b7:=fun g hg=>nLL (ho.lt g hg).2 hr
 refine zW (e_S ?_);replace hbG:=hbG.tr0 s1;have zG:=hbG.lt;replace ho:=ho.tr0 s1;have zo:=fun g hg=>(ho.lt g hg).2
 replace hB:=hB.tr0 s1;have hsz:=Bel.size hB;have hrs:=hR.1;refine uj 9 [9,10,11,12,13,14,15,16,17] (fun ix=>Nat.beq ix 8) (fun ix v wv=>match ix with | 0=>v= .pointer (some ⟨bG,3,none⟩) | 1=>v= .slice A k cap | 2=>v= .string s | 3=>v= .int .i64 z | 4=>v= .agg #[.int .i64 (x).tm.kind,.string (x).tm.name,.int .i64 (x).tm.index,.string (x).tm.type.base,.slice SA (x).tm.type.args.length cs,.slice BA (x).tm.args.length cb] | 5=>v= .slice R rs.length c | 6=>∃ G g n,v= .agg #[.slice G rs.length g]∧Fz [] n TS wv (fun w=>NodesIn w G (rs.map Yk)) | 7=>∃ G g n,v= .agg #[.string s,.slice G rs.length g,.int .i64 z,.int .i64 (x).tm.kind,.string (x).tm.name,.int .i64 (x).tm.index,.string (x).tm.type.base,.slice SA (x).tm.type.args.length cs,.slice BA (x).tm.args.length cb]∧Fz [] n TS wv (fun w=>NodesIn w G (rs.map Yk)) | 8=>∃ b G g n,v= .slice (some ⟨b,0,none⟩) 1 1∧w1.heap.size≤b∧Blk wv b 46 #[.string s,.slice G rs.length g,.int .i64 z,.int .i64 (x).tm.kind,.string (x).tm.name,.int .i64 (x).tm.index,.string (x).tm.type.base,.slice SA (x).tm.type.args.length cs,.slice BA (x).tm.args.length cb]∧Fz [] n TS wv (fun w=>NodesIn w G (rs.map Yk)) | _=>True) kR kR ?_ ?_ ?_
 ·intro ix v wv wv2 h s2
  match ix,h with
  | 0,h=>exact h
  | 1,h=>exact h
  | 2,h=>exact h
  | 3,h=>exact h
  | 4,h=>exact h
  | 5,h=>exact h
  | 6,h=>
   obtain⟨G15,g15,n15,e15,hz15⟩:=h;exact⟨G15,g15,n15,e15,hz15.tr0 s2⟩
  | 7,h=>
   obtain⟨G16,g16,n16,e16,hz16⟩:=h;exact⟨G16,g16,n16,e16,hz16.tr0 s2⟩
  | 8,h=>
   obtain⟨b17,G17,g17,n17,e17,lo17,hb17,hz17⟩:=h;exact⟨b17,G17,g17,n17,e17,lo17,hb17.tr0 s2,hz17.tr0 s2⟩
  | _ + 9,h=>exact trivial
 ·intro ix o hix hoq gg wx s3 hd hdis
  match ix,hix,hoq with
  | 0,_,hoq=>
   cases sI hoq;exact oVq (o7 U32 Ex dE rfl rfl rfl) rfl
  | 1,_,hoq=>
   cases sI hoq;refine zq 9 _ (hd 0 (zj kR)) nu ?_;replace hbG:=hbG.tr0 s3;exact oVq (qK (v:= .slice _ _ _) U27 rfl rfl (hbG.cell rfl)) rfl
  | 2,_,hoq=>
   cases sI hoq;exact oVq (x5 (v:= .string _) rfl) rfl
  | 3,_,hoq=>
   cases sI hoq;exact oVq (x5 (v:= .int _ _) rfl) rfl
  | 4,_,hoq=>
   cases sI hoq;replace hb7:=hb7.tr0 s3;exact oVq (qW U44 rfl rfl hb7.range0 jZ) rfl
  | 5,_,hoq=>
   cases sI hoq;exact oVq (x5 (v:= .slice _ _ _) rfl) rfl
  | 6,_,hoq=>
   cases sI hoq;refine zq 14 _ (hd 5 (zj kR)) nu ?_;replace hB:=hB.tr0 s3;refine yw TY (oK _ _ _ wx (hR.mono hB)) rfl (fun e' w2 hr=>?_);obtain⟨⟨G9,g9,rfl,hz9⟩,s4⟩:=hr;exact⟨_,rfl,sB s4,⟨G9,g9,_,rfl,hz9⟩,xk⟩
  | 7,_,hoq=>
   cases sI hoq;obtain⟨G15,g15,n15,e15,hz15⟩:=hd 6 (zj kR);refine zq 11 _ (hd 2 (zj kR)) nu (zq 12 _ (hd 3 (zj kR)) nu (zq 13 _ (hd 4 (zj kR)) nu (zq 15 _ e15 nu ?_)));exact oVq (r_bd4 (v0:= .string _) (v1:= .int _ _) (v2:= .agg _) (v3:= .agg _) (fun v0 v1 v2 v3=>#[v0,(x6 v3 0),v1,(x6 v2 0),(x6 v2 1),(x6 v2 2),(x6 v2 3),(x6 v2 4),(x6 v2 5)]) rfl rfl rfl rfl kR) ⟨G15,g15,n15,rfl,hz15⟩
  | 8,_,hoq=>
   cases sI hoq;have hs0:=s3;obtain⟨G16,g16,n16,e16,hz16⟩:=hd 7 (zj kR);refine zq 16 _ e16 nu ?_;refine vK (fun ops Q K=>?_);refine qZ (cs:=#[_,_,_,_,_,_,_,_,_]) [(0,.agg _)] rfl U27 S8 ze46_DAd dE dE kR rfl (fun b17 w2 hb17 s5 hr=>?_);exact K _ _ ⟨s5,⟨_,G16,g16,n16,rfl,nLT hs0.size hr,hb17,hz16.tr0 s5⟩,fRq hr hb17.lt⟩
  | _ + 9,hix,_=>exact absurd hix om
 intro gg w3 s6 hR hdis;obtain⟨b17,G17,g17,n17,e17,lo17,hb17,hz17⟩:=hR 8 dE;replace hB:=hB.tr0 s6;have hbs:base≤w3.heap.size:=nLT hbase (Bel.size hB);have hS0:=(sB hB).weak (Y:=bG :: aL A) (by simp);have hsz2:=Bel.size hB;refine qY 10 _ (hR 1 dE) nu (qY 17 _ e17 nu ?_);replace ho:=ho.tr0 s6;refine j9 U27 in46 rfl dE ho hb17 rfl rfl rfl zK dE om om hbs (fun g18 cap18 w4 ho18 s7 hg=>?_);replace hbG:=hbG.tr0 s6;have ne_ho18_bG:g18≠bG:=fun e=>by
  have hl:=hbG.lt;rcases hg with hg | hg
  · have h1:=ho.lt g18 (by rw [hg];exact List.mem_singleton.2 rfl)
    (try have:=or_ho_bG g18 (by rw [hg];exact List.mem_singleton.2 rfl));omega
  · omega
 have ne_ho18_b7:g18≠b7:=fun e=>by
  replace hb7:=hb7.tr0 s6;have hl:=hb7.lt;rcases hg with hg | hg
  · have h1:=ho.lt g18 (by rw [hg];exact List.mem_singleton.2 rfl)
    (try have:=or_ho_b7 g18 (by rw [hg];exact List.mem_singleton.2 rfl));omega
  · omega
 replace hbG:=hbG.tr s7 (fun hx=>by have:=(ho.lt _ hx).1;(try have:=or_ho_bG _ hx);omega);replace hT:=hT.tr0 (s1.trans s6);replace hT:=hT.trX s7 (fun g hg=>by obtain⟨cs,h⟩:=Qk ho g hg;exact .inr (.inr ⟨_,_,h,.inl dE⟩));replace hL:=hL.tr0 (s1.trans s6);replace hL:=hL.trX s7 (fun g hg=>by obtain⟨cs,h⟩:=Qk ho g hg;exact .inr (.inr ⟨_,_,h,.inl dE⟩));replace hz17:=hz17.trX s7 (fun g hg=>by obtain⟨cs,h⟩:=Qk ho g hg;exact .inr (.inr ⟨_,_,h,.inl dE⟩));have hS:=hS0.trans (s7.weak (fun x hx=>List.mem_cons_of_mem _ hx));refine zn1 ?_;refine xZ (v:= .slice _ _ _) hbG rfl rfl Ex (by first | decide | simp) rfl rfl (fun w5 hq s8=>?_);replace hT:=hT.sp1 s8 hbG (.inl dE);replace hL:=hL.sp1 s8 hbG (.inl dE);replace hz17:=hz17.sp1 s8 hbG (.inl dE);replace ho18:=ho18.tr1 s8 (fun g hg=>by have:=(ho18.lt g hg).1;(try have:=or_ho18_bG g hg);(try simp only [aL] at hg);(try simp only [List.mem_singleton] at hg);omega);replace hS:=hS.trans (s8.weak (by simp));replace hbG:=hq;refine zW (fin0 (.inr rfl) rfl  ?_);refine⟨rfl,_,_,_,hbG,ho18,(hL.and (hT.and hz17)).imp (fun _ h=>LxData.snoc (x:=⟨s,rs.map Yk,z,x.tm⟩) h.1 hs9 (List.length_map _).symm h.2.2 h.2.1.1 h.2.1.2),hS,?_⟩;rcases hg with hg | hg
 · left;rw [hg];rfl
 · right;intro g hgm;cases List.mem_singleton.1 hgm;exact nLT hsz2 hg
end Go.Proofs.YtdgnllfbooklcaaDoor
namespace Go.Proofs.YtdgnllfbooklcaaDoor
open Go.RowKit
theorem in110:(Tryd.prog.info? 110).map (fun i=>(i.zero,i.size,i.bytes))=some (some (.agg #[.string ⟨#[]⟩,.slice none 0 0]),2,40):=by kernel_rfl
theorem IV:(Tryd.prog.info? 110).map (·.size)=some 2:=by kernel_rfl
theorem Sz:(Tryd.prog.info? 22).map (·.size)=some 1:=by kernel_rfl
theorem sz23_DHo:(Tryd.prog.info? 23).map (·.size)=some 1:=by kernel_rfl
theorem K4:(Tryd.prog.info? 25).map (·.size)=some 2:=by kernel_rfl
theorem C3:(Tryd.prog.info? 3).map (·.size)=some 1:=by kernel_rfl
theorem S6:(Tryd.prog.info? 70).map (·.size)=some 1:=by kernel_rfl
theorem C1:(Tryd.prog.info? 9).map (·.size)=some 1:=by kernel_rfl
theorem Iv:(Tryd.prog.info? 110).map (·.zero)=some (some (.agg #[.string ⟨#[]⟩,.slice none 0 0])):=by kernel_rfl
theorem BZ:(Tryd.prog.info? 25).map (·.zero)=some (some (.agg #[.slice none 0 0,.slice none 0 0])):=by kernel_rfl
theorem qz:(Tryd.prog.info? 3).map (·.zero)=some (some (.int .i64 0)):=by kernel_rfl
set_option maxHeartbeats 1000000 in
theorem P8 (A B C:Option Addr) (c d mC f:Nat) (ns:List ByteArray) (ps:List Int) (w:World) (hN:StrsD w A ns) (hP:IntsIn w B ps) (hl:ns.length≤1000) (hpl:ps.length=ns.length):Calls Tryd.prog 18 #[.slice A ns.length c,.slice B ps.length d,.slice C mC f] w fun e w'=>(∃ A' cap,e= .returned (.agg #[.slice A' ns.length cap,.slice C mC f])∧Fz [] w'.heap.size TS w' (fun w=>TypesIn w A' (Yz ns ps ns.length)))∧Bel w w':=by
 refine enter Tryd.func18 Tryd.ntmps18 rfl (Nat.le_of_ble_eq_true rfl) ?_;have hB:Bel w w:=Below.refl _ _;refine zn2 ?_;refine qw (cs:=#[.slice none 0 0,.slice none 0 0]) BZ rfl (fun b6 w1 hb6 s1 hr=>?_);have lo6:=nLT (Bel.size hB) hr;refine zn4 ?_;refine qw (cs:=#[.slice none 0 0,.slice none 0 0]) BZ rfl (fun b7 w2 hb7 s2 hr=>?_);have:=nLL hb6.lt hr;replace hB:=hB.tr0 s1;have lo7:=nLT (Bel.size hB) hr;refine gj ?_;replace hB:=hB.tr0 s2;replace hb6:=hb6.tr0 s2;refine qJ [8,9,10,13,14,15,16,17,18,19,20,21,22,23,24,25,26,27,28,29,30,31,32,33,34] (fun m g w'=>∃ (k:Nat) (A7:Option Addr) (cap7:Nat) (cs:List Value) (n7:Nat),k≤ns.length∧m=ns.length - k∧g 13= .int .i64 k∧Bel w w'∧Blk w' b6 25 #[.slice none 0 0,.slice none 0 0]∧Blk w' b7 25 #[.slice A7 k cap7,.slice none 0 0]∧Own w' (b7 + 1) 110 2 A7 k cap7 cs∧Fz [] n7 TS2 w' (fun w=>TyData w (Yz ns ps k) cs)) (ns.length) ?_ (fun m g3 w3 hI=>?_)
 ·exact⟨0,none,0,[],_,Nat.zero_le _,rfl,rfl,hB,hb6,hb7,Own.nil _ _ _ _,Fz.triv [] _ TS2 (fun _=>TyData.nil)⟩
 obtain⟨k,A7,cap7,cs,n7,hk,hm,h13,hB,hb6,hb7,ho7,hty⟩:=hI;refine zQ 13 _ h13 nu (zn6 ?_);refine zJ rfl (fun c14=>?_) (fun c14=>?_)
 ·have hlt:k < ns.length:=by omega
  have hlp:k < ps.length:=by omega
  obtain⟨nb,no,rfl,hnc⟩:=hN.at_ hB hlt;obtain⟨pb,po,rfl,hpb,hpc⟩:=hP.at_ hlp;refine zn8 ?_;refine wl (qK (v:= .string _) U9 rfl rfl hnc) (zn7 ?_);refine wl (KV (v0:= .string _) (fun v0=>#[v0,.slice none 0 0]) rfl kR) ?_;refine yj (cs:=#[.string ⟨#[]⟩,.slice none 0 0]) Iv rfl (fun _=>rfl) (fun _=>rfl) IV rfl zK (fun b10 w5 hb10 s3 hr=>?_);have:=nLL hb6.lt hr;have:=nLL hb7.lt hr;have or_ho7_b10:=fun g hg=>nLL (ho7.lt g hg).2 hr
  have lo10:=nLT (Bel.size hB) hr;refine zn9 ?_;replace hB:=hB.tr0 s3;replace hb6:=hb6.tr0 s3;replace hb7:=hb7.tr0 s3;replace ho7:=ho7.tr0 s3;replace hty:=hty.tr0 s3;refine zJ rfl (fun c21=>?_) (fun c21=>?_)
  ·refine zn4 ?_;refine wl (qK (v:= .int _ _) U3 rfl rfl (hB.cell hpb hpc)) ?_;refine qZ (cs:=#[_]) [(0,.int _ _)] rfl U70 C3 qz dE dE kR rfl (fun b26 w6 hb26 s4 hr=>?_);have:=nLL hb7.lt hr;have or_ho7_b26:=fun g hg=>nLL (ho7.lt g hg).2 hr
   have:=nLL hb10.lt hr;refine zn1 ?_;replace hb10:=hb10.tr0 s4;refine xZ (v:= .slice _ _ _) hb10 rfl rfl S6 (by first | decide | simp) rfl rfl (fun w7 hq s5=>?_);replace ho7:=ho7.tr0 s4;replace ho7:=ho7.tr1 s5 (fun g hg=>by have:=(ho7.lt g hg).1;(try have:=or_ho7_b10 g hg);(try simp only [aL] at hg);(try simp only [List.mem_singleton] at hg);omega);replace hty:=hty.tr0 s4;replace hty:=hty.sp1 s5 hb10 (.inl dE);replace hb10:=hq;refine zn6 ?_;refine qZ (cs:=#[_,_]) [(0,.agg _)] rfl U22 IV Iv dE dE kR rfl (fun b31 w8 hb31 s6 hr=>?_);replace hb6:=(hb6.tr0 s4).tr1 s5 om;have:=nLL hb6.lt hr;replace hb7:=(hb7.tr0 s4).tr1 s5 om;have:=nLL hb7.lt hr;replace hb26:=hb26.tr1 s5 om;have:=nLL hb26.lt hr;replace hb7:=hb7.tr0 s6;replace ho7:=ho7.tr0 s6;refine j9 U22 in110 rfl dE ho7 hb31 rfl rfl rfl zK dE om om hb7.lt (fun g32 cap32 w9 ho32 s7 hg=>?_);replace hb6:=hb6.tr0 s6;replace hb26:=hb26.tr0 s6;have ne_ho32_b6:g32≠b6:=fun e=>by
    have hl:=hb6.lt;rcases hg with hg | hg
    · have h1:=ho7.lt g32 (by rw [hg];exact List.mem_singleton.2 rfl)
      (try have:=or_ho7_b6 g32 (by rw [hg];exact List.mem_singleton.2 rfl));omega
    · omega
   have ne_ho32_b7:g32≠b7:=fun e=>by
    have hl:=hb7.lt;rcases hg with hg | hg
    · have h1:=ho7.lt g32 (by rw [hg];exact List.mem_singleton.2 rfl)
      (try have:=or_ho7_b7 g32 (by rw [hg];exact List.mem_singleton.2 rfl));omega
    · omega
   have ne_ho32_b10:g32≠b10:=fun e=>by
    replace hb10:=hb10.tr0 s6;have hl:=hb10.lt;rcases hg with hg | hg
    · have h1:=ho7.lt g32 (by rw [hg];exact List.mem_singleton.2 rfl)
      (try have:=or_ho7_b10 g32 (by rw [hg];exact List.mem_singleton.2 rfl));omega
    · omega
   have ne_ho32_b26:g32≠b26:=fun e=>by
    have hl:=hb26.lt;rcases hg with hg | hg
    · have h1:=ho7.lt g32 (by rw [hg];exact List.mem_singleton.2 rfl)
      (try have:=or_ho7_b26 g32 (by rw [hg];exact List.mem_singleton.2 rfl));omega
    · omega
   replace hB:=((hB.tr0 s4).tr1 s5 lo10).tr0 s6;replace hB:=hB.tr s7 (fun g hg=>nLT (Nat.le_succ_of_le lo7) (ho7.lt g hg).1);replace hb6:=hb6.tr s7 (fun hx=>by have:=(ho7.lt _ hx).1;(try have:=or_ho7_b6 _ hx);omega);replace hb7:=hb7.tr s7 (fun hx=>by have:=(ho7.lt _ hx).1;(try have:=or_ho7_b7 _ hx);omega);replace hty:=hty.tr0 s6;replace hty:=hty.trX s7 (fun g hg=>by obtain⟨cs,h⟩:=Qk ho7 g hg;exact .inr (.inr ⟨_,_,h,.inl dE⟩));replace hb26:=hb26.tr s7 (fun hx=>by have:=(ho7.lt _ hx).1;(try have:=or_ho7_b26 _ hx);omega);have hty2:=(by first | exact Lj hty hlt hlp om hb26 | exact TX hty hlt om:Fz [] (w9).heap.size TS2 w9 (fun w=>TyData w (Yz ns ps (k + 1)) (cs ++ _)))
   refine zn1 ?_;refine xZ (v:= .slice _ _ _) hb7 rfl rfl Sz (by first | decide | simp) rfl rfl (fun w10 hq s8=>?_);replace ho32:=ho32.tr1 s8 (fun g hg=>by have:=(ho32.lt g hg).1;(try have:=or_ho32_b7 g hg);(try simp only [aL] at hg);(try simp only [List.mem_singleton] at hg);omega);replace hty2:=hty2.sp1 s8 hb7 (.inl dE);replace hb7:=hq;refine zn7 ?_;refine yq (ns.length - (k + 1)) om agA ?_;replace hB:=hB.tr1 s8 lo7;replace hb6:=hb6.tr1 s8 om;exact⟨k + 1,_,_,_,_,by omega,rfl,rfl,hB,hb6,hb7,ho32,hty2⟩
  refine zn6 ?_;refine qZ (cs:=#[_,_]) [(0,.agg _)] rfl U22 IV Iv dE dE kR rfl (fun b31 w11 hb31 s9 hr=>?_);have:=nLL hb6.lt hr;have:=nLL hb7.lt hr;replace hb7:=hb7.tr0 s9;replace ho7:=ho7.tr0 s9;refine j9 U22 in110 rfl dE ho7 hb31 rfl rfl rfl zK dE om om hb7.lt (fun g32 cap32 w12 ho32 s10 hg=>?_);replace hb6:=hb6.tr0 s9;have ne_ho32_b6:g32≠b6:=fun e=>by
   have hl:=hb6.lt;rcases hg with hg | hg
   · have h1:=ho7.lt g32 (by rw [hg];exact List.mem_singleton.2 rfl)
     (try have:=or_ho7_b6 g32 (by rw [hg];exact List.mem_singleton.2 rfl));omega
   · omega
  have ne_ho32_b7:g32≠b7:=fun e=>by
   have hl:=hb7.lt;rcases hg with hg | hg
   · have h1:=ho7.lt g32 (by rw [hg];exact List.mem_singleton.2 rfl)
     (try have:=or_ho7_b7 g32 (by rw [hg];exact List.mem_singleton.2 rfl));omega
   · omega
  have ne_ho32_b10:g32≠b10:=fun e=>by
   replace hb10:=hb10.tr0 s9;have hl:=hb10.lt;rcases hg with hg | hg
   · have h1:=ho7.lt g32 (by rw [hg];exact List.mem_singleton.2 rfl)
     (try have:=or_ho7_b10 g32 (by rw [hg];exact List.mem_singleton.2 rfl));omega
   · omega
  replace hB:=hB.tr0 s9;replace hB:=hB.tr s10 (fun g hg=>nLT (Nat.le_succ_of_le lo7) (ho7.lt g hg).1);replace hb6:=hb6.tr s10 (fun hx=>by have:=(ho7.lt _ hx).1;(try have:=or_ho7_b6 _ hx);omega);replace hb7:=hb7.tr s10 (fun hx=>by have:=(ho7.lt _ hx).1;(try have:=or_ho7_b7 _ hx);omega);replace hty:=hty.tr0 s9;replace hty:=hty.trX s10 (fun g hg=>by obtain⟨cs,h⟩:=Qk ho7 g hg;exact .inr (.inr ⟨_,_,h,.inl dE⟩));have hty2:=(by first | exact Lj hty hlt hlp om hb26 | exact TX hty hlt om:Fz [] (w12).heap.size TS2 w12 (fun w=>TyData w (Yz ns ps (k + 1)) (cs ++ _)))
  refine zn1 ?_;refine xZ (v:= .slice _ _ _) hb7 rfl rfl Sz (by first | decide | simp) rfl rfl (fun w13 hq s11=>?_);replace ho32:=ho32.tr1 s11 (fun g hg=>by have:=(ho32.lt g hg).1;(try have:=or_ho32_b7 g hg);(try simp only [aL] at hg);(try simp only [List.mem_singleton] at hg);omega);replace hty2:=hty2.sp1 s11 hb7 (.inl dE);replace hb7:=hq;refine zn7 ?_;refine yq (ns.length - (k + 1)) om agA ?_;replace hB:=hB.tr1 s11 lo7;replace hb6:=hb6.tr1 s11 om;exact⟨k + 1,_,_,_,_,by omega,rfl,rfl,hB,hb6,hb7,ho32,hty2⟩
 have hkl:k=ns.length:=by omega
 subst hkl;refine zn9 ?_;refine xZ (v:= .slice _ _ _) hb7 rfl rfl sz23_DHo (by first | decide | simp) rfl rfl (fun w14 hq s12=>?_);replace ho7:=ho7.tr1 s12 (fun g hg=>by have:=(ho7.lt g hg).1;(try have:=or_ho7_b7 g hg);(try simp only [aL] at hg);(try simp only [List.mem_singleton] at hg);omega);replace hty:=hty.sp1 s12 hb7 (.inl dE);replace hb7:=hq;refine zn5 ?_;replace hb6:=hb6.tr1 s12 om;refine zk hb6 rfl rfl K4 rfl zK (fun w15 hq s13=>?_);replace ho7:=ho7.tr1 s13 (fun g hg=>by have:=(ho7.lt g hg).1;(try have:=or_ho7_b6 g hg);(try simp only [aL] at hg);(try simp only [List.mem_singleton] at hg);omega);replace hty:=hty.sp1 s13 hb6 (.inl dE);replace hb6:=hq;refine zn3 ?_;refine xX (.inl rfl) rfl (zw U25 rfl rfl hb6.range0 K4) ?_;replace hB:=(hB.tr1 s12 lo7).tr1 s13 lo6;exact⟨⟨_,_,rfl,hof_end ho7 hty⟩,hB⟩
end Go.Proofs.YtdgnllfbooklcaaDoor
namespace Go.Proofs.YtdgnllfbooklcaaDoor
open Go.RowKit
theorem x7:(Tryd.prog.info? 41).map (·.size)=some 2:=by kernel_rfl
theorem vk:(Tryd.prog.info? 44).map (·.size)=some 6:=by kernel_rfl
theorem yV:(Tryd.prog.info? 41).map (·.zero)=some (some (.agg #[.string ⟨#[]⟩,.slice none 0 0])):=by kernel_rfl
theorem Oy:(Tryd.prog.info? 44).map (·.zero)=some (some (.agg #[.int .i64 0,.string ⟨#[]⟩,.int .i64 0,.string ⟨#[]⟩,.slice none 0 0,.slice none 0 0])):=by kernel_rfl
theorem gz (s:ByteArray) (w:World):Calls Tryd.prog 16 #[.string s] w fun e w'=>e= .returned (.agg #[.string s,.slice none 0 0])∧Bel w w':=by
 refine enter Tryd.func16 Tryd.ntmps16 rfl (Nat.le_of_ble_eq_true rfl) ?_;have hB:Bel w w:=Below.refl _ _;refine zn2 ?_;refine qw (cs:=#[.string ⟨#[]⟩,.slice none 0 0]) yV rfl (fun b2 w1 hb2 s1 hr=>?_);have lo2:=nLT (Bel.size hB) hr;refine zn5 ?_;refine wl (KV (v0:= .string _) (fun v0=>#[v0,.slice none 0 0]) rfl kR) ?_;refine zk hb2 rfl rfl x7 rfl zK (fun w2 hq s2=>?_);replace hb2:=hq;refine zn3 ?_;refine xX (.inl rfl) rfl (zw U41 rfl rfl hb2.range0 x7) ?_;replace hB:=(hB.tr0 s1).tr1 s2 lo2;exact⟨rfl,hB⟩
theorem gY (X:List Nat) (a b:Ts) (A1 A2:Option Addr) (c1 c2 n1 n2:Nat) (w:World) (hX:∀ x ∈ X,x < w.heap.size) (h1:Fz X n1 TS w (fun w=>SimsIn w A1 (a).sm.args)) (h2:Fz X n2 TS w (fun w=>SimsIn w A2 (b).sm.args)):Calls Tryd.prog 17 #[.agg #[.string (a).sm.base,.slice A1 (a).sm.args.length c1],.agg #[.string (b).sm.base,.slice A2 (b).sm.args.length c2]] w fun e w'=>(∃ z,e= .returned z∧SmD X (.f a b) w' z)∧Bel w w':=by
 refine enter Tryd.func17 Tryd.ntmps17 rfl (Nat.le_of_ble_eq_true rfl) ?_;have hB:Bel w w:=Below.refl _ _;refine zn2 ?_;refine xz (v:= .agg #[_,_]) (cs:=#[_,_]) rfl rfl (fun b2 w1 hb2 s1 hr=>?_);refine xz (v:= .agg #[_,_]) (cs:=#[_,_]) rfl rfl (fun b3 w2 hb3 s2 hr=>?_);refine qw (cs:=#[.string ⟨#[]⟩,.slice none 0 0]) yV rfl (fun b4 w3 hb4 s3 hr=>?_);replace hB:=hB.tr0 (s1.trans s2);have lo4:=nLT (Bel.size hB) hr;refine zn6 ?_;refine qZ (cs:=#[_,_,_,_]) [(0,.agg _),(1,.agg _)] rfl U39 x7 yV dE dE kR rfl (fun b7 w4 hb7 s4 hr=>?_);have:=nLL hb4.lt hr;refine wl (KV (v0:= .slice _ _ _) (fun v0=>#[.string ⟨#[]⟩,v0]) rfl kR) ?_;replace hb4:=hb4.tr0 s4;refine zk hb4 rfl rfl x7 rfl zK (fun w5 hq s5=>?_);replace hb4:=hq;refine zn3 ?_;refine xX (.inl rfl) rfl (zw U41 rfl rfl hb4.range0 x7) ?_;replace hB:=(hB.tr0 (s3.trans s4)).tr1 s5 lo4;replace hb7:=hb7.tr1 s5 om;exact⟨⟨_,rfl,SmD.two hb7 (fun hm=>by have:=hX _ hm;omega) (h1.bel hB) (h2.bel hB)⟩,hB⟩
theorem uW (X:List Nat) (nm:ByteArray) (a:Ts) (A1:Option Addr) (c1 n1:Nat) (w:World) (h1:Fz X n1 TS w (fun w=>SimsIn w A1 (a).sm.args)):Calls Tryd.prog 23 #[.string nm,.agg #[.string (a).sm.base,.slice A1 (a).sm.args.length c1]] w fun e w'=>(∃ z,e= .returned z∧TmD X (.con nm a) w' z)∧Bel w w':=by
 refine enter Tryd.func23 Tryd.ntmps23 rfl (Nat.le_of_ble_eq_true rfl) ?_;have hB:Bel w w:=Below.refl _ _;refine zn2 ?_;refine xz (v:= .agg #[_,_]) (cs:=#[_,_]) rfl rfl (fun b3 w1 hb3 s1 hr=>?_);refine qw (cs:=#[.int .i64 0,.string ⟨#[]⟩,.int .i64 0,.string ⟨#[]⟩,.slice none 0 0,.slice none 0 0]) Oy rfl (fun b4 w2 hb4 s2 hr=>?_);replace hB:=hB.tr0 s1;have lo4:=nLT (Bel.size hB) hr;refine zn6 ?_;refine wl (EQ (v0:= .int _ _) (v1:= .string _) (v2:= .agg _) (fun v0 v1 v2=>#[v0,v1,.int .i64 0,(x6 v2 0),(x6 v2 1),.slice none 0 0]) rfl rfl rfl kR) ?_;refine zk hb4 rfl rfl vk rfl zK (fun w3 hq s3=>?_);replace hb4:=hq;refine zn3 ?_;refine xX (.inl rfl) rfl (zw U44 rfl rfl hb4.range0 vk) ?_;replace hB:=(hB.tr0 s2).tr1 s3 lo4;exact⟨⟨_,rfl,TmD.con nm (h1.bel hB)⟩,hB⟩
theorem yW (X:List Nat) (i:Nat) (w:World):Calls Tryd.prog 26 #[.int .i64 ((i:Nat):Int)] w fun e w'=>(∃ z,e= .returned z∧TmD X (.var i) w' z)∧Bel w w':=by
 refine enter Tryd.func26 Tryd.ntmps26 rfl (Nat.le_of_ble_eq_true rfl) ?_;have hB:Bel w w:=Below.refl _ _;refine zn2 ?_;refine qw (cs:=#[.int .i64 0,.string ⟨#[]⟩,.int .i64 0,.string ⟨#[]⟩,.slice none 0 0,.slice none 0 0]) Oy rfl (fun b2 w1 hb2 s1 hr=>?_);have lo2:=nLT (Bel.size hB) hr;refine zn5 ?_;refine wl (Z9 (v0:= .int _ _) (v1:= .int _ _) (fun v0 v1=>#[v0,.string ⟨#[]⟩,v1,.string ⟨#[]⟩,.slice none 0 0,.slice none 0 0]) rfl rfl kR) ?_;refine zk hb2 rfl rfl vk rfl zK (fun w2 hq s2=>?_);replace hb2:=hq;refine zn3 ?_;refine xX (.inl rfl) rfl (zw U44 rfl rfl hb2.range0 vk) ?_;replace hB:=(hB.tr0 s1).tr1 s2 lo2;exact⟨⟨_,rfl,TmD.var i⟩,hB⟩
theorem uk (X:List Nat) (a:Ts) (x:Tv) (A1 S2 B2:Option Addr) (c1 n1 c2 m2 n2:Nat) (w:World) (hX:∀ x ∈ X,x < w.heap.size) (h1:Fz X n1 TS w (fun w=>SimsIn w A1 (a).sm.args)) (h2:Fz X n2 TS w (fun w=>SimsIn w S2 (x).tm.type.args∧TmsIn w B2 (x).tm.args)):Calls Tryd.prog 24 #[.agg #[.string (a).sm.base,.slice A1 (a).sm.args.length c1],.agg #[.int .i64 (x).tm.kind,.string (x).tm.name,.int .i64 (x).tm.index,.string (x).tm.type.base,.slice S2 (x).tm.type.args.length c2,.slice B2 (x).tm.args.length m2]] w fun e w'=>(∃ z,e= .returned z∧TmD X (.abs a x) w' z)∧Bel w w':=by
 refine enter Tryd.func24 Tryd.ntmps24 rfl (Nat.le_of_ble_eq_true rfl) ?_;have hB:Bel w w:=Below.refl _ _;refine zn2 ?_;refine xz (v:= .agg #[_,_]) (cs:=#[_,_]) rfl rfl (fun b2 w1 hb2 s1 hr=>?_);refine xz (v:= .agg #[_,_,_,_,_,_]) (cs:=#[_,_,_,_,_,_]) rfl rfl (fun b3 w2 hb3 s2 hr=>?_);refine qw (cs:=#[.int .i64 0,.string ⟨#[]⟩,.int .i64 0,.string ⟨#[]⟩,.slice none 0 0,.slice none 0 0]) Oy rfl (fun b4 w3 hb4 s3 hr=>?_);replace hB:=hB.tr0 (s1.trans s2);have lo4:=nLT (Bel.size hB) hr;refine zn6 ?_;refine qZ (cs:=#[_,_,_,_,_,_]) [(0,.agg _)] rfl U42 vk Oy dE dE kR rfl (fun b7 w4 hb7 s4 hr=>?_);have:=nLL hb4.lt hr;refine wl (EQ (v0:= .int _ _) (v1:= .agg _) (v2:= .slice _ _ _) (fun v0 v1 v2=>#[v0,.string ⟨#[]⟩,.int .i64 0,(x6 v1 0),(x6 v1 1),v2]) rfl rfl rfl kR) ?_;replace hb4:=hb4.tr0 s4;refine zk hb4 rfl rfl vk rfl zK (fun w5 hq s5=>?_);replace hb4:=hq;refine zn3 ?_;refine xX (.inl rfl) rfl (zw U44 rfl rfl hb4.range0 vk) ?_;replace hB:=(hB.tr0 (s3.trans s4)).tr1 s5 lo4;replace hb7:=hb7.tr1 s5 om;exact⟨⟨_,rfl,TmD.abs (h1.bel hB) hb7 (fun hm=>by have:=hX _ hm;omega) (h2.bel hB)⟩,hB⟩
theorem gV (X:List Nat) (x y:Tv) (S1 B1 S2 B2:Option Addr) (c1 m1 n1 c2 m2 n2:Nat) (w:World) (hX:∀ x ∈ X,x < w.heap.size) (h1:Fz X n1 TS w (fun w=>SimsIn w S1 (x).tm.type.args∧TmsIn w B1 (x).tm.args)) (h2:Fz X n2 TS w (fun w=>SimsIn w S2 (y).tm.type.args∧TmsIn w B2 (y).tm.args)):Calls Tryd.prog 25 #[.agg #[.int .i64 (x).tm.kind,.string (x).tm.name,.int .i64 (x).tm.index,.string (x).tm.type.base,.slice S1 (x).tm.type.args.length c1,.slice B1 (x).tm.args.length m1],.agg #[.int .i64 (y).tm.kind,.string (y).tm.name,.int .i64 (y).tm.index,.string (y).tm.type.base,.slice S2 (y).tm.type.args.length c2,.slice B2 (y).tm.args.length m2]] w fun e w'=>(∃ z,e= .returned z∧TmD X (.app x y) w' z)∧Bel w w':=by
 refine enter Tryd.func25 Tryd.ntmps25 rfl (Nat.le_of_ble_eq_true rfl) ?_;have hB:Bel w w:=Below.refl _ _;refine zn2 ?_;refine xz (v:= .agg #[_,_,_,_,_,_]) (cs:=#[_,_,_,_,_,_]) rfl rfl (fun b2 w1 hb2 s1 hr=>?_);refine xz (v:= .agg #[_,_,_,_,_,_]) (cs:=#[_,_,_,_,_,_]) rfl rfl (fun b3 w2 hb3 s2 hr=>?_);refine qw (cs:=#[.int .i64 0,.string ⟨#[]⟩,.int .i64 0,.string ⟨#[]⟩,.slice none 0 0,.slice none 0 0]) Oy rfl (fun b4 w3 hb4 s3 hr=>?_);replace hB:=hB.tr0 (s1.trans s2);have lo4:=nLT (Bel.size hB) hr;refine zn6 ?_;refine qZ (cs:=#[_,_,_,_,_,_,_,_,_,_,_,_]) [(0,.agg _),(1,.agg _)] rfl U42 vk Oy dE dE kR rfl (fun b7 w4 hb7 s4 hr=>?_);have:=nLL hb4.lt hr;refine wl (Z9 (v0:= .int _ _) (v1:= .slice _ _ _) (fun v0 v1=>#[v0,.string ⟨#[]⟩,.int .i64 0,.string ⟨#[]⟩,.slice none 0 0,v1]) rfl rfl kR) ?_;replace hb4:=hb4.tr0 s4;refine zk hb4 rfl rfl vk rfl zK (fun w5 hq s5=>?_);replace hb4:=hq;refine zn3 ?_;refine xX (.inl rfl) rfl (zw U44 rfl rfl hb4.range0 vk) ?_;replace hB:=(hB.tr0 (s3.trans s4)).tr1 s5 lo4;replace hb7:=hb7.tr1 s5 om;exact⟨⟨_,rfl,TmD.app hb7 (fun hm=>by have:=hX _ hm;omega) (h1.bel hB) (h2.bel hB)⟩,hB⟩
end Go.Proofs.YtdgnllfbooklcaaDoor
namespace Go.Proofs.YtdgnllfbooklcaaDoor
open Go.RowKit
def qN19 (s1 s2:ByteArray):Ts:=(fun _=>(Ts.f (Ts.f (Ts.b false) (Ts.b true)) (Ts.b true))) (s1,s2)
def qN20 (s1 s2:ByteArray):Tv:=(Tv.con s1 (qN19 s1 s2))
def qN26 (s1 s2:ByteArray):Ts:=(fun _=>(Ts.f (Ts.b true) (Ts.b true))) (s1,s2)
def qN27 (s1 s2:ByteArray):Ts:=(Ts.f (Ts.b true) (qN26 s1 s2))
def qN28 (s1 s2:ByteArray):Tv:=(Tv.con s2 (qN27 s1 s2))
def qN29 (s1 s2:ByteArray):Tv:=(fun _=>(Tv.var 2)) (s1,s2)
def qN30 (s1 s2:ByteArray):Tv:=(fun _=>(Tv.var 0)) (s1,s2)
def qN31 (s1 s2:ByteArray):Tv:=(Tv.app (qN29 s1 s2) (qN30 s1 s2))
def qN32 (s1 s2:ByteArray):Tv:=(Tv.app (qN28 s1 s2) (qN31 s1 s2))
def qN33 (s1 s2:ByteArray):Tv:=(fun _=>(Tv.var 1)) (s1,s2)
def qN34 (s1 s2:ByteArray):Tv:=(fun _=>(Tv.var 0)) (s1,s2)
def qN35 (s1 s2:ByteArray):Tv:=(Tv.app (qN33 s1 s2) (qN34 s1 s2))
def qN36 (s1 s2:ByteArray):Tv:=(Tv.app (qN32 s1 s2) (qN35 s1 s2))
def qN37 (s1 s2:ByteArray):Tv:=(Tv.abs (Ts.b false) (qN36 s1 s2))
def XY (s1 s2:ByteArray):Tv:=(Tv.app (qN20 s1 s2) (qN37 s1 s2))
def qM49 (s1 s2:ByteArray):Tv:=(Tv.abs (Ts.f (Ts.b false) (Ts.b true)) (XY s1 s2))
def qM50 (s1 s2:ByteArray):Tv:=(Tv.abs (Ts.f (Ts.b false) (Ts.b true)) (qM49 s1 s2))
def qY42 (s1 s2:ByteArray):Ts:=(fun _=>(Ts.f (Ts.b true) (Ts.b true))) (s1,s2)
def qY43 (s1 s2:ByteArray):Tv:=(Tv.con ⟨#[110,111,116]⟩ (qY42 s1 s2))
def qY45 (s1 s2:ByteArray):Tv:=(Tv.app (qY43 s1 s2) (XY s1 s2))
def qY49 (s1 s2:ByteArray):Tv:=(Tv.abs (Ts.f (Ts.b false) (Ts.b true)) (qY45 s1 s2))
def qY50 (s1 s2:ByteArray):Tv:=(Tv.abs (Ts.f (Ts.b false) (Ts.b true)) (qY49 s1 s2))
def quN (s1 s2:ByteArray):Tv:=(qM50 s1 s2)
def quY (s1 s2:ByteArray):Tv:=(qY50 s1 s2)
def QuR (s1 s2:ByteArray) (wc:World) (v:Value) (w':World):Prop:=∃ b10 S38 c38 B38 m38 n38,v= .pointer (some ⟨b10,0,none⟩)∧wc.heap.size≤b10∧Blk w' b10 44 #[.int .i64 ((XY s1 s2)).tm.kind,.string ((XY s1 s2)).tm.name,.int .i64 ((XY s1 s2)).tm.index,.string ((XY s1 s2)).tm.type.base,.slice S38 ((XY s1 s2)).tm.type.args.length c38,.slice B38 ((XY s1 s2)).tm.args.length m38]∧Fz [b10] n38 TS w' (fun w=>SimsIn w S38 ((XY s1 s2)).tm.type.args∧TmsIn w B38 ((XY s1 s2)).tm.args)
theorem Same.new10 {b:Nat} {w w1 w2:World} (h:Same [] w w1) (hs:Same [b] w1 w2) (hb:w.heap.size≤b):Same [] w w2:=
  ⟨hs.os.trans h.os,hs.tape.trans h.tape,hs.output.trans h.output,nLT h.size hs.size,fun k hk _=>by
    rw [hs.blk k (nLL hk h.size) (by simp;omega)];exact h.blk k hk (by simp)⟩
theorem R0:zZ Tryd.prog 16=true:=by kernel_rfl
theorem Yv:zZ Tryd.prog 17=true:=by kernel_rfl
theorem QY:zZ Tryd.prog 23=true:=by kernel_rfl
theorem Q9:zZ Tryd.prog 24=true:=by kernel_rfl
theorem Y6:zZ Tryd.prog 25=true:=by kernel_rfl
theorem Q8:zZ Tryd.prog 26=true:=by kernel_rfl
set_option maxHeartbeats 2000000 in
theorem qu_r3 {wc:World} {b7 b8 b9 c15 n15:Nat} {A15:Option Addr} (s1 s2:ByteArray) (hb7:Blk wc b7 41 #[.string ⟨#[101]⟩,.slice none 0 0]) (hb8:Blk wc b8 41 #[.string ⟨#[116]⟩,.slice none 0 0]) (hb9:Blk wc b9 41 #[.string ((Ts.f (Ts.b false) (Ts.b true))).sm.base,.slice A15 ((Ts.f (Ts.b false) (Ts.b true))).sm.args.length c15]) (hz15:Fz [] n15 TS wc (fun w=>SimsIn w A15 ((Ts.f (Ts.b false) (Ts.b true))).sm.args)) (f:Fr) (Q:Exit→Act→World→Prop) (k0:f 0= .string s1) (k1:f 1= .string s2) (k7:f 7= .pointer (some ⟨b7,0,none⟩)) (k8:f 8= .pointer (some ⟨b8,0,none⟩)) (k9:f 9= .pointer (some ⟨b9,0,none⟩)) (hPQ:PQ Q):WC Tryd.prog (sl (sr (sr (sr (ob Tryd.f22.body))))) (QRS 51 [10,16,17,18,19,20,21,22,23,24,25,26,27,28,29,30,31,32,33,34,35,36,37,38] f (fun g w'=>Same [] wc w'∧QuR s1 s2 wc (g 10) w') Q) 51 f wc:=by
 have hZ:Same [] wc wc:=Same.refl _ _;refine zQ 0 _ k0 nu (zQ 1 _ k1 nu (zQ 7 _ k7 nu (zQ 8 _ k8 nu (zQ 9 _ k9 nu ?_))));have z7:=hb7.lt;have z8:=hb8.lt;have z9:=hb9.lt;refine uj 24 [16,17,18,19,20,21,22,23,24,25,26,27,28,29,30,31,32,33,34,35,36,37,38,10] (fun ix=>Nat.beq ix 23) (fun ix v wv=>match ix with | 0=>v= .string s1 | 1=>v= .agg #[.string ((Ts.f (Ts.b false) (Ts.b true))).sm.base,.slice A15 ((Ts.f (Ts.b false) (Ts.b true))).sm.args.length c15] | 2=>v= .agg #[.string ((Ts.b true)).sm.base,.slice none ((Ts.b true)).sm.args.length 0] | 3=>SmD [] (qN19 s1 s2) wv (v) | 4=>TmD [] (qN20 s1 s2) wv (v) | 5=>v= .agg #[.string ((Ts.b false)).sm.base,.slice none ((Ts.b false)).sm.args.length 0] | 6=>v= .string s2 | 7=>v= .agg #[.string ((Ts.b true)).sm.base,.slice none ((Ts.b true)).sm.args.length 0] | 8=>v= .agg #[.string ((Ts.b true)).sm.base,.slice none ((Ts.b true)).sm.args.length 0] | 9=>v= .agg #[.string ((Ts.b true)).sm.base,.slice none ((Ts.b true)).sm.args.length 0] | 10=>SmD [] (qN26 s1 s2) wv (v) | 11=>SmD [] (qN27 s1 s2) wv (v) | 12=>TmD [] (qN28 s1 s2) wv (v) | 13=>TmD [] (qN29 s1 s2) wv (v) | 14=>TmD [] (qN30 s1 s2) wv (v) | 15=>TmD [] (qN31 s1 s2) wv (v) | 16=>TmD [] (qN32 s1 s2) wv (v) | 17=>TmD [] (qN33 s1 s2) wv (v) | 18=>TmD [] (qN34 s1 s2) wv (v) | 19=>TmD [] (qN35 s1 s2) wv (v) | 20=>TmD [] (qN36 s1 s2) wv (v) | 21=>TmD [] (qN37 s1 s2) wv (v) | 22=>TmD [] (XY s1 s2) wv (v) | 23=>∃ b,v= .pointer (some ⟨b,0,none⟩)∧wc.heap.size≤b∧Blk wv b 44 #[.int .i64 0,.string ⟨#[]⟩,.int .i64 0,.string ⟨#[]⟩,.slice none 0 0,.slice none 0 0] | _=>True) kR kR ?_ ?_ ?_
 ·intro ix v wv wv2 h t1
  match ix,h with
  | 0,h=>exact h
  | 1,h=>exact h
  | 2,h=>exact h
  | 3,h=>
   obtain⟨A19,c19,n19,e19,hz19⟩:=h;exact⟨A19,c19,n19,e19,hz19.tr0 t1⟩
  | 4,h=>
   obtain⟨S20,c20,B20,m20,n20,e20,hz20⟩:=h;exact⟨S20,c20,B20,m20,n20,e20,hz20.tr0 t1⟩
  | 5,h=>exact h
  | 6,h=>exact h
  | 7,h=>exact h
  | 8,h=>exact h
  | 9,h=>exact h
  | 10,h=>
   obtain⟨A26,c26,n26,e26,hz26⟩:=h;exact⟨A26,c26,n26,e26,hz26.tr0 t1⟩
  | 11,h=>
   obtain⟨A27,c27,n27,e27,hz27⟩:=h;exact⟨A27,c27,n27,e27,hz27.tr0 t1⟩
  | 12,h=>
   obtain⟨S28,c28,B28,m28,n28,e28,hz28⟩:=h;exact⟨S28,c28,B28,m28,n28,e28,hz28.tr0 t1⟩
  | 13,h=>
   obtain⟨S29,c29,B29,m29,n29,e29,hz29⟩:=h;exact⟨S29,c29,B29,m29,n29,e29,hz29.tr0 t1⟩
  | 14,h=>
   obtain⟨S30,c30,B30,m30,n30,e30,hz30⟩:=h;exact⟨S30,c30,B30,m30,n30,e30,hz30.tr0 t1⟩
  | 15,h=>
   obtain⟨S31,c31,B31,m31,n31,e31,hz31⟩:=h;exact⟨S31,c31,B31,m31,n31,e31,hz31.tr0 t1⟩
  | 16,h=>
   obtain⟨S32,c32,B32,m32,n32,e32,hz32⟩:=h;exact⟨S32,c32,B32,m32,n32,e32,hz32.tr0 t1⟩
  | 17,h=>
   obtain⟨S33,c33,B33,m33,n33,e33,hz33⟩:=h;exact⟨S33,c33,B33,m33,n33,e33,hz33.tr0 t1⟩
  | 18,h=>
   obtain⟨S34,c34,B34,m34,n34,e34,hz34⟩:=h;exact⟨S34,c34,B34,m34,n34,e34,hz34.tr0 t1⟩
  | 19,h=>
   obtain⟨S35,c35,B35,m35,n35,e35,hz35⟩:=h;exact⟨S35,c35,B35,m35,n35,e35,hz35.tr0 t1⟩
  | 20,h=>
   obtain⟨S36,c36,B36,m36,n36,e36,hz36⟩:=h;exact⟨S36,c36,B36,m36,n36,e36,hz36.tr0 t1⟩
  | 21,h=>
   obtain⟨S37,c37,B37,m37,n37,e37,hz37⟩:=h;exact⟨S37,c37,B37,m37,n37,e37,hz37.tr0 t1⟩
  | 22,h=>
   obtain⟨S38,c38,B38,m38,n38,e38,hz38⟩:=h;exact⟨S38,c38,B38,m38,n38,e38,hz38.tr0 t1⟩
  | 23,h=>
   obtain⟨b10,e10,lo10,hb10⟩:=h;exact⟨b10,e10,lo10,hb10.tr0 t1⟩
  | _ + 24,h=>exact trivial
 ·intro ix o hix hoq gg wx t2 hd hdis
  match ix,hix,hoq with
  | 0,_,hoq=>
   cases sI hoq;exact oVq (x5 (v:= .string _) rfl) rfl
  | 1,_,hoq=>
   cases sI hoq;replace hb9:=hb9.tr0 t2;exact oVq (qW U41 rfl rfl hb9.range0 x7) rfl
  | 2,_,hoq=>
   cases sI hoq;replace hb8:=hb8.tr0 t2;exact oVq (qW U41 rfl rfl hb8.range0 x7) rfl
  | 3,_,hoq=>
   cases sI hoq;refine zq 17 _ (hd 1 (zj kR)) nu (zq 18 _ (hd 2 (zj kR)) nu ?_);replace hz15:=hz15.tr0 t2;refine yw Yv (gY [] (Ts.f (Ts.b false) (Ts.b true)) (Ts.b true) _ _ _ _ _ _ wx (by simp) hz15 (Fz.triv _ _ TS (fun _=>SimsIn.nil))) rfl (fun e' w2 hr=>?_);obtain⟨⟨_,rfl,hd⟩,t3⟩:=hr;exact⟨_,rfl,sB t3,hd,xk⟩
  | 4,_,hoq=>
   cases sI hoq;obtain⟨A19,c19,n19,e19,hz19⟩:=hd 3 (zj kR);refine zq 16 _ (hd 0 (zj kR)) nu (zq 19 _ e19 nu ?_);refine yw QY (uW [] s1 (qN19 s1 s2) _ _ _ wx hz19) rfl (fun e' w2 hr=>?_);obtain⟨⟨_,rfl,hd⟩,t4⟩:=hr;exact⟨_,rfl,sB t4,hd,xk⟩
  | 5,_,hoq=>
   cases sI hoq;replace hb7:=hb7.tr0 t2;exact oVq (qW U41 rfl rfl hb7.range0 x7) rfl
  | 6,_,hoq=>
   cases sI hoq;exact oVq (x5 (v:= .string _) rfl) rfl
  | 7,_,hoq=>
   cases sI hoq;replace hb8:=hb8.tr0 t2;exact oVq (qW U41 rfl rfl hb8.range0 x7) rfl
  | 8,_,hoq=>
   cases sI hoq;replace hb8:=hb8.tr0 t2;exact oVq (qW U41 rfl rfl hb8.range0 x7) rfl
  | 9,_,hoq=>
   cases sI hoq;replace hb8:=hb8.tr0 t2;exact oVq (qW U41 rfl rfl hb8.range0 x7) rfl
  | 10,_,hoq=>
   cases sI hoq;refine zq 24 _ (hd 8 (zj kR)) nu (zq 25 _ (hd 9 (zj kR)) nu ?_);refine yw Yv (gY [] (Ts.b true) (Ts.b true) _ _ _ _ _ _ wx (by simp) (Fz.triv _ _ TS (fun _=>SimsIn.nil)) (Fz.triv _ _ TS (fun _=>SimsIn.nil))) rfl (fun e' w2 hr=>?_);obtain⟨⟨_,rfl,hd⟩,t5⟩:=hr;exact⟨_,rfl,sB t5,hd,xk⟩
  | 11,_,hoq=>
   cases sI hoq;obtain⟨A26,c26,n26,e26,hz26⟩:=hd 10 (zj kR);refine zq 23 _ (hd 7 (zj kR)) nu (zq 26 _ e26 nu ?_);refine yw Yv (gY [] (Ts.b true) (qN26 s1 s2) _ _ _ _ _ _ wx (by simp) (Fz.triv _ _ TS (fun _=>SimsIn.nil)) hz26) rfl (fun e' w2 hr=>?_);obtain⟨⟨_,rfl,hd⟩,t6⟩:=hr;exact⟨_,rfl,sB t6,hd,xk⟩
  | 12,_,hoq=>
   cases sI hoq;obtain⟨A27,c27,n27,e27,hz27⟩:=hd 11 (zj kR);refine zq 22 _ (hd 6 (zj kR)) nu (zq 27 _ e27 nu ?_);refine yw QY (uW [] s2 (qN27 s1 s2) _ _ _ wx hz27) rfl (fun e' w2 hr=>?_);obtain⟨⟨_,rfl,hd⟩,t7⟩:=hr;exact⟨_,rfl,sB t7,hd,xk⟩
  | 13,_,hoq=>
   cases sI hoq;refine yw Q8 (yW [] 2 wx) rfl (fun e' w2 hr=>?_);obtain⟨⟨_,rfl,hd⟩,t8⟩:=hr;exact⟨_,rfl,sB t8,hd,xk⟩
  | 14,_,hoq=>
   cases sI hoq;refine yw Q8 (yW [] 0 wx) rfl (fun e' w2 hr=>?_);obtain⟨⟨_,rfl,hd⟩,t9⟩:=hr;exact⟨_,rfl,sB t9,hd,xk⟩
  | 15,_,hoq=>
   cases sI hoq;obtain⟨S29,c29,B29,m29,n29,e29,hz29⟩:=hd 13 (zj kR);obtain⟨S30,c30,B30,m30,n30,e30,hz30⟩:=hd 14 (zj kR);refine zq 29 _ e29 nu (zq 30 _ e30 nu ?_);refine yw Y6 (gV [] (qN29 s1 s2) (qN30 s1 s2) _ _ _ _ _ _ _ _ _ _ wx (by simp) hz29 hz30) rfl (fun e' w2 hr=>?_);obtain⟨⟨_,rfl,hd⟩,t10⟩:=hr;exact⟨_,rfl,sB t10,hd,xk⟩
  | 16,_,hoq=>
   cases sI hoq;obtain⟨S28,c28,B28,m28,n28,e28,hz28⟩:=hd 12 (zj kR);obtain⟨S31,c31,B31,m31,n31,e31,hz31⟩:=hd 15 (zj kR);refine zq 28 _ e28 nu (zq 31 _ e31 nu ?_);refine yw Y6 (gV [] (qN28 s1 s2) (qN31 s1 s2) _ _ _ _ _ _ _ _ _ _ wx (by simp) hz28 hz31) rfl (fun e' w2 hr=>?_);obtain⟨⟨_,rfl,hd⟩,t11⟩:=hr;exact⟨_,rfl,sB t11,hd,xk⟩
  | 17,_,hoq=>
   cases sI hoq;refine yw Q8 (yW [] 1 wx) rfl (fun e' w2 hr=>?_);obtain⟨⟨_,rfl,hd⟩,t12⟩:=hr;exact⟨_,rfl,sB t12,hd,xk⟩
  | 18,_,hoq=>
   cases sI hoq;refine yw Q8 (yW [] 0 wx) rfl (fun e' w2 hr=>?_);obtain⟨⟨_,rfl,hd⟩,t13⟩:=hr;exact⟨_,rfl,sB t13,hd,xk⟩
  | 19,_,hoq=>
   cases sI hoq;obtain⟨S33,c33,B33,m33,n33,e33,hz33⟩:=hd 17 (zj kR);obtain⟨S34,c34,B34,m34,n34,e34,hz34⟩:=hd 18 (zj kR);refine zq 33 _ e33 nu (zq 34 _ e34 nu ?_);refine yw Y6 (gV [] (qN33 s1 s2) (qN34 s1 s2) _ _ _ _ _ _ _ _ _ _ wx (by simp) hz33 hz34) rfl (fun e' w2 hr=>?_);obtain⟨⟨_,rfl,hd⟩,t14⟩:=hr;exact⟨_,rfl,sB t14,hd,xk⟩
  | 20,_,hoq=>
   cases sI hoq;obtain⟨S32,c32,B32,m32,n32,e32,hz32⟩:=hd 16 (zj kR);obtain⟨S35,c35,B35,m35,n35,e35,hz35⟩:=hd 19 (zj kR);refine zq 32 _ e32 nu (zq 35 _ e35 nu ?_);refine yw Y6 (gV [] (qN32 s1 s2) (qN35 s1 s2) _ _ _ _ _ _ _ _ _ _ wx (by simp) hz32 hz35) rfl (fun e' w2 hr=>?_);obtain⟨⟨_,rfl,hd⟩,t15⟩:=hr;exact⟨_,rfl,sB t15,hd,xk⟩
  | 21,_,hoq=>
   cases sI hoq;obtain⟨S36,c36,B36,m36,n36,e36,hz36⟩:=hd 20 (zj kR);refine zq 21 _ (hd 5 (zj kR)) nu (zq 36 _ e36 nu ?_);refine yw Q9 (uk [] (Ts.b false) (qN36 s1 s2) _ _ _ _ _ _ _ _ wx (by simp) (Fz.triv _ _ TS (fun _=>SimsIn.nil)) hz36) rfl (fun e' w2 hr=>?_);obtain⟨⟨_,rfl,hd⟩,t16⟩:=hr;exact⟨_,rfl,sB t16,hd,xk⟩
  | 22,_,hoq=>
   cases sI hoq;obtain⟨S20,c20,B20,m20,n20,e20,hz20⟩:=hd 4 (zj kR);obtain⟨S37,c37,B37,m37,n37,e37,hz37⟩:=hd 21 (zj kR);refine zq 20 _ e20 nu (zq 37 _ e37 nu ?_);refine yw Y6 (gV [] (qN20 s1 s2) (qN37 s1 s2) _ _ _ _ _ _ _ _ _ _ wx (by simp) hz20 hz37) rfl (fun e' w2 hr=>?_);obtain⟨⟨_,rfl,hd⟩,t17⟩:=hr;exact⟨_,rfl,sB t17,hd,xk⟩
  | 23,_,hoq=>
   cases sI hoq;have hs0:=t2;refine vK (fun ops Q K=>?_);refine qw (cs:=#[.int .i64 0,.string ⟨#[]⟩,.int .i64 0,.string ⟨#[]⟩,.slice none 0 0,.slice none 0 0]) Oy rfl (fun b10 w1 hb10 t18 hr=>?_);exact K _ _ ⟨t18,⟨_,rfl,nLT hs0.size hr,hb10⟩,fRq hr hb10.lt⟩
  | _ + 24,hix,_=>exact absurd hix om
 intro gg w2 t19 hR hdis;obtain⟨S38,c38,B38,m38,n38,e38,hz38⟩:=hR 22 dE;obtain⟨b10,e10,lo10,hb10⟩:=hR 23 dE;refine qY 38 _ e38 nu (qY 10 _ e10 nu ?_);refine zk hb10 rfl rfl vk rfl zK (fun w3 hq t20=>?_);replace hZ:=hZ.trans t19;replace hZ:=hZ.new10 t20 lo10;replace hz38:=hz38.free t20 hb10 sp_tm;replace hb10:=hq;refine zW ?_;refine e_R ⟨agA,?_⟩;exact⟨hZ,b10,S38,c38,B38,m38,_,rfl,lo10,hb10,hz38⟩
set_option maxHeartbeats 2000000 in
theorem quN_d (s1 s2:ByteArray) (w:World):Calls Tryd.prog 22 #[.string s1,.string s2,.bool false] w fun e w'=>(∃ z,e= .returned z∧TmD [] (quN s1 s2) w' z)∧Bel w w':=by
 refine enter Tryd.func22 Tryd.ntmps22 rfl (Nat.le_of_ble_eq_true rfl) ?_;have hB:Bel w w:=Below.refl _ _;refine zn2 ?_;refine qw (cs:=#[.int .i64 0,.string ⟨#[]⟩,.int .i64 0,.string ⟨#[]⟩,.slice none 0 0,.slice none 0 0]) Oy rfl (fun b6 w1 hb6 t1 hr=>?_);have lo6:=nLT (Bel.size hB) hr;refine zn4 ?_;refine zX R0 (gz _ _) rfl (fun e' w2 hr=>?_);obtain⟨rfl,t2⟩:=hr;replace t2:=sB t2;refine⟨_,rfl,?_⟩;refine zX R0 (gz _ _) rfl (fun e' w3 hr=>?_);obtain⟨rfl,t3⟩:=hr;replace t3:=sB t3;refine⟨_,rfl,?_⟩;refine qw (cs:=#[.string ⟨#[]⟩,.slice none 0 0]) yV rfl (fun b7 w4 hb7 t4 hr=>?_);replace hb6:=hb6.tr0 (t2.trans t3);have:=nLL hb6.lt hr;replace hB:=hB.tr0 (t1.trans (t2.trans t3));have lo7:=nLT (Bel.size hB) hr;refine qw (cs:=#[.string ⟨#[]⟩,.slice none 0 0]) yV rfl (fun b8 w5 hb8 t5 hr=>?_);replace hb6:=hb6.tr0 t4;have:=nLL hb6.lt hr;have:=nLL hb7.lt hr;replace hB:=hB.tr0 t4;have lo8:=nLT (Bel.size hB) hr;replace hb7:=hb7.tr0 t5;refine zk hb7 rfl rfl x7 rfl zK (fun w6 hq t6=>?_);replace hb7:=hq;replace hb8:=hb8.tr1 t6 om;refine zk hb8 rfl rfl x7 rfl zK (fun w7 hq t7=>?_);replace hb8:=hq;refine zn6 ?_;refine zX Yv (gY [] (Ts.b false) (Ts.b true) none none 0 0 _ _ _ (by simp) (Fz.triv _ _ TS (fun _=>SimsIn.nil)) (Fz.triv _ _ TS (fun _=>SimsIn.nil))) rfl (fun e' w8 hr=>?_);obtain⟨⟨_,rfl,A15,c15,n15,rfl,hz15⟩,t8⟩:=hr;replace t8:=sB t8;refine⟨_,rfl,?_⟩;refine yj (cs:=#[.string ⟨#[]⟩,.slice none 0 0]) yV rfl (fun _=>rfl) (fun _=>rfl) x7 rfl zK (fun b9 w10 hb9 t9 hr=>?_);replace hb6:=(((hb6.tr0 t5).tr1 t6 om).tr1 t7 om).tr0 t8;have:=nLL hb6.lt hr;refine zn3 ?_;replace hB:=(((hB.tr0 t5).tr1 t6 lo7).tr1 t7 lo8).tr0 (t8.trans t9);replace hb6:=hb6.tr0 t9;replace hz15:=hz15.tr0 t9;refine yz [10,16,17,18,19,20,21,22,23,24,25,26,27,28,29,30,31,32,33,34,35,36,37,38] (fun g w'=>Same [] w10 w'∧QuR s1 s2 w10 (g 10) w') ?_ (fun g3 w11 hI=>?_)
 ·replace hb7:=(hb7.tr1 t7 om).tr0 (t8.trans t9);replace hb8:=hb8.tr0 (t8.trans t9);have hh:=fun f Q k0 k1 k2 k3 k4 kq=>qu_r3 s1 s2 hb7 hb8 hb9 hz15 f Q k0 k1 k2 k3 k4 kq
  exact hh _ _ (by rfl) (by rfl) (by rfl) (by rfl) (by rfl) (by intro d;cases d <;> exact fun _ _ _ _ h=>h)
 obtain⟨t10,b10,S38,c38,B38,m38,n38,e10,lo10,hb10,hz38⟩:=hI;have:=nLL hb6.lt lo10;have q15:=hz15.le;have lo10n:=nLT (Bel.size hB) lo10;replace hz15:=hz15.tr0 t10;replace hz15:=hz15.addX (Y:=[b10]) (fun y hy=> .inr (by rw [List.mem_singleton.1 hy];exact nLT q15 lo10));replace lo10:=lo10n;refine oz 10 _ e10 nu (zn7 ?_);refine kv rfl (fun c39=>?_) (fun c39=>?_)
 ·exact absurd c39 dE
 refine zn3 ?_;refine uQ [b6] [0,1,2,3,4,5] rfl (fun w12 t11=>?_);refine zn3 ?_;replace hz15:=hz15.tr0 t11;replace hb10:=hb10.tr0 t11;replace hz38:=hz38.tr0 t11;refine hcl (fun v wv=>TmD [b10] (qM49 s1 s2) wv (v)) rfl Q9 (uk [b10] (Ts.f (Ts.b false) (Ts.b true)) (XY s1 s2) _ _ _ _ _ _ _ _ w12 (fun x hx=>by rw [List.mem_singleton.1 hx];exact hb10.lt) hz15 hz38) rfl (fun e' w2 hr=>?_) (fun v49 w13 t12 d49=>?_)
 ·obtain⟨⟨_,rfl,hd⟩,t13⟩:=hr;exact⟨_,rfl,sB t13,hd⟩
 obtain⟨S49,c49,B49,m49,n49,e49,hz49⟩:=d49;subst e49;replace hz15:=hz15.tr0 t12;replace hb10:=hb10.tr0 t12;refine hcl (fun v wv=>TmD [b10] (qM50 s1 s2) wv (v)) rfl Q9 (uk [b10] (Ts.f (Ts.b false) (Ts.b true)) (qM49 s1 s2) _ _ _ _ _ _ _ _ w13 (fun x hx=>by rw [List.mem_singleton.1 hx];exact hb10.lt) hz15 hz49) rfl (fun e' w2 hr=>?_) (fun v50 w14 t14 d50=>?_)
 ·obtain⟨⟨_,rfl,hd⟩,t15⟩:=hr;exact⟨_,rfl,sB t15,hd⟩
 obtain⟨S50,c50,B50,m50,n50,e50,hz50⟩:=d50;subst e50;refine h1 rfl ?_;replace hb6:=hb6.tr0 (t10.trans (t11.trans (t12.trans t14)));refine zk hb6 rfl rfl vk rfl zK (fun w15 hq t16=>?_);have hsH5:=t16;replace hz50:=hz50.sp1 t16 hb6 sp_tm;replace hb6:=hq;refine zW (e_H (X':=[]) (Same.weak hsH5 (by simp)) (by simp) (zn3 ?_));refine xX (.inl rfl) rfl (zw U44 rfl rfl hb6.range0 vk) ?_;replace hB:=(hB.tr0 (t10.trans (t11.trans (t12.trans t14)))).tr1 t16 lo6;exact⟨⟨_,rfl,_,_,_,_,_,rfl,hz50.nil⟩,hB⟩
set_option maxHeartbeats 2000000 in
theorem quY_d (s1 s2:ByteArray) (w:World):Calls Tryd.prog 22 #[.string s1,.string s2,.bool true] w fun e w'=>(∃ z,e= .returned z∧TmD [] (quY s1 s2) w' z)∧Bel w w':=by
 refine enter Tryd.func22 Tryd.ntmps22 rfl (Nat.le_of_ble_eq_true rfl) ?_;have hB:Bel w w:=Below.refl _ _;refine zn2 ?_;refine qw (cs:=#[.int .i64 0,.string ⟨#[]⟩,.int .i64 0,.string ⟨#[]⟩,.slice none 0 0,.slice none 0 0]) Oy rfl (fun b6 w1 hb6 t1 hr=>?_);have lo6:=nLT (Bel.size hB) hr;refine zn4 ?_;refine zX R0 (gz _ _) rfl (fun e' w2 hr=>?_);obtain⟨rfl,t2⟩:=hr;replace t2:=sB t2;refine⟨_,rfl,?_⟩;refine zX R0 (gz _ _) rfl (fun e' w3 hr=>?_);obtain⟨rfl,t3⟩:=hr;replace t3:=sB t3;refine⟨_,rfl,?_⟩;refine qw (cs:=#[.string ⟨#[]⟩,.slice none 0 0]) yV rfl (fun b7 w4 hb7 t4 hr=>?_);replace hb6:=hb6.tr0 (t2.trans t3);have:=nLL hb6.lt hr;replace hB:=hB.tr0 (t1.trans (t2.trans t3));have lo7:=nLT (Bel.size hB) hr;refine qw (cs:=#[.string ⟨#[]⟩,.slice none 0 0]) yV rfl (fun b8 w5 hb8 t5 hr=>?_);replace hb6:=hb6.tr0 t4;have:=nLL hb6.lt hr;have:=nLL hb7.lt hr;replace hB:=hB.tr0 t4;have lo8:=nLT (Bel.size hB) hr;replace hb7:=hb7.tr0 t5;refine zk hb7 rfl rfl x7 rfl zK (fun w6 hq t6=>?_);replace hb7:=hq;replace hb8:=hb8.tr1 t6 om;refine zk hb8 rfl rfl x7 rfl zK (fun w7 hq t7=>?_);replace hb8:=hq;refine zn6 ?_;refine zX Yv (gY [] (Ts.b false) (Ts.b true) none none 0 0 _ _ _ (by simp) (Fz.triv _ _ TS (fun _=>SimsIn.nil)) (Fz.triv _ _ TS (fun _=>SimsIn.nil))) rfl (fun e' w8 hr=>?_);obtain⟨⟨_,rfl,A15,c15,n15,rfl,hz15⟩,t8⟩:=hr;replace t8:=sB t8;refine⟨_,rfl,?_⟩;refine yj (cs:=#[.string ⟨#[]⟩,.slice none 0 0]) yV rfl (fun _=>rfl) (fun _=>rfl) x7 rfl zK (fun b9 w10 hb9 t9 hr=>?_);replace hb6:=(((hb6.tr0 t5).tr1 t6 om).tr1 t7 om).tr0 t8;have:=nLL hb6.lt hr;refine zn3 ?_;replace hB:=(((hB.tr0 t5).tr1 t6 lo7).tr1 t7 lo8).tr0 (t8.trans t9);replace hb8:=hb8.tr0 (t8.trans t9);replace hb6:=hb6.tr0 t9;replace hz15:=hz15.tr0 t9;refine yz [10,16,17,18,19,20,21,22,23,24,25,26,27,28,29,30,31,32,33,34,35,36,37,38] (fun g w'=>Same [] w10 w'∧QuR s1 s2 w10 (g 10) w') ?_ (fun g3 w11 hI=>?_)
 ·replace hb7:=(hb7.tr1 t7 om).tr0 (t8.trans t9);have hh:=fun f Q k0 k1 k2 k3 k4 kq=>qu_r3 s1 s2 hb7 hb8 hb9 hz15 f Q k0 k1 k2 k3 k4 kq
  exact hh _ _ (by rfl) (by rfl) (by rfl) (by rfl) (by rfl) (by intro d;cases d <;> exact fun _ _ _ _ h=>h)
 obtain⟨t10,b10,S38,c38,B38,m38,n38,e10,lo10,hb10,hz38⟩:=hI;have:=nLL hb6.lt lo10;have:=nLL hb9.lt lo10;have q15:=hz15.le;have lo10n:=nLT (Bel.size hB) lo10;replace hz15:=hz15.tr0 t10;replace hz15:=hz15.addX (Y:=[b10]) (fun y hy=> .inr (by rw [List.mem_singleton.1 hy];exact nLT q15 lo10));replace lo10:=lo10n;refine oz 10 _ e10 nu (zn7 ?_);refine kv rfl (fun c39=>?_) (fun c39=>?_)
 ·refine uj 6 [40,41,42,43,44,45] (fun _=>false) (fun ix v wv=>match ix with | 0=>v= .agg #[.string ((Ts.b true)).sm.base,.slice none ((Ts.b true)).sm.args.length 0] | 1=>v= .agg #[.string ((Ts.b true)).sm.base,.slice none ((Ts.b true)).sm.args.length 0] | 2=>SmD [b10] (qY42 s1 s2) wv (v) | 3=>TmD [b10] (qY43 s1 s2) wv (v) | 4=>v= .agg #[.int .i64 ((XY s1 s2)).tm.kind,.string ((XY s1 s2)).tm.name,.int .i64 ((XY s1 s2)).tm.index,.string ((XY s1 s2)).tm.type.base,.slice S38 ((XY s1 s2)).tm.type.args.length c38,.slice B38 ((XY s1 s2)).tm.args.length m38] | 5=>TmD [b10] (qY45 s1 s2) wv (v) | _=>True) kR kR ?_ ?_ ?_
  ·intro ix v wv wv2 h t11
   match ix,h with
   | 0,h=>exact h
   | 1,h=>exact h
   | 2,h=>
    obtain⟨A42,c42,n42,e42,hz42⟩:=h;exact⟨A42,c42,n42,e42,hz42.tr0 t11⟩
   | 3,h=>
    obtain⟨S43,c43,B43,m43,n43,e43,hz43⟩:=h;exact⟨S43,c43,B43,m43,n43,e43,hz43.tr0 t11⟩
   | 4,h=>exact h
   | 5,h=>
    obtain⟨S45,c45,B45,m45,n45,e45,hz45⟩:=h;exact⟨S45,c45,B45,m45,n45,e45,hz45.tr0 t11⟩
   | _ + 6,h=>exact trivial
  ·intro ix o hix hoq gg wx t12 hd hdis;replace hb8:=hb8.tr0 t10
   match ix,hix,hoq with
   | 0,_,hoq=>
    cases sI hoq;replace hb8:=hb8.tr0 t12;exact oVq (qW U41 rfl rfl hb8.range0 x7) rfl
   | 1,_,hoq=>
    cases sI hoq;replace hb8:=hb8.tr0 t12;exact oVq (qW U41 rfl rfl hb8.range0 x7) rfl
   | 2,_,hoq=>
    cases sI hoq;refine zq 40 _ (hd 0 (zj kR)) nu (zq 41 _ (hd 1 (zj kR)) nu ?_);replace hb10:=hb10.tr0 t12;refine yw Yv (gY [b10] (Ts.b true) (Ts.b true) _ _ _ _ _ _ wx (fun x hx=>by rw [List.mem_singleton.1 hx];exact hb10.lt) (Fz.triv _ _ TS (fun _=>SimsIn.nil)) (Fz.triv _ _ TS (fun _=>SimsIn.nil))) rfl (fun e' w2 hr=>?_);obtain⟨⟨_,rfl,hd⟩,t13⟩:=hr;exact⟨_,rfl,sB t13,hd,xk⟩
   | 3,_,hoq=>
    cases sI hoq;obtain⟨A42,c42,n42,e42,hz42⟩:=hd 2 (zj kR);refine zq 42 _ e42 nu ?_;refine yw QY (uW [b10] ⟨#[110,111,116]⟩ (qY42 s1 s2) _ _ _ wx hz42) rfl (fun e' w2 hr=>?_);obtain⟨⟨_,rfl,hd⟩,t14⟩:=hr;exact⟨_,rfl,sB t14,hd,xk⟩
   | 4,_,hoq=>
    cases sI hoq;replace hb10:=hb10.tr0 t12;exact oVq (qW U44 rfl rfl hb10.range0 vk) rfl
   | 5,_,hoq=>
    cases sI hoq;obtain⟨S43,c43,B43,m43,n43,e43,hz43⟩:=hd 3 (zj kR);refine zq 43 _ e43 nu (zq 44 _ (hd 4 (zj kR)) nu ?_);replace hb10:=hb10.tr0 t12;replace hz38:=hz38.tr0 t12;refine yw Y6 (gV [b10] (qY43 s1 s2) (XY s1 s2) _ _ _ _ _ _ _ _ _ _ wx (fun x hx=>by rw [List.mem_singleton.1 hx];exact hb10.lt) hz43 hz38) rfl (fun e' w2 hr=>?_);obtain⟨⟨_,rfl,hd⟩,t15⟩:=hr;exact⟨_,rfl,sB t15,hd,xk⟩
   | _ + 6,hix,_=>exact absurd hix om
  intro gg w12 t16 hR hdis;obtain⟨S45,c45,B45,m45,n45,e45,hz45⟩:=hR 5 dE;refine qY 45 _ e45 nu ?_;replace hb10:=hb10.tr0 t16;refine zk hb10 rfl rfl vk rfl zK (fun w13 hq t17=>?_);replace hz15:=hz15.tr0 t16;replace hz15:=hz15.in1 t17 (by simp);replace hz45:=hz45.in1 t17 (by simp);replace hb10:=hq;refine zn3 ?_;refine uQ [b6] [0,1,2,3,4,5] rfl (fun w14 t18=>?_);refine zn3 ?_;replace hz15:=hz15.tr0 t18;replace hb10:=hb10.tr0 t18;replace hz45:=hz45.tr0 t18;refine hcl (fun v wv=>TmD [b10] (qY49 s1 s2) wv (v)) rfl Q9 (uk [b10] (Ts.f (Ts.b false) (Ts.b true)) (qY45 s1 s2) _ _ _ _ _ _ _ _ w14 (fun x hx=>by rw [List.mem_singleton.1 hx];exact hb10.lt) hz15 hz45) rfl (fun e' w2 hr=>?_) (fun v49 w15 t19 d49=>?_)
  ·obtain⟨⟨_,rfl,hd⟩,t20⟩:=hr;exact⟨_,rfl,sB t20,hd⟩
  obtain⟨S49,c49,B49,m49,n49,e49,hz49⟩:=d49;subst e49;replace hz15:=hz15.tr0 t19;replace hb10:=hb10.tr0 t19;refine hcl (fun v wv=>TmD [b10] (qY50 s1 s2) wv (v)) rfl Q9 (uk [b10] (Ts.f (Ts.b false) (Ts.b true)) (qY49 s1 s2) _ _ _ _ _ _ _ _ w15 (fun x hx=>by rw [List.mem_singleton.1 hx];exact hb10.lt) hz15 hz49) rfl (fun e' w2 hr=>?_) (fun v50 w16 t21 d50=>?_)
  ·obtain⟨⟨_,rfl,hd⟩,t22⟩:=hr;exact⟨_,rfl,sB t22,hd⟩
  obtain⟨S50,c50,B50,m50,n50,e50,hz50⟩:=d50;subst e50;refine h1 rfl ?_;replace hb6:=((hb6.tr0 (t10.trans t16)).tr1 t17 om).tr0 (t18.trans (t19.trans t21));refine zk hb6 rfl rfl vk rfl zK (fun w17 hq t23=>?_);have hsH5:=t23;replace hz50:=hz50.sp1 t23 hb6 sp_tm;replace hb6:=hq;refine zW (e_H (X':=[]) (Same.weak hsH5 (by simp)) (by simp) (zn3 ?_));refine xX (.inl rfl) rfl (zw U44 rfl rfl hb6.range0 vk) ?_;replace hB:=(((hB.tr0 (t10.trans t16)).tr1 t17 lo10).tr0 (t18.trans (t19.trans t21))).tr1 t23 lo6;exact⟨⟨_,rfl,_,_,_,_,_,rfl,hz50.nil⟩,hB⟩
 exact absurd c39 dE
end Go.Proofs.YtdgnllfbooklcaaDoor
