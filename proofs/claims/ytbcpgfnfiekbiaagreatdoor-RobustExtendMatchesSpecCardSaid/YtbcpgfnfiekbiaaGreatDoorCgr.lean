/- What these functions of the program compute, at every world: glosswright/term.Clone. What these functions of the program compute, at every world: glosswright/grammar.Entry. The engine's third part: regions that draw their order, with intervals of blocks. What these functions of the program compute, at every world: slices.Clone[[]int,int], slices.Clone[[]glosswright/api.Feat,glosswright/api.Feat]. What a grammar without faults holds; entries for unknown words. No program in sight. -/
import Derived.Test.YtbcpgfnfiekbiaaGreatDoorU
import Derived.Test.YtbcpgfnfiekbiaaGreatDoorTrm
import Derived.Test.YtbcpgfnfiekbiaaGreatDoorStk
import Derived.Test.YtbcpgfnfiekbiaaGreatDoorRng
import Derived.Test.YtbcpgfnfiekbiaaGreatDoorGNodes
import Derived.Test.YtbcpgfnfiekbiaaGreatDoorEng4
namespace Go.Proofs.YtbcpgfnfiekbiaaGreatDoor
open Go.RowKit
theorem fn80:zZ Tryz.prog 80=true:=by kernel_rfl
theorem in44:(Tryz.prog.info? 44).map (fun i=>(i.zero,i.size,i.bytes))=some (some (.agg #[.int .i64 0,.string ⟨#[]⟩,.int .i64 0,.string ⟨#[]⟩,.slice none 0 0,.slice none 0 0]),6,96):=by kernel_rfl
theorem EK:(Tryz.prog.info? 42).map (·.size)=some 1:=by kernel_rfl
theorem uW:(Tryz.prog.info? 44).map (·.size)=some 6:=by kernel_rfl
theorem JW:(Tryz.prog.info? 44).map (·.zero)=some (some (.agg #[.int .i64 0,.string ⟨#[]⟩,.int .i64 0,.string ⟨#[]⟩,.slice none 0 0,.slice none 0 0])):=by kernel_rfl
set_option maxRecDepth 100000 in
set_option maxHeartbeats 4000000 in
theorem Tj {t:Tm} {SA BA:Option Addr} {cs cb:Nat} {w:World} (hK:t.args.length≤1000) (hKs:SmK t.type) (hS:SimsIn w SA t.type.args) (hT:TmsIn w BA t.args) (IH:∀ x ∈ t.args,∀ (SA BA:Option Addr) (cs cb:Nat) (w:World),SimsIn w SA x.type.args→TmsIn w BA x.args→Calls Tryz.prog 80 #[.agg #[.int .i64 (x).kind,.string (x).name,.int .i64 (x).index,.string (x).type.base,.slice SA (x).type.args.length cs,.slice BA (x).args.length cb]] w fun e w'=>(∃ S' cs' B' cb',e= .returned (.agg #[.int .i64 (x).kind,.string (x).name,.int .i64 (x).index,.string (x).type.base,.slice S' (x).type.args.length cs',.slice B' (x).args.length cb'])∧Hv w.heap.size [] w'.heap.size w' (fun w=>SimsIn w S' (x).type.args∧TmsIn w B' (x).args))∧Bel w w'):Calls Tryz.prog 80 #[.agg #[.int .i64 (t).kind,.string (t).name,.int .i64 (t).index,.string (t).type.base,.slice SA (t).type.args.length cs,.slice BA (t).args.length cb]] w fun e w'=>(∃ S' cs' B' cb',e= .returned (.agg #[.int .i64 (t).kind,.string (t).name,.int .i64 (t).index,.string (t).type.base,.slice S' (t).type.args.length cs',.slice B' (t).args.length cb'])∧Hv w.heap.size [] w'.heap.size w' (fun w=>SimsIn w S' (t).type.args∧TmsIn w B' (t).args))∧Bel w w':=by
 refine enT Tryz.func80 Tryz.ntmps80 rfl rfl fun hB=>?_;refine zn2 ?_;refine qK (v:= .agg #[_,_,_,_,_,_]) (cs:=#[_,_,_,_,_,_]) rfl rfl (fun b1 w1 hb1 t1 hr=>?_);refine zY (cs:=#[.int .i64 0,.string ⟨#[]⟩,.int .i64 0,.string ⟨#[]⟩,.slice none 0 0,.slice none 0 0]) JW rfl (fun b2 w2 hb2 t2 hr=>?_);have lo2:=nLT (Bel.size hB.u) hr;refine zn5 ?_;refine xW (cs:=#[.int .i64 0,.string ⟨#[]⟩,.int .i64 0,.string ⟨#[]⟩,.slice none 0 0,.slice none 0 0]) JW rfl (fun _=>rfl) (fun _=>rfl) uW rfl zX (fun b3 w4 hb3 t3 hr=>?_);have:=nLL hb1.u.lt hr;have:=nLL hb2.lt hr;have lo3:=nLT (Bel.size hB.u) hr;refine zn5 ?_;refine wl (zV U41 rfl rfl (hb1.u.sub (n:=2) (xs:=[_,_]) rfl) Z8) ?_;have z3:=hb3.lt;replace hb2:=hb2.tr0 t3;have z2:=hb2.lt;replace hB:=hB.tr0 (t1.trans (t2.trans t3));have hszv:=Bel.size hB;refine zJ fn112 (H9 hKs SA cs _ (hS.mono hB)) rfl (fun e' w5 hr=>?_);obtain⟨⟨S9,c9,rfl,hZ⟩,t4⟩:=hr;replace t4:=sB t4;replace hZ:=(hZ.hole (Y:=[b2,b3]) (fun y hy=> .inr (.inl (by simp only [List.mem_cons,List.not_mem_nil,or_false] at hy;omega)))).mono hszv (Nat.le_refl _) hZ.le;obtain⟨n9,hn9⟩:∃ z,z=w5.heap.size:=⟨_,rfl⟩
 rw [← hn9] at hZ;replace hb3:=hb3.tr0 t4;have l9:b3 + 1≤n9:=by rw [hn9];exact hb3.lt
 clear hn9;refine⟨_,rfl,?_⟩;refine zn1 ?_;refine oW hb3 rfl rfl Z8 (by first | decide | simp) zX rfl (fun w6 hq t5=>?_);replace hZ:=hZ.in1 t5 (by simp);replace hb3:=hq;replace hb3:Blk w6 b3 44 #[.int .i64 t.kind,.string t.name,.int .i64 t.index,.string t.type.base,.slice S9 t.type.args.length c9,.slice BA t.args.length cb]:=hb3;refine zn5 ?_;refine x9 (v:= .slice _ _ _) hb3 rfl rfl EK (by first | decide | simp) rfl rfl (fun w7 hq t6=>?_);replace hZ:=hZ.in1 t6 (by simp);replace hb3:=hq;replace hb3:Blk w7 b3 44 #[.int .i64 t.kind,.string t.name,.int .i64 t.index,.string t.type.base,.slice S9 t.type.args.length c9,.slice none 0 0]:=hb3;refine y8 ?_;refine zK (rg [5] 15 12) (fun m g w'=>∃ (j:Nat) (A3:Option Addr) (c3 n3:Nat) (vs:List Value),j≤t.args.length∧m=t.args.length - j∧g 15= .int .i64 j∧Bel w w'∧Blk w' b1 44 #[.int .i64 (t).kind,.string (t).name,.int .i64 (t).index,.string (t).type.base,.slice SA (t).type.args.length cs,.slice BA (t).args.length cb]∧Blk w' b2 44 #[.int .i64 0,.string ⟨#[]⟩,.int .i64 0,.string ⟨#[]⟩,.slice none 0 0,.slice none 0 0]∧Blk w' b3 44 #[.int .i64 t.kind,.string t.name,.int .i64 t.index,.string t.type.base,.slice S9 t.type.args.length c9,.slice A3 j c3]∧n9≤w'.heap.size∧Own w' n9 44 6 A3 j c3 vs∧Hv w.heap.size [b2,b3] n9 w' (fun w=>SimsIn w S9 t.type.args)∧Hv w.heap.size (b2 :: b3 :: aL A3) n3 w' (fun w=>RowD tmD 6 w (t.args.take j) vs)) (t.args.length) ?_ (fun m g5 w8 hI=>?_)
 ·exact⟨0,none,0,_,[],Nat.zero_le _,rfl,rfl,hB.u,hb1.u,hb2.u,hb3,hZ.le,Own.nil _ _ _ _,hZ,Hv.triv _ _ _ (fun w=> .nil)⟩
 obtain⟨j,A3,c3,n3,vs,hj,hmj,h15,hB,hb1,hb2,hb3,hz9,ho3,hZ,hH⟩:=hI;refine zQ 15 _ h15 nu (zn6 ?_);refine zy rfl (fun c16=>?_) (fun c16=>?_)
 ·have hja:j < t.args.length:=by omega
  obtain⟨sb,so,Sx,csx,Bx,cbx,rfl,hsb,hrx,hsx,htx⟩:=hT.at_ hja;refine zn8 ?_;refine zY (cs:=#[.int .i64 0,.string ⟨#[]⟩,.int .i64 0,.string ⟨#[]⟩,.slice none 0 0,.slice none 0 0]) JW rfl (fun b5 w9 hb5 t7 hr=>?_);have:=nLL hb1.lt hr;have:=nLL hb2.lt hr;have:=nLL hb3.lt hr;have or_ho3_b5:=fun g hg=>nLL (ho3.lt g hg).2 hr
  have or_hZ_b5:=(nLT hZ.le hr)
  have or_hH_b5:=(nLT hH.le hr)
  have lo5:=nLT (Bel.size hB) hr;refine zj hb5 rfl rfl uW rfl zX (fun w10 hq t8=>?_);replace ho3:=ho3.tr0 t7;replace ho3:=ho3.tr1 t8 (neL or_ho3_b5);replace hZ:=hZ.tr0 t7;replace hZ:=hZ.tr t8 (fun g hg=> .inr (.inr (by rw [List.mem_singleton.1 hg];exact or_hZ_b5)));replace hH:=hH.tr0 t7;replace hH:=hH.tr t8 (fun g hg=> .inr (.inr (by rw [List.mem_singleton.1 hg];exact or_hH_b5)));replace hb5:=hq;refine zw (e_S ?_);have zo:=fun g hg=>(ho3.lt g hg).2
  replace hb3:=(hb3.tr0 t7).tr1 t8 om;have z3:=hb3.lt;replace hb2:=(hb2.tr0 t7).tr1 t8 om;have z2:=hb2.lt;replace hB:=(hB.tr0 t7).tr1 t8 lo5;have hsz:=Bel.size hB;refine jZ 5 [19,20,21,22,23] (fun ix=>Nat.beq ix 4) (fun ix v wv=>match ix with | 0=>v= .pointer (some ⟨b3,5,none⟩) | 1=>v= .slice A3 j c3 | 2=>v= .agg #[.int .i64 ((t.args[j])).kind,.string ((t.args[j])).name,.int .i64 ((t.args[j])).index,.string ((t.args[j])).type.base,.slice Sx ((t.args[j])).type.args.length csx,.slice Bx ((t.args[j])).args.length cbx] | 3=>∃ S22 s22 B22 c22 n22,v= .agg #[.int .i64 ((t.args[j])).kind,.string ((t.args[j])).name,.int .i64 ((t.args[j])).index,.string ((t.args[j])).type.base,.slice S22 ((t.args[j])).type.args.length s22,.slice B22 ((t.args[j])).args.length c22]∧Hv w10.heap.size [] n22 wv (fun w=>SimsIn w S22 (t.args[j]).type.args∧TmsIn w B22 (t.args[j]).args) | 4=>∃ b S22 s22 B22 c22 n22,v= .slice (some ⟨b,0,none⟩) 1 1∧w10.heap.size≤b∧Blk wv b 44 #[.int .i64 ((t.args[j])).kind,.string ((t.args[j])).name,.int .i64 ((t.args[j])).index,.string ((t.args[j])).type.base,.slice S22 ((t.args[j])).type.args.length s22,.slice B22 ((t.args[j])).args.length c22]∧Hv w10.heap.size [] n22 wv (fun w=>SimsIn w S22 (t.args[j]).type.args∧TmsIn w B22 (t.args[j]).args) | _=>True) kR kR ?_ ?_ ?_
  ·intro ix v wv wv2 h t9
   match ix,h with
   | 0,h=>exact h
   | 1,h=>exact h
   | 2,h=>exact h
   | 3,h=>
    obtain⟨S22,s22,B22,c22,n22,e22,hz22⟩:=h;exact⟨S22,s22,B22,c22,n22,e22,hz22.tr0 t9⟩
   | 4,h=>
    obtain⟨b23,S23,s23,B23,c23,n23,e23,lo23,hb23,hz23⟩:=h;exact⟨b23,S23,s23,B23,c23,n23,e23,lo23,hb23.tr0 t9,hz23.tr0 t9⟩
   | _ + 5,h=>exact trivial
  ·intro ix o hix hoq gg wx t10 hd hdis
   match ix,hix,hoq with
   | 0,_,hoq=>
    cases sI hoq;exact oVq (uk U44 EK dE rfl rfl rfl) rfl
   | 1,_,hoq=>
    cases sI hoq;refine zz 19 _ (hd 0 (zq kR)) nu ?_;exact oVq (qZ (v:= .slice _ _ _) U42 rfl rfl (hb3.u.cell rfl)) rfl
   | 2,_,hoq=>
    cases sI hoq;exact oVq (zV U44 rfl rfl hb5.u.range0 uW) rfl
   | 3,_,hoq=>
    cases sI hoq;have hs0:=t10;refine zz 21 _ (hd 2 (zq kR)) nu ?_;refine yK fn80 (IH _ (List.getElem_mem hja) Sx Bx csx cbx wx (hsx.mono hB.u) (htx.mono hB.u)) rfl (fun e' w2 hr=>?_);obtain⟨⟨S22,s22,B22,c22,rfl,hz22⟩,t11⟩:=hr;exact⟨_,rfl,sB t11,⟨S22,s22,B22,c22,_,rfl,hz22.mono hs0.size (Nat.le_refl _) (Nat.le_refl _)⟩,xq⟩
   | 4,_,hoq=>
    cases sI hoq;have hs0:=t10;obtain⟨S22,s22,B22,c22,n22,e22,hz22⟩:=hd 3 (zq kR);refine zz 22 _ e22 nu ?_;refine vK (fun ops Q K=>?_);refine qv (cs:=#[_,_,_,_,_,_]) [(0,.agg _)] rfl U42 uW JW dE dE kR rfl (fun b23 w11 hb23 t12 hr=>?_);exact K _ _ ⟨t12,⟨_,S22,s22,B22,c22,n22,rfl,nLT hs0.size hr,hb23,hz22.tr0 t12⟩,fRq hr hb23.lt⟩
   | _ + 5,hix,_=>exact absurd hix om
  intro gg w12 t13 hR hdis;obtain⟨b23,S23,s23,B23,c23,n23,e23,lo23,hb23,hz23⟩:=hR 4 dE;replace hH:=hH.tr0 t13;have hnH:=hH.le;have hnz:=hz23.le;replace hZ:=hZ.tr0 t13;have hn9:=hZ.le;refine x7 20 _ (hR 1 dE) nu (x7 23 _ e23 nu ?_);replace ho3:=ho3.tr0 t13;refine vW U42 in44 rfl dE ho3 hb23 rfl rfl rfl zX dE om om hn9 (fun g24 cap24 w13 ho24 t14 hg=>?_);have ne_ho24_b1:g24≠b1:=neA ho3 hb1.u.lt hg
  have ne_ho24_b2:g24≠b2:=neA ho3 hb2.u.lt hg
  have ne_ho24_b3:g24≠b3:=neA ho3 hb3.u.lt hg
  have ne_ho24_b5:g24≠b5:=neB hb5.u.lt hg (neL or_ho3_b5)
  replace hB:=hB.u.tr t14 (fun g hg=>nLT om (ho3.lt g hg).1);replace hb1:=((hb1.tr0 t7).tr1 t8 om).tr0 t13;replace hb1:=hb1.ta t14 ho3;replace hb2:=hb2.tr0 t13;replace hb2:=hb2.ta t14 ho3;replace hb3:=hb3.tr0 t13;replace hb3:=hb3.ta t14 ho3;replace hZ:=hZ.tr t14 (fun g hg=> .inr (.inr (ho3.lt g hg).1));replace hH:=hH.tr t14 (fun g hg=> .inr (.inl (by simp [hg])));replace hz23:=hz23.tr t14 (fun g hg=> .inl (zo g hg));refine zn1 ?_;refine x9 (v:= .slice _ _ _) hb3 rfl rfl EK (by first | decide | simp) rfl rfl (fun w14 hq t15=>?_);replace hZ:=hZ.in1 t15 (by simp);replace hH:=hH.in1 t15 (by simp);replace hz23:=hz23.lo1 t15 z3;replace ho24:=ho24.tr1 t15 (neS ne_ho24_b3);replace hb3:=hq
  have hH2:=RowD.app (Y:=b2 :: b3 :: aL (some (⟨g24,0,none⟩:Addr))) hja rfl hH rfl (hz23.imp (fun _ h=>(⟨S23,B23,s23,c23,rfl,h.1,h.2⟩:tmD _ _ _))) hsz (fun y hy=>by
    rcases List.mem_cons.1 hy with h | hy
    · exact .inl (by simp [h])
    rcases List.mem_cons.1 hy with h | hy
    · exact .inl (by simp [h])
    · cases List.mem_singleton.1 hy
      rcases hg with hg | hg
      · exact .inl (by simp [hg])
      · exact .inr (nLT hnH hg)) (fun y hy=>by
    rcases List.mem_cons.1 hy with h | hy
    · exact .inl (by rw [h];exact z2)
    rcases List.mem_cons.1 hy with h | hy
    · exact .inl (by rw [h];exact z3)
    · cases List.mem_singleton.1 hy
      rcases hg with hg | hg
      · exact .inl (zo g24 (by rw [hg];exact List.mem_singleton.2 rfl))
      · exact .inr (nLT hnz hg))
  refine zn7 ?_;refine qV (t.args.length - (j + 1)) om agA ?_;exact⟨j + 1,_,_,_,_,by omega,rfl,rfl,hB.u,hb1.u,hb2.u,hb3,hZ.le,ho24,hZ,hH2⟩
 have hje:j=t.args.length:=by omega
 refine zn8 ?_;refine zj hb2 rfl rfl uW rfl zX (fun w15 hq t16=>?_);replace ho3:=ho3.tq t16;replace hZ:=hZ.in1 t16 (by simp);replace hH:=hH.in1 t16 (by simp);replace hb2:=hq;refine zn3 ?_;refine x8 (.inl rfl) rfl (zk U44 rfl rfl hb2.range0 uW) ?_;replace hb3:=hb3.tr1 t16 om;rw [hje] at ho3 hH hb3;rw [List.take_length] at hH;replace hB:=hB.tr1 t16 lo2;exact⟨⟨S9,c9,A3,c3,by rw [hje],hZ.nil.and (own_tms ho3 om hH)⟩,hB⟩
theorem Ey {t:Tm} (h:TmK t):∀ (SA BA:Option Addr) (cs cb:Nat) (w:World),SimsIn w SA t.type.args→TmsIn w BA t.args→Calls Tryz.prog 80 #[.agg #[.int .i64 (t).kind,.string (t).name,.int .i64 (t).index,.string (t).type.base,.slice SA (t).type.args.length cs,.slice BA (t).args.length cb]] w fun e w'=>(∃ S' cs' B' cb',e= .returned (.agg #[.int .i64 (t).kind,.string (t).name,.int .i64 (t).index,.string (t).type.base,.slice S' (t).type.args.length cs',.slice B' (t).args.length cb'])∧Hv w.heap.size [] w'.heap.size w' (fun w=>SimsIn w S' (t).type.args∧TmsIn w B' (t).args))∧Bel w w':=by
  induction h with
  | mk hs hl _ ih=>exact fun SA BA cs cb w hS hT=>Tj hl hs hS hT (fun x hx SA BA cs cb w h1 h2=>ih x hx SA BA cs cb w h1 h2)
end Go.Proofs.YtbcpgfnfiekbiaaGreatDoor
namespace Go.Proofs.YtbcpgfnfiekbiaaGreatDoor
open Go.RowKit
noncomputable def ow (l:List Ty) (fs:List Ft) (x:Lx):Lx:={ x with gr:=yk l fs x.gr }
noncomputable def gZ (l:List Ty) (fs:List Ft) (r:Rl):Rl:={ r with gr:=yk l fs r.gr }
theorem OX (G:Option Addr) (cg:Nat) (l:List Ty) (fs:List Ft) (gr:List Nd) (w:World) (hG:NodesIn w G gr) (h0:(jJ l fs gr).1=0):Calls Tryz.prog 79 #[.agg #[.slice G gr.length cg],.int .i64 0] w fun e w'=>(∃ A c,e= .returned (.agg #[.slice A (yk l fs gr).length c])∧Hv w.heap.size [] w'.heap.size w' (fun w=>NodesIn w A (yk l fs gr)))∧Bel w w':=by
  have hgv:=gv_of h0;refine(from_any G cg l.length fs.length gr 0 w hG hgv.gok (by have:=hgv.few;omega) hgv.gok.pos).mono fun e w' h=>?_
  obtain⟨⟨o,A,hD,_,he,hN⟩,hs⟩:=h;refine⟨⟨A,o.length,?_,?_⟩,hs⟩
  · rw [he,E1 h0 hD,Zq]
  · rw [E1 h0 hD];exact Hv.fr hN
theorem fn79:zZ Tryz.prog 79=true:=by kernel_rfl
theorem y9:(Tryz.prog.info? 46).map (·.size)=some 9:=by kernel_rfl
theorem kK:(Tryz.prog.info? 46).map (·.zero)=some (some (.agg #[.string ⟨#[]⟩,.slice none 0 0,.int .i64 0,.int .i64 0,.string ⟨#[]⟩,.int .i64 0,.string ⟨#[]⟩,.slice none 0 0,.slice none 0 0])):=by kernel_rfl
set_option maxRecDepth 100000 in
set_option maxHeartbeats 2000000 in
theorem OK (l:List Ty) (fs:List Ft) (x:Lx) (G SA BA:Option Addr) (cg cs cb:Nat) (w:World) (h0:(jJ l fs x.gr).1=0) (hK:TmK x.mean) (hG:NodesIn w G x.gr) (hS:SimsIn w SA x.mean.type.args) (hT:TmsIn w BA x.mean.args):Calls Tryz.prog 60 #[.agg #[.string (x).word,.slice G (x).gr.length cg,.int .i64 (x).wt,.int .i64 ((x).mean).kind,.string ((x).mean).name,.int .i64 ((x).mean).index,.string ((x).mean).type.base,.slice SA ((x).mean).type.args.length cs,.slice BA ((x).mean).args.length cb]] w fun e w'=>(∃ A5 c5 S8 s8 B8 c8,e= .returned (.agg #[.string (x).word,.slice A5 (yk l fs x.gr).length c5,.int .i64 (x).wt,.int .i64 ((x).mean).kind,.string ((x).mean).name,.int .i64 ((x).mean).index,.string ((x).mean).type.base,.slice S8 ((x).mean).type.args.length s8,.slice B8 ((x).mean).args.length c8])∧Hv w.heap.size [] w'.heap.size w' (fun w=>NodesIn w A5 (yk l fs x.gr)∧SimsIn w S8 x.mean.type.args∧TmsIn w B8 x.mean.args))∧Bel w w':=by
 refine enT Tryz.func60 Tryz.ntmps60 rfl rfl fun hB=>?_;refine zn2 ?_;refine qK (v:= .agg #[_,_,_,_,_,_,_,_,_]) (cs:=#[_,_,_,_,_,_,_,_,_]) rfl rfl (fun b1 w1 hb1 t1 hr=>?_);have lo1:=nLT (Bel.size hB) hr;refine zY (cs:=#[.string ⟨#[]⟩,.slice none 0 0,.int .i64 0,.int .i64 0,.string ⟨#[]⟩,.int .i64 0,.string ⟨#[]⟩,.slice none 0 0,.slice none 0 0]) kK rfl (fun b2 w2 hb2 t2 hr=>?_);have:=nLL hb1.lt hr;have lo2:=nLT (Bel.size hB.u) hr;refine zn3 ?_;replace hb1:=hb1.tr0 t2;have z1:=hb1.lt;have z2:=hb2.lt;replace hB:=hB.tr0 (t1.trans t2);have hsz:=Bel.size hB;refine kX [] [7,9] [0,1,3,4,2,6,5,7,8,9] rfl (fun w3 t3=>?_);have hs0:=t3;refine zn1 ?_;refine hlS rfl U30 rfl rfl (hb1.u.sub (n:=1) (xs:=[_]) rfl) uj (zn1 ?_);refine hlS rfl U44 rfl rfl (hb1.u.sub (n:=6) (xs:=[_,_,_,_,_,_]) rfl) uW ?_;refine hcl (fun v wv=>∃ A5 c5 n5,v= .agg #[.slice A5 (yk l fs x.gr).length c5]∧Hv w2.heap.size [] n5 wv (fun w=>NodesIn w A5 (yk l fs x.gr))) rfl fn79 (OX G cg l fs x.gr w3 (hG.mono hB.u) h0) rfl (fun e' w2 hr=>?_) (fun v5 w4 t4 d5=>?_)
 ·obtain⟨⟨A5,c5,rfl,hz5⟩,t5⟩:=hr;exact⟨_,rfl,sB t5,⟨A5,c5,_,rfl,hz5.mono hs0.size (Nat.le_refl _) (Nat.le_refl _)⟩⟩
 obtain⟨A5,c5,n5,e5,hz5⟩:=d5;subst e5;refine zn1 ?_;refine hcl (fun v wv=>∃ S8 s8 B8 c8 n8,v= .agg #[.int .i64 (x.mean).kind,.string (x.mean).name,.int .i64 (x.mean).index,.string (x.mean).type.base,.slice S8 (x.mean).type.args.length s8,.slice B8 (x.mean).args.length c8]∧Hv w2.heap.size [] n8 wv (fun w=>SimsIn w S8 x.mean.type.args∧TmsIn w B8 x.mean.args)) rfl fn80 (Ey hK SA BA cs cb w4 (hS.mono hB.u) (hT.mono hB.u)) rfl (fun e' w2 hr=>?_) (fun v8 w5 t6 d8=>?_)
 ·obtain⟨⟨S8,s8,B8,c8,rfl,hz8⟩,t7⟩:=hr;replace hs0:=hs0.trans t4;exact⟨_,rfl,sB t7,⟨S8,s8,B8,c8,_,rfl,hz8.mono hs0.size (Nat.le_refl _) (Nat.le_refl _)⟩⟩
 obtain⟨S8,s8,B8,c8,n8,e8,hz8⟩:=d8;subst e8;refine h1 rfl ?_;replace hb1:=hb1.tr0 (t3.trans (t4.trans t6));refine oW hb1 rfl rfl uj (by first | decide | simp) zX rfl (fun w6 hq t8=>?_);have hsH7:=t8;replace hz5:=hz5.tr0 t6;replace hz5:=hz5.lo1 t8 z1;replace hz8:=hz8.lo1 t8 z1;replace hb1:=hq;replace hb1:Blk w6 b1 46 #[.string (x).word,.slice A5 (yk l fs x.gr).length c5,.int .i64 (x).wt,.int .i64 ((x).mean).kind,.string ((x).mean).name,.int .i64 ((x).mean).index,.string ((x).mean).type.base,.slice SA ((x).mean).type.args.length cs,.slice BA ((x).mean).args.length cb]:=hb1;refine zw (Q5 [9] (zn1 ?_));refine h1 rfl ?_;refine oW hb1 rfl rfl uW (by first | decide | simp) zX rfl (fun w7 hq t9=>?_);have hsH9:=t9;replace hz5:=hz5.lo1 t9 z1;replace hz8:=hz8.lo1 t9 z1;replace hb1:=hq;replace hb1:Blk w7 b1 46 #[.string (x).word,.slice A5 (yk l fs x.gr).length c5,.int .i64 (x).wt,.int .i64 ((x).mean).kind,.string ((x).mean).name,.int .i64 ((x).mean).index,.string ((x).mean).type.base,.slice S8 ((x).mean).type.args.length s8,.slice B8 ((x).mean).args.length c8]:=hb1;refine zw (Q5 [] (zn5 ?_));refine zj hb2.u rfl rfl y9 rfl zX (fun w8 hq t10=>?_);replace hz5:=hz5.lo1 t10 z2;replace hz8:=hz8.lo1 t10 z2;replace hb2:=hq;refine zn3 ?_;refine x8 (.inl rfl) rfl (zk U46 rfl rfl hb2.range0 y9) ?_;exact⟨⟨A5,c5,S8,s8,B8,c8,rfl,(hz5.and hz8).mono hsz (Nat.le_refl _) (Nat.le_refl _)⟩,hB.u⟩
end Go.Proofs.YtbcpgfnfiekbiaaGreatDoor
namespace Go.Proofs.YtbcpgfnfiekbiaaGreatDoor
open Go.RowKit
section monoi
variable {P:Program} {Q:Exit→Act→World→Prop} {n:Nat} {f:Fr} {w:World}
def FinAll (p:List Nat→Prop):List (List Nat)→Prop
  | []=>True
  | x :: r=>p x∧FinAll p r
theorem FinAll.get {p:List Nat→Prop}:∀ {xs:List (List Nat)},FinAll p xs→∀ x ∈ xs,p x
  | _ :: _,h,x,hx=>by
    rcases List.mem_cons.1 hx with rfl | hx
    · exact h.1
    · exact FinAll.get h.2 x hx
end monoi
def Kept (lo hi:Nat) (w:World) (p:World→Prop):Prop:=hi≤w.heap.size∧∀ w2:World,hi≤w2.heap.size→(∀ b,lo≤b→b < hi→w2.heap[b]? =w.heap[b]?)→p w2
theorem Kept.now {lo hi:Nat} {w:World} {p:World→Prop} (h:Kept lo hi w p):p w:=h.2 w h.1 (fun _ _ _=>rfl)
theorem Kept.tr {lo hi:Nat} {w w':World} {p:World→Prop} {X:List Nat} (h:Kept lo hi w p) (hs:Same X w w') (hx:∀ g ∈ X,g < lo∨hi≤g):Kept lo hi w' p:=
  ⟨nLT h.1 hs.size,fun w2 h2 hb=>h.2 w2 h2 (fun b h3 h4=>(hb b h3 h4).trans (hs.blk b (nLL h4 h.1) (fun hX=>by rcases hx b hX with h5 | h5 <;> omega)))⟩
theorem Kept.tr0 {lo hi:Nat} {w w':World} {p:World→Prop} (h:Kept lo hi w p) (hs:Same [] w w'):Kept lo hi w' p:=h.tr hs (by simp)
theorem Kept.tr1 {lo hi b:Nat} {w w':World} {p:World→Prop} (h:Kept lo hi w p) (hs:Same [b] w w') (hx:b < lo∨hi≤b):Kept lo hi w' p:=h.tr hs (fun g hg=>by rw [List.mem_singleton.1 hg];exact hx)
theorem Kept.imp {lo hi:Nat} {w:World} {p q:World→Prop} (h:Kept lo hi w p) (k:∀ w2,p w2→q w2):Kept lo hi w q:=⟨h.1,fun w2 h2 hb=>k w2 (h.2 w2 h2 hb)⟩
end Go.Proofs.YtbcpgfnfiekbiaaGreatDoor
namespace Go.Proofs.YtbcpgfnfiekbiaaGreatDoor
open Go.RowKit
theorem in3_ECi:(Tryz.prog.info? 3).map (fun i=>(i.zero,i.size,i.bytes))=some (some (.int .i64 0),1,8):=by kernel_rfl
theorem in68:(Tryz.prog.info? 68).map (fun i=>(i.zero,i.size,i.bytes))=some (some (.agg #[.string ⟨#[]⟩,.int .i64 0,.int .i64 0]),3,32):=by kernel_rfl
theorem sz3_ECi:(Tryz.prog.info? 3).map (·.size)=some 1:=by kernel_rfl
theorem sz68_ECi:(Tryz.prog.info? 68).map (·.size)=some 3:=by kernel_rfl
theorem Lk (A:Option Addr) (c:Nat) (xs:List Int) (w:World) (hX:IntsIn w A xs) (hl:xs.length≤1000000):Calls Tryz.prog 98 #[.slice A xs.length c] w fun e w'=>(∃ A' cap',e= .returned (.slice A' xs.length cap')∧Own w' w.heap.size 3 1 A' xs.length cap' (xs.map (Value.int .i64)))∧Bel w w':=by
 refine enT Tryz.func98 Tryz.ntmps98 rfl rfl fun hB=>?_;refine zn9 ?_;refine wl (O5 U66 rfl rfl) (zw (e_S ?_));refine vw rfl (fun c4=>?_) (fun c4=>?_)
 ·have hn:xs= []:=by
    refine Classical.byContradiction (fun hne=>?_);obtain⟨b,o,h,_⟩:=hX.2 hne;rw [h] at c4;cases c4
  subst hn;refine zn8 ?_;exact⟨⟨none,0,rfl,Own.nil _ _ _ _⟩,hB⟩
 refine zn4 ?_;refine Wk U66 sz3_ECi (fun b5 w1 hb5 s1 hr=>?_);have lo5:=nLT (Bel.size hB) hr;refine wmS rfl ?_;have hown:=VW (sz:=1) (m:=0) hb5 (Nat.le_refl b5) rfl dE;replace hB:=hB.tr0 s1;refine Gv (news:=xs.map (Value.int .i64)) U66 in3_ECi rfl dE hown rfl rfl (fun hm=>ints_news (hX.mono hB) hm) (by simp) (by simp [List.all_eq_true];intros;rfl) om om (Nat.le_of_lt hb5.lt) (fun A7 cap7 w9 ho7 s2 hg=>?_);have hB9:Bel w w9:=hB.tr s2 (fun g hg=>by cases List.mem_singleton.1 hg;exact lo5);refine zn5 ?_;refine⟨⟨A7,cap7,?_,?_⟩,hB9⟩
 · show Ending.returned (.slice _ (0 + xs.length) _)=_
   rw [Nat.zero_add]
 · have h:=ho7.low lo5
   rw [Nat.zero_add] at h;exact h
theorem LW (A:Option Addr) (c:Nat) (xs:List Ft) (w:World) (hX:FeatsIn w A xs) (hl:xs.length≤1000000):Calls Tryz.prog 99 #[.slice A xs.length c] w fun e w'=>(∃ A' cap',e= .returned (.slice A' xs.length cap')∧Own w' w.heap.size 68 3 A' xs.length cap' (feV xs))∧Bel w w':=by
 refine enT Tryz.func99 Tryz.ntmps99 rfl rfl fun hB=>?_;refine zn9 ?_;refine wl (O5 U23 rfl rfl) (zw (e_S ?_));refine vw rfl (fun c4=>?_) (fun c4=>?_)
 ·have hn:xs= []:=by
    refine Classical.byContradiction (fun hne=>?_);obtain⟨b,o,h,_⟩:=hX.2 hne;rw [h] at c4;cases c4
  subst hn;refine zn8 ?_;exact⟨⟨none,0,rfl,Own.nil _ _ _ _⟩,hB⟩
 refine zn4 ?_;refine Wk U23 sz68_ECi (fun b5 w1 hb5 s1 hr=>?_);have lo5:=nLT (Bel.size hB) hr;refine wmS rfl ?_;have hown:=VW (sz:=3) (m:=0) hb5 (Nat.le_refl b5) rfl dE;refine Gv (news:=feV xs) U23 in68 rfl dE hown rfl rfl (fun hm=>LV (hX.mono hB.u) hm) (feV_len xs) (feV_one xs) om om (Nat.le_of_lt hb5.lt) (fun A7 cap7 w9 ho7 s2 hg=>?_);replace hB:=hB.tr0 s1;have hB9:Bel w w9:=hB.tr s2 (fun g hg=>by cases List.mem_singleton.1 hg;exact lo5);refine zn5 ?_;refine⟨⟨A7,cap7,?_,?_⟩,hB9⟩
 · show Ending.returned (.slice _ (0 + xs.length) _)=_
   rw [Nat.zero_add]
 · have h:=ho7.low lo5
   rw [Nat.zero_add] at h;exact h
end Go.Proofs.YtbcpgfnfiekbiaaGreatDoor
namespace Go.Proofs.YtbcpgfnfiekbiaaGreatDoor
open Go.RowKit
theorem tmF_K {t:Tm} (h:(tmF t).1=0):TmK t:=by
  have h0:(twk t 1 0 0).2.1=0:=Classical.byContradiction (fun hc=>by rw [Ck hc] at h;exact hc h);obtain⟨v,rfl,_⟩:=Ew t 1 0 0 h0;exact v.tmK
theorem Hj {l:List Ty} {fs:List Ft} {r:Rl} (hh:(qx l fs).1=0) (h:X5 l fs r=0):(jJ l fs r.gr).1=0∧TmK r.mean:=by
  by_cases h1:I3 r
  · rw [HZ h1] at h;cases h
  by_cases h2:(xy l fs r.gr).1=0
  · by_cases h3:gk r.gr r.kids=true
    · rw [rl_ok h1 h2 h3] at h
      exact⟨by rw [FV hh];exact h2,tmF_K h⟩
    · rw [rl_pl h1 h2 (by simpa using h3)] at h;cases h
  · rw [rl_gr h1 h2] at h;exact absurd h h2
theorem Mv {l:List Ty} {fs:List Ft} {x:Lx} (hh:(qx l fs).1=0) (h:Y0 l fs x=0):(jJ l fs x.gr).1=0∧TmK x.mean∧yX x.word=true:=by
  cases h0:yX x.word with
  | false=>rw [BK h0] at h;cases h
  | true=>
    by_cases h1:N1 x
    · rw [L9 h0 h1] at h;cases h
    by_cases h2:(xy l fs x.gr).1=0
    · rw [lx_ok h0 h1 h2] at h
      exact⟨by rw [FV hh];exact h2,tmF_K h,rfl⟩
    · rw [lx_gr h0 h1 h2] at h;exact absurd h h2
structure GpS (l:List Ty) (fs:List Ft) (rs:List Rl) (xs:List Lx) (st:List Nd):Prop where
  hier:(qx l fs).1=0
  rn:rs.length≤40
  xn:xs.length≤100
  rok:∀ i (h:i < rs.length),(jJ l fs (rs[i]).gr).1=0∧TmK (rs[i]).mean
  xok:∀ i (h:i < xs.length),(jJ l fs (xs[i]).gr).1=0∧TmK (xs[i]).mean
  sok:(jJ l fs st).1=0
theorem Ow {l:List Ty} {fs:List Ft} {rs:List Rl} {xs:List Lx} {st:List Nd} (h:(jv l fs rs xs st).1=0):GpS l fs rs xs st:=by
  unfold jv at h;by_cases h1:(qx l fs).1≠0
  · rw [if_pos h1] at h;exact absurd h h1
  rw [if_neg h1] at h;have hh:=Decidable.not_not.1 h1;by_cases h2:fs.length≤3
  · rw [if_pos h2] at h;cases h
  rw [if_neg h2] at h;by_cases h3:40 < rs.length∨100 < xs.length
  · rw [if_pos h3] at h;cases h
  rw [if_neg h3] at h;by_cases h4:(zW (uw l fs rs) 0 rs.length).1≠0
  · rw [if_pos h4] at h;exact absurd h h4
  rw [if_neg h4] at h;by_cases h5:(zW (gJ l fs xs) 0 xs.length).1≠0
  · rw [if_pos h5] at h;exact absurd h h5
  rw [if_neg h5] at h;by_cases h6:(xy l fs st).1≠0
  · rw [if_pos h6] at h;exact absurd h h6
  refine⟨hh,by omega,by omega,fun i hi=>?_,fun i hi=>?_,by rw [FV hh];exact Decidable.not_not.1 h6⟩
  · have hr:=yJ (Decidable.not_not.1 h4) i (Nat.zero_le _) om
    cases a:xK (rs[i]).name with
    | false=>rw [rn10 hi a] at hr;cases hr
    | true=>
      cases b:jj ((rs.take i).map (·.name)) (rs[i]).name with
      | true=>rw [rn7 hi a b] at hr;cases hr
      | false=>
        rw [rnF hi a b] at hr;exact Hj hh hr
  · have hr:=yJ (Decidable.not_not.1 h5) i (Nat.zero_le _) om
    rw [lnF hi] at hr;exact⟨(Mv hh hr).1,(Mv hh hr).2.1⟩
end Go.Proofs.YtbcpgfnfiekbiaaGreatDoor
