/- What these functions of the program compute, at every world: glosswright/grammar.Copy. What these functions of the program compute, at every world: glosswright/glosswrightref4.CopyOf. -/
import Derived.Test.YtbcpgfnfiekbiaaGreatDoorU
import Derived.Test.YtbcpgfnfiekbiaaGreatDoorTrm
import Derived.Test.YtbcpgfnfiekbiaaGreatDoorCgr
namespace Go.Proofs.YtbcpgfnfiekbiaaGreatDoor
open Go.RowKit
theorem Q8 {A B:Option Addr} (n c:Nat) (h:A=B):Value.slice A n c=Value.slice B n c:=by rw [h]
theorem nb2 {w:World} {base k cap sz b2 b3:Nat} {e:TypeId} {A:Option Addr} {xs:List Value} (ho:Own w base e sz A k cap xs) (h:b2 < b3) (hl:b3 + 1≤base):∀ y ∈ [b2,b3],y ∉ aL A:=fun y hy hm=>by
  have:=(ho.lt y hm).1
  rcases List.mem_cons.1 hy with h2 | h2
  · omega
  · have:=List.mem_singleton.1 h2
    omega
theorem lt2 {b2 b3 n:Nat} (h2:b2 < n) (h3:b3 < n):∀ y ∈ [b2,b3],y < n:=fun y hy=>by
  rcases List.mem_cons.1 hy with h | h
  · omega
  · have:=List.mem_singleton.1 h
    omega
theorem fn60:zZ Tryz.prog 60=true:=by kernel_rfl
theorem fn99:zZ Tryz.prog 99=true:=by kernel_rfl
theorem in110_ECo:(Tryz.prog.info? 110).map (fun i=>(i.zero,i.size,i.bytes))=some (some (.agg #[.string ⟨#[]⟩,.slice none 0 0]),2,40):=by kernel_rfl
theorem Iq:(Tryz.prog.info? 46).map (fun i=>(i.zero,i.size,i.bytes))=some (some (.agg #[.string ⟨#[]⟩,.slice none 0 0,.int .i64 0,.int .i64 0,.string ⟨#[]⟩,.int .i64 0,.string ⟨#[]⟩,.slice none 0 0,.slice none 0 0]),9,144):=by kernel_rfl
theorem in54:(Tryz.prog.info? 54).map (fun i=>(i.zero,i.size,i.bytes))=some (some (.agg #[.string ⟨#[]⟩,.slice none 0 0,.int .i64 0,.int .i64 0,.int .i64 0,.string ⟨#[]⟩,.int .i64 0,.string ⟨#[]⟩,.slice none 0 0,.slice none 0 0]),10,152):=by kernel_rfl
theorem VJ:(Tryz.prog.info? 110).map (·.size)=some 2:=by kernel_rfl
theorem TX:(Tryz.prog.info? 26).map (·.size)=some 1:=by kernel_rfl
theorem QW:(Tryz.prog.info? 27).map (·.size)=some 1:=by kernel_rfl
theorem x5:(Tryz.prog.info? 32).map (·.size)=some 5:=by kernel_rfl
theorem Z7:(Tryz.prog.info? 54).map (·.size)=some 10:=by kernel_rfl
theorem PW:(Tryz.prog.info? 110).map (·.zero)=some (some (.agg #[.string ⟨#[]⟩,.slice none 0 0])):=by kernel_rfl
theorem uK:(Tryz.prog.info? 32).map (·.zero)=some (some (.agg #[.slice none 0 0,.slice none 0 0,.slice none 0 0,.slice none 0 0,.slice none 0 0])):=by kernel_rfl
theorem JV:(Tryz.prog.info? 54).map (·.zero)=some (some (.agg #[.string ⟨#[]⟩,.slice none 0 0,.int .i64 0,.int .i64 0,.int .i64 0,.string ⟨#[]⟩,.int .i64 0,.string ⟨#[]⟩,.slice none 0 0,.slice none 0 0])):=by kernel_rfl
set_option maxRecDepth 100000 in
set_option maxHeartbeats 8000000 in
theorem copy_any (AT AF AR AX AS:Option Addr) (ct cf cr cx cst:Nat) (l:List Ty) (fs:List Ft) (rs:List Rl) (xs:List Lx) (st:List Nd) (w:World) (hP:GpS l fs rs xs st) (hf:fs.length≤1000) (htl:l.length≤1000) (hpl:∀ i (h:i < l.length),(l[i]).par.length≤1000) (hTy:TypesIn w AT l) (hF:FeatsIn w AF fs) (hRu:RulesIn w AR rs) (hLx:LexesIn w AX xs) (hG:NodesIn w AS st):Calls Tryz.prog 57 #[.agg #[.slice AT l.length ct,.slice AF fs.length cf,.slice AR rs.length cr,.slice AX xs.length cx,.slice AS st.length cst]] w fun e w'=>(∃ At ca Af cb Ar cc Ax cd Ag cg vs,e= .returned (.agg #[.slice At l.length ca,.slice Af fs.length cb,.slice Ar rs.length cc,.slice Ax xs.length cd,.slice Ag (yk l fs st).length cg])∧w.heap.size≤w'.heap.size∧Own w' w.heap.size 46 9 Ax xs.length cd vs∧Hv w.heap.size (aL Ax) w'.heap.size w' (fun w=>((TypesIn w At l∧FeatsIn w Af fs)∧RulesIn w Ar (rs.map (gZ l fs))∧NodesIn w Ag (yk l fs st))∧RowD lxD 9 w (xs.map (ow l fs)) vs))∧Bel w w':=by
 refine enT Tryz.func57 Tryz.ntmps57 rfl rfl fun hB=>?_;refine zn2 ?_;refine qK (v:= .agg #[_,_,_,_,_]) (cs:=#[_,_,_,_,_]) rfl rfl (fun b1 w1 hb1 t1 hr=>?_);refine zY (cs:=#[.slice none 0 0,.slice none 0 0,.slice none 0 0,.slice none 0 0,.slice none 0 0]) uK rfl (fun b2 w2 hb2 t2 hr=>?_);have lo2:=nLT (Bel.size hB.u) hr;refine zn5 ?_;refine wl (zV U30 rfl rfl (hb1.u.sub (n:=1) (xs:=[_]) rfl) uj) ?_;have z2:=hb2.lt;replace hB:=hB.tr0 (t1.trans t2);have hszv:=Bel.size hB;refine zJ fn79 (OX AS cst l fs st _ (hG.mono hB) hP.sok) rfl (fun e' w3 hr=>?_);obtain⟨⟨Ag,cg,rfl,hS⟩,t3⟩:=hr;replace t3:=sB t3;refine⟨_,rfl,?_⟩;refine wl (V8 (v0:= .agg _) (fun v0=>#[.slice none 0 0,.slice none 0 0,.slice none 0 0,.slice none 0 0,(qy v0 0)]) rfl kR) ?_;refine zY (cs:=#[.slice none 0 0,.slice none 0 0,.slice none 0 0,.slice none 0 0,.slice none 0 0]) uK rfl (fun b3 w4 hb3 t4 hr=>?_);have:=nLL hb1.u.lt hr;have or_b2_b3:b2 < b3:=nLL hb2.u.lt hr;have or_hS_b3:=(nLT hS.le hr)
 have lo3:=nLT (Bel.size hB.u) hr;refine zj hb3 rfl rfl x5 rfl zX (fun w5 hq t5=>?_);replace hS:=hS.tr0 t4;replace hS:=hS.tr t5 (fun g hg=> .inr (.inr (by rw [List.mem_singleton.1 hg];exact or_hS_b3)));replace hb3:=hq;refine zn4 ?_
 replace hS:=(hS.hole (Y:=[b2,b3]) (fun y hy=>by
   rcases List.mem_cons.1 hy with h | h
   · exact .inr (.inl (by rw [h];exact z2))
   · exact .inr (.inr (by rw [List.mem_singleton.1 h];exact or_hS_b3)))).mono hszv hS.le (Nat.le_refl _)
 replace hb3:Blk w5 b3 32 #[.slice none 0 0,.slice none 0 0,.slice none 0 0,.slice none 0 0,.slice Ag (yk l fs st).length cg]:=hb3;obtain⟨nA,hnA⟩:∃ z,z=w5.heap.size:=⟨_,rfl⟩
 rw [← hnA] at hS;have lA:b3 + 1≤nA:=by rw [hnA];exact hb3.lt
 replace hB:=(hB.tr0 (t3.trans t4)).tr1 t5 lo3;have lB:w.heap.size≤nA:=by rw [hnA];exact Bel.size hB
 clear hnA;refine zn9 ?_;refine zK (rg [5] 18 18) (fun m g w'=>∃ (j:Nat) (A3:Option Addr) (c3 n3:Nat) (vs:List Value),j≤l.length∧m=l.length - j∧g 18= .int .i64 j∧Bel w w'∧Blk w' b1 32 #[.slice AT l.length ct,.slice AF fs.length cf,.slice AR rs.length cr,.slice AX xs.length cx,.slice AS st.length cst]∧Blk w' b2 32 #[.slice none 0 0,.slice none 0 0,.slice none 0 0,.slice none 0 0,.slice none 0 0]∧Blk w' b3 32 #[.slice A3 j c3,.slice none 0 0,.slice none 0 0,.slice none 0 0,.slice Ag (yk l fs st).length cg]∧nA≤w'.heap.size∧Own w' nA 110 2 A3 j c3 vs∧Hv w.heap.size [b2,b3] nA w' (fun w=>NodesIn w Ag (yk l fs st))∧Hv w.heap.size (b2 :: b3 :: aL A3) n3 w' (fun w=>RowD tyD 2 w (l.take j) vs)) (l.length) ?_ (fun m g3 w6 hI=>?_)
 ·exact⟨0,none,0,_,[],Nat.zero_le _,rfl,rfl,hB,hb1.u,hb2.u,hb3,hS.le,Own.nil _ _ _ _,hS,Hv.triv _ _ _ (fun w=> .nil)⟩
 obtain⟨j,A3,c3,n3,vs,hj,hmj,h18,hB,hb1,hb2,hb3,hz9,ho3,hS,hH⟩:=hI;refine zQ 18 _ h18 nu (zn6 ?_);refine zy rfl (fun c19=>?_) (fun c19=>?_)
 ·have hja:j < l.length:=by omega
  obtain⟨tb,to,Ap,cp,hte,htb,htr,hpi⟩:=hTy.at_ hB hja;have hpj:=hpl j hja;refine zn6 ?_;refine wl (xw (i:=j) U22 VJ (show ev _ _ _=_ from Q8 _ _ hte) rfl om rfl) (wl (zV Nk rfl rfl htr VJ) ?_);refine zY (cs:=#[.string ⟨#[]⟩,.slice none 0 0]) PW rfl (fun b5 w7 hb5 t6 hr=>?_);have:=nLL hb1.lt hr;have:=nLL hb2.lt hr;have:=nLL hb3.lt hr;have or_ho3_b5:=fun g hg=>nLL (ho3.lt g hg).2 hr
  have or_hS_b5:=(nLT hS.le hr)
  have or_hH_b5:=(nLT hH.le hr)
  have lo5:=nLT (Bel.size hB) hr;refine zj hb5 rfl rfl VJ rfl zX (fun w8 hq t7=>?_);replace ho3:=ho3.tr0 t6;replace ho3:=ho3.tr1 t7 (neL or_ho3_b5);replace hS:=hS.tr0 t6;replace hS:=hS.tr t7 (fun g hg=> .inr (.inr (by rw [List.mem_singleton.1 hg];exact or_hS_b5)));replace hH:=hH.tr0 t6;replace hH:=hH.tr t7 (fun g hg=> .inr (.inr (by rw [List.mem_singleton.1 hg];exact or_hH_b5)));replace hb5:=hq;refine zw (e_S ?_);have zo:=fun g hg=>(ho3.lt g hg).2
  replace hb3:=(hb3.tr0 t6).tr1 t7 om;have z3:=hb3.lt;replace hb2:=(hb2.tr0 t6).tr1 t7 om;have z2:=hb2.lt;replace hB:=(hB.tr0 t6).tr1 t7 lo5;have hsz:=Bel.size hB;refine jZ 10 (rg [] 22 10) (fun ix=>Nat.beq ix 9) (fun ix v wv=>match ix with | 0=>v= .pointer (some ⟨b3,0,none⟩) | 1=>v= .pointer (some ⟨b3,0,none⟩) | 2=>v= .slice A3 j c3 | 3=>v= .pointer (some ⟨b5,0,none⟩) | 4=>v= .string (l[j]).name | 5=>v= .pointer (some ⟨b5,1,none⟩) | 6=>v= .slice Ap (l[j]).par.length cp | 7=>∃ A29 c29 n29,v= .slice A29 (l[j]).par.length c29∧Hv w8.heap.size [] n29 wv (fun w=>IntsIn w A29 (l[j]).par) | 8=>∃ A29 c29 n29,v= .agg #[.string (l[j]).name,.slice A29 (l[j]).par.length c29]∧Hv w8.heap.size [] n29 wv (fun w=>IntsIn w A29 (l[j]).par) | 9=>∃ b A29 c29 n29,v= .slice (some ⟨b,0,none⟩) 1 1∧w8.heap.size≤b∧Blk wv b 110 #[.string (l[j]).name,.slice A29 (l[j]).par.length c29]∧Hv w8.heap.size [] n29 wv (fun w=>IntsIn w A29 (l[j]).par) | _=>True) kR kR ?_ ?_ ?_
  ·intro ix v wv wv2 h t8
   match ix,h with
   | 0,h=>exact h
   | 1,h=>exact h
   | 2,h=>exact h
   | 3,h=>exact h
   | 4,h=>exact h
   | 5,h=>exact h
   | 6,h=>exact h
   | 7,h=>
    obtain⟨A29,c29,n29,e29,hz29⟩:=h;exact⟨A29,c29,n29,e29,hz29.tr0 t8⟩
   | 8,h=>
    obtain⟨A30,c30,n30,e30,hz30⟩:=h;exact⟨A30,c30,n30,e30,hz30.tr0 t8⟩
   | 9,h=>
    obtain⟨b31,A31,c31,n31,e31,lo31,hb31,hz31⟩:=h;exact⟨b31,A31,c31,n31,e31,lo31,hb31.tr0 t8,hz31.tr0 t8⟩
   | _ + 10,h=>exact trivial
  ·intro ix o hix hoq gg wx t9 hd hdis
   match ix,hix,hoq with
   | 0,_,hoq=>
    cases sI hoq;exact oVq (uk U32 IY dE rfl rfl rfl) rfl
   | 1,_,hoq=>
    cases sI hoq;refine zz 22 _ (hd 0 (zq kR)) nu ?_;exact oVq (uk U25 MW dE rfl rfl rfl) rfl
   | 2,_,hoq=>
    cases sI hoq;refine zz 23 _ (hd 1 (zq kR)) nu ?_;exact oVq (qZ (v:= .slice _ _ _) U22 rfl rfl (hb3.u.cell rfl)) rfl
   | 3,_,hoq=>
    cases sI hoq;exact oVq (uk Nk sz9_ECl dE rfl rfl rfl) rfl
   | 4,_,hoq=>
    cases sI hoq;refine zz 25 _ (hd 3 (zq kR)) nu ?_;exact oVq (qZ (v:= .string _) U9 rfl rfl (hb5.u.cell rfl)) rfl
   | 5,_,hoq=>
    cases sI hoq;exact oVq (uk Nk Yv dE rfl rfl rfl) rfl
   | 6,_,hoq=>
    cases sI hoq;refine zz 27 _ (hd 5 (zq kR)) nu ?_;exact oVq (qZ (v:= .slice _ _ _) U66 rfl rfl (hb5.u.cell rfl)) rfl
   | 7,_,hoq=>
    cases sI hoq;have hs0:=t9;refine zz 28 _ (hd 6 (zq kR)) nu ?_;refine yK fn98 (Lk Ap cp (l[j]).par wx (hpi.mono hB.u) om) rfl (fun e' w2 hr=>?_);obtain⟨⟨A',c',rfl,hown⟩,t10⟩:=hr;exact⟨_,rfl,sB t10,⟨_,_,_,rfl,(own_intsH hown (Nat.le_refl _)).mono hs0.size (Nat.le_refl _) (Nat.le_refl _)⟩,xq⟩
   | 8,_,hoq=>
    cases sI hoq;obtain⟨A29,c29,n29,e29,hz29⟩:=hd 7 (zq kR);refine zz 26 _ (hd 4 (zq kR)) nu (zz 29 _ e29 nu ?_);exact oVq (yv (v0:= .string _) (v1:= .slice _ _ _) (fun v0 v1=>#[v0,v1]) rfl rfl kR) ⟨A29,c29,n29,rfl,hz29⟩
   | 9,_,hoq=>
    cases sI hoq;have hs0:=t9;obtain⟨A30,c30,n30,e30,hz30⟩:=hd 8 (zq kR);refine zz 30 _ e30 nu ?_;refine vK (fun ops Q K=>?_);refine qv (cs:=#[_,_]) [(0,.agg _)] rfl U22 VJ PW dE dE kR rfl (fun b31 w9 hb31 t11 hr=>?_);exact K _ _ ⟨t11,⟨_,A30,c30,n30,rfl,nLT hs0.size hr,hb31,hz30.tr0 t11⟩,fRq hr hb31.lt⟩
   | _ + 10,hix,_=>exact absurd hix om
  intro gg w10 t12 hR hdis;obtain⟨b31,A31,c31,n31,e31,lo31,hb31,hz31⟩:=hR 9 dE;replace hH:=hH.tr0 t12;have hnH:=hH.le;have hnz:=hz31.le;replace hS:=hS.tr0 t12;have hn9:=hS.le;refine x7 24 _ (hR 2 dE) nu (x7 31 _ e31 nu ?_);replace ho3:=ho3.tr0 t12;refine vW U22 in110_ECo rfl dE ho3 hb31 rfl rfl rfl zX dE om om hn9 (fun g32 cap32 w11 ho32 t13 hg=>?_);have ne_ho32_b1:g32≠b1:=neA ho3 hb1.u.lt hg
  have ne_ho32_b2:g32≠b2:=neA ho3 hb2.u.lt hg
  have ne_ho32_b3:g32≠b3:=neA ho3 hb3.u.lt hg
  have ne_ho32_b5:g32≠b5:=neB hb5.u.lt hg (neL or_ho3_b5)
  replace hB:=hB.u.tr t13 (fun g hg=>nLT om (ho3.lt g hg).1);replace hb1:=((hb1.tr0 t6).tr1 t7 om).tr0 t12;replace hb1:=hb1.ta t13 ho3;replace hb2:=hb2.tr0 t12;replace hb2:=hb2.ta t13 ho3;replace hb3:=hb3.tr0 t12;replace hb3:=hb3.ta t13 ho3;replace hS:=hS.tr t13 (fun g hg=> .inr (.inr (ho3.lt g hg).1));replace hH:=hH.tr t13 (fun g hg=> .inr (.inl (by simp [hg])));replace hz31:=hz31.tr t13 (fun g hg=> .inl (zo g hg));refine zn2 ?_;refine x9 (v:= .slice _ _ _) hb3 rfl rfl MW (by first | decide | simp) rfl rfl (fun w12 hq t14=>?_);replace hS:=hS.in1 t14 (by simp);replace hH:=hH.in1 t14 (by simp);replace hz31:=hz31.lo1 t14 z3;replace ho32:=ho32.tr1 t14 (neS ne_ho32_b3);replace hb3:=hq
  have hH2:=RowD.app (Y:=b2 :: b3 :: aL (some (⟨g32,0,none⟩:Addr))) hja rfl hH rfl (hz31.imp (fun _ h=>(⟨A31,c31,rfl,h⟩:tyD _ _ _))) hsz (fun y hy=>by
    rcases List.mem_cons.1 hy with h | hy
    · exact .inl (by simp [h])
    rcases List.mem_cons.1 hy with h | hy
    · exact .inl (by simp [h])
    · cases List.mem_singleton.1 hy
      rcases hg with hg | hg
      · exact .inl (by simp [hg])
      · exact .inr (nLT hnH hg)) (fun y hy=>by
    rcases List.mem_cons.1 hy with h | hy
    · exact .inl (by rw [h];exact z2)
    rcases List.mem_cons.1 hy with h | hy
    · exact .inl (by rw [h];exact z3)
    · cases List.mem_singleton.1 hy
      rcases hg with hg | hg
      · exact .inl (zo g32 (by rw [hg];exact List.mem_singleton.2 rfl))
      · exact .inr (nLT hnz hg))
  refine zn7 ?_;refine qV (l.length - (j + 1)) om agA ?_;exact⟨j + 1,_,_,_,_,by omega,rfl,rfl,hB.u,hb1.u,hb2.u,hb3,hS.le,ho32,hS,hH2⟩
 have hje:j=l.length:=by omega
 refine zn6 ?_;rw [hje] at ho3 hb3 hH;rw [List.take_length] at hH;obtain⟨At,hAt⟩:∃ z,z=A3:=⟨_,rfl⟩
 obtain⟨ca,hca⟩:∃ z,z=c3:=⟨_,rfl⟩
 rw [← hAt] at ho3 hH hb3;rw [← hca] at ho3 hb3;clear hAt hca;have hT:=RJ (Y:=[b2,b3]) ho3 lB hH (fun y hy=>List.mem_append_left (aL At) hy) (nb2 ho3 or_b2_b3 lA);clear ho3 hH;refine zn4 ?_;have z3:=hb3.lt;have z2:=hb2.lt;have hszv:=Bel.size hB;refine zJ fn99 (LW AF cf fs _ (hF.mono hB) om) rfl (fun e' w13 hr=>?_);obtain⟨⟨Af,cb,rfl,hown⟩,t15⟩:=hr;replace t15:=sB t15;have hFe:=((L5 hown (Nat.le_refl _)).hole (Y:=[b2,b3]) (fun y hy=> .inr (.inl (lt2 z2 z3 y hy)))).mono hszv (Nat.le_refl _) (Nat.le_refl _);clear hown;refine⟨_,rfl,?_⟩;refine zn2 ?_;replace hb3:=hb3.tr0 t15;refine x9 (v:= .slice _ _ _) hb3 rfl rfl TJ (by first | decide | simp) rfl rfl (fun w14 hq t16=>?_);replace hS:=hS.tr0 t15;replace hS:=hS.in1 t16 (by simp);replace hT:=hT.tr0 t15;replace hT:=hT.in1 t16 (by simp);replace hFe:=hFe.in1 t16 (by simp);replace hb3:=hq;replace hb3:Blk w14 b3 32 #[.slice At l.length ca,.slice Af fs.length cb,.slice none 0 0,.slice none 0 0,.slice Ag (yk l fs st).length cg]:=hb3;refine zn4 ?_;replace hS:=hS.up;replace hT:=hT.up;replace hFe:=hFe.up;obtain⟨nA,hnA⟩:∃ z,z=w14.heap.size:=⟨_,rfl⟩
 rw [← hnA] at hS hT hFe;have lA:b3 + 1≤nA:=by rw [hnA];exact hb3.lt
 replace hB:=(hB.tr0 t15).tr1 t16 lo3;have lB:w.heap.size≤nA:=by rw [hnA];exact Bel.size hB
 clear hnA;refine zn8 ?_;refine zK (rg [7] 45 19) (fun m g w'=>∃ (j:Nat) (A3:Option Addr) (c3 n3:Nat) (vs:List Value),j≤rs.length∧m=rs.length - j∧g 45= .int .i64 j∧Bel w w'∧Blk w' b1 32 #[.slice AT l.length ct,.slice AF fs.length cf,.slice AR rs.length cr,.slice AX xs.length cx,.slice AS st.length cst]∧Blk w' b2 32 #[.slice none 0 0,.slice none 0 0,.slice none 0 0,.slice none 0 0,.slice none 0 0]∧Blk w' b3 32 #[.slice At l.length ca,.slice Af fs.length cb,.slice A3 j c3,.slice none 0 0,.slice Ag (yk l fs st).length cg]∧nA≤w'.heap.size∧Own w' nA 54 10 A3 j c3 vs∧Hv w.heap.size [b2,b3] nA w' (fun w=>NodesIn w Ag (yk l fs st))∧Hv w.heap.size [b2,b3] nA w' (fun w=>TypesIn w At l)∧Hv w.heap.size [b2,b3] nA w' (fun w=>FeatsIn w Af fs)∧Hv w.heap.size (b2 :: b3 :: aL A3) n3 w' (fun w=>RowD rlD 10 w ((rs.map (gZ l fs)).take j) vs)) (rs.length) ?_ (fun m g9 w15 hI=>?_)
 ·exact⟨0,none,0,_,[],Nat.zero_le _,rfl,rfl,hB,hb1.u,hb2.u,hb3,hS.le,Own.nil _ _ _ _,hS,hT,hFe,Hv.triv _ _ _ (fun w=> .nil)⟩
 obtain⟨j,A3,c3,n3,vs,hj,hmj,h45,hB,hb1,hb2,hb3,hz9,ho3,hS,hT,hFe,hH⟩:=hI;refine zQ 45 _ h45 nu (zn6 ?_);refine zy rfl (fun c46=>?_) (fun c46=>?_)
 ·have hja:j < rs.length:=by omega
  obtain⟨rb,ro,Gr,cgr,Sr,csr,Br,cbr,hre,hrb,hrr,hgr,hsr,htr⟩:=hRu.at_ hB hja;obtain⟨hr0,hrK⟩:=hP.rok j hja;have hrn:=hP.rn;refine zn6 ?_;refine wl (xw (i:=j) U26 Z7 (show ev _ _ _=_ from Q8 _ _ hre) rfl om rfl) (wl (zV U54 rfl rfl hrr Z7) ?_);refine zY (cs:=#[.string ⟨#[]⟩,.slice none 0 0,.int .i64 0,.int .i64 0,.int .i64 0,.string ⟨#[]⟩,.int .i64 0,.string ⟨#[]⟩,.slice none 0 0,.slice none 0 0]) JV rfl (fun b7 w16 hb7 t17 hr=>?_);have:=nLL hb1.lt hr;have:=nLL hb2.lt hr;have:=nLL hb3.lt hr;have or_ho3_b7:=fun g hg=>nLL (ho3.lt g hg).2 hr
  have or_hS_b7:=(nLT hS.le hr)
  have or_hT_b7:=(nLT hT.le hr)
  have or_hFe_b7:=(nLT hFe.le hr)
  have or_hH_b7:=(nLT hH.le hr)
  have lo7:=nLT (Bel.size hB) hr;refine zj hb7 rfl rfl Z7 rfl zX (fun w17 hq t18=>?_);replace ho3:=ho3.tr0 t17;replace ho3:=ho3.tr1 t18 (neL or_ho3_b7);replace hS:=hS.tr0 t17;replace hS:=hS.tr t18 (fun g hg=> .inr (.inr (by rw [List.mem_singleton.1 hg];exact or_hS_b7)));replace hT:=hT.tr0 t17;replace hT:=hT.tr t18 (fun g hg=> .inr (.inr (by rw [List.mem_singleton.1 hg];exact or_hT_b7)));replace hFe:=hFe.tr0 t17;replace hFe:=hFe.tr t18 (fun g hg=> .inr (.inr (by rw [List.mem_singleton.1 hg];exact or_hFe_b7)));replace hH:=hH.tr0 t17;replace hH:=hH.tr t18 (fun g hg=> .inr (.inr (by rw [List.mem_singleton.1 hg];exact or_hH_b7)));replace hb7:=hq;refine zn3 ?_;have zo:=fun g hg=>(ho3.lt g hg).2
  replace hb3:=(hb3.tr0 t17).tr1 t18 om;have z3:=hb3.lt;replace hb2:=(hb2.tr0 t17).tr1 t18 om;have z2:=hb2.lt;have z7:=hb7.lt;replace hB:=(hB.tr0 t17).tr1 t18 lo7;have hsz:=Bel.size hB;refine kX [] [7,9] [0,1,3,4,2,6,5,7,8,9] rfl (fun w18 t19=>?_);have hs0:=t19;refine zn1 ?_;refine hlS rfl U30 rfl rfl (hb7.u.sub (n:=1) (xs:=[_]) rfl) uj (zn1 ?_);refine hlS rfl U44 rfl rfl (hb7.u.sub (n:=6) (xs:=[_,_,_,_,_,_]) rfl) uW ?_;refine hcl (fun v wv=>∃ A5 c5 n5,v= .agg #[.slice A5 (yk l fs (rs[j]).gr).length c5]∧Hv w17.heap.size [] n5 wv (fun w=>NodesIn w A5 (yk l fs (rs[j]).gr))) rfl fn79 (OX Gr cgr l fs (rs[j]).gr w18 (hgr.mono hB.u) hr0) rfl (fun e' w2 hr=>?_) (fun v51 w19 t20 d51=>?_)
  ·obtain⟨⟨A5,c5,rfl,hz5⟩,t21⟩:=hr;exact⟨_,rfl,sB t21,⟨A5,c5,_,rfl,hz5.mono hs0.size (Nat.le_refl _) (Nat.le_refl _)⟩⟩
  obtain⟨A5,c5,n5,e51,hz5⟩:=d51;subst e51;refine zn1 ?_;refine hcl (fun v wv=>∃ S8 s8 B8 c8 n8,v= .agg #[.int .i64 ((rs[j]).mean).kind,.string ((rs[j]).mean).name,.int .i64 ((rs[j]).mean).index,.string ((rs[j]).mean).type.base,.slice S8 ((rs[j]).mean).type.args.length s8,.slice B8 ((rs[j]).mean).args.length c8]∧Hv w17.heap.size [] n8 wv (fun w=>SimsIn w S8 (rs[j]).mean.type.args∧TmsIn w B8 (rs[j]).mean.args)) rfl fn80 (Ey hrK Sr Br csr cbr w19 (hsr.mono hB.u) (htr.mono hB.u)) rfl (fun e' w2 hr=>?_) (fun v54 w20 t22 d54=>?_)
  ·obtain⟨⟨S8,s8,B8,c8,rfl,hz8⟩,t23⟩:=hr;replace hs0:=hs0.trans t20;exact⟨_,rfl,sB t23,⟨S8,s8,B8,c8,_,rfl,hz8.mono hs0.size (Nat.le_refl _) (Nat.le_refl _)⟩⟩
  obtain⟨S8,s8,B8,c8,n8,e54,hz8⟩:=d54;subst e54;refine h1 rfl ?_;replace hb7:=hb7.tr0 (t19.trans (t20.trans t22));refine oW hb7 rfl rfl uj (by first | decide | simp) zX rfl (fun w21 hq t24=>?_);have hsH7:=t24;replace ho3:=ho3.tr0 (t19.trans (t20.trans t22));replace ho3:=ho3.tr1 t24 (neL or_ho3_b7);replace hS:=hS.tr0 (t19.trans (t20.trans t22));replace hS:=hS.tr t24 (fun g hg=> .inr (.inr (by rw [List.mem_singleton.1 hg];exact or_hS_b7)));replace hT:=hT.tr0 (t19.trans (t20.trans t22));replace hT:=hT.tr t24 (fun g hg=> .inr (.inr (by rw [List.mem_singleton.1 hg];exact or_hT_b7)));replace hFe:=hFe.tr0 (t19.trans (t20.trans t22));replace hFe:=hFe.tr t24 (fun g hg=> .inr (.inr (by rw [List.mem_singleton.1 hg];exact or_hFe_b7)));replace hH:=hH.tr0 (t19.trans (t20.trans t22));replace hH:=hH.tr t24 (fun g hg=> .inr (.inr (by rw [List.mem_singleton.1 hg];exact or_hH_b7)));replace hz5:=hz5.tr0 t22;replace hz5:=hz5.lo1 t24 z7;replace hz8:=hz8.lo1 t24 z7;replace hb7:=hq;replace hb7:Blk w21 b7 54 #[.string (rs[j]).name,.slice A5 (yk l fs (rs[j]).gr).length c5,.int .i64 (rs[j]).kids,.int .i64 (rs[j]).wt,.int .i64 ((rs[j]).mean).kind,.string ((rs[j]).mean).name,.int .i64 ((rs[j]).mean).index,.string ((rs[j]).mean).type.base,.slice Sr ((rs[j]).mean).type.args.length csr,.slice Br ((rs[j]).mean).args.length cbr]:=hb7;refine zw (Q5 [9] (zn1 ?_));refine h1 rfl ?_;refine oW hb7 rfl rfl uW (by first | decide | simp) zX rfl (fun w22 hq t25=>?_);have hsH9:=t25;replace ho3:=ho3.tr1 t25 (neL or_ho3_b7);replace hS:=hS.tr t25 (fun g hg=> .inr (.inr (by rw [List.mem_singleton.1 hg];exact or_hS_b7)));replace hT:=hT.tr t25 (fun g hg=> .inr (.inr (by rw [List.mem_singleton.1 hg];exact or_hT_b7)));replace hFe:=hFe.tr t25 (fun g hg=> .inr (.inr (by rw [List.mem_singleton.1 hg];exact or_hFe_b7)));replace hH:=hH.tr t25 (fun g hg=> .inr (.inr (by rw [List.mem_singleton.1 hg];exact or_hH_b7)));replace hz5:=hz5.lo1 t25 z7;replace hz8:=hz8.lo1 t25 z7;replace hb7:=hq;replace hb7:Blk w22 b7 54 #[.string (rs[j]).name,.slice A5 (yk l fs (rs[j]).gr).length c5,.int .i64 (rs[j]).kids,.int .i64 (rs[j]).wt,.int .i64 ((rs[j]).mean).kind,.string ((rs[j]).mean).name,.int .i64 ((rs[j]).mean).index,.string ((rs[j]).mean).type.base,.slice S8 ((rs[j]).mean).type.args.length s8,.slice B8 ((rs[j]).mean).args.length c8]:=hb7
  refine zw (Q5 [] (h_end (e_S ?_)));have hzr:=hz5.and hz8;clear hz5 hz8;refine zn4 ?_;refine qv (cs:=#[_,_,_,_,_,_,_,_,_,_]) [(0,.agg _)] rfl U26 Z7 JV dE dE kR rfl (fun b60 w23 hb60 t26 hr=>?_);have:=nLL hb1.u.lt hr;have:=nLL hb2.u.lt hr;have:=nLL hb3.u.lt hr;have or_ho3_b60:=fun g hg=>nLL (ho3.lt g hg).2 hr
  have or_hS_b60:=(nLT hS.le hr)
  have or_hT_b60:=(nLT hT.le hr)
  have or_hFe_b60:=(nLT hFe.le hr)
  have or_hH_b60:=(nLT hH.le hr)
  replace hH:=hH.tr0 t26;have hnH:=hH.le;replace hzr:=hzr.tr0 t26;have hnz:=hzr.le;replace hS:=hS.tr0 t26;have hn9:=hS.le;replace ho3:=ho3.tr0 t26;refine vW U26 in54 rfl dE ho3 hb60 rfl rfl rfl zX dE om om hn9 (fun g61 cap61 w24 ho61 t27 hg=>?_);have ne_ho61_b1:g61≠b1:=neA ho3 hb1.u.lt hg
  have ne_ho61_b2:g61≠b2:=neA ho3 hb2.u.lt hg
  have ne_ho61_b3:g61≠b3:=neA ho3 hb3.u.lt hg
  have ne_ho61_b7:g61≠b7:=neB hb7.u.lt hg (neL or_ho3_b7)
  replace hB:=hB.u.tr t27 (fun g hg=>nLT om (ho3.lt g hg).1);replace hb1:=(((((hb1.tr0 t17).tr1 t18 om).tr0 (t19.trans (t20.trans t22))).tr1 t24 om).tr1 t25 om).tr0 t26;replace hb1:=hb1.ta t27 ho3;replace hb2:=(((hb2.tr0 (t19.trans (t20.trans t22))).tr1 t24 om).tr1 t25 om).tr0 t26;replace hb2:=hb2.ta t27 ho3;replace hb3:=(((hb3.tr0 (t19.trans (t20.trans t22))).tr1 t24 om).tr1 t25 om).tr0 t26;replace hb3:=hb3.ta t27 ho3;replace hS:=hS.tr t27 (fun g hg=> .inr (.inr (ho3.lt g hg).1));replace hT:=hT.tr0 t26;replace hT:=hT.tr t27 (fun g hg=> .inr (.inr (ho3.lt g hg).1));replace hFe:=hFe.tr0 t26;replace hFe:=hFe.tr t27 (fun g hg=> .inr (.inr (ho3.lt g hg).1));replace hH:=hH.tr t27 (fun g hg=> .inr (.inl (by simp [hg])));replace hzr:=hzr.tr t27 (fun g hg=> .inl (zo g hg));refine zn1 ?_;refine x9 (v:= .slice _ _ _) hb3 rfl rfl TX (by first | decide | simp) rfl rfl (fun w25 hq t28=>?_);replace hS:=hS.in1 t28 (by simp);replace hT:=hT.in1 t28 (by simp);replace hFe:=hFe.in1 t28 (by simp);replace hH:=hH.in1 t28 (by simp);replace hzr:=hzr.lo1 t28 z3;replace ho61:=ho61.tr1 t28 (neS ne_ho61_b3);replace hb3:=hq
  have hH2:=RowD.app (v:=rlCc (gZ l fs (rs[j])) A5 S8 B8 c5 s8 c8) (Y:=b2 :: b3 :: aL (some (⟨g61,0,none⟩:Addr))) (show j < (rs.map (gZ l fs)).length by rw [List.length_map];exact hja) (List.getElem_map _) hH rfl (hzr.imp (fun _ h=>(⟨A5,S8,B8,c5,s8,c8,rfl,h.1,h.2.1,h.2.2⟩:rlD _ (gZ l fs (rs[j])) (rlCc (gZ l fs (rs[j])) A5 S8 B8 c5 s8 c8)))) hsz (fun y hy=>by
    rcases List.mem_cons.1 hy with h | hy
    · exact .inl (by simp [h])
    rcases List.mem_cons.1 hy with h | hy
    · exact .inl (by simp [h])
    · cases List.mem_singleton.1 hy
      rcases hg with hg | hg
      · exact .inl (by simp [hg])
      · exact .inr (nLT hnH hg)) (fun y hy=>by
    rcases List.mem_cons.1 hy with h | hy
    · exact .inl (by rw [h];exact z2)
    rcases List.mem_cons.1 hy with h | hy
    · exact .inl (by rw [h];exact z3)
    · cases List.mem_singleton.1 hy
      rcases hg with hg | hg
      · exact .inl (zo g61 (by rw [hg];exact List.mem_singleton.2 rfl))
      · exact .inr (nLT hnz hg))
  refine zn7 ?_;refine qV (rs.length - (j + 1)) om agA ?_;exact⟨j + 1,_,_,_,_,by omega,rfl,rfl,hB.u,hb1.u,hb2.u,hb3,hS.le,ho61,hS,hT,hFe,hH2⟩
 have hje:j=rs.length:=by omega
 refine zn7 ?_;rw [hje] at ho3 hb3 hH;rw [← List.length_map (f:=gZ l fs),List.take_length] at hH;obtain⟨Ar,hAt⟩:∃ z,z=A3:=⟨_,rfl⟩
 obtain⟨cc,hca⟩:∃ z,z=c3:=⟨_,rfl⟩
 rw [← hAt] at ho3 hH hb3;rw [← hca] at ho3 hb3;clear hAt hca;have hRl:=L3 (Y:=[b2,b3]) ho3 lB hH (fun y hy=>List.mem_append_left (aL Ar) hy) (nb2 ho3 or_b2_b3 lA);clear ho3 hH;replace hS:=hS.up;replace hT:=hT.up;replace hFe:=hFe.up;obtain⟨nA,hnA⟩:∃ z,z=w15.heap.size:=⟨_,rfl⟩
 rw [← hnA] at hS hT hFe hRl;have lA:b3 + 1≤nA:=by rw [hnA];exact hb3.lt
 have lB:w.heap.size≤nA:=by rw [hnA];exact Bel.size hB
 clear hnA;refine zn8 ?_;refine zK (rg [9] 67 12) (fun m g w'=>∃ (j:Nat) (A3:Option Addr) (c3 n3:Nat) (vs:List Value),j≤xs.length∧m=xs.length - j∧g 67= .int .i64 j∧Bel w w'∧Blk w' b1 32 #[.slice AT l.length ct,.slice AF fs.length cf,.slice AR rs.length cr,.slice AX xs.length cx,.slice AS st.length cst]∧Blk w' b2 32 #[.slice none 0 0,.slice none 0 0,.slice none 0 0,.slice none 0 0,.slice none 0 0]∧Blk w' b3 32 #[.slice At l.length ca,.slice Af fs.length cb,.slice Ar rs.length cc,.slice A3 j c3,.slice Ag (yk l fs st).length cg]∧nA≤w'.heap.size∧Own w' nA 46 9 A3 j c3 vs∧Hv w.heap.size [b2,b3] nA w' (fun w=>NodesIn w Ag (yk l fs st))∧Hv w.heap.size [b2,b3] nA w' (fun w=>TypesIn w At l)∧Hv w.heap.size [b2,b3] nA w' (fun w=>FeatsIn w Af fs)∧Hv w.heap.size [b2,b3] nA w' (fun w=>RulesIn w Ar (rs.map (gZ l fs)))∧Hv w.heap.size (b2 :: b3 :: aL A3) n3 w' (fun w=>RowD lxD 9 w ((xs.map (ow l fs)).take j) vs)) (xs.length) ?_ (fun m g15 w26 hI=>?_)
 ·exact⟨0,none,0,_,[],Nat.zero_le _,rfl,rfl,hB,hb1,hb2,hb3,hS.le,Own.nil _ _ _ _,hS,hT,hFe,hRl,Hv.triv _ _ _ (fun w=> .nil)⟩
 obtain⟨j,A3,c3,n3,vs,hj,hmj,h67,hB,hb1,hb2,hb3,hz9,ho3,hS,hT,hFe,hRl,hH⟩:=hI;refine zQ 67 _ h67 nu (zn6 ?_);refine zy rfl (fun c68=>?_) (fun c68=>?_)
 ·have hja:j < xs.length:=by omega
  obtain⟨xb,xo,Gx,cgx,Sx,csx,Bx,cbx,hxe,hxb,hxw,hxr,hgx,hsx,htx⟩:=hLx.at_ hB hja;obtain⟨hx0,hxK⟩:=hP.xok j hja;have hxn:=hP.xn;refine zn6 ?_;refine wl (xw (i:=j) U27 y9 (show ev _ _ _=_ from Q8 _ _ hxe) rfl om rfl) (wl (zV U46 rfl rfl hxr y9) ?_);refine zY (cs:=#[.string ⟨#[]⟩,.slice none 0 0,.int .i64 0,.int .i64 0,.string ⟨#[]⟩,.int .i64 0,.string ⟨#[]⟩,.slice none 0 0,.slice none 0 0]) kK rfl (fun b9 w27 hb9 t29 hr=>?_);have:=nLL hb1.lt hr;have:=nLL hb2.lt hr;have:=nLL hb3.lt hr;have or_ho3_b9:=fun g hg=>nLL (ho3.lt g hg).2 hr
  have or_hS_b9:=(nLT hS.le hr)
  have or_hT_b9:=(nLT hT.le hr)
  have or_hFe_b9:=(nLT hFe.le hr)
  have or_hRl_b9:=(nLT hRl.le hr)
  have or_hH_b9:=(nLT hH.le hr)
  have lo9:=nLT (Bel.size hB) hr;refine zj hb9 rfl rfl y9 rfl zX (fun w28 hq t30=>?_);replace ho3:=ho3.tr0 t29;replace ho3:=ho3.tr1 t30 (neL or_ho3_b9);replace hS:=hS.tr0 t29;replace hS:=hS.tr t30 (fun g hg=> .inr (.inr (by rw [List.mem_singleton.1 hg];exact or_hS_b9)));replace hT:=hT.tr0 t29;replace hT:=hT.tr t30 (fun g hg=> .inr (.inr (by rw [List.mem_singleton.1 hg];exact or_hT_b9)));replace hFe:=hFe.tr0 t29;replace hFe:=hFe.tr t30 (fun g hg=> .inr (.inr (by rw [List.mem_singleton.1 hg];exact or_hFe_b9)));replace hRl:=hRl.tr0 t29;replace hRl:=hRl.tr t30 (fun g hg=> .inr (.inr (by rw [List.mem_singleton.1 hg];exact or_hRl_b9)));replace hH:=hH.tr0 t29;replace hH:=hH.tr t30 (fun g hg=> .inr (.inr (by rw [List.mem_singleton.1 hg];exact or_hH_b9)));replace hb9:=hq;refine zw (e_S ?_);have zo:=fun g hg=>(ho3.lt g hg).2
  replace hb3:=(hb3.tr0 t29).tr1 t30 om;have z3:=hb3.lt;replace hb2:=(hb2.tr0 t29).tr1 t30 om;have z2:=hb2.lt;replace hB:=(hB.tr0 t29).tr1 t30 lo9;have hsz:=Bel.size hB;refine jZ 5 [71,72,73,74,75] (fun ix=>Nat.beq ix 4) (fun ix v wv=>match ix with | 0=>v= .pointer (some ⟨b3,3,none⟩) | 1=>v= .slice A3 j c3 | 2=>v= .agg #[.string ((xs[j])).word,.slice Gx ((xs[j])).gr.length cgx,.int .i64 ((xs[j])).wt,.int .i64 (((xs[j])).mean).kind,.string (((xs[j])).mean).name,.int .i64 (((xs[j])).mean).index,.string (((xs[j])).mean).type.base,.slice Sx (((xs[j])).mean).type.args.length csx,.slice Bx (((xs[j])).mean).args.length cbx] | 3=>∃ A5 c5 S8 s8 B8 c8 n8,v= .agg #[.string ((xs[j])).word,.slice A5 (yk l fs (xs[j]).gr).length c5,.int .i64 ((xs[j])).wt,.int .i64 (((xs[j])).mean).kind,.string (((xs[j])).mean).name,.int .i64 (((xs[j])).mean).index,.string (((xs[j])).mean).type.base,.slice S8 (((xs[j])).mean).type.args.length s8,.slice B8 (((xs[j])).mean).args.length c8]∧Hv w28.heap.size [] n8 wv (fun w=>NodesIn w A5 (yk l fs (xs[j]).gr)∧SimsIn w S8 (xs[j]).mean.type.args∧TmsIn w B8 (xs[j]).mean.args) | 4=>∃ b A5 c5 S8 s8 B8 c8 n8,v= .slice (some ⟨b,0,none⟩) 1 1∧w28.heap.size≤b∧Blk wv b 46 #[.string ((xs[j])).word,.slice A5 (yk l fs (xs[j]).gr).length c5,.int .i64 ((xs[j])).wt,.int .i64 (((xs[j])).mean).kind,.string (((xs[j])).mean).name,.int .i64 (((xs[j])).mean).index,.string (((xs[j])).mean).type.base,.slice S8 (((xs[j])).mean).type.args.length s8,.slice B8 (((xs[j])).mean).args.length c8]∧Hv w28.heap.size [] n8 wv (fun w=>NodesIn w A5 (yk l fs (xs[j]).gr)∧SimsIn w S8 (xs[j]).mean.type.args∧TmsIn w B8 (xs[j]).mean.args) | _=>True) kR kR ?_ ?_ ?_
  ·intro ix v wv wv2 h t31
   match ix,h with
   | 0,h=>exact h
   | 1,h=>exact h
   | 2,h=>exact h
   | 3,h=>
    obtain⟨A5,c5,S8,s8,B8,c8,n8,e74,hz74⟩:=h;exact⟨A5,c5,S8,s8,B8,c8,n8,e74,hz74.tr0 t31⟩
   | 4,h=>
    obtain⟨b75,A5,c5,S8,s8,B8,c8,n8,e75,lo75,hb75,hz75⟩:=h;exact⟨b75,A5,c5,S8,s8,B8,c8,n8,e75,lo75,hb75.tr0 t31,hz75.tr0 t31⟩
   | _ + 5,h=>exact trivial
  ·intro ix o hix hoq gg wx t32 hd hdis
   match ix,hix,hoq with
   | 0,_,hoq=>
    cases sI hoq;exact oVq (uk U32 QW dE rfl rfl rfl) rfl
   | 1,_,hoq=>
    cases sI hoq;refine zz 71 _ (hd 0 (zq kR)) nu ?_;exact oVq (qZ (v:= .slice _ _ _) U27 rfl rfl (hb3.u.cell rfl)) rfl
   | 2,_,hoq=>
    cases sI hoq;exact oVq (zV U46 rfl rfl hb9.u.range0 y9) rfl
   | 3,_,hoq=>
    cases sI hoq;have hs0:=t32;refine zz 73 _ (hd 2 (zq kR)) nu ?_;refine yK fn60 (OK l fs (xs[j]) Gx Sx Bx cgx csx cbx wx hx0 hxK (hgx.mono hB.u) (hsx.mono hB.u) (htx.mono hB.u)) rfl (fun e' w2 hr=>?_);obtain⟨⟨A5,c5,S8,s8,B8,c8,rfl,hz74⟩,t33⟩:=hr;exact⟨_,rfl,sB t33,⟨A5,c5,S8,s8,B8,c8,_,rfl,hz74.mono hs0.size (Nat.le_refl _) (Nat.le_refl _)⟩,xq⟩
   | 4,_,hoq=>
    cases sI hoq;have hs0:=t32;obtain⟨A5,c5,S8,s8,B8,c8,n8,e74,hz74⟩:=hd 3 (zq kR);refine zz 74 _ e74 nu ?_;refine vK (fun ops Q K=>?_);refine qv (cs:=#[_,_,_,_,_,_,_,_,_]) [(0,.agg _)] rfl U27 y9 kK dE dE kR rfl (fun b75 w29 hb75 t34 hr=>?_);exact K _ _ ⟨t34,⟨_,A5,c5,S8,s8,B8,c8,n8,rfl,nLT hs0.size hr,hb75,hz74.tr0 t34⟩,fRq hr hb75.lt⟩
   | _ + 5,hix,_=>exact absurd hix om
  intro gg w30 t35 hR hdis;obtain⟨b75,A5,c5,S8,s8,B8,c8,n8,e75,lo75,hb75,hz75⟩:=hR 4 dE;replace hH:=hH.tr0 t35;have hnH:=hH.le;have hnz:=hz75.le;replace hS:=hS.tr0 t35;have hn9:=hS.le;refine x7 72 _ (hR 1 dE) nu (x7 75 _ e75 nu ?_);replace ho3:=ho3.tr0 t35;refine vW U27 Iq rfl dE ho3 hb75 rfl rfl rfl zX dE om om hn9 (fun g76 cap76 w31 ho76 t36 hg=>?_);have ne_ho76_b1:g76≠b1:=neA ho3 hb1.u.lt hg
  have ne_ho76_b2:g76≠b2:=neA ho3 hb2.u.lt hg
  have ne_ho76_b3:g76≠b3:=neA ho3 hb3.u.lt hg
  have ne_ho76_b9:g76≠b9:=neB hb9.u.lt hg (neL or_ho3_b9)
  replace hB:=hB.u.tr t36 (fun g hg=>nLT om (ho3.lt g hg).1);replace hb1:=((hb1.tr0 t29).tr1 t30 om).tr0 t35;replace hb1:=hb1.ta t36 ho3;replace hb2:=hb2.tr0 t35;replace hb2:=hb2.ta t36 ho3;replace hb3:=hb3.tr0 t35;replace hb3:=hb3.ta t36 ho3;replace hS:=hS.tr t36 (fun g hg=> .inr (.inr (ho3.lt g hg).1));replace hT:=hT.tr0 t35;replace hT:=hT.tr t36 (fun g hg=> .inr (.inr (ho3.lt g hg).1));replace hFe:=hFe.tr0 t35;replace hFe:=hFe.tr t36 (fun g hg=> .inr (.inr (ho3.lt g hg).1));replace hRl:=hRl.tr0 t35;replace hRl:=hRl.tr t36 (fun g hg=> .inr (.inr (ho3.lt g hg).1));replace hH:=hH.tr t36 (fun g hg=> .inr (.inl (by simp [hg])));replace hz75:=hz75.tr t36 (fun g hg=> .inl (zo g hg));refine zn1 ?_;refine x9 (v:= .slice _ _ _) hb3 rfl rfl QW (by first | decide | simp) rfl rfl (fun w32 hq t37=>?_);replace hS:=hS.in1 t37 (by simp);replace hT:=hT.in1 t37 (by simp);replace hFe:=hFe.in1 t37 (by simp);replace hRl:=hRl.in1 t37 (by simp);replace hH:=hH.in1 t37 (by simp);replace hz75:=hz75.lo1 t37 z3;replace ho76:=ho76.tr1 t37 (neS ne_ho76_b3);replace hb3:=hq
  have hH2:=RowD.app (v:=lxC (ow l fs (xs[j])) A5 S8 B8 c5 s8 c8) (Y:=b2 :: b3 :: aL (some (⟨g76,0,none⟩:Addr))) (show j < (xs.map (ow l fs)).length by rw [List.length_map];exact hja) (List.getElem_map _) hH rfl (hz75.imp (fun _ h=>(⟨hxw,A5,S8,B8,c5,s8,c8,rfl,h.1,h.2.1,h.2.2⟩:lxD _ (ow l fs (xs[j])) (lxC (ow l fs (xs[j])) A5 S8 B8 c5 s8 c8)))) hsz (fun y hy=>by
    rcases List.mem_cons.1 hy with h | hy
    · exact .inl (by simp [h])
    rcases List.mem_cons.1 hy with h | hy
    · exact .inl (by simp [h])
    · cases List.mem_singleton.1 hy
      rcases hg with hg | hg
      · exact .inl (by simp [hg])
      · exact .inr (nLT hnH hg)) (fun y hy=>by
    rcases List.mem_cons.1 hy with h | hy
    · exact .inl (by rw [h];exact z2)
    rcases List.mem_cons.1 hy with h | hy
    · exact .inl (by rw [h];exact z3)
    · cases List.mem_singleton.1 hy
      rcases hg with hg | hg
      · exact .inl (zo g76 (by rw [hg];exact List.mem_singleton.2 rfl))
      · exact .inr (nLT hnz hg))
  refine zn7 ?_;refine qV (xs.length - (j + 1)) om agA ?_;exact⟨j + 1,_,_,_,_,by omega,rfl,rfl,hB.u,hb1.u,hb2.u,hb3,hS.le,ho76,hS,hT,hFe,hRl,hH2⟩
 have hje:j=xs.length:=by omega
 refine zn8 ?_;refine zj hb2 rfl rfl x5 rfl zX (fun w33 hq t38=>?_);replace ho3:=ho3.tq t38;replace hS:=hS.in1 t38 (by simp);replace hT:=hT.in1 t38 (by simp);replace hFe:=hFe.in1 t38 (by simp);replace hRl:=hRl.in1 t38 (by simp);replace hH:=hH.in1 t38 (by simp);replace hb2:=hq;refine zn3 ?_;refine x8 (.inl rfl) rfl (zk U32 rfl rfl hb2.range0 x5) ?_;replace hb3:=hb3.tr1 t38 om;rw [hje] at ho3 hH hb3;rw [← List.length_map (f:=ow l fs),List.take_length] at hH;have hq:∀ y ∈ aL A3,y ∈ [b2,b3]∨y < w.heap.size∨nA≤y:=fun y hy=> .inr (.inr (ho3.lt y hy).1)
 have hz1:=(((hT.hole hq).and (hFe.hole hq)).and ((hRl.hole hq).and (hS.hole hq))).and (hH.hole (Y:=aL A3) (fun y hy=> .inl (List.mem_cons_of_mem _ (List.mem_cons_of_mem _ hy))));replace hB:=hB.tr1 t38 lo2;exact⟨⟨At,ca,Af,cb,Ar,cc,A3,c3,Ag,cg,vs,by rw [hje],Bel.size hB,ho3.low lB,hz1⟩,hB⟩
end Go.Proofs.YtbcpgfnfiekbiaaGreatDoor
namespace Go.Proofs.YtbcpgfnfiekbiaaGreatDoor
open Go.RowKit
theorem NX (G:Option Addr) (cg:Nat) (l:List Ty) (fs:List Ft) (gr:List Nd) (w:World) (hG:NodesIn w G gr) (h0:(jJ l fs gr).1=0):Calls Tryz.prog 36 #[.agg #[.slice G gr.length cg]] w fun e w'=>(∃ A c,e= .returned (.agg #[.slice A (yk l fs gr).length c])∧Hv w.heap.size [] w'.heap.size w' (fun w=>NodesIn w A (yk l fs gr)))∧Bel w w':=
  (rcan_any G gr.length cg l fs gr w hG rfl h0).mono fun _ _ h=>by
    obtain⟨⟨A,c,e,h1⟩,h2⟩:=h
    exact⟨⟨A,c,e,Hv.fr h1⟩,h2⟩
theorem Hv.andN {lo n:Nat} {X:List Nat} {w:World} {P Q:World→Prop} (h:Hv lo X n w P) (g:Hv lo X n w Q):Hv lo X n w (fun w=>P w∧Q w):=⟨h.le,fun w2 h2 hk=>⟨h.all w2 h2 hk,g.all w2 h2 hk⟩⟩
theorem P0 {w w2:World} {b' o:Nat} {v:Value} (hh:w2.heap[b']? =w.heap[b']?) (h:w.cell? ⟨b',o,none⟩=some v):w2.cell? ⟨b',o,none⟩=some v:=by
  unfold World.cell? at h ⊢;rw [hh];exact h
theorem int_ne {w:World} {b b' o:Nat} {t:TypeId} {cs:Array Value} {k:IntKind} {z:Int} (hb:Blk w b t cs) (hcs:∀ (j:Nat) (k:IntKind) (z:Int),cs[j]?≠some (.int k z)) (h:w.cell? ⟨b',o,none⟩=some (.int k z)):b'≠b:=fun e=>by
  subst e
  rw [cell_of_row w b' o _ t (0,0) hb] at h
  exact hcs _ _ _ h
theorem NodesIn.free {w w2:World} {b:Nat} {t:TypeId} {cs:Array Value} {G:Option Addr} {g:List Nd} (h:NodesIn w G g) (hb:Blk w b t cs) (hcs:∀ (j:Nat) (k:IntKind) (z:Int),cs[j]?≠some (.int k z)) (hz:w.heap.size≤w2.heap.size) (hs:∀ k,k < w.heap.size→k≠b→w2.heap[k]? =w.heap[k]?):NodesIn w2 G g:=by
  refine⟨h.1,fun hne=>?_⟩;obtain⟨gb,go,e,hl,hc⟩:=h.2 hne;refine⟨gb,go,e,nLL hl hz,fun k hk=>?_⟩;obtain⟨A',c',h1,h2⟩:=hc k hk;have hgb:=int_ne hb hcs (h1 0 _ rfl);refine⟨A',c',fun j v hj=>P0 (hs _ hl hgb) (h1 j v hj),h2.1,fun hx=>?_⟩;obtain⟨lb,lo,e2,hl2,hc2⟩:=h2.2 hx;have hlb:=int_ne hb hcs (hc2 0 (List.length_pos_iff.2 hx) 0 _ rfl);exact⟨lb,lo,e2,nLL hl2 hz,fun j hj i v hv=>P0 (hs _ hl2 hlb) (hc2 j hj i v hv)⟩
theorem Hv.free {lo n:Nat} {w:World} {b:Nat} {t:TypeId} {cs:Array Value} {G:Option Addr} {g:List Nd} (h:Hv lo [] n w (fun w=>NodesIn w G g)) (hb:Blk w b t cs) (hcs:∀ (j:Nat) (k:IntKind) (z:Int),cs[j]?≠some (.int k z)):Hv lo [b] n w (fun w=>NodesIn w G g):=
  ⟨h.le,fun w2 h2 hk=>by
    have hbl:=hb.lt
    have hbl2:b < w2.heap.size:=nLL hbl h2
    let w3:World:={ w2 with heap:=w2.heap.setIfInBounds b (.cells cs t (0,0)) }
    have hz:w3.heap.size=w2.heap.size:=by simp [w3]
    have hb3:Blk w3 b t cs:=by
      show w3.heap[b]? =_;simp [w3,hbl2]
    have ho:∀ k,k≠b→w3.heap[k]? =w2.heap[k]?:=fun k hk=>by simp [w3,Ne.symm hk]
    refine(h.all w3 (by rw [hz];exact h2) (fun k h3 h4 _=>?_)).free hb3 hcs (by rw [hz];exact Nat.le_refl _) (fun k _ hk=>(ho k hk).symm);by_cases e:k=b
    · subst e;exact Eq.trans hb3 hb.symm
    · exact(ho k e).trans (hk k h3 h4 (by simpa using e))⟩
theorem zg_noint (j:Nat) (k:IntKind) (z:Int):(#[.slice none 0 0,.slice none 0 0,.slice none 0 0,.slice none 0 0,.slice none 0 0]:Array Value)[j]?≠some (.int k z):=by
  match j with
  | 0=>simp
  | 1=>simp
  | 2=>simp
  | 3=>simp
  | 4=>simp
  | j + 5=>simp
def lxK (w0 w:World) (x:Lx) (v:List Value):Prop:=Kw w0 w→lxD w x v
def rlK (w0 w:World) (x:Rl) (v:List Value):Prop:=Kw w0 w→rlD w x v
theorem Kw.of {w0 w:World} (h:Bel w0 w):Kw w0 w:=⟨h.size,h.block⟩
theorem L4 {w0 w:World} {base lo k cap n:Nat} {A:Option Addr} {l:List Rl} {vs:List Value} {X Y:List Nat} (ho:Own w base 54 10 A k cap vs) (hb:lo≤base) (hd:Hv lo X n w (fun w=>RowD (rlK w0) 10 w l vs)) (hY:∀ y ∈ Y,y ∈ X) (hA:∀ y ∈ Y,y ∉ aL A):Hv lo Y w.heap.size w (fun w=>Kw w0 w→RulesIn w A l):=
  Vz (R:=fun w A l=>Kw w0 w→RulesIn w A l) (fun _ _ _=>⟨Nat.zero_le _,fun h=>absurd rfl h⟩) (fun w g cs hblk hl hk hw=>⟨hl,fun _=>⟨g,0,rfl,hblk.lt,fun k hkl=>by
    obtain⟨v,h,hr⟩:=hk k hkl
    obtain⟨G,S,B,cg,cs',cb,rfl,hg,hs,ht⟩:=h hw
    exact⟨G,cg,S,cs',B,cb,hr,hg,hs,ht⟩⟩⟩) dE ho hb hd hY hA
theorem O8 {w0 w:World} {base lo k cap n:Nat} {A:Option Addr} {l:List Lx} {vs:List Value} {X:List Nat} (ho:Own w base 46 9 A k cap vs) (hb:lo≤base) (hd:Hv lo X n w (fun w=>RowD (lxK w0) 9 w l vs)):Hv lo [] w.heap.size w (fun w=>Kw w0 w→LexesIn w A l):=
  Vz (R:=fun w A l=>Kw w0 w→LexesIn w A l) (fun _ _ _=>⟨Nat.zero_le _,fun h=>absurd rfl h⟩) (fun w g cs hblk hl hk hw=>⟨hl,fun _=>⟨g,0,rfl,hblk.lt,fun k hkl=>by
    obtain⟨v,h,hr⟩:=hk k hkl
    obtain⟨h0,G,S,B,cg,cs',cb,rfl,hg,hs,ht⟩:=h hw
    exact⟨h0,G,cg,S,cs',B,cb,hr,hg,hs,ht⟩⟩⟩) dE ho hb hd (by simp) (by simp)
theorem Hv.kw {lo n:Nat} {w0 w:World} {P:World→Prop} (h:Hv lo [] n w (fun w=>Kw w0 w→P w)) (hB:Bel w0 w):Hv 0 [] w.heap.size w P:=
  ⟨Nat.le_refl _,fun w2 h2 hk=>h.up.all w2 h2 (fun k _ h4 h5=>hk k (Nat.zero_le _) h4 h5) ⟨nLT hB.size h2,fun k hkw=>(hk k (Nat.zero_le _) (nLL hkw hB.size) (by simp)).trans (hB.block k hkw)⟩⟩
theorem fn36:zZ Tryz.prog 36=true:=by kernel_rfl
set_option maxRecDepth 100000 in
set_option maxHeartbeats 8000000 in
theorem G0 (AT AF AR AX AS:Option Addr) (ct cf cr cx cst:Nat) (l:List Ty) (fs:List Ft) (rs:List Rl) (xs:List Lx) (st:List Nd) (w:World) (w0:World) (hB0:Bel w0 w) (hP:GpS l fs rs xs st) (hRu:RulesIn w0 AR rs) (hLx:LexesIn w0 AX xs) (hG:NodesIn w0 AS st):Calls Tryz.prog 35 #[.agg #[.slice AT l.length ct,.slice AF fs.length cf,.slice AR rs.length cr,.slice AX xs.length cx,.slice AS st.length cst]] w fun e w'=>(∃ Ar cc Ax cd Ag cg vs,e= .returned (.agg #[.slice AT l.length ct,.slice AF fs.length cf,.slice Ar rs.length cc,.slice Ax xs.length cd,.slice Ag (yk l fs st).length cg])∧w.heap.size≤w'.heap.size∧Own w' w.heap.size 46 9 Ax xs.length cd vs∧Hv w.heap.size (aL Ax) w'.heap.size w' (fun w=>((Kw w0 w→RulesIn w Ar (rs.map (gZ l fs)))∧NodesIn w Ag (yk l fs st))∧RowD (lxK w0) 9 w (xs.map (ow l fs)) vs))∧Bel w w':=by
 refine enT Tryz.func35 Tryz.ntmps35 rfl rfl fun hB=>?_;refine zn2 ?_;refine qK (v:= .agg #[_,_,_,_,_]) (cs:=#[_,_,_,_,_]) rfl rfl (fun b1 w1 hb1 s1 hr=>?_);refine zY (cs:=#[.slice none 0 0,.slice none 0 0,.slice none 0 0,.slice none 0 0,.slice none 0 0]) uK rfl (fun b2 w2 hb2 s2 hr=>?_);have lo2:=nLT (Bel.size hB.u) hr;refine zn3 ?_;replace hB:=hB.tr0 (s1.trans s2);have hsz:=Bel.size hB;replace hb1:=hb1.tr0 s2;have z1:=hb1.lt;have z2:=hb2.lt;refine jZ 7 [8,9,10,11,12,13,3] (fun ix=>Nat.beq ix 6) (fun ix v wv=>match ix with | 0=>v= .pointer (some ⟨b1,0,none⟩) | 1=>v= .agg #[.slice AT l.length ct,.slice AF fs.length cf] | 2=>v= .pointer (some ⟨b1,4,none⟩) | 3=>v= .agg #[.slice AS st.length cst] | 4=>∃ Ag cg ng,v= .agg #[.slice Ag (yk l fs st).length cg]∧Hv w2.heap.size [] ng wv (fun w=>NodesIn w Ag (yk l fs st)) | 5=>∃ Ag cg ng,v= .agg #[.slice AT l.length ct,.slice AF fs.length cf,.slice none 0 0,.slice none 0 0,.slice Ag (yk l fs st).length cg]∧Hv w2.heap.size [] ng wv (fun w=>NodesIn w Ag (yk l fs st)) | 6=>∃ b,v= .pointer (some ⟨b,0,none⟩)∧w2.heap.size≤b∧Blk wv b 32 #[.slice none 0 0,.slice none 0 0,.slice none 0 0,.slice none 0 0,.slice none 0 0] | _=>True) kR kR ?_ ?_ ?_
 ·intro ix v wv wv2 h s3
  match ix,h with
  | 0,h=>exact h
  | 1,h=>exact h
  | 2,h=>exact h
  | 3,h=>exact h
  | 4,h=>
   obtain⟨Ag,cg,ng,e12,hS⟩:=h;exact⟨Ag,cg,ng,e12,hS.tr0 s3⟩
  | 5,h=>
   obtain⟨Ag,cg,ng,e13,hS⟩:=h;exact⟨Ag,cg,ng,e13,hS.tr0 s3⟩
  | 6,h=>
   obtain⟨b3,e3,lw3,hb3⟩:=h;exact⟨b3,e3,lw3,hb3.tr0 s3⟩
  | _ + 7,h=>exact trivial
 ·intro ix o hix hoq gg wx s4 hd hdis
  match ix,hix,hoq with
  | 0,_,hoq=>
   cases sI hoq;exact oVq (uk U32 IY dE rfl rfl rfl) rfl
  | 1,_,hoq=>
   cases sI hoq;refine zz 8 _ (hd 0 (zq kR)) nu ?_;exact oVq (zV U25 rfl rfl (hb1.u.sub (n:=2) (xs:=[_,_]) rfl) IY) rfl
  | 2,_,hoq=>
   cases sI hoq;exact oVq (uk U32 uj dE rfl rfl rfl) rfl
  | 3,_,hoq=>
   cases sI hoq;refine zz 10 _ (hd 2 (zq kR)) nu ?_;exact oVq (zV U30 rfl rfl (hb1.u.sub (n:=1) (xs:=[_]) rfl) uj) rfl
  | 4,_,hoq=>
   cases sI hoq;have hs0:=s4;refine zz 11 _ (hd 3 (zq kR)) nu ?_;refine yK fn36 (NX AS cst l fs st wx ((hG.mono hB0).mono hB.u) hP.sok) rfl (fun e' w2 hr=>?_);obtain⟨⟨Ag,cg,rfl,hS⟩,s5⟩:=hr;exact⟨_,rfl,sB s5,⟨_,_,_,rfl,hS.mono hs0.size (Nat.le_refl _) (Nat.le_refl _)⟩,xq⟩
  | 5,_,hoq=>
   cases sI hoq;obtain⟨Ag,cg,ng,e12,hS⟩:=hd 4 (zq kR);refine zz 9 _ (hd 1 (zq kR)) nu (zz 12 _ e12 nu ?_);exact oVq (yv (v0:= .agg _) (v1:= .agg _) (fun v0 v1=>#[(qy v0 0),(qy v0 1),.slice none 0 0,.slice none 0 0,(qy v1 0)]) rfl rfl kR) ⟨_,_,_,rfl,hS⟩
  | 6,_,hoq=>
   cases sI hoq;have hs0:=s4;refine vK (fun ops Q K=>?_);refine zY (cs:=#[.slice none 0 0,.slice none 0 0,.slice none 0 0,.slice none 0 0,.slice none 0 0]) uK rfl (fun b3 w3 hb3 s6 hr=>?_);exact K _ _ ⟨s6,⟨_,rfl,nLT hs0.size hr,hb3⟩,fRq hr hb3.lt⟩
  | _ + 7,hix,_=>exact absurd hix om
 intro gg w4 s7 hR hdis;obtain⟨Ag,cg,ng,e13,hS⟩:=hR 5 dE;obtain⟨b3,e3,lw3,hb3⟩:=hR 6 dE;have lo3:=nLT hsz lw3;have or_b1_b3:=nLL z1 lw3;have or_b2_b3:=nLL z2 lw3;replace hS:=((hS.free hb3 zg_noint).hole (Y:=[b2,b3]) (by simp [z2])).mono hsz hS.le (Nat.le_refl _);refine x7 13 _ e13 nu (x7 3 _ e3 nu ?_);refine zj hb3 rfl rfl x5 rfl zX (fun w5 hq s8=>?_);replace hS:=hS.in1 s8 (by simp);replace hb3:=hq;refine zn4 ?_;replace hS:=hS.up;obtain⟨nA,hnA⟩:∃ z,z=w5.heap.size:=⟨_,rfl⟩
 rw [← hnA] at hS;have lA:b3 + 1≤nA:=by rw [hnA];exact hb3.lt
 replace hB:=(hB.tr0 s7).tr1 s8 lo3;have lB:w.heap.size≤nA:=by rw [hnA];exact Bel.size hB
 clear hnA;refine zn8 ?_;refine zK (rg [5] 17 15) (fun m g w'=>∃ (j:Nat) (A3:Option Addr) (c3 n3:Nat) (vs:List Value),j≤rs.length∧m=rs.length - j∧g 17= .int .i64 j∧Bel w w'∧Blk w' b1 32 #[.slice AT l.length ct,.slice AF fs.length cf,.slice AR rs.length cr,.slice AX xs.length cx,.slice AS st.length cst]∧Blk w' b2 32 #[.slice none 0 0,.slice none 0 0,.slice none 0 0,.slice none 0 0,.slice none 0 0]∧Blk w' b3 32 #[.slice AT l.length ct,.slice AF fs.length cf,.slice A3 j c3,.slice none 0 0,.slice Ag (yk l fs st).length cg]∧nA≤w'.heap.size∧Own w' nA 54 10 A3 j c3 vs∧Hv w.heap.size [b2,b3] nA w' (fun w=>NodesIn w Ag (yk l fs st))∧Hv w.heap.size (b2 :: b3 :: aL A3) n3 w' (fun w=>RowD (rlK w0) 10 w ((rs.map (gZ l fs)).take j) vs)) (rs.length) ?_ (fun m g3 w6 hI=>?_)
 ·exact⟨0,none,0,_,[],Nat.zero_le _,rfl,rfl,hB,hb1.u,hb2.u,hb3,hS.le,Own.nil _ _ _ _,hS,Hv.triv _ _ _ (fun w=> .nil)⟩
 obtain⟨j,A3,c3,n3,vs,hj,hmj,h17,hB,hb1,hb2,hb3,hz9,ho3,hS,hH⟩:=hI;refine zQ 17 _ h17 nu (zn6 ?_);refine zy rfl (fun c18=>?_) (fun c18=>?_)
 ·have hja:j < rs.length:=by omega
  obtain⟨rb,ro,Gr,cgr,Sr,csr,Br,cbr,hre,hrb,hrr,hgr,hsr,htr⟩:=hRu.at_ (Below.refl _ _:Bel w0 w0) hja;obtain⟨hr0,hrK⟩:=hP.rok j hja;have hrn:=hP.rn;refine zn6 ?_;refine wl (xw (i:=j) U26 Z7 (show ev _ _ _=_ from Q8 _ _ hre) rfl om rfl) (wl (zV U54 rfl rfl (hB.range (nLL hrb hB0.size) (hB0.range hrb hrr)) Z7) ?_);refine zY (cs:=#[.string ⟨#[]⟩,.slice none 0 0,.int .i64 0,.int .i64 0,.int .i64 0,.string ⟨#[]⟩,.int .i64 0,.string ⟨#[]⟩,.slice none 0 0,.slice none 0 0]) JV rfl (fun b5 w7 hb5 s9 hr=>?_);have:=nLL hb1.lt hr;have:=nLL hb2.lt hr;have:=nLL hb3.lt hr;have or_ho3_b5:=fun g hg=>nLL (ho3.lt g hg).2 hr
  have or_hS_b5:=(nLT hS.le hr)
  have or_hH_b5:=(nLT hH.le hr)
  have lo5:=nLT (Bel.size hB) hr;refine zj hb5 rfl rfl Z7 rfl zX (fun w8 hq s10=>?_);replace ho3:=ho3.tr0 s9;replace ho3:=ho3.tr1 s10 (neL or_ho3_b5);replace hS:=hS.tr0 s9;replace hS:=hS.tr s10 (fun g hg=> .inr (.inr (by rw [List.mem_singleton.1 hg];exact or_hS_b5)));replace hH:=hH.tr0 s9;replace hH:=hH.tr s10 (fun g hg=> .inr (.inr (by rw [List.mem_singleton.1 hg];exact or_hH_b5)));replace hb5:=hq;refine zn5 ?_;refine wl (zV U30 rfl rfl (hb5.sub (n:=1) (xs:=[_]) rfl) uj) ?_;replace hB:=(hB.tr0 s9).tr1 s10 lo5;have hsz:=Bel.size hB;have zo:=fun g hg=>(ho3.lt g hg).2
  replace hb2:=(hb2.tr0 s9).tr1 s10 om;have z2:=hb2.lt;replace hb3:=(hb3.tr0 s9).tr1 s10 om;have z3:=hb3.lt;have z5:=hb5.lt;refine zJ fn36 (NX Gr cgr l fs ((rs[j])).gr _ ((hgr.mono hB0).mono hB) hr0) rfl (fun e' w9 hr=>?_);obtain⟨⟨A5,c5,rfl,hz5⟩,s11⟩:=hr;replace s11:=sB s11;obtain⟨n5,hn5⟩:∃ z,z=w9.heap.size:=⟨_,rfl⟩
  rw [← hn5] at hz5;replace hB:=hB.tr0 s11;have l5:w.heap.size≤n5:=by rw [hn5];exact Bel.size hB
  clear hn5;refine⟨_,rfl,?_⟩;refine zn1 ?_;replace hb5:=hb5.tr0 s11;refine oW hb5 rfl rfl uj (by first | decide | simp) zX rfl (fun w10 hq s12=>?_);replace ho3:=ho3.tr0 s11;replace ho3:=ho3.tr1 s12 (neL or_ho3_b5);replace hS:=hS.tr0 s11;replace hS:=hS.tr s12 (fun g hg=> .inr (.inr (by rw [List.mem_singleton.1 hg];exact or_hS_b5)));replace hH:=hH.tr0 s11;replace hH:=hH.tr s12 (fun g hg=> .inr (.inr (by rw [List.mem_singleton.1 hg];exact or_hH_b5)));replace hz5:=hz5.lo1 s12 z5;replace hb5:=hq;replace hb5:Blk w10 b5 54 #[.string (rs[j]).name,.slice A5 (yk l fs (rs[j]).gr).length c5,.int .i64 (rs[j]).kids,.int .i64 (rs[j]).wt,.int .i64 ((rs[j]).mean).kind,.string ((rs[j]).mean).name,.int .i64 ((rs[j]).mean).index,.string ((rs[j]).mean).type.base,.slice Sr ((rs[j]).mean).type.args.length csr,.slice Br ((rs[j]).mean).args.length cbr]:=hb5;refine zn6 ?_;refine qv (cs:=#[_,_,_,_,_,_,_,_,_,_]) [(0,.agg _)] rfl U26 Z7 JV dE dE kR rfl (fun b28 w11 hb28 s13 hr=>?_);have:=nLL hb1.u.lt hr;have:=nLL hb2.u.lt hr;have:=nLL hb3.u.lt hr;have or_ho3_b28:=fun g hg=>nLL (ho3.lt g hg).2 hr
  have or_hS_b28:=(nLT hS.le hr)
  have or_hH_b28:=(nLT hH.le hr)
  replace hH:=hH.tr0 s13;have hnH:=hH.le;replace hz5:=hz5.tr0 s13;have hnz:=hz5.le;replace hS:=hS.tr0 s13;have hn9:=hS.le;replace ho3:=ho3.tr0 s13;refine vW U26 in54 rfl dE ho3 hb28 rfl rfl rfl zX dE om om hn9 (fun g29 cap29 w12 ho29 s14 hg=>?_);have ne_ho29_b1:g29≠b1:=neA ho3 hb1.u.lt hg
  have ne_ho29_b2:g29≠b2:=neA ho3 hb2.u.lt hg
  have ne_ho29_b3:g29≠b3:=neA ho3 hb3.u.lt hg
  have ne_ho29_b5:g29≠b5:=neB hb5.u.lt hg (neL or_ho3_b5)
  replace hB:=hB.u.tr s14 (fun g hg=>nLT om (ho3.lt g hg).1);replace hb1:=((((hb1.tr0 s9).tr1 s10 om).tr0 s11).tr1 s12 om).tr0 s13;replace hb1:=hb1.ta s14 ho3;replace hb2:=((hb2.tr0 s11).tr1 s12 om).tr0 s13;replace hb2:=hb2.ta s14 ho3;replace hb3:=((hb3.tr0 s11).tr1 s12 om).tr0 s13;replace hb3:=hb3.ta s14 ho3;replace hS:=hS.tr s14 (fun g hg=> .inr (.inr (ho3.lt g hg).1));replace hH:=hH.tr s14 (fun g hg=> .inr (.inl (by simp [hg])));replace hz5:=hz5.tr s14 (fun g hg=> .inl (zo g hg));refine zn1 ?_;refine x9 (v:= .slice _ _ _) hb3 rfl rfl TX (by first | decide | simp) rfl rfl (fun w13 hq s15=>?_);replace hS:=hS.in1 s15 (by simp);replace hH:=hH.in1 s15 (by simp);replace hz5:=hz5.lo1 s15 z3;replace ho29:=ho29.tr1 s15 (neS ne_ho29_b3);replace hb3:=hq
  have hH2:=RowD.app (v:=rlCc (gZ l fs (rs[j])) A5 Sr Br c5 csr cbr) (Y:=b2 :: b3 :: aL (some (⟨g29,0,none⟩:Addr))) (show j < (rs.map (gZ l fs)).length by rw [List.length_map];exact hja) (List.getElem_map _) hH rfl (hz5.imp (fun _ h hk=>(⟨A5,Sr,Br,c5,csr,cbr,rfl,h,hsr.keep hk,htr.keep hk⟩:rlD _ (gZ l fs (rs[j])) (rlCc (gZ l fs (rs[j])) A5 Sr Br c5 csr cbr)))) hsz (fun y hy=>by
    rcases List.mem_cons.1 hy with h | hy
    · exact .inl (by simp [h])
    rcases List.mem_cons.1 hy with h | hy
    · exact .inl (by simp [h])
    · cases List.mem_singleton.1 hy
      rcases hg with hg | hg
      · exact .inl (by simp [hg])
      · exact .inr (nLT hnH hg)) (fun y hy=>by
    rcases List.mem_cons.1 hy with h | hy
    · exact .inl (by rw [h];exact z2)
    rcases List.mem_cons.1 hy with h | hy
    · exact .inl (by rw [h];exact z3)
    · cases List.mem_singleton.1 hy
      rcases hg with hg | hg
      · exact .inl (zo g29 (by rw [hg];exact List.mem_singleton.2 rfl))
      · exact .inr (nLT hnz hg))
  refine zn7 ?_;refine qV (rs.length - (j + 1)) om agA ?_;exact⟨j + 1,_,_,_,_,by omega,rfl,rfl,hB.u,hb1.u,hb2.u,hb3,hS.le,ho29,hS,hH2⟩
 have hje:j=rs.length:=by omega
 refine zn7 ?_;rw [hje] at ho3 hb3 hH;rw [← List.length_map (f:=gZ l fs),List.take_length] at hH;obtain⟨Ar,hAt⟩:∃ z,z=A3:=⟨_,rfl⟩
 obtain⟨cc,hca⟩:∃ z,z=c3:=⟨_,rfl⟩
 rw [← hAt] at ho3 hH hb3;rw [← hca] at ho3 hb3;clear hAt hca;have hRl:=L4 (Y:=[b2,b3]) ho3 lB hH (fun y hy=>List.mem_append_left (aL Ar) hy) (nb2 ho3 or_b2_b3 lA);clear ho3 hH;replace hS:=hS.up;obtain⟨nA,hnA⟩:∃ z,z=w6.heap.size:=⟨_,rfl⟩
 rw [← hnA] at hS hRl;have lA:b3 + 1≤nA:=by rw [hnA];exact hb3.lt
 have lB:w.heap.size≤nA:=by rw [hnA];exact Bel.size hB
 clear hnA;refine zn8 ?_;refine zK (rg [7] 35 15) (fun m g w'=>∃ (j:Nat) (A3:Option Addr) (c3 n3:Nat) (vs:List Value),j≤xs.length∧m=xs.length - j∧g 35= .int .i64 j∧Bel w w'∧Blk w' b1 32 #[.slice AT l.length ct,.slice AF fs.length cf,.slice AR rs.length cr,.slice AX xs.length cx,.slice AS st.length cst]∧Blk w' b2 32 #[.slice none 0 0,.slice none 0 0,.slice none 0 0,.slice none 0 0,.slice none 0 0]∧Blk w' b3 32 #[.slice AT l.length ct,.slice AF fs.length cf,.slice Ar rs.length cc,.slice A3 j c3,.slice Ag (yk l fs st).length cg]∧nA≤w'.heap.size∧Own w' nA 46 9 A3 j c3 vs∧Hv w.heap.size [b2,b3] nA w' (fun w=>NodesIn w Ag (yk l fs st))∧Hv w.heap.size [b2,b3] nA w' (fun w=>Kw w0 w→RulesIn w Ar (rs.map (gZ l fs)))∧Hv w.heap.size (b2 :: b3 :: aL A3) n3 w' (fun w=>RowD (lxK w0) 9 w ((xs.map (ow l fs)).take j) vs)) (xs.length) ?_ (fun m g9 w14 hI=>?_)
 ·exact⟨0,none,0,_,[],Nat.zero_le _,rfl,rfl,hB,hb1,hb2,hb3,hS.le,Own.nil _ _ _ _,hS,hRl,Hv.triv _ _ _ (fun w=> .nil)⟩
 obtain⟨j,A3,c3,n3,vs,hj,hmj,h35,hB,hb1,hb2,hb3,hz9,ho3,hS,hRl,hH⟩:=hI;refine zQ 35 _ h35 nu (zn6 ?_);refine zy rfl (fun c36=>?_) (fun c36=>?_)
 ·have hja:j < xs.length:=by omega
  obtain⟨xb,xo,Gx,cgx,Sx,csx,Bx,cbx,hxe,hxb,hxw,hxr,hgx,hsx,htx⟩:=hLx.at_ (Below.refl _ _:Bel w0 w0) hja;obtain⟨hx0,hxK⟩:=hP.xok j hja;have hxn:=hP.xn;refine zn6 ?_;refine wl (xw (i:=j) U27 y9 (show ev _ _ _=_ from Q8 _ _ hxe) rfl om rfl) (wl (zV U46 rfl rfl (hB.range (nLL hxb hB0.size) (hB0.range hxb hxr)) y9) ?_);refine zY (cs:=#[.string ⟨#[]⟩,.slice none 0 0,.int .i64 0,.int .i64 0,.string ⟨#[]⟩,.int .i64 0,.string ⟨#[]⟩,.slice none 0 0,.slice none 0 0]) kK rfl (fun b7 w15 hb7 s16 hr=>?_);have:=nLL hb1.lt hr;have:=nLL hb2.lt hr;have:=nLL hb3.lt hr;have or_ho3_b7:=fun g hg=>nLL (ho3.lt g hg).2 hr
  have or_hS_b7:=(nLT hS.le hr)
  have or_hRl_b7:=(nLT hRl.le hr)
  have or_hH_b7:=(nLT hH.le hr)
  have lo7:=nLT (Bel.size hB) hr;refine zj hb7 rfl rfl y9 rfl zX (fun w16 hq s17=>?_);replace ho3:=ho3.tr0 s16;replace ho3:=ho3.tr1 s17 (neL or_ho3_b7);replace hS:=hS.tr0 s16;replace hS:=hS.tr s17 (fun g hg=> .inr (.inr (by rw [List.mem_singleton.1 hg];exact or_hS_b7)));replace hRl:=hRl.tr0 s16;replace hRl:=hRl.tr s17 (fun g hg=> .inr (.inr (by rw [List.mem_singleton.1 hg];exact or_hRl_b7)));replace hH:=hH.tr0 s16;replace hH:=hH.tr s17 (fun g hg=> .inr (.inr (by rw [List.mem_singleton.1 hg];exact or_hH_b7)));replace hb7:=hq;refine zn5 ?_;refine wl (zV U30 rfl rfl (hb7.sub (n:=1) (xs:=[_]) rfl) uj) ?_;replace hB:=(hB.tr0 s16).tr1 s17 lo7;have hsz:=Bel.size hB;have zo:=fun g hg=>(ho3.lt g hg).2
  replace hb2:=(hb2.tr0 s16).tr1 s17 om;have z2:=hb2.lt;replace hb3:=(hb3.tr0 s16).tr1 s17 om;have z3:=hb3.lt;have z7:=hb7.lt;refine zJ fn36 (NX Gx cgx l fs ((xs[j])).gr _ ((hgx.mono hB0).mono hB) hx0) rfl (fun e' w17 hr=>?_);obtain⟨⟨A5,c5,rfl,hz5⟩,s18⟩:=hr;replace s18:=sB s18;obtain⟨n5,hn5⟩:∃ z,z=w17.heap.size:=⟨_,rfl⟩
  rw [← hn5] at hz5;replace hB:=hB.tr0 s18;have l5:w.heap.size≤n5:=by rw [hn5];exact Bel.size hB
  clear hn5;refine⟨_,rfl,?_⟩;refine zn1 ?_;replace hb7:=hb7.tr0 s18;refine oW hb7 rfl rfl uj (by first | decide | simp) zX rfl (fun w18 hq s19=>?_);replace ho3:=ho3.tr0 s18;replace ho3:=ho3.tr1 s19 (neL or_ho3_b7);replace hS:=hS.tr0 s18;replace hS:=hS.tr s19 (fun g hg=> .inr (.inr (by rw [List.mem_singleton.1 hg];exact or_hS_b7)));replace hRl:=hRl.tr0 s18;replace hRl:=hRl.tr s19 (fun g hg=> .inr (.inr (by rw [List.mem_singleton.1 hg];exact or_hRl_b7)));replace hH:=hH.tr0 s18;replace hH:=hH.tr s19 (fun g hg=> .inr (.inr (by rw [List.mem_singleton.1 hg];exact or_hH_b7)));replace hz5:=hz5.lo1 s19 z7;replace hb7:=hq;replace hb7:Blk w18 b7 46 #[.string ((xs[j])).word,.slice A5 (yk l fs (xs[j]).gr).length c5,.int .i64 ((xs[j])).wt,.int .i64 (((xs[j])).mean).kind,.string (((xs[j])).mean).name,.int .i64 (((xs[j])).mean).index,.string (((xs[j])).mean).type.base,.slice Sx (((xs[j])).mean).type.args.length csx,.slice Bx (((xs[j])).mean).args.length cbx]:=hb7;refine zn6 ?_;refine qv (cs:=#[_,_,_,_,_,_,_,_,_]) [(0,.agg _)] rfl U27 y9 kK dE dE kR rfl (fun b46 w19 hb46 s20 hr=>?_);have:=nLL hb1.u.lt hr;have:=nLL hb2.u.lt hr;have:=nLL hb3.u.lt hr;have or_ho3_b46:=fun g hg=>nLL (ho3.lt g hg).2 hr
  have or_hS_b46:=(nLT hS.le hr)
  have or_hRl_b46:=(nLT hRl.le hr)
  have or_hH_b46:=(nLT hH.le hr)
  replace hH:=hH.tr0 s20;have hnH:=hH.le;replace hz5:=hz5.tr0 s20;have hnz:=hz5.le;replace hS:=hS.tr0 s20;have hn9:=hS.le;replace ho3:=ho3.tr0 s20;refine vW U27 Iq rfl dE ho3 hb46 rfl rfl rfl zX dE om om hn9 (fun g47 cap47 w20 ho47 s21 hg=>?_);have ne_ho47_b1:g47≠b1:=neA ho3 hb1.u.lt hg
  have ne_ho47_b2:g47≠b2:=neA ho3 hb2.u.lt hg
  have ne_ho47_b3:g47≠b3:=neA ho3 hb3.u.lt hg
  have ne_ho47_b7:g47≠b7:=neB hb7.u.lt hg (neL or_ho3_b7)
  replace hB:=hB.u.tr s21 (fun g hg=>nLT om (ho3.lt g hg).1);replace hb1:=((((hb1.tr0 s16).tr1 s17 om).tr0 s18).tr1 s19 om).tr0 s20;replace hb1:=hb1.ta s21 ho3;replace hb2:=((hb2.tr0 s18).tr1 s19 om).tr0 s20;replace hb2:=hb2.ta s21 ho3;replace hb3:=((hb3.tr0 s18).tr1 s19 om).tr0 s20;replace hb3:=hb3.ta s21 ho3;replace hS:=hS.tr s21 (fun g hg=> .inr (.inr (ho3.lt g hg).1));replace hRl:=hRl.tr0 s20;replace hRl:=hRl.tr s21 (fun g hg=> .inr (.inr (ho3.lt g hg).1));replace hH:=hH.tr s21 (fun g hg=> .inr (.inl (by simp [hg])));replace hz5:=hz5.tr s21 (fun g hg=> .inl (zo g hg));refine zn1 ?_;refine x9 (v:= .slice _ _ _) hb3 rfl rfl QW (by first | decide | simp) rfl rfl (fun w21 hq s22=>?_);replace hS:=hS.in1 s22 (by simp);replace hRl:=hRl.in1 s22 (by simp);replace hH:=hH.in1 s22 (by simp);replace hz5:=hz5.lo1 s22 z3;replace ho47:=ho47.tr1 s22 (neS ne_ho47_b3);replace hb3:=hq
  have hH2:=RowD.app (v:=lxC (ow l fs (xs[j])) A5 Sx Bx c5 csx cbx) (Y:=b2 :: b3 :: aL (some (⟨g47,0,none⟩:Addr))) (show j < (xs.map (ow l fs)).length by rw [List.length_map];exact hja) (List.getElem_map _) hH rfl (hz5.imp (fun _ h hk=>(⟨hxw,A5,Sx,Bx,c5,csx,cbx,rfl,h,hsx.keep hk,htx.keep hk⟩:lxD _ (ow l fs (xs[j])) (lxC (ow l fs (xs[j])) A5 Sx Bx c5 csx cbx)))) hsz (fun y hy=>by
    rcases List.mem_cons.1 hy with h | hy
    · exact .inl (by simp [h])
    rcases List.mem_cons.1 hy with h | hy
    · exact .inl (by simp [h])
    · cases List.mem_singleton.1 hy
      rcases hg with hg | hg
      · exact .inl (by simp [hg])
      · exact .inr (nLT hnH hg)) (fun y hy=>by
    rcases List.mem_cons.1 hy with h | hy
    · exact .inl (by rw [h];exact z2)
    rcases List.mem_cons.1 hy with h | hy
    · exact .inl (by rw [h];exact z3)
    · cases List.mem_singleton.1 hy
      rcases hg with hg | hg
      · exact .inl (zo g47 (by rw [hg];exact List.mem_singleton.2 rfl))
      · exact .inr (nLT hnz hg))
  refine zn7 ?_;refine qV (xs.length - (j + 1)) om agA ?_;exact⟨j + 1,_,_,_,_,by omega,rfl,rfl,hB.u,hb1.u,hb2.u,hb3,hS.le,ho47,hS,hRl,hH2⟩
 have hje:j=xs.length:=by omega
 refine zn8 ?_;refine zj hb2 rfl rfl x5 rfl zX (fun w22 hq s23=>?_);replace ho3:=ho3.tq s23;replace hS:=hS.in1 s23 (by simp);replace hRl:=hRl.in1 s23 (by simp);replace hH:=hH.in1 s23 (by simp);replace hb2:=hq;refine zn3 ?_;refine x8 (.inl rfl) rfl (zk U32 rfl rfl hb2.range0 x5) ?_;replace hb3:=hb3.tr1 s23 om;rw [hje] at ho3 hH hb3;rw [← List.length_map (f:=ow l fs),List.take_length] at hH;have hq:∀ y ∈ aL A3,y ∈ [b2,b3]∨y < w.heap.size∨nA≤y:=fun y hy=> .inr (.inr (ho3.lt y hy).1)
 have hz1:=((hRl.hole hq).and (hS.hole hq)).and (hH.hole (Y:=aL A3) (fun y hy=> .inl (List.mem_cons_of_mem _ (List.mem_cons_of_mem _ hy))));replace hB:=hB.tr1 s23 lo2;exact⟨⟨Ar,cc,A3,c3,Ag,cg,vs,by rw [hje],Bel.size hB,ho3.low lB,hz1⟩,hB⟩
end Go.Proofs.YtbcpgfnfiekbiaaGreatDoor
