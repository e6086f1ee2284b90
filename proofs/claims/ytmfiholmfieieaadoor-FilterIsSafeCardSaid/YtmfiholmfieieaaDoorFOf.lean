/- What these functions of the program compute, at every world: glosswright/filter.Of. -/
import Derived.Test.YtmfiholmfieieaaDoorU
import Derived.Test.YtmfiholmfieieaaDoorZst
import Derived.Test.YtmfiholmfieieaaDoorFOp
namespace Go.Proofs.YtmfiholmfieieaaDoor
open Go.RowKit
abbrev cA:Array Value:=#[.int .i64 0,.int .i64 0,.slice none 0 0,.slice none 0 0,.slice none 0 0,.slice none 0 0]
theorem in38:(Tryd.prog.info? 38).map (fun i=>(i.zero,i.size,i.bytes))=some (some (.slice none 0 0),1,24):=by kernel_rfl
theorem in96:(Tryd.prog.info? 96).map (fun i=>(i.zero,i.size,i.bytes))=some (some (.agg #[.slice none 0 0,.slice none 0 0,.slice none 0 0]),3,72):=by kernel_rfl
theorem ze38:(Tryd.prog.info? 38).map (·.zero)=some (some (.slice none 0 0)):=by kernel_rfl
theorem ze4:(Tryd.prog.info? 4).map (·.zero)=some (some (.bool false)):=by kernel_rfl
theorem ze41:(Tryd.prog.info? 41).map (·.zero)=some (some (.agg cA)):=by kernel_rfl
theorem ze96:(Tryd.prog.info? 96).map (·.zero)=some (some (.agg #[.slice none 0 0,.slice none 0 0,.slice none 0 0])):=by kernel_rfl
set_option maxRecDepth 100000 in
set_option maxHeartbeats 16000000 in
theorem of_any{AT AF AR AX AS:Option Addr}{ct cf cr cx cst:Nat}{l:List Ty}{fs:List Ft}{rs:List Rl}{xs:List Lx}{st:List Nd}{bu bd:Nat}(H:Y3 l fs rs xs)(hS:I6 l)(hst:GV l fs st)(hr40:rs.length<=40)(hx100:xs.length<=100)(w:World)(ie:TabIn w)(hTI:TableIn w l bu bd)(hRu:RulesIn w AR rs)(hLx:LexesIn w AX xs)(hG:NodesIn w AS st):Calls Tryd.prog 19 #[.agg #[.slice AT l.length ct,.slice AF fs.length cf,.slice AR rs.length cr,.slice AX xs.length cx,.slice AS st.length cst],.agg #[.slice (some ⟨bu,0,none⟩) l.length l.length,.slice (some ⟨bd,0,none⟩) l.length l.length]] w fun e w'=>(∃ KA AA SA FA ck ca cs cf,e= .returned (.agg (filC rs.length xs.length KA AA SA FA ck ca cs cf))/\∀ w2,FrSame w.heap.size w' w2->FilIn l rs xs st KA AA SA FA w2)/\Bel w w':=by
 have hml:=KK rs xs;refine enT Tryd.func19 Tryd.ntmps19 rfl rfl fun hB=>?_;refine zn2 ?_;refine qZ (cs:=#[_,_,_,_,_]) rfl (fun b2 w1 a4 s1 hr=>?_);clear hr;refine qZ (cs:=#[_,_]) rfl (fun b3 w2 a2 s2 hr=>?_);clear hr;refine qw (cs:=cA) ze41 rfl (fun b4 w3 a3 s3 hr=>?_);have lo4:=hB.u.ob hr;clear hr;refine jZ ?_;refine wl (My (v0:= .int _ _) (v1:= .int _ _) (fun v0 v1=>#[v0,v1,.slice none 0 0,.slice none 0 0,.slice none 0 0,.slice none 0 0]) rfl rfl kR) ?_;refine yx (cs:=cA) ze41 rfl (fun _=>rfl) (fun _=>rfl) sz41 rfl y5 (fun b5 w5 a1 s4 hr=>?_);have:=a4.u.ob hr;have:=a2.u.ob hr;have:=a3.ob hr;have lo5:=hB.u.ob hr;clear hr;refine R7 ?_;refine qk (rgq [6,8] 37 11) (fun m g w'=>∃(k:Nat) (MA:Option Addr) (cap:Nat) (vs:List Value),k<=rs.length/\m=rs.length-k/\g 37= .int .i64 k/\g 6= .slice MA vs.length cap/\vs.length=k/\Bel w w'/\Blk w' b2 32 #[.slice AT l.length ct,.slice AF fs.length cf,.slice AR rs.length cr,.slice AX xs.length cx,.slice AS st.length cst]/\Blk w' b3 76 #[.slice (some ⟨bu,0,none⟩) l.length l.length,.slice (some ⟨bd,0,none⟩) l.length l.length]/\Blk w' b4 41 cA/\Blk w' b5 41 #[.int .i64 ((rs.length:Nat):Int),.int .i64 ((xs.length:Nat):Int),.slice none 0 0,.slice none 0 0,.slice none 0 0,.slice none 0 0]/\Own w' (b5+1) 30 1 MA vs.length cap vs/\KG (b5::aL MA) w'.heap.size ((X1 rs xs).take (k)) w' vs) (rs.length) ?_ (fun m g4 w6 hI=>?_)
 ·exact⟨0,none,0,[],ad _,rfl,rfl,rfl,rfl,hB.u,a4.u,a2.u,a3.u,a1,Own.nil _ _ _ _,KG.nil⟩
 obtain⟨k,MA,cap,vs,hk,hm,h37,h6,hlv,hB,a4,a2,a3,a1,ho,hK⟩:=hI;refine zZ 37 _ h37 nu (zZ 6 _ h6 nu (zn6 ?_));refine zK rfl (fun c38=>?_) (fun c38=>?_)
 ·have dc:k<rs.length:=by omega
  obtain⟨rb,ro,Gr,io,Sr,ka,Br,kb,i0,hrb,j3,im,_,_⟩:=hRu.at_ hB dc;obtain⟨hJ,jf,hk3⟩:=H.rl k dc;have iw:=W7 (Gw (xs:=xs) dc);obtain⟨N,hK⟩:∃ N,KG (b5::aL MA) N _ _ vs:=⟨_,hK⟩
  refine zn6 ?_;refine wl (xW (i:=k) U26 QQ (show ev _ _ _=_ from I2 _ _ i0) rfl oG rfl) (wl (qK U66 rfl rfl j3 QQ) ?_);refine yx (cs:=cF) Nx rfl (fun _=>rfl) (fun _=>rfl) QQ rfl y5 (fun b8 w8 hb8 s5 hr=>?_);have di:=ho.ob hr;clear hr;refine zn5 ?_;refine wl (qK U30 rfl rfl (hb8.sub (n:=1) (xs:=[_]) rfl) gY) ?_;replace ho:=ho.tr0 s5;have hzo:=fun g hg=>(ho.lt g hg).2
  replace a1:=a1.tr0 s5;have z5:=a1.lt;refine zX kR (D5 _ (im.mono hB.u) hJ jf) rfl (fun e' w9 hr=>?_);obtain⟨⟨AY,oY,hdY,rfl,hNY⟩,s6⟩:=hr;replace s6:=sB s6;have hmo:=Tq hdY;have i3:(moF (rs[k]).gr).length=oY.length:=by rw[hmo,kw]
  simp only[<- hmo]at hNY;have de:=u7 hNY;refine⟨_,rfl,?_⟩;refine qj (cs:=#[_]) [(0,.agg _)] rfl U69 gY Iy dE dE kR rfl (fun b45 w10 jm s7 hr=>?_);have:=a4.u.ob hr;have:=a2.u.ob hr;have:=a3.u.ob hr;have:=a1.u.ob hr;clear hr;replace hK:=hK.tr0 (s5.t (s6.t s7));have hf:=hK.1;replace de:=de.tr0 s7;have jp:=de.1;replace ho:=ho.tr0 (s6.t s7);refine vZ U69 in30 rfl dE ho jm rfl rfl rfl y5 dE oG oG a1.u.lt (fun fv ij w11 ja s8 hg=>?_);have gn:fv≠b2:=neA ho a4.u.lt hg
  have gm:fv≠b3:=neA ho a2.u.lt hg
  have gl:fv≠b4:=neA ho a3.u.lt hg
  have gi:fv≠b5:=neA ho a1.u.lt hg
  have gh:fv≠b8:=neB hb8.u.lt hg (fun g hg=>by have:=di g hg;omega)
  replace hB:=hB.u.tr s8 (fun g hg=>nLT (aD lo5) (ho.lt g hg).1);replace a4:=a4.tr0 (s5.t (s6.t s7));replace a4:=a4.ta s8 ho;replace a2:=a2.tr0 (s5.t (s6.t s7));replace a2:=a2.ta s8 ho;replace a3:=a3.tr0 (s5.t (s6.t s7));replace a3:=a3.ta s8 ho;replace a1:=a1.tr0 (s6.t s7);replace a1:=a1.ta s8 ho;replace hK:=hK.tr s8 (fun g hg=> .inl (am _ hg));replace de:=de.tr s8 (fun g hg=> .inl (hzo g hg));refine zn8 ?_
  have ig:=hK.snoc (S':=[b5,fv]) (c:=oY.length) (fun x hx=>by
    rcases aq.1 hx with h|h
    · exact .inl (by rw[h];exact au ..)
    · cases aj.1 h
      exact hg.imp (fun e=>by rw[e];exact am _ (aj.2 rfl)) (nLT hf)) de (fun x hx=>by
    rcases aq.1 hx with h|h
    · exact .inl (by rw[h];exact z5)
    · cases aj.1 h
      exact hg.elim (fun e=> .inl (hzo fv (by rw[e];exact aj.2 rfl))) (fun h=> .inr (nLT jp h)))
  rw[<- iw]at ig;refine xY (rs.length-(k+1)) oG agA ?_;exact⟨k+1,some ⟨fv,0,none⟩,ij,vs++[Value.slice AY (List.length (moF (rs[k]).gr)) oY.length],by omega,rfl,rfl,(by rw[List.length_append,i3];rfl),(by rw[List.length_append,hlv];rfl),hB,a4,a2,a3,a1,(by rw[List.length_append,i3];exact ja),ig⟩
 have ht:k=rs.length:=by omega
 subst ht;refine Hw ?_;refine qk (rgq [6,10] 51 10) (fun m g w'=>∃(k:Nat) (MA:Option Addr) (cap:Nat) (vs:List Value),k<=xs.length/\m=xs.length-k/\g 51= .int .i64 k/\g 6= .slice MA vs.length cap/\vs.length=rs.length+k/\Bel w w'/\Blk w' b2 32 #[.slice AT l.length ct,.slice AF fs.length cf,.slice AR rs.length cr,.slice AX xs.length cx,.slice AS st.length cst]/\Blk w' b3 76 #[.slice (some ⟨bu,0,none⟩) l.length l.length,.slice (some ⟨bd,0,none⟩) l.length l.length]/\Blk w' b4 41 cA/\Blk w' b5 41 #[.int .i64 ((rs.length:Nat):Int),.int .i64 ((xs.length:Nat):Int),.slice none 0 0,.slice none 0 0,.slice none 0 0,.slice none 0 0]/\Own w' (b5+1) 30 1 MA vs.length cap vs/\KG (b5::aL MA) w'.heap.size ((X1 rs xs).take (rs.length+k)) w' vs) (xs.length) ?_ (fun m g9 w12 hI=>?_)
 ·exact⟨0,MA,cap,vs,ad _,rfl,rfl,rfl,hlv,hB,a4,a2,a3,a1,ho,hK⟩
 obtain⟨k,MA,cap,vs,hk,hm,h51,h6,hlv,hB,a4,a2,a3,a1,ho,hK⟩:=hI;refine zZ 51 _ h51 nu (zZ 6 _ h6 nu (zn6 ?_));refine zK rfl (fun c52=>?_) (fun c52=>?_)
 ·have dc:k<xs.length:=by omega
  obtain⟨xb,xo,Gx,cgx,Sx,csx,Bx,cbx,hxe,hxb,_,hxr,hgx,_,_⟩:=hLx.at_ hB dc;have iw:=W7 (Tz (rs:=rs) dc);have de:=kept_old (fun w2 hk=>hgx.keep hk) hB;obtain⟨N,hK⟩:∃ N,KG (b5::aL MA) N _ _ vs:=⟨_,hK⟩
  refine zn6 ?_;refine wl (xW (i:=k) U27 IQ (show ev _ _ _=_ from I2 _ _ hxe) rfl oG rfl) (wl (qK U88 rfl rfl hxr IQ) ?_);refine yx (cs:=cG) R8 rfl (fun _=>rfl) (fun _=>rfl) IQ rfl y5 (fun b10 w14 ic s9 hr=>?_);have d6:=ho.ob hr;clear hr;refine zn5 ?_;refine wl (qK U30 rfl rfl (ic.sub (n:=1) (xs:=[_]) rfl) gY) ?_;refine qj (cs:=#[_]) [(0,.agg _)] rfl U69 gY Iy dE dE kR rfl (fun b58 w15 jl g1 hr=>?_);have:=a4.u.ob hr;have:=a2.u.ob hr;have:=a3.u.ob hr;have:=a1.u.ob hr;clear hr;replace hK:=hK.tr0 (s9.t g1);have hf:=hK.1;replace ho:=ho.tr0 (s9.t g1);refine vZ U69 in30 rfl dE ho jl rfl rfl rfl y5 dE oG oG a1.u.lt (fun fu ii w16 i1 g0 hg=>?_);have gg:fu≠b2:=neA ho a4.u.lt hg
  have gf:fu≠b3:=neA ho a2.u.lt hg
  have ge:fu≠b4:=neA ho a3.u.lt hg
  have g8:fu≠b5:=neA ho a1.u.lt hg
  have fa:fu≠b10:=neB ic.u.lt hg (fun g hg=>by have:=d6 g hg;omega)
  replace hB:=hB.u.tr g0 (fun g hg=>nLT (aD lo5) (ho.lt g hg).1);replace a4:=a4.tr0 (s9.t g1);replace a4:=a4.ta g0 ho;replace a2:=a2.tr0 (s9.t g1);replace a2:=a2.ta g0 ho;replace a3:=a3.tr0 (s9.t g1);replace a3:=a3.ta g0 ho;replace a1:=a1.tr0 (s9.t g1);replace a1:=a1.ta g0 ho;replace hK:=hK.tr g0 (fun g hg=> .inl (am _ hg));replace de:=de.tr0 (s9.t g1);replace de:=de.tr g0 (fun g hg=> .inr (nLT (aD lo5) (ho.lt g hg).1));refine zn8 ?_
  have ig:=hK.snoc (S':=[b5,fu]) (c:=cgx) (fun x hx=>by
    rcases aq.1 hx with h|h
    · exact .inl (by rw[h];exact au ..)
    · cases aj.1 h
      exact hg.imp (fun e=>by rw[e];exact am _ (aj.2 rfl)) (nLT hf)) de (fun x hx=>by
    rcases aq.1 hx with h|h
    · exact .inr (by rw[h];exact lo5)
    · cases aj.1 h
      exact .inr (nLT (aD lo5) (i1.lt fu (aj.2 rfl)).1))
  rw[<- iw]at ig;refine xY (xs.length-(k+1)) oG agA ?_;exact⟨k+1,some ⟨fu,0,none⟩,ii,vs++[Value.slice Gx (List.length (xs[k]).gr) cgx],by omega,rfl,rfl,(by rw[List.length_append];rfl),(by rw[List.length_append,hlv];rfl),hB,a4,a2,a3,a1,(by rw[List.length_append];exact i1),ig⟩
 have ht:k=xs.length:=by omega
 subst ht;rw[List.take_of_length_le (by rw[hml];exact Nat.le_refl _)]at hK;refine zn6 ?_;have hM:=kg_hv hK ho (ax _) oG;obtain⟨nB,hnB⟩:∃ z,z=w12.heap.size:=⟨_,rfl⟩
 rw[<- hnB]at hM;have h5B:b5<nB:=by rw[hnB];exact a1.lt
 have je:w.heap.size<=nB:=by omega
 refine Zx (wl (LY rfl) (Zv ?_));refine qk (rgq [13,14,15,16,18] 65 49) (fun m g w'=>∃(r ck ca nA:Nat) (KA AA:Option Addr) (vA:List Value),r<=rs.length/\m=rs.length-r/\g 65= .int .i64 r/\Bel w w'/\Blk w' b2 32 #[.slice AT l.length ct,.slice AF fs.length cf,.slice AR rs.length cr,.slice AX xs.length cx,.slice AS st.length cst]/\Blk w' b3 76 #[.slice (some ⟨bu,0,none⟩) l.length l.length,.slice (some ⟨bd,0,none⟩) l.length l.length]/\Blk w' b4 41 cA/\Blk w' b5 41 #[.int .i64 ((rs.length:Nat):Int),.int .i64 ((xs.length:Nat):Int),.slice KA r ck,.slice AA r ca,.slice none 0 0,.slice none 0 0]/\Own w' nB 3 1 KA r ck (((rs.take r).map (·.kids)).map (Value.int .i64))/\Own w' nB 96 3 AA r ca vA/\Hv nB (aL KA++aL AA) nA w' (fun w=>RowD (b3C l rs xs) 3 w ((List.range rs.length).take r) vA)/\Hv 0 [b5] nB w' (fun w=>GrsIn w MA (X1 rs xs))) (rs.length) ?_ (fun m g15 w17 hI=>?_)
 ·exact⟨0,0,0,_,none,none,[],ad _,rfl,rfl,hB,a4,a2,a3,a1,Own.nil _ _ _ _,Own.nil _ _ _ _,Hv.triv _ _ _ (fun w=> .nil),hM⟩
 obtain⟨r,ck,ca,nA,KA,AA,vA,hr,hmr,h65,hB,a4,a2,a3,a1,b6,a9,an,hM⟩:=hI;refine zZ 65 _ h65 nu (zn6 ?_);refine zK rfl (fun c66=>?_) (fun c66=>?_)
 ·have ep:r<rs.length:=by omega
  obtain⟨rb,ro,Gr,io,Sr,ka,Br,kb,i0,hrb,j3,im,_,_⟩:=hRu.at_ hB ep;obtain⟨hJ,jf,hk3⟩:=H.rl r ep;obtain⟨kn,hkn⟩:=aO jf;have k9:=hJ.v.gx.pos;have hAn:=an.le;have hBn:=hM.le;refine zn6 ?_;refine wl (xW (i:=r) U26 QQ (show ev _ _ _=_ from I2 _ _ i0) rfl oG rfl) (wl (qK U66 rfl rfl j3 QQ) ?_);refine qw (cs:=cF) Nx rfl (fun ip w18 a7 ek hr=>?_);have:=a4.ob hr;have:=a2.ob hr;have:=a3.ob hr;have:=a1.ob hr;have bh:=b6.ob hr;have bq:=a9.ob hr;have cj:=(nLT an.le hr)
  have da:=(nLT hM.le hr)
  have iv:=hB.ob hr;clear hr;refine zJ a7 (fun w19 hq ej=>?_);replace b6:=b6.tr0 ek;replace b6:=b6.tr1 ej (fun g hg=>by have:=bh g hg;omega);replace a9:=a9.tr0 ek;replace a9:=a9.tr1 ej (fun g hg=>by have:=bq g hg;omega);replace an:=an.tr0 ek;replace an:=an.tr ej (fun g hg=> .inr (.inr (by rw[List.mem_singleton.1 hg];exact cj)));replace hM:=hM.tr0 ek;replace hM:=hM.tr ej (fun g hg=> .inr (.inr (by rw[List.mem_singleton.1 hg];exact da)));replace a7:=hq;refine zn4 ?_;refine qw (cs:=#[.slice none 0 0,.slice none 0 0,.slice none 0 0]) ze96 rfl (fun e7 w20 a6 dx hr=>?_);have:=a4.u.ob hr;have:=a2.u.ob hr;have:=a3.u.ob hr;have:=a1.u.ob hr;have a8:=b6.ob hr;have b1:=a9.ob hr;have cg:=(nLT an.le hr)
  have d9:=(nLT hM.le hr)
  have:=a7.ob hr;have iu:=hB.u.ob hr;clear hr;refine zn6 ?_;replace a7:=a7.tr0 dx;refine wl (qW (v:= .int .i64 ((kn:Nat):Int)) U3 rfl rfl (by rw[<- hkn];exact a7.cell rfl)) (zn4 ?_);replace b6:=b6.tr0 dx;replace a9:=a9.tr0 dx;replace an:=an.tr0 dx;replace hM:=hM.tr0 dx;refine qk (rgq [15,16,18] 71 29) (fun m g w'=>∃(k nk:Nat) (V:Nat->Value),k<=kn/\m=kn-k/\g 71= .int .i64 k/\Bel w w'/\Blk w' b2 32 #[.slice AT l.length ct,.slice AF fs.length cf,.slice AR rs.length cr,.slice AX xs.length cx,.slice AS st.length cst]/\Blk w' b3 76 #[.slice (some ⟨bu,0,none⟩) l.length l.length,.slice (some ⟨bd,0,none⟩) l.length l.length]/\Blk w' b4 41 cA/\Blk w' b5 41 #[.int .i64 ((rs.length:Nat):Int),.int .i64 ((xs.length:Nat):Int),.slice KA r ck,.slice AA r ca,.slice none 0 0,.slice none 0 0]/\Blk w' ip 66 #[.string (rs[r]).name,.slice Gr (rs[r]).gr.length io,.int .i64 (rs[r]).kids,.int .i64 (rs[r]).wt,.int .i64 (rs[r]).mean.kind,.string (rs[r]).mean.name,.int .i64 (rs[r]).mean.index,.string (rs[r]).mean.type.base,.slice Sr (rs[r]).mean.type.args.length ka,.slice Br (rs[r]).mean.args.length kb]/\Blk w' e7 96 (row 3 V)/\(∀ j,k<=j->V j= .slice none 0 0)/\e7<nk/\Hv (e7+1) [] nk w' (fun w=>∀ j,j<k->∃ A c,V j= .slice A (jY l rs xs r j).length c/\BolsIn w A (jY l rs xs r j))/\Own w' nB 3 1 KA r ck (((rs.take r).map (·.kids)).map (Value.int .i64))/\Own w' nB 96 3 AA r ca vA/\Hv nB (aL KA++aL AA) nA w' (fun w=>RowD (b3C l rs xs) 3 w ((List.range rs.length).take r) vA)/\Hv 0 [b5] nB w' (fun w=>GrsIn w MA (X1 rs xs))) (kn) ?_ (fun m g19 w21 hI=>?_)
  ·replace hB:=((hB.tr0 ek).tr1 ej iv).tr0 dx;replace a4:=((a4.tr0 ek).tr1 ej oG).tr0 dx;replace a2:=((a2.tr0 ek).tr1 ej oG).tr0 dx;replace a3:=((a3.tr0 ek).tr1 ej oG).tr0 dx;replace a1:=((a1.tr0 ek).tr1 ej oG).tr0 dx;exact⟨0,_,fun _=> .slice none 0 0,ad _,rfl,rfl,hB,a4,a2,a3,a1,a7,(by rw[row3];exact a6),fun _ _=>rfl,a6.lt,Hv.triv _ _ _ (fun w j hj=>absurd hj (aw _)),b6,a9,an,hM⟩
  obtain⟨k,nk,V,hk,hmk,h71,hB,a4,a2,a3,a1,a7,a6,hV,hnk,hH,b6,a9,an,hM⟩:=hI;refine zZ 71 _ h71 nu (zn6 ?_);refine zK rfl (fun c72=>?_) (fun c72=>?_)
  ·have dc:k<kn:=by omega
   have hpa:=G3 hJ (f:=(k:Int)+1) oG oG;have hjp:=hJ.lt (f:=(k:Int)+1) oG oG;refine Zv ?_;refine wl (qK U30 rfl rfl (a7.sub (n:=1) (xs:=[_]) rfl) gY) (zn2 ?_);refine zX kR (YZ Gr io fs.length (rs[r]).gr 0 ((k:Int)+1) _ (im.mono hB) k9 (Yx hJ.v.lo 0 k9) (by have:=hJ.v.gok.few 0 k9;have:=hJ.v.few;omega)) rfl (fun e' w22 hr=>?_);obtain⟨rfl,d2⟩:=hr;replace d2:=sB d2;refine⟨_,rfl,?_⟩;refine wl (uJ (v:= .int .i64 (((plc (rs[r]).gr ((k:Int)+1)).toNat:Nat):Int)) (congrArg (Value.int .i64) hpa)) (jZ ?_);replace hH:=hH.tr0 d2;replace b6:=b6.tr0 d2;replace a9:=a9.tr0 d2;replace an:=an.tr0 d2;replace hM:=hM.tr0 d2;refine qk (rgq [18] 81 18) (fun m g w'=>∃(q cq:Nat) (RA:Option Addr),q<=vs.length/\m=vs.length-q/\g 81= .int .i64 q/\Bel w w'/\Blk w' b2 32 #[.slice AT l.length ct,.slice AF fs.length cf,.slice AR rs.length cr,.slice AX xs.length cx,.slice AS st.length cst]/\Blk w' b3 76 #[.slice (some ⟨bu,0,none⟩) l.length l.length,.slice (some ⟨bd,0,none⟩) l.length l.length]/\Blk w' b4 41 cA/\Blk w' b5 41 #[.int .i64 ((rs.length:Nat):Int),.int .i64 ((xs.length:Nat):Int),.slice KA r ck,.slice AA r ca,.slice none 0 0,.slice none 0 0]/\Blk w' ip 66 #[.string (rs[r]).name,.slice Gr (rs[r]).gr.length io,.int .i64 (rs[r]).kids,.int .i64 (rs[r]).wt,.int .i64 (rs[r]).mean.kind,.string (rs[r]).mean.name,.int .i64 (rs[r]).mean.index,.string (rs[r]).mean.type.base,.slice Sr (rs[r]).mean.type.args.length ka,.slice Br (rs[r]).mean.args.length kb]/\Blk w' e7 96 (row 3 (fun j=>if j=k then .slice RA q cq else V j))/\Own w' nk 4 1 RA q cq ((((X1 rs xs).take q).map (Iv l (rs[r]).gr (plc (rs[r]).gr ((k:Int)+1)).toNat)).map Value.bool)/\Hv (e7+1) [] nk w' (fun w=>∀ j,j<k->∃ A c,V j= .slice A (jY l rs xs r j).length c/\BolsIn w A (jY l rs xs r j))/\Own w' nB 3 1 KA r ck (((rs.take r).map (·.kids)).map (Value.int .i64))/\Own w' nB 96 3 AA r ca vA/\Hv nB (aL KA++aL AA) nA w' (fun w=>RowD (b3C l rs xs) 3 w ((List.range rs.length).take r) vA)/\Hv 0 [b5] nB w' (fun w=>GrsIn w MA (X1 rs xs))) (vs.length) ?_ (fun m g23 w23 hI=>?_)
   ·replace hB:=hB.tr0 d2;replace a4:=a4.tr0 d2;replace a2:=a2.tr0 d2;replace a3:=a3.tr0 d2;replace a1:=a1.tr0 d2;replace a7:=a7.tr0 d2;replace a6:=a6.tr0 d2;exact⟨0,0,none,ad _,rfl,rfl,hB,a4,a2,a3,a1,a7,(by rw[jX (g':=V) (fun j _=>by by_cases e:j=k<;>simp[e,hV k (Nat.le_refl _)])];exact a6),Own.nil _ _ _ _,hH,b6,a9,an,hM⟩
   obtain⟨q,cq,RA,hq,hmq,h81,hB,a4,a2,a3,a1,a7,a6,bn,hH,b6,a9,an,hM⟩:=hI;refine zZ 81 _ h81 nu (zn6 ?_);refine zK rfl (fun c82=>?_) (fun c82=>?_)
   ·have hql:q<vs.length:=by omega
    have gp:q<(X1 rs xs).length:=by omega
    obtain⟨gb,go,GM,gc,jd,jg,dp⟩:=hM.now.at_ (Below.refl _ _) gp;have hgv:=mos_gv H gp;obtain⟨wq,hw⟩:∃ z,z=w23:=⟨_,rfl⟩
    have eq:Bel wq w23:=by rw[hw];exact Below.refl _ _
    rw[<- hw]at dp;refine zn6 ?_;refine wl (xW (i:=q) U69 gY (show ev _ _ _=_ from I2 _ _ jd) rfl oG rfl) (wl (qK U30 rfl rfl jg gY) ?_);refine qw (cs:=#[.slice none 0 0]) Iy rfl (fun b18 w24 i7 cz hr=>?_);have:=a4.ob hr;have:=a2.ob hr;have:=a3.ob hr;have:=a1.ob hr;have:=a7.ob hr;have:=a6.ob hr;have c9:=bn.ob hr;have db:=(nLT hH.le hr)
    have cb:=b6.ob hr;have cc:=a9.ob hr;have ce:=(nLT an.le hr)
    have d8:=(nLT hM.le hr)
    have it:=hB.ob hr;have cn:=eq.ob hr;clear hr;refine zJ i7 (fun w25 hq cy=>?_);replace bn:=bn.tr0 cz;replace bn:=bn.tr1 cy (fun g hg=>by have:=c9 g hg;omega);replace hH:=hH.tr0 cz;replace hH:=hH.tr cy (fun g hg=> .inr (.inr (by rw[List.mem_singleton.1 hg];exact db)));replace b6:=b6.tr0 cz;replace b6:=b6.tr1 cy (fun g hg=>by have:=cb g hg;omega);replace a9:=a9.tr0 cz;replace a9:=a9.tr1 cy (fun g hg=>by have:=cc g hg;omega);replace an:=an.tr0 cz;replace an:=an.tr cy (fun g hg=> .inr (.inr (by rw[List.mem_singleton.1 hg];exact ce)));replace hM:=hM.tr0 cz;replace hM:=hM.tr cy (fun g hg=> .inr (.inr (by rw[List.mem_singleton.1 hg];exact d8)));replace i7:=hq;refine x6 (e_S ?_);refine Qy [] [11,13] [0,1,2,3,4,5,6,7,8,9,10,11,12,13] rfl (fun w26 cu=>?_);refine zn2 ?_;refine hl rfl (fun _=>JK (i:=k) U96 F0 rfl rfl oG rfl) ?_;replace a6:=((a6.tr0 cz).tr1 cy oG).tr0 cu;refine hl1 (v:= .slice RA q cq) rfl U38 rfl rfl (a6.cell (by rw[uz oG];simp)) (zn2 ?_);refine hlS rfl U30 rfl rfl (a7.u.sub (n:=1) (xs:=[_]) rfl) gY ?_;refine zn1 ?_;refine hlS rfl U30 rfl rfl (i7.tr0 cu).range0 gY ?_;refine h1 rfl ?_;replace hB:=((hB.tr0 cz).tr1 cy it).tr0 cu;replace a2:=((a2.tr0 cz).tr1 cy oG).tr0 cu;replace eq:=((eq.tr0 cz).tr1 cy cn).tr0 cu;refine xw rfl kR (H2 (nt:=l.length) (nf:=fs.length) _ (ie.mono hB) (hTI.mono hB) hS a2 (im.mono hB) (dp.mono eq) hJ.v.gok hgv.gok hJ.v.gx hgv.gx (by have:=hJ.v.few;omega) hjp) rfl rfl (fun e' w27 hr=>?_);obtain⟨rfl,c7⟩:=hr;replace c7:=sB c7;have iy:=c7;refine⟨_,rfl,?_⟩;refine x6 (Y1 iy (h1 rfl ?_));refine qj (cs:=#[_]) [(0,.bool _)] rfl U38 yY ze4 dE dE kR rfl (fun b95 w28 ji cp hr=>?_);have:=a4.u.ob hr;have:=a2.u.ob hr;have:=a3.u.ob hr;have:=a1.u.ob hr;have:=a7.u.ob hr;have:=a6.u.ob hr;replace bn:=bn.tr0 (cu.t c7);have g2:=bn.ob hr;replace hH:=hH.tr0 (cu.t c7);have hn:=(nLT hH.le hr)
    replace b6:=b6.tr0 (cu.t c7);have g3:=b6.ob hr;replace a9:=a9.tr0 (cu.t c7);have g5:=a9.ob hr;replace an:=an.tr0 (cu.t c7);have g7:=(nLT an.le hr)
    replace hM:=hM.tr0 (cu.t c7);have hh:=(nLT hM.le hr)
    have fp:=cp;clear hr;refine x6 (Y1 fp (h1 rfl ?_));replace bn:=bn.tr0 cp;replace hH:=hH.tr0 cp;refine vZ U38 MY rfl dE bn ji rfl rfl rfl y5 dE oG oG hH.le (fun g96 fy w29 gs bx hg96=>?_);replace hB:=hB.tr0 (c7.t cp);replace hB:=hB.tr bx (fun g hg=>nLT oG (bn.lt g hg).1);replace a4:=((a4.tr0 cz).tr1 cy oG).tr0 (cu.t (c7.t cp));replace a4:=a4.ta bx bn;replace a2:=a2.tr0 (c7.t cp);replace a2:=a2.ta bx bn;replace a3:=((a3.tr0 cz).tr1 cy oG).tr0 (cu.t (c7.t cp));replace a3:=a3.ta bx bn;replace a1:=((a1.tr0 cz).tr1 cy oG).tr0 (cu.t (c7.t cp));replace a1:=a1.ta bx bn;replace a7:=((a7.tr0 cz).tr1 cy oG).tr0 (cu.t (c7.t cp));replace a7:=a7.ta bx bn;replace a6:=a6.tr0 (c7.t cp);replace a6:=a6.ta bx bn;replace hH:=hH.tr bx (fun g hg=> .inr (.inr (bn.lt g hg).1));replace b6:=b6.tr0 cp;replace b6:=b6.tr bx (fun g hg hx=>by have:=(bn.lt _ hx).1;(try have:=a8 g hg);omega);replace a9:=a9.tr0 cp;replace a9:=a9.tr bx (fun g hg hx=>by have:=(bn.lt _ hx).1;(try have:=b1 g hg);omega);replace an:=an.tr0 cp;replace an:=an.tr bx (fun g hg=> .inr (.inr (nLT oG (bn.lt g hg).1)));replace hM:=hM.tr0 cp;replace hM:=hM.tr bx (fun g hg=> .inr (.inr (nLT oG (bn.lt g hg).1)));refine x6 (CQ [13] (hl rfl (fun _=>JK (i:=k) U96 F0 rfl rfl oG rfl) (h1 rfl ?_)));refine xj (v:= .slice _ _ _) a6 rfl rfl F0 (by rw[row_size];omega) rfl Q1 (fun w30 hq d5=>?_);have hsH13:=d5;replace hH:=hH.lo1 d5 (ax _);replace b6:=b6.tr1 d5 (fun g hg=>by have:=a8 g hg;omega);replace a9:=a9.tr1 d5 (fun g hg=>by have:=b1 g hg;omega);replace an:=an.tr d5 (fun g hg=> .inr (.inr (by rw[List.mem_singleton.1 hg];exact cg)))
    replace hM:=hM.tr d5 (fun g hg=> .inr (.inr (by rw[List.mem_singleton.1 hg];exact d9)));replace gs:=gs.tq d5;replace a6:=hq;refine x6 (CQ [] (zn7 ?_));refine xY (vs.length-(q+1)) oG agA ?_;replace hB:=hB.tr1 d5 iu;replace a4:=a4.tr1 d5 oG;replace a2:=a2.tr1 d5 oG;replace a3:=a3.tr1 d5 oG;replace a1:=a1.tr1 d5 oG;replace a7:=a7.tr1 d5 oG;exact⟨q+1,fy,some ⟨g96,0,none⟩,by omega,rfl,rfl,hB,a4,a2,a3,a1,a7,(by rw[jX (g':=fun j=>if j=k then .slice (some ⟨g96,0,none⟩) (q+1) fy else if j=k then .slice RA q cq else V j) (fun j _=>by by_cases e:j=k<;>simp[e])];exact a6),(by rw[List.take_succ_eq_append_getElem gp,List.map_append,List.map_append];exact gs),hH,b6,a9,an,hM⟩
   have j4:q=vs.length:=by omega
   subst j4;refine zn6 ?_;rw[List.take_of_length_le oG,<- R2 (xs:=xs) ep oG]at bn;have hal:(jY l rs xs r k).length=vs.length:=by rw[R2 ep oG,List.length_map];omega
   have hRk:=BV (lo:=e7+1) (xs:=jY l rs xs r k) (cap:=cq) (A:=RA) (by rw[hal];exact bn) hnk
   have hH2:=(hH.and hRk).imp (Q:=fun w=>∀ j,j<k+1->∃ A c,(if j=k then Value.slice RA vs.length cq else V j)= .slice A (jY l rs xs r j).length c/\BolsIn w A (jY l rs xs r j)) (fun w2 h j hj=>by
     by_cases e:j=k
     · subst e;exact⟨RA,cq,by rw[if_pos rfl,hal],h.2⟩
     · rw[if_neg e];exact h.1 j oG)
   refine zn4 ?_;refine xY (kn-(k+1)) oG agA ?_;exact⟨k+1,_,fun j=>if j=k then .slice RA vs.length cq else V j,by omega,rfl,rfl,hB,a4,a2,a3,a1,a7,a6,(fun j hj=>(if_neg oG).trans (hV j oG)),a6.lt,hH2,b6,a9,an,hM⟩
  have ht:k=kn:=by omega
  subst ht;refine gX ?_;refine qj (cs:=#[_]) [(0,.int _ _)] rfl U36 x8 zW dE dE kR rfl (fun b104 w31 ib dh hr=>?_);have:=a4.ob hr;have:=a2.ob hr;have:=a3.ob hr;have:=a1.ob hr;have:=a7.ob hr;have:=a6.ob hr;clear hr;replace an:=an.tr0 dh;have hAn2:=an.le;replace hH:=hH.tr0 dh;have hHn2:=hH.le;replace b6:=b6.tr0 dh;replace hM:=hM.tr0 dh;refine vZ U36 in3 rfl dE b6 ib rfl rfl rfl y5 dE oG oG hM.le (fun bi co w32 bc dg hg=>?_);replace a9:=a9.tr0 dh;have fn:bi≠b2:=neA b6 a4.u.lt hg
  have fm:bi≠b3:=neA b6 a2.u.lt hg
  have fl:bi≠b4:=neA b6 a3.u.lt hg
  have bm:bi≠b5:=neA b6 a1.u.lt hg
  have eo:bi≠ip:=neB a7.u.lt hg (fun g hg=>by have:=bh g hg;omega)
  have en:bi≠e7:=neB a6.u.lt hg (fun g hg=>by have:=a8 g hg;omega)
  replace hB:=hB.u.tr dg (fun g hg=>nLT je (b6.lt g hg).1);replace a4:=a4.tr0 dh;replace a4:=a4.ta dg b6;replace a2:=a2.tr0 dh;replace a2:=a2.ta dg b6;replace a3:=a3.tr0 dh;replace a3:=a3.ta dg b6;replace a1:=a1.tr0 dh;replace a1:=a1.ta dg b6;replace a7:=a7.tr0 dh;replace a7:=a7.tb dg (fun g hg=>by have:=bh g hg;omega);replace a6:=a6.tr0 dh;replace a6:=a6.tb dg (fun g hg=>by have:=a8 g hg;omega);replace hH:=hH.tr dg (fun g hg=> .inl (by have:=a8 g hg;omega));replace a9:=a9.tr dg (fun g hg hx=>(E6 a9 b6 dE) g hg hx);replace an:=an.tr dg (fun g hg=> .inr (.inl (aR _ hg)));replace hM:=hM.tr dg (fun g hg=> .inr (.inr (b6.lt g hg).1));refine zn1 ?_;refine xj (v:= .slice _ _ _) a1 rfl rfl J3 (by first|decide|simp) rfl rfl (fun w33 hq ei=>?_);replace hH:=hH.lo1 ei oG;replace a9:=a9.tq ei;replace an:=an.lo1 ei h5B;replace hM:=hM.in1 ei (by simp);replace bc:=bc.tr1 ei (neS bm);replace a1:=hq;replace a1:Blk w33 b5 41 #[.int .i64 ((rs.length:Nat):Int),.int .i64 ((xs.length:Nat):Int),.slice (some ⟨bi,0,none⟩) (r+1) co,.slice AA r ca,.slice none 0 0,.slice none 0 0]:=a1;have zo105:=(bc.lt bi (aj.2 rfl)).2;have ft:=hg;refine x6 (e_S ?_);replace a6:=a6.tr1 ei oG;rw[row3]at a6;have jr:∀ j,j<3->(V j).oneCell'=true:=fun j hj=>by
    by_cases e:j<k
    · obtain⟨A,c,h1,_⟩:=hH.now j e
      rw[h1];rfl
    · rw[hV j oG];rfl
  have hV1:[V 0,V 1,V 2].all (·.oneCell')=true:=by simp[jr 0 oG,jr 1 oG,jr 2 oG]
  refine zn4 ?_;refine qj (cs:=#[_,_,_]) [(0,.agg _)] rfl U37 sz96 ze96 dE dE kR rfl (fun b110 w34 ia eh hr=>?_);have:=a4.u.ob hr;have:=a2.u.ob hr;have:=a3.u.ob hr;have:=a1.ob hr;have:=a6.ob hr;have dy:=bc.ob hr;clear hr;replace an:=an.tr0 eh;have hAn3:=an.le;replace hH:=hH.tr0 eh;have hHn3:=hH.le;replace a9:=a9.tr0 eh;replace hM:=hM.tr0 eh;refine vZ U37 in96 rfl dE a9 ia rfl rfl rfl hV1 dE oG oG hM.le (fun bk dw w35 dn eg hg=>?_);have fk:bk≠b2:=neA a9 a4.u.lt hg
  have fj:bk≠b3:=neA a9 a2.u.lt hg
  have fi:bk≠b4:=neA a9 a3.u.lt hg
  have c6:bk≠b5:=neA a9 a1.u.lt hg
  have em:bk≠ip:=neB a7.u.lt hg (fun g hg=>by have:=bq g hg;omega)
  have el:bk≠e7:=neB a6.u.lt hg (fun g hg=>by have:=b1 g hg;omega)
  replace hB:=hB.u.tr eg (fun g hg=>nLT je (a9.lt g hg).1);replace a4:=(a4.tr1 ei oG).tr0 eh;replace a4:=a4.ta eg a9;replace a2:=(a2.tr1 ei oG).tr0 eh;replace a2:=a2.ta eg a9;replace a3:=(a3.tr1 ei oG).tr0 eh;replace a3:=a3.ta eg a9;replace a1:=a1.tr0 eh;replace a1:=a1.ta eg a9;replace hH:=hH.tr eg (fun g hg=> .inl (by have:=b1 g hg;omega));replace an:=an.tr eg (fun g hg=> .inr (.inl (List.mem_append_right _ hg)));replace hM:=hM.tr eg (fun g hg=> .inr (.inr (a9.lt g hg).1));replace bc:=bc.tr0 eh;replace bc:=bc.tr eg (fun g hg hx=>(E6 bc a9 dE) g hg hx);refine zn1 ?_;refine xj (v:= .slice _ _ _) a1 rfl rfl sz37 (by first|decide|simp) rfl rfl (fun w36 hq ef=>?_);replace hH:=hH.lo1 ef oG;replace an:=an.lo1 ef h5B;replace hM:=hM.in1 ef (by simp);replace bc:=bc.tr1 ef (neS bm);replace dn:=dn.tr1 ef (neS c6);replace a1:=hq;replace a1:Blk w36 b5 41 #[.int .i64 ((rs.length:Nat):Int),.int .i64 ((xs.length:Nat):Int),.slice (some ⟨bi,0,none⟩) (r+1) co,.slice (some ⟨bk,0,none⟩) (r+1) dw,.slice none 0 0,.slice none 0 0]:=a1;have jh:(List.range rs.length)[r]'(by rw[List.length_range];exact ep)=r:=Mv _
  have jt:=RowD.app (Y:=aL (some (⟨bi,0,none⟩:Addr))++aL (some (⟨bk,0,none⟩:Addr))) (v:=[V 0,V 1,V 2]) (by rw[List.length_range];exact ep) jh an rfl (hH.imp (fun w2 h=>(⟨V,rfl,fun j hj=>by
    by_cases e:j<k
    · exact h j e
    · refine⟨none,0,?_,?_⟩
      · rw[hV j oG,adm_no ep oG];rfl
      · rw[adm_no ep oG];exact bols_nil _⟩:b3C l rs xs w2 r [V 0,V 1,V 2]))) oG (fun y hy=>by
    rcases ay.1 hy with h|h
    · cases aj.1 h
      rcases ft with h2|h2
      · exact .inl (aR _ (by rw[h2];exact aj.2 rfl))
      · exact .inr (show nA<=bi by omega)
    · cases aj.1 h
      rcases hg with h2|h2
      · exact .inl (List.mem_append_right _ (by rw[h2];exact aj.2 rfl))
      · exact .inr (show nA<=bk by omega)) (fun y hy=>by
    rcases ay.1 hy with h|h
    · cases aj.1 h
      rcases ft with h2|h2
      · exact .inl (show bi<e7+1 by have:=a8 bi (by rw[h2];exact aj.2 rfl);omega)
      · exact .inr (show nk<=bi by omega)
    · cases aj.1 h
      rcases hg with h2|h2
      · exact .inl (show bk<e7+1 by have:=b1 bk (by rw[h2];exact aj.2 rfl);omega)
      · exact .inr (show nk<=bk by omega))
  refine zn7 ?_;refine xY (rs.length-(r+1)) oG agA ?_;replace hB:=hB.tr1 ef lo5;replace a4:=a4.tr1 ef oG;replace a2:=a2.tr1 ef oG;replace a3:=a3.tr1 ef oG;exact⟨r+1,co,dw,_,some ⟨bi,0,none⟩,some ⟨bk,0,none⟩,_,by omega,rfl,rfl,hB,a4,a2,a3,a1,(by rw[List.take_succ_eq_append_getElem ep,List.map_append,List.map_append];exact bc),dn,jt,hM⟩
 have i0:r=rs.length:=by omega
 subst i0;refine zn7 ?_;rw[List.take_length]at b6;rw[List.take_of_length_le (by rw[List.length_range];exact Nat.le_refl _)]at an;obtain⟨VA,CA,hAd⟩:=adm_conv a9 an;have c0:=(own_intsH (lo:=nB) b6 (ae _)).and hAd;obtain⟨n1,hn1⟩:∃ z,z=w17.heap.size:=⟨_,rfl⟩
 rw[<- hn1]at c0;have i2:nB<=n1:=by rw[hn1];exact hM.le
 refine zn7 ?_;refine qk (rgq [20] 116 15) (fun m g w'=>∃(q cs:Nat) (SA:Option Addr),q<=vs.length/\m=vs.length-q/\g 116= .int .i64 q/\Bel w w'/\Blk w' b2 32 #[.slice AT l.length ct,.slice AF fs.length cf,.slice AR rs.length cr,.slice AX xs.length cx,.slice AS st.length cst]/\Blk w' b3 76 #[.slice (some ⟨bu,0,none⟩) l.length l.length,.slice (some ⟨bd,0,none⟩) l.length l.length]/\Blk w' b4 41 cA/\Blk w' b5 41 #[.int .i64 ((rs.length:Nat):Int),.int .i64 ((xs.length:Nat):Int),.slice KA rs.length ck,.slice AA rs.length ca,.slice SA q cs,.slice none 0 0]/\Own w' n1 4 1 SA q cs ((((X1 rs xs).take q).map (Iv l st 0)).map Value.bool)/\Hv nB [] n1 w' (fun w=>IntsIn w KA (rs.map (·.kids))/\AdmE l rs xs w AA VA CA)/\Hv 0 [b5] nB w' (fun w=>GrsIn w MA (X1 rs xs))) (vs.length) ?_ (fun m g32 iq hI=>?_)
 ·exact⟨0,0,none,ad _,rfl,rfl,hB,a4,a2,a3,a1,Own.nil _ _ _ _,c0,hM⟩
 obtain⟨q,cs,SA,hq,hmq,k8,hB,a4,a2,a3,a1,bz,c0,hM⟩:=hI;refine zZ 116 _ k8 nu (zn6 ?_);refine zK rfl (fun kh=>?_) (fun kh=>?_)
 ·have hql:q<vs.length:=by omega
  have gp:q<(X1 rs xs).length:=by omega
  obtain⟨gb,go,GM,gc,jd,jg,dp⟩:=hM.now.at_ (Below.refl _ _) gp;have hgv:=mos_gv H gp;obtain⟨wq,hw⟩:∃ z,z=iq:=⟨_,rfl⟩
  have eq:Bel wq iq:=by rw[hw];exact Below.refl _ _
  rw[<- hw]at dp;refine zn6 ?_;refine wl (xW (i:=q) U69 gY (show ev _ _ _=_ from I2 _ _ jd) rfl oG rfl) (wl (qK U30 rfl rfl jg gY) ?_);refine qw (cs:=#[.slice none 0 0]) Iy rfl (fun b20 w38 i4 ee hr=>?_);have:=a4.ob hr;have:=a2.ob hr;have:=a3.ob hr;have:=a1.ob hr;have c8:=bz.ob hr;have cd:=(nLT c0.le hr)
  have d7:=(nLT hM.le hr)
  have ir:=hB.ob hr;have cm:=eq.ob hr;clear hr;refine zJ i4 (fun w39 hq ed=>?_);replace bz:=bz.tr0 ee;replace bz:=bz.tr1 ed (fun g hg=>by have:=c8 g hg;omega);replace c0:=c0.tr0 ee;replace c0:=c0.tr ed (fun g hg=> .inr (.inr (by rw[List.mem_singleton.1 hg];exact cd)));replace hM:=hM.tr0 ee;replace hM:=hM.tr ed (fun g hg=> .inr (.inr (by rw[List.mem_singleton.1 hg];exact d7)));replace i4:=hq;refine x6 (e_S ?_);refine Qy [] [8,10] [0,1,2,3,4,5,6,7,8,9,10] rfl (fun w40 ec=>?_);refine zn1 ?_;refine hl1 (v:= .slice _ _ _) rfl U38 rfl rfl ((((a1.tr0 ee).tr1 ed oG).tr0 ec).cell rfl) ?_;refine zn2 ?_;refine hlS rfl U30 rfl rfl (a4.u.sub (n:=1) (xs:=[_]) rfl) gY ?_;refine hlS rfl U30 rfl rfl (i4.tr0 ec).range0 gY ?_;refine h1 rfl ?_;replace hB:=((hB.tr0 ee).tr1 ed ir).tr0 ec;replace a2:=((a2.tr0 ee).tr1 ed oG).tr0 ec;replace eq:=((eq.tr0 ee).tr1 ed cm).tr0 ec;refine xw rfl kR (H2 (nt:=l.length) (nf:=fs.length) (j:=0) _ (ie.mono hB) (hTI.mono hB) hS a2 (hG.mono hB) (dp.mono eq) hst.gok hgv.gok hst.gx hgv.gx (by have:=hst.few;omega) hst.gx.pos) rfl rfl (fun e' w41 hr=>?_);obtain⟨rfl,df⟩:=hr;replace df:=sB df;have j2:=df;refine⟨_,rfl,?_⟩;refine x6 (Y1 j2 (h1 rfl ?_));refine qj (cs:=#[_]) [(0,.bool _)] rfl U38 yY ze4 dE dE kR rfl (fun b127 w42 i9 eb hr=>?_);have:=a4.u.ob hr;have:=a2.u.ob hr;have:=a3.u.ob hr;have:=a1.u.ob hr;replace bz:=bz.tr0 (ec.t df);have ez:=bz.ob hr;replace c0:=c0.tr0 (ec.t df);have f6:=(nLT c0.le hr)
  replace hM:=hM.tr0 (ec.t df);have g6:=(nLT hM.le hr)
  have iz:=eb;clear hr;refine x6 (Y1 iz (h1 rfl ?_));replace bz:=bz.tr0 eb;replace c0:=c0.tr0 eb;refine vZ U38 MY rfl dE bz i9 rfl rfl rfl y5 dE oG oG c0.le (fun ih dv w43 dm bx hg128=>?_);replace hB:=hB.tr0 (df.t eb);replace hB:=hB.tr bx (fun g hg=>nLT oG (bz.lt g hg).1);replace a4:=((a4.tr0 ee).tr1 ed oG).tr0 (ec.t (df.t eb));replace a4:=a4.ta bx bz;replace a2:=a2.tr0 (df.t eb);replace a2:=a2.ta bx bz;replace a3:=((a3.tr0 ee).tr1 ed oG).tr0 (ec.t (df.t eb));replace a3:=a3.ta bx bz;replace a1:=((a1.tr0 ee).tr1 ed oG).tr0 (ec.t (df.t eb));replace a1:=a1.ta bx bz;replace c0:=c0.tr bx (fun g hg=> .inr (.inr (bz.lt g hg).1));replace hM:=hM.tr0 eb;replace hM:=hM.tr bx (fun g hg=> .inr (.inr (nLT i2 (bz.lt g hg).1)));refine x6 (CQ [10] (zn1 ?_));refine h1 rfl ?_;refine xj (v:= .slice _ _ _) a1 rfl rfl F0 (by first|decide|simp) rfl rfl (fun w44 hq ew=>?_);have fp:=ew;replace c0:=c0.lo1 ew oG;replace hM:=hM.in1 ew (by simp);replace dm:=dm.tq ew;replace a1:=hq;replace a1:Blk w44 b5 41 #[.int .i64 ((rs.length:Nat):Int),.int .i64 ((xs.length:Nat):Int),.slice KA rs.length ck,.slice AA rs.length ca,.slice (some ⟨ih,0,none⟩) (q+1) dv,.slice none 0 0]:=a1;refine x6 (CQ [] (zn7 ?_));refine xY (vs.length-(q+1)) oG agA ?_;replace hB:=hB.tr1 ew lo5;replace a4:=a4.tr1 ew oG;replace a2:=a2.tr1 ew oG;replace a3:=a3.tr1 ew oG;exact⟨q+1,dv,some ⟨ih,0,none⟩,by omega,rfl,rfl,hB,a4,a2,a3,a1,(by rw[List.take_succ_eq_append_getElem gp,List.map_append,List.map_append];exact dm),c0,hM⟩
 have j4:q=vs.length:=by omega
 subst j4;refine zn7 ?_;rw[List.take_of_length_le oG]at bz;have hsl:(NK l rs xs st).length=vs.length:=by unfold NK;rw[List.length_map];omega
 have ba:=c0.and (BV (lo:=nB) (xs:=NK l rs xs st) (cap:=cs) (A:=SA) (by rw[hsl];exact bz) i2);obtain⟨n2,hn2⟩:∃ z,z=iq.heap.size:=⟨_,rfl⟩
 rw[<- hn2]at ba;have jb:nB<=n2:=by rw[hn2];exact hM.le
 refine zn8 ?_;refine qk (rgq (rgq [] 21 6) 134 61) (fun m g w'=>∃(i cv nF:Nat) (FA:Option Addr) (vF:List Value),i<=rs.length/\m=rs.length-i/\g 134= .int .i64 i/\Bel w w'/\Blk w' b2 32 #[.slice AT l.length ct,.slice AF fs.length cf,.slice AR rs.length cr,.slice AX xs.length cx,.slice AS st.length cst]/\Blk w' b3 76 #[.slice (some ⟨bu,0,none⟩) l.length l.length,.slice (some ⟨bd,0,none⟩) l.length l.length]/\Blk w' b4 41 cA/\Blk w' b5 41 #[.int .i64 ((rs.length:Nat):Int),.int .i64 ((xs.length:Nat):Int),.slice KA rs.length ck,.slice AA rs.length ca,.slice SA vs.length cs,.slice FA i cv]/\Own w' n2 38 1 FA i cv vF/\Hv n2 (aL FA) nF w' (fun w=>RowD (bvC l rs xs) 1 w ((List.range rs.length).take i) vF)/\Hv nB [] n2 w' (fun w=>(IntsIn w KA (rs.map (·.kids))/\AdmE l rs xs w AA VA CA)/\BolsIn w SA (NK l rs xs st))) (rs.length) ?_ (fun m g37 w45 hI=>?_)
 ·exact⟨0,0,_,none,[],ad _,rfl,rfl,hB,a4,a2,a3,a1,Own.nil _ _ _ _,Hv.triv _ _ _ (fun w=> .nil),ba⟩
 obtain⟨i,cv,nF,FA,vF,hi,hmi,k7,hB,a4,a2,a3,a1,b9,be,ba⟩:=hI;refine zZ 134 _ k7 nu (zn6 ?_);refine zK rfl (fun kg=>?_) (fun kg=>?_)
 ·have il:i<rs.length:=by omega
  have hFn:=be.le;refine VQ ?_;refine P6 (m:=vs.length) U38 MY rfl rfl rfl oG oG (fun bw w46 a5 eu hr=>?_);have:=a4.ob hr;have:=a2.ob hr;have:=a3.ob hr;have:=a1.ob hr;have b7:=b9.ob hr;have c4:=(nLT be.le hr)
  have c3:=(nLT ba.le hr)
  have fo:=hB.ob hr;clear hr;refine zn7 ?_;refine qj (cs:=#[_]) [(0,.int _ _)] rfl U36 x8 zW dE dE kR rfl (fun ki w47 i8 ea hr=>?_);have c1:bw<ki:=a5.ob hr;clear hr;refine zn4 ?_;replace b9:=b9.tr0 (eu.t ea);replace be:=be.tr0 (eu.t ea);replace ba:=ba.tr0 (eu.t ea);refine qk (rgq [23,24,25,26] 142 46) (fun m g w'=>∃(bj:List Int) (WA:Option Addr) (cw:Nat) (sn:Nat->Bool),m=2*jy vs.length sn+bj.length/\2*jy vs.length sn+bj.length<=400/\g 23= .slice WA bj.length cw/\Bel w w'/\Blk w' b2 32 #[.slice AT l.length ct,.slice AF fs.length cf,.slice AR rs.length cr,.slice AX xs.length cx,.slice AS st.length cst]/\Blk w' b3 76 #[.slice (some ⟨bu,0,none⟩) l.length l.length,.slice (some ⟨bd,0,none⟩) l.length l.length]/\Blk w' b4 41 cA/\Blk w' b5 41 #[.int .i64 ((rs.length:Nat):Int),.int .i64 ((xs.length:Nat):Int),.slice KA rs.length ck,.slice AA rs.length ca,.slice SA vs.length cs,.slice FA i cv]/\Blk w' bw 4 (row vs.length (fun x=> .bool (sn x)))/\Own w' (bw+1) 3 1 WA bj.length cw (bj.map (Value.int .i64))/\FsS l rs xs i sn bj rs.length 0/\Own w' n2 38 1 FA i cv vF/\Hv n2 (aL FA) nF w' (fun w=>RowD (bvC l rs xs) 1 w ((List.range rs.length).take i) vF)/\Hv nB [] n2 w' (fun w=>(IntsIn w KA (rs.map (·.kids))/\AdmE l rs xs w AA VA CA)/\BolsIn w SA (NK l rs xs st))) (2*jy vs.length (fun _=>false)+1) ?_ (fun m g41 w48 hI=>?_)
  ·replace hB:=hB.tr0 (eu.t ea);replace a4:=a4.tr0 (eu.t ea);replace a2:=a2.tr0 (eu.t ea);replace a3:=a3.tr0 (eu.t ea);replace a1:=a1.tr0 (eu.t ea);replace a5:=a5.tr0 ea;exact⟨[(i:Int)],_,_,fun _=>false,rfl,by have:=OW vs.length (fun _=>false);simp only[List.length_cons,List.length_nil];omega,rfl,hB,a4,a2,a3,a1,a5,MX (m:=1) i8 c1 rfl dE,FsS.start il,b9,be,ba⟩
  obtain⟨bj,WA,cw,sn,hmw,hbd,k5,hB,a4,a2,a3,a1,a5,bf,hfs,b9,be,ba⟩:=hI;refine zZ 23 _ k5 nu (zn8 ?_);refine zK rfl (fun kf=>?_) (fun kf=>?_)
  ·obtain⟨d3,z,rfl⟩:=snoc_of (show 0<bj.length by omega);obtain⟨n,rfl,fq,hf1⟩:=hfs.pop;have gu:(d3++[(n:Int)]).length=d3.length+1:=by simp
   obtain⟨q,rfl,hqb,hql,hqc⟩:=bf.cell (by simp);have hz:w48.cell? ⟨q,0+d3.length*1,none⟩=some (.int .i64 (n:Int)):=by
     have:=hqc d3.length (.int .i64 (n:Int)) (by simp)
     simpa using this
   refine zn8 ?_;refine wl (Xj (c:=(d3.length:Int)) rfl rfl (by rw[gu];omega) oG) (wl (xW (i:=d3.length) U36 x8 rfl rfl (by rw[gu];omega) rfl) (wl (qW (v:= .int _ _) U3 rfl rfl hz) (zn8 ?_)));refine wl (Xj (c:=(d3.length:Int)) rfl rfl (by rw[gu];omega) oG) (wl (FX (h:=d3.length) U36 x8 rfl rfl (by have:=bf.cap_le;omega)) (zn4 ?_));replace bf:Own w48 (bw+1) 3 1 (some ⟨q,0,none⟩) d3.length cw (d3.map (Value.int .i64)):=by
     have h:=bf.take (k':=d3.length) oG oG
     simpa using h
   obtain⟨ab,ao,hAe,hab,hac⟩:=ba.now.1.2 n fq;have jo:=(hac 0 oG).1;have hLE:=adm_le l rs xs n 0;refine zn4 ?_;refine wl (xW (i:=n) U37 sz96 (show ev _ _ _=_ from I2 _ _ hAe) rfl oG rfl) (wl (JK (i:=0) U96 F0 rfl rfl oG rfl) (wl (qW (v:= .slice (VA n 0) (jY l rs xs n 0).length (CA n 0)) U38 rfl rfl jo) (zn5 ?_)));refine qk (rgq [23,25,26] 163 25) (fun m g w'=>∃(k:Nat) (bj:List Int) (WA:Option Addr) (cw:Nat) (br:Nat->Bool),k<=(jY l rs xs n 0).length/\m=(jY l rs xs n 0).length-k/\g 163= .int .i64 k/\g 23= .slice WA bj.length cw/\2*jy vs.length br+bj.length<=2*jy vs.length sn+d3.length/\Bel w w'/\Blk w' b2 32 #[.slice AT l.length ct,.slice AF fs.length cf,.slice AR rs.length cr,.slice AX xs.length cx,.slice AS st.length cst]/\Blk w' b3 76 #[.slice (some ⟨bu,0,none⟩) l.length l.length,.slice (some ⟨bd,0,none⟩) l.length l.length]/\Blk w' b4 41 cA/\Blk w' b5 41 #[.int .i64 ((rs.length:Nat):Int),.int .i64 ((xs.length:Nat):Int),.slice KA rs.length ck,.slice AA rs.length ca,.slice SA vs.length cs,.slice FA i cv]/\Blk w' bw 4 (row vs.length (fun x=> .bool (br x)))/\Own w' (bw+1) 3 1 WA bj.length cw (bj.map (Value.int .i64))/\FsS l rs xs i br bj n k/\Own w' n2 38 1 FA i cv vF/\Hv n2 (aL FA) nF w' (fun w=>RowD (bvC l rs xs) 1 w ((List.range rs.length).take i) vF)/\Hv nB [] n2 w' (fun w=>(IntsIn w KA (rs.map (·.kids))/\AdmE l rs xs w AA VA CA)/\BolsIn w SA (NK l rs xs st))) ((jY l rs xs n 0).length) ?_ (fun m g45 w49 hI=>?_)
   ·exact⟨0,d3,_,_,sn,ad _,rfl,rfl,rfl,ae _,hB,a4,a2,a3,a1,a5,bf,hf1,b9,be,ba⟩
   obtain⟨k,bj,WA,cw,br,hk,hmk,k6,k5,jc,hB,a4,a2,a3,a1,a5,bf,bt,b9,be,ba⟩:=hI;refine zZ 163 _ k6 nu (zZ 23 _ k5 nu (zn6 ?_));refine zK rfl (fun ke=>?_) (fun ke=>?_)
   ·have dc:k<(jY l rs xs n 0).length:=by omega
    have hp:k<vs.length:=by omega
    obtain⟨_,_,_,_,jn⟩:=ba.now.1.2 n fq;obtain⟨bb,bo,hbe,hbc⟩:=(jn 0 oG).2.at_ (Below.refl _ _) dc;have c2:Q7 l rs xs n 0 k=(jY l rs xs n 0)[k]'dc:=yW dc;refine zn7 ?_;refine wl (xW (i:=k) U38 yY (show ev _ _ _=_ from I2 _ _ hbe) rfl oG rfl) (wl (qW (v:= .bool ((jY l rs xs n 0)[k]'dc)) U4 rfl rfl hbc) (zn5 ?_));refine yy (rgq [] 168 8) 175 (.bool (decide ((jY l rs xs n 0)[k]'dc=true/\br k=false))) nu ?_ (fun gq=>?_)
    ·refine zn3 ?_;refine P7 169 rfl (fun dr=>?_) (fun dr=>?_)
     ·refine zn7 ?_;refine wl (qW (v:= .bool (br k)) U4 rfl rfl (a5.cell (uz oG))) (zn3 ?_);refine kv ?_
      first|exact ac (by simp[dr])|exact ac (by cases e:br k<;>simp[dr,e])
     refine zn6 ?_;refine kv ?_
     first|exact ac (by simp[dr])|exact ac (by cases e:br k<;>simp[dr,e])
    refine e_S ?_;refine zK rfl (fun bg=>?_) (fun bg=>?_)
    ·refine zn5 ?_;refine xj (v:= .bool _) a5 rfl rfl yY (by rw[row_size];omega) rfl Q1 (fun w50 hq d4=>?_);replace bf:=bf.tq d4;replace b9:=b9.tr1 d4 (fun g hg=>by have:=b7 g hg;omega);replace be:=be.tr d4 (fun g hg=> .inr (.inr (by rw[List.mem_singleton.1 hg];exact c4)));replace ba:=ba.tr d4 (fun g hg=> .inr (.inr (by rw[List.mem_singleton.1 hg];exact c3)));replace a5:=hq;rw[Fw]at a5;refine jZ ?_;refine zK rfl (fun kd=>?_) (fun kd=>?_)
     ·refine zn3 ?_;refine qj (cs:=#[_]) [(0,.int _ _)] rfl U36 x8 zW dE dE kR rfl (fun b185 w51 i6 e9 hr=>?_);have:=a4.u.ob hr;have:=a2.u.ob hr;have:=a3.u.ob hr;have:=a1.u.ob hr;have:=a5.ob hr;have ey:=bf.ob hr;have f3:=b9.ob hr;have f8:=(nLT be.le hr)
      have f5:=(nLT ba.le hr)
      clear hr;replace bf:=bf.tr0 e9;refine vZ U36 in3 rfl dE bf i6 rfl rfl rfl y5 dE oG oG a5.u.lt (fun dq kc w52 dk e8 hg=>?_);have fh:dq≠b2:=neA bf a4.u.lt hg
      have fg:dq≠b3:=neA bf a2.u.lt hg
      have ff:dq≠b4:=neA bf a3.u.lt hg
      have fe:dq≠b5:=neA bf a1.u.lt hg
      have e5:dq≠bw:=neA bf a5.u.lt hg
      replace hB:=hB.u.tr e8 (fun g hg=>nLT (aD fo) (bf.lt g hg).1);replace a4:=(a4.tr1 d4 oG).tr0 e9;replace a4:=a4.ta e8 bf;replace a2:=(a2.tr1 d4 oG).tr0 e9;replace a2:=a2.ta e8 bf;replace a3:=(a3.tr1 d4 oG).tr0 e9;replace a3:=a3.ta e8 bf;replace a1:=(a1.tr1 d4 oG).tr0 e9;replace a1:=a1.ta e8 bf;replace a5:=a5.tr0 e9;replace a5:=a5.ta e8 bf;replace b9:=b9.tr0 e9;replace b9:=b9.tr e8 (fun g hg hx=>(E6 b9 bf dE) g hg hx);replace be:=be.tr0 e9;replace be:=be.tr e8 (fun g hg=> .inr (.inr (nLT oG (bf.lt g hg).1)));replace ba:=ba.tr0 e9;replace ba:=ba.tr e8 (fun g hg=> .inr (.inr (nLT oG (bf.lt g hg).1)));refine zn8 ?_;refine xY ((jY l rs xs n 0).length-(k+1)) oG agA ?_
      first
        | exact⟨k+1,bj++[(k:Int)],_,_,o5 br k,by omega,rfl,rfl,M9 _ _ _ _,by have:=Q6 hp bg.2;simp only[List.length_append,List.length_cons,List.length_nil];omega,hB,a4,a2,a3,a1,a5,JV dk,bt.push fq (c2.trans bg.1) oG,b9,be,ba⟩
        | exact⟨k+1,bj,_,_,o5 br k,by omega,rfl,rfl,rfl,by have:=Q6 hp bg.2;omega,hB,a4,a2,a3,a1,a5,bf,bt.see fq (c2.trans bg.1) oG,b9,be,ba⟩
        | exact⟨k+1,bj,_,_,br,by omega,rfl,rfl,rfl,jc,hB,a4,a2,a3,a1,a5,bf,bt.skip (fun hd=>by rw[c2]at hd;cases e:br k;exact absurd ⟨hd,e⟩ bg;rfl),b9,be,ba⟩
     refine zn7 ?_;refine xY ((jY l rs xs n 0).length-(k+1)) oG agA ?_;replace hB:=hB.tr1 d4 fo;replace a4:=a4.tr1 d4 oG;replace a2:=a2.tr1 d4 oG;replace a3:=a3.tr1 d4 oG;replace a1:=a1.tr1 d4 oG
     first
       | exact⟨k+1,bj++[(k:Int)],_,_,o5 br k,by omega,rfl,rfl,M9 _ _ _ _,by have:=Q6 hp bg.2;simp only[List.length_append,List.length_cons,List.length_nil];omega,hB,a4,a2,a3,a1,a5,JV dk,bt.push fq (c2.trans bg.1) oG,b9,be,ba⟩
       | exact⟨k+1,bj,_,_,o5 br k,by omega,rfl,rfl,rfl,by have:=Q6 hp bg.2;omega,hB,a4,a2,a3,a1,a5,bf,bt.see fq (c2.trans bg.1) oG,b9,be,ba⟩
       | exact⟨k+1,bj,_,_,br,by omega,rfl,rfl,rfl,jc,hB,a4,a2,a3,a1,a5,bf,bt.skip (fun hd=>by rw[c2]at hd;cases e:br k;exact absurd ⟨hd,e⟩ bg;rfl),b9,be,ba⟩
    refine zn7 ?_;refine xY ((jY l rs xs n 0).length-(k+1)) oG agA ?_
    first
      | exact⟨k+1,bj++[(k:Int)],_,_,o5 br k,by omega,rfl,rfl,M9 _ _ _ _,by have:=Q6 hp bg.2;simp only[List.length_append,List.length_cons,List.length_nil];omega,hB,a4,a2,a3,a1,a5,JV dk,bt.push fq (c2.trans bg.1) oG,b9,be,ba⟩
      | exact⟨k+1,bj,_,_,o5 br k,by omega,rfl,rfl,rfl,by have:=Q6 hp bg.2;omega,hB,a4,a2,a3,a1,a5,bf,bt.see fq (c2.trans bg.1) oG,b9,be,ba⟩
      | exact⟨k+1,bj,_,_,br,by omega,rfl,rfl,rfl,jc,hB,a4,a2,a3,a1,a5,bf,bt.skip (fun hd=>by rw[c2]at hd;cases e:br k;exact absurd ⟨hd,e⟩ bg;rfl),b9,be,ba⟩
   have ht:k=(jY l rs xs n 0).length:=by omega
   refine zn5 ?_;refine xY (2*jy vs.length br+bj.length) oG agA ?_;exact⟨bj,_,_,br,rfl,by omega,rfl,hB,a4,a2,a3,a1,a5,bf,bt.done (fun o ho=>by have:=adm_ltl ho;omega),b9,be,ba⟩
  have ix:bj= []:=aI.1 oG;subst ix;refine zn5 ?_
  have e6:=(Hv.blk a5 (ae _) (X:=[]) (by simp)).imp (Q:=fun w2=>bvC l rs xs w2 i [.slice (some ⟨bw,0,none⟩) vs.length vs.length]) (fun w2 h=>by
    have h2:=bols_row h (by unfold vJ;omega);rw[hlv,hfs.row il]at h2
    exact⟨_,vs.length,by rw[show (KY l rs xs i).length=vs.length by simp[KY,hlv]],h2⟩)
  have hCn:=e6.le;refine zn4 ?_;refine qj (cs:=#[_]) [(0,.slice _ _ _)] rfl U39 F0 ze38 dE dE kR rfl (fun b191 w53 i5 et hr=>?_);have:=a4.ob hr;have:=a2.ob hr;have:=a3.ob hr;have:=a1.ob hr;have:=a5.ob hr;have f2:=b9.ob hr;have f7:=(nLT be.le hr)
  have f4:=(nLT ba.le hr)
  have f9:=(nLT e6.le hr)
  clear hr;replace be:=be.tr0 et;have hFn2:=be.le;replace e6:=e6.tr0 et;have ju:=e6.le;replace b9:=b9.tr0 et;replace ba:=ba.tr0 et;refine vZ U39 in38 rfl dE b9 i5 rfl rfl rfl y5 dE oG oG ba.le (fun bv du w54 dj es hg=>?_);have fd:bv≠b2:=neA b9 a4.u.lt hg
  have fc:bv≠b3:=neA b9 a2.u.lt hg
  have fb:bv≠b4:=neA b9 a3.u.lt hg
  have c5:bv≠b5:=neA b9 a1.u.lt hg
  have dz:bv≠bw:=neB a5.u.lt hg (fun g hg=>by have:=b7 g hg;omega)
  replace hB:=hB.u.tr es (fun g hg=>nLT oG (b9.lt g hg).1);replace a4:=a4.tr0 et;replace a4:=a4.ta es b9;replace a2:=a2.tr0 et;replace a2:=a2.ta es b9;replace a3:=a3.tr0 et;replace a3:=a3.ta es b9;replace a1:=a1.tr0 et;replace a1:=a1.ta es b9;replace be:=be.tr es (fun g hg=> .inr (.inl hg));replace ba:=ba.tr es (fun g hg=> .inr (.inr (b9.lt g hg).1));replace e6:=e6.tr es (fun g hg=> .inl (b7 g hg));refine zn1 ?_;refine xj (v:= .slice _ _ _) a1 rfl rfl sz39 (by first|decide|simp) rfl rfl (fun w55 hq ik=>?_);replace be:=be.lo1 ik oG;replace ba:=ba.lo1 ik oG;replace e6:=e6.lo1 ik oG;replace dj:=dj.tr1 ik (neS c5);replace a1:=hq;replace a1:Blk w55 b5 41 #[.int .i64 ((rs.length:Nat):Int),.int .i64 ((xs.length:Nat):Int),.slice KA rs.length ck,.slice AA rs.length ca,.slice SA vs.length cs,.slice (some ⟨bv,0,none⟩) (i+1) du]:=a1;have jh:(List.range rs.length)[i]'(by rw[List.length_range];exact il)=i:=Mv _
  have js:=RowD.app (Y:=aL (some (⟨bv,0,none⟩:Addr))) (v:=[.slice (some ⟨bw,0,none⟩) vs.length vs.length]) (by rw[List.length_range];exact il) jh be rfl e6 oG (fun y hy=>by
    cases aj.1 hy;rcases hg with h2|h2
    · exact .inl (by rw[h2];exact aj.2 rfl)
    · exact .inr (show nF<=bv by omega)) (fun y hy=>by
    cases aj.1 hy;rcases hg with h2|h2
    · exact .inl (b7 bv (by rw[h2];exact aj.2 rfl))
    · exact .inr (nLT ju h2))
  refine zn7 ?_;refine xY (rs.length-(i+1)) oG agA ?_;exact⟨i+1,du,_,some ⟨bv,0,none⟩,_,by omega,rfl,rfl,hB.u,a4.u,a2.u,a3.u,a1,dj,js,ba⟩
 have hie:i=rs.length:=by omega
 subst hie;refine zn6 ?_;rw[List.take_of_length_le (by rw[List.length_range];exact Nat.le_refl _)]at be;have er:=(ba.and ((fir_conv b9 be).mono jb (ae _) (ae _))).imp (Q:=FilIn l rs xs st KA AA SA FA) (fun w2 h=>⟨h.1.1.1,h.1.1.2.in_,h.1.2,h.2⟩);refine zn2 ?_;refine zJ a3 (fun w56 hq s42=>?_);replace er:=er.lo1 s42 oG;replace a3:=hq;refine zn3 ?_;refine xX (.inl rfl) rfl (zw U41 rfl rfl a3.range0 sz41) ?_;replace hB:=hB.tr1 s42 lo4;exact⟨⟨KA,AA,SA,FA,ck,ca,cs,cv,by unfold filC;rw[<- hlv],(er.mono je (ae _) er.le).toFr⟩,hB⟩
end Go.Proofs.YtmfiholmfieieaaDoor
