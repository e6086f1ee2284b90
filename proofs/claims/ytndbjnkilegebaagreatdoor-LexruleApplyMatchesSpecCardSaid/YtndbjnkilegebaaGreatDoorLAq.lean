/- What these functions compute, at every world: term.Apply, lexrule.Step, , lexrule.Mother, lexrule.apply, lexrule.Apply; and plain laws. -/
import Derived.Test.YtndbjnkilegebaaGreatDoorU
import Derived.Test.YtndbjnkilegebaaGreatDoorZst
import Derived.Test.YtndbjnkilegebaaGreatDoorLTa
import Derived.Test.YtndbjnkilegebaaGreatDoorLRr
import Derived.Test.YtndbjnkilegebaaGreatDoorWRc
import Derived.Test.YtndbjnkilegebaaGreatDoorOrd
import Derived.Test.YtndbjnkilegebaaGreatDoorNTo
import Derived.Test.YtndbjnkilegebaaGreatDoorTyp
import Derived.Test.YtndbjnkilegebaaGreatDoorGro
import Derived.Test.YtndbjnkilegebaaGreatDoorLRd
namespace Go.Proofs.YtndbjnkilegebaaGreatDoor
open Go.RowKit Go.Proofs.Tryz
set_option maxRecDepth 100000
set_option maxHeartbeats 8000000
variable {G1:Option Addr}{X ga gb:List Nd}{c1:Nat}{f m:Int}{fs:List Ft}{l:List Ty}{ok:Bool}{w:World}
set_option maxRecDepth 100000 in
set_option maxHeartbeats 4000000 in
theorem G0(f x:Tm)(SA BA Sx Bx:Option Addr)(cs cb csx cbx:Nat)(w:World)(hS:SimsIn w SA f.type.args)(hT:TmsIn w BA f.args)(hSx:SimsIn w Sx x.type.args)(hTx:TmsIn w Bx x.args):Calls Tryz.prog 47 #[.agg (cD (f) SA cs BA cb),.agg (cD (x) Sx csx Bx cbx)] w fun e w'=>(∃(A6 B6:Option Addr) (c6 d6:Nat) (z:Tm) (c i:Int),e= .returned (.tuple #[.agg (cD (z) A6 c6 B6 d6),.agg #[.int .i64 c,.int .i64 i]])/\(c=0↔T7 f x)/\(c=0->z=u4 f x)/\Hv w.heap.size [] w'.heap.size w' (fun w=>SimsIn w A6 z.type.args/\TmsIn w B6 z.args))/\Bel w w':=by
 refine enT Tryz.func47 Tryz.ntmps47 rfl rfl fun hB=>?_;refine zn2 ?_;refine qv (cs:=#[_,_,_,_,_,_]) rfl (fun b2 w1 bm t1 hr=>?_);refine qv (cs:=#[_,_,_,_,_,_]) rfl (fun b3 w2 bk t2 hr=>?_);refine qQ (cs:=cG) oK rfl (fun b4 w3 a1 t3 hr=>?_);have:=bm.u.ob hr;have:=bk.ob hr;have lo4:=hB.u.ob hr;refine qQ (cs:=#[.int .i64 0,.int .i64 0]) qV rfl (fun b5 w4 a2 t4 hr=>?_);have:=bm.u.ob hr;have:=bk.u.ob hr;have:=a1.ob hr;have lo5:=hB.u.ob hr;refine zn6 ?_;refine zW kR (NK SA BA cs cb f _ (hS.mono hB.u) (hT.mono hB.u)) rfl (fun e' w5 hr=>?_);obtain⟨rfl,t5⟩:=hr;replace t5:=sB t5;refine⟨_,rfl,?_⟩;refine y8 (cs:=#[.int .i64 0,.int .i64 0]) qV rfl (fun _=>rfl) (fun _=>rfl) zK rfl xW (fun b6 w7 hb6 t6 hr=>?_);have:=a1.u.ob hr;have:=a2.u.ob hr;refine zn9 ?_;refine zZ rfl (fun ao=>?_) (fun ao=>?_)
 ·refine xQ ?_;refine jY [b4,b5] [0,1,2,3] rfl (fun w8 t7=>?_);refine hl rfl (fun _=>Tx (vs:=#[]) (cs:=cG) (by simp) kR) (zn1 ?_);refine h1 rfl ?_;refine zV a1.u (fun w9 hq t8=>?_);have a5:=t8;replace a1:=hq;refine qY (e_H (X':=[b5]) (Same.weak a5 (by simp)) (by simp) (h1 rfl ?_));refine zV a2.u (fun w10 hq t9=>?_);have a4:=t9;replace a2:=hq;refine qY (e_H (X':=[]) (Same.weak a4 (by simp)) (by simp) (zn4 ?_));refine uK (.inl rfl) rfl (zX U34 rfl rfl a1.u.range0 X7) (zX U45 rfl rfl a2.range0 zK) ?_;exact⟨⟨none,none,0,0,(Tm.mk 0 ⟨#[]⟩ 0 smZ []),_,_,rfl,⟨fun h=>absurd h ao,fun h=>absurd h.1 ao⟩,fun h=>absurd h ao,Hv.triv _ _ _ (fun w=>⟨.nil,.nil⟩)⟩,hB.u⟩
 have bj:=ak.1 ao;obtain⟨v,hv,hvo,hvs⟩:=tmF_tv bj;refine zn6 ?_;refine zW kR (NK Sx Bx csx cbx x _ (hSx.mono hB.u) (hTx.mono hB.u)) rfl (fun e' w11 hr=>?_);obtain⟨rfl,ac⟩:=hr;replace ac:=sB ac;refine⟨_,rfl,?_⟩;refine y8 (cs:=#[.int .i64 0,.int .i64 0]) qV rfl (fun _=>rfl) (fun _=>rfl) zK rfl xW (fun b7 w13 hb7 be hr=>?_);have:=a1.u.ob hr;have:=a2.u.ob hr;refine zn9 ?_;refine zZ rfl (fun an=>?_) (fun an=>?_)
 ·refine xQ ?_;refine jY [b4,b5] [0,1,2,3] rfl (fun w14 t12=>?_);refine hl rfl (fun _=>Tx (vs:=#[]) (cs:=cG) (by simp) kR) (zn1 ?_);refine h1 rfl ?_;refine zV a1.u (fun w15 hq t13=>?_);have a5:=t13;replace a1:=hq;refine qY (e_H (X':=[b5]) (Same.weak a5 (by simp)) (by simp) (h1 rfl ?_));refine zV a2.u (fun w16 hq t14=>?_);have a4:=t14;replace a2:=hq;refine qY (e_H (X':=[]) (Same.weak a4 (by simp)) (by simp) (zn4 ?_));refine uK (.inl rfl) rfl (zX U34 rfl rfl a1.u.range0 X7) (zX U45 rfl rfl a2.range0 zK) ?_;exact⟨⟨none,none,0,0,(Tm.mk 0 ⟨#[]⟩ 0 smZ []),_,_,rfl,⟨fun h=>absurd h an,fun h=>absurd h.2.1 an⟩,fun h=>absurd h an,Hv.triv _ _ _ (fun w=>⟨.nil,.nil⟩)⟩,hB.u⟩
 have bf:=ak.1 an;obtain⟨u,hu,huo,hus⟩:=tmF_tv bf;have hK:=app_K (tmF_K bj) (tmF_K bf);have hsa:=szT_app f x;rw[show szT f=v.size by rw[hv];exact G5 v,show szT x=u.size by rw[hu];exact G5 u]at hsa;refine zn6 ?_;refine qZ (cs:=#[_,_,_,_,_,_,_,_,_,_,_,_]) [(0,.agg _),(1,.agg _)] rfl U32 X7 oK dE dE kR rfl (fun b1 w17 a8 bd hr=>?_);have:=bm.u.ob hr;have:=bk.u.ob hr;have:=a1.u.ob hr;have:=a2.u.ob hr;have:=hb6.u.ob hr;have:=hb7.ob hr;refine wl (Q5 (v0:= .int _ _) (v1:= .slice _ _ _) (fun v0 v1=>#[v0,.string ⟨#[]⟩,.int .i64 0,.string ⟨#[]⟩,.slice none 0 0,v1]) rfl rfl kR) ?_;refine y8 (cs:=cG) oK rfl (fun _=>rfl) (fun _=>rfl) X7 rfl xW (fun b8 ba hb8 bc hr=>?_);have:=a8.ob hr;have hA:TmsIn ba (some ⟨b1,0,none⟩) [f,x]:=DV a8.u (hS.mono hB.u) (hT.mono hB.u) (hSx.mono hB.u) (hTx.mono hB.u);obtain⟨wA,bg⟩:∃ z,z=ba:=⟨_,rfl⟩
 have bn:Bel wA ba:=by rw[bg];exact Below.refl _ _
 rw[<- bg]at hA;clear bg;refine zn6 ?_;refine zW kR (R7 _ (.app v u) (aH _) [] none (some ⟨b1,0,none⟩) none 0 2 0 _ .nil (by show TmsIn _ _ [v.tm,u.tm];rw[<- hv,<- hu];exact hA.mono bn) (CtxIn.nil _) (ah _) (by show 0+(v.size+u.size+1)<=1000;omega) ⟨hvo,huo⟩) rfl (fun e' w20 hr=>?_);obtain⟨⟨s7,A7,n7,c7,rfl,_⟩,ab⟩:=hr;replace ab:=sB ab;refine⟨_,rfl,?_⟩;refine wmT rfl (wl (yW (v:= .agg _) rfl rfl) (wl (yW (v:= .bool _) rfl rfl) ?_));refine y8 (cs:=#[.string ⟨#[]⟩,.slice none 0 0]) KJ rfl (fun _=>rfl) (fun _=>rfl) vj rfl xW (fun b9 w22 hb9 bb hr=>?_);have:=a8.u.ob hr;refine zn9 ?_;refine jv rfl (fun bq=>?_) (fun bq=>?_)
 ·have bh:¬T7 f x:=fun k=>by
   obtain⟨v2,u2,τ,e1,e2,e3⟩:=k.2.2.1;obtain rfl:=Tv.tm_inj (hv.symm.trans e1);obtain rfl:=Tv.tm_inj (hu.symm.trans e2);have h:=bq;rw[e3]at h;cases h
  refine zn2 ?_;refine jW (cs:=cG) (vy ?_);refine zV a1.u (fun w23 hq t19=>?_);replace a1:=hq;refine zV a2.u (fun w24 hq t20=>?_);replace a2:=hq;refine zn4 ?_;refine uK (.inl rfl) rfl (zX U34 rfl rfl a1.u.range0 X7) (zX U45 rfl rfl a2.range0 zK) ?_;exact⟨⟨none,none,0,0,(Tm.mk 0 ⟨#[]⟩ 0 smZ []),_,_,rfl,⟨fun h=>absurd h dE,fun h=>absurd h bh⟩,fun h=>absurd h dE,Hv.triv _ _ _ (fun w=>⟨.nil,.nil⟩)⟩,hB.u⟩
 obtain⟨τ,hτ⟩:∃ τ,tyv [] (.app v u)=some τ:=aY.1 (by simpa using bq);refine zn6 ?_;refine zW kR (fits_any (t:=u4 f x) hK none (some ⟨b1,0,none⟩) 0 2 _ oG .nil (hA.mono bn.u)) rfl (fun e' w25 hr=>?_);obtain⟨rfl,a9⟩:=hr;replace a9:=sB a9;refine⟨_,rfl,?_⟩;refine zn3 ?_;refine jv rfl (fun bo=>?_) (fun bo=>?_)
 ·have bh:¬T7 f x:=fun k=>by
   exact absurd bo (by simp[k.2.2.2])
  refine zn2 ?_;refine jW (cs:=cG) (vy ?_);refine zV a1.u (fun w26 hq t22=>?_);replace a1:=hq;refine zV a2.u (fun w27 hq t23=>?_);replace a2:=hq;refine zn4 ?_;refine uK (.inl rfl) rfl (zX U34 rfl rfl a1.u.range0 X7) (zX U45 rfl rfl a2.range0 zK) ?_;exact⟨⟨none,none,0,0,(Tm.mk 0 ⟨#[]⟩ 0 smZ []),_,_,rfl,⟨fun h=>absurd h dE,fun h=>absurd h bh⟩,fun h=>absurd h dE,Hv.triv _ _ _ (fun w=>⟨.nil,.nil⟩)⟩,hB.u⟩
 have hsk:szT (u4 f x)<=200/\dpT (u4 f x)<=40:=by simpa using bo
 refine zn5 ?_;obtain⟨l8,ad⟩:∃ z,z=w25.heap.size:=⟨_,rfl⟩
 replace hB:=hB.tr0 (t1.t (t2.t (t3.t (t4.t (t5.t (t6.t (ac.t (be.t (bd.t (bc.t (ab.t (bb.t a9))))))))))));have bi:w.heap.size<=l8:=by rw[ad];exact Bel.size hB
 replace a1:=a1.tr0 (t4.t (t5.t (t6.t (ac.t (be.t (bd.t (bc.t (ab.t (bb.t a9)))))))));have l84:b4<l8:=by rw[ad];exact a1.lt
 replace a2:=a2.tr0 (t5.t (t6.t (ac.t (be.t (bd.t (bc.t (ab.t (bb.t a9))))))));have l85:b5<l8:=by rw[ad];exact a2.lt
 refine zW kR (tclone_any hK none (some ⟨b1,0,none⟩) 0 2 _ .nil (hA.mono bn.u)) rfl (fun e' w28 hr=>?_);obtain⟨⟨S8,s8,B8,c8,rfl,a3⟩,t24⟩:=hr;replace t24:=sB t24;rw[<- ad]at a3;clear ad;refine⟨_,rfl,?_⟩;refine jW (cs:=#[.int .i64 0,.int .i64 0]) ?_;refine zV a1.u (fun w29 hq t25=>?_);replace a3:=a3.lo1 t25 l84;replace a1:=hq;refine zV a2.u (fun w30 hq t26=>?_);replace a3:=a3.lo1 t26 l85;replace a2:=hq;refine zn3 ?_;refine uK (.inl rfl) rfl (zX U34 rfl rfl a1.u.range0 X7) (zX U45 rfl rfl a2.range0 zK) ?_;exact⟨⟨S8,B8,s8,c8,u4 f x,_,_,rfl,⟨fun _=>⟨bj,bf,⟨v,u,τ,hv,hu,hτ⟩,hsk⟩,fun _=>rfl⟩,fun _=>rfl,a3.mono bi a3.le (ai _)⟩,hB.u⟩
def StepS(l:List Ty)(ga gb:List Nd)(f:Int)(ok:Bool)(X:List Nd):Prop:=
 (ok=true/\YY l (j7 ga gb) [((plc ga f).toNat,ga.length)] X/\X.length<=60)\/(ok=false/\BadU l (j7 ga gb) [((plc ga f).toNat,ga.length)])
def Z2(l:List Ty)(U:List Nd)(J:List (Nat×Nat))(ok:Bool)(X:List Nd):Prop:=(ok=true/\YY l U J X)\/(ok=false/\X= []/\¬MV l U J)
theorem into_det{j:Nat}(hga:GX l ga)(hgb:GX l gb)(hj:j<ga.length):∃ ok X,∀ a1 X',Z2 l (j7 ga gb) [(j,ga.length)] a1 X'->a1=ok/\X'=X/\Z2 l (j7 ga gb) [(j,ga.length)] ok X:=by
 by_cases h:∃ X,YY l (j7 ga gb) [(j,ga.length)] X
 ·obtain⟨X,hX⟩:=h
  refine⟨true,X,fun a1 X' h'=>?_⟩;rcases h' with ⟨rfl,k⟩|⟨_,_,k⟩
  ·exact⟨rfl,B5 hga hgb hj k hX,.inl ⟨rfl,hX⟩⟩
  ·exact absurd (Ry hga hgb hj hX) k
 ·refine⟨false,[],fun a1 X' h'=>?_⟩
  rcases h' with ⟨_,k⟩|⟨rfl,rfl,k⟩
  ·exact absurd ⟨_,k⟩ h
  ·exact⟨rfl,rfl,.inr ⟨rfl,rfl,k⟩⟩
theorem step_of(_hga:GX l ga)(_hgb:GX l gb)(_hj:(plc ga f).toNat<ga.length)(h:Z2 l (j7 ga gb) [((plc ga f).toNat,ga.length)] ok X):StepS l ga gb f (ok&&decide (((X.length:Nat):Int)<=60)) X:=by
 rcases h with ⟨rfl,h⟩|⟨rfl,_,h⟩
 ·by_cases e:X.length<=60
  ·exact .inl ⟨by simp;omega,h,e⟩
  ·exact .inr ⟨by simp;omega,.inr ⟨X,h,by omega⟩⟩
 ·exact .inr ⟨rfl,.inl h⟩
theorem H0{g:List Nd}(h:Jok l fs m g)(h0:0<=f)(hm:f<=m):(tgt (g[0]'h.v.gx.pos).ln f)=(((plc g f).toNat:Nat):Int):=by
 have:=h.p f h0 hm;rw[<- yK h.v.gx.pos];unfold plc at this ⊢;omega
theorem HV{lo hi B:Nat}{p:World->Prop}(h:Kept lo hi w p)(hb:B<=lo):∀ w2,FrSame B w w2->p w2:=fun w2 hf=>h.2 w2 (nLT h.1 hf.1) (fun b h1 h2=>hf.2 b (nLT hb h1) (nLL h2 h.1))
theorem Iy{B:Nat}{p:World->Prop}(h:∀ w2,FrSame B w w2->p w2):Kept B w.heap.size w p:=⟨ai _,fun w2 hs hb=>h w2 ⟨hs,fun k h1 h2=>hb k h1 h2⟩⟩
theorem step_yes(h:StepS l ga gb f ok X)(hk:ok=true):YY l (j7 ga gb) [((plc ga f).toNat,ga.length)] X/\X.length<=60:=by
 rcases h with ⟨_,a,b⟩|⟨e,_⟩
 ·exact⟨a,b⟩
 ·rw[hk]at e;cases e
theorem step_no(h:StepS l ga gb f ok X)(hk:ok=false):BadU l (j7 ga gb) [((plc ga f).toNat,ga.length)]:=by
 rcases h with ⟨e,_⟩|⟨_,a⟩
 ·rw[hk]at e;cases e
 ·exact a
set_option maxRecDepth 100000 in
set_option maxHeartbeats 4000000 in
theorem step_any{bu bd c2:Nat}{G2:Option Addr}(w:World)(bt:TabIn w)(hTI:TableIn w l bu bd)(hG1:NodesIn w G1 ga)(hG2:NodesIn w G2 gb)(ha:Jok l fs m ga)(hb:GV l fs gb)(hf0:0<=f)(hfm:f<=m):Calls Tryz.prog 46 #[.agg #[.slice (some ⟨bu,0,none⟩) l.length l.length,.slice (some ⟨bd,0,none⟩) l.length l.length],.agg #[.slice G1 ga.length c1],.int .i64 f,.agg #[.slice G2 gb.length c2]] w fun e w'=>(∃ A X ok,e= .returned (.tuple #[.agg #[.slice A (List.length X) X.length],.bool ok])/\(∀ w2,FrSame w.heap.size w' w2->NodesIn w2 A X)/\StepS l ga gb f ok X)/\Bel w w':=by
 have bn:=ha.lt hf0 hfm;have bv:=ha.v.gx.pos;obtain⟨a5,XI,br⟩:=into_det ha.v.gx hb.gx bn;have hpa:=H0 ha hf0 hfm;refine enT Tryz.func46 Tryz.ntmps46 rfl rfl fun hB=>?_;refine zn2 ?_;refine qv (cs:=#[_,_]) rfl (fun b4 w1 be s1 hr=>?_);have lo4:=hB.ob hr;refine qv (cs:=#[_]) rfl (fun b5 w2 bc s2 hr=>?_);have:=be.ob hr;have lo5:=hB.u.ob hr;refine qv (cs:=#[_]) rfl (fun b7 w3 bi s3 hr=>?_);have:=be.u.ob hr;have:=bc.ob hr;have lo7:=hB.u.ob hr;refine qQ (cs:=#[.slice none 0 0]) u6 rfl (fun b8 w4 a9 s4 hr=>?_);have:=be.u.ob hr;have:=bc.u.ob hr;have:=bi.ob hr;have lo8:=hB.u.ob hr;refine zn4 ?_;replace hB:=hB.tr0 (s1.t (s2.t (s3.t s4)));have hsz:=Bel.size hB;replace be:=be.tr0 (s2.t (s3.t s4));have z4:=be.lt;replace bc:=bc.tr0 (s3.t s4);have z5:=bc.lt;replace bi:=bi.tr0 s4;have z7:=bi.lt;have z8:=a9.lt;refine xv (rg [] 10 12) (fun g w'=>∃(ab:Nat) (AZ:Option Addr) (lz hz:Nat),g 10= .pointer (some ⟨ab,0,none⟩)/\g 11= .bool a5/\Bel w w'/\Blk w' ab 28 #[.slice AZ (List.length XI) XI.length]/\(∃ z,Blk w' b8 28 #[z])/\b8≠ab/\Kept lz hz w' (fun wq=>NodesIn wq AZ XI)/\w.heap.size<=lz/\b8<lz/\Z2 l (j7 ga gb) [((plc ga f).toNat,ga.length)] a5 XI) ?_ (fun g1 w5 hI=>?_)
 ·refine SW 11 [13,14,15,16,17,18,19,12,20,21,10] [9] (fun ix=>bif Nat.beq ix 7 then 6 else bif Nat.beq ix 8 then 6 else ix) (fun ix v la ha wv=>match ix with|0=>v= .agg #[.slice (some ⟨bu,0,none⟩) l.length l.length,.slice (some ⟨bd,0,none⟩) l.length l.length]|1=>v= .agg #[.slice G1 ga.length c1]|2=>v= .agg #[.slice G1 ga.length c1]|3=>v= .int .i64 f|4=>v= .int .i64 (((plc ga f).toNat:Nat):Int)|5=>v= .agg #[.slice G2 gb.length c2]|6=>∃ AZ,v= .tuple #[.agg #[.slice AZ (List.length XI) XI.length],.bool a5]/\Kept la ha wv (fun wq=>NodesIn wq AZ XI)/\w4.heap.size<=la/\Z2 l (j7 ga gb) [((plc ga f).toNat,ga.length)] a5 XI|7=>∃ AZ,v= .tuple #[.agg #[.slice AZ (List.length XI) XI.length],.bool a5]/\Kept la ha wv (fun wq=>NodesIn wq AZ XI)/\w4.heap.size<=la/\Z2 l (j7 ga gb) [((plc ga f).toNat,ga.length)] a5 XI|8=>∃ AZ,v= .agg #[.slice AZ (List.length XI) XI.length]/\Kept la ha wv (fun wq=>NodesIn wq AZ XI)/\w4.heap.size<=la/\Z2 l (j7 ga gb) [((plc ga f).toNat,ga.length)] a5 XI|9=>v= .bool a5|10=>∃ b,v= .pointer (some ⟨b,0,none⟩)/\w4.heap.size<=b/\Blk wv b 28 #[.slice none 0 0]/\la<=b/\b<ha|_=>True) kR kR kR kR ?_ ?_ ?_
  ·intro ix v la ha wv bm h hle s5
   match ix,h with
   | 0,h=>exact h
   | 1,h=>exact h
   | 2,h=>exact h
   | 3,h=>exact h
   | 4,h=>exact h
   | 5,h=>exact h
   | 6,h=>
    obtain⟨AZ,c0,a3,ao,an⟩:=(show ∃ AZ,v= .tuple #[.agg #[.slice AZ (List.length XI) XI.length],.bool a5]/\Kept la ha wv (fun wq=>NodesIn wq AZ XI)/\w4.heap.size<=la/\Z2 l (j7 ga gb) [((plc ga f).toNat,ga.length)] a5 XI from h)
    exact⟨AZ,c0,a3.tr0 s5,ao,an⟩
   | 7,h=>
    obtain⟨bg,b9,bh,ac,ad⟩:=(show ∃ AZ,v= .tuple #[.agg #[.slice AZ (List.length XI) XI.length],.bool a5]/\Kept la ha wv (fun wq=>NodesIn wq AZ XI)/\w4.heap.size<=la/\Z2 l (j7 ga gb) [((plc ga f).toNat,ga.length)] a5 XI from h)
    exact⟨bg,b9,bh.tr0 s5,ac,ad⟩
   | 8,h=>
    obtain⟨AZ,bj,a3,ao,an⟩:=(show ∃ AZ,v= .agg #[.slice AZ (List.length XI) XI.length]/\Kept la ha wv (fun wq=>NodesIn wq AZ XI)/\w4.heap.size<=la/\Z2 l (j7 ga gb) [((plc ga f).toNat,ga.length)] a5 XI from h)
    exact⟨AZ,bj,a3.tr0 s5,ao,an⟩
   | 9,h=>exact h
   | 10,h=>
    obtain⟨ab,bk,a4,a2,bb,bf⟩:=(show ∃ b,v= .pointer (some ⟨b,0,none⟩)/\w4.heap.size<=b/\Blk wv b 28 #[.slice none 0 0]/\la<=b/\b<ha from h)
    exact⟨ab,bk,a4,a2.tr0 s5,bb,bf⟩
   | _+11,h=>exact trivial
  ·intro ix o hix a1 gg wx lo hi s6 hd b6
   match ix,hix,a1 with
   | 0,_,a1=>
    cases sI a1;refine gdA ?_;refine qk (qw U78 rfl rfl be.u.range0 N1) ⟨Same.refl _ _,?_⟩;exact rfl
   | 1,_,a1=>
    cases sI a1;refine gdA ?_;refine qk (qw U28 rfl rfl bc.u.range0 yY) ⟨Same.refl _ _,?_⟩;exact rfl
   | 2,_,a1=>
    cases sI a1;refine gdA ?_;refine qk (qw U28 rfl rfl bc.u.range0 yY) ⟨Same.refl _ _,?_⟩;exact rfl
   | 3,_,a1=>
    cases sI a1;refine gdA ?_;refine qk (x6 (v:= .int _ _) rfl) ⟨Same.refl _ _,?_⟩;exact rfl
   | 4,_,a1=>
    cases sI a1;have d2:gg 15= .agg #[.slice G1 ga.length c1]:=(hd 2 (zj kR)).1;have e15:=d2;have d3:gg 16= .int .i64 f:=(hd 3 (zj kR)).1;have e16:=d3;refine gdA (zq 15 _ e15 nu (zq 16 _ e16 nu ?_));replace hB:=hB.tr0 s6;refine vw kR (MY G1 c1 fs.length ga 0 f wx (hG1.mono hB) bv (Iw ha.v.lo 0 bv) (by have:=ha.v.gok.few 0 bv;have:=ha.v.few;omega)) rfl (fun e' w2 hr=>?_);obtain⟨rfl,s7⟩:=hr;exact⟨_,rfl,sB s7,(congrArg (Value.int .i64) hpa)⟩
   | 5,_,a1=>
    cases sI a1;refine gdA ?_;refine qk (qw U28 rfl rfl bi.u.range0 yY) ⟨Same.refl _ _,?_⟩;exact rfl
   | 6,_,a1=>
    cases sI a1;have bo:=s6;have d0:gg 13= .agg #[.slice (some ⟨bu,0,none⟩) l.length l.length,.slice (some ⟨bd,0,none⟩) l.length l.length]:=(hd 0 (zj kR)).1;have e13:=d0;have d1:gg 14= .agg #[.slice G1 ga.length c1]:=(hd 1 (zj kR)).1;have e14:=d1;have d4:gg 17= .int .i64 (((plc ga f).toNat:Nat):Int):=(hd 4 (zj kR)).1;have e17:=d4;have d5:gg 18= .agg #[.slice G2 gb.length c2]:=(hd 5 (zj kR)).1;have e18:=d5;refine gdA (zq 13 _ e13 nu (zq 14 _ e14 nu (zq 17 _ e17 nu (zq 18 _ e18 nu ?_))));replace hB:=hB.tr0 s6;refine vw kR (into_any (nf:=fs.length) wx (bt.mono hB) (hTI.mono hB) ha.v.s (hG1.mono hB) (hG2.mono hB) ha.v.gok hb.gok ha.v.gx.toGY hb.gx.toGY (by have:=ha.v.few;omega) bn) rfl (fun e' w2 hr=>?_);obtain⟨⟨A9,X9,ok9,rfl,hN9,hI9⟩,s8⟩:=hr;exact⟨_,rfl,sB s8,(by obtain⟨e1,e2,e3⟩:=br ok9 X9 hI9;subst e1 e2;exact⟨A9,rfl,Iy hN9,bo.size,e3⟩)⟩
   | 7,_,a1=>
    cases sI a1;have d6:∃ AZ,gg 19= .tuple #[.agg #[.slice AZ (List.length XI) XI.length],.bool a5]/\Kept (lo 6) (hi 6) wx (fun wq=>NodesIn wq AZ XI)/\w4.heap.size<=(lo 6)/\Z2 l (j7 ga gb) [((plc ga f).toNat,ga.length)] a5 XI:=(hd 6 (zj kR)).1;obtain⟨AZ,c0,a3,ao,an⟩:=d6;refine gdA (zq 19 _ c0 nu ?_);refine qk (x6 (v:= .tuple _) rfl) ⟨Same.refl _ _,?_⟩;exact⟨_,rfl,a3,ao,an⟩
   | 8,_,a1=>
    cases sI a1;have d7:∃ AZ,gg 12= .tuple #[.agg #[.slice AZ (List.length XI) XI.length],.bool a5]/\Kept (lo 6) (hi 6) wx (fun wq=>NodesIn wq AZ XI)/\w4.heap.size<=(lo 6)/\Z2 l (j7 ga gb) [((plc ga f).toNat,ga.length)] a5 XI:=(hd 7 (zj kR)).1;obtain⟨bg,b9,bh,ac,ad⟩:=d7;refine gdA (zq 12 _ b9 nu ?_);refine qk (yW (v:=_) rfl rfl) ⟨Same.refl _ _,?_⟩;exact⟨_,rfl,bh,ac,ad⟩
   | 9,_,a1=>
    cases sI a1;have d7:∃ AZ,gg 12= .tuple #[.agg #[.slice AZ (List.length XI) XI.length],.bool a5]/\Kept (lo 6) (hi 6) wx (fun wq=>NodesIn wq AZ XI)/\w4.heap.size<=(lo 6)/\Z2 l (j7 ga gb) [((plc ga f).toNat,ga.length)] a5 XI:=(hd 7 (zj kR)).1;obtain⟨bg,b9,bh,ac,ad⟩:=d7;refine gdA (zq 12 _ b9 nu ?_);refine qk (yW (v:=_) rfl rfl) ⟨Same.refl _ _,?_⟩;exact rfl
   | 10,_,a1=>
    cases sI a1;have bo:=s6;refine gdA ?_;refine jq (fun ops Q K=>?_);refine qQ (cs:=#[.slice none 0 0]) u6 rfl (fun ab w6 a2 s9 hr=>?_);exact K _ _ ⟨s9,⟨_,rfl,nLT bo.size hr,a2,hr,a2.lt⟩⟩
   | _+11,hix,_=>exact absurd hix oG
  refine⟨?_,?_,trivial⟩
  ·intro _ gg w7 lo hi s10 hR b6;have d7:∃ AZ,gg 12= .tuple #[.agg #[.slice AZ (List.length XI) XI.length],.bool a5]/\Kept (lo 6) (hi 6) w7 (fun wq=>NodesIn wq AZ XI)/\w4.heap.size<=(lo 6)/\Z2 l (j7 ga gb) [((plc ga f).toNat,ga.length)] a5 XI:=(hR 7 dE dE).1;obtain⟨bg,b9,bh,ac,ad⟩:=d7;have d8:∃ AZ,gg 20= .agg #[.slice AZ (List.length XI) XI.length]/\Kept (lo 6) (hi 6) w7 (fun wq=>NodesIn wq AZ XI)/\w4.heap.size<=(lo 6)/\Z2 l (j7 ga gb) [((plc ga f).toNat,ga.length)] a5 XI:=(hR 8 dE dE).1;obtain⟨AZ,bj,a3,ao,an⟩:=d8;have d9:gg 21= .bool a5:=(hR 9 dE dE).1;have e21:=d9;have c3:∃ b,gg 10= .pointer (some ⟨b,0,none⟩)/\w4.heap.size<=b/\Blk w7 b 28 #[.slice none 0 0]/\(lo 10)<=b/\b<(hi 10):=(hR 10 dE dE).1;obtain⟨ab,bk,a4,a2,bb,bf⟩:=c3;have b1:(hi 6)<=(lo 10)\/(hi 10)<=(lo 6):=b6 6 10 dE dE dE dE dE;have:=nLL z4 a4;have:=nLL z5 a4;have:=nLL z7 a4;have:=nLL z8 a4;replace a4:=nLT hsz a4;have b2:b8<(lo 6):=nLL z8 ao;refine yz 12 (.tuple #[.agg #[.slice bg (List.length XI) XI.length],.bool a5]) b9 nu (yz 20 (.agg #[.slice AZ (List.length XI) XI.length]) bj nu (yz 21 (.bool a5) e21 nu (yz 10 (.pointer (some ⟨ab,0,none⟩)) bk nu (IZ (k':=2) kR (Dz (listed':=#[true,true,true,true,true,true,true,true,true,true,true,false,false]) kR ?_)))));refine X8 [11] kR rfl ⟨fun o a1=>?_,trivial⟩;cases sI a1;refine zV a2 (fun w8 hq s11=>?_);replace a2:=hq;refine qY (e_A (listed':=#[true,true,true,true,true,true,true,true,true,true,true,true,false]) (by rfl) (Ov 12 rfl (fun _=>oz (v:= .bool _) rfl) (Dj kR ?_)));refine e_R ⟨agA,?_⟩;replace a3:=a3.tr1 s11 oG;exact⟨ab,AZ,_,_,rfl,rfl,hB.u,a2,⟨_,a9.u⟩,by omega,a3,nLT hsz ao,b2,an⟩
  intro _ gg w9 lo hi s12 hR b6;have d7:∃ AZ,gg 12= .tuple #[.agg #[.slice AZ (List.length XI) XI.length],.bool a5]/\Kept (lo 6) (hi 6) w9 (fun wq=>NodesIn wq AZ XI)/\w4.heap.size<=(lo 6)/\Z2 l (j7 ga gb) [((plc ga f).toNat,ga.length)] a5 XI:=(hR 7 dE dE).1;obtain⟨bg,b9,bh,ac,ad⟩:=d7;have d8:∃ AZ,gg 20= .agg #[.slice AZ (List.length XI) XI.length]/\Kept (lo 6) (hi 6) w9 (fun wq=>NodesIn wq AZ XI)/\w4.heap.size<=(lo 6)/\Z2 l (j7 ga gb) [((plc ga f).toNat,ga.length)] a5 XI:=(hR 8 dE dE).1;obtain⟨AZ,bj,a3,ao,an⟩:=d8;have c3:∃ b,gg 10= .pointer (some ⟨b,0,none⟩)/\w4.heap.size<=b/\Blk w9 b 28 #[.slice none 0 0]/\(lo 10)<=b/\b<(hi 10):=(hR 10 dE dE).1;obtain⟨ab,bk,a4,a2,bb,bf⟩:=c3;have b1:(hi 6)<=(lo 10)\/(hi 10)<=(lo 6):=b6 6 10 dE dE dE dE dE;have:=nLL z4 a4;have:=nLL z5 a4;have:=nLL z7 a4;have:=nLL z8 a4;replace a4:=nLT hsz a4;have b2:b8<(lo 6):=nLL z8 ao;refine yz 12 (.tuple #[.agg #[.slice bg (List.length XI) XI.length],.bool a5]) b9 nu (yz 20 (.agg #[.slice AZ (List.length XI) XI.length]) bj nu (yz 10 (.pointer (some ⟨ab,0,none⟩)) bk nu (IZ (k':=3) kR (Dz (listed':=#[true,true,true,true,true,true,true,true,true,false,true,false,false]) kR (Ov 9 rfl (fun _=>yW (v:=_) rfl rfl) ?_)))));refine X8 [11] kR rfl ⟨fun o a1=>?_,trivial⟩;cases sI a1;refine zV a2 (fun w10 hq s13=>?_);replace a2:=hq;refine qY (e_A (listed':=#[true,true,true,true,true,true,true,true,true,true,true,true,false]) (by rfl) (Ov 12 rfl (fun _=>oz (v:= .bool _) rfl) (Dj kR ?_)));refine e_R ⟨agA,?_⟩;replace a3:=a3.tr1 s13 oG;exact⟨ab,AZ,_,_,rfl,rfl,hB.u,a2,⟨_,a9.u⟩,by omega,a3,nLT hsz ao,b2,an⟩
 obtain⟨ab,AZ,lz,hz,h10,h11,hB,a2,⟨z8v,a9⟩,ba,a3,hlz,b2,an⟩:=hI;refine vZ 10 _ h10 nu (vZ 11 _ h11 nu (e_S (xQ ?_)));rcases Bool.eq_false_or_eq_true (a5)with hok|hok
 ·refine zQ 11 _ (ag hok) nu ?_;refine Fy 10 [22,23,24,25,26,27,28,29,9] [b8] (fun ix v wv=>match ix with|0=>v= .agg #[.slice AZ (List.length XI) XI.length]|1=>v= .bool true|2=>v= .bool true|3=>v= .pointer (some ⟨ab,0,none⟩)|4=>v= .slice AZ (List.length XI) XI.length|5=>v= .int .i64 ((XI.length:Nat):Int)|6=>v= .bool (decide (((XI.length:Nat):Int)<=60))|7=>v= .bool (decide (((XI.length:Nat):Int)<=60))|8=>Blk wv b8 28 #[.slice AZ (List.length XI) XI.length]|9=>v= .bool (decide (((XI.length:Nat):Int)<=60))|_=>True) (fun wq=>(∃ z,Blk wq b8 28 #[z])/\Kept lz hz wq (fun w3=>NodesIn w3 AZ XI)) kR kR ?_ ?_ ⟨⟨_,a9⟩,(by first|exact a3|exact a3.tr0 s4|exact a3.tr1 b3 (.inl b2))⟩ ?_ ?_
  ·intro ix v wv bm h s14
   match ix,h with
   | 0,h=>exact h
   | 1,h=>exact h
   | 2,h=>exact h
   | 3,h=>exact h
   | 4,h=>exact h
   | 5,h=>exact h
   | 6,h=>exact h
   | 7,h=>exact h
   | 8,h=>exact(show Blk wv b8 28 #[.slice AZ (List.length XI) XI.length]from h).tr0 s14
   | 9,h=>exact h
   | _+10,h=>exact trivial
  ·intro wv bm h s15;obtain⟨⟨z1,a9⟩,a3⟩:=h;exact⟨⟨_,a9.u⟩,(by first|exact a3|exact a3.tr0 s15|exact a3.tr1 b3 (.inl b2))⟩
  ·intro ix o hix a1 gg wx s16 hJ hd
   match ix,hix,a1 with
   | 0,_,a1=>
    cases sI a1;replace a2:=a2.tr s16 (fun hx=>by simp only[List.mem_cons,List.not_mem_nil,or_false]at hx;omega);refine gdA ?_;show OS _ _ _ _ _ _;exact oVq (qw U28 rfl rfl a2.range0 yY) rfl
   | 1,_,a1=>
    cases sI a1;refine gdA ?_;show OS _ _ _ _ _ _;exact oVq (x6 (v:= .bool _) rfl) rfl
   | 2,_,a1=>
    cases sI a1;have d1:gg 23= .bool true:=hd 1 _ (zj kR) rfl;have bx:=d1;refine gdA ?_;show OS _ _ _ _ _ _;refine zq 23 _ bx nu ?_;exact oVq (x6 (v:= .bool _) rfl) rfl
   | 3,_,a1=>
    cases sI a1;have d2:gg 24= .bool true:=hd 2 _ (zj kR) rfl;have a8:=d2;refine gz 24 true rfl a8 (fun _=>?_) (fun h=>absurd h dE);show OS _ _ _ _ _ _;refine zq 24 _ a8 nu ?_;exact oVq (jX U28 OY dE rfl rfl rfl) rfl
   | 4,_,a1=>
    cases sI a1;replace a2:=a2.tr s16 (fun hx=>by simp only[List.mem_cons,List.not_mem_nil,or_false]at hx;omega);have d2:gg 24= .bool true:=hd 2 _ (zj kR) rfl;have a8:=d2;have d3:gg 25= .pointer (some ⟨ab,0,none⟩):=hd 3 _ (zj kR) rfl;have e25:=d3;refine gz 24 true rfl a8 (fun _=>?_) (fun h=>absurd h dE);show OS _ _ _ _ _ _;refine zq 24 _ a8 nu (zq 25 _ e25 nu ?_);exact oVq (qj (v:= .slice _ _ _) U26 rfl rfl (a2.cell rfl)) rfl
   | 5,_,a1=>
    cases sI a1;have d2:gg 24= .bool true:=hd 2 _ (zj kR) rfl;have a8:=d2;have d4:gg 26= .slice AZ (List.length XI) XI.length:=hd 4 _ (zj kR) rfl;have e26:=d4;refine gz 24 true rfl a8 (fun _=>?_) (fun h=>absurd h dE);show OS _ _ _ _ _ _;refine zq 24 _ a8 nu (zq 26 _ e26 nu ?_);exact oVq (D4 U26 rfl) rfl
   | 6,_,a1=>
    cases sI a1;have d2:gg 24= .bool true:=hd 2 _ (zj kR) rfl;have a8:=d2;have d5:gg 27= .int .i64 ((XI.length:Nat):Int):=hd 5 _ (zj kR) rfl;have e27:=d5;refine gz 24 true rfl a8 (fun _=>?_) (fun h=>absurd h dE);show OS _ _ _ _ _ _;refine zq 24 _ a8 nu (zq 27 _ e27 nu ?_);exact oVq (r_leq rfl rfl) rfl
   | 7,_,a1=>
    cases sI a1;have d2:gg 24= .bool true:=hd 2 _ (zj kR) rfl;have a8:=d2;have d6:gg 28= .bool (decide (((XI.length:Nat):Int)<=60)):=hd 6 _ (zj kR) rfl;have e28:=d6;refine gdA ?_;show OS _ _ _ _ _ _;refine zq 24 _ a8 nu (zq 28 _ e28 nu ?_);exact oVq (r_pt (v:= .bool _) rfl rfl) rfl
   | 8,_,a1=>
    cases sI a1;have d0:gg 22= .agg #[.slice AZ (List.length XI) XI.length]:=hd 0 _ (zj kR) rfl;have bz:=d0;refine gdA ?_;show OS _ _ _ _ _ _;refine zq 22 _ bz nu ?_;obtain⟨⟨z1,a9⟩,a3⟩:=hJ;refine H3 (fun ops Q K=>?_);refine zV a9 (fun w2 hq b3=>?_);have K2:=K w2;refine K2 ⟨b3.weak (by simp),?_,hq,fun kx v ba h=>?_⟩
    ·replace a9:=hq;exact⟨⟨_,a9⟩,(by first|exact a3|exact a3.tr0 s16|exact a3.tr1 b3 (.inl b2))⟩
    match kx,ba,h with
    | 0,_,h=>exact h
    | 1,_,h=>exact h
    | 2,_,h=>exact h
    | 3,_,h=>exact h
    | 4,_,h=>exact h
    | 5,_,h=>exact h
    | 6,_,h=>exact h
    | 7,_,h=>exact h
    | 8,ba,_=>exact absurd rfl ba
    | 9,_,h=>exact h
    | _+10,_,_=>exact trivial
   | 9,_,a1=>
    cases sI a1;have d7:gg 29= .bool (decide (((XI.length:Nat):Int)<=60)):=hd 7 _ (zj kR) rfl;have bw:=d7;refine gdA ?_;show OS _ _ _ _ _ _;refine zq 29 _ bw nu ?_;exact oVq (oz (v:= .bool _) rfl) rfl
   | _+10,hix,_=>exact absurd hix oG
  intro gg w11 s17 hJ hR;replace hB:=hB.tr s17 (fun q hx=>by simp only[List.mem_cons,List.not_mem_nil,or_false]at hx;omega);have bq:Blk w11 b8 28 #[.slice AZ (List.length XI) XI.length]:=hR 8 _ rfl;replace a9:=bq;have d9:gg 9= .bool (decide (((XI.length:Nat):Int)<=60)):=hR 9 _ rfl;have e9:=d9;refine x8 9 _ e9 nu (zn3 ?_);refine uK (.inl rfl) rfl (zX U28 rfl rfl a9.range0 yY) rfl ?_;obtain⟨_,a3⟩:=hJ;refine⟨⟨AZ,XI,_,rfl,HV a3 hlz,?_⟩,hB⟩;have hst:=step_of ha.v.gx hb.gx bn an;rw[hok]at hst;exact hst
 refine zQ 11 _ (ag hok) nu ?_;refine Fy 10 [22,23,24,25,26,27,28,29,9] [b8] (fun ix v wv=>match ix with|0=>v= .agg #[.slice AZ (List.length XI) XI.length]|1=>v= .bool false|2=>v= .bool false|3=>v=undef|4=>v=undef|5=>v=undef|6=>v=undef|7=>v= .bool false|8=>Blk wv b8 28 #[.slice AZ (List.length XI) XI.length]|9=>v= .bool false|_=>True) (fun wq=>(∃ z,Blk wq b8 28 #[z])/\Kept lz hz wq (fun w3=>NodesIn w3 AZ XI)) kR kR ?_ ?_ ⟨⟨_,a9⟩,(by first|exact a3|exact a3.tr0 s4|exact a3.tr1 b3 (.inl b2))⟩ ?_ ?_
 ·intro ix v wv bm h s18
  match ix,h with
  | 0,h=>exact h
  | 1,h=>exact h
  | 2,h=>exact h
  | 3,h=>exact h
  | 4,h=>exact h
  | 5,h=>exact h
  | 6,h=>exact h
  | 7,h=>exact h
  | 8,h=>exact(show Blk wv b8 28 #[.slice AZ (List.length XI) XI.length]from h).tr0 s18
  | 9,h=>exact h
  | _+10,h=>exact trivial
 ·intro wv bm h s19;obtain⟨⟨z1,a9⟩,a3⟩:=h;exact⟨⟨_,a9.u⟩,(by first|exact a3|exact a3.tr0 s19|exact a3.tr1 b3 (.inl b2))⟩
 ·intro ix o hix a1 gg wx s20 hJ hd
  match ix,hix,a1 with
  | 0,_,a1=>
   cases sI a1;replace a2:=a2.tr s20 (fun hx=>by simp only[List.mem_cons,List.not_mem_nil,or_false]at hx;omega);refine gdA ?_;show OS _ _ _ _ _ _;exact oVq (qw U28 rfl rfl a2.range0 yY) rfl
  | 1,_,a1=>
   cases sI a1;refine gdA ?_;show OS _ _ _ _ _ _;exact oVq (x6 (v:= .bool _) rfl) rfl
  | 2,_,a1=>
   cases sI a1;have d1:gg 23= .bool false:=hd 1 _ (zj kR) rfl;have bx:=d1;refine gdA ?_;show OS _ _ _ _ _ _;refine zq 23 _ bx nu ?_;exact oVq (x6 (v:= .bool _) rfl) rfl
  | 3,_,a1=>
   cases sI a1;have d2:gg 24= .bool false:=hd 2 _ (zj kR) rfl;have a8:=d2;exact gz 24 false rfl a8 (fun h=>absurd h dE) (fun _=>rfl)
  | 4,_,a1=>
   cases sI a1;have d2:gg 24= .bool false:=hd 2 _ (zj kR) rfl;have a8:=d2;have d3:gg 25=undef:=hd 3 _ (zj kR) rfl;have e25:=d3;exact gz 24 false rfl a8 (fun h=>absurd h dE) (fun _=>rfl)
  | 5,_,a1=>
   cases sI a1;have d2:gg 24= .bool false:=hd 2 _ (zj kR) rfl;have a8:=d2;have d4:gg 26=undef:=hd 4 _ (zj kR) rfl;have e26:=d4;exact gz 24 false rfl a8 (fun h=>absurd h dE) (fun _=>rfl)
  | 6,_,a1=>
   cases sI a1;have d2:gg 24= .bool false:=hd 2 _ (zj kR) rfl;have a8:=d2;have d5:gg 27=undef:=hd 5 _ (zj kR) rfl;have e27:=d5;exact gz 24 false rfl a8 (fun h=>absurd h dE) (fun _=>rfl)
  | 7,_,a1=>
   cases sI a1;have d2:gg 24= .bool false:=hd 2 _ (zj kR) rfl;have a8:=d2;have d6:gg 28=undef:=hd 6 _ (zj kR) rfl;have e28:=d6;refine gdA ?_;show OS _ _ _ _ _ _;refine zq 24 _ a8 nu ?_;exact oVq (r_pf (v:= .bool _) rfl rfl) rfl
  | 8,_,a1=>
   cases sI a1;have d0:gg 22= .agg #[.slice AZ (List.length XI) XI.length]:=hd 0 _ (zj kR) rfl;have bz:=d0;refine gdA ?_;show OS _ _ _ _ _ _;refine zq 22 _ bz nu ?_;obtain⟨⟨z1,a9⟩,a3⟩:=hJ;refine H3 (fun ops Q K=>?_);refine zV a9 (fun w2 hq b3=>?_);have K2:=K w2;refine K2 ⟨b3.weak (by simp),?_,hq,fun kx v ba h=>?_⟩
   ·replace a9:=hq;exact⟨⟨_,a9⟩,(by first|exact a3|exact a3.tr0 s20|exact a3.tr1 b3 (.inl b2))⟩
   match kx,ba,h with
   | 0,_,h=>exact h
   | 1,_,h=>exact h
   | 2,_,h=>exact h
   | 3,_,h=>exact h
   | 4,_,h=>exact h
   | 5,_,h=>exact h
   | 6,_,h=>exact h
   | 7,_,h=>exact h
   | 8,ba,_=>exact absurd rfl ba
   | 9,_,h=>exact h
   | _+10,_,_=>exact trivial
  | 9,_,a1=>
   cases sI a1;have d7:gg 29= .bool false:=hd 7 _ (zj kR) rfl;have bw:=d7;refine gdA ?_;show OS _ _ _ _ _ _;refine zq 29 _ bw nu ?_;exact oVq (oz (v:= .bool _) rfl) rfl
  | _+10,hix,_=>exact absurd hix oG
 intro gg w12 s21 hJ hR;replace hB:=hB.tr s21 (fun q hx=>by simp only[List.mem_cons,List.not_mem_nil,or_false]at hx;omega);have bq:Blk w12 b8 28 #[.slice AZ (List.length XI) XI.length]:=hR 8 _ rfl;replace a9:=bq;have d9:gg 9= .bool false:=hR 9 _ rfl;have e9:=d9;refine x8 9 _ e9 nu (zn3 ?_);refine uK (.inl rfl) rfl (zX U28 rfl rfl a9.range0 yY) rfl ?_;obtain⟨_,a3⟩:=hJ;refine⟨⟨AZ,XI,_,rfl,HV a3 hlz,?_⟩,hB⟩;have hst:=step_of ha.v.gx hb.gx bn an;rw[hok]at hst;exact hst
section
def DQ(U g:List Nd):List Nd:=U++g.map (shN U.length)
section all
variable {l:List Ty} {fs:List Ft} {gs:List (List Nd)}
theorem add_gy{U g:List Nd}(hU:GY l U)(hg:GY l g):GY l (DQ U g):=by
 have a3:(DQ U g).length=U.length+g.length:=by simp[DQ]
 have hp:=hU.pos;have a2:∀ i,i<U.length+g.length->¬i<U.length->nd (DQ U g) i=shN U.length (nd g (i-U.length))/\i-U.length<g.length:=fun i hi hn=>by
  have hl:i-U.length<g.length:=by omega
  have h:=J4 (U:=U) hl;rw[show U.length+(i-U.length)=i by omega]at h;exact⟨h,hl⟩
 have a1:∀ i,i<U.length->nd (DQ U g) i=nd U i:=fun i hi=>Zx hi
 refine⟨hU.vt,by omega,fun i hi=>?_,fun i hi=>?_,fun i hi x hx=>?_⟩<;>rw[a3]at hi<;>by_cases e:i<U.length
 ·rw[a1 i e];exact hU.tr i e
 ·rw[(a2 i hi e).1];exact hg.tr _ (a2 i hi e).2
 ·rw[a1 i e];exact hU.srt i e
 ·rw[(a2 i hi e).1]
  exact List.Pairwise.map _ (fun a b h=>h) (hg.srt _ (a2 i hi e).2)
 ·rw[a1 i e]at hx
  have:=hU.lr i e x hx;omega
 ·rw[(a2 i hi e).1]at hx
  obtain⟨y,hy,rfl⟩:=ax.1 hx;have:=hg.lr _ (a2 i hi e).2 y hy;show 0<=y.2+(U.length:Int)/\(y.2+(U.length:Int)).toNat<_;omega
structure LubL(l:List Ty)(gs:List (List Nd))(X:List Nd):Prop where
 gx:GX l X
 maps:∀ i (hi:i<gs.length),Maps l gs[i] X
 least:∀ c,GY l c->(∀ i (hi:i<gs.length),Maps l gs[i] c)->Maps l X c
 can:∃ o,DL X [0] [] o/\yq X o=X
theorem LubL.uniq{hs:List (List Nd)}{Y:List Nd}(h:LubL l gs X)(k:LubL l hs Y)(e1:∀ i (hi:i<gs.length),∃ j,∃ hj:j<hs.length,gs[i]=hs[j])(e2:∀ i (hi:i<hs.length),∃ j,∃ hj:j<gs.length,hs[i]=gs[j]):X=Y:=by
 obtain⟨o,ho,e⟩:=h.can;obtain⟨p,hp,e3⟩:=k.can;have:=can_eq h.gx k.gx (h.least Y k.gx.toGY (fun i hi=>by obtain⟨j,hj,e⟩:=e1 i hi;rw[e];exact k.maps j hj)) (k.least X h.gx.toGY (fun i hi=>by obtain⟨j,hj,e⟩:=e2 i hi;rw[e];exact h.maps j hj)) ho hp;rw[e,e3]at this;exact this.symm
end all
end
def GrsIn(w:World)(A:Option Addr)(L:List (List Nd)):Prop:=
 L.length<=vX/\(L≠[]->∃ b o,A=some ⟨b,o,none⟩/\b<w.heap.size/\∀ k (hk:k<L.length),∃ A' c,w.rangeAt b (o+k*1) [.slice A' (L[k]).length c]/\NodesIn w A' L[k])
theorem GrsIn.mono{w w':World}{A:Option Addr}{L:List (List Nd)}(h:GrsIn w A L)(hb:Bel w w'):GrsIn w' A L:=
 ⟨h.1,fun hn=>by
  obtain⟨b,o,e,hl,hc⟩:=h.2 hn
  refine⟨b,o,e,nLL hl hb.size,fun k hk=>?_⟩
  obtain⟨A',c,h1,h2⟩:=hc k hk
  exact⟨A',c,hb.range hl h1,h2.mono hb⟩⟩
theorem GrsIn.at_{w':World}{A:Option Addr}{L:List (List Nd)}(h:GrsIn w A L)(hb:Bel w w'){k:Nat}(hk:k<L.length):
  ∃ b o A' c,A=some ⟨b,o,none⟩/\w'.rangeAt b (o+k*1) [.slice A' (L[k]).length c]/\NodesIn w A' L[k]:=by
 obtain⟨b,o,e,hl,hc⟩:=h.2 (by rintro rfl;simp at hk);obtain⟨A',c,h1,h2⟩:=hc k hk;exact⟨b,o,A',c,e,hb.range hl h1,h2⟩
theorem PoolAt.fr{w w2:World}{ob bp:Nat}{c0 c1:Value}{n:Nat}{PA TA LA:Option Addr}{cp ct cl:Nat}{P:Nat->Nat}{T:Nat->Int}{V:Nat->Value}{L:Nat->List (Int×Int)}(h:PoolAt w ob bp c0 c1 n PA TA LA cp ct cl P T V L)(hf:FrSame bp w w2)(hbo:bp<ob):PoolAt w2 ob bp c0 c1 n PA TA LA cp ct cl P T V L:=
 have a1:FrSame ob w w2:=⟨hf.size,fun b hb hl=>hf.blk b oG hl⟩
 ⟨hf.at_ h.bp (ai _),h.pa.fr (ai _) a1,h.ta.fr (ai _) a1,h.la.fr (ai _) a1,fun x hx=>((h.rows x hx).fr a1).up hf.size,h.dis⟩
theorem grs_two{b t:Nat}{G2:Option Addr}{c2:Nat}(h:Blk w b t #[.slice G1 ga.length c1,.slice G2 gb.length c2])(h1:NodesIn w G1 ga)(h2:NodesIn w G2 gb):GrsIn w (some ⟨b,0,none⟩) [ga,gb]:=
 ⟨by show 2<=vX;decide,fun _=>⟨b,0,rfl,h.lt,fun k hk=>by
  match k,hk with
  | 0,_=>exact⟨G1,c1,(fun j v hj=>by match j,hj with|0,hj=>cases hj;exact h.cell rfl|_+1,hj=>cases hj),h1⟩
  | 1,_=>exact⟨G2,c2,(fun j v hj=>by match j,hj with|0,hj=>cases hj;exact h.cell rfl|_+1,hj=>cases hj),h2⟩⟩⟩
set_option maxRecDepth 100000 in
set_option maxHeartbeats 2000000 in
theorem mother_any(w:World)(hG1:NodesIn w G1 ga)(ha:Jok l fs m ga)(hm0:0<=m):Calls Tryz.prog 48 #[.agg #[.slice G1 ga.length c1]] w fun e w'=>(∃ A o,DL ga [(plc ga 0).toNat] [] o/\e= .returned (.agg #[.slice A o.length o.length])/\∀ w2,FrSame w.heap.size w' w2->NodesIn w2 A (yq ga o))/\Bel w w':=by
 have hjl:=ha.lt (aP _) hm0;have a4:=ha.v.gx.pos;obtain⟨oM,hoM⟩:=ha.v.gx.toGY.dl hjl;have hpa:=H0 ha (aP _) hm0;refine enT Tryz.func48 Tryz.ntmps48 rfl rfl fun hB=>?_;refine zn2 ?_;refine qv (cs:=#[_]) rfl (fun b1 w1 hb1 s1 hr=>?_);have lo1:=hB.ob hr;refine qQ (cs:=#[.slice none 0 0]) u6 rfl (fun b2 w2 a1 s2 hr=>?_);have:=hb1.ob hr;have lo2:=hB.u.ob hr;refine zn3 ?_;replace hB:=hB.tr0 (s1.t s2);have hsz:=Bel.size hB;have z2:=a1.lt;refine gY [] [4] [0,1,2,3,4] rfl (fun w3 s3=>?_);have a2:=s3;refine zn2 ?_;replace hB:=hB.tr0 s3;refine hcl (fun v wv=>v= .int .i64 (((plc ga 0).toNat:Nat):Int)) rfl kR (MY G1 c1 fs.length ga 0 0 w3 (hG1.mono hB) a4 (Iw ha.v.lo 0 a4) (by have:=ha.v.gok.few 0 a4;have:=ha.v.few;omega)) rfl (fun e' w2 hr=>?_) (fun v5 w4 s4 d5=>?_)
 ·obtain⟨rfl,s5⟩:=hr;exact⟨_,rfl,sB s5,(congrArg (Value.int .i64) hpa)⟩
 have e5:=d5;subst e5;replace hB:=hB.tr0 s4;refine hcl (fun v wv=>∃ AZ lz hz,v= .agg #[.slice AZ oM.length oM.length]/\Kept lz hz wv (fun wq=>NodesIn wq AZ (yq ga oM))/\w2.heap.size<=lz) rfl kR (from_any G1 c1 l.length fs.length ga (plc ga 0).toNat w4 (hG1.mono hB) ha.v.gok (by have:=ha.v.few;omega) hjl) rfl (fun e' w2 hr=>?_) (fun v6 w5 s6 d6=>?_)
 ·obtain⟨⟨o9,A9,hd9,_,rfl,hN9⟩,s7⟩:=hr;replace a2:=a2.t s4;exact⟨_,rfl,sB s7,(by obtain rfl:=DL.det hd9 hoM;exact⟨A9,_,_,rfl,Iy hN9,a2.size⟩)⟩
 obtain⟨AZ,lz,hz,e6,a3,hlz⟩:=d6;subst e6;refine h1 rfl ?_;refine zV a1.u (fun w6 hq s8=>?_);have hsH4:=s8;replace a1:=hq;refine qY (O9 [] (zn3 ?_));refine xK (.inl rfl) rfl (zX U28 rfl rfl a1.range0 yY) ?_;replace a3:=a3.tr1 s8 oG;exact⟨⟨AZ,oM,hoM,rfl,HV a3 (nLT hsz hlz)⟩,hB.u⟩
section
section mn
variable {l:List Ty} {fs:List Ft} {ks:List (List Nd)}
end mn
theorem C5{r:Lr}(h:(qW l fs).1=0)(h2:(y9 l fs r.gr).1=0)(h3:gK r.gr 1=true):Jok l fs 1 r.gr:=
 jok_rule (r:=⟨⟨#[]⟩,r.gr,1,0,r.mean⟩) h h2 h3 (show (1:Int)<=3 by decide)
end
theorem lex_of{x:Lx}(h:Yy l fs x=0):yV x.word=true/\¬Kj x/\(y9 l fs x.gr).1=0:=by
 cases h0:yV x.word with
 | false=>rw[C6 h0]at h;cases h
 | true=>
  by_cases h1:Kj x
  ·rw[H8 h0 h1]at h;cases h
  ·by_cases h2:(y9 l fs x.gr).1=0
   ·exact⟨rfl,h1,h2⟩
   ·rw[lx_gr h0 h1 h2]at h;exact absurd h h2
theorem add_size{r:Lr}(h:¬Iv r):r.add.size<=120:=by
 by_cases e:r.add=⟨#[]⟩
 ·rw[e];exact ah _
 ·cases k:yV r.add with
  | true=>exact OQ k
  | false=>exact absurd (.inr (.inr ⟨e,k⟩)) h
theorem u7:(prog.info? 38).map (·.size)=some 9:=by kernel_rfl
theorem X0:(prog.info? 38).map (·.zero)=some (some (.agg cE)):=by kernel_rfl
theorem lapply2_any(l:List Ty)(fs:List Ft)(r:Lr)(x:Lx)(G SA BA Gx Sx Bx:Option Addr)(cg cs cb cgx c1 c2:Nat)(bu bd:Nat)(w:World)(bz:TabIn w)(hU:U8In w)(hTI:TableIn w l bu bd)(h0:(qW l fs).1=0)(hr:lrF l fs r=0)(hx:Yy l fs x=0)(hP:LrP w r G SA BA)(hGx:NodesIn w Gx x.gr)(hSx:SimsIn w Sx x.mean.type.args)(hTx:TmsIn w Bx x.mean.args):Calls Tryz.prog 28 #[tabV l.length bu bd,.agg (cF r G cg (r.mean) SA cs BA cb),.agg (cA x Gx cgx (x.mean) Sx c1 Bx c2)] w fun e w'=>(∃(ok:Bool) (Y:List Nd) (z:Lx) (A5 A6 B6:Option Addr) (c5 c6 d6:Nat),e= .returned (.tuple #[.agg (cA (z) A5 c5 ((z).mean) A6 c6 B6 d6),.bool ok])/\z=lxR r x ok Y/\Hv w.heap.size [] w'.heap.size w' (fun w=>NodesIn w A5 z.gr/\SimsIn w A6 z.mean.type.args/\TmsIn w B6 z.mean.args)/\LrS l r x ok Y)/\Bel w w':=by
 obtain⟨hnm,hbd,hin,hpl,htm⟩:=O2 hr;obtain⟨hxw,hxb,hxi⟩:=lex_of hx;have hJ:=C5 h0 hin hpl;have hgx:=(J7 h0 hxi).1;have hwz:=OQ hxw;have haz:=add_size hnm;have hsz:=RX x.word r.cut;have hwl:(wdL r x).size=(Bq x.word r.cut).size+r.add.size:=by unfold wdL;rw[ByteArray.size_append]
 unfold Yv at hbd;unfold Kj at hxb;refine enT Tryz.func28 Tryz.ntmps28 rfl rfl fun hB=>?_;refine zn2 ?_;refine qv (cs:=#[_,_]) rfl (fun b3 w1 a8 s1 hr=>?_);have lo3:=hB.ob hr;clear hr;refine qv (cs:=#[_,_,_,_,_,_,_,_,_,_,_]) rfl (fun b4 w2 a4 s2 hr=>?_);have:=a8.ob hr;have lo4:=hB.u.ob hr;clear hr;refine qv (cs:=#[_,_,_,_,_,_,_,_,_]) rfl (fun b5 w3 a5 s3 hr=>?_);have:=a8.u.ob hr;have:=a4.ob hr;have lo5:=hB.u.ob hr;clear hr;refine qQ (cs:=cE) X0 rfl (fun b6 w4 a1 s4 hr=>?_);have:=a8.u.ob hr;have:=a4.u.ob hr;have:=a5.ob hr;have lo6:=hB.u.ob hr;clear hr;refine zn9 ?_;refine zW kR (cutss_any x.word r.cut _ oG hP.c) rfl (fun e' w5 hr=>?_);obtain⟨rfl,rfl⟩:=hr;refine⟨_,rfl,?_⟩;refine wmT rfl (wl (yW (v:= .string _) rfl rfl) (wl (yW (v:= .bool _) rfl rfl) (yj ?_)));refine wl (P8 rfl rfl (by show (Bq x.word r.cut).size+r.add.size<=_;omega)) (zn4 ?_);refine xv (rg [] 25 15) (fun g w'=>g 39= .bool (decide (¬Ow r x))/\Bel w w'/\Blk w' b3 78 #[.slice (some ⟨bu,0,none⟩) l.length l.length,.slice (some ⟨bd,0,none⟩) l.length l.length]/\Blk w' b4 36 (cF r G cg (r.mean) SA cs BA cb)/\Blk w' b5 38 (cA x Gx cgx (x.mean) Sx c1 Bx c2)/\Blk w' b6 38 cE) ?_ (fun g3 w6 hI=>?_)
 ·refine zn4 ?_;refine uv 27 rfl (fun g27=>?_) (fun g27=>?_)
  ·refine uJ ?_;refine e_R ⟨agA,?_⟩;replace hB:=hB.tr0 (s1.t (s2.t (s3.t s4)));replace a8:=a8.tr0 (s2.t (s3.t s4));replace a4:=a4.tr0 (s3.t s4);replace a5:=a5.tr0 s4
   exact⟨by
     first
     | exact ag (wdo1 (by grind[JQ]))
     | exact ag (wdo2 b8)
     | exact ag (wdo3 (by grind[JQ]) b8),hB,a8,a4,a5,a1⟩
  refine zn3 ?_;refine a7 kR (Ck (wdL r x) _ (hU.mono hB.u) oG) rfl (fun w7 s5=>?_);refine zn4 ?_;refine uv 32 rfl (fun b8=>?_) (fun b8=>?_)
  ·refine zn8 ?_;refine e_R ⟨agA,?_⟩;replace hB:=hB.tr0 (s1.t (s2.t (s3.t (s4.t s5))));replace a8:=a8.tr0 (s2.t (s3.t (s4.t s5)));replace a4:=a4.tr0 (s3.t (s4.t s5));replace a5:=a5.tr0 (s4.t s5);replace a1:=a1.tr0 s5
   exact⟨by
     first
     | exact ag (wdo1 (by grind[JQ]))
     | exact ag (wdo2 b8)
     | exact ag (wdo3 (by grind[JQ]) b8),hB,a8,a4,a5,a1⟩
  refine zn9 ?_;refine wl (uW (c:=(x.wt+r.wt)) rfl rfl rfl oG) (zn4 ?_);refine e_R ⟨agA,?_⟩;replace hB:=hB.tr0 (s1.t (s2.t (s3.t (s4.t s5))));replace a8:=a8.tr0 (s2.t (s3.t (s4.t s5)));replace a4:=a4.tr0 (s3.t (s4.t s5));replace a5:=a5.tr0 (s4.t s5);replace a1:=a1.tr0 s5
  exact⟨by
    first
    | exact ag (wdo1 (by grind[JQ]))
    | exact ag (wdo2 b8)
    | exact ag (wdo3 (by grind[JQ]) b8),hB,a8,a4,a5,a1⟩
 obtain⟨h39,hB,a8,a4,a5,a1⟩:=hI;refine vZ 39 _ h39 nu (e_S ?_);refine zZ rfl (fun c4=>?_) (fun c4=>?_)
 ·refine zn2 ?_;refine jW (cs:=cE) ?_;refine zV a1 (fun w8 hq s6=>?_);replace a1:=hq;refine zn5 ?_;refine uK (.inl rfl) rfl (zX U38 rfl rfl a1.range0 u7) rfl ?_;exact⟨⟨false,[],lx0,none,none,none,0,0,0,rfl,rfl,Hv.triv _ _ _ (fun w=>⟨ov w none,.nil,.nil⟩),Pw (.inl (fun k=>c4 k.1))⟩,hB.u⟩
 have hwd:=au.1 c4;refine zn6 ?_;refine wl (qw U28 rfl rfl (a4.sub (n:=1) (xs:=[_]) rfl) Y6) (zn1 ?_);refine wl (qw U28 rfl rfl (a5.sub (n:=1) (xs:=[_]) rfl) Y6) ?_;obtain⟨l3,bw⟩:∃ z,z=w6.heap.size:=⟨_,rfl⟩
 have l36:b6<l3:=by rw[bw];exact a1.lt
 refine zW kR (step_any (m:=1) (f:=1) _ (bz.mono hB) (hTI.mono hB) (hP.g.mono hB) (hGx.mono hB) hJ hgx dE dE) rfl (fun e' w9 hr=>?_);obtain⟨⟨A3,X3,ok3,rfl,c0,hS3⟩,s7⟩:=hr;replace s7:=sB s7;rw[<- bw]at c0;clear bw;have a2:=Hv.fr c0;clear c0;refine⟨_,rfl,?_⟩;refine wmT rfl (wl (yW (v:= .agg _) rfl rfl) (wl (yW (v:= .bool _) rfl rfl) ?_));refine qQ (cs:=#[.slice none 0 0]) u6 rfl (fun b10 w10 b1 s8 hr=>?_);have:=a8.u.ob hr;have:=a4.u.ob hr;have:=a5.u.ob hr;have:=a1.u.ob hr;have an:=(nLT a2.le hr)
 have bq:=hB.u.ob hr;clear hr;refine zV b1 (fun w11 hq s9=>?_);replace a2:=a2.tr0 s8;replace a2:=a2.tr s9 (fun g hg=> .inr (.inr (by rw[List.mem_singleton.1 hg];exact an)));replace b1:=hq;refine yj ?_;refine jv rfl (fun c3=>?_) (fun c3=>?_)
 ·have b2:ok3=false:=by simpa using c3
  refine zn2 ?_;refine jW (cs:=cE) ?_;refine zV a1.u (fun w12 hq s10=>?_);replace a1:=hq;refine zn5 ?_;refine uK (.inl rfl) rfl (zX U38 rfl rfl a1.range0 u7) rfl ?_;exact⟨⟨false,[],lx0,none,none,none,0,0,0,rfl,rfl,Hv.triv _ _ _ (fun w=>⟨ov w none,.nil,.nil⟩),Pw (.inr (join_no (step_no hS3 b2)))⟩,hB.u⟩
 have b2:ok3=true:=by simpa using c3
 obtain⟨hU3,h60⟩:=step_yes hS3 b2;have hJ3:Jok l fs 1 X3:=hJ.step hgx dE dE hU3 h60;refine zn5 ?_;refine wl (qw U34 rfl rfl (a4.u.sub (n:=6) (xs:=[_,_,_,_,_,_]) rfl) uw) (zn1 ?_);refine wl (qw U34 rfl rfl (a5.u.sub (n:=6) (xs:=[_,_,_,_,_,_]) rfl) uw) ?_;obtain⟨l6,bj⟩:∃ z,z=w11.heap.size:=⟨_,rfl⟩
 replace hB:=(hB.tr0 (s7.t s8)).tr1 s9 bq;have bv:w.heap.size<=l6:=by rw[bj];exact Bel.size hB
 replace a1:=(a1.tr0 (s7.t s8)).tr1 s9 oG;have l66:b6<l6:=by rw[bj];exact a1.lt
 refine zW kR (G0 r.mean x.mean SA BA Sx Bx cs cb c1 c2 _ (hP.s.mono hB) (hP.t.mono hB) (hSx.mono hB) (hTx.mono hB)) rfl (fun e' w13 hr=>?_);obtain⟨⟨A6,B6,c6,d6,zt,fc,fi,rfl,hap,hzq,a3⟩,ba⟩:=hr;replace ba:=sB ba;rw[<- bj]at a3;clear bj;refine⟨_,rfl,?_⟩;refine wmT rfl (wl (yW (v:= .agg _) rfl rfl) (wl (yW (v:= .agg _) rfl rfl) ?_));refine qQ (cs:=cG) oK rfl (fun b11 w14 b7 bi hr=>?_);have:=a8.u.ob hr;have:=a4.u.ob hr;have:=a5.u.ob hr;have:=a1.u.ob hr;replace a2:=a2.tr0 ba;have ad:=(nLT a2.le hr)
 have:=b1.u.ob hr;have ab:=(nLT a3.le hr)
 have bo:=hB.u.ob hr;clear hr;refine qQ (cs:=#[.int .i64 0,.int .i64 0]) qV rfl (fun b12 w15 bc bh hr=>?_);have:=a8.u.ob hr;have:=a4.u.ob hr;have:=a5.u.ob hr;have:=a1.u.ob hr;replace a2:=a2.tr0 bi;have ac:=(nLT a2.le hr)
 have:=b1.u.ob hr;replace a3:=a3.tr0 bi;have a9:=(nLT a3.le hr)
 have:=b7.ob hr;have bn:=hB.u.ob hr;clear hr;refine zV b7.u (fun w16 hq bg=>?_);replace a2:=a2.tr0 bh;replace a2:=a2.tr bg (fun g hg=> .inr (.inr (by rw[List.mem_singleton.1 hg];exact ad)));replace a3:=a3.tr0 bh;replace a3:=a3.tr bg (fun g hg=> .inr (.inr (by rw[List.mem_singleton.1 hg];exact ab)));replace b7:=hq;refine zV bc.u (fun w17 hq bf=>?_);replace a2:=a2.tr bf (fun g hg=> .inr (.inr (by rw[List.mem_singleton.1 hg];exact ac)));replace a3:=a3.tr bf (fun g hg=> .inr (.inr (by rw[List.mem_singleton.1 hg];exact a9)));replace bc:=hq;refine yj ?_;refine zZ rfl (fun bk=>?_) (fun bk=>?_)
 ·have hno:¬T7 r.mean x.mean:=fun k=>bk (hap.2 k)
  refine zn2 ?_;refine jW (cs:=cE) ?_;refine zV a1.u (fun w18 hq s16=>?_);replace a1:=hq;refine zn5 ?_;refine uK (.inl rfl) rfl (zX U38 rfl rfl a1.range0 u7) rfl ?_;exact⟨⟨false,[],lx0,none,none,none,0,0,0,rfl,rfl,Hv.triv _ _ _ (fun w=>⟨ov w none,.nil,.nil⟩),Pw (.inl (fun k=>hno k.2))⟩,hB.u⟩
 have br:=hap.1 (ak.1 bk);have hzt:=hzq (ak.1 bk);refine zn3 ?_;replace a1:=((a1.tr0 (ba.t (bi.t bh))).tr1 bg oG).tr1 bf oG;have z6:=a1.lt;replace hB:=((hB.tr0 (ba.t (bi.t bh))).tr1 bg bo).tr1 bf bn;have bt:=Bel.size hB;refine gY [] [10] [0,1,3,4,5,6,7,8,2,9,10,11] rfl (fun w19 be=>?_);have hs0:=be;refine zn6 ?_;refine hl rfl (fun _=>uW (c:=(x.wt+r.wt)) rfl rfl rfl oG) (zn1 ?_);replace a2:=a2.tr0 be;refine hcl (fun v wv=>∃ A o n,v= .agg #[.slice A o.length o.length]/\DL X3 [(plc X3 0).toNat] [] o/\Hv w17.heap.size [] n wv (fun w=>NodesIn w A (yq X3 o))) rfl kR (mother_any (m:=1) w19 a2.now hJ3 dE) rfl (fun e' w2 hr=>?_) (fun v67 w20 bm d67=>?_)
 ·obtain⟨⟨A9,o9,hd9,rfl,hN9⟩,s19⟩:=hr;exact⟨_,rfl,sB s19,⟨A9,o9,_,rfl,hd9,(Hv.fr hN9).mono hs0.size (ai _) (ai _)⟩⟩
 obtain⟨A67,bb,n67,e67,bx,ao⟩:=d67;subst e67;refine hl rfl (fun _=>r_bd4 (v0:= .string _) (v1:= .agg _) (v2:= .int _ _) (v3:= .agg _) (fun v0 v1 v2 v3=>#[v0,(qy v1 0),v2,(qy v3 0),(qy v3 1),(qy v3 2),(qy v3 3),(qy v3 4),(qy v3 5)]) rfl rfl rfl rfl kR) (h1 rfl ?_);refine zV a1.u (fun w21 hq b9=>?_);have hsH10:=b9;replace a2:=a2.tr0 bm;replace a2:=a2.lo1 b9 l36;replace a3:=a3.tr0 (be.t bm);replace a3:=a3.lo1 b9 l66;replace ao:=ao.lo1 b9 z6;replace a1:=hq;refine qY (O9 [] (zn4 ?_));refine uK (.inl rfl) rfl (zX U38 rfl rfl a1.range0 u7) rfl ?_;replace hB:=(hB.tr0 (be.t bm)).tr1 b9 lo6;exact⟨⟨true,yq X3 bb,⟨wdL r x,yq X3 bb,x.wt+r.wt,zt⟩,A67,A6,B6,bb.length,c6,d6,congrArg (fun n=>Ending.returned (.tuple #[.agg #[.string (wdL r x),.slice A67 n bb.length,.int .i64 (x.wt+r.wt),.int .i64 (zt).kind,.string (zt).name,.int .i64 (zt).index,.string (zt).type.base,.slice A6 (zt).type.args.length c6,.slice B6 (zt).args.length d6],.bool true])) (by rw[uQ]),by rw[hzt];rfl,((ao.mono bt ao.le (ai _)).and (a3.mono bv a3.le (ai _))),lrs_yes hwd br (.inl ⟨X3,hU3,h60,rfl,bb,bx,rfl⟩)⟩,hB⟩
theorem T6(AT AF:Option Addr)(ct cf:Nat)(l:List Ty)(fs:List Ft)(r:Lr)(x:Lx)(G SA BA Gx Sx Bx:Option Addr)(cg cs cb bi bh bj:Nat)(w:World)(ab:TabIn w)(hU:U8In w)(hwx:x.word.size<9223372036854775807)(hTy:TypesIn w AT l)(hF:FeatsIn w AF fs)(hP:LrP w r G SA BA)(hGx:NodesIn w Gx x.gr)(hSx:SimsIn w Sx x.mean.type.args)(hTx:TmsIn w Bx x.mean.args):Calls Tryz.prog 5 #[.agg #[.slice AT l.length ct,.slice AF fs.length cf],.agg (cF r G cg (r.mean) SA cs BA cb),.agg (cA x Gx bi (x.mean) Sx bh Bx bj)] w fun e w'=>(∃(ok:Bool) (Y:List Nd) (z:Lx) (A5 A6 B6:Option Addr) (c5 c6 d6:Nat),e= .returned (.tuple #[.agg (cA (z) A5 c5 ((z).mean) A6 c6 B6 d6),.bool ok,.agg #[.int .i64 (apF l fs r x).1,.int .i64 (apF l fs r x).2]])/\Hv w.heap.size [] w'.heap.size w' (fun w=>NodesIn w A5 z.gr/\SimsIn w A6 z.mean.type.args/\TmsIn w B6 z.mean.args)/\((apF l fs r x).1=0->z=lxR r x ok Y/\LrS l r x ok Y)/\(¬(apF l fs r x).1=0->z=lx0/\ok=false))/\Bel w w':=by
 skip
 refine enT Tryz.func5 Tryz.ntmps5 rfl rfl fun hB=>?_;refine zn2 ?_;refine qv (cs:=#[_,_]) rfl (fun b3 w1 hb3 s1 hr=>?_);refine qv (cs:=#[_,_,_,_,_,_,_,_,_,_,_]) rfl (fun b4 w2 hb4 s2 hr=>?_);refine qv (cs:=#[_,_,_,_,_,_,_,_,_]) rfl (fun b5 w3 hb5 s3 hr=>?_);refine qQ (cs:=cE) X0 rfl (fun b6 w4 a2 s4 hr=>?_);have:=hb3.u.ob hr;have:=hb4.u.ob hr;have:=hb5.ob hr;have b7:=hB.u.ob hr;refine wl (oz (v:= .bool _) rfl) ?_;refine qQ (cs:=#[.int .i64 0,.int .i64 0]) qV rfl (fun b8 w5 a3 s5 hr=>?_);have:=hb3.u.ob hr;have:=hb4.u.ob hr;have:=hb5.u.ob hr;have:=a2.ob hr;have b2:=hB.u.ob hr;refine zn7 ?_;refine a7 kR (Sj AT AF ct cf l fs r G SA BA cg cs cb _ (ab.mono hB.u) (hU.mono hB.u) (hTy.mono hB.u) (hF.mono hB.u) (hP.mono hB.u)) rfl (fun w6 s6=>?_);refine y8 (cs:=#[.int .i64 0,.int .i64 0]) qV rfl (fun _=>rfl) (fun _=>rfl) zK rfl xW (fun b9 w8 hb9 s7 hr=>?_);have:=a2.u.ob hr;have:=a3.u.ob hr;refine zn9 ?_;refine zZ rfl (fun ao=>?_) (fun ao=>?_)
 ·refine xQ ?_;refine jY [b6,b8] [0,1,2,3,4] rfl (fun w9 s8=>?_);refine hl rfl (fun _=>Tx (vs:=#[]) (cs:=cE) (by simp) kR) (zn1 ?_);refine h1 rfl ?_;refine zV a2.u (fun w10 hq s9=>?_);have be:=s9;replace a2:=hq;refine qY (e_H (X':=[b8]) (Same.weak be (by simp)) (by simp) (zn1 ?_));refine h1 rfl ?_;refine zV a3.u (fun w11 hq s10=>?_);have bc:=s10;replace a3:=hq;refine qY (e_H (X':=[]) (Same.weak bc (by simp)) (by simp) (zn4 ?_));refine fin3 (.inl rfl) rfl (zX U38 rfl rfl a2.u.range0 u7) rfl (zX U45 rfl rfl a3.range0 zK) ?_;have hE:=ap_lr (x:=x) ao;replace hB:=((hB.tr0 (s1.t (s2.t (s3.t (s4.t (s5.t (s6.t (s7.t s8)))))))).tr1 s9 b7).tr1 s10 b2;exact⟨⟨false,[],lx0,none,none,none,0,0,0,by rw[hE];rfl,Hv.triv _ _ _ (fun w=>⟨ov w none,.nil,.nil⟩),fun k=>absurd k (by rw[hE];exact ao),fun _=>⟨rfl,rfl⟩⟩,hB⟩
 have hq0:=ak.1 ao;obtain⟨hrd,hrf⟩:=XW hq0;obtain⟨h0,hf3⟩:=J6 hrd;have hS:=Q0 h0;refine zn6 ?_;refine zW kR (N0 AT ct l _ (hTy.mono hB.u) hS.vt hS.le) rfl (fun e' w12 hr=>?_);obtain⟨bu,bd,rfl,bg,a5⟩:=hr;replace a5:=sB a5;obtain⟨wT,bb⟩:∃ x,x=w12:=⟨_,rfl⟩
 have hBT:Bel wT w12:=by rw[bb];exact Below.refl _ _
 rw[<- bb]at bg;clear bb;refine⟨_,rfl,?_⟩;refine y8 (cs:=#[.slice none 0 0,.slice none 0 0]) Cx rfl (fun _=>rfl) (fun _=>rfl) N1 rfl xW (fun b10 w14 hb10 ad hr=>?_);refine zn8 ?_;refine a7 kR (entry_any AT AF Gx Sx Bx ct cf bi bh bj bu bd l fs x _ (hU.mono hB.u) (bg.mono hBT.u) hS.le (hF.mono hB.u) (SK h0) (hGx.mono hB.u) (hSx.mono hB.u) (hTx.mono hB.u) hwx) rfl (fun w15 ac=>?_);refine zn9 ?_;refine zZ rfl (fun an=>?_) (fun an=>?_)
 ·refine zn2 ?_;refine jW (cs:=cE) (wmI rfl ?_);refine a7 kR (N9 (Yy l fs x) (-3) _) rfl (fun w16 s14=>?_);refine zV a2.u (fun w17 hq s15=>?_);replace a2:=hq;refine wl (oz (v:= .bool _) rfl) ?_;refine zV a3.u (fun w18 hq s16=>?_);replace a3:=hq;refine zn4 ?_;refine fin3 (.inl rfl) rfl (zX U38 rfl rfl a2.u.range0 u7) rfl (zX U45 rfl rfl a3.range0 zK) ?_;have hE:=ap_lx hq0 an;replace hB:=((hB.tr0 (s1.t (s2.t (s3.t (s4.t (s5.t (s6.t (s7.t (a5.t (ad.t (ac.t s14))))))))))).tr1 s15 b7).tr1 s16 b2;exact⟨⟨false,[],lx0,none,none,none,0,0,0,by rw[hE];rfl,Hv.triv _ _ _ (fun w=>⟨ov w none,.nil,.nil⟩),fun k=>absurd k (by rw[hE];exact an),fun _=>⟨rfl,rfl⟩⟩,hB⟩
 have hx:=ak.1 an;have hE:=ap_ok hq0 hx;refine zn7 ?_;obtain⟨l5,a8⟩:∃ z,z=w15.heap.size:=⟨_,rfl⟩
 replace hB:=hB.tr0 (s1.t (s2.t (s3.t (s4.t (s5.t (s6.t (s7.t (a5.t (ad.t ac)))))))));have bf:w.heap.size<=l5:=by rw[a8];exact Bel.size hB
 replace a2:=a2.tr0 (s5.t (s6.t (s7.t (a5.t (ad.t ac)))));have l56:b6<l5:=by rw[a8];exact a2.lt
 replace a3:=a3.tr0 (s6.t (s7.t (a5.t (ad.t ac))));have l58:b8<l5:=by rw[a8];exact a3.lt
 refine zW kR (lapply2_any l fs r x G SA BA Gx Sx Bx cg cs cb bi bh bj bu bd _ (ab.mono hB) (hU.mono hB) (bg.mono hBT.u) h0 hrf hx (hP.mono hB) (hGx.mono hB) (hSx.mono hB) (hTx.mono hB)) rfl (fun e' w19 hr=>?_);obtain⟨⟨ok,Y,z,A5,A6,B6,c5,c6,d6,rfl,hzr,a4,hLS⟩,b1⟩:=hr;replace b1:=sB b1;rw[<- a8]at a4;clear a8;refine⟨_,rfl,?_⟩;refine wmT rfl (wl (yW (v:= .agg _) rfl rfl) (wl (yW (v:= .bool _) rfl rfl) ?_));refine qQ (cs:=cE) X0 rfl (fun b12 w20 a9 s18 hr=>?_);have:=a2.u.ob hr;have:=a3.u.ob hr;have a1:=(nLT a4.le hr)
 have ba:=hB.u.ob hr;refine zV a9 (fun w21 hq s19=>?_);replace a4:=a4.tr0 s18;replace a4:=a4.tr s19 (fun g hg=> .inr (.inr (by rw[List.mem_singleton.1 hg];exact a1)));replace a9:=hq;refine zn7 ?_;refine jW (cs:=#[.int .i64 0,.int .i64 0]) ?_;refine zV a2.u (fun w22 hq s20=>?_);replace a4:=a4.lo1 s20 l56;replace a2:=hq;refine wl (oz (v:= .bool _) rfl) ?_;refine zV a3.u (fun w23 hq s21=>?_);replace a4:=a4.lo1 s21 l58;replace a3:=hq;refine zn3 ?_;refine fin3 (.inl rfl) rfl (zX U38 rfl rfl a2.u.range0 u7) rfl (zX U45 rfl rfl a3.range0 zK) ?_;replace hB:=(((hB.tr0 (b1.t s18)).tr1 s19 ba).tr1 s20 b7).tr1 s21 b2;exact⟨⟨ok,Y,z,A5,A6,B6,c5,c6,d6,by rw[hE];rfl,a4.mono bf a4.le (ai _),fun _=>⟨hzr,hLS⟩,fun k=>absurd (by rw[hE]) k⟩,hB⟩
end Go.Proofs.YtndbjnkilegebaaGreatDoor
