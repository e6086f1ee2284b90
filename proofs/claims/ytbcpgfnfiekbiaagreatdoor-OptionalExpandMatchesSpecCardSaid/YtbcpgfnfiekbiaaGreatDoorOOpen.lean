/- Maps between valid graphs: they compose, maps both ways are a renumbering, and a map keeps paths. No program in sight. What these functions of the program compute, at every world: . What these functions of the program compute, at every world: glosswright/glosswrightequal.Lex, glosswright/glosswrightequal.Lexes. What these functions of the program compute, at every world: glosswright/glosswrightequal.Rules. What these functions of the program compute, at every world: glosswright/glosswrightlaw4.OptionalExpandMatchesSpec. Arguments opened: graphs. Arguments opened: types and terms (structs that hold slices of themselves), rules, words and grammars; and the bounds of strings inside. Arguments that are rows of optional rules, opened. No program in sight. -/
import Derived.Test.YtbcpgfnfiekbiaaGreatDoorHom
import Derived.Test.YtbcpgfnfiekbiaaGreatDoorORd
import Derived.Test.YtbcpgfnfiekbiaaGreatDoorGrm
import Derived.Test.YtbcpgfnfiekbiaaGreatDoorGNodes
import Derived.Test.YtbcpgfnfiekbiaaGreatDoorU
import Derived.Test.YtbcpgfnfiekbiaaGreatDoorTrm
import Derived.Test.YtbcpgfnfiekbiaaGreatDoorEng7
import Derived.Test.YtbcpgfnfiekbiaaGreatDoorOEx
import Derived.Test.YtbcpgfnfiekbiaaGreatDoorOpen
import Derived.Test.YtbcpgfnfiekbiaaGreatDoorGLoose
import Derived.SizedLaws
import Derived.Test.YtbcpgfnfiekbiaaGreatDoorStk
namespace Go.Proofs.YtbcpgfnfiekbiaaGreatDoor
open Go.RowKit
section order
variable {l:List Ty} {fs:List Ft} {a b c:List Nd}
def Srt (xs:List (Int×Int)):Prop:=xs.Pairwise (fun x y=>x.1 < y.1)
theorem srt_of {nf n:Nat} {last:Int} {xs:List (Int×Int)} (h:yY nf n last xs=0):Srt xs:=by
  have hs:=(ZQ h).2;refine List.pairwise_iff_getElem.2 (fun i j hi hj hij=>hs i j hi hj hij)
theorem tgt_in {xs:List (Int×Int)} (hs:Srt xs) {x:Int×Int} (hx:x ∈ xs):tgt xs x.1=x.2:=by
  induction xs with
  | nil=>cases hx
  | cons y ys ih=>
    obtain⟨h1,h2⟩:=List.pairwise_cons.1 hs;rcases List.mem_cons.1 hx with e | e
    · subst e;simp [tgt]
    · have hne:¬y.1=x.1:=by have:=h1 x e;omega
      have:=ih h2 e;simp only [tgt,List.find?_cons,hne,decide_false] at this ⊢;exact this
theorem S6 {xs:List (Int×Int)} {f:Int} (h:0≤tgt xs f):(f,tgt xs f) ∈ xs:=by
  induction xs with
  | nil=>simp [tgt] at h
  | cons y ys ih=>
    by_cases e:y.1=f
    · have:tgt (y :: ys) f=y.2:=by simp [tgt,e]
      rw [this];have:(f,y.2)=y:=by rw [← e]
      rw [this];exact List.mem_cons_self ..
    · have:tgt (y :: ys) f=tgt ys f:=by simp [tgt,e]
      rw [this] at h ⊢;exact List.mem_cons_of_mem _ (ih h)
structure GY (l:List Ty) (a:List Nd):Prop where
  vt:VT l
  pos:0 < a.length
  tr:∀ i,i < a.length→0≤(nd a i).ty∧(nd a i).ty < l.length
  srt:∀ i,i < a.length→Srt (nd a i).ln
  lr:∀ i,i < a.length→∀ x ∈ (nd a i).ln,0≤x.2∧x.2.toNat < a.length
structure GX (l:List Ty) (a:List Nd):Prop extends GY l a where
  rch:∀ i,i < a.length→Rch a i
theorem GV.gx (h:GV l fs a):GX l a:=
  ⟨⟨h.s.vt,h.gok.pos,fun i hi=>by rw [kJ hi];exact h.gok.ty i hi,fun i hi=>by rw [kJ hi];exact srt_of (KV h.lo i hi),fun i hi x hx=>by
    rw [kJ hi] at hx
    have:=h.gok.ln i hi x hx
    omega⟩,h.rch⟩
theorem GV.lt (h:GV l fs a) {i:Nat} (hi:i < a.length) {x:Int×Int} (hx:x ∈ (nd a i).ln):0≤x.1∧x.1 < fs.length∧sub l (nd a i).ty.toNat (ftAt fs x.1).of.toNat=true∧sub l (nd a x.2.toNat).ty.toNat (ftAt fs x.1).val.toNat=true:=by
  rw [kJ hi] at hx;have h1:=h.gok.ln i hi x hx;have h0:tyN l fs a i=0:=jv (by rw [show x8 (tyN l fs a) 0 a.length=tyF l fs a from rfl,h.t]) _ (Nat.zero_le _) oM;have h2:P8 l fs a (a[i]).ty x=false:=by
    simp only [tyN,List.getElem?_eq_getElem hi] at h0;cases hb:P8 l fs a (a[i]).ty x with
    | false=>rfl
    | true=>rw [if_pos (List.any_eq_true.2 ⟨x,hx,hb⟩)] at h0;cases h0
  unfold P8 at h2;rw [show (BY a x.2).ty.toNat=(nd a x.2.toNat).ty.toNat from rfl,Bool.or_eq_false_iff] at h2;rw [kJ hi];simp only [Bool.not_eq_false'] at h2;exact⟨h1.1,h1.2.1,h2.1,h2.2⟩
theorem GY.rng (h:GY l a):∀ i,i < a.length→∀ t ∈ yK a i,t < a.length:=fun i hi t ht=>by
  simp only [yK,List.mem_map] at ht
  obtain⟨x,hx,rfl⟩:=ht
  exact(h.lr i hi x hx).2
theorem Hom.refl (h:GX l a):Hom l a a (fun i=>i):=
  ⟨rfl,fun _ hi=>hi,fun _ _=>Y4 h.vt _,fun i hi x hx=>by
    have:=h.lr i hi x hx
    rw [tgt_in (h.srt i hi) hx];omega⟩
theorem Hom.comp {φ ψ:Nat→Nat} (hl:VT l) (hφ:Hom l a b φ) (hψ:Hom l b c ψ):Hom l a c (fun i=>ψ (φ i)):=
  ⟨by show ψ (φ 0)=0;rw [hφ.zero,hψ.zero],fun i hi=>hψ.lt _ (hφ.lt i hi),fun i hi=>Iy hl (hψ.ty _ (hφ.lt i hi)) (hφ.ty i hi),fun i hi x hx=>by
    have h1:=hφ.ln i hi x hx
    have hm:=S6 (xs:=(nd b (φ i)).ln) (f:=x.1) oM
    rw [h1] at hm
    have:=hψ.ln _ (hφ.lt i hi) _ hm
    rw [Int.toNat_natCast] at this
    exact this⟩
theorem Maps.comp (hl:VT l) (h:Maps l a b) (k:Maps l b c):Maps l a c:=by
  obtain⟨φ,hφ⟩:=h;obtain⟨ψ,hψ⟩:=k;exact⟨_,hφ.comp hl hψ⟩
theorem Nx {r:Nat} {o:List Nat} (t:TrR a r o) {x:Nat} (hx:x ∈ o):nd (jY a o) (o.idxOf x)=trN (o.idxOf ·) (nd a x):=by
  rw [canG_nd hx];refine Lj rfl ?_;simp only [canN,trN];refine List.map_congr_left (fun y hy=>?_);simp only [X3,numO_in (t.mem hx hy)]
theorem dl_ex {g:List Nd} (hr:∀ i,i < g.length→∀ t ∈ yK g i,t < g.length):∀ (n:Nat) (is o:List Nat),jK g.length (Zj o)≤n→(∀ i ∈ is,i < g.length)→∃ o',DL g is o o'
  | n,[],o,_,_=>⟨o,.nil⟩
  | n,i :: is,o,hn,hi=>by
    have hil:=hi i (List.mem_cons_self ..)
    have his:∀ j ∈ is,j < g.length:=fun j hj=>hi j (List.mem_cons_of_mem _ hj)
    by_cases h:i ∈ o
    · obtain⟨o',h1⟩:=dl_ex hr n is o hn his
      exact⟨o',.old h h1⟩
    · have hl:=Vx hil h
      cases n with
      | zero=>omega
      | succ n=>
        obtain⟨o1,h1⟩:=dl_ex hr n (yK g i) (o ++ [i]) oM (hr i hil)
        have hm:jK g.length (Zj o1)≤jK g.length (Zj (o ++ [i])):=by
          unfold jK;refine List.countP_mono_left (fun x _ hx=>?_);simp only [Zj,Bool.not_eq_true',decide_eq_false_iff_not] at hx ⊢;exact fun k=>hx (h1.sub x k)
        obtain⟨o',h2⟩:=dl_ex hr n is o1 oM his;exact⟨o',.new h h1 h2⟩
theorem GY.dl (h:GY l a) {r:Nat} (hr:r < a.length):∃ o,DL a [r] [] o:=dl_ex h.rng _ [r] [] (Nat.le_refl _) (fun i hi=>by rw [List.mem_singleton.1 hi];exact hr)
theorem TrR.at_ {r:Nat} {o:List Nat} (t:TrR a r o) {j:Nat} (hj:j < (jY a o).length):∃ x,x ∈ o∧o.idxOf x=j∧o.getD j 0=x∧nd (jY a o) j=trN (o.idxOf ·) (nd a x):=by
  rw [oK] at hj;have hjo:=List.getElem_mem hj;have h1:=Nx t hjo;rw [Nq t.nodup hj] at h1;exact⟨o[j],hjo,Nq t.nodup hj,by simp [List.getD,hj],h1⟩
theorem TrR.gx {r:Nat} {o:List Nat} (t:TrR a r o) (ha:GY l a):GX l (jY a o):=by
  have hlen:=oK a o;have hrg:∀ i,i < (jY a o).length→∀ x ∈ (nd (jY a o) i).ln,0≤x.2∧x.2.toNat < (jY a o).length:=fun j hj x hx=>by
    obtain⟨y,hy,_,_,e⟩:=t.at_ hj;rw [e] at hx;obtain⟨z,hz,rfl⟩:=List.mem_map.1 hx;have:=(Qj (t.mem hy hz)).1;simp only [hlen];omega
  refine⟨⟨ha.vt,by rw [hlen];exact List.length_pos_of_mem t.has,fun j hj=>?_,fun j hj=>?_,hrg⟩,fun j hj=>?_⟩
  · obtain⟨y,hy,_,_,e⟩:=t.at_ hj
    rw [e];exact ha.tr _ (t.lt hy)
  · obtain⟨y,hy,_,_,e⟩:=t.at_ hj
    rw [e];exact List.pairwise_map.2 (ha.srt _ (t.lt hy))
  · have hd:=t.dl2 t.has t.dl
    rw [t.zero,map_idx t.nodup] at hd
    have hR:=hd.rch (fun i hi y hy=>by
      simp only [yK,List.mem_map] at hy;obtain⟨x,hx,rfl⟩:=hy
      exact(hrg i hi x hx).2) (fun i hi=>by rw [List.mem_singleton.1 hi,hlen];exact List.length_pos_of_mem t.has) (fun i hi=>by rw [List.mem_singleton.1 hi];exact .zero) (fun x hx=>by cases hx)
    exact hR j (List.mem_range.2 (by rw [← hlen];exact hj))
theorem Hom.part {φ:Nat→Nat} (h:Hom l a b φ) (hb:GX l b) {i:Nat} {oa ob:List Nat} (ta:TrR a i oa) (tb:TrR b (φ i) ob):Maps l (jY a oa) (jY b ob):=by
  have hmem:∀ x,x ∈ oa→φ x ∈ ob:=by
    have hR:∀ x,x ∈ oa→x ∈ oa∧φ x ∈ ob:=by
      have hw:=DL.within (o:=oa.filter (fun x=>decide (φ x ∈ ob))) (g:=a) (fun x hx t ht=>by
        simp only [List.mem_filter,decide_eq_true_eq] at hx ⊢;refine⟨ta.clo x hx.1 t ht,?_⟩;simp only [yK,List.mem_map] at ht;obtain⟨y,hy,rfl⟩:=ht;have h2:=h.ln x (ta.lt hx.1) y hy;have hm:=S6 (xs:=(nd b (φ x)).ln) (f:=y.1) oM;rw [h2] at hm;have:=tb.mem hx.2 hm
        rwa [Int.toNat_natCast] at this) ta.dl (fun z hz=>by
          rw [List.mem_singleton.1 hz];simp only [List.mem_filter,decide_eq_true_eq]
          exact⟨ta.has,tb.has⟩) (fun x hx=>by cases hx)
      intro x hx;have:=hw x hx;simp only [List.mem_filter,decide_eq_true_eq] at this;exact this
    exact fun x hx=>(hR x hx).2
  have hgb:=tb.gx hb.toGY;have la:=oK a oa;have lb:=oK b ob;have hz:oa.getD 0 0=i:=by
    have h0:=Qj ta.has;have hp:0 < oa.length:=by have:=h0.1;omega
    have:=h0.2;simp only [ta.zero] at this;simp [List.getD,hp,this]
  have hat:∀ j,j < (jY a oa).length→oa.getD j 0 ∈ oa∧nd (jY a oa) j=trN (oa.idxOf ·) (nd a (oa.getD j 0)):=fun j hj=>by
    rw [la] at hj;have e:oa.getD j 0=oa[j]:=by simp [List.getD,hj]
    have hjo:=List.getElem_mem hj;have h1:=Nx ta hjo;rw [Nq ta.nodup hj] at h1;rw [e];exact⟨hjo,h1⟩
  refine⟨fun j=>ob.idxOf (φ (oa.getD j 0)),?_,fun j hj=>?_,fun j hj=>?_,fun j hj x hx=>?_⟩
  · show ob.idxOf (φ (oa.getD 0 0))=0
    rw [hz];exact tb.zero
  · rw [lb];exact(Qj (hmem _ (hat j hj).1)).1
  · obtain⟨h1,h2⟩:=hat j hj
    show sub l (nd (jY b ob) (ob.idxOf (φ (oa.getD j 0)))).ty.toNat _=true;rw [h2,Nx tb (hmem _ h1)];exact h.ty _ (ta.lt h1)
  · obtain⟨h1,h2⟩:=hat j hj
    rw [h2] at hx;obtain⟨y,hy,rfl⟩:=List.mem_map.1 hx;have hb1:=Qj (hmem _ h1);have hs:=hgb.srt (ob.idxOf (φ (oa.getD j 0))) (by rw [lb];exact hb1.1);have h3:=h.ln _ (ta.lt h1) y hy;have hm:=S6 (xs:=(nd b (φ (oa.getD j 0))).ln) (f:=y.1) oM;rw [h3] at hm;show tgt (nd (jY b ob) (ob.idxOf (φ (oa.getD j 0)))).ln y.1=((ob.idxOf (φ (oa.getD ((oa.idxOf y.2.toNat:Nat):Int).toNat 0)):Nat):Int);have hyo:=Qj (ta.mem h1 hy);have e2:oa.getD (oa.idxOf y.2.toNat) 0=y.2.toNat:=by
      have:=hyo.2;simp [List.getD,hyo.1,this]
    rw [Int.toNat_natCast,e2];rw [Nx tb (hmem _ h1)] at hs ⊢;have hm2:((y.1,((ob.idxOf (φ y.2.toNat):Nat):Int)):Int×Int) ∈ (trN (ob.idxOf ·) (nd b (φ (oa.getD j 0)))).ln:=List.mem_map.2 ⟨_,hm,by rw [Int.toNat_natCast]⟩;exact tgt_in hs hm2
end order
end Go.Proofs.YtbcpgfnfiekbiaaGreatDoor
namespace Go.Proofs.YtbcpgfnfiekbiaaGreatDoor
open Go.RowKit
theorem L9 (A B:Option Addr) (n m c d:Nat) (ga gb:List Nd) (b:Bool) (w:World) (hA:NodesIn w A ga) (hBn:NodesIn w B gb) (ha:ga.length=n) (hb:gb.length=m) (he:decide (ga=gb)=b):Calls Tryz.prog 39 #[.agg #[.slice A n c],.agg #[.slice B m d]] w fun e w'=>e= .returned (.bool b)∧Bel w w':=by
  subst ha hb;have h:=nodes_any A B c d ga gb w hA hBn;rw [he] at h;exact h
end Go.Proofs.YtbcpgfnfiekbiaaGreatDoor
namespace Go.Proofs.YtbcpgfnfiekbiaaGreatDoor
open Go.RowKit
theorem fn39:zK Tryz.prog 39=true:=by kernel_rfl
end Go.Proofs.YtbcpgfnfiekbiaaGreatDoor
namespace Go.Proofs.YtbcpgfnfiekbiaaGreatDoor
open Go.RowKit
theorem QK:(Tryz.prog.info? 54).map (·.size)=some 10:=by kernel_rfl
theorem T2:(Tryz.prog.info? 54).map (·.zero)=some (some (.agg #[.string ⟨#[]⟩,.slice none 0 0,.int .i64 0,.int .i64 0,.int .i64 0,.string ⟨#[]⟩,.int .i64 0,.string ⟨#[]⟩,.slice none 0 0,.slice none 0 0])):=by kernel_rfl
set_option maxRecDepth 100000 in
set_option maxHeartbeats 4000000 in
theorem Hy (A1 A2:Option Addr) (c1 c2:Nat) (l:List Rl) (w:World) (hl:l.length≤1000000) (hK:∀ i (h:i < l.length),TmK (l[i]).mean) (h1:RulesIn w A1 l) (h2:RulesIn w A2 l):Calls Tryz.prog 16 #[.slice A1 l.length c1,.slice A2 l.length c2] w fun e w'=>e= .returned (.bool true)∧Bel w w':=by
 refine enT Tryz.func16 Tryz.ntmps16 rfl rfl fun hB=>?_;refine QJ ?_;refine zX rfl (fun c12=>?_) (fun c12=>?_)
 ·exact absurd rfl c12
 refine vq ?_;refine zW (rg [4,5,6,7] 15 47) (fun m g w'=>∃ j:Nat,j≤l.length∧m=l.length - j∧g 15= .int .i64 j∧Bel w w') (l.length) ?_ (fun m g4 w1 hI=>?_)
 ·exact⟨0,Nat.zero_le _,rfl,rfl,hB⟩
 obtain⟨j,hj,hmj,h15,hB⟩:=hI;refine zZ 15 _ h15 nu (zn6 ?_);refine zX rfl (fun c16=>?_) (fun c16=>?_)
 ·have hja:j < l.length:=by omega
  obtain⟨xb,xo,G1,g1,S1,s1,B1,e1,rfl,hxb,hxr,hG1,hS1,hT1⟩:=h1.at_ (Below.refl _ _:Bel w w) hja;obtain⟨yb,yo,G2,g2,S2,s2,B2,e2,rfl,hyb,hyr,hG2,hS2,hT2⟩:=h2.at_ (Below.refl _ _:Bel w w) hja;refine vq ?_;have hsz:=Bel.size hB;refine OZ 12 [18,19,20,21,22,23,24,25,6,7] [] (fun ix=>Nat.beq ix 10 || Nat.beq ix 11) (fun st ix v la ha wv=>match ix with | 0=>v= .slice (some ⟨xb,xo,none⟩) l.length c1 | 1=>v= .int .i64 (j:Nat) | 2=>v= .pointer (some ⟨xb,xo + j * 10,none⟩) | 3=>v= .agg #[.string ((l[j])).name,.slice G1 ((l[j])).gr.length g1,.int .i64 ((l[j])).kids,.int .i64 ((l[j])).wt,.int .i64 (((l[j])).mean).kind,.string (((l[j])).mean).name,.int .i64 (((l[j])).mean).index,.string (((l[j])).mean).type.base,.slice S1 (((l[j])).mean).type.args.length s1,.slice B1 (((l[j])).mean).args.length e1] | 4=>v= .slice (some ⟨yb,yo,none⟩) l.length c2 | 5=>v= .int .i64 (j:Nat) | 6=>v= .pointer (some ⟨yb,yo + j * 10,none⟩) | 7=>v= .agg #[.string ((l[j])).name,.slice G2 ((l[j])).gr.length g2,.int .i64 ((l[j])).kids,.int .i64 ((l[j])).wt,.int .i64 (((l[j])).mean).kind,.string (((l[j])).mean).name,.int .i64 (((l[j])).mean).index,.string (((l[j])).mean).type.base,.slice S2 (((l[j])).mean).type.args.length s2,.slice B2 (((l[j])).mean).args.length e2] | 8=>∃ b:Nat,v= .pointer (some ⟨b,0,none⟩)∧w1.heap.size≤b∧(st 10=false→Blk wv b 54 #[.string ⟨#[]⟩,.slice none 0 0,.int .i64 0,.int .i64 0,.int .i64 0,.string ⟨#[]⟩,.int .i64 0,.string ⟨#[]⟩,.slice none 0 0,.slice none 0 0])∧(st 10=true→Blk wv b 54 #[.string ((l[j])).name,.slice G1 ((l[j])).gr.length g1,.int .i64 ((l[j])).kids,.int .i64 ((l[j])).wt,.int .i64 (((l[j])).mean).kind,.string (((l[j])).mean).name,.int .i64 (((l[j])).mean).index,.string (((l[j])).mean).type.base,.slice S1 (((l[j])).mean).type.args.length s1,.slice B1 (((l[j])).mean).args.length e1])∧la≤b∧b < ha | 9=>∃ b:Nat,v= .pointer (some ⟨b,0,none⟩)∧w1.heap.size≤b∧(st 11=false→Blk wv b 54 #[.string ⟨#[]⟩,.slice none 0 0,.int .i64 0,.int .i64 0,.int .i64 0,.string ⟨#[]⟩,.int .i64 0,.string ⟨#[]⟩,.slice none 0 0,.slice none 0 0])∧(st 11=true→Blk wv b 54 #[.string ((l[j])).name,.slice G2 ((l[j])).gr.length g2,.int .i64 ((l[j])).kids,.int .i64 ((l[j])).wt,.int .i64 (((l[j])).mean).kind,.string (((l[j])).mean).name,.int .i64 (((l[j])).mean).index,.string (((l[j])).mean).type.base,.slice S2 (((l[j])).mean).type.args.length s2,.slice B2 (((l[j])).mean).args.length e2])∧la≤b∧b < ha | 10=>True | 11=>True | _=>True) kR kR kR ?_ ?_ ?_
  ·intro st ix v la ha wv wv2 h t1
   match ix,h with
   | 0,h=>exact h
   | 1,h=>exact h
   | 2,h=>exact h
   | 3,h=>exact h
   | 4,h=>exact h
   | 5,h=>exact h
   | 6,h=>exact h
   | 7,h=>exact h
   | 8,h=>
    obtain⟨b6,e6,lo6,hz6,hy6,la6,ha6⟩:=h;exact⟨b6,e6,lo6,fun h=>(hz6 h).tr0 t1,fun h=>(hy6 h).tr0 t1,la6,ha6⟩
   | 9,h=>
    obtain⟨b7,e7,lo7,hz7,hy7,la7,ha7⟩:=h;exact⟨b7,e7,lo7,fun h=>(hz7 h).tr0 t1,fun h=>(hy7 h).tr0 t1,la7,ha7⟩
   | 10,h=>exact h
   | 11,h=>exact h
   | _ + 12,h=>exact trivial
  ·intro st ix o hix hoq hns gg wx la ha t2 hd
   match ix,hix,hoq,hns with
   | 0,_,hoq,hns=>
    cases sI hoq;show OS _ _ _ _ _ _;refine xW (yq (v:= .slice _ _ _) rfl) ⟨Same.refl _ _,?_⟩;exact rfl
   | 1,_,hoq,hns=>
    cases sI hoq;show OS _ _ _ _ _ _;refine xW (yq (v:= .int _ _) rfl) ⟨Same.refl _ _,?_⟩;exact rfl
   | 2,_,hoq,hns=>
    cases sI hoq;show OS _ _ _ _ _ _;refine zx 18 _ (hd 0 _ (zj kR) rfl) nu (zx 19 _ (hd 1 _ (zj kR) rfl) nu ?_);refine xW (xk (i:=j) U26 QK rfl rfl hja rfl) ⟨Same.refl _ _,?_⟩;exact rfl
   | 3,_,hoq,hns=>
    cases sI hoq;show OS _ _ _ _ _ _;refine zx 20 _ (hd 2 _ (zj kR) rfl) nu ?_;refine xW (zY U54 rfl rfl (hB.u.range hxb hxr) QK) ⟨Same.refl _ _,?_⟩;exact rfl
   | 4,_,hoq,hns=>
    cases sI hoq;show OS _ _ _ _ _ _;refine xW (yq (v:= .slice _ _ _) rfl) ⟨Same.refl _ _,?_⟩;exact rfl
   | 5,_,hoq,hns=>
    cases sI hoq;show OS _ _ _ _ _ _;refine xW (yq (v:= .int _ _) rfl) ⟨Same.refl _ _,?_⟩;exact rfl
   | 6,_,hoq,hns=>
    cases sI hoq;show OS _ _ _ _ _ _;refine zx 22 _ (hd 4 _ (zj kR) rfl) nu (zx 23 _ (hd 5 _ (zj kR) rfl) nu ?_);refine xW (xk (i:=j) U26 QK rfl rfl hja rfl) ⟨Same.refl _ _,?_⟩;exact rfl
   | 7,_,hoq,hns=>
    cases sI hoq;show OS _ _ _ _ _ _;refine zx 24 _ (hd 6 _ (zj kR) rfl) nu ?_;refine xW (zY U54 rfl rfl (hB.u.range hyb hyr) QK) ⟨Same.refl _ _,?_⟩;exact rfl
   | 8,_,hoq,hns=>
    cases sI hoq;show OS _ _ _ _ _ _;have hs0:=t2;refine jk (fun ops Q K=>?_);refine qq (cs:=#[.string ⟨#[]⟩,.slice none 0 0,.int .i64 0,.int .i64 0,.int .i64 0,.string ⟨#[]⟩,.int .i64 0,.string ⟨#[]⟩,.slice none 0 0,.slice none 0 0]) T2 rfl (fun b6 w1 hb6 t3 hr=>?_);exact K _ _ ⟨t3,_,rfl,nLT hs0.size hr,fun _=>hb6,(fun h=>absurd (hns 10 rfl kR) (by rw [h];decide)),hr,hb6.lt⟩
   | 9,_,hoq,hns=>
    cases sI hoq;show OS _ _ _ _ _ _;have hs0:=t2;refine jk (fun ops Q K=>?_);refine qq (cs:=#[.string ⟨#[]⟩,.slice none 0 0,.int .i64 0,.int .i64 0,.int .i64 0,.string ⟨#[]⟩,.int .i64 0,.string ⟨#[]⟩,.slice none 0 0,.slice none 0 0]) T2 rfl (fun b7 w1 hb7 t4 hr=>?_);exact K _ _ ⟨t4,_,rfl,nLT hs0.size hr,fun _=>hb7,(fun h=>absurd (hns 11 rfl kR) (by rw [h];decide)),hr,hb7.lt⟩
   | 10,_,hoq,hns=>
    cases sI hoq;show st 10=false→(∀ j k,j ∈ _→k ∈ _→j≠k→ha j≤la k∨ha k≤la j)→OS _ _ _ _ _ _;intro hn hI;have hs0:=t2;obtain⟨b6,e6,lo6,hz6,hy6,la6,ha6⟩:=hd 8 _ (zj kR) rfl;refine zx 21 _ (hd 3 _ (zj kR) rfl) nu (zx 6 _ e6 nu ?_);have hzb:=hz6 hn;have hdj:=hI 8 9 (zj kR) (zj kR) dE;refine Bw (fun ops Q K=>?_);refine zk hzb rfl rfl QK rfl zQ (fun w2 hq hs2=>?_);have K2:=K w2;refine K2 ⟨hs0.freshL hs2 (fun g hg=>by rw [List.mem_singleton.1 hg];exact .inr lo6),hs2.size,?_,fun kx ox hne hox h=>?_⟩
    ·exact trivial
    match kx,hne,hox,h with
    | 0,_,_,h=>exact h
    | 1,_,_,h=>exact h
    | 2,_,_,h=>exact h
    | 3,_,_,h=>exact h
    | 4,_,_,h=>exact h
    | 5,_,_,h=>exact h
    | 6,_,_,h=>exact h
    | 7,_,_,h=>exact h
    | 8,_,hox,h=>
     obtain rfl:_=ox:=Option.some.inj hox;obtain⟨bx,ex,lox,hzx,hyx,lax,hax⟩:=h;have hbx:bx=b6:=by
       have h:=ex.symm.trans e6;cases h;rfl
     subst hbx;exact⟨bx,ex,lox,(fun h=>by cases (show true=false from h)),fun _=>hq,lax,hax⟩
    | 9,_,hox,h=>
     obtain rfl:_=ox:=Option.some.inj hox;obtain⟨bx,ex,lox,hzx,hyx,lax,hax⟩:=h;exact⟨bx,ex,lox,fun h=>(hzx h).tr hs2 (fun hm=>by have:=List.mem_singleton.1 hm;omega),fun h=>(hyx h).tr hs2 (fun hm=>by have:=List.mem_singleton.1 hm;omega),lax,hax⟩
    | 10,hne,_,_=>exact absurd rfl hne
    | 11,_,_,h=>exact h
    | _ + 12,_,_,_=>exact trivial
   | 11,_,hoq,hns=>
    cases sI hoq;show st 11=false→(∀ j k,j ∈ _→k ∈ _→j≠k→ha j≤la k∨ha k≤la j)→OS _ _ _ _ _ _;intro hn hI;have hs0:=t2;obtain⟨b7,e7,lo7,hz7,hy7,la7,ha7⟩:=hd 9 _ (zj kR) rfl;refine zx 25 _ (hd 7 _ (zj kR) rfl) nu (zx 7 _ e7 nu ?_);have hzb:=hz7 hn;have hdj:=hI 8 9 (zj kR) (zj kR) dE;refine Bw (fun ops Q K=>?_);refine zk hzb rfl rfl QK rfl zQ (fun w2 hq hs2=>?_);have K2:=K w2;refine K2 ⟨hs0.freshL hs2 (fun g hg=>by rw [List.mem_singleton.1 hg];exact .inr lo7),hs2.size,?_,fun kx ox hne hox h=>?_⟩
    ·exact trivial
    match kx,hne,hox,h with
    | 0,_,_,h=>exact h
    | 1,_,_,h=>exact h
    | 2,_,_,h=>exact h
    | 3,_,_,h=>exact h
    | 4,_,_,h=>exact h
    | 5,_,_,h=>exact h
    | 6,_,_,h=>exact h
    | 7,_,_,h=>exact h
    | 8,_,hox,h=>
     obtain rfl:_=ox:=Option.some.inj hox;obtain⟨bx,ex,lox,hzx,hyx,lax,hax⟩:=h;exact⟨bx,ex,lox,fun h=>(hzx h).tr hs2 (fun hm=>by have:=List.mem_singleton.1 hm;omega),fun h=>(hyx h).tr hs2 (fun hm=>by have:=List.mem_singleton.1 hm;omega),lax,hax⟩
    | 9,_,hox,h=>
     obtain rfl:_=ox:=Option.some.inj hox;obtain⟨bx,ex,lox,hzx,hyx,lax,hax⟩:=h;have hbx:bx=b7:=by
       have h:=ex.symm.trans e7;cases h;rfl
     subst hbx;exact⟨bx,ex,lox,(fun h=>by cases (show true=false from h)),fun _=>hq,lax,hax⟩
    | 10,_,_,h=>exact h
    | 11,hne,_,_=>exact absurd rfl hne
    | _ + 12,_,_,_=>exact trivial
   | _ + 12,hix,_,_=>exact absurd hix oM
  intro st gg w2 la ha hall t5 hR hI;obtain⟨b6,e6,lo6,hz6,hy6,la6,ha6⟩:=hR 8 _ rfl;obtain⟨b7,e7,lo7,hz7,hy7,la7,ha7⟩:=hR 9 _ rfl;have hb6:=hy6 (hall 10 dE rfl);have hb7:=hy7 (hall 11 dE rfl);refine xK 21 _ (hR 3 _ rfl) nu (xK 25 _ (hR 7 _ rfl) nu (xK 6 _ e6 nu (xK 7 _ e7 nu (zn9 ?_))));refine wl (yq (v:= .bool false) (congrArg Value.bool (decide_eq_false (fun h=>h rfl)))) (vq ?_);refine wl (yq (v:= .bool false) (congrArg Value.bool (decide_eq_false (fun h=>h rfl)))) (vq ?_);refine wl (yq (v:= .bool false) (congrArg Value.bool (decide_eq_false (fun h=>h rfl)))) (zn3 ?_);refine wl (zY U30 rfl rfl (hb6.sub (n:=1) (xs:=[_]) rfl) ZK) (zn3 ?_);refine wl (zY U30 rfl rfl (hb7.sub (n:=1) (xs:=[_]) rfl) ZK) (zn1 ?_);refine zV fn39 (L9 G1 G2 _ _ g1 g2 (l[j]).gr (l[j]).gr true _ (hG1.mono hB.u) (hG2.mono hB.u) rfl rfl (decide_eq_true rfl)) rfl (fun e' w3 hr=>?_);obtain⟨rfl,t6⟩:=hr;replace t6:=sB t6;refine⟨_,rfl,?_⟩;refine zn3 ?_;refine wl (yq (v:= .bool false) rfl) (zn3 ?_);refine wl (zY U44 rfl rfl (hb6.u.sub (n:=6) (xs:=[_,_,_,_,_,_]) rfl) JZ) (zn3 ?_);refine wl (zY U44 rfl rfl (hb7.u.sub (n:=6) (xs:=[_,_,_,_,_,_]) rfl) JZ) (zn1 ?_);refine zV fn51 (stm_any (hK j hja) S1 S2 B1 B2 s1 s2 e1 e2 _ (hS1.mono hB.u) (hS2.mono hB.u) (hT1.mono hB.u) (hT2.mono hB.u)) rfl (fun e' w4 hr=>?_);obtain⟨rfl,t7⟩:=hr;replace t7:=sB t7;refine⟨_,rfl,?_⟩;refine zn5 ?_;refine vK rfl (fun c60=>?_) (fun c60=>?_)
  ·exact absurd c60 dE
  refine zn7 ?_;refine xv (l.length - (j + 1)) oM agA ?_;exact⟨j + 1,by omega,rfl,rfl,hB.u⟩
 refine yZ ?_;exact⟨rfl,hB⟩
end Go.Proofs.YtbcpgfnfiekbiaaGreatDoor
namespace Go.Proofs.YtbcpgfnfiekbiaaGreatDoor
open Go.RowKit
theorem small_val {w:World} {At Bf:Option Addr} {ct cf b:Nat} {G SA BA OA:Option Addr} {cg cs cb co:Nat} (hTab:TabIn w) (h1:TypesIn w At smallT) (h2:FeatsIn w Bf smallF) (hb:Blk w b 57 #[.string (orX.rule).name,.slice G (orX.rule).gr.length cg,.int .i64 (orX.rule).kids,.int .i64 (orX.rule).wt,.int .i64 ((orX.rule).mean).kind,.string ((orX.rule).mean).name,.int .i64 ((orX.rule).mean).index,.string ((orX.rule).mean).type.base,.slice SA ((orX.rule).mean).type.args.length cs,.slice BA ((orX.rule).mean).args.length cb,.slice OA orX.om.length co]) (hP:OrP w orX G SA BA OA):Calls Tryz.prog 10 #[.agg #[.slice At smallT.length ct,.slice Bf smallF.length cf],.slice (some ⟨b,0,none⟩) 1 1] w fun e w'=>(∃ rb ro c,e= .returned (.tuple #[.slice (some ⟨rb,ro,none⟩) 2 c,.agg #[.int .i64 0,.int .i64 0]])∧rb < w'.heap.size∧w'.cell? ⟨rb,ro + 1 * 10,none⟩=some (.string ⟨#[110,112,45,97,110,100,45,50]⟩)∧w'.cell? ⟨rb,ro + 1 * 10 + 2,none⟩=some (.int .i64 2)∧w'.cell? ⟨rb,ro + 1 * 10 + 3,none⟩=some (.int .i64 5))∧Bel w w':=by
  refine(Oq At Bf ct cf smallT smallF [orX] (some ⟨b,0,none⟩) 1 w hTab h1 h2 (ors_one hb hP)).mono fun e w' h=>?_
  obtain⟨⟨A,c,rfl,hE⟩,hs⟩:=h;rw [small_exp] at hE ⊢;obtain⟨rb,ro,e,hl,hc⟩:=(hE.now trivial).2 (by simp);subst e;obtain⟨G2,cg2,S2,cs2,B2,m2,hr,_⟩:=hc 1 dE;exact⟨⟨rb,ro,c,rfl,hl,hr 0 _ rfl,hr 2 _ rfl,hr 3 _ rfl⟩,hs⟩
theorem W8 (AT AF:Option Addr) (ct cf:Nat) (l:List Ty) (fs:List Ft) (rs:List Orl) (AR:Option Addr) (cr:Nat) (E:Fl×List Rl) (hE:E=Px l fs kW rs) (w:World) (hTab:TabIn w) (hTy:TypesIn w AT l) (hF:FeatsIn w AF fs) (hRs:OrsIn w AR rs):Calls Tryz.prog 10 #[.agg #[.slice AT l.length ct,.slice AF fs.length cf],.slice AR rs.length cr] w fun e w'=>ExO (fun _=>True) w.heap.size E w' e∧Bel w w':=by
  subst hE;exact Oq AT AF ct cf l fs rs AR cr w hTab hTy hF hRs
theorem Pq (AT AF:Option Addr) (ct cf:Nat) (l:List Ty) (fs:List Ft) (rs:List Orl) (AR:Option Addr) (cr:Nat) (E:Fl×List Rl) (hE:E=Px l fs kW rs) (w0 w:World) (hB0:Bel w0 w) (hr0:(yX l fs).1=0) (hTy:TypesIn w AT l) (hF:FeatsIn w AF fs) (hRs:OrsIn w0 AR rs):Calls Tryz.prog 15 #[.agg #[.slice AT l.length ct,.slice AF fs.length cf],.slice AR rs.length cr] w fun e w'=>ExO (fun w2=>Kw w0 w2) w.heap.size E w' e∧Bel w w':=by
  rw [Vw hr0 rfl] at hE;subst hE;exact SQ AT AF ct cf l fs rs AR cr w0 w hB0 hr0 hTy hF hRs
theorem MZ (AT AF:Option Addr) (ct cf:Nat) (l:List Ty) (fs:List Ft) (r:Orl) (G SA BA OA:Option Addr) (cg cs cb co:Nat) (F:Fl) (hV:(if (yX l fs).1≠0 then yX l fs else Q0 l fs r)=F) (w:World) (hTab:TabIn w) (hTy:TypesIn w AT l) (hF:FeatsIn w AF fs) (hP:OrP w r G SA BA OA):Calls Tryz.prog 14 #[.agg #[.slice AT l.length ct,.slice AF fs.length cf],.agg #[.string (r.rule).name,.slice G (r.rule).gr.length cg,.int .i64 (r.rule).kids,.int .i64 (r.rule).wt,.int .i64 ((r.rule).mean).kind,.string ((r.rule).mean).name,.int .i64 ((r.rule).mean).index,.string ((r.rule).mean).type.base,.slice SA ((r.rule).mean).type.args.length cs,.slice BA ((r.rule).mean).args.length cb,.slice OA r.om.length co]] w fun e w'=>e= .returned (.agg #[.int .i64 F.1,.int .i64 F.2])∧Bel w w':=by
  subst hV;exact L7 AT AF ct cf l fs r G SA BA OA cg cs cb co w hTab hTy hF hP
theorem exp_K {l:List Ty} {fs:List Ft} {rs:List Orl} {E:Fl×List Rl} (hr0:(yX l fs).1=0) (hE:E=Px l fs kW rs):E.2.length≤1000000∧∀ i (h:i < E.2.length),TmK (E.2[i]).mean:=by
  rw [Vw hr0 rfl] at hE;subst hE;have h:=xf_ok (l:=l) (fs:=fs) (ch:=kW) (rs:=rs);exact⟨by have:=h.1;omega,fun i hi=>(ZW (Z3 hr0).1 (h.2 _ (List.getElem_mem hi))).2⟩
theorem I4:(Tryz.prog.fieldsOf 36).toList.map (fun f=>(f.name == "_",f.type,f.offset))= [(false,3,0),(false,3,1)]:=by kernel_rfl
theorem fn10:zK Tryz.prog 10=true:=by kernel_rfl
theorem fn11:zK Tryz.prog 11=true:=by kernel_rfl
theorem fn12:zK Tryz.prog 12=true:=by kernel_rfl
theorem fn14:zK Tryz.prog 14=true:=by kernel_rfl
theorem fn15:zK Tryz.prog 15=true:=by kernel_rfl
theorem fn16_OLw:zK Tryz.prog 16=true:=by kernel_rfl
theorem I1:Tryz.prog.underlying 36=some (.struct (Tryz.prog.fieldsOf 36)):=by kernel_rfl
set_option maxRecDepth 100000 in
set_option maxHeartbeats 8000000 in
theorem law36_any (AT AF:Option Addr) (ct cf:Nat) (l:List Ty) (fs:List Ft) (rs:List Orl) (AR:Option Addr) (cr:Nat) (w:World) (hTab:TabIn w) (hct:l.length≤ct) (hcf:fs.length≤cf) (hTy:TypesIn w AT l) (hF:FeatsIn w AF fs) (hRs:OrsIn w AR rs):Calls Tryz.prog 4 #[.agg #[.slice AT l.length ct,.slice AF fs.length cf],.slice AR rs.length cr] w fun e w'=>e= .returned (.bool true)∧Bel w w':=by
 have hmr:=hRs.1;unfold yJ at hmr;refine enT Tryz.func4 Tryz.ntmps4 rfl rfl fun hB=>?_;refine zn2 ?_;refine x6 (v:= .agg #[_,_]) (cs:=#[_,_]) rfl rfl (fun b2 w1 hb2 s1 hr=>?_);clear hr;refine zn6 ?_;refine zV fn5_OOm (small_d _) rfl (fun e' w2 hr=>?_);obtain⟨⟨_,rfl,At1,ct1,Bf1,cf1,br,cells,A1,cap1,AS1,cst1,n1,rfl,lor,hcp,hbr,hD⟩,s2⟩:=hr;replace s2:=sB s2;have t1:=hD.now.1;have t2:=hD.now.2.1;clear hD hbr;obtain⟨wS,hwS⟩:∃ z,z=w2:=⟨_,rfl⟩
 have hBs:Bel wS w2:=by rw [hwS];exact Below.refl _ _
 rw [← hwS] at t1 t2;clear hwS;refine⟨_,rfl,?_⟩;refine wl (r_fdS (cs':=#[_,_]) U32 rfl U25 rfl sz25 rfl rfl) ?_;refine zV fn11 (F9 _) rfl (fun e' w3 hr=>?_);obtain⟨⟨Gx,Sx,Bx,Ox,gx,sx,bx,ox,rfl,hPx⟩,s3⟩:=hr;replace s3:=sB s3;obtain⟨wO,hwO⟩:∃ z,z=w3:=⟨_,rfl⟩
 have hBo:Bel wO w3:=by rw [hwO];exact Below.refl _ _
 rw [← hwO] at hPx;clear hwO;refine⟨_,rfl,?_⟩;refine qw (cs:=#[_,_,_,_,_,_,_,_,_,_,_]) [(0,.agg _)] rfl U50 Ik Ny dE dE kR rfl (fun b18 w4 hb18 s4 hr=>?_);clear hr;refine zV fn10 (small_val (hTab.mono hB.u) (t1.mono hBs.u) (t2.mono hBs.u) hb18 (hPx.mono hBo.u)) rfl (fun e' w5 hr=>?_);obtain⟨⟨rb1,ro1,c1,rfl,hrb1,hn1,hk1,hw1⟩,s5⟩:=hr;replace s5:=sB s5;obtain⟨wE,hwE⟩:∃ z,z=w5:=⟨_,rfl⟩
 have hBE:Bel wE w5:=by rw [hwE];exact Below.refl _ _
 rw [← hwE] at hrb1 hn1 hk1 hw1;clear hwE;refine⟨_,rfl,?_⟩;refine wmT rfl (wl (j5 (v:= .slice _ _ _) rfl rfl) (wl (j5 (v:= .agg _) rfl rfl) ?_));refine qq (cs:=#[.int .i64 0,.int .i64 0]) qv rfl (fun b6 w6 hb6 s6 hr=>?_);have:=nLL hb2.u.lt hr;have:=nLL hb18.u.lt hr;have lo6:=nLT (Bel.size hB.u) hr;have lo_hBE_b6:=nLT (Bel.size hBE) hr;clear hr;refine waS rfl ?_;refine zk hb6 rfl rfl zq rfl zQ (fun w7 hq s7=>?_);replace hb6:=hq;refine zn7 ?_;refine wl (yq (v:= .bool false) (congrArg Value.bool (decide_eq_false (fun h=>h rfl)))) (zn7 ?_);refine wl (yq (v:= .bool false) (congrArg Value.bool (decide_eq_false (fun h=>h rfl)))) (zn3 ?_);refine wl (xk (i:=1) U26 Y3 rfl rfl dE rfl) (zn3 ?_);refine wl (qV (v:= .string _) U9 rfl rfl (hBE.u.cell hrb1 hn1)) (zn3 ?_);refine wl (yq (v:= .bool false) (congrArg Value.bool (decide_eq_false (fun h=>h rfl)))) (zn3 ?_);refine wl (xk (i:=1) U26 Y3 rfl rfl dE rfl) (zn3 ?_);refine wl (qV (v:= .int _ _) U3 rfl rfl (hBE.u.cell hrb1 hk1)) (zn3 ?_);refine wl (yq (v:= .bool false) (congrArg Value.bool (decide_eq_false (fun h=>h rfl)))) (zn3 ?_);refine wl (xk (i:=1) U26 Y3 rfl rfl dE rfl) (zn3 ?_);refine wl (qV (v:= .int _ _) U3 rfl rfl (hBE.u.cell hrb1 hw1)) (zn5 ?_);refine vK rfl (fun c50=>?_) (fun c50=>?_)
 ·exact absurd c50 dE
 refine zn5 ?_;refine zV fn12 (HZ AT AF ct cf l fs _ hct hcf (hTy.mono hB.u) (hF.mono hB.u)) rfl (fun e' w8 hr=>?_);obtain⟨rfl,s8⟩:=hr;replace s8:=sB s8;refine⟨_,rfl,?_⟩;refine xV (cs:=#[.int .i64 0,.int .i64 0]) qv rfl (fun _=>rfl) (fun _=>rfl) zq rfl zQ (fun b7 w10 hb7 s9 hr=>?_);have lo7:=nLT (Bel.size hB.u) hr;clear hr;refine vq ?_;refine zW (rg [4,9,10] 55 17) (fun m g w'=>∃ i:Nat,i≤rs.length∧m=rs.length - i∧g 55= .int .i64 i∧Bel w w'∧Blk w' b2 25 #[.slice AT l.length ct,.slice AF fs.length cf]∧Blk w' b7 36 #[.int .i64 (yX l fs).1,.int .i64 (yX l fs).2]) (rs.length) ?_ (fun m g6 w11 hI=>?_)
 ·exact⟨0,Nat.zero_le _,rfl,rfl,hB.u,hb2.u,hb7⟩
 obtain⟨i,hi,hmi,h55,hB,hb2,hb7⟩:=hI;refine zZ 55 _ h55 nu (zn6 ?_);refine zX rfl (fun c56=>?_) (fun c56=>?_)
 ·have hil:i < rs.length:=by omega
  obtain⟨r,hr⟩:∃ r,r=rs[i]:=⟨_,rfl⟩
  obtain⟨rb,ro,G,SA,BA,OA,cg,cs,cb,co,hre,hrb,hrr,hP⟩:=hRs.at_ hil;unfold orC at hrr;rw [← hr] at hrr hP;refine zn6 ?_;refine wl (xk (i:=i) U50 Ik (show ev _ _ _=_ from Z1 _ _ hre) rfl oM rfl) (zn1 ?_);refine xV (cs:=#[.string ⟨#[]⟩,.slice none 0 0,.int .i64 0,.int .i64 0,.int .i64 0,.string ⟨#[]⟩,.int .i64 0,.string ⟨#[]⟩,.slice none 0 0,.slice none 0 0,.slice none 0 0]) Ny rfl (fun _=>rfl) (fun _=>rfl) Ik rfl zQ (fun b9 w13 hb9 s10 hr=>?_);clear hr;refine zn5 ?_;refine xV (cs:=#[.int .i64 0,.int .i64 0]) qv rfl (fun _=>rfl) (fun _=>rfl) zq rfl zQ (fun b10 w15 hb10 s11 hr=>?_);have:=nLL hb2.u.lt hr;have:=nLL hb7.u.lt hr;have:=nLL hb9.lt hr;have lo10:=nLT (Bel.size hB.u) hr;clear hr;refine yv ?_;refine zX rfl (fun c62=>?_) (fun c62=>?_)
  ·obtain⟨hh0,hf3⟩:=Z3 c62;refine zn3 ?_;refine zV fn13 (D7 AT AF ct cf l fs r G SA BA OA cg cs cb co _ hh0 (hTy.mono hB.u) (hF.mono hB.u) (hP.mono hB.u)) rfl (fun e' w16 hr=>?_);obtain⟨rfl,s12⟩:=hr;replace s12:=sB s12;refine⟨_,rfl,?_⟩;refine zk hb10.u rfl rfl zq rfl zQ (fun w17 hq s13=>?_);replace hb10:=hq;obtain⟨F,hF0⟩:∃ F,F=Q0 l fs r:=⟨_,rfl⟩
   have hV:(if (yX l fs).1≠0 then yX l fs else Q0 l fs r)=F:=by rw [hF0];exact if_neg (fun h=>h c62)
   replace hb10:Blk w17 b10 36 #[.int .i64 F.1,.int .i64 F.2]:=by rw [hF0];exact hb10
   clear hF0;refine zn3 ?_;refine jx [] [0,1,3,2,4] rfl (fun w18 s14=>?_);refine zn3 ?_;refine hcl (fun v wv=>v= .agg #[.int .i64 F.1,.int .i64 F.2]) rfl fn14 (MZ AT AF ct cf l fs r G SA BA OA cg cs cb co F hV w18 (hTab.mono hB.u) (hTy.mono hB.u) (hF.mono hB.u) (hP.mono hB.u)) rfl (fun e' w2 hr=>?_) (fun v68 w19 s15 d68=>?_)
   ·obtain⟨rfl,s16⟩:=hr;exact⟨_,rfl,sB s16,rfl⟩
   have e68:=d68;subst e68;refine hle rfl (fun _=>r_neF Tryz.eqGuardType36 I1 Tryz.stoodInHeld36 I4 U3 rfl rfl) (congrArg Value.bool (decide_eq_false (fun h=>h ⟨rfl,rfl⟩))) (yv ?_);refine xv (rs.length - (i + 1)) oM agA ?_;exact⟨i + 1,by omega,rfl,rfl,hB.u,hb2.u,hb7.u⟩
  obtain⟨F,hF0⟩:∃ F,F=yX l fs:=⟨_,rfl⟩
  have hV:(if (yX l fs).1≠0 then yX l fs else Q0 l fs r)=F:=by rw [hF0];exact if_pos c62
  rw [← hF0] at hb10;clear hF0;refine zn3 ?_;refine jx [] [0,1,3,2,4] rfl (fun w20 s17=>?_);refine zn3 ?_;refine hcl (fun v wv=>v= .agg #[.int .i64 F.1,.int .i64 F.2]) rfl fn14 (MZ AT AF ct cf l fs r G SA BA OA cg cs cb co F hV w20 (hTab.mono hB.u) (hTy.mono hB.u) (hF.mono hB.u) (hP.mono hB.u)) rfl (fun e' w2 hr=>?_) (fun v68 w21 s18 d68=>?_)
  ·obtain⟨rfl,s19⟩:=hr;exact⟨_,rfl,sB s19,rfl⟩
  have e68:=d68;subst e68;refine hle rfl (fun _=>r_neF Tryz.eqGuardType36 I1 Tryz.stoodInHeld36 I4 U3 rfl rfl) (congrArg Value.bool (decide_eq_false (fun h=>h ⟨rfl,rfl⟩))) (yv ?_);refine xv (rs.length - (i + 1)) oM agA ?_;exact⟨i + 1,by omega,rfl,rfl,hB.u,hb2.u,hb7.u⟩
 refine zn9 ?_;obtain⟨E,hE⟩:∃ E,E=Px l fs kW rs:=⟨_,rfl⟩
 have z7:=hb7.lt;refine zV fn10 (W8 AT AF ct cf l fs rs AR cr E hE _ (hTab.mono hB) (hTy.mono hB) (hF.mono hB) (hRs.mono hB)) rfl (fun e' w22 hr=>?_);obtain⟨⟨A11,c11,rfl,hX⟩,s20⟩:=hr;replace s20:=sB s20;refine⟨_,rfl,?_⟩;refine wmT rfl (wl (j5 (v:= .slice _ _ _) rfl rfl) (wl (j5 (v:= .agg _) rfl rfl) ?_));refine qq (cs:=#[.int .i64 0,.int .i64 0]) qv rfl (fun b12 w23 hb12 s21 hr=>?_);have:=nLL hb2.u.lt hr;have:=nLL hb7.u.lt hr;have or_hX_b12:=(nLT hX.le hr)
 have lo12:=nLT (Bel.size hB.u) hr;clear hr;refine waS rfl ?_;refine zk hb12 rfl rfl zq rfl zQ (fun w24 hq s22=>?_);replace hX:=hX.tr0 s21;replace hX:=hX.tr s22 (fun g hg=> .inr (.inr (by rw [List.mem_singleton.1 hg];exact or_hX_b12)));replace hb12:=hq;refine yv ?_;refine zX rfl (fun c80=>?_) (fun c80=>?_)
 ·obtain rfl:E=(yX l fs,[]):=hE.trans (xv_rd c80);replace hb12:Blk w24 b12 36 #[.int .i64 (yX l fs).1,.int .i64 (yX l fs).2]:=hb12;refine zn4 ?_;refine wl (r_eqF Tryz.eqGuardType36 I1 Tryz.stoodInHeld36 I4 U3 rfl rfl) (wl (yq (v:= .bool true) (congrArg Value.bool (decide_eq_true ⟨rfl,rfl⟩))) (ky ?_));exact⟨rfl,hB.u⟩
 have hr0:=Decidable.not_not.1 c80;refine zn6 ?_;replace hb7:=(hb7.tr0 (s20.trans s21)).tr1 s22 oM;have y7:=hb7.lt;refine zV fn15 (Pq AT AF ct cf l fs rs AR cr E hE w _ hB.u hr0 (hTy.mono hB.u) (hF.mono hB.u) hRs) rfl (fun e' w25 hr=>?_);obtain⟨⟨A13,c13,rfl,hY⟩,s23⟩:=hr;replace s23:=sB s23;refine⟨_,rfl,?_⟩;refine wmT rfl (wl (j5 (v:= .slice _ _ _) rfl rfl) (wl (j5 (v:= .agg _) rfl rfl) (waS rfl ?_)));refine zk hb7.u rfl rfl zq rfl zQ (fun w26 hq s24=>?_);replace hX:=hX.tr0 s23;replace hX:=hX.lo1 s24 z7;replace hY:=hY.lo1 s24 y7;replace hb7:=hq;refine zn6 ?_;refine wl (r_eqF Tryz.eqGuardType36 I1 Tryz.stoodInHeld36 I4 U3 rfl rfl) (wl (yq (v:= .bool true) (congrArg Value.bool (decide_eq_true ⟨rfl,rfl⟩))) (zn5 ?_));refine zV fn16_OLw (Hy A11 A13 c11 c13 E.2 _ (exp_K hr0 hE).1 (exp_K hr0 hE).2 (hX.now trivial) (hY.now (Kw.of hB.u))) rfl (fun e' w27 hr=>?_);obtain⟨rfl,s25⟩:=hr;replace s25:=sB s25;refine⟨_,rfl,?_⟩;refine zn6 ?_;exact⟨rfl,hB.u⟩
end Go.Proofs.YtbcpgfnfiekbiaaGreatDoor
namespace Go.Proofs.YtbcpgfnfiekbiaaGreatDoor
open Go.RowKit Go.ChangeShapes Go.WideShapes Go.Deep Go.Joins
section
variable {H:Type} {enc:TypeId×Value→H} {P:Program} {w:World} {base:Nat} {spare:Nat→Bool} {held:Bool}
theorem LQ {t e ti:TypeId} {f0 f1:Field} {fuel:Nat} {v:Value} {x:DataW H×List MemPlace} (ht:P.underlying t=some (.slice e)) (he:P.underlying e=some (.struct #[f0,f1])) (hsz:P.cellsOf e=2) (o0:f0.offset=0) (o1:f1.offset=1) (e0:f0.type=ti) (e1:f1.type=ti)
    (hi:P.underlying ti=some (.int .i64)) (hc1:P.cellsOf ti=1) (h:DataW.trod enc P w base spare held fuel t [v]=some x):
    ∃ A xs c,v= .slice A (List.length xs) c∧xs.length≤c∧LinksIn w A xs:=by
  obtain⟨A,len,c,rfl,hl,hm,hx⟩:=Kz ht hsz dE h;by_cases h0:len=0
  · subst h0
    exact⟨A,[],c,rfl,Nat.zero_le _,Nat.zero_le _,fun h=>absurd rfl h⟩
  · obtain⟨b,o,rfl,hlt,hc⟩:=hx h0
    obtain⟨xs,hxl,hxs⟩:=jV (p:=fun i (z:Int×Int)=>w.rangeAt b (o + i * 2) [.int .i64 z.1,.int .i64 z.2]) (n:=len) (fun i hi'=>by
      obtain⟨cs,k,y,h1,h2,h3⟩:=hc i hi';obtain⟨v0,v1,n,y0,y1,rfl,g0,g1⟩:=Ix he h1 o0 o1 (by rw [e0];exact hc1) (by rw [e1];exact hc1) h3;rw [e0] at g0;rw [e1] at g1;obtain⟨z1,h5,_,_⟩:=DataW.trod_int hi g0;obtain⟨z2,h6,_,_⟩:=DataW.trod_int hi g1;rw [jq h5,jq h6] at h2
      exact⟨(z1,z2),h2⟩)
    subst hxl;exact⟨_,xs,c,rfl,hl,nLT hl hm,fun _=>⟨b,o,rfl,hlt,hxs⟩⟩
theorem Lz {t e ti tl te:TypeId} {f0 f1 g0 g1:Field} {fuel:Nat} {v:Value} {x:DataW H×List MemPlace} (ht:P.underlying t=some (.slice e)) (he:P.underlying e=some (.struct #[f0,f1])) (hsz:P.cellsOf e=2) (o0:f0.offset=0) (o1:f1.offset=1) (e0:f0.type=ti) (e1:f1.type=tl)
    (htl:P.underlying tl=some (.slice te)) (hte:P.underlying te=some (.struct #[g0,g1])) (hst:P.cellsOf te=2) (p0:g0.offset=0) (p1:g1.offset=1) (d0:g0.type=ti) (d1:g1.type=ti) (hcl:P.cellsOf tl=1)
    (hi:P.underlying ti=some (.int .i64)) (hc1:P.cellsOf ti=1) (h:DataW.trod enc P w base spare held fuel t [v]=some x):
    ∃ A gr c,v= .slice A (List.length gr) c∧gr.length≤c∧NodesIn w A gr:=by
  obtain⟨A,len,c,rfl,hl,hm,hx⟩:=Kz ht hsz dE h;by_cases h0:len=0
  · subst h0
    exact⟨A,[],c,rfl,Nat.zero_le _,Nat.zero_le _,fun h=>absurd rfl h⟩
  · obtain⟨b,o,rfl,hlt,hc⟩:=hx h0
    obtain⟨gr,hxl,hxs⟩:=jV (p:=fun i (z:Nd)=>NdIn w b (o + i * 2) z) (n:=len) (fun i hi'=>by
      obtain⟨cs,k,y,h1,h2,h3⟩:=hc i hi';obtain⟨v0,v1,n,y0,y1,rfl,q0,q1⟩:=Ix he h1 o0 o1 (by rw [e0];exact hc1) (by rw [e1];exact hcl) h3;rw [e0] at q0;rw [e1] at q1;obtain⟨z1,h5,_,_⟩:=DataW.trod_int hi q0;obtain⟨A',xs,c',rfl,_,hin⟩:=LQ htl hte hst p0 p1 d0 d1 hi hc1 q1;rw [jq h5] at h2
      exact⟨⟨z1,xs⟩,A',c',h2,hin⟩)
    subst hxl;exact⟨_,gr,c,rfl,hl,nLT hl hm,fun _=>⟨b,o,rfl,hlt,hxs⟩⟩
theorem one_cell {e:TypeId} {f0:Field} {fuel:Nat} {cs:List Value} {x:DataW H×List MemPlace} (he:P.underlying e=some (.struct #[f0])) (hl:cs.length=1) (o0:f0.offset=0) (c0:P.cellsOf f0.type=1) (h:DataW.trod enc P w base spare held fuel e cs=some x):
    ∃ v0 n y0,cs= [v0]∧DataW.trod enc P w base spare held n f0.type [v0]=some y0:=by
  obtain⟨y0,n,_,_,h0⟩:=trod_struct1 he h
  match cs,hl with
  | [v0],_=>
    simp [o0,c0] at h0;exact⟨v0,n,y0,rfl,h0⟩
end
end Go.Proofs.YtbcpgfnfiekbiaaGreatDoor
namespace Go.Proofs.YtbcpgfnfiekbiaaGreatDoor
open Go.RowKit Go.ChangeShapes Go.WideShapes Go.Deep Go.Joins
section
variable {H:Type} {enc:TypeId×Value→H} {P:Program} {w:World} {base:Nat} {spare:Nat→Bool} {held:Bool}
def Lw (P:Program) (t:TypeId) (d:DataW H):Prop:=∀ n ∈ d.weights P t,n≤reachBytes
theorem Mz {e:TypeId}:∀ {l:List (DataW H)} {d:DataW H},d ∈ l→∀ n ∈ d.weights P e,n ∈ DataW.weightsAll P e l
  | [],_,h,_,_=>nomatch h
  | a :: r,d,h,n,hn=>by
    simp only [DataW.weightsAll,List.mem_append]
    rcases List.mem_cons.1 h with rfl | h
    · exact .inl hn
    · exact .inr (Mz h n hn)
theorem flds {t:TypeId} {fs:Array Field} {fuel:Nat} {cs:List Value} {x:DataW H×List MemPlace} (ht:P.underlying t=some (.struct fs)) (h:DataW.trod enc P w base spare held fuel t cs=some x):
    ∃ n,n < fuel∧cs.length=P.cellsOf t∧∀ (i:Nat) (f:Field),fs[i]? =some f→∃ y,DataW.trod enc P w base spare held n f.type ((cs.drop f.offset).take (P.cellsOf f.type))=some y∧(Lw P t x.1→Lw P f.type y.1):=by
  obtain⟨xs,n,rfl,rfl,hl,hlen,hf⟩:=DataW.trod_struct ht h;refine⟨n,Nat.lt_succ_self n,hl,fun i f hi=>?_⟩;have hil:i < xs.length:=by rw [hlen];exact(Array.getElem?_eq_some_iff.1 hi).1
  have h1:=hf i f hi;rw [List.getElem?_eq_getElem hil] at h1;refine⟨xs[i],h1,fun hw m hm=>hw m ?_⟩;show m ∈ DataW.weights P t (.agg (xs.map (·.1)));simp only [DataW.weights,ht];refine DataW.weights_mem_each (j:=i) (t:=f.type) (d:=(xs[i]).1) ?_ ?_ m hm
  · rw [List.getElem?_map,Array.getElem?_toList,hi];rfl
  · rw [List.getElem?_map,List.getElem?_eq_getElem hil];rfl
theorem slF {t e:TypeId} {sz fuel:Nat} {v:Value} {x:DataW H×List MemPlace} (ht:P.underlying t=some (.slice e)) (hsz:P.cellsOf e=sz) (hpos:0 < sz) (h:DataW.trod enc P w base spare held fuel t [v]=some x):
    ∃ A len c,v= .slice A len c∧len≤c∧c≤yJ∧(len≠0→∃ b o,A=some ⟨b,o,none⟩∧b < w.heap.size∧∀ i,i < len→∃ cs k y,k < fuel∧cs.length=sz∧w.rangeAt b (o + i * sz) cs∧DataW.trod enc P w base spare held k e cs=some y∧(Lw P t x.1→Lw P e y.1)):=by
  rcases DataW.trod_slice ht h with ⟨hc,_⟩ | ⟨a,len,cap,elems,rest,n,rfl,hc,rfl,hb,hl,hm,hlen,hel,_⟩
  · rw [jq hc]
    exact⟨none,0,0,rfl,Nat.le_refl _,Nat.zero_le _,fun h=>absurd rfl h⟩
  · rw [jq hc]
    rw [hsz] at hel;have hi:∀ i (hi:i < len),∃ cs',w.cells? base (a.add (i * sz)) sz=some cs'∧DataW.trod enc P w base spare held n e cs'=some (elems[i]'oM):=fun i hi=>by
      have key:=hel i hi;rw [List.getElem?_eq_getElem oM] at key;exact Option.bind_eq_some_iff.1 key
    refine⟨some a,len,cap,rfl,hl,hm,fun h0=>?_⟩;obtain⟨b,o,s⟩:=a;have hsp:s=none∧b < w.heap.size:=by
      obtain⟨cs,h1,_⟩:=hi 0 oM;obtain⟨_,h3,h4⟩:=World.cells?_some h1;have h5:=h4 0 hpos;have h6:cs[0]? =some (cs[0]'oM):=List.getElem?_eq_getElem oM;have h7:(Addr.add (Addr.add ⟨b,o,s⟩ (0 * sz)) 0)=⟨b,o,s⟩:=by simp [Addr.add]
      rw [h7,h6] at h5;exact⟨World.cell?_spot h5,Go.Clock.block_lt h5⟩
    obtain⟨rfl,hlt⟩:=hsp;refine⟨b,o,rfl,hlt,fun i hil=>?_⟩;obtain⟨cs,h1,h2⟩:=hi i oM;obtain⟨_,h3,h4⟩:=World.cells?_some h1;refine⟨cs,n,_,Nat.lt_succ_self n,h3,fun j v hj=>?_,h2,fun hw m hm=>hw m ?_⟩
    · have hjl:=(List.getElem?_eq_some_iff.1 hj).1
      have h5:=h4 j oM;rw [Addr.add_mid,Addr.add_mid] at h5;rw [h5];exact hj
    · show m ∈ DataW.weights P t (.slice (elems.map (·.1)) (rest.map (·.1)))
      simp only [DataW.weights,ht,List.mem_cons,List.mem_append];exact .inr (.inl (Mz (List.mem_map.2 ⟨_,List.getElem_mem oM,rfl⟩) m hm))
theorem JK {t:TypeId} {fuel:Nat} {v:Value} {x:DataW H×List MemPlace} (ht:P.underlying t=some .string) (h:DataW.trod enc P w base spare held fuel t [v]=some x):∃ s:ByteArray,v= .string s∧(Lw P t x.1→s.size < 9223372036854775807):=by
  obtain⟨s,h1,rfl,_⟩:=DataW.trod_string ht h;refine⟨s,jq h1,fun hw=>?_⟩;have:=hw s.data.toList.length (by simp [DataW.weights]);have h2:s.data.toList.length=s.size:=Array.length_toList;unfold reachBytes at this;omega
structure SmT (P:Program) (e ts tstr:TypeId) (f0 f1:Field):Prop where
  he:P.underlying e=some (.struct #[f0,f1])
  hsz:P.cellsOf e=2
  o0:f0.offset=0
  o1:f1.offset=1
  e0:f0.type=tstr
  e1:f1.type=ts
  hts:P.underlying ts=some (.slice e)
  hs:P.underlying tstr=some .string
  cs:P.cellsOf tstr=1
  ct:P.cellsOf ts=1
theorem sims_open {e ts tstr:TypeId} {f0 f1:Field} (T:SmT P e ts tstr f0 f1):∀ (fuel:Nat) (v:Value) (x:DataW H×List MemPlace),DataW.trod enc P w base spare held fuel ts [v]=some x→∃ A l c,v= .slice A (List.length l) c∧l.length≤c∧SimsIn w A l:=by
  intro fuel
  induction fuel using Nat.strongRecOn with
  | ind fuel ih=>
    intro v x h;obtain⟨A,len,c,rfl,hl,hm,hx⟩:=slF T.hts T.hsz dE h;by_cases h0:len=0
    · subst h0
      exact⟨A,[],c,rfl,Nat.zero_le _,.nil⟩
    · obtain⟨b,o,rfl,hlt,hc⟩:=hx h0
      obtain⟨l,hxl,hxs⟩:=jV (p:=fun i (z:Sm)=>SimAt w b (o + i * 2) z) (n:=len) (fun i hi=>by
        obtain⟨cs,k,y,hk,h1,h2,h3,_⟩:=hc i hi;obtain⟨n,hn,hlc,hf⟩:=flds T.he h3;obtain⟨y0,g0,_⟩:=hf 0 f0 rfl;obtain⟨y1,g1,_⟩:=hf 1 f1 rfl
        match cs,h1 with
        | [v0,v1],_=>
          rw [T.e0,T.o0,T.cs] at g0;rw [T.e1,T.o1,T.ct] at g1;obtain⟨s,rfl,_⟩:=JK T.hs (show DataW.trod enc P w base spare held n tstr [v0]=some y0 from g0);obtain⟨A',l',c',rfl,_,hin⟩:=ih n oM v1 y1 g1
          exact⟨.mk s l',.mk hlt h2 hin⟩)
      subst hxl;exact⟨_,l,c,rfl,hl,.more (nLT hl hm) hlt hxs⟩
theorem sim_open {e ts tstr:TypeId} {f0 f1:Field} (T:SmT P e ts tstr f0 f1) {fuel:Nat} {v0 v1:Value} {x:DataW H×List MemPlace} (h:DataW.trod enc P w base spare held fuel e [v0,v1]=some x):∃ (s:Sm) (A:Option Addr) (c:Nat),v0= .string s.base∧v1= .slice A s.args.length c∧SimsIn w A s.args:=by
  obtain⟨n,hn,hlc,hf⟩:=flds T.he h;obtain⟨y0,g0,_⟩:=hf 0 f0 rfl;obtain⟨y1,g1,_⟩:=hf 1 f1 rfl;rw [T.e0,T.o0,T.cs] at g0;rw [T.e1,T.o1,T.ct] at g1;obtain⟨s,rfl,_⟩:=JK T.hs (show DataW.trod enc P w base spare held n tstr [v0]=some y0 from g0);obtain⟨A',l',c',rfl,_,hin⟩:=sims_open T n v1 y1 g1;exact⟨.mk s l',A',c',rfl,rfl,hin⟩
structure TmT (P:Program) (m tm ti tstr e ts:TypeId) (f0 f1:Field) (g0 g1 g2 g3 g4:Field):Prop where
  S:SmT P e ts tstr f0 f1
  he:P.underlying m=some (.struct #[g0,g1,g2,g3,g4])
  hsz:P.cellsOf m=6
  o0:g0.offset=0
  o1:g1.offset=1
  o2:g2.offset=2
  o3:g3.offset=3
  o4:g4.offset=5
  e0:g0.type=ti
  e1:g1.type=tstr
  e2:g2.type=ti
  e3:g3.type=e
  e4:g4.type=tm
  htm:P.underlying tm=some (.slice m)
  hi:P.underlying ti=some (.int .i64)
  ci:P.cellsOf ti=1
  ct:P.cellsOf tm=1
section tm
variable {m tm ti tstr e ts:TypeId} {f0 f1 g0 g1 g2 g3 g4:Field}
theorem Tx (T:TmT P m tm ti tstr e ts f0 f1 g0 g1 g2 g3 g4) {fuel:Nat} {cs:List Value} {x:DataW H×List MemPlace} (hl:cs.length=6) (h:DataW.trod enc P w base spare held fuel m cs=some x):
    ∃ (k i:Int) (nm:ByteArray) (s:Sm) (A:Option Addr) (c:Nat) (v:Value) (n:Nat) (y:DataW H×List MemPlace),n < fuel∧cs= [.int .i64 k,.string nm,.int .i64 i,.string s.base,.slice A s.args.length c,v]∧SimsIn w A s.args∧DataW.trod enc P w base spare held n tm [v]=some y:=by
  obtain⟨n,hn,hlc,hf⟩:=flds T.he h;obtain⟨y0,q0,_⟩:=hf 0 g0 rfl;obtain⟨y1,q1,_⟩:=hf 1 g1 rfl;obtain⟨y2,q2,_⟩:=hf 2 g2 rfl;obtain⟨y3,q3,_⟩:=hf 3 g3 rfl;obtain⟨y4,q4,_⟩:=hf 4 g4 rfl
  match cs,hl with
  | [v0,v1,v2,v3,v4,v5],_=>
    rw [T.e0,T.o0,T.ci] at q0;rw [T.e1,T.o1,T.S.cs] at q1;rw [T.e2,T.o2,T.ci] at q2;rw [T.e3,T.o3,T.S.hsz] at q3;rw [T.e4,T.o4,T.ct] at q4;obtain⟨k,h5,_,_⟩:=DataW.trod_int T.hi (show DataW.trod enc P w base spare held n ti [v0]=some y0 from q0);obtain⟨nm,rfl,_⟩:=JK T.S.hs (show DataW.trod enc P w base spare held n tstr [v1]=some y1 from q1);obtain⟨i,h6,_,_⟩:=DataW.trod_int T.hi (show DataW.trod enc P w base spare held n ti [v2]=some y2 from q2);obtain⟨s,A,c,rfl,rfl,hS⟩:=sim_open T.S (show DataW.trod enc P w base spare held n e [v3,v4]=some y3 from q3);rw [jq h5,jq h6];exact⟨k,i,nm,s,A,c,v5,n,y4,hn,rfl,hS,q4⟩
theorem tms_open (T:TmT P m tm ti tstr e ts f0 f1 g0 g1 g2 g3 g4):∀ (fuel:Nat) (v:Value) (x:DataW H×List MemPlace),DataW.trod enc P w base spare held fuel tm [v]=some x→∃ A l c,v= .slice A (List.length l) c∧l.length≤c∧TmsIn w A l:=by
  intro fuel
  induction fuel using Nat.strongRecOn with
  | ind fuel ih=>
    intro v x h;obtain⟨A,len,c,rfl,hl,hm,hx⟩:=slF T.htm T.hsz dE h;by_cases h0:len=0
    · subst h0
      exact⟨A,[],c,rfl,Nat.zero_le _,.nil⟩
    · obtain⟨b,o,rfl,hlt,hc⟩:=hx h0
      obtain⟨l,hxl,hxs⟩:=jV (p:=fun i (z:Tm)=>TmAt w b (o + i * 6) z) (n:=len) (fun i hi=>by
        obtain⟨cs,k,y,hk,h1,h2,h3,_⟩:=hc i hi;obtain⟨kd,ix,nm,s,A1,c1,v',n,y',hn,rfl,hS,h4⟩:=Tx T h1 h3;obtain⟨A',l',c',rfl,_,hin⟩:=ih n oM v' y' h4
        exact⟨.mk kd nm ix s l',.mk hlt h2 hS hin⟩)
      subst hxl;exact⟨_,l,c,rfl,hl,.more (nLT hl hm) hlt hxs⟩
theorem tm_open (T:TmT P m tm ti tstr e ts f0 f1 g0 g1 g2 g3 g4) {fuel:Nat} {cs:List Value} {x:DataW H×List MemPlace} (hl:cs.length=6) (h:DataW.trod enc P w base spare held fuel m cs=some x):
    ∃ (t:Tm) (A:Option Addr) (c:Nat) (B:Option Addr) (d:Nat),cs= [.int .i64 t.kind,.string t.name,.int .i64 t.index,.string t.type.base,.slice A t.type.args.length c,.slice B t.args.length d]∧SimsIn w A t.type.args∧TmsIn w B t.args:=by
  obtain⟨kd,ix,nm,s,A1,c1,v',n,y',hn,rfl,hS,h4⟩:=Tx T hl h;obtain⟨A',l',c',rfl,_,hin⟩:=tms_open T n v' y' h4;exact⟨.mk kd nm ix s l',A1,c1,A',c',rfl,hS,hin⟩
end tm
structure GrfT (P:Program) (tg tn e ti tl te:TypeId) (q0 f0 f1 g0 g1:Field):Prop where
  hg:P.underlying tg=some (.struct #[q0])
  hgz:P.cellsOf tg=1
  r0:q0.offset=0
  s0:q0.type=tn
  hcn:P.cellsOf tn=1
  htn:P.underlying tn=some (.slice e)
  he:P.underlying e=some (.struct #[f0,f1])
  hsz:P.cellsOf e=2
  o0:f0.offset=0
  o1:f1.offset=1
  e0:f0.type=ti
  e1:f1.type=tl
  htl:P.underlying tl=some (.slice te)
  hte:P.underlying te=some (.struct #[g0,g1])
  hst:P.cellsOf te=2
  p0:g0.offset=0
  p1:g1.offset=1
  d0:g0.type=ti
  d1:g1.type=ti
  hcl:P.cellsOf tl=1
  hi:P.underlying ti=some (.int .i64)
  hc1:P.cellsOf ti=1
theorem gr_open {tg tn e ti tl te:TypeId} {q0 f0 f1 g0 g1:Field} (T:GrfT P tg tn e ti tl te q0 f0 f1 g0 g1) {fuel:Nat} {v:Value} {x:DataW H×List MemPlace} (h:DataW.trod enc P w base spare held fuel tg [v]=some x):∃ A gr c,v= .slice A (List.length gr) c∧NodesIn w A gr:=by
  obtain⟨v0,n,y0,h1,h2⟩:=one_cell T.hg rfl T.r0 (by rw [T.s0];exact T.hcn) h;rw [T.s0] at h2;obtain⟨A,gr,c,rfl,_,hin⟩:=Lz T.htn T.he T.hsz T.o0 T.o1 T.e0 T.e1 T.htl T.hte T.hst T.p0 T.p1 T.d0 T.d1 T.hcl T.hi T.hc1 h2;exact⟨A,gr,c,jq h1,hin⟩
section rl
variable {m tm ti tstr e ts:TypeId} {f0 f1 g0 g1 g2 g3 g4:Field} {tg tn te' tl tk:TypeId} {q0 a0 a1 b0 b1:Field}
end rl
end
end Go.Proofs.YtbcpgfnfiekbiaaGreatDoor
namespace Go.Proofs.YtbcpgfnfiekbiaaGreatDoor
open Go.RowKit Go.WideShapes
section rl
variable {H:Type} {enc:TypeId×Value→H} {P:Program} {w:World} {base:Nat} {spare:Nat→Bool} {held:Bool}
variable {m tm ti tstr e ts:TypeId} {f0 f1 g0 g1 g2 g3 g4:Field} {tg tn te' tl tk:TypeId} {q0 a0 a1 b0 b1:Field}
theorem rl_open {r:TypeId} {x0 x1 x2 x3 x4:Field} (T:TmT P m tm ti tstr e ts f0 f1 g0 g1 g2 g3 g4) (G:GrfT P tg tn te' ti tl tk q0 a0 a1 b0 b1) (hr:P.underlying r=some (.struct #[x0,x1,x2,x3,x4]))
    (o0:x0.offset=0) (o1:x1.offset=1) (o2:x2.offset=2) (o3:x3.offset=3) (o4:x4.offset=4) (t0:x0.type=tstr) (t1:x1.type=tg) (t2:x2.type=ti) (t3:x3.type=ti) (t4:x4.type=m) {fuel:Nat} {v0 v1 v2 v3 v4 v5 v6 v7 v8 v9:Value} {x:DataW H×List MemPlace} (h:DataW.trod enc P w base spare held fuel r [v0,v1,v2,v3,v4,v5,v6,v7,v8,v9]=some x):
    ∃ (z:Rl) (B A2 B2:Option Addr) (d c2 d2:Nat),[v0,v1,v2,v3,v4,v5,v6,v7,v8,v9]= [.string z.name,.slice B z.gr.length d,.int .i64 z.kids,.int .i64 z.wt,.int .i64 z.mean.kind,.string z.mean.name,.int .i64 z.mean.index,.string z.mean.type.base,.slice A2 z.mean.type.args.length c2,.slice B2 z.mean.args.length d2]∧NodesIn w B z.gr∧SimsIn w A2 z.mean.type.args∧TmsIn w B2 z.mean.args:=by
  obtain⟨n,hn,hlc,hf⟩:=flds hr h;obtain⟨y0,p0,_⟩:=hf 0 x0 rfl;obtain⟨y1,p1,_⟩:=hf 1 x1 rfl;obtain⟨y2,p2,_⟩:=hf 2 x2 rfl;obtain⟨y3,p3,_⟩:=hf 3 x3 rfl;obtain⟨y4,p4,_⟩:=hf 4 x4 rfl;rw [t0,o0,T.S.cs] at p0;rw [t1,o1,G.hgz] at p1;rw [t2,o2,T.ci] at p2;rw [t3,o3,T.ci] at p3;rw [t4,o4,T.hsz] at p4;obtain⟨nm,rfl,_⟩:=JK T.S.hs (show DataW.trod enc P w base spare held n tstr [v0]=some y0 from p0);obtain⟨B,gr,d,rfl,hG⟩:=gr_open G (show DataW.trod enc P w base spare held n tg [v1]=some y1 from p1);obtain⟨kd,h5,_,_⟩:=DataW.trod_int T.hi (show DataW.trod enc P w base spare held n ti [v2]=some y2 from p2);obtain⟨wt,h6,_,_⟩:=DataW.trod_int T.hi (show DataW.trod enc P w base spare held n ti [v3]=some y3 from p3);obtain⟨tt,A2,c2,B2,d2,h7,hS,hT⟩:=tm_open T rfl (show DataW.trod enc P w base spare held n m [v4,v5,v6,v7,v8,v9]=some y4 from p4);rw [jq h5,jq h6,h7];exact⟨⟨nm,gr,kd,wt,tt⟩,B,A2,B2,d,c2,d2,rfl,hG,hS,hT⟩
theorem oms_open {t r:TypeId} {x0 x1 x2:Field} (T:TmT P m tm ti tstr e ts f0 f1 g0 g1 g2 g3 g4) (ht:P.underlying t=some (.slice r)) (hr:P.underlying r=some (.struct #[x0,x1,x2])) (hsz:P.cellsOf r=8)
    (o0:x0.offset=0) (o1:x1.offset=1) (o2:x2.offset=2) (t0:x0.type=ti) (t1:x1.type=ti) (t2:x2.type=m) {fuel:Nat} {v:Value} {x:DataW H×List MemPlace} (h:DataW.trod enc P w base spare held fuel t [v]=some x):
    ∃ A l c,v= .slice A (List.length l) c∧OmsIn w A l:=by
  obtain⟨A,len,c,rfl,hl,hm,hx⟩:=slF ht hsz dE h;by_cases h0:len=0
  · subst h0
    exact⟨A,[],c,rfl,Nat.zero_le _,fun h=>absurd rfl h⟩
  · obtain⟨b,o,rfl,hlt,hc⟩:=hx h0
    obtain⟨l,hxl,hxs⟩:=jV (p:=fun i (z:Om)=>OmIn w b (o + i * 8) z) (n:=len) (fun i hi=>by
      obtain⟨cs,k,y,hk,h1,h2,h3,_⟩:=hc i hi;obtain⟨n,hn,hlc,hf⟩:=flds hr h3;obtain⟨y0,p0,_⟩:=hf 0 x0 rfl;obtain⟨y1,p1,_⟩:=hf 1 x1 rfl;obtain⟨y2,p2,_⟩:=hf 2 x2 rfl
      match cs,h1 with
      | [v0,v1,v2,v3,v4,v5,v6,v7],_=>
        rw [t0,o0,T.ci] at p0;rw [t1,o1,T.ci] at p1;rw [t2,o2,T.hsz] at p2;obtain⟨kd,h5,_,_⟩:=DataW.trod_int T.hi (show DataW.trod enc P w base spare held n ti [v0]=some y0 from p0);obtain⟨wt,h6,_,_⟩:=DataW.trod_int T.hi (show DataW.trod enc P w base spare held n ti [v1]=some y1 from p1);obtain⟨tt,A2,c2,B2,d2,h7,hS,hT⟩:=tm_open T rfl (show DataW.trod enc P w base spare held n m [v2,v3,v4,v5,v6,v7]=some y2 from p2);rw [jq h5,jq h6,h7] at h2
        exact⟨⟨kd,wt,tt⟩,A2,c2,B2,d2,h2,hS,hT⟩)
    subst hxl;exact⟨_,l,c,rfl,nLT hl hm,fun _=>⟨b,o,rfl,hlt,hxs⟩⟩
theorem ors_open {t r rl om or_:TypeId} {z0 z1 x0 x1 x2 x3 x4 y0 y1 y2:Field} (T:TmT P m tm ti tstr e ts f0 f1 g0 g1 g2 g3 g4) (G:GrfT P tg tn te' ti tl tk q0 a0 a1 b0 b1) (ht:P.underlying t=some (.slice r)) (hr:P.underlying r=some (.struct #[z0,z1])) (hsz:P.cellsOf r=11)
    (i0:z0.offset=0) (i1:z1.offset=10) (j0:z0.type=rl) (j1:z1.type=om) (hrl:P.underlying rl=some (.struct #[x0,x1,x2,x3,x4])) (hrz:P.cellsOf rl=10)
    (o0:x0.offset=0) (o1:x1.offset=1) (o2:x2.offset=2) (o3:x3.offset=3) (o4:x4.offset=4) (t0:x0.type=tstr) (t1:x1.type=tg) (t2:x2.type=ti) (t3:x3.type=ti) (t4:x4.type=m)
    (hom:P.underlying om=some (.slice or_)) (hoz:P.cellsOf om=1) (hor:P.underlying or_=some (.struct #[y0,y1,y2])) (hosz:P.cellsOf or_=8) (k0:y0.offset=0) (k1:y1.offset=1) (k2:y2.offset=2) (s0:y0.type=ti) (s1:y1.type=ti) (s2:y2.type=m)
    {fuel:Nat} {v:Value} {x:DataW H×List MemPlace} (h:DataW.trod enc P w base spare held fuel t [v]=some x):
    ∃ A l c,v= .slice A (List.length l) c∧OrsIn w A l:=by
  obtain⟨A,len,c,rfl,hl,hm,hx⟩:=slF ht hsz dE h;by_cases h0:len=0
  · subst h0
    exact⟨A,[],c,rfl,Nat.zero_le _,fun h=>absurd rfl h⟩
  · obtain⟨b,o,rfl,hlt,hc⟩:=hx h0
    obtain⟨l,hxl,hxs⟩:=jV (p:=fun i (z:Orl)=>∃ G S B O cg cs m co,w.rangeAt b (o + i * 11) (orC z G S B O cg cs m co)∧OrP w z G S B O) (n:=len) (fun i hi=>by
      obtain⟨cs,k,y,hk,h1,h2,h3,_⟩:=hc i hi;obtain⟨n,hn,hlc,hf⟩:=flds hr h3;obtain⟨w0,p0,_⟩:=hf 0 z0 rfl;obtain⟨w1,p1,_⟩:=hf 1 z1 rfl
      match cs,h1 with
      | [v0,v1,v2,v3,v4,v5,v6,v7,v8,v9,v10],_=>
        rw [j0,i0,hrz] at p0;rw [j1,i1,hoz] at p1;obtain⟨z,B,A2,B2,d,c2,d2,e1,hG,hS,hT⟩:=rl_open T G hrl o0 o1 o2 o3 o4 t0 t1 t2 t3 t4 (show DataW.trod enc P w base spare held n rl [v0,v1,v2,v3,v4,v5,v6,v7,v8,v9]=some w0 from p0);obtain⟨O,os,co,rfl,hO⟩:=oms_open T hom hor hosz k0 k1 k2 s0 s1 s2 (show DataW.trod enc P w base spare held n om [v10]=some w1 from p1);rw [show [v0,v1,v2,v3,v4,v5,v6,v7,v8,v9,Value.slice O os.length co]= [v0,v1,v2,v3,v4,v5,v6,v7,v8,v9] ++ [Value.slice O os.length co] from rfl,e1] at h2
        exact⟨⟨z,os⟩,B,A2,B2,O,d,c2,d2,co,h2,hG,hS,hT,hO⟩)
    subst hxl;exact⟨_,l,c,rfl,nLT hl hm,fun _=>⟨b,o,rfl,hlt,hxs⟩⟩
end rl
end Go.Proofs.YtbcpgfnfiekbiaaGreatDoor
