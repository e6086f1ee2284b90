/- What these functions compute, at every world: ref1.To, ref1.noType, term.none, ref1.SimpleText, ref1.SameType, simple.Same, ref1.SimpleFault, simple.Validate and 2 more; and plain laws. -/
import Derived.Test.YtiofaflajkgiaaaGreatDoorU
import Derived.Test.YtiofaflajkgiaaaGreatDoorZst
import Derived.Test.YtiofaflajkgiaaaGreatDoorNSw
import Derived.Test.YtiofaflajkgiaaaGreatDoorRng
namespace Go.Proofs.YtiofaflajkgiaaaGreatDoor
open Go.RowKit Go.Proofs.Tryz
set_option maxHeartbeats 2000000
theorem sm2_two{w:World}{b c1 c2:Nat}{A1 A2:Option Addr}{s t:Sm}(hb:Blk w b 31 #[.string s.base,.slice A1 s.args.length c1,.string t.base,.slice A2 t.args.length c2])(h1:SimsIn w A1 s.args)(h2:SimsIn w A2 t.args):SimsIn w (some ⟨b,0,none⟩) [s,t]:=by
 refine .more (by simp[jx]) hb.lt (fun k hk=>?_)
 match k,hk with
 | 0,_=>
  rw[show[s,t][0]=Sm.mk s.base s.args from Sm.eta s];refine SimAt.mk (c:=c1) hb.lt (fun i v hv=>?_) h1
  match i,hv with
  | 0,hv=>exact hb.cell hv
  | 1,hv=>exact hb.cell hv
  | i+2,hv=>simp at hv
 | 1,_=>
  rw[show[s,t][1]=Sm.mk t.base t.args from Sm.eta t];refine SimAt.mk (c:=c2) hb.lt (fun i v hv=>?_) h2
  match i,hv with
  | 0,hv=>exact hb.cell hv
  | 1,hv=>exact hb.cell hv
  | i+2,hv=>simp at hv
def tb(τ:Ts):ByteArray:=⟨τ.txt.toArray⟩
theorem I4(τ:Ts):(tb τ).size=τ.txt.length:=by rw[<- Iw];rfl
theorem tb_eq(a b:Ts):decide (tb a=tb b)=a.eqb b:=by
 by_cases h:a=b
 ·subst h;rw[decide_eq_true rfl,(Ts.eqb_iff).2 rfl]
 ·rw[decide_eq_false (fun e=>h (Ts.txt_inj (by have:=congrArg bl e;exact this)))]
  cases e:a.eqb b with
  | true=>exact absurd (Ts.eqb_iff.1 e) h
  | false=>rfl
theorem tb_leaf(t:Bool):tb (.b t)=(Ts.b t).sm.base:=by cases t<;>rfl
theorem tb_f(x y:Ts):(⟨#[40]⟩:ByteArray)++tb x++⟨#[32]⟩++tb y++⟨#[41]⟩=tb (.f x y):=by
 refine C4 ?_;simp only[bl_app];show[40]++x.txt++[32]++y.txt++[41]=40::(x.txt++32::(y.txt++[41]));simp
theorem ts_leaf{τ:Ts}(h:¬τ.sm.base=⟨#[]⟩):∃ t,τ= .b t:=by
 cases τ with
 | b t=>exact⟨t,rfl⟩
 | f x y=>exact absurd rfl h
theorem ts_fun{τ:Ts}(h:τ.sm.base=⟨#[]⟩):∃ x y,τ= .f x y:=by
 cases τ with
 | b t=>exact absurd h (by cases t<;>decide)
 | f x y=>exact⟨x,y,rfl⟩
theorem to_any(A1 A2:Option Addr)(c1 c2:Nat)(s t:Sm)(w:World):Calls prog 106 #[.agg #[.string s.base,.slice A1 s.args.length c1],.agg #[.string t.base,.slice A2 t.args.length c2]] w fun e w'=>(∃ b,e= .returned (.agg #[.string ⟨#[]⟩,.slice (some ⟨b,0,none⟩) 2 2])/\w.heap.size<=b/\Blk w' b 31 #[.string s.base,.slice A1 s.args.length c1,.string t.base,.slice A2 t.args.length c2])/\Bel w w':=by
 refine enT func106 ntmps106 rfl rfl fun hB=>?_;refine zn2 ?_;refine qY (v:= .agg #[_,_]) (cs:=#[_,_]) rfl rfl (fun b2 w1 hb2 s1 hr=>?_);refine qY (v:= .agg #[_,_]) (cs:=#[_,_]) rfl rfl (fun b3 w2 hb3 s2 hr=>?_);refine qk (cs:=#[.string ⟨#[]⟩,.slice none 0 0]) JQ rfl (fun b4 w3 a1 s3 hr=>?_);have lo4:=nLT (Bel.size hB.u) hr;refine zn6 ?_;refine qv (cs:=#[_,_,_,_]) [(0,.agg _),(1,.agg _)] rfl U29 xY JQ dE dE kR rfl (fun b7 w4 hb7 s4 hr=>?_);have:=nLL a1.lt hr;have lo7:=nLT (Bel.size hB.u) hr;refine wl (ZY (v0:= .slice _ _ _) (fun v0=>#[.string ⟨#[]⟩,v0]) rfl kR) ?_;refine zk a1.u rfl rfl xY rfl zJ (fun w5 hq s5=>?_);replace a1:=hq;refine zn3 ?_;refine yx (.inl rfl) rfl (zZ U31 rfl rfl a1.range0 xY) ?_;exact⟨⟨b7,rfl,lo7,hb7.u⟩,hB.u⟩
theorem VV(A:Option Addr)(c:Nat)(s:Sm)(w:World):Calls prog 71 #[.agg #[.string s.base,.slice A s.args.length c]] w fun e w'=>e= .returned (.bool (decide (IZ s)))/\Bel w w':=by
 refine enT func71 ntmps71 rfl rfl fun hB=>?_;refine zn2 ?_;refine qY (v:= .agg #[_,_]) (cs:=#[_,_]) rfl rfl (fun b1 w1 hb1 s1 hr=>?_);refine zn4 ?_;refine xk (rg [] 2 10) 2 (.bool (decide (IZ s))) nu ?_ (fun gq=>?_)
 ·refine zn5 ?_;refine zw 6 rfl (fun g6=>?_) (fun g6=>?_)
  ·refine vy ?_;refine zQ (e_R ⟨rfl,agA,?_⟩);show Value.bool _=Value.bool _
   first|exact ac (ai.2 ⟨fun e=>⟨g6,by omega⟩,fun e=>by have:=e.2;omega⟩)|exact ac (ao (fun e=>g6 e.1)).symm
  refine zn6 ?_;refine zQ (e_R ⟨rfl,agA,?_⟩);show Value.bool _=Value.bool _
  first|exact ac (ai.2 ⟨fun e=>⟨g6,by omega⟩,fun e=>by have:=e.2;omega⟩)|exact ac (ao (fun e=>g6 e.1)).symm
 refine zn3 ?_;exact⟨rfl,hB.u⟩
theorem Wz(A:Option Addr)(c:Nat)(s:Sm)(w:World):Calls prog 90 #[.agg #[.string s.base,.slice A s.args.length c]] w fun e w'=>e= .returned (.bool (decide (IZ s)))/\Bel w w':=by
 refine enT func90 ntmps90 rfl rfl fun hB=>?_;refine zn2 ?_;refine qY (v:= .agg #[_,_]) (cs:=#[_,_]) rfl rfl (fun b1 w1 hb1 s1 hr=>?_);refine zn4 ?_;refine xk (rg [] 2 10) 2 (.bool (decide (IZ s))) nu ?_ (fun gq=>?_)
 ·refine zn5 ?_;refine zw 6 rfl (fun g6=>?_) (fun g6=>?_)
  ·refine vy ?_;refine zQ (e_R ⟨rfl,agA,?_⟩);show Value.bool _=Value.bool _
   first|exact ac (ai.2 ⟨fun e=>⟨g6,by omega⟩,fun e=>by have:=e.2;omega⟩)|exact ac (ao (fun e=>g6 e.1)).symm
  refine zn6 ?_;refine zQ (e_R ⟨rfl,agA,?_⟩);show Value.bool _=Value.bool _
  first|exact ac (ai.2 ⟨fun e=>⟨g6,by omega⟩,fun e=>by have:=e.2;omega⟩)|exact ac (ao (fun e=>g6 e.1)).symm
 refine zn3 ?_;exact⟨rfl,hB.u⟩
set_option maxHeartbeats 1000000 in
theorem stx_step{τ:Ts}{A:Option Addr}{c:Nat}{w:World}(hS:SimsIn w A τ.sm.args)(a1:τ.txt.length<=1000000)(IH:∀ x∈τ.kids,∀(A2:Option Addr) (c2:Nat) (w2:World),SimsIn w2 A2 x.sm.args->x.txt.length<=1000000->Calls prog 122 #[.agg #[.string (x).sm.base,.slice A2 (x).sm.args.length c2]] w2 fun e w'=>e= .returned (.string (tb x))/\Bel w2 w'):Calls prog 122 #[.agg #[.string (τ).sm.base,.slice A (τ).sm.args.length c]] w fun e w'=>e= .returned (.string (tb τ))/\Bel w w':=by
 refine enT func122 ntmps122 rfl rfl fun hB=>?_;refine zn2 ?_;refine qY (v:= .agg #[_,_]) (cs:=#[_,_]) rfl rfl (fun b1 w1 hb1 s1 hr=>?_);refine kQ ?_;refine zV rfl (fun c5=>?_) (fun c5=>?_)
 ·obtain⟨t,rfl⟩:=ts_leaf c5;refine vy ?_;exact⟨congrArg (fun z=>Ending.returned (.string z)) (tb_leaf t).symm,hB.u⟩
 obtain⟨x,y,rfl⟩:=ts_fun (ak.1 c5);obtain⟨sb,so,A1,c1,rfl,hsb,hr1,hs1⟩:=hS.at_ (k:=0) (by simp[Ts.sm,Sm.args]);obtain⟨_,_,A2,c2,e2,_,hr2,hs2⟩:=hS.at_ (k:=1) (by simp[Ts.sm,Sm.args]);cases e2;have hlx:x.txt.length+y.txt.length+3<=1000000:=by simp[Ts.txt]at a1;omega
 refine zn3 ?_;refine u5 [] [0,1,2,3,7,8,9,10,4,5,6,11,12,13,14] rfl (fun w2 s2=>?_);refine zn2 ?_;refine hl rfl (fun _=>xX (i:=0) U29 xY rfl rfl (by show 0<2;decide) rfl) (zn3 ?_);refine hl rfl (fun _=>xX (i:=1) U29 xY rfl rfl (by show 1<2;decide) rfl) (zn1 ?_);refine hcl (fun v wv=>v= .string (tb x)) rfl kR (IH x (aw ..) A1 c1 w2 (hs1.mono hB.u) oG) rfl (fun e' w2 hr=>?_) (fun v12 w3 s3 d12=>?_)
 ·obtain⟨rfl,s4⟩:=hr;exact⟨_,rfl,sB s4,rfl⟩
 have e12:=d12;subst e12;refine hl rfl (fun _=>Dv rfl rfl (by rw[I4];show 1+_<=_;omega)) (hl rfl (fun _=>Dv rfl rfl (by rw[ByteArray.size_append,I4];show 1+_+1<=_;omega)) ?_);refine hcl (fun v wv=>v= .string (tb y)) rfl kR (IH y (aq _ (aw ..)) A2 c2 w3 (hs2.mono hB.u) oG) rfl (fun e' w2 hr=>?_) (fun v19 w4 s5 d19=>?_)
 ·obtain⟨rfl,s6⟩:=hr;exact⟨_,rfl,sB s6,rfl⟩
 have e19:=d19;subst e19;refine hl rfl (fun _=>Dv rfl rfl (by rw[ByteArray.size_append,ByteArray.size_append,I4,I4];show 1+_+1+_<=_;omega)) (hl rfl (fun _=>Dv rfl rfl (by rw[ByteArray.size_append,ByteArray.size_append,ByteArray.size_append,I4,I4];show 1+_+1+_+1<=_;omega)) (zn5 ?_));exact⟨congrArg (fun z=>Ending.returned (.string z)) (tb_f x y),hB.u⟩
theorem stx_any:∀(k:Nat) (τ:Ts),τ.size<k->∀(A:Option Addr) (c:Nat) (w:World),SimsIn w A τ.sm.args->τ.txt.length<=1000000->Calls prog 122 #[.agg #[.string (τ).sm.base,.slice A (τ).sm.args.length c]] w fun e w'=>e= .returned (.string (tb τ))/\Bel w w':=by
 intro k
 induction k with
 | zero=>intro τ h;omega
 | succ k ih=>exact fun τ h A c w hS hl=>stx_step hS hl (fun x hx A2 c2 w2 h1 h2=>ih x (by have:=Ts.kids_lt hx;omega) A2 c2 w2 h1 h2)
theorem samet_any(A1 A2:Option Addr)(c1 c2:Nat)(a b:Ts)(w:World)(h1:SimsIn w A1 a.sm.args)(h2:SimsIn w A2 b.sm.args)(hl1:a.txt.length<=1000000)(hl2:b.txt.length<=1000000):Calls prog 107 #[.agg #[.string a.sm.base,.slice A1 a.sm.args.length c1],.agg #[.string b.sm.base,.slice A2 b.sm.args.length c2]] w fun e w'=>e= .returned (.bool (a.eqb b))/\Bel w w':=by
 refine enT func107 ntmps107 rfl rfl fun hB=>?_;refine zn2 ?_;refine qY (v:= .agg #[_,_]) (cs:=#[_,_]) rfl rfl (fun b2 w1 hb2 s1 hr=>?_);refine qY (v:= .agg #[_,_]) (cs:=#[_,_]) rfl rfl (fun b3 w2 hb3 s2 hr=>?_);refine zn4 ?_;refine u5 [] [0,2,1,3,4,5] rfl (fun w3 s3=>?_);refine zn2 ?_;refine hcl (fun v wv=>v= .string (tb a)) rfl kR (stx_any _ a (aG _) A1 c1 w3 (h1.mono hB.u) hl1) rfl (fun e' w2 hr=>?_) (fun v6 w4 s4 d6=>?_)
 ·obtain⟨rfl,s5⟩:=hr;exact⟨_,rfl,sB s5,rfl⟩
 have e6:=d6;subst e6;refine hcl (fun v wv=>v= .string (tb b)) rfl kR (stx_any _ b (aG _) A2 c2 w4 (h2.mono hB.u) hl2) rfl (fun e' w2 hr=>?_) (fun v8 w5 s6 d8=>?_)
 ·obtain⟨rfl,s7⟩:=hr;exact⟨_,rfl,sB s7,rfl⟩
 have e8:=d8;subst e8;refine zn6 ?_;exact⟨congrArg (fun z=>Ending.returned (.bool z)) (tb_eq a b),hB.u⟩
set_option maxRecDepth 100000 in
theorem same_step{A1 A2:Option Addr}{c1 c2:Nat}{a b:Ts}{w:World}(h1:SimsIn w A1 a.sm.args)(h2:SimsIn w A2 b.sm.args)(IH:∀ x∈a.kids,∀(A1 A2:Option Addr) (c1 c2:Nat) (b:Ts) (w:World),SimsIn w A1 x.sm.args->SimsIn w A2 b.sm.args->Calls prog 114 #[.agg #[.string x.sm.base,.slice A1 x.sm.args.length c1],.agg #[.string b.sm.base,.slice A2 b.sm.args.length c2]] w fun e w'=>e= .returned (.bool (x.eqb b))/\Bel w w'):Calls prog 114 #[.agg #[.string a.sm.base,.slice A1 a.sm.args.length c1],.agg #[.string b.sm.base,.slice A2 b.sm.args.length c2]] w fun e w'=>e= .returned (.bool (a.eqb b))/\Bel w w':=by
 have hk1:=Ts.kids_len a;have hk2:=Ts.kids_len b;have ek1:a.sm.args.length=a.kids.length:=by rw[Ts.kids_sm,List.length_map]
 have ek2:b.sm.args.length=b.kids.length:=by rw[Ts.kids_sm,List.length_map]
 refine enT func114 ntmps114 rfl rfl fun hB=>?_;refine zn2 ?_;refine qY (v:= .agg #[_,_]) (cs:=#[_,_]) rfl rfl (fun b2 w1 a7 s1 hr=>?_);refine qY (v:= .agg #[_,_]) (cs:=#[_,_]) rfl rfl (fun b3 w2 a6 s2 hr=>?_);refine zn5 ?_;replace hB:=hB.tr0 (s1.t s2);refine xk (rg [] 6 14) 19 (.bool (decide (¬(a.sm.base=b.sm.base/\a.sm.args.length=b.sm.args.length)))) nu ?_ (fun gq=>?_)
 ·refine zn7 ?_;refine zw 11 rfl (fun a2=>?_) (fun a2=>?_)
  ·refine zn8 ?_;refine zQ (e_R ⟨rfl,agA,?_⟩);show Value.bool _=Value.bool _
   first|exact ac (ah (by exact fun h=>a2 h.1)).symm|exact ac (ai.2 (by exact⟨fun h k=>h (by have:=k.2;omega),fun h e=>h ⟨am.1 a2,by omega⟩⟩))
  refine My ?_;refine zQ (e_R ⟨rfl,agA,?_⟩);show Value.bool _=Value.bool _
  first|exact ac (ah (by exact fun h=>a2 h.1)).symm|exact ac (ai.2 (by exact⟨fun h k=>h (by have:=k.2;omega),fun h e=>h ⟨am.1 a2,by omega⟩⟩))
 refine e_S ?_;refine zV rfl (fun a8=>?_) (fun a8=>?_)
 ·refine zn8 ?_;have a4:¬a=b:=fun e=>a8 (by subst e;exact⟨rfl,rfl⟩)
  exact⟨congrArg (fun z=>Ending.returned (.bool z)) (Bool.eq_false_iff.2 (fun e=>a4 (Ts.eqb_iff.1 e))).symm,hB⟩
 have hbl:=ak.1 a8;refine jz ?_;refine qj (rg [4,5] 23 16) (fun m g w'=>∃ j:Nat,j<=a.kids.length/\m=a.kids.length-j/\g 23= .int .i64 j/\Bel w w'/\Blk w' b2 31 #[.string a.sm.base,.slice A1 a.sm.args.length c1]/\Blk w' b3 31 #[.string b.sm.base,.slice A2 b.sm.args.length c2]/\a.kids.take j=b.kids.take j) (a.kids.length) ?_ (fun m g4 w3 hI=>?_)
 ·exact⟨0,ag _,rfl,rfl,hB,a7.u,a6,rfl⟩
 obtain⟨j,hj,hmj,h23,hB,a7,a6,a1⟩:=hI;refine zK 23 _ h23 nu (zn6 ?_);refine zV rfl (fun c24=>?_) (fun c24=>?_)
 ·have a5:j<a.kids.length:=by omega
  have hjb:j<b.kids.length:=by omega
  obtain⟨sb,so,A3,c3,rfl,hsb,hr3,hs3⟩:=FJ h1 a5;obtain⟨tb,to,A4,c4,rfl,htb,hr4,hs4⟩:=FJ h2 hjb;refine kQ ?_;refine KW 10 kR kR (fun w4 s3=>?_);refine vy ?_;refine Kk ?_;refine aY kR (IH _ (ar a5) A3 A4 c3 c4 _ _ (hs3.mono hB.u) (hs4.mono hB.u)) rfl (fun w5 s4=>?_);refine zn3 ?_;refine ky rfl (fun a3=>?_) (fun a3=>?_)
  ·refine jz ?_;have a4:¬a=b:=fun e=>by
    have h:=(Ts.eqb_iff (a:=a.kids[j]) (b:=b.kids[j])).2 (by subst e;rfl);rw[h]at a3;cases a3
   exact⟨congrArg (fun z=>Ending.returned (.bool z)) (Bool.eq_false_iff.2 (fun e=>a4 (Ts.eqb_iff.1 e))).symm,hB.u⟩
  refine zn7 ?_;refine xK (a.kids.length-(j+1)) oG agA ?_;exact⟨j+1,by omega,rfl,rfl,hB.u,a7.u,a6.u,take_kid a1 a5 hjb (Ts.eqb_iff.1 (by simpa using a3))⟩
 have hje:j=a.kids.length:=by omega
 refine jz ?_;rw[hje,List.take_of_length_le (Nat.le_refl _),List.take_of_length_le oG]at a1;exact⟨congrArg (fun z=>Ending.returned (.bool z)) (Ts.eqb_iff.2 (Ts.ext hbl.1 a1)).symm,hB⟩
theorem same_anyK:∀(k:Nat) (a:Ts),a.size<k->∀(A1 A2:Option Addr) (c1 c2:Nat) (b:Ts) (w:World),SimsIn w A1 a.sm.args->SimsIn w A2 b.sm.args->Calls prog 114 #[.agg #[.string a.sm.base,.slice A1 a.sm.args.length c1],.agg #[.string b.sm.base,.slice A2 b.sm.args.length c2]] w fun e w'=>e= .returned (.bool (a.eqb b))/\Bel w w':=by
 intro k
 induction k with
 | zero=>intro a h;omega
 | succ k ih=>exact fun a h A1 A2 c1 c2 b w h1 h2=>same_step h1 h2 (fun x hx A3 A4 c3 c4 b2 w2 h3 h4=>ih x (by have:=Ts.kids_lt hx;omega) A3 A4 c3 c4 b2 w2 h3 h4)
theorem samE_any(A1 A2:Option Addr)(c1 c2:Nat)(a b:Ts)(w:World)(h1:SimsIn w A1 a.sm.args)(h2:SimsIn w A2 b.sm.args):Calls prog 114 #[.agg #[.string a.sm.base,.slice A1 a.sm.args.length c1],.agg #[.string b.sm.base,.slice A2 b.sm.args.length c2]] w fun e w'=>e= .returned (.bool (a.eqb b))/\Bel w w':=same_anyK _ a (aG _) A1 A2 c1 c2 b w h1 h2
theorem map_two{α β:Type}{l:List α}(h:l.length=2)(f:α->β):l.map f= [f (l[0]'oG),f (l[1]'oG)]:=by
 match l,h with
 | [a,b],_=>rfl
theorem okR1{s:Sm}(h:¬s.base=⟨#[]⟩)(k:s.base≠⟨#[101]⟩)(l:s.base≠⟨#[116]⟩):¬YJ s:=by
 rintro (⟨h1|h1,_⟩|⟨h1,_⟩)
 ·exact k h1
 ·exact l h1
 ·exact h h1
theorem okR2{s:Sm}(h:s.base=smE\/s.base=smT):((s.args.length:Nat):Int)≠0↔¬YJ s:=
 ⟨fun k h2=>by
  rcases h2 with ⟨_,h2⟩|⟨h2,_⟩
  ·omega
  ·exact okX h h2,fun k h2=>k (.inl ⟨h,by omega⟩)⟩
theorem in167:(Tryz.prog.info? 167).map (fun i=>(i.zero,i.size,i.bytes))=some (some (.agg #[.string ⟨#[]⟩,.slice none 0 0,.int .i64 0]),3,48):=by kernel_rfl
theorem Bv:(Tryz.prog.info? 167).map (·.size)=some 3:=by kernel_rfl
theorem ze167:(Tryz.prog.info? 167).map (·.zero)=some (some (.agg #[.string ⟨#[]⟩,.slice none 0 0,.int .i64 0])):=by kernel_rfl
set_option maxRecDepth 100000 in
set_option maxHeartbeats 4000000 in
theorem D6(A:Option Addr)(c:Nat)(s:Sm)(w:World)(hS:SimsIn w A s.args):Calls Tryz.prog 73 #[.agg #[.string s.base,.slice A s.args.length c]] w fun e w'=>e= .returned (.int .i64 (smF s))/\Bel w w':=by
 have hR0:smF s=(sst [(s,1)] 0).2:=by rw[sst_one];rfl
 refine enT Tryz.func73 Tryz.ntmps73 rfl rfl fun hB=>?_;refine zn2 ?_;refine qY (v:= .agg #[_,_]) (cs:=#[_,_]) rfl rfl (fun b1 w1 hb1 t1 hr=>?_);refine zn6 ?_;refine wl (jk (v0:= .agg _) (v1:= .int _ _) (fun v0 v1=>#[(qz v0 0),(qz v0 1),v1]) rfl rfl kR) ?_;refine qv (cs:=#[_,_,_]) [(0,.agg _)] rfl U168 Bv ze167 dE dE kR rfl (fun b8 w2 hb8 t2 hr=>?_);have lo8:=nLT (Bel.size hB.u) hr;refine vy ?_;refine qj (rg [2,3,4,5] 9 70) (fun m g w'=>∃(st:List (Sm×Nat)) (vs:List Value) (A3:Option Addr) (a6 n:Nat),m=201-n/\n<=200/\st.length<=2*n+1/\g 3= .slice A3 st.length a6/\g 4= .int .i64 n/\Bel w w'/\Own w' w.heap.size 167 3 A3 st.length a6 vs/\StkS w st vs/\smF s=(sst st.reverse n).2) (201) ?_ (fun m g3 w3 hI=>?_)
 ·replace hB:=hB.tr0 (t1.t t2);exact⟨[(s,1)],_,_,_,0,rfl,by omega,by simp,rfl,rfl,hB,I9 (m:=1) hb8 lo8 rfl dE,.snoc .nil hS,hR0⟩
 obtain⟨st,vs,A3,a6,n,hm,hn,hsl,h3,h4,hB,ho,bb,hR⟩:=hI;refine zK 3 _ h3 nu (zK 4 _ h4 nu (zn8 ?_));refine zV rfl (fun c11=>?_) (fun c11=>?_)
 ·obtain⟨a1,a7,s1,d1,A1,c1,rfl,rfl,a2,hs1⟩:=bb.pop oG;have a9:(a1++[(s1,d1)]).length=a1.length+1:=by simp
  rw[Ky]at hR;obtain⟨q,rfl,hqb,hql,hqc⟩:=ho.cell (by simp);refine zn8 ?_;refine wl (jX (c:=(a1.length:Int)) rfl rfl (by rw[a9];omega) oG) (wl (xX (i:=a1.length) U168 Bv rfl rfl (by rw[a9];omega) rfl) (wl (qZ U167 rfl rfl (own_top ho a2.len) Bv) ?_));refine yj (cs:=#[.string ⟨#[]⟩,.slice none 0 0,.int .i64 0]) ze167 rfl (fun _=>rfl) (fun _=>rfl) Bv rfl zJ (fun b5 w5 hb5 t3 hr=>?_);refine zn7 ?_;refine wl (jX (c:=(a1.length:Int)) rfl rfl (by rw[a9];omega) oG) ?_;replace ho:=ho.tr0 t3;refine wl (Dq (h:=a1.length) U168 Bv rfl rfl (by have:=ho.cap_le;omega)) (zn4 ?_);replace hB:=hB.tr0 t3;replace ho:Own w5 w.heap.size 167 3 (some ⟨q,0,none⟩) a1.length a6 a7:=by
    have h:=ho.take (k':=a1.length) oG oG
    rwa[List.take_append_of_le_length (by rw[a2.len];exact ae _),List.take_of_length_le (by rw[a2.len];exact ae _)]at h
  refine zn8 ?_;refine xk [25,26,27,28,29,30,31] 31 (.bool (decide (200<n+1\/40<d1))) nu ?_ (fun gq=>?_)
  ·refine zn4 ?_;refine zw 27 rfl (fun g27=>?_) (fun g27=>?_)
   ·refine zn4 ?_;refine zQ (e_R ⟨rfl,agA,?_⟩);exact clA
   refine zn7 ?_;refine zQ (e_R ⟨rfl,agA,?_⟩);exact clA
  refine e_S ?_;refine zV rfl (fun b3=>?_) (fun b3=>?_)
  ·rw[sst_out b3]at hR;refine jz ?_;exact⟨by rw[hR];rfl,hB⟩
  refine vy ?_;refine zV rfl (fun b2=>?_) (fun b2=>?_)
  ·refine vy ?_;refine zV rfl (fun c40=>?_) (fun c40=>?_)
   ·have hno:¬YJ s1:=fun h=>by
      rcases h with ⟨h,_⟩|⟨_,h⟩
      · exact okX h b2
      · omega
    rw[sst_bad b3 hno]at hR;refine jz ?_;exact⟨by rw[hR];rfl,hB⟩
   have h2l:s1.args.length=2:=by omega
   have a3:1<s1.args.length:=by omega
   have a4:0<s1.args.length:=by omega
   have ba:YJ s1:= .inr ⟨b2,h2l⟩;rw[sst_go b3 ba]at hR;obtain⟨sb,so,B0,e0,rfl,hsb,hr0,b7⟩:=hs1.at_ a4;obtain⟨_,_,B1,e1,ez,_,hr1,b6⟩:=hs1.at_ a3;cases ez;have b9:smF s=(sst (a1++[((s1.args[1]'a3),d1+1)]++[((s1.args[0]'a4),d1+1)]).reverse (n+1)).2:=by
     rw[hR,Ky,Ky,map_two h2l];rfl
   refine J7 (e_S ?_);have zo:=fun g hg=>(ho.lt g hg).2
   refine X6 [] [20] [0,1,2,3,4,5,6,7,8,9,10,11,12,13,14,15,16,17,18,19,20,21] rfl (fun w6 t4=>?_);refine zn4 ?_;refine hl rfl (fun _=>xX (i:=1) U29 xY rfl rfl a3 rfl) (zn4 ?_);refine hl rfl (fun _=>jk (v0:= .agg _) (v1:= .int _ _) (fun v0 v1=>#[(qz v0 0),(qz v0 1),v1]) rfl rfl kR) (zn3 ?_);refine hl rfl (fun _=>xX (i:=0) U29 xY rfl rfl a4 rfl) (zn4 ?_);refine hl rfl (fun _=>jk (v0:= .agg _) (v1:= .int _ _) (fun v0 v1=>#[(qz v0 0),(qz v0 1),v1]) rfl rfl kR) (h1 rfl ?_);refine qv (cs:=#[_,_,_,_,_,_]) [(0,.agg _),(1,.agg _)] rfl U168 Bv ze167 dE dE kR rfl (fun b60 w7 bc t5 hr=>?_);have b4:=t5;refine zQ (E2 b4 (h1 rfl ?_));replace ho:=ho.tr0 (t4.t t5);refine jv U168 in167 rfl dE ho bc rfl rfl rfl zJ dE oG oG (Bel.size hB.u) (fun bd a5 w8 a8 hs2 hg61=>?_);replace hB:=hB.tr0 (t4.t t5);replace hB:=hB.tr hs2 (fun g hg=>nLT (ae _) (ho.lt g hg).1);obtain⟨bd,a5,e61,a8⟩:∃ g cap,(.slice (some ⟨bd,0,none⟩) (a1.length+2) a5:Value)= .slice (some ⟨g,0,none⟩) (a1.length+2) cap/\Own w8 w.heap.size 167 3 (some ⟨g,0,none⟩) (a1.length+2) cap (a7++[.string (s1.args[1]'a3).base,.slice B1 (s1.args[1]'a3).args.length e1,.int .i64 ((d1:Nat)+1:Int),.string (s1.args[0]'a4).base,.slice B0 (s1.args[0]'a4).args.length e0,.int .i64 ((d1:Nat)+1:Int)]):=⟨_,_,rfl,a8⟩
   cases e61;refine zQ (Hj [] ?_);have q1:(a1++[((s1.args[1]'a3),d1+1)]++[((s1.args[0]'a4),d1+1)]).length=a1.length+2:=by simp
   have q2:a7++[.string (s1.args[1]'a3).base,.slice B1 (s1.args[1]'a3).args.length e1,.int .i64 ((d1:Nat)+1:Int)]++[.string (s1.args[0]'a4).base,.slice B0 (s1.args[0]'a4).args.length e0,.int .i64 ((d1:Nat)+1:Int)]=a7++[.string (s1.args[1]'a3).base,.slice B1 (s1.args[1]'a3).args.length e1,.int .i64 ((d1:Nat)+1:Int),.string (s1.args[0]'a4).base,.slice B0 (s1.args[0]'a4).args.length e0,.int .i64 ((d1:Nat)+1:Int)]:=by simp
   have ho:Own w8 w.heap.size 167 3 (some ⟨bd,0,none⟩) (a1++[((s1.args[1]'a3),d1+1)]++[((s1.args[0]'a4),d1+1)]).length a5 (a7++[.string (s1.args[1]'a3).base,.slice B1 (s1.args[1]'a3).args.length e1,.int .i64 ((d1:Nat)+1:Int)]++[.string (s1.args[0]'a4).base,.slice B0 (s1.args[0]'a4).args.length e0,.int .i64 ((d1:Nat)+1:Int)]):=by rw[q1,q2];exact a8
   refine zn3 ?_;refine xK (201-(n+1)) oG agA ?_
   first
     | exact⟨a1++[((s1.args[1]'a3),d1+1)]++[((s1.args[0]'a4),d1+1)],_,_,_,n+1,rfl,by omega,by rw[q1];omega,(by rw[q1];rfl),rfl,hB,ho,.snoc (.snoc a2 b6) b7,b9⟩
     | exact⟨a1,a7,_,_,n+1,rfl,by omega,by omega,rfl,rfl,hB,ho,a2,b9⟩
  refine xy ?_;refine xk (rg [] 62 17) 78 (.bool (decide (¬YJ s1))) nu ?_ (fun gq=>?_)
  ·refine zn6 ?_;refine zw 66 rfl (fun an=>?_) (fun an=>?_)
   ·refine vy ?_;refine zw 72 rfl (fun ad=>?_) (fun ad=>?_)
    ·refine zn6 ?_;refine zQ (e_R ⟨rfl,agA,?_⟩);show Value.bool _=Value.bool _
     first|exact ac (ah (by exact okR1 b2 an ad)).symm|exact ac (ai.2 (by exact okR2 (.inr (am.1 ad))))|exact ac (ai.2 (by exact okR2 (.inl (am.1 an))))
    refine kQ ?_;refine zQ (e_R ⟨rfl,agA,?_⟩);show Value.bool _=Value.bool _
    first|exact ac (ah (by exact okR1 b2 an ad)).symm|exact ac (ai.2 (by exact okR2 (.inr (am.1 ad))))|exact ac (ai.2 (by exact okR2 (.inl (am.1 an))))
   refine Ry ?_;refine zQ (e_R ⟨rfl,agA,?_⟩);show Value.bool _=Value.bool _
   first|exact ac (ah (by exact okR1 b2 an ad)).symm|exact ac (ai.2 (by exact okR2 (.inr (am.1 ad))))|exact ac (ai.2 (by exact okR2 (.inl (am.1 an))))
  refine e_S ?_;refine zV rfl (fun be=>?_) (fun be=>?_)
  ·rw[sst_bad b3 be]at hR;refine kQ ?_;exact⟨by rw[hR];rfl,hB⟩
  have ba:YJ s1:=am.1 be;have ha0:s1.args= []:=by
    rcases ba with ⟨_,h⟩|⟨h,_⟩
    · exact aB.1 h
    · exact absurd h b2
  have b9:smF s=(sst a1.reverse (n+1)).2:=by rw[hR,sst_go b3 ba,ha0];rfl
  refine J7 (e_B (xK (201-(n+1)) oG agA ?_))
  first
    | exact⟨a1++[((s1.args[1]'a3),d1+1)]++[((s1.args[0]'a4),d1+1)],_,_,_,n+1,rfl,by omega,by rw[q1];omega,(by rw[q1];rfl),rfl,hB,ho,.snoc (.snoc a2 b6) b7,b9⟩
    | exact⟨a1,a7,_,_,n+1,rfl,by omega,by omega,rfl,rfl,hB,ho,a2,b9⟩
 have hst:st= []:=aB.1 oG;subst hst;have hR3:smF s=0:=hR;refine jz ?_;exact⟨by rw[hR3];rfl,hB⟩
theorem sz183:(Tryz.prog.info? 183).map (·.size)=some 1:=by kernel_rfl
theorem ze183:(Tryz.prog.info? 183).map (·.zero)=some (some (.nilFunc)):=by kernel_rfl
set_option maxHeartbeats 1000000 in
theorem FQ(A:Option Addr)(c:Nat)(s:Sm)(w:World)(hS:SimsIn w A s.args):Calls Tryz.prog 89 #[.agg #[.string s.base,.slice A s.args.length c]] w fun e w'=>e= .returned (flV (smF s,0))/\Bel w w':=by
 refine enT Tryz.func89 Tryz.ntmps89 rfl rfl fun hB=>?_;refine zn2 ?_;refine qY (v:= .agg #[_,_]) (cs:=#[_,_]) rfl rfl (fun b1 w1 a6 s1 hr=>?_);refine qk (cs:=#[.int .i64 0,.int .i64 0]) qK rfl (fun b2 w2 a1 s2 hr=>?_);have:=nLL a6.lt hr;have lo2:=nLT (Bel.size hB.u) hr;refine zn4 ?_;refine qk (cs:=#[.int .i64 0]) Qj rfl (fun b3 w3 a2 s3 hr=>?_);have:=nLL a6.u.lt hr;have:=nLL a1.lt hr;have a3:=nLT (Bel.size hB.u) hr;refine xZ (v:= .int _ _) a2 rfl rfl xx (by first|decide|simp) rfl rfl (fun w4 hq s4=>?_);replace a2:=hq;refine zn4 ?_;refine qk (cs:=#[.nilFunc]) ze183 rfl (fun b4 w5 a4 s5 hr=>?_);have:=nLL a6.u.lt hr;have:=nLL a1.u.lt hr;have:=nLL a2.lt hr;have lo4:=nLT (Bel.size hB.u) hr;refine zn4 ?_;refine wl (r_mf rfl) ?_;refine xZ (v:= .func _ _ _) a4 rfl rfl sz183 (by first|decide|simp) rfl rfl (fun w6 hq s6=>?_);replace a4:=hq;refine zn6 ?_;refine y9 rfl kR (swk_any (w0:=w) (bN:=b3) (bV:=b4) a3 lo4 oG s A c 1 0 _ hS oG oG hB.u a2.u a4) rfl rfl (fun e' w7 hr=>?_);obtain⟨rfl,hC2,a5⟩:=hr;replace hB:=(((hB.tr0 (s1.t (s2.t s3))).tr1 s4 a3).tr0 s5).tr1 s6 lo4;replace hB:=hB.chG hC2 (fun g hg=>by rw[show g=b3 from hg];exact a3);replace a1:=(((a1.tr0 s3).tr1 s4 oG).tr0 s5).tr1 s6 oG;replace a1:=a1.chG hC2 (fun hx=>by have hx:b2=b3:=hx;omega);replace a2:=a5;refine⟨_,rfl,?_⟩;refine wl (ZY (v0:= .int _ _) (fun v0=>#[v0,.int .i64 0]) rfl kR) ?_;refine zk a1 rfl rfl zq rfl zJ (fun w8 hq s7=>?_);replace a1:=hq;refine zn3 ?_;refine yx (.inl rfl) rfl (zZ U45 rfl rfl a1.range0 zq) ?_;exact⟨rfl,hB.u⟩
theorem twk_out{t:Tm}{d b n:Nat}(h:200<n+1\/40<d):twk t d b n=(n+1,(1,(n:Int))):=by rw[Vx,if_pos h]
theorem QY{t:Tm}{d b n:Nat}{c:Int}(h:¬(200<n+1\/40<d))(hc:ndC b t=c)(h0:c≠0):twk t d b n=(n+1,(c,(n:Int))):=by rw[Vx,if_neg h,if_neg (by rw[hc];exact h0),hc]
theorem twk_nil{t:Tm}{d b n:Nat}(h:¬(200<n+1\/40<d))(hc:ndC b t=0)(ha:t.args= []):twk t d b n=(n+1,(0,0)):=by rw[Vx,if_neg h,if_pos hc,ha,Yq]
theorem twk_end(x:Tm)(d b n:Nat):Yq [x] d b n=twk x d b n:=by
 rw[Yq];by_cases h:(twk x d b n).2.1=0
 ·rw[if_pos h,Yq,<- twk_z h]
 ·rw[if_neg h]
theorem twks_one{l:List Tm}(hl:l.length=1)(h0:0<l.length)(d b n:Nat):Yq l d b n=twk (l[0]'h0) d b n:=by
 match l,hl with
 | [x],_=>exact twk_end x d b n
theorem twks_two{l:List Tm}(hl:l.length=2)(h0:0<l.length)(h1:1<l.length)(d b n:Nat):Yq l d b n=if (twk (l[0]'h0) d b n).2.1=0 then twk (l[1]'h1) d b (twk (l[0]'h0) d b n).1 else twk (l[0]'h0) d b n:=by
 match l,hl with
 | [x,y],_=>rw[Yq,twk_end];rfl
theorem twk_one{t:Tm}{d b b' n:Nat}(h:¬(200<n+1\/40<d))(hc:ndC b t=0)(hi:inB t b=b')(hl:t.args.length=1)(h0:0<t.args.length):twk t d b n=twk (t.args[0]'h0) (d+1) b' (n+1):=by
 rw[Vx,if_neg h,if_pos hc,hi,twks_one hl h0]
theorem twk_two{t:Tm}{d b b' n:Nat}(h:¬(200<n+1\/40<d))(hc:ndC b t=0)(hi:inB t b=b')(hl:t.args.length=2)(h0:0<t.args.length)(h1:1<t.args.length):twk t d b n=if (twk (t.args[0]'h0) (d+1) b' (n+1)).2.1=0 then twk (t.args[1]'h1) (d+1) b' (twk (t.args[0]'h0) (d+1) b' (n+1)).1 else twk (t.args[0]'h0) (d+1) b' (n+1):=by
 rw[Vx,if_neg h,if_pos hc,hi,twks_two hl h0 h1]
theorem H7:zX prog 60=true:=by kernel_rfl
theorem CK:zX prog 88=true:=by kernel_rfl
theorem sz32:(prog.info? 32).map (·.size)=some 1:=by kernel_rfl
theorem Zj:(prog.info? 34).map (·.size)=some 6:=by kernel_rfl
theorem gZ(b9:Nat)(cd n:Int)(w:World)(hb9:Blk w b9 3 #[.int .i64 n]):Calls prog 88 #[.int .i64 cd,.pointer (some ⟨b9,0,none⟩)] w fun e w'=>e= .returned (flV (cd,n))/\Bel w w':=by
 refine enT func88 ntmps88 rfl rfl fun hB=>?_;refine zn2 ?_;refine qk (cs:=#[.int .i64 0,.int .i64 0]) qK rfl (fun b3 w1 a1 s1 hr=>?_);have lo3:=nLT (Bel.size hB) hr;refine zn6 ?_;refine wl (jk (v0:= .int _ _) (v1:= .int _ _) (fun v0 v1=>#[v0,v1]) rfl rfl kR) ?_;refine zk a1 rfl rfl zq rfl zJ (fun w2 hq s2=>?_);replace a1:=hq;refine zn3 ?_;refine yx (.inl rfl) rfl (zZ U45 rfl rfl a1.range0 zq) ?_;exact⟨rfl,hB.u⟩
set_option maxRecDepth 100000 in
set_option maxHeartbeats 8000000 in
theorem twk_step{w0:World}{bN bV:Nat}(cq:w0.heap.size<=bN)(_l0V:w0.heap.size<=bV)(nVN:bV≠bN){t:Tm}{A B:Option Addr}{c m d b n:Nat}{w:World}(hS:SimsIn w0 A t.type.args)(hT:TmsIn w0 B t.args)(IH:∀ x∈t.args,∀(A2 B2:Option Addr) (c2 m2 d2 b2 n2:Nat) (w2:World),SimsIn w0 A2 x.type.args->TmsIn w0 B2 x.args->n2<=200->d2<=41->b2<=d2->Bel w0 w2->Blk w2 bN 3 #[.int .i64 ((n2:Nat):Int)]->Blk w2 bV 149 #[.func (.func 87) #[] #[.pointer (some ⟨bN,0,none⟩),.pointer (some ⟨bV,0,none⟩)]]->Calls prog 87 #[.agg #[.int .i64 (x).kind,.string (x).name,.int .i64 (x).index,.string (x).type.base,.slice A2 (x).type.args.length c2,.slice B2 (x).args.length m2],.int .i64 ((d2:Nat):Int),.int .i64 ((b2:Nat):Int),.pointer (some ⟨bN,0,none⟩),.pointer (some ⟨bV,0,none⟩)] w2 fun e w'=>e= .returned (flV (twk x d2 b2 n2).2)/\ChG (fun g=>g=bN) w2 w'/\Blk w' bN 3 #[.int .i64 (((twk x d2 b2 n2).1:Nat):Int)])(hn:n<=200)(hd:d<=41)(hbd:b<=d)(hB:Bel w0 w)(a3:Blk w bN 3 #[.int .i64 ((n:Nat):Int)])(bd:Blk w bV 149 #[.func (.func 87) #[] #[.pointer (some ⟨bN,0,none⟩),.pointer (some ⟨bV,0,none⟩)]]):Calls prog 87 #[.agg #[.int .i64 (t).kind,.string (t).name,.int .i64 (t).index,.string (t).type.base,.slice A (t).type.args.length c,.slice B (t).args.length m],.int .i64 ((d:Nat):Int),.int .i64 ((b:Nat):Int),.pointer (some ⟨bN,0,none⟩),.pointer (some ⟨bV,0,none⟩)] w fun e w'=>e= .returned (flV (twk t d b n).2)/\ChG (fun g=>g=bN) w w'/\Blk w' bN 3 #[.int .i64 (((twk t d b n).1:Nat):Int)]:=by
 have hmx:=hT.le;unfold jx at hmx;have ltN:=a3.lt;have ltV:=bd.lt;have hC:ChG (fun g=>g=bN) w w:=ChG.refl _ _;refine enter func87 ntmps87 rfl (ay rfl) (zn2 ?_);refine qY (v:= .agg #[_,_,_,_,_,_]) (cs:=#[_,_,_,_,_,_]) rfl rfl (fun b5 w1 be s1 hr=>?_);have:=nLL a3.lt hr;replace hC:=hC.st s1 (by simp);refine qk (cs:=#[.int .i64 0,.int .i64 0]) qK rfl (fun b8 w2 a2 s2 hr=>?_);have:=nLL a3.u.lt hr;have:=nLL bd.u.lt hr;have a1:=(nLT hC.size hr)
 have:=nLL be.lt hr;replace hC:=hC.st s2 (by simp);refine zn5 ?_;refine qk (cs:=#[.int .i64 0]) Qj rfl (fun b9 w3 ad s3 hr=>?_);have:=nLL a3.u.lt hr;have:=nLL bd.u.lt hr;have ba:=(nLT hC.size hr)
 have:=nLL be.u.lt hr;have:=nLL a2.lt hr;have lo9:=nLT (Bel.size hB.u) hr;replace hC:=hC.st s3 (by simp);refine xZ (v:= .int _ _) ad rfl rfl xx (by first|decide|simp) rfl rfl (fun w4 hq s4=>?_);replace hC:=hC.st s4 (fun g hg=>by rw[List.mem_singleton.1 hg];first|exact .inl rfl|exact .inr ba);replace ad:=hq;refine zn6 ?_;replace a3:=(a3.tr0 (s1.t (s2.t s3))).tr1 s4 oG;refine xZ (v:= .int _ _) a3 rfl rfl xx (by first|decide|simp) rfl rfl (fun w5 hq s5=>?_);replace hB:=hB.u.tr1 s5 cq;replace hC:=hC.st s5 (fun g hg=>by rw[List.mem_singleton.1 hg];first|exact .inl rfl|exact .inr or_hC_bN);replace a3:=hq;refine zn4 ?_;refine wl (r_mf rfl) (zn5 ?_);replace a2:=((a2.tr0 s3).tr1 s4 oG).tr1 s5 oG;replace ad:=ad.tr1 s5 oG;refine xk [16,17,18,19,20,21] 21 (.bool (decide (200<n+1\/40<d))) nu ?_ (fun gq=>?_)
 ·refine zn4 ?_;refine zw 18 rfl (fun g18=>?_) (fun g18=>?_)
  ·refine zn3 ?_;refine zQ (e_R ⟨rfl,agA,?_⟩);exact clA
  refine zn5 ?_;refine zQ (e_R ⟨rfl,agA,?_⟩);exact clA
 refine e_S ?_;refine zV rfl (fun b1=>?_) (fun b1=>?_)
 ·refine zn3 ?_;refine y9 rfl CK (gZ b9 _ _ _ ad) rfl rfl (fun e' w6 hr=>?_);obtain⟨rfl,s6⟩:=hr;replace s6:=sB s6;replace hC:=hC.st s6 (by simp);refine⟨_,rfl,?_⟩;refine zk a2.u rfl rfl zq rfl zJ (fun w7 hq s7=>?_);replace hC:=hC.st s7 (fun g hg=>by rw[List.mem_singleton.1 hg];first|exact .inl rfl|exact .inr a1);replace a2:=hq;refine zn4 ?_;refine yx (.inl rfl) rfl (zZ U45 rfl rfl a2.range0 zq) ?_;rw[twk_out b1];exact⟨rfl,hC,a3.u⟩
 refine M2 ?_;refine zV rfl (fun b3=>?_) (fun b3=>?_)
 ·refine xy (xy ?_);refine xk (rg [] 30 9) 38 (.bool (decide (¬(t.index=0/\t.args.length=0)))) nu ?_ (fun gq=>?_)
  ·refine zn5 ?_;refine zw 33 rfl (fun c5=>?_) (fun c5=>?_)
   ·refine zn5 ?_;refine zQ (e_R ⟨rfl,agA,?_⟩);show Value.bool _=Value.bool _
    first|exact ac (ah (by exact fun h=>c5 h.1)).symm|exact ac (ai.2 (by exact⟨fun k h=>k (by have:=h.2;omega),fun k e=>k ⟨am.1 c5,by omega⟩⟩))
   refine zn9 ?_;refine zQ (e_R ⟨rfl,agA,?_⟩);show Value.bool _=Value.bool _
   first|exact ac (ah (by exact fun h=>c5 h.1)).symm|exact ac (ai.2 (by exact⟨fun k h=>k (by have:=h.2;omega),fun k e=>k ⟨am.1 c5,by omega⟩⟩))
  refine e_S ?_;refine zV rfl (fun bi=>?_) (fun bi=>?_)
  ·have a4:ndC b t=5:=by unfold ndC;rw[if_pos b3,if_neg bi]
   refine zn3 ?_;refine y9 rfl CK (gZ b9 _ _ _ ad) rfl rfl (fun e' w8 hr=>?_);obtain⟨rfl,s8⟩:=hr;replace s8:=sB s8;replace hC:=hC.st s8 (by simp);refine⟨_,rfl,?_⟩;refine zk a2.u rfl rfl zq rfl zJ (fun w9 hq s9=>?_);replace hC:=hC.st s9 (fun g hg=>by rw[List.mem_singleton.1 hg];first|exact .inl rfl|exact .inr a1);replace a2:=hq;refine zn6 ?_;refine yx (.inl rfl) rfl (zZ U45 rfl rfl a2.range0 zq) ?_;rw[QY b1 (show ndC b t=5 from a4) dE];exact⟨rfl,hC,a3.u⟩
  have bi:=am.1 bi;refine zn7 ?_;refine zW H7 (NV _ _) rfl (fun e' w10 hr=>?_);obtain⟨rfl,rfl⟩:=hr;refine⟨_,rfl,?_⟩;refine zn3 ?_;refine ky rfl (fun bz=>?_) (fun bz=>?_)
  ·have a4:ndC b t=10:=by unfold ndC;rw[if_pos b3,if_pos bi,if_neg (by simpa using bz)]
   refine zn3 ?_;refine y9 rfl CK (gZ b9 _ _ _ ad) rfl rfl (fun e' w11 hr=>?_);obtain⟨rfl,cp⟩:=hr;replace cp:=sB cp;replace hC:=hC.st cp (by simp);refine⟨_,rfl,?_⟩;refine zk a2.u rfl rfl zq rfl zJ (fun w12 hq s11=>?_);replace hC:=hC.st s11 (fun g hg=>by rw[List.mem_singleton.1 hg];first|exact .inl rfl|exact .inr a1);replace a2:=hq;refine zn6 ?_;refine yx (.inl rfl) rfl (zZ U45 rfl rfl a2.range0 zq) ?_;rw[QY b1 (show ndC b t=10 from a4) dE];exact⟨rfl,hC,a3.u⟩
  have bz:vK t.name=true:=by simpa using bz
  refine zn5 ?_;refine wl (qZ U31 rfl rfl (be.u.sub (n:=2) (xs:=[_,_]) rfl) xY) ?_;refine zW kR (FQ A c t.type _ (hS.mono hB)) rfl (fun e' w13 hr=>?_);obtain⟨rfl,co⟩:=hr;replace co:=sB co;replace hC:=hC.st co (by simp);refine⟨_,rfl,?_⟩;refine wl (Dj (v:= .int _ _) U45 rfl U3 rfl rfl rfl) (zn3 ?_);refine zV rfl (fun c7=>?_) (fun c7=>?_)
  ·have a4:ndC b t=12:=by unfold ndC;rw[if_pos b3,if_pos bi,if_pos bz,if_neg c7]
   refine zn3 ?_;refine y9 rfl CK (gZ b9 _ _ _ ad.u) rfl rfl (fun e' w14 hr=>?_);obtain⟨rfl,cn⟩:=hr;replace cn:=sB cn;replace hC:=hC.st cn (by simp);refine⟨_,rfl,?_⟩;refine zk a2.u rfl rfl zq rfl zJ (fun w15 hq s14=>?_);replace hC:=hC.st s14 (fun g hg=>by rw[List.mem_singleton.1 hg];first|exact .inl rfl|exact .inr a1);replace a2:=hq;refine zn5 ?_;refine yx (.inl rfl) rfl (zZ U45 rfl rfl a2.range0 zq) ?_;rw[QY b1 (show ndC b t=12 from a4) dE];exact⟨rfl,hC,a3.u⟩
  have c7:=am.1 c7;have a4:ndC b t=0:=by unfold ndC;rw[if_pos b3,if_pos bi,if_pos bz,if_pos c7]
  have cw:t.args= []:=aB.1 bi.2;refine zn5 ?_;refine wl (kK (vs:=#[]) (cs:=#[.int .i64 0,.int .i64 0]) (by simp) kR) ?_;refine zk a2.u rfl rfl zq rfl zJ (fun w16 hq s15=>?_);replace hC:=hC.st s15 (fun g hg=>by rw[List.mem_singleton.1 hg];first|exact .inl rfl|exact .inr a1);replace a2:=hq;refine zn3 ?_;refine yx (.inl rfl) rfl (zZ U45 rfl rfl a2.range0 zq) ?_;rw[twk_nil b1 a4 cw];exact⟨rfl,hC,a3.u⟩
 refine zn6 ?_;refine zV rfl (fun bf=>?_) (fun bf=>?_)
 ·refine xy (xy ?_);refine y7 (rg [] 56 15) (fun g w'=>(g 70= .bool (decide (¬(t.name=⟨#[]⟩/\IZ t.type/\t.args.length=0))))/\Same [] w5 w') ?_ (fun g16 w17 hI=>?_)
  ·have hZ:SameQ [] w5 w5:=Same.refl _ _;refine zn5 ?_;refine zw 59 rfl (fun bu=>?_) (fun bu=>?_)
   ·refine jz ?_;refine e_R ⟨agA,?_⟩;refine⟨?_,hZ⟩
    first|exact ac (ah (by exact fun h=>bu h.1)).symm|exact ac (ah (by exact fun h=>bt h.2.1)).symm|exact ac (ai.2 (by exact⟨fun k h=>k (by have:=h.2.2;omega),fun k e=>k ⟨am.1 bu,am.1 bt,by omega⟩⟩))
   refine zn3 ?_;refine wl (qZ U31 rfl rfl (be.u.sub (n:=2) (xs:=[_,_]) rfl) xY) (zn1 ?_);refine zW kR (Wz A c t.type _) rfl (fun e' w18 hr=>?_);obtain⟨rfl,ca⟩:=hr;replace ca:=sB ca;replace hC:=hC.st ca (by simp);replace hZ:=SameQ.trans hZ ca (by simp);refine⟨_,rfl,?_⟩;refine zn4 ?_;refine zw 65 rfl (fun bt=>?_) (fun bt=>?_)
   ·refine zn6 ?_;refine e_R ⟨agA,?_⟩;refine⟨?_,hZ⟩
    first|exact ac (ah (by exact fun h=>bu h.1)).symm|exact ac (ah (by exact fun h=>bt h.2.1)).symm|exact ac (ai.2 (by exact⟨fun k h=>k (by have:=h.2.2;omega),fun k e=>k ⟨am.1 bu,am.1 bt,by omega⟩⟩))
   refine vy ?_;refine e_R ⟨agA,?_⟩;refine⟨?_,hZ⟩
   first|exact ac (ah (by exact fun h=>bu h.1)).symm|exact ac (ah (by exact fun h=>bt h.2.1)).symm|exact ac (ai.2 (by exact⟨fun k h=>k (by have:=h.2.2;omega),fun k e=>k ⟨am.1 bu,am.1 bt,by omega⟩⟩))
  obtain⟨h70,cm⟩:=hI;replace hC:=hC.st cm (by simp);refine jK 70 _ h70 nu (e_S ?_);refine zV rfl (fun bw=>?_) (fun bw=>?_)
  ·have a4:ndC b t=5:=by unfold ndC;rw[if_neg b3,if_pos bf,if_neg bw]
   refine zn3 ?_;refine y9 rfl CK (gZ b9 _ _ _ ad.u) rfl rfl (fun e' w19 hr=>?_);obtain⟨rfl,ck⟩:=hr;replace ck:=sB ck;replace hC:=hC.st ck (by simp);refine⟨_,rfl,?_⟩;refine zk a2.u rfl rfl zq rfl zJ (fun w20 hq s19=>?_);replace hC:=hC.st s19 (fun g hg=>by rw[List.mem_singleton.1 hg];first|exact .inl rfl|exact .inr a1);replace a2:=hq;refine zn6 ?_;refine yx (.inl rfl) rfl (zZ U45 rfl rfl a2.range0 zq) ?_;rw[QY b1 (show ndC b t=5 from a4) dE];exact⟨rfl,hC,a3.u⟩
  have bw:=am.1 bw;refine zn3 ?_;replace a3:=a3.tr0 cm;replace a2:=a2.tr0 cm;refine xk (rg [] 73 9) 81 (.bool (decide (t.index<0\/(b:Int)<=t.index))) nu ?_ (fun gq=>?_)
  ·refine zn5 ?_;refine zw 76 rfl (fun g76=>?_) (fun g76=>?_)
   ·refine zn5 ?_;refine zQ (e_R ⟨rfl,agA,?_⟩);exact clA
   refine zn9 ?_;refine zQ (e_R ⟨rfl,agA,?_⟩);exact clA
  refine e_S ?_;refine zV rfl (fun cz=>?_) (fun cz=>?_)
  ·have a4:ndC b t=15:=by unfold ndC;rw[if_neg b3,if_pos bf,if_pos bw,if_pos cz]
   refine zn3 ?_;refine y9 rfl CK (gZ b9 _ _ _ ad.u) rfl rfl (fun e' w21 hr=>?_);obtain⟨rfl,cj⟩:=hr;replace cj:=sB cj;replace hC:=hC.st cj (by simp);refine⟨_,rfl,?_⟩;refine zk a2.u rfl rfl zq rfl zJ (fun w22 hq s21=>?_);replace hC:=hC.st s21 (fun g hg=>by rw[List.mem_singleton.1 hg];first|exact .inl rfl|exact .inr a1);replace a2:=hq;refine zn5 ?_;refine yx (.inl rfl) rfl (zZ U45 rfl rfl a2.range0 zq) ?_;rw[QY b1 (show ndC b t=15 from a4) dE];exact⟨rfl,hC,a3.u⟩
  have a4:ndC b t=0:=by unfold ndC;rw[if_neg b3,if_pos bf,if_pos bw,if_neg cz]
  have cw:t.args= []:=aB.1 bw.2.2;refine zn5 ?_;refine wl (kK (vs:=#[]) (cs:=#[.int .i64 0,.int .i64 0]) (by simp) kR) ?_;refine zk a2 rfl rfl zq rfl zJ (fun w23 hq s22=>?_);replace hC:=hC.st s22 (fun g hg=>by rw[List.mem_singleton.1 hg];first|exact .inl rfl|exact .inr a1);replace a2:=hq;refine zn3 ?_;refine yx (.inl rfl) rfl (zZ U45 rfl rfl a2.range0 zq) ?_;rw[twk_nil b1 a4 cw];exact⟨rfl,hC,a3.u⟩
 refine zn6 ?_;refine zV rfl (fun bg=>?_) (fun bg=>?_)
 ·refine xy (xy ?_);refine xk (rg [] 86 14) 99 (.bool (decide (¬(t.name=⟨#[]⟩/\t.index=0/\t.args.length=1)))) nu ?_ (fun gq=>?_)
  ·refine zn5 ?_;refine zw 89 rfl (fun br=>?_) (fun br=>?_)
   ·refine vy ?_;refine zQ (e_R ⟨rfl,agA,?_⟩);show Value.bool _=Value.bool _
    first|exact ac (ah (by exact fun h=>br h.1)).symm|exact ac (ah (by exact fun h=>bo h.2.1)).symm|exact ac (ai.2 (by exact⟨fun k h=>k (by have:=h.2.2;omega),fun k e=>k ⟨am.1 br,am.1 bo,by omega⟩⟩))
   refine zn8 ?_;refine zw 94 rfl (fun bo=>?_) (fun bo=>?_)
   ·refine zn5 ?_;refine zQ (e_R ⟨rfl,agA,?_⟩);show Value.bool _=Value.bool _
    first|exact ac (ah (by exact fun h=>br h.1)).symm|exact ac (ah (by exact fun h=>bo h.2.1)).symm|exact ac (ai.2 (by exact⟨fun k h=>k (by have:=h.2.2;omega),fun k e=>k ⟨am.1 br,am.1 bo,by omega⟩⟩))
   refine zn9 ?_;refine zQ (e_R ⟨rfl,agA,?_⟩);show Value.bool _=Value.bool _
   first|exact ac (ah (by exact fun h=>br h.1)).symm|exact ac (ah (by exact fun h=>bo h.2.1)).symm|exact ac (ai.2 (by exact⟨fun k h=>k (by have:=h.2.2;omega),fun k e=>k ⟨am.1 br,am.1 bo,by omega⟩⟩))
  refine e_S ?_;refine zV rfl (fun bv=>?_) (fun bv=>?_)
  ·have a4:ndC b t=5:=by unfold ndC;rw[if_neg b3,if_neg bf,if_pos bg,if_neg bv]
   refine zn3 ?_;refine y9 rfl CK (gZ b9 _ _ _ ad) rfl rfl (fun e' w24 hr=>?_);obtain⟨rfl,cg⟩:=hr;replace cg:=sB cg;replace hC:=hC.st cg (by simp);refine⟨_,rfl,?_⟩;refine zk a2.u rfl rfl zq rfl zJ (fun w25 hq s24=>?_);replace hC:=hC.st s24 (fun g hg=>by rw[List.mem_singleton.1 hg];first|exact .inl rfl|exact .inr a1);replace a2:=hq;refine zn6 ?_;refine yx (.inl rfl) rfl (zZ U45 rfl rfl a2.range0 zq) ?_;rw[QY b1 (show ndC b t=5 from a4) dE];exact⟨rfl,hC,a3.u⟩
  have bv:=am.1 bv;have a5:0<t.args.length:=by omega
  refine zn6 ?_;refine wl (qZ U31 rfl rfl (be.u.sub (n:=2) (xs:=[_,_]) rfl) xY) ?_;refine zW kR (FQ A c t.type _ (hS.mono hB)) rfl (fun e' w26 hr=>?_);obtain⟨rfl,c9⟩:=hr;replace c9:=sB c9;replace hC:=hC.st c9 (by simp);refine⟨_,rfl,?_⟩;refine wl (Dj (v:= .int _ _) U45 rfl U3 rfl rfl rfl) (zn3 ?_);refine zV rfl (fun bc=>?_) (fun bc=>?_)
  ·have a4:ndC b t=12:=by unfold ndC;rw[if_neg b3,if_neg bf,if_pos bg,if_pos bv,if_neg bc]
   refine zn3 ?_;refine y9 rfl CK (gZ b9 _ _ _ ad.u) rfl rfl (fun e' w27 hr=>?_);obtain⟨rfl,cf⟩:=hr;replace cf:=sB cf;replace hC:=hC.st cf (by simp);refine⟨_,rfl,?_⟩;refine zk a2.u rfl rfl zq rfl zJ (fun w28 hq s27=>?_);replace hC:=hC.st s27 (fun g hg=>by rw[List.mem_singleton.1 hg];first|exact .inl rfl|exact .inr a1);replace a2:=hq;refine zn6 ?_;refine yx (.inl rfl) rfl (zZ U45 rfl rfl a2.range0 zq) ?_;rw[QY b1 (show ndC b t=12 from a4) dE];exact⟨rfl,hC,a3.u⟩
  have bc:=am.1 bc;have a4:ndC b t=0:=by unfold ndC;rw[if_neg b3,if_neg bf,if_pos bg,if_pos bv,if_pos bc]
  obtain⟨tb,to,A0,c0,B0,m0,rfl,htb,htr,cu,cr⟩:=hT.at_ a5;have bx:=twk_one b1 a4 (by rw[inB,if_pos bg]:inB t b=b+1) bv.2.2 a5;refine zn3 ?_;refine KW 9 kR kR (fun w29 s28=>?_);replace hC:=hC.st s28 (by simp);refine zn3 ?_;refine ws (xX (i:=0) U32 Zj rfl rfl a5 rfl) (zn5 ?_);refine Kk ?_;refine y9 rfl kR (IH (t.args[0]'a5) (ar a5) A0 B0 c0 m0 (d+1) (b+1) (n+1) _ cu cr oG oG oG hB.u a3.u bd.u) rfl rfl (fun e' w30 hr=>?_);obtain⟨rfl,bn,bm⟩:=hr;replace hC:=hC.trans bn (fun g hg=> .inl hg);replace a2:=a2.tr0 (c9.t s28);replace a2:=a2.chG bn (fun hx=>by have hx:b8=bN:=hx;omega);replace a3:=bm;refine⟨_,rfl,?_⟩;refine zk a2 rfl rfl zq rfl zJ (fun w31 hq s29=>?_);replace hC:=hC.st s29 (fun g hg=>by rw[List.mem_singleton.1 hg];first|exact .inl rfl|exact .inr a1);replace a2:=hq;refine zn5 ?_;refine yx (.inl rfl) rfl (zZ U45 rfl rfl a2.range0 zq) ?_;rw[bx];exact⟨rfl,hC,a3.u⟩
 refine zn6 ?_;refine zV rfl (fun bh=>?_) (fun bh=>?_)
 ·refine xy (xy ?_);refine y7 (rg [] 121 20) (fun g w'=>(g 140= .bool (decide (¬(t.name=⟨#[]⟩/\t.index=0/\IZ t.type/\t.args.length=2))))/\Same [] w5 w') ?_ (fun g27 w32 hI=>?_)
  ·have hZ:SameQ [] w5 w5:=Same.refl _ _;refine zn5 ?_;refine zw 124 rfl (fun a9=>?_) (fun a9=>?_)
   ·refine Ry ?_;refine e_R ⟨agA,?_⟩;refine⟨?_,hZ⟩
    first|exact ac (ah (by exact fun h=>a9 h.1)).symm|exact ac (ah (by exact fun h=>a8 h.2.1)).symm|exact ac (ah (by exact fun h=>a7 h.2.2.1)).symm|exact ac (ai.2 (by exact⟨fun k h=>k (by have:=h.2.2.2;omega),fun k e=>k ⟨am.1 a9,am.1 a8,am.1 a7,by omega⟩⟩))
   refine zn8 ?_;refine zw 129 rfl (fun a8=>?_) (fun a8=>?_)
   ·refine jz ?_;refine e_R ⟨agA,?_⟩;refine⟨?_,hZ⟩
    first|exact ac (ah (by exact fun h=>a9 h.1)).symm|exact ac (ah (by exact fun h=>a8 h.2.1)).symm|exact ac (ah (by exact fun h=>a7 h.2.2.1)).symm|exact ac (ai.2 (by exact⟨fun k h=>k (by have:=h.2.2.2;omega),fun k e=>k ⟨am.1 a9,am.1 a8,am.1 a7,by omega⟩⟩))
   refine zn3 ?_;refine wl (qZ U31 rfl rfl (be.u.sub (n:=2) (xs:=[_,_]) rfl) xY) (zn1 ?_);refine zW kR (Wz A c t.type _) rfl (fun e' w33 hr=>?_);obtain⟨rfl,c8⟩:=hr;replace c8:=sB c8;replace hC:=hC.st c8 (by simp);replace hZ:=SameQ.trans hZ c8 (by simp);refine⟨_,rfl,?_⟩;refine zn4 ?_;refine zw 135 rfl (fun a7=>?_) (fun a7=>?_)
   ·refine zn6 ?_;refine e_R ⟨agA,?_⟩;refine⟨?_,hZ⟩
    first|exact ac (ah (by exact fun h=>a9 h.1)).symm|exact ac (ah (by exact fun h=>a8 h.2.1)).symm|exact ac (ah (by exact fun h=>a7 h.2.2.1)).symm|exact ac (ai.2 (by exact⟨fun k h=>k (by have:=h.2.2.2;omega),fun k e=>k ⟨am.1 a9,am.1 a8,am.1 a7,by omega⟩⟩))
   refine vy ?_;refine e_R ⟨agA,?_⟩;refine⟨?_,hZ⟩
   first|exact ac (ah (by exact fun h=>a9 h.1)).symm|exact ac (ah (by exact fun h=>a8 h.2.1)).symm|exact ac (ah (by exact fun h=>a7 h.2.2.1)).symm|exact ac (ai.2 (by exact⟨fun k h=>k (by have:=h.2.2.2;omega),fun k e=>k ⟨am.1 a9,am.1 a8,am.1 a7,by omega⟩⟩))
  obtain⟨cy,bj⟩:=hI;replace hC:=hC.st bj (by simp);refine jK 140 _ cy nu (e_S ?_);refine zV rfl (fun b7=>?_) (fun b7=>?_)
  ·have a4:ndC b t=5:=by unfold ndC;rw[if_neg b3,if_neg bf,if_neg bg,if_pos bh,if_neg b7]
   refine zn3 ?_;refine y9 rfl CK (gZ b9 _ _ _ ad.u) rfl rfl (fun e' w34 hr=>?_);obtain⟨rfl,ce⟩:=hr;replace ce:=sB ce;replace hC:=hC.st ce (by simp);refine⟨_,rfl,?_⟩;refine zk a2.u rfl rfl zq rfl zJ (fun w35 hq s33=>?_);replace hC:=hC.st s33 (fun g hg=>by rw[List.mem_singleton.1 hg];first|exact .inl rfl|exact .inr a1);replace a2:=hq;refine zn6 ?_;refine yx (.inl rfl) rfl (zZ U45 rfl rfl a2.range0 zq) ?_;rw[QY b1 (show ndC b t=5 from a4) dE];exact⟨rfl,hC,a3.u⟩
  have b7:=am.1 b7;have a5:0<t.args.length:=by omega
  have c4:1<t.args.length:=by omega
  have a4:ndC b t=0:=by unfold ndC;rw[if_neg b3,if_neg bf,if_neg bg,if_pos bh,if_pos b7]
  obtain⟨tb,to,A0,c0,B0,m0,rfl,htb,htr,cu,cr⟩:=hT.at_ a5;obtain⟨_,_,A1,c1,B1,m1,e1,_,htr1,ks1,kt1⟩:=hT.at_ c4;cases e1;have bx:=twk_two b1 a4 (by rw[inB,if_neg bg]:inB t b=b) b7.2.2.2 a5 c4;refine zn4 ?_;replace a3:=a3.tr0 bj;have ltNW:=a3.lt;replace hB:=hB.tr0 bj;have cv:=Bel.size hB;replace be:=(((be.tr0 (s2.t s3)).tr1 s4 oG).tr1 s5 oG).tr0 bj;have lt5W:=be.lt;replace a2:=a2.tr0 bj;have lt8W:=a2.lt;replace ad:=ad.tr0 bj;have lt9W:=ad.lt;replace bd:=(((bd.tr0 (s1.t (s2.t s3))).tr1 s4 oG).tr1 s5 oG).tr0 bj;have ltVW:=bd.lt;have szCW:=hC.size;refine V8 10 [143,144,145,146,147,148,149,150,151,11] [bN] 8 (fun ix v wv=>match ix with|0=>v= .func (.func 87) #[] #[.pointer (some ⟨bN,0,none⟩),.pointer (some ⟨bV,0,none⟩)]|1=>v= .pointer (some ⟨b5,0+5,none⟩)|2=>v= .slice (some ⟨tb,to,none⟩) t.args.length m|3=>v= .pointer (some ⟨tb,to+0*6,none⟩)|4=>v= .agg #[.int .i64 ((t.args[0]'a5)).kind,.string ((t.args[0]'a5)).name,.int .i64 ((t.args[0]'a5)).index,.string ((t.args[0]'a5)).type.base,.slice A0 ((t.args[0]'a5)).type.args.length c0,.slice B0 ((t.args[0]'a5)).args.length m0]|5=>v= .int .i64 d|6=>v= .int .i64 ((d:Nat)+1:Int)|7=>v= .int .i64 b|8=>v= .agg #[.int .i64 (twk (t.args[0]'a5) (d+1) b (n+1)).2.1,.int .i64 (twk (t.args[0]'a5) (d+1) b (n+1)).2.2]|9=>∃ bq,v= .pointer (some ⟨bq,0,none⟩)/\w32.heap.size<=bq/\Blk wv bq 45 #[.int .i64 0,.int .i64 0]|_=>True) (fun wq=>Blk wq bN 3 #[.int .i64 (((twk (t.args[0]'a5) (d+1) b (n+1)).1:Nat):Int)]) kR kR ?_ (fun _ _ h hs=>Blk.tr0 h hs) ?_ ?_ dE ?_
  ·intro ix v wv wv2 h s34
   match ix,h with
   | 0,h=>exact h
   | 1,h=>exact h
   | 2,h=>exact h
   | 3,h=>exact h
   | 4,h=>exact h
   | 5,h=>exact h
   | 6,h=>exact h
   | 7,h=>exact h
   | 8,h=>exact h
   | 9,h=>
    obtain⟨c3,c6,bb,an⟩:=h;exact⟨c3,c6,bb,an.tr0 s34⟩
   | _+10,h=>exact trivial
  ·intro ix o hix bk a6 gg wx s35 hd
   match ix,hix,bk,a6 with
   | 0,_,_,a6=>
    cases sI a6;refine qQ (qW (v:= .func _ _ _) underlying149 rfl rfl (bd.u.cell rfl)) ⟨Same.refl _ _,?_⟩;exact rfl
   | 1,_,_,a6=>
    cases sI a6;refine qQ (uK U34 sz32 dE rfl rfl rfl) ⟨Same.refl _ _,?_⟩;exact rfl
   | 2,_,_,a6=>
    cases sI a6;refine aW 144 (hd 1 aX) ?_;refine qQ (qW (v:= .slice _ _ _) U32 rfl rfl (be.u.cell rfl)) ⟨Same.refl _ _,?_⟩;exact rfl
   | 3,_,_,a6=>
    cases sI a6;refine aW 145 (hd 2 aX) ?_;refine qQ (xX (i:=0) U32 Zj rfl rfl a5 rfl) ⟨Same.refl _ _,?_⟩;exact rfl
   | 4,_,_,a6=>
    cases sI a6;replace hB:=hB.tr1 s35 cq;refine aW 146 (hd 3 aX) ?_;refine qQ (qZ U34 rfl rfl (hB.range htb htr) Zj) ⟨Same.refl _ _,?_⟩;exact rfl
   | 5,_,_,a6=>
    cases sI a6;refine qQ (xz (v:= .int _ _) rfl) ⟨Same.refl _ _,?_⟩;exact rfl
   | 6,_,_,a6=>
    cases sI a6;refine aW 148 (hd 5 aX) ?_;refine qQ (QZ rfl rfl rfl oG) ⟨Same.refl _ _,?_⟩;exact rfl
   | 7,_,_,a6=>
    cases sI a6;refine qQ (xz (v:= .int _ _) rfl) ⟨Same.refl _ _,?_⟩;exact rfl
   | 8,_,bk,_=>exact absurd rfl bk
   | 9,_,_,a6=>
    cases sI a6;have hs0:=s35;refine jZ (fun ops Q K=>?_);refine qk (cs:=#[.int .i64 0,.int .i64 0]) qK rfl (fun c3 w36 an s36 hr=>?_);exact K _ _ ⟨s36,⟨_,rfl,nLT hs0.size hr,an⟩⟩
   | _+10,hix,_,_=>exact absurd hix oG
  ·intro o a6 gg wx s37 hd;cases sI a6;replace hC:=hC.st s37 (by simp);refine aW 143 (hd 0 aX) (aW 147 (hd 4 aX) (aW 149 (hd 6 aX) (aW 150 (hd 7 aX) ?_)));refine jZ (fun ops Q K=>?_);refine y9 rfl kR (IH (t.args[0]'a5) (ar a5) A0 B0 c0 m0 (d+1) b (n+1) _ cu cr oG oG oG hB.u a3.u bd.u) rfl rfl (fun e' w2 hr=>?_);obtain⟨rfl,bn,cx⟩:=hr;have hs2:=bn.one;refine⟨_,rfl,K _ _ ⟨hs2,rfl,cx,fun kx v bk h=>?_⟩⟩
   match kx,bk,h with
   | 0,_,h=>exact h
   | 1,_,h=>exact h
   | 2,_,h=>exact h
   | 3,_,h=>exact h
   | 4,_,h=>exact h
   | 5,_,h=>exact h
   | 6,_,h=>exact h
   | 7,_,h=>exact h
   | 8,bk,_=>exact absurd rfl bk
   | 9,_,h=>
    obtain⟨c3,c6,bb,an⟩:=h;exact⟨c3,c6,bb,an.tr1 hs2 oG⟩
   | _+10,_,_=>exact trivial
  intro gg w37 cd cx hR;replace hB:=hB.tr1 cd cq;replace hC:=hC.st cd (fun g hg=>by rw[List.mem_singleton.1 hg];first|exact .inl rfl|exact .inr or_hC_bN);replace a3:=cx;obtain⟨c3,c6,bb,an⟩:=hR 9 dE;have b4:w.heap.size<=c3:=by omega
  refine x9 151 _ (hR 8 dE) nu (x9 11 _ c6 nu ?_);refine zk an rfl rfl zq rfl zJ (fun w38 hq cc=>?_);replace hB:=hB.tr1 cc (nLT cv bb);replace hC:=hC.st cc (fun g hg=>by rw[List.mem_singleton.1 hg];first|exact .inl rfl|exact .inr b4);replace an:=hq;refine zn9 ?_;refine zV rfl (fun b6=>?_) (fun b6=>?_)
  ·rw[if_neg b6]at bx;refine zn3 ?_;refine zk a2.u rfl rfl zq rfl zJ (fun w39 hq s40=>?_);replace hC:=hC.st s40 (fun g hg=>by rw[List.mem_singleton.1 hg];first|exact .inl rfl|exact .inr a1);replace a2:=hq;refine zn6 ?_;refine yx (.inl rfl) rfl (zZ U45 rfl rfl a2.range0 zq) ?_;rw[bx];exact⟨rfl,hC,a3.u⟩
  have b6:(twk (t.args[0]'a5) (d+1) b (n+1)).2.1=0:=am.1 b6;rw[if_pos b6]at bx;obtain⟨_,_,_,q1,q2⟩:=Ex _ _ _ _ b6;have hn3:(twk (t.args[0]'a5) (d+1) b (n+1)).1<=200:=by rw[q1];exact q2
  refine zn3 ?_;refine KW 8 kR kR (fun w40 s41=>?_);replace hC:=hC.st s41 (by simp);refine zn3 ?_;refine ws (xX (i:=1) U32 Zj rfl rfl c4 rfl) (zn4 ?_);refine Kk ?_;refine y9 rfl kR (IH (t.args[1]'c4) (ar c4) A1 B1 c1 m1 (d+1) (b) ((twk (t.args[0]'a5) (d+1) b (n+1)).1) _ ks1 kt1 hn3 oG oG hB.u a3.u bd.u) rfl rfl (fun e' w41 hr=>?_);obtain⟨rfl,bn,bm⟩:=hr;replace hC:=hC.trans bn (fun g hg=> .inl hg);replace a2:=((a2.tr1 cd oG).tr1 cc oG).tr0 s41;replace a2:=a2.chG bn (fun hx=>by have hx:b8=bN:=hx;omega);replace a3:=bm;refine⟨_,rfl,?_⟩;refine zk a2 rfl rfl zq rfl zJ (fun w42 hq s42=>?_);replace hC:=hC.st s42 (fun g hg=>by rw[List.mem_singleton.1 hg];first|exact .inl rfl|exact .inr a1);replace a2:=hq;refine zn5 ?_;refine yx (.inl rfl) rfl (zZ U45 rfl rfl a2.range0 zq) ?_;rw[bx];exact⟨rfl,hC,a3.u⟩
 have a4:ndC b t=4:=by unfold ndC;rw[if_neg b3,if_neg bf,if_neg bg,if_neg bh]
 refine zn3 ?_;refine y9 rfl CK (gZ b9 _ _ _ ad) rfl rfl (fun e' w43 hr=>?_);obtain⟨rfl,cb⟩:=hr;replace cb:=sB cb;replace hC:=hC.st cb (by simp);refine⟨_,rfl,?_⟩;refine zk a2.u rfl rfl zq rfl zJ (fun w44 hq s44=>?_);replace hC:=hC.st s44 (fun g hg=>by rw[List.mem_singleton.1 hg];first|exact .inl rfl|exact .inr a1);replace a2:=hq;refine zn5 ?_;refine yx (.inl rfl) rfl (zZ U45 rfl rfl a2.range0 zq) ?_;rw[QY b1 (show ndC b t=4 from a4) dE];exact⟨rfl,hC,a3.u⟩
theorem twk_anyK{w0:World}{bN bV:Nat}(l0N:w0.heap.size<=bN)(a1:w0.heap.size<=bV)(nVN:bV≠bN):∀(k:Nat) (t:Tm),SizeOf.sizeOf t<k->∀(A B:Option Addr) (c m d b n:Nat) (w:World),SimsIn w0 A t.type.args->TmsIn w0 B t.args->n<=200->d<=41->b<=d->Bel w0 w->Blk w bN 3 #[.int .i64 ((n:Nat):Int)]->Blk w bV 149 #[.func (.func 87) #[] #[.pointer (some ⟨bN,0,none⟩),.pointer (some ⟨bV,0,none⟩)]]->Calls prog 87 #[.agg #[.int .i64 (t).kind,.string (t).name,.int .i64 (t).index,.string (t).type.base,.slice A (t).type.args.length c,.slice B (t).args.length m],.int .i64 ((d:Nat):Int),.int .i64 ((b:Nat):Int),.pointer (some ⟨bN,0,none⟩),.pointer (some ⟨bV,0,none⟩)] w fun e w'=>e= .returned (flV (twk t d b n).2)/\ChG (fun g=>g=bN) w w'/\Blk w' bN 3 #[.int .i64 (((twk t d b n).1:Nat):Int)]:=by
 intro k
 induction k with
 | zero=>intro t h;omega
 | succ k ih=>
  intro t h A B c m d b n w hS hT hn hd hbd hB hbN hbV;refine twk_step l0N a1 nVN hS hT (fun x hx A2 B2 c2 m2 d2 b2 n2 w2 h1 h2 h3 h4 h5 h6 h7 h8=>ih x ?_ A2 B2 c2 m2 d2 b2 n2 w2 h1 h2 h3 h4 h5 h6 h7 h8) hn hd hbd hB hbN hbV;have:=List.sizeOf_lt_of_mem hx;cases t with
  | mk k nm i s l=>simp only[Tm.mk.sizeOf_spec,Tm.args]at h this;omega
theorem twk_any{w0:World}{bN bV:Nat}(l0N:w0.heap.size<=bN)(a1:w0.heap.size<=bV)(nVN:bV≠bN)(t:Tm)(A B:Option Addr)(c m d b n:Nat)(w:World):SimsIn w0 A t.type.args->TmsIn w0 B t.args->n<=200->d<=41->b<=d->Bel w0 w->Blk w bN 3 #[.int .i64 ((n:Nat):Int)]->Blk w bV 149 #[.func (.func 87) #[] #[.pointer (some ⟨bN,0,none⟩),.pointer (some ⟨bV,0,none⟩)]]->Calls prog 87 #[.agg #[.int .i64 (t).kind,.string (t).name,.int .i64 (t).index,.string (t).type.base,.slice A (t).type.args.length c,.slice B (t).args.length m],.int .i64 ((d:Nat):Int),.int .i64 ((b:Nat):Int),.pointer (some ⟨bN,0,none⟩),.pointer (some ⟨bV,0,none⟩)] w fun e w'=>e= .returned (flV (twk t d b n).2)/\ChG (fun g=>g=bN) w w'/\Blk w' bN 3 #[.int .i64 (((twk t d b n).1:Nat):Int)]:=twk_anyK l0N a1 nVN (SizeOf.sizeOf t+1) t (aG _) A B c m d b n w
end Go.Proofs.YtiofaflajkgiaaaGreatDoor
