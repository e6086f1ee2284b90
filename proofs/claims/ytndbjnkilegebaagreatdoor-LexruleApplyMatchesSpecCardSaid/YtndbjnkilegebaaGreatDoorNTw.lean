/- What these functions compute, at every world: simple.Validate$1, ref1.To, ref1.noType, term.none, ref1.SimpleText, ref1.SameType, simple.Same, ref1.SimpleFault and 3 more; and plain laws. -/
import Derived.Test.YtndbjnkilegebaaGreatDoorZst
import Derived.Test.YtndbjnkilegebaaGreatDoorTyp
import Derived.Test.YtndbjnkilegebaaGreatDoorGro
import Derived.Test.YtndbjnkilegebaaGreatDoorU
import Derived.Test.YtndbjnkilegebaaGreatDoorGSearch
namespace Go.Proofs.YtndbjnkilegebaaGreatDoor
open Go.RowKit Go.Proofs.Tryz
set_option maxHeartbeats 2000000
variable {A:Option Addr}{b bN bV c d n:Nat}{s:Sm}{t:Tm}{w w0:World}{τ:Ts}
section
abbrev cL(a:Nat)(b:Nat):Array Value:=#[.pointer (some ⟨a,0,none⟩),.pointer (some ⟨b,0,none⟩)]
section ok
variable {b:ByteArray} {l:List Sm}
theorem okA(h:b=smE\/b=smT)(k:((l.length:Nat):Int)=0):VK (.mk b l):= .inl ⟨h,by show l.length=0;omega⟩
theorem okB1(h:b=smE\/b=smT)(k:¬((l.length:Nat):Int)=0):¬VK (.mk b l):=by
 rintro (⟨_,h2⟩|⟨h2,_⟩)
 ·exact k (by have:l.length=0:=h2;omega)
 ·have h2:b=⟨#[]⟩:=h2
  rcases h with h|h<;>exact absurd (h.symm.trans h2) dE
theorem okB2(h:¬(b=smE\/b=smT))(k:¬b=⟨#[]⟩):¬VK (.mk b l):=by
 rintro (⟨h2,_⟩|⟨h2,_⟩)
 ·exact h h2
 ·exact k h2
theorem okX(h:b=smE\/b=smT)(k:b=⟨#[]⟩):False:=by rcases h with h|h<;>exact absurd (h.symm.trans k) dE
theorem okD(h:¬(b=smE\/b=smT))(k:b=⟨#[]⟩):decide (¬((l.length:Nat):Int)=2)=decide (¬VK (.mk b l)):=by
 refine am.2 (not_congr ⟨fun e=> .inr ⟨k,by show l.length=2;omega⟩,fun e=>?_⟩);rcases e with ⟨h2,_⟩|⟨_,h2⟩
 ·exact absurd h2 h
 ·have:l.length=2:=h2
  omega
end ok
theorem vj:(prog.info? 31).map (·.size)=some 2:=by kernel_rfl
theorem KJ:(prog.info? 31).map (·.zero)=some (some (.agg #[.string ⟨#[]⟩,.slice none 0 0])):=by kernel_rfl
set_option maxRecDepth 100000 in
set_option maxHeartbeats 2000000 in
theorem swk_step(l0N:w0.heap.size<=bN)(_l0V:w0.heap.size<=bV)(nVN:bV≠bN){base:ByteArray}{args:List Sm}(hS:SimsIn w0 A args)(IH:∀ x∈args,∀(A2:Option Addr) (c2 d2 n2:Nat) (w2:World),SimsIn w0 A2 x.args->n2<=200->d2<=41->Bel w0 w2->Blk w2 bN 3 #[.int .i64 ((n2:Nat):Int)]->Blk w2 bV 163 #[.func (.func 99) #[] (cL bN bV)]->Calls prog 99 #[.agg (cK x A2 c2),.int .i64 ((d2:Nat):Int),.pointer (some ⟨bN,0,none⟩),.pointer (some ⟨bV,0,none⟩)] w2 fun e w'=>e= .returned (.int .i64 (swk x d2 n2).2)/\ChG (fun g=>g=bN) w2 w'/\Blk w' bN 3 #[.int .i64 (((swk x d2 n2).1:Nat):Int)])(hn:n<=200)(hd:d<=41)(hB:Bel w0 w)(a3:Blk w bN 3 #[.int .i64 ((n:Nat):Int)])(a5:Blk w bV 163 #[.func (.func 99) #[] (cL bN bV)]):Calls prog 99 #[.agg #[.string base,.slice A args.length c],.int .i64 ((d:Nat):Int),.pointer (some ⟨bN,0,none⟩),.pointer (some ⟨bV,0,none⟩)] w fun e w'=>e= .returned (.int .i64 (swk (.mk base args) d n).2)/\ChG (fun g=>g=bN) w w'/\Blk w' bN 3 #[.int .i64 (((swk (.mk base args) d n).1:Nat):Int)]:=by
 have hmx:=hS.le;unfold vX at hmx;have ltN:=a3.lt;have ltV:=a5.lt;have hC:ChG (fun g=>g=bN) w w:=ChG.refl _ _;refine enter func99 ntmps99 rfl (aA rfl) (zn2 ?_);refine qv (cs:=#[_,_]) rfl (fun b4 w1 hb4 s1 hr=>?_);have:=a3.ob hr;have:=a5.ob hr;replace hC:=hC.st s1 (by simp);refine zn7 ?_;replace a3:=a3.tr0 s1;refine xx (v:= .int _ _) a3 rfl rfl qq (by first|decide|simp) rfl rfl (fun w2 hq s2=>?_);replace hB:=hB.u.tr1 s2 l0N;replace hC:=hC.st s2 (fun g hg=>by rw[List.mem_singleton.1 hg];first|exact .inl rfl|exact .inr or_hC_bN);replace a3:=hq;refine zn4 ?_;refine xj [13,14,15,16,17,18] 18 (.bool (decide (200<n+1\/40<d))) nu ?_ (fun gq=>?_)
 ·refine zn4 ?_;refine zk 15 rfl (fun g15=>?_) (fun g15=>?_)
  ·refine zn3 ?_;exact xq
  refine zn5 ?_;exact xq
 refine e_S ?_;refine zZ rfl (fun ad=>?_) (fun ad=>?_)
 ·refine zn8 ?_;have e:swk (.mk base args) d n=(n+1,1):=by rw[P4,if_pos ad]
  rw[e];exact⟨rfl,hC,a3⟩
 refine zn3 ?_;refine xj (rg [7] 19 8) 7 (.bool (decide (base=smE\/base=smT))) nu ?_ (fun gq=>?_)
 ·refine zn5 ?_;refine zk 22 rfl (fun ac=>?_) (fun ac=>?_)
  ·refine zn5 ?_;refine gk ?_
   first|exact ag (aj (Or.inl ac)).symm|exact ag (am.2 ⟨Or.inr,fun h=>h.resolve_left ac⟩)
  refine zn8 ?_;refine gk ?_
  first|exact ag (aj (Or.inl ac)).symm|exact ag (am.2 ⟨Or.inr,fun h=>h.resolve_left ac⟩)
 refine zn3 ?_;refine xj (rg [] 27 19) 45 (.bool (decide (¬VK (.mk base args)))) nu ?_ (fun gq=>?_)
 ·refine zn3 ?_;refine zk 28 rfl (fun a1=>?_) (fun a1=>?_)
  ·refine yj ?_;refine zk 34 rfl (fun a8=>?_) (fun a8=>?_)
   ·refine vJ ?_;refine gk ?_
    first|exact(okX a1 a2).elim|exact ag (ap (fun h=>h (okA a1 a8))).symm|exact ag (aj (okB1 a1 a8)).symm|exact ag (aj (okB2 a1 a2)).symm|exact ag (okD a1 a2)
   refine zn8 ?_;refine zk 38 rfl (fun a2=>?_) (fun a2=>?_)
   ·refine yZ ?_;refine gk ?_
    first|exact(okX a1 a2).elim|exact ag (ap (fun h=>h (okA a1 a8))).symm|exact ag (aj (okB1 a1 a8)).symm|exact ag (aj (okB2 a1 a2)).symm|exact ag (okD a1 a2)
   refine zn8 ?_;refine gk ?_
   first|exact(okX a1 a2).elim|exact ag (ap (fun h=>h (okA a1 a8))).symm|exact ag (aj (okB1 a1 a8)).symm|exact ag (aj (okB2 a1 a2)).symm|exact ag (okD a1 a2)
  refine QY ?_;refine zk 38 rfl (fun a2=>?_) (fun a2=>?_)
  ·refine yZ ?_;refine gk ?_
   first|exact(okX a1 a2).elim|exact ag (ap (fun h=>h (okA a1 a8))).symm|exact ag (aj (okB1 a1 a8)).symm|exact ag (aj (okB2 a1 a2)).symm|exact ag (okD a1 a2)
  refine zn8 ?_;refine gk ?_
  first|exact(okX a1 a2).elim|exact ag (ap (fun h=>h (okA a1 a8))).symm|exact ag (aj (okB1 a1 a8)).symm|exact ag (aj (okB2 a1 a2)).symm|exact ag (okD a1 a2)
 refine e_S ?_;refine zZ rfl (fun b1=>?_) (fun b1=>?_)
 ·have e:swk (.mk base args) d n=(n+1,5):=by rw[P4,if_neg ad,if_neg b1]
  refine zn8 ?_;rw[e];exact⟨rfl,hC,a3⟩
 have hok:VK (.mk base args):=ak.1 b1;have he:swk (.mk base args) d n=N3 args (d+1) (n+1):=by rw[P4,if_neg ad,if_pos hok];rfl
 refine yZ ?_;refine qz (rg [6,9,10] 49 13) (fun m g w'=>∃ j nj:Nat,j<=args.length/\m=args.length-j/\g 49= .int .i64 j/\nj<=200/\N3 args (d+1) (n+1)=N3 (args.drop j) (d+1) nj/\Bel w0 w'/\Blk w' bN 3 #[.int .i64 ((nj:Nat):Int)]/\Blk w' bV 163 #[.func (.func 99) #[] (cL bN bV)]/\ChG (fun g=>g=bN) w w') (args.length) ?_ (fun m g8 w3 hI=>?_)
 ·exact⟨0,n+1,ah _,rfl,rfl,by omega,rfl,hB,a3,a5.u,hC⟩
 obtain⟨j,nj,hj,hmj,h49,hnj,hR,hB,a3,a5,hC⟩:=hI;refine zQ 49 _ h49 nu (zn6 ?_);refine zZ rfl (fun c50=>?_) (fun c50=>?_)
 ·have ab:j<args.length:=by omega
  obtain⟨sb,so,A',c',rfl,hsb,hsr,hs2⟩:=hS.at_ ab;have hdr:args.drop j=args[j]::args.drop (j+1):=List.drop_eq_getElem_cons ab;rw[hdr,N3]at hR;refine zn8 ?_;refine qQ (cs:=#[.string ⟨#[]⟩,.slice none 0 0]) KJ rfl (fun b9 w4 hb9 s3 hr=>?_);have:=a3.ob hr;have:=a5.ob hr;have a4:=(nLT hC.size hr)
  have lo9:=hB.ob hr;replace hC:=hC.st s3 (by simp);refine zV hb9 (fun w5 hq s4=>?_);replace hC:=hC.st s4 (fun g hg=>by rw[List.mem_singleton.1 hg];first|exact .inl rfl|exact .inr a4);replace hb9:=hq;refine zn8 ?_;refine yk rfl kR (IH _ (aq ab) A' c' (d+1) nj _ hs2 hnj oG hB.u a3.u a5.u) rfl rfl (fun e' w6 hr=>?_);obtain⟨rfl,ao,an⟩:=hr;replace hB:=(hB.tr0 s3).tr1 s4 lo9;replace hB:=hB.chG ao (fun g hg=>by rw[show g=bN from hg];exact l0N);replace a5:=(a5.tr0 s3).tr1 s4 oG;replace a5:=a5.chG ao (fun hx=>by have hx:bV=bN:=hx;omega);replace hC:=hC.trans ao (fun g hg=> .inl hg);replace a3:=an;refine⟨_,rfl,?_⟩;refine zn9 ?_;refine zZ rfl (fun a9=>?_) (fun a9=>?_)
  ·rw[if_neg a9]at hR;refine uJ ?_;rw[he,hR];exact⟨rfl,hC,a3⟩
  have a9:(swk (args[j]'ab) (d+1) nj).2=0:=ak.1 a9;rw[if_pos a9]at hR;obtain⟨_,_,e1,e2⟩:=swk_ts _ _ _ a9;have hn3:(swk (args[j]'ab) (d+1) nj).1<=200:=by rw[e1];exact e2
  have hR3:=hR;refine zn7 ?_;refine x9 (args.length-(j+1)) oG agA ?_;exact⟨j+1,_,by omega,rfl,rfl,hn3,hR3,hB,a3,a5,hC⟩
 have hje:j=args.length:=by omega
 rw[hje,List.drop_length,N3]at hR;refine yZ ?_;rw[he,hR];exact⟨rfl,hC,a3⟩
theorem swk_anyK(l0N:w0.heap.size<=bN)(a1:w0.heap.size<=bV)(nVN:bV≠bN):∀(k:Nat) (s:Sm),SizeOf.sizeOf s<k->∀(A:Option Addr) (c d n:Nat) (w:World),SimsIn w0 A s.args->n<=200->d<=41->Bel w0 w->Blk w bN 3 #[.int .i64 ((n:Nat):Int)]->Blk w bV 163 #[.func (.func 99) #[] (cL bN bV)]->Calls prog 99 #[.agg #[.string s.base,.slice A s.args.length c],.int .i64 ((d:Nat):Int),.pointer (some ⟨bN,0,none⟩),.pointer (some ⟨bV,0,none⟩)] w fun e w'=>e= .returned (.int .i64 (swk s d n).2)/\ChG (fun g=>g=bN) w w'/\Blk w' bN 3 #[.int .i64 (((swk s d n).1:Nat):Int)]:=by
 intro k
 induction k with
 | zero=>intro s h;omega
 | succ k ih=>
  intro s h A c d n w hS hn hd hB hbN hbV;cases s with
  | mk base args=>exact swk_step (base:=base) (args:=args) l0N a1 nVN hS (fun x hx A2 c2 d2 n2 w2 h1 h2 h3 h4 h5 h6=>ih x (by have:=List.sizeOf_lt_of_mem hx;simp only[Sm.mk.sizeOf_spec]at h;omega) A2 c2 d2 n2 w2 h1 h2 h3 h4 h5 h6) hn hd hB hbN hbV
theorem swk_any(l0N:w0.heap.size<=bN)(a1:w0.heap.size<=bV)(nVN:bV≠bN)(s:Sm)(A:Option Addr)(c d n:Nat)(w:World):SimsIn w0 A s.args->n<=200->d<=41->Bel w0 w->Blk w bN 3 #[.int .i64 ((n:Nat):Int)]->Blk w bV 163 #[.func (.func 99) #[] (cL bN bV)]->Calls prog 99 #[.agg #[.string s.base,.slice A s.args.length c],.int .i64 ((d:Nat):Int),.pointer (some ⟨bN,0,none⟩),.pointer (some ⟨bV,0,none⟩)] w fun e w'=>e= .returned (.int .i64 (swk s d n).2)/\ChG (fun g=>g=bN) w w'/\Blk w' bN 3 #[.int .i64 (((swk s d n).1:Nat):Int)]:=swk_anyK l0N a1 nVN (SizeOf.sizeOf s+1) s (aH _) A c d n w
end
theorem sm2_two{c1 c2:Nat}{A1 A2:Option Addr}{t:Sm}(hb:Blk w b 31 #[.string s.base,.slice A1 s.args.length c1,.string t.base,.slice A2 t.args.length c2])(h1:SimsIn w A1 s.args)(h2:SimsIn w A2 t.args):SimsIn w (some ⟨b,0,none⟩) [s,t]:=by
 refine .more (by simp[vX]) hb.lt (fun k hk=>?_)
 match k,hk with
 | 0,_=>
  rw[show[s,t][0]=Sm.mk s.base s.args from Sm.eta s];refine SimAt.mk (c:=c1) hb.lt (fun i v hv=>?_) h1
  match i,hv with
  | 0,hv=>exact hb.cell hv
  | 1,hv=>exact hb.cell hv
  | i+2,hv=>simp at hv
 | 1,_=>
  rw[show[s,t][1]=Sm.mk t.base t.args from Sm.eta t];refine SimAt.mk (c:=c2) hb.lt (fun i v hv=>?_) h2
  match i,hv with
  | 0,hv=>exact hb.cell hv
  | 1,hv=>exact hb.cell hv
  | i+2,hv=>simp at hv
def tb(τ:Ts):ByteArray:=⟨τ.txt.toArray⟩
theorem M1(τ:Ts):(tb τ).size=τ.txt.length:=by rw[<- Mw];rfl
theorem tb_eq(a b:Ts):decide (tb a=tb b)=a.eqb b:=by
 by_cases h:a=b
 ·subst h;rw[decide_eq_true rfl,(Ts.eqb_iff).2 rfl]
 ·rw[decide_eq_false (fun e=>h (Ts.txt_inj (by have:=congrArg bl e;exact this)))]
  cases e:a.eqb b with
  | true=>exact absurd (Ts.eqb_iff.1 e) h
  | false=>rfl
theorem tb_leaf(t:Bool):tb (.b t)=(Ts.b t).sm.base:=by cases t<;>rfl
theorem tb_f(x y:Ts):(⟨#[40]⟩:ByteArray)++tb x++⟨#[32]⟩++tb y++⟨#[41]⟩=tb (.f x y):=by
 refine SY ?_;simp only[bl_app];show[40]++x.txt++[32]++y.txt++[41]=40::(x.txt++32::(y.txt++[41]));simp
theorem ts_leaf(h:¬τ.sm.base=⟨#[]⟩):∃ t,τ= .b t:=by
 cases τ with
 | b t=>exact⟨t,rfl⟩
 | f x y=>exact absurd rfl h
theorem ts_fun(h:τ.sm.base=⟨#[]⟩):∃ x y,τ= .f x y:=by
 cases τ with
 | b t=>exact absurd h (by cases t<;>decide)
 | f x y=>exact⟨x,y,rfl⟩
theorem to_any(A1 A2:Option Addr)(c1 c2:Nat)(s t:Sm)(w:World):Calls prog 92 #[.agg (cK s A1 c1),.agg (cK t A2 c2)] w fun e w'=>(∃ b,e= .returned (.agg #[.string ⟨#[]⟩,.slice (some ⟨b,0,none⟩) 2 2])/\w.heap.size<=b/\Blk w' b 31 #[.string s.base,.slice A1 s.args.length c1,.string t.base,.slice A2 t.args.length c2])/\Bel w w':=by
 refine enT func92 ntmps92 rfl rfl fun hB=>?_;refine zn2 ?_;refine qv (cs:=#[_,_]) rfl (fun b2 w1 hb2 s1 hr=>?_);refine qv (cs:=#[_,_]) rfl (fun b3 w2 hb3 s2 hr=>?_);refine qQ (cs:=#[.string ⟨#[]⟩,.slice none 0 0]) KJ rfl (fun b4 w3 a1 s3 hr=>?_);have lo4:=hB.u.ob hr;refine zn6 ?_;refine qZ (cs:=#[_,_,_,_]) [(0,.agg _),(1,.agg _)] rfl U29 vj KJ dE dE kR rfl (fun b7 w4 hb7 s4 hr=>?_);have:=a1.ob hr;have lo7:=hB.u.ob hr;refine wl (Z1 (v0:= .slice _ _ _) (fun v0=>#[.string ⟨#[]⟩,v0]) rfl kR) ?_;refine zV a1.u (fun w5 hq s5=>?_);replace a1:=hq;refine zn3 ?_;refine xK (.inl rfl) rfl (zX U31 rfl rfl a1.range0 vj) ?_;exact⟨⟨b7,rfl,lo7,hb7.u⟩,hB.u⟩
theorem K1(A:Option Addr)(c:Nat)(s:Sm)(w:World):Calls prog 58 #[.agg #[.string s.base,.slice A s.args.length c]] w fun e w'=>e= .returned (.bool (decide (My s)))/\Bel w w':=by
 refine enT func58 ntmps58 rfl rfl fun hB=>?_;refine zn2 ?_;refine qv (cs:=#[_,_]) rfl (fun b1 w1 hb1 s1 hr=>?_);refine zn4 ?_;refine xj (rg [] 2 10) 2 (.bool (decide (My s))) nu ?_ (fun gq=>?_)
 ·refine zn5 ?_;refine zk 6 rfl (fun g6=>?_) (fun g6=>?_)
  ·refine yj ?_;refine gk ?_
   first|exact ag (am.2 ⟨fun e=>⟨g6,by omega⟩,fun e=>by have:=e.2;omega⟩)|exact ag (ap (fun e=>g6 e.1)).symm
  refine zn6 ?_;refine gk ?_
  first|exact ag (am.2 ⟨fun e=>⟨g6,by omega⟩,fun e=>by have:=e.2;omega⟩)|exact ag (ap (fun e=>g6 e.1)).symm
 refine zn3 ?_;exact⟨rfl,hB.u⟩
theorem none_any(A:Option Addr)(c:Nat)(s:Sm)(w:World):Calls prog 78 #[.agg #[.string s.base,.slice A s.args.length c]] w fun e w'=>e= .returned (.bool (decide (My s)))/\Bel w w':=by
 refine enT func78 ntmps78 rfl rfl fun hB=>?_;refine zn2 ?_;refine qv (cs:=#[_,_]) rfl (fun b1 w1 hb1 s1 hr=>?_);refine zn4 ?_;refine xj (rg [] 2 10) 2 (.bool (decide (My s))) nu ?_ (fun gq=>?_)
 ·refine zn5 ?_;refine zk 6 rfl (fun g6=>?_) (fun g6=>?_)
  ·refine yj ?_;refine gk ?_
   first|exact ag (am.2 ⟨fun e=>⟨g6,by omega⟩,fun e=>by have:=e.2;omega⟩)|exact ag (ap (fun e=>g6 e.1)).symm
  refine zn6 ?_;refine gk ?_
  first|exact ag (am.2 ⟨fun e=>⟨g6,by omega⟩,fun e=>by have:=e.2;omega⟩)|exact ag (ap (fun e=>g6 e.1)).symm
 refine zn3 ?_;exact⟨rfl,hB.u⟩
set_option maxHeartbeats 1000000 in
theorem stx_step(hS:SimsIn w A τ.sm.args)(a1:τ.txt.length<=1000000)(IH:∀ x∈τ.kids,∀(A2:Option Addr) (c2:Nat) (w2:World),SimsIn w2 A2 x.sm.args->x.txt.length<=1000000->Calls prog 112 #[.agg #[.string (x).sm.base,.slice A2 (x).sm.args.length c2]] w2 fun e w'=>e= .returned (.string (tb x))/\Bel w2 w'):Calls prog 112 #[.agg #[.string (τ).sm.base,.slice A (τ).sm.args.length c]] w fun e w'=>e= .returned (.string (tb τ))/\Bel w w':=by
 refine enT func112 ntmps112 rfl rfl fun hB=>?_;refine zn2 ?_;refine qv (cs:=#[_,_]) rfl (fun b1 w1 hb1 s1 hr=>?_);refine vJ ?_;refine zZ rfl (fun c5=>?_) (fun c5=>?_)
 ·obtain⟨t,rfl⟩:=ts_leaf c5;refine yj ?_;exact⟨congrArg (fun z=>Ending.returned (.string z)) (tb_leaf t).symm,hB.u⟩
 obtain⟨x,y,rfl⟩:=ts_fun (ak.1 c5);obtain⟨sb,so,A1,c1,rfl,hsb,hr1,hs1⟩:=hS.at_ (k:=0) (by simp[Ts.sm,Sm.args]);obtain⟨_,_,A2,c2,e2,_,hr2,hs2⟩:=hS.at_ (k:=1) (by simp[Ts.sm,Sm.args]);cases e2;have hlx:x.txt.length+y.txt.length+3<=1000000:=by simp[Ts.txt]at a1;omega
 refine zn3 ?_;refine jY [] [0,1,2,3,7,8,9,10,4,5,6,11,12,13,14] rfl (fun w2 s2=>?_);refine zn2 ?_;refine hl rfl (fun _=>x7 (i:=0) U29 vj rfl rfl (by show 0<2;decide) rfl) (zn3 ?_);refine hl rfl (fun _=>x7 (i:=1) U29 vj rfl rfl (by show 1<2;decide) rfl) (zn1 ?_);refine hcl (fun v wv=>v= .string (tb x)) rfl kR (IH x (aE ..) A1 c1 w2 (hs1.mono hB.u) oG) rfl (fun e' w2 hr=>?_) (fun v12 w3 s3 d12=>?_)
 ·obtain⟨rfl,s4⟩:=hr;exact⟨_,rfl,sB s4,rfl⟩
 have e12:=d12;subst e12;refine hl rfl (fun _=>P8 rfl rfl (by rw[M1];show 1+_<=_;omega)) (hl rfl (fun _=>P8 rfl rfl (by rw[ByteArray.size_append,M1];show 1+_+1<=_;omega)) ?_);refine hcl (fun v wv=>v= .string (tb y)) rfl kR (IH y (aw _ (aE ..)) A2 c2 w3 (hs2.mono hB.u) oG) rfl (fun e' w2 hr=>?_) (fun v19 w4 s5 d19=>?_)
 ·obtain⟨rfl,s6⟩:=hr;exact⟨_,rfl,sB s6,rfl⟩
 have e19:=d19;subst e19;refine hl rfl (fun _=>P8 rfl rfl (by rw[ByteArray.size_append,ByteArray.size_append,M1,M1];show 1+_+1+_<=_;omega)) (hl rfl (fun _=>P8 rfl rfl (by rw[ByteArray.size_append,ByteArray.size_append,ByteArray.size_append,M1,M1];show 1+_+1+_+1<=_;omega)) (zn5 ?_));exact⟨congrArg (fun z=>Ending.returned (.string z)) (tb_f x y),hB.u⟩
theorem stx_any:∀(k:Nat) (τ:Ts),τ.size<k->∀(A:Option Addr) (c:Nat) (w:World),SimsIn w A τ.sm.args->τ.txt.length<=1000000->Calls prog 112 #[.agg #[.string (τ).sm.base,.slice A (τ).sm.args.length c]] w fun e w'=>e= .returned (.string (tb τ))/\Bel w w':=by
 intro k
 induction k with
 | zero=>intro τ h;omega
 | succ k ih=>exact fun τ h A c w hS hl=>stx_step hS hl (fun x hx A2 c2 w2 h1 h2=>ih x (by have:=Ts.kids_lt hx;omega) A2 c2 w2 h1 h2)
theorem samet_any(A1 A2:Option Addr)(c1 c2:Nat)(a b:Ts)(w:World)(h1:SimsIn w A1 a.sm.args)(h2:SimsIn w A2 b.sm.args)(hl1:a.txt.length<=1000000)(hl2:b.txt.length<=1000000):Calls prog 93 #[.agg #[.string a.sm.base,.slice A1 a.sm.args.length c1],.agg #[.string b.sm.base,.slice A2 b.sm.args.length c2]] w fun e w'=>e= .returned (.bool (a.eqb b))/\Bel w w':=by
 refine enT func93 ntmps93 rfl rfl fun hB=>?_;refine zn2 ?_;refine qv (cs:=#[_,_]) rfl (fun b2 w1 hb2 s1 hr=>?_);refine qv (cs:=#[_,_]) rfl (fun b3 w2 hb3 s2 hr=>?_);refine zn4 ?_;refine jY [] [0,2,1,3,4,5] rfl (fun w3 s3=>?_);refine zn2 ?_;refine hcl (fun v wv=>v= .string (tb a)) rfl kR (stx_any _ a (aH _) A1 c1 w3 (h1.mono hB.u) hl1) rfl (fun e' w2 hr=>?_) (fun v6 w4 s4 d6=>?_)
 ·obtain⟨rfl,s5⟩:=hr;exact⟨_,rfl,sB s5,rfl⟩
 have e6:=d6;subst e6;refine hcl (fun v wv=>v= .string (tb b)) rfl kR (stx_any _ b (aH _) A2 c2 w4 (h2.mono hB.u) hl2) rfl (fun e' w2 hr=>?_) (fun v8 w5 s6 d8=>?_)
 ·obtain⟨rfl,s7⟩:=hr;exact⟨_,rfl,sB s7,rfl⟩
 have e8:=d8;subst e8;refine zn6 ?_;exact⟨congrArg (fun z=>Ending.returned (.bool z)) (tb_eq a b),hB.u⟩
set_option maxRecDepth 100000 in
theorem same_step{A1 A2:Option Addr}{c1 c2:Nat}{a b:Ts}(h1:SimsIn w A1 a.sm.args)(h2:SimsIn w A2 b.sm.args)(IH:∀ x∈a.kids,∀(A1 A2:Option Addr) (c1 c2:Nat) (b:Ts) (w:World),SimsIn w A1 x.sm.args->SimsIn w A2 b.sm.args->Calls prog 100 #[.agg #[.string x.sm.base,.slice A1 x.sm.args.length c1],.agg #[.string b.sm.base,.slice A2 b.sm.args.length c2]] w fun e w'=>e= .returned (.bool (x.eqb b))/\Bel w w'):Calls prog 100 #[.agg #[.string a.sm.base,.slice A1 a.sm.args.length c1],.agg #[.string b.sm.base,.slice A2 b.sm.args.length c2]] w fun e w'=>e= .returned (.bool (a.eqb b))/\Bel w w':=by
 have hk1:=Ts.kids_len a;have hk2:=Ts.kids_len b;have ek1:a.sm.args.length=a.kids.length:=by rw[Ts.kids_sm,List.length_map]
 have ek2:b.sm.args.length=b.kids.length:=by rw[Ts.kids_sm,List.length_map]
 refine enT func100 ntmps100 rfl rfl fun hB=>?_;refine zn2 ?_;refine qv (cs:=#[_,_]) rfl (fun b2 w1 a9 s1 hr=>?_);refine qv (cs:=#[_,_]) rfl (fun b3 w2 a8 s2 hr=>?_);refine zn5 ?_;replace hB:=hB.tr0 (s1.t s2);refine xj (rg [] 6 14) 19 (.bool (decide (¬(a.sm.base=b.sm.base/\a.sm.args.length=b.sm.args.length)))) nu ?_ (fun gq=>?_)
 ·refine zn7 ?_;refine zk 11 rfl (fun a2=>?_) (fun a2=>?_)
  ·refine zn8 ?_;refine gk ?_
   first|exact ag (aj (by exact fun h=>a2 h.1)).symm|exact ag (am.2 (by exact⟨fun h k=>h (by have:=k.2;omega),fun h e=>h ⟨au.1 a2,by omega⟩⟩))
  refine Ky ?_;refine gk ?_
  first|exact ag (aj (by exact fun h=>a2 h.1)).symm|exact ag (am.2 (by exact⟨fun h k=>h (by have:=k.2;omega),fun h e=>h ⟨au.1 a2,by omega⟩⟩))
 refine e_S ?_;refine zZ rfl (fun ab=>?_) (fun ab=>?_)
 ·refine zn8 ?_;have a4:¬a=b:=fun e=>ab (by subst e;exact⟨rfl,rfl⟩)
  exact⟨congrArg (fun z=>Ending.returned (.bool z)) (Bool.eq_false_iff.2 (fun e=>a4 (Ts.eqb_iff.1 e))).symm,hB⟩
 have hbl:=ak.1 ab;refine yZ ?_;refine qz (rg [4,5] 23 16) (fun m g w'=>∃ j:Nat,j<=a.kids.length/\m=a.kids.length-j/\g 23= .int .i64 j/\Bel w w'/\Blk w' b2 31 #[.string a.sm.base,.slice A1 a.sm.args.length c1]/\Blk w' b3 31 #[.string b.sm.base,.slice A2 b.sm.args.length c2]/\a.kids.take j=b.kids.take j) (a.kids.length) ?_ (fun m g4 w3 hI=>?_)
 ·exact⟨0,ah _,rfl,rfl,hB,a9.u,a8,rfl⟩
 obtain⟨j,hj,hmj,h23,hB,a9,a8,a1⟩:=hI;refine zQ 23 _ h23 nu (zn6 ?_);refine zZ rfl (fun c24=>?_) (fun c24=>?_)
 ·have a5:j<a.kids.length:=by omega
  have hjb:j<b.kids.length:=by omega
  obtain⟨sb,so,A3,c3,rfl,hsb,hr3,hs3⟩:=sims_kid h1 a5;obtain⟨tb,to,A4,c4,rfl,htb,hr4,hs4⟩:=sims_kid h2 hjb;refine vJ ?_;refine Qz 10 kR kR (fun w4 s3=>?_);refine yj ?_;refine Q4 ?_;refine a7 kR (IH _ (aq a5) A3 A4 c3 c4 _ _ (hs3.mono hB.u) (hs4.mono hB.u)) rfl (fun w5 s4=>?_);refine zn3 ?_;refine jv rfl (fun a3=>?_) (fun a3=>?_)
  ·refine yZ ?_;have a4:¬a=b:=fun e=>by
    have h:=(Ts.eqb_iff (a:=a.kids[j]) (b:=b.kids[j])).2 (by subst e;rfl);rw[h]at a3;cases a3
   exact⟨congrArg (fun z=>Ending.returned (.bool z)) (Bool.eq_false_iff.2 (fun e=>a4 (Ts.eqb_iff.1 e))).symm,hB.u⟩
  refine zn7 ?_;refine x9 (a.kids.length-(j+1)) oG agA ?_;exact⟨j+1,by omega,rfl,rfl,hB.u,a9.u,a8.u,take_kid a1 a5 hjb (Ts.eqb_iff.1 (by simpa using a3))⟩
 have hje:j=a.kids.length:=by omega
 refine yZ ?_;rw[hje,List.take_of_length_le (Nat.le_refl _),List.take_of_length_le oG]at a1;exact⟨congrArg (fun z=>Ending.returned (.bool z)) (Ts.eqb_iff.2 (Ts.ext hbl.1 a1)).symm,hB⟩
theorem same_anyK:∀(k:Nat) (a:Ts),a.size<k->∀(A1 A2:Option Addr) (c1 c2:Nat) (b:Ts) (w:World),SimsIn w A1 a.sm.args->SimsIn w A2 b.sm.args->Calls prog 100 #[.agg #[.string a.sm.base,.slice A1 a.sm.args.length c1],.agg #[.string b.sm.base,.slice A2 b.sm.args.length c2]] w fun e w'=>e= .returned (.bool (a.eqb b))/\Bel w w':=by
 intro k
 induction k with
 | zero=>intro a h;omega
 | succ k ih=>exact fun a h A1 A2 c1 c2 b w h1 h2=>same_step h1 h2 (fun x hx A3 A4 c3 c4 b2 w2 h3 h4=>ih x (by have:=Ts.kids_lt hx;omega) A3 A4 c3 c4 b2 w2 h3 h4)
theorem samE_any(A1 A2:Option Addr)(c1 c2:Nat)(a b:Ts)(w:World)(h1:SimsIn w A1 a.sm.args)(h2:SimsIn w A2 b.sm.args):Calls prog 100 #[.agg #[.string a.sm.base,.slice A1 a.sm.args.length c1],.agg #[.string b.sm.base,.slice A2 b.sm.args.length c2]] w fun e w'=>e= .returned (.bool (a.eqb b))/\Bel w w':=same_anyK _ a (aH _) A1 A2 c1 c2 b w h1 h2
theorem map_two{α β:Type}{l:List α}(h:l.length=2)(f:α->β):l.map f= [f (l[0]'oG),f (l[1]'oG)]:=by
 match l,h with
 | [a,b],_=>rfl
theorem okR1(h:¬s.base=⟨#[]⟩)(k:s.base≠⟨#[101]⟩)(l:s.base≠⟨#[116]⟩):¬VK s:=by
 rintro (⟨h1|h1,_⟩|⟨h1,_⟩)
 ·exact k h1
 ·exact l h1
 ·exact h h1
theorem okR2(h:s.base=smE\/s.base=smT):((s.args.length:Nat):Int)≠0↔¬VK s:=
 ⟨fun k h2=>by
  rcases h2 with ⟨_,h2⟩|⟨h2,_⟩
  ·omega
  ·exact okX h h2,fun k h2=>k (.inl ⟨h,by omega⟩)⟩
theorem in147:(Tryz.prog.info? 147).map (fun i=>(i.zero,i.size,i.bytes))=some (some (.agg #[.string ⟨#[]⟩,.slice none 0 0,.int .i64 0]),3,48):=by kernel_rfl
theorem Rx:(Tryz.prog.info? 147).map (·.size)=some 3:=by kernel_rfl
theorem ze147:(Tryz.prog.info? 147).map (·.zero)=some (some (.agg #[.string ⟨#[]⟩,.slice none 0 0,.int .i64 0])):=by kernel_rfl
set_option maxRecDepth 100000 in
set_option maxHeartbeats 4000000 in
theorem Bj(A:Option Addr)(c:Nat)(s:Sm)(w:World)(hS:SimsIn w A s.args):Calls Tryz.prog 60 #[.agg #[.string s.base,.slice A s.args.length c]] w fun e w'=>e= .returned (.int .i64 (smF s))/\Bel w w':=by
 have hR0:smF s=(sst [(s,1)] 0).2:=by rw[sst_one];rfl
 refine enT Tryz.func60 Tryz.ntmps60 rfl rfl fun hB=>?_;refine zn2 ?_;refine qv (cs:=#[_,_]) rfl (fun b1 w1 hb1 t1 hr=>?_);refine zn6 ?_;refine wl (Q5 (v0:= .agg _) (v1:= .int _ _) (fun v0 v1=>#[(qy v0 0),(qy v0 1),v1]) rfl rfl kR) ?_;refine qZ (cs:=#[_,_,_]) [(0,.agg _)] rfl U148 Rx ze147 dE dE kR rfl (fun b8 w2 hb8 t2 hr=>?_);have lo8:=hB.u.ob hr;refine yj ?_;refine qz (rg [2,3,4,5] 9 70) (fun m g w'=>∃(st:List (Sm×Nat)) (vs:List Value) (A3:Option Addr) (a8 n:Nat),m=201-n/\n<=200/\st.length<=2*n+1/\g 3= .slice A3 st.length a8/\g 4= .int .i64 n/\Bel w w'/\Own w' w.heap.size 147 3 A3 st.length a8 vs/\StkS w st vs/\smF s=(sst st.reverse n).2) (201) ?_ (fun m g3 w3 hI=>?_)
 ·replace hB:=hB.tr0 (t1.t t2);exact⟨[(s,1)],_,_,_,0,rfl,by omega,by simp,rfl,rfl,hB,V6 (m:=1) hb8 lo8 rfl dE,.snoc .nil hS,hR0⟩
 obtain⟨st,vs,A3,a8,n,hm,hn,hsl,h3,h4,hB,ho,ba,hR⟩:=hI;refine zQ 3 _ h3 nu (zQ 4 _ h4 nu (zn8 ?_));refine zZ rfl (fun c11=>?_) (fun c11=>?_)
 ·obtain⟨a1,a9,s1,d1,A1,c1,rfl,rfl,a2,hs1⟩:=ba.pop oG;have ac:(a1++[(s1,d1)]).length=a1.length+1:=by simp
  rw[Iz]at hR;obtain⟨q,rfl,hqb,hql,hqc⟩:=ho.cell (by simp);refine zn8 ?_;refine wl (jJ (c:=(a1.length:Int)) rfl rfl (by rw[ac];omega) oG) (wl (x7 (i:=a1.length) U148 Rx rfl rfl (by rw[ac];omega) rfl) (wl (qw U147 rfl rfl (own_top ho a2.len) Rx) ?_));refine y8 (cs:=#[.string ⟨#[]⟩,.slice none 0 0,.int .i64 0]) ze147 rfl (fun _=>rfl) (fun _=>rfl) Rx rfl xW (fun b5 w5 hb5 t3 hr=>?_);refine zn7 ?_;refine wl (jJ (c:=(a1.length:Int)) rfl rfl (by rw[ac];omega) oG) ?_;replace ho:=ho.tr0 t3;refine wl (MX (h:=a1.length) U148 Rx rfl rfl (by have:=ho.cap_le;omega)) (zn4 ?_);replace hB:=hB.tr0 t3;replace ho:Own w5 w.heap.size 147 3 (some ⟨q,0,none⟩) a1.length a8 a9:=by
    have h:=ho.take (k':=a1.length) oG oG
    rwa[List.take_append_of_le_length (by rw[a2.len];exact ai _),aX (by rw[a2.len];exact ai _)]at h
  refine zn8 ?_;refine xj [25,26,27,28,29,30,31] 31 (.bool (decide (200<n+1\/40<d1))) nu ?_ (fun gq=>?_)
  ·refine zn4 ?_;refine zk 27 rfl (fun g27=>?_) (fun g27=>?_)
   ·refine zn4 ?_;exact xq
   refine zn7 ?_;exact xq
  refine e_S ?_;refine zZ rfl (fun b2=>?_) (fun b2=>?_)
  ·rw[sst_out b2]at hR;refine yZ ?_;exact⟨by rw[hR];rfl,hB⟩
  refine yj ?_;refine zZ rfl (fun ao=>?_) (fun ao=>?_)
  ·refine yj ?_;refine zZ rfl (fun c40=>?_) (fun c40=>?_)
   ·have hno:¬VK s1:=fun h=>by
      rcases h with ⟨h,_⟩|⟨_,h⟩
      · exact okX h ao
      · omega
    rw[sst_bad b2 hno]at hR;refine yZ ?_;exact⟨by rw[hR];rfl,hB⟩
   have h2l:s1.args.length=2:=by omega
   have a3:1<s1.args.length:=by omega
   have a4:0<s1.args.length:=by omega
   have b9:VK s1:= .inr ⟨ao,h2l⟩;rw[sst_go b2 b9]at hR;obtain⟨sb,so,B0,e0,rfl,hsb,hr0,b6⟩:=hs1.at_ a4;obtain⟨_,_,B1,e1,ez,_,hr1,b4⟩:=hs1.at_ a3;cases ez;have b7:smF s=(sst (a1++[((s1.args[1]'a3),d1+1)]++[((s1.args[0]'a4),d1+1)]).reverse (n+1)).2:=by
     rw[hR,Iz,Iz,map_two h2l];rfl
   refine QK (e_S ?_);have zo:=fun g hg=>(ho.lt g hg).2
   refine gY [] [20] [0,1,2,3,4,5,6,7,8,9,10,11,12,13,14,15,16,17,18,19,20,21] rfl (fun w6 t4=>?_);refine zn4 ?_;refine hl rfl (fun _=>x7 (i:=1) U29 vj rfl rfl a3 rfl) (zn4 ?_);refine hl rfl (fun _=>Q5 (v0:= .agg _) (v1:= .int _ _) (fun v0 v1=>#[(qy v0 0),(qy v0 1),v1]) rfl rfl kR) (zn3 ?_);refine hl rfl (fun _=>x7 (i:=0) U29 vj rfl rfl a4 rfl) (zn4 ?_);refine hl rfl (fun _=>Q5 (v0:= .agg _) (v1:= .int _ _) (fun v0 v1=>#[(qy v0 0),(qy v0 1),v1]) rfl rfl kR) (h1 rfl ?_);refine qZ (cs:=#[_,_,_,_,_,_]) [(0,.agg _),(1,.agg _)] rfl U148 Rx ze147 dE dE kR rfl (fun b60 w7 bb t5 hr=>?_);have b3:=t5;refine qY (KQ b3 (h1 rfl ?_));replace ho:=ho.tr0 (t4.t t5);refine vV U148 in147 rfl dE ho bb rfl rfl rfl xW dE oG oG (Bel.size hB.u) (fun bc a5 w8 ab hs2 hg61=>?_);replace hB:=hB.tr0 (t4.t t5);replace hB:=hB.tr hs2 (fun g hg=>nLT (ai _) (ho.lt g hg).1);obtain⟨bc,a5,e61,ab⟩:∃ g cap,(.slice (some ⟨bc,0,none⟩) (a1.length+2) a5:Value)= .slice (some ⟨g,0,none⟩) (a1.length+2) cap/\Own w8 w.heap.size 147 3 (some ⟨g,0,none⟩) (a1.length+2) cap (a9++[.string (s1.args[1]'a3).base,.slice B1 (s1.args[1]'a3).args.length e1,.int .i64 ((d1:Nat)+1:Int),.string (s1.args[0]'a4).base,.slice B0 (s1.args[0]'a4).args.length e0,.int .i64 ((d1:Nat)+1:Int)]):=⟨_,_,rfl,ab⟩
   cases e61;refine qY (O9 [] ?_);have q1:(a1++[((s1.args[1]'a3),d1+1)]++[((s1.args[0]'a4),d1+1)]).length=a1.length+2:=by simp
   have q2:a9++[.string (s1.args[1]'a3).base,.slice B1 (s1.args[1]'a3).args.length e1,.int .i64 ((d1:Nat)+1:Int)]++[.string (s1.args[0]'a4).base,.slice B0 (s1.args[0]'a4).args.length e0,.int .i64 ((d1:Nat)+1:Int)]=a9++[.string (s1.args[1]'a3).base,.slice B1 (s1.args[1]'a3).args.length e1,.int .i64 ((d1:Nat)+1:Int),.string (s1.args[0]'a4).base,.slice B0 (s1.args[0]'a4).args.length e0,.int .i64 ((d1:Nat)+1:Int)]:=by simp
   have ho:Own w8 w.heap.size 147 3 (some ⟨bc,0,none⟩) (a1++[((s1.args[1]'a3),d1+1)]++[((s1.args[0]'a4),d1+1)]).length a5 (a9++[.string (s1.args[1]'a3).base,.slice B1 (s1.args[1]'a3).args.length e1,.int .i64 ((d1:Nat)+1:Int)]++[.string (s1.args[0]'a4).base,.slice B0 (s1.args[0]'a4).args.length e0,.int .i64 ((d1:Nat)+1:Int)]):=by rw[q1,q2];exact ab
   refine zn3 ?_;refine x9 (201-(n+1)) oG agA ?_
   first
     | exact⟨a1++[((s1.args[1]'a3),d1+1)]++[((s1.args[0]'a4),d1+1)],_,_,_,n+1,rfl,by omega,by rw[q1];omega,(by rw[q1];rfl),rfl,hB,ho,.snoc (.snoc a2 b4) b6,b7⟩
     | exact⟨a1,a9,_,_,n+1,rfl,by omega,by omega,rfl,rfl,hB,ho,a2,b7⟩
  refine xQ ?_;refine xj (rg [] 62 17) 78 (.bool (decide (¬VK s1))) nu ?_ (fun gq=>?_)
  ·refine zn6 ?_;refine zk 66 rfl (fun an=>?_) (fun an=>?_)
   ·refine yj ?_;refine zk 72 rfl (fun ad=>?_) (fun ad=>?_)
    ·refine zn6 ?_;refine gk ?_
     first|exact ag (aj (by exact okR1 ao an ad)).symm|exact ag (am.2 (by exact okR2 (.inr (au.1 ad))))|exact ag (am.2 (by exact okR2 (.inl (au.1 an))))
    refine vJ ?_;refine gk ?_
    first|exact ag (aj (by exact okR1 ao an ad)).symm|exact ag (am.2 (by exact okR2 (.inr (au.1 ad))))|exact ag (am.2 (by exact okR2 (.inl (au.1 an))))
   refine Nk ?_;refine gk ?_
   first|exact ag (aj (by exact okR1 ao an ad)).symm|exact ag (am.2 (by exact okR2 (.inr (au.1 ad))))|exact ag (am.2 (by exact okR2 (.inl (au.1 an))))
  refine e_S ?_;refine zZ rfl (fun bd=>?_) (fun bd=>?_)
  ·rw[sst_bad b2 bd]at hR;refine vJ ?_;exact⟨by rw[hR];rfl,hB⟩
  have b9:VK s1:=au.1 bd;have ha0:s1.args= []:=by
    rcases b9 with ⟨_,h⟩|⟨h,_⟩
    · exact aM.1 h
    · exact absurd h ao
  have b7:smF s=(sst a1.reverse (n+1)).2:=by rw[hR,sst_go b2 b9,ha0];rfl
  refine QK (e_B (x9 (201-(n+1)) oG agA ?_))
  first
    | exact⟨a1++[((s1.args[1]'a3),d1+1)]++[((s1.args[0]'a4),d1+1)],_,_,_,n+1,rfl,by omega,by rw[q1];omega,(by rw[q1];rfl),rfl,hB,ho,.snoc (.snoc a2 b4) b6,b7⟩
    | exact⟨a1,a9,_,_,n+1,rfl,by omega,by omega,rfl,rfl,hB,ho,a2,b7⟩
 have hst:st= []:=aM.1 oG;subst hst;have hR3:smF s=0:=hR;refine yZ ?_;exact⟨by rw[hR3];rfl,hB⟩
theorem sz163:(Tryz.prog.info? 163).map (·.size)=some 1:=by kernel_rfl
theorem ze163:(Tryz.prog.info? 163).map (·.zero)=some (some (.nilFunc)):=by kernel_rfl
set_option maxHeartbeats 1000000 in
theorem simv_any(A:Option Addr)(c:Nat)(s:Sm)(w:World)(hS:SimsIn w A s.args):Calls Tryz.prog 77 #[.agg #[.string s.base,.slice A s.args.length c]] w fun e w'=>e= .returned (flV (smF s,0))/\Bel w w':=by
 refine enT Tryz.func77 Tryz.ntmps77 rfl rfl fun hB=>?_;refine zn2 ?_;refine qv (cs:=#[_,_]) rfl (fun b1 w1 a8 s1 hr=>?_);refine qQ (cs:=#[.int .i64 0,.int .i64 0]) qV rfl (fun b2 w2 a1 s2 hr=>?_);have:=a8.ob hr;have lo2:=hB.u.ob hr;refine zn4 ?_;refine qQ (cs:=#[.int .i64 0]) ZV rfl (fun b3 w3 a2 s3 hr=>?_);have:=a8.u.ob hr;have:=a1.ob hr;have a3:=hB.u.ob hr;refine xx (v:= .int _ _) a2 rfl rfl qq (by first|decide|simp) rfl rfl (fun w4 hq s4=>?_);replace a2:=hq;refine zn4 ?_;refine qQ (cs:=#[.nilFunc]) ze163 rfl (fun b4 w5 a4 s5 hr=>?_);have:=a8.u.ob hr;have:=a1.u.ob hr;have:=a2.ob hr;have lo4:=hB.u.ob hr;refine zn4 ?_;refine wl (r_mf rfl) ?_;refine xx (v:= .func _ _ _) a4 rfl rfl sz163 (by first|decide|simp) rfl rfl (fun w6 hq s6=>?_);replace a4:=hq;refine zn6 ?_;refine yk rfl kR (swk_any (w0:=w) (bN:=b3) (bV:=b4) a3 lo4 oG s A c 1 0 _ hS oG oG hB.u a2.u a4) rfl rfl (fun e' w7 hr=>?_);obtain⟨rfl,hC2,a5⟩:=hr;replace hB:=(((hB.tr0 (s1.t (s2.t s3))).tr1 s4 a3).tr0 s5).tr1 s6 lo4;replace hB:=hB.chG hC2 (fun g hg=>by rw[show g=b3 from hg];exact a3);replace a1:=(((a1.tr0 s3).tr1 s4 oG).tr0 s5).tr1 s6 oG;replace a1:=a1.chG hC2 (fun hx=>by have hx:b2=b3:=hx;omega);replace a2:=a5;refine⟨_,rfl,?_⟩;refine wl (Z1 (v0:= .int _ _) (fun v0=>#[v0,.int .i64 0]) rfl kR) ?_;refine zV a1 (fun w8 hq s7=>?_);replace a1:=hq;refine zn3 ?_;refine xK (.inl rfl) rfl (zX U45 rfl rfl a1.range0 zK) ?_;exact⟨rfl,hB.u⟩
theorem twk_out(h:200<n+1\/40<d):twk t d b n=(n+1,(1,(n:Int))):=by rw[Jk,if_pos h]
theorem Xx{c:Int}(h:¬(200<n+1\/40<d))(hc:ndC b t=c)(h0:c≠0):twk t d b n=(n+1,(c,(n:Int))):=by rw[Jk,if_neg h,if_neg (by rw[hc];exact h0),hc]
theorem twk_nil(h:¬(200<n+1\/40<d))(hc:ndC b t=0)(ha:t.args= []):twk t d b n=(n+1,(0,0)):=by rw[Jk,if_neg h,if_pos hc,ha,Z5]
theorem twk_end(x:Tm)(d b n:Nat):Z5 [x] d b n=twk x d b n:=by
 rw[Z5];by_cases h:(twk x d b n).2.1=0
 ·rw[if_pos h,Z5,<- twk_z h]
 ·rw[if_neg h]
theorem twks_one{l:List Tm}(hl:l.length=1)(h0:0<l.length)(d b n:Nat):Z5 l d b n=twk (l[0]'h0) d b n:=by
 match l,hl with
 | [x],_=>exact twk_end x d b n
theorem twks_two{l:List Tm}(hl:l.length=2)(h0:0<l.length)(h1:1<l.length)(d b n:Nat):Z5 l d b n=if (twk (l[0]'h0) d b n).2.1=0 then twk (l[1]'h1) d b (twk (l[0]'h0) d b n).1 else twk (l[0]'h0) d b n:=by
 match l,hl with
 | [x,y],_=>rw[Z5,twk_end];rfl
theorem twk_one{b':Nat}(h:¬(200<n+1\/40<d))(hc:ndC b t=0)(hi:inB t b=b')(hl:t.args.length=1)(h0:0<t.args.length):twk t d b n=twk (t.args[0]'h0) (d+1) b' (n+1):=by
 rw[Jk,if_neg h,if_pos hc,hi,twks_one hl h0]
theorem twk_two{b':Nat}(h:¬(200<n+1\/40<d))(hc:ndC b t=0)(hi:inB t b=b')(hl:t.args.length=2)(h0:0<t.args.length)(h1:1<t.args.length):twk t d b n=if (twk (t.args[0]'h0) (d+1) b' (n+1)).2.1=0 then twk (t.args[1]'h1) (d+1) b' (twk (t.args[0]'h0) (d+1) b' (n+1)).1 else twk (t.args[0]'h0) (d+1) b' (n+1):=by
 rw[Jk,if_neg h,if_pos hc,hi,twks_two hl h0 h1]
theorem TW:zw prog 76=true:=by kernel_rfl
theorem sz32:(prog.info? 32).map (·.size)=some 1:=by kernel_rfl
theorem X7:(prog.info? 34).map (·.size)=some 6:=by kernel_rfl
theorem Z6(b9:Nat)(cd n:Int)(w:World)(hb9:Blk w b9 3 #[.int .i64 n]):Calls prog 76 #[.int .i64 cd,.pointer (some ⟨b9,0,none⟩)] w fun e w'=>e= .returned (flV (cd,n))/\Bel w w':=by
 refine enT func76 ntmps76 rfl rfl fun hB=>?_;refine zn2 ?_;refine qQ (cs:=#[.int .i64 0,.int .i64 0]) qV rfl (fun b3 w1 a1 s1 hr=>?_);have lo3:=hB.ob hr;refine zn6 ?_;refine vy ?_;refine zV a1 (fun w2 hq s2=>?_);replace a1:=hq;refine zn3 ?_;refine xK (.inl rfl) rfl (zX U45 rfl rfl a1.range0 zK) ?_;exact⟨rfl,hB.u⟩
set_option maxRecDepth 100000 in
set_option maxHeartbeats 8000000 in
theorem twk_step(cp:w0.heap.size<=bN)(_l0V:w0.heap.size<=bV)(nVN:bV≠bN){B:Option Addr}{m:Nat}(hS:SimsIn w0 A t.type.args)(hT:TmsIn w0 B t.args)(IH:∀ x∈t.args,∀(A2 B2:Option Addr) (c2 m2 d2 b2 n2:Nat) (w2:World),SimsIn w0 A2 x.type.args->TmsIn w0 B2 x.args->n2<=200->d2<=41->b2<=d2->Bel w0 w2->Blk w2 bN 3 #[.int .i64 ((n2:Nat):Int)]->Blk w2 bV 135 #[.func (.func 75) #[] (cL bN bV)]->Calls prog 75 #[.agg (cD (x) A2 c2 B2 m2),.int .i64 ((d2:Nat):Int),.int .i64 ((b2:Nat):Int),.pointer (some ⟨bN,0,none⟩),.pointer (some ⟨bV,0,none⟩)] w2 fun e w'=>e= .returned (flV (twk x d2 b2 n2).2)/\ChG (fun g=>g=bN) w2 w'/\Blk w' bN 3 #[.int .i64 (((twk x d2 b2 n2).1:Nat):Int)])(hn:n<=200)(hd:d<=41)(hbd:b<=d)(hB:Bel w0 w)(a3:Blk w bN 3 #[.int .i64 ((n:Nat):Int)])(bc:Blk w bV 135 #[.func (.func 75) #[] (cL bN bV)]):Calls prog 75 #[.agg (cD (t) A c B m),.int .i64 ((d:Nat):Int),.int .i64 ((b:Nat):Int),.pointer (some ⟨bN,0,none⟩),.pointer (some ⟨bV,0,none⟩)] w fun e w'=>e= .returned (flV (twk t d b n).2)/\ChG (fun g=>g=bN) w w'/\Blk w' bN 3 #[.int .i64 (((twk t d b n).1:Nat):Int)]:=by
 have hmx:=hT.le;unfold vX at hmx;have ltN:=a3.lt;have ltV:=bc.lt;have hC:ChG (fun g=>g=bN) w w:=ChG.refl _ _;refine enter func75 ntmps75 rfl (aA rfl) (zn2 ?_);refine qv (cs:=#[_,_,_,_,_,_]) rfl (fun b5 w1 bd s1 hr=>?_);have:=a3.ob hr;replace hC:=hC.st s1 (by simp);refine qQ (cs:=#[.int .i64 0,.int .i64 0]) qV rfl (fun b8 w2 a2 s2 hr=>?_);have:=a3.u.ob hr;have:=bc.u.ob hr;have a1:=(nLT hC.size hr)
 have:=bd.ob hr;replace hC:=hC.st s2 (by simp);refine zn5 ?_;refine qQ (cs:=#[.int .i64 0]) ZV rfl (fun b9 w3 ad s3 hr=>?_);have:=a3.u.ob hr;have:=bc.u.ob hr;have b7:=(nLT hC.size hr)
 have:=bd.u.ob hr;have:=a2.ob hr;have lo9:=hB.u.ob hr;replace hC:=hC.st s3 (by simp);refine xx (v:= .int _ _) ad rfl rfl qq (by first|decide|simp) rfl rfl (fun w4 hq s4=>?_);replace hC:=hC.st s4 (fun g hg=>by rw[List.mem_singleton.1 hg];first|exact .inl rfl|exact .inr b7);replace ad:=hq;refine zn6 ?_;replace a3:=(a3.tr0 (s1.t (s2.t s3))).tr1 s4 oG;refine xx (v:= .int _ _) a3 rfl rfl qq (by first|decide|simp) rfl rfl (fun w5 hq s5=>?_);replace hB:=hB.u.tr1 s5 cp;replace hC:=hC.st s5 (fun g hg=>by rw[List.mem_singleton.1 hg];first|exact .inl rfl|exact .inr or_hC_bN);replace a3:=hq;refine zn4 ?_;refine wl (r_mf rfl) (zn5 ?_);replace a2:=((a2.tr0 s3).tr1 s4 oG).tr1 s5 oG;replace ad:=ad.tr1 s5 oG;refine xj [16,17,18,19,20,21] 21 (.bool (decide (200<n+1\/40<d))) nu ?_ (fun gq=>?_)
 ·refine zn4 ?_;refine zk 18 rfl (fun g18=>?_) (fun g18=>?_)
  ·refine zn3 ?_;exact xq
  refine zn5 ?_;exact xq
 refine e_S ?_;refine zZ rfl (fun ao=>?_) (fun ao=>?_)
 ·refine zn3 ?_;refine yk rfl TW (Z6 b9 _ _ _ ad) rfl rfl (fun e' w6 hr=>?_);obtain⟨rfl,s6⟩:=hr;replace s6:=sB s6;replace hC:=hC.st s6 (by simp);refine⟨_,rfl,?_⟩;refine zV a2.u (fun w7 hq s7=>?_);replace hC:=hC.st s7 (fun g hg=>by rw[List.mem_singleton.1 hg];first|exact .inl rfl|exact .inr a1);replace a2:=hq;refine zn4 ?_;refine xK (.inl rfl) rfl (zX U45 rfl rfl a2.range0 zK) ?_;rw[twk_out ao];exact⟨rfl,hC,a3.u⟩
 refine Jq ?_;refine zZ rfl (fun b1=>?_) (fun b1=>?_)
 ·refine xQ (xQ ?_);refine xj (rg [] 30 9) 38 (.bool (decide (¬(t.index=0/\t.args.length=0)))) nu ?_ (fun gq=>?_)
  ·refine zn5 ?_;refine zk 33 rfl (fun c4=>?_) (fun c4=>?_)
   ·refine zn5 ?_;refine gk ?_
    first|exact ag (aj (by exact fun h=>c4 h.1)).symm|exact ag (am.2 (by exact⟨fun k h=>k (by have:=h.2;omega),fun k e=>k ⟨au.1 c4,by omega⟩⟩))
   refine zn9 ?_;refine gk ?_
   first|exact ag (aj (by exact fun h=>c4 h.1)).symm|exact ag (am.2 (by exact⟨fun k h=>k (by have:=h.2;omega),fun k e=>k ⟨au.1 c4,by omega⟩⟩))
  refine e_S ?_;refine zZ rfl (fun bh=>?_) (fun bh=>?_)
  ·have a4:ndC b t=5:=by unfold ndC;rw[if_pos b1,if_neg bh]
   refine zn3 ?_;refine yk rfl TW (Z6 b9 _ _ _ ad) rfl rfl (fun e' w8 hr=>?_);obtain⟨rfl,s8⟩:=hr;replace s8:=sB s8;replace hC:=hC.st s8 (by simp);refine⟨_,rfl,?_⟩;refine zV a2.u (fun w9 hq s9=>?_);replace hC:=hC.st s9 (fun g hg=>by rw[List.mem_singleton.1 hg];first|exact .inl rfl|exact .inr a1);replace a2:=hq;refine zn6 ?_;refine xK (.inl rfl) rfl (zX U45 rfl rfl a2.range0 zK) ?_;rw[Xx ao (show ndC b t=5 from a4) dE];exact⟨rfl,hC,a3.u⟩
  have bh:=au.1 bh;refine zn7 ?_;refine zW kR (EY _ _) rfl (fun e' w10 hr=>?_);obtain⟨rfl,rfl⟩:=hr;refine⟨_,rfl,?_⟩;refine zn3 ?_;refine jv rfl (fun bx=>?_) (fun bx=>?_)
  ·have a4:ndC b t=10:=by unfold ndC;rw[if_pos b1,if_pos bh,if_neg (by simpa using bx)]
   refine zn3 ?_;refine yk rfl TW (Z6 b9 _ _ _ ad) rfl rfl (fun e' w11 hr=>?_);obtain⟨rfl,co⟩:=hr;replace co:=sB co;replace hC:=hC.st co (by simp);refine⟨_,rfl,?_⟩;refine zV a2.u (fun w12 hq s11=>?_);replace hC:=hC.st s11 (fun g hg=>by rw[List.mem_singleton.1 hg];first|exact .inl rfl|exact .inr a1);replace a2:=hq;refine zn6 ?_;refine xK (.inl rfl) rfl (zX U45 rfl rfl a2.range0 zK) ?_;rw[Xx ao (show ndC b t=10 from a4) dE];exact⟨rfl,hC,a3.u⟩
  have bx:vY t.name=true:=by simpa using bx
  refine zn5 ?_;refine wl (qw U31 rfl rfl (bd.u.sub (n:=2) (xs:=[_,_]) rfl) vj) ?_;refine zW kR (simv_any A c t.type _ (hS.mono hB)) rfl (fun e' w13 hr=>?_);obtain⟨rfl,cn⟩:=hr;replace cn:=sB cn;replace hC:=hC.st cn (by simp);refine⟨_,rfl,?_⟩;refine wl (BY (v:= .int _ _) U45 rfl U3 rfl rfl rfl) (zn3 ?_);refine zZ rfl (fun c6=>?_) (fun c6=>?_)
  ·have a4:ndC b t=12:=by unfold ndC;rw[if_pos b1,if_pos bh,if_pos bx,if_neg c6]
   refine zn3 ?_;refine yk rfl TW (Z6 b9 _ _ _ ad.u) rfl rfl (fun e' w14 hr=>?_);obtain⟨rfl,cm⟩:=hr;replace cm:=sB cm;replace hC:=hC.st cm (by simp);refine⟨_,rfl,?_⟩;refine zV a2.u (fun w15 hq s14=>?_);replace hC:=hC.st s14 (fun g hg=>by rw[List.mem_singleton.1 hg];first|exact .inl rfl|exact .inr a1);replace a2:=hq;refine zn5 ?_;refine xK (.inl rfl) rfl (zX U45 rfl rfl a2.range0 zK) ?_;rw[Xx ao (show ndC b t=12 from a4) dE];exact⟨rfl,hC,a3.u⟩
  have c6:=au.1 c6;have a4:ndC b t=0:=by unfold ndC;rw[if_pos b1,if_pos bh,if_pos bx,if_pos c6]
  have cv:t.args= []:=aM.1 bh.2;refine zn5 ?_;refine jW (cs:=#[.int .i64 0,.int .i64 0]) ?_;refine zV a2.u (fun w16 hq s15=>?_);replace hC:=hC.st s15 (fun g hg=>by rw[List.mem_singleton.1 hg];first|exact .inl rfl|exact .inr a1);replace a2:=hq;refine zn3 ?_;refine xK (.inl rfl) rfl (zX U45 rfl rfl a2.range0 zK) ?_;rw[twk_nil ao a4 cv];exact⟨rfl,hC,a3.u⟩
 refine zn6 ?_;refine zZ rfl (fun be=>?_) (fun be=>?_)
 ·refine xQ (xQ ?_);refine xv (rg [] 56 15) (fun g w'=>(g 70= .bool (decide (¬(t.name=⟨#[]⟩/\My t.type/\t.args.length=0))))/\Same [] w5 w') ?_ (fun g16 w17 hI=>?_)
  ·have hZ:SameQ [] w5 w5:=Same.refl _ _;refine zn5 ?_;refine zk 59 rfl (fun bt=>?_) (fun bt=>?_)
   ·refine yZ ?_;refine e_R ⟨agA,?_⟩;refine⟨?_,hZ⟩
    first|exact ag (aj (by exact fun h=>bt h.1)).symm|exact ag (aj (by exact fun h=>br h.2.1)).symm|exact ag (am.2 (by exact⟨fun k h=>k (by have:=h.2.2;omega),fun k e=>k ⟨au.1 bt,au.1 br,by omega⟩⟩))
   refine zn3 ?_;refine wl (qw U31 rfl rfl (bd.u.sub (n:=2) (xs:=[_,_]) rfl) vj) (zn1 ?_);refine zW kR (none_any A c t.type _) rfl (fun e' w18 hr=>?_);obtain⟨rfl,c9⟩:=hr;replace c9:=sB c9;replace hC:=hC.st c9 (by simp);replace hZ:=SameQ.trans hZ c9 (by simp);refine⟨_,rfl,?_⟩;refine zn4 ?_;refine zk 65 rfl (fun br=>?_) (fun br=>?_)
   ·refine zn6 ?_;refine e_R ⟨agA,?_⟩;refine⟨?_,hZ⟩
    first|exact ag (aj (by exact fun h=>bt h.1)).symm|exact ag (aj (by exact fun h=>br h.2.1)).symm|exact ag (am.2 (by exact⟨fun k h=>k (by have:=h.2.2;omega),fun k e=>k ⟨au.1 bt,au.1 br,by omega⟩⟩))
   refine yj ?_;refine e_R ⟨agA,?_⟩;refine⟨?_,hZ⟩
   first|exact ag (aj (by exact fun h=>bt h.1)).symm|exact ag (aj (by exact fun h=>br h.2.1)).symm|exact ag (am.2 (by exact⟨fun k h=>k (by have:=h.2.2;omega),fun k e=>k ⟨au.1 bt,au.1 br,by omega⟩⟩))
  obtain⟨h70,ck⟩:=hI;replace hC:=hC.st ck (by simp);refine vZ 70 _ h70 nu (e_S ?_);refine zZ rfl (fun bv=>?_) (fun bv=>?_)
  ·have a4:ndC b t=5:=by unfold ndC;rw[if_neg b1,if_pos be,if_neg bv]
   refine zn3 ?_;refine yk rfl TW (Z6 b9 _ _ _ ad.u) rfl rfl (fun e' w19 hr=>?_);obtain⟨rfl,cj⟩:=hr;replace cj:=sB cj;replace hC:=hC.st cj (by simp);refine⟨_,rfl,?_⟩;refine zV a2.u (fun w20 hq s19=>?_);replace hC:=hC.st s19 (fun g hg=>by rw[List.mem_singleton.1 hg];first|exact .inl rfl|exact .inr a1);replace a2:=hq;refine zn6 ?_;refine xK (.inl rfl) rfl (zX U45 rfl rfl a2.range0 zK) ?_;rw[Xx ao (show ndC b t=5 from a4) dE];exact⟨rfl,hC,a3.u⟩
  have bv:=au.1 bv;refine zn3 ?_;replace a3:=a3.tr0 ck;replace a2:=a2.tr0 ck;refine xj (rg [] 73 9) 81 (.bool (decide (t.index<0\/(b:Int)<=t.index))) nu ?_ (fun gq=>?_)
  ·refine zn5 ?_;refine zk 76 rfl (fun g76=>?_) (fun g76=>?_)
   ·refine zn5 ?_;exact xq
   refine zn9 ?_;exact xq
  refine e_S ?_;refine zZ rfl (fun cy=>?_) (fun cy=>?_)
  ·have a4:ndC b t=15:=by unfold ndC;rw[if_neg b1,if_pos be,if_pos bv,if_pos cy]
   refine zn3 ?_;refine yk rfl TW (Z6 b9 _ _ _ ad.u) rfl rfl (fun e' w21 hr=>?_);obtain⟨rfl,cg⟩:=hr;replace cg:=sB cg;replace hC:=hC.st cg (by simp);refine⟨_,rfl,?_⟩;refine zV a2.u (fun w22 hq s21=>?_);replace hC:=hC.st s21 (fun g hg=>by rw[List.mem_singleton.1 hg];first|exact .inl rfl|exact .inr a1);replace a2:=hq;refine zn5 ?_;refine xK (.inl rfl) rfl (zX U45 rfl rfl a2.range0 zK) ?_;rw[Xx ao (show ndC b t=15 from a4) dE];exact⟨rfl,hC,a3.u⟩
  have a4:ndC b t=0:=by unfold ndC;rw[if_neg b1,if_pos be,if_pos bv,if_neg cy]
  have cv:t.args= []:=aM.1 bv.2.2;refine zn5 ?_;refine jW (cs:=#[.int .i64 0,.int .i64 0]) ?_;refine zV a2 (fun w23 hq s22=>?_);replace hC:=hC.st s22 (fun g hg=>by rw[List.mem_singleton.1 hg];first|exact .inl rfl|exact .inr a1);replace a2:=hq;refine zn3 ?_;refine xK (.inl rfl) rfl (zX U45 rfl rfl a2.range0 zK) ?_;rw[twk_nil ao a4 cv];exact⟨rfl,hC,a3.u⟩
 refine zn6 ?_;refine zZ rfl (fun bf=>?_) (fun bf=>?_)
 ·refine xQ (xQ ?_);refine xj (rg [] 86 14) 99 (.bool (decide (¬(t.name=⟨#[]⟩/\t.index=0/\t.args.length=1)))) nu ?_ (fun gq=>?_)
  ·refine zn5 ?_;refine zk 89 rfl (fun bo=>?_) (fun bo=>?_)
   ·refine yj ?_;refine gk ?_
    first|exact ag (aj (by exact fun h=>bo h.1)).symm|exact ag (aj (by exact fun h=>bn h.2.1)).symm|exact ag (am.2 (by exact⟨fun k h=>k (by have:=h.2.2;omega),fun k e=>k ⟨au.1 bo,au.1 bn,by omega⟩⟩))
   refine zn8 ?_;refine zk 94 rfl (fun bn=>?_) (fun bn=>?_)
   ·refine zn5 ?_;refine gk ?_
    first|exact ag (aj (by exact fun h=>bo h.1)).symm|exact ag (aj (by exact fun h=>bn h.2.1)).symm|exact ag (am.2 (by exact⟨fun k h=>k (by have:=h.2.2;omega),fun k e=>k ⟨au.1 bo,au.1 bn,by omega⟩⟩))
   refine zn9 ?_;refine gk ?_
   first|exact ag (aj (by exact fun h=>bo h.1)).symm|exact ag (aj (by exact fun h=>bn h.2.1)).symm|exact ag (am.2 (by exact⟨fun k h=>k (by have:=h.2.2;omega),fun k e=>k ⟨au.1 bo,au.1 bn,by omega⟩⟩))
  refine e_S ?_;refine zZ rfl (fun bu=>?_) (fun bu=>?_)
  ·have a4:ndC b t=5:=by unfold ndC;rw[if_neg b1,if_neg be,if_pos bf,if_neg bu]
   refine zn3 ?_;refine yk rfl TW (Z6 b9 _ _ _ ad) rfl rfl (fun e' w24 hr=>?_);obtain⟨rfl,cf⟩:=hr;replace cf:=sB cf;replace hC:=hC.st cf (by simp);refine⟨_,rfl,?_⟩;refine zV a2.u (fun w25 hq s24=>?_);replace hC:=hC.st s24 (fun g hg=>by rw[List.mem_singleton.1 hg];first|exact .inl rfl|exact .inr a1);replace a2:=hq;refine zn6 ?_;refine xK (.inl rfl) rfl (zX U45 rfl rfl a2.range0 zK) ?_;rw[Xx ao (show ndC b t=5 from a4) dE];exact⟨rfl,hC,a3.u⟩
  have bu:=au.1 bu;have ac:0<t.args.length:=by omega
  refine zn6 ?_;refine wl (qw U31 rfl rfl (bd.u.sub (n:=2) (xs:=[_,_]) rfl) vj) ?_;refine zW kR (simv_any A c t.type _ (hS.mono hB)) rfl (fun e' w26 hr=>?_);obtain⟨rfl,c8⟩:=hr;replace c8:=sB c8;replace hC:=hC.st c8 (by simp);refine⟨_,rfl,?_⟩;refine wl (BY (v:= .int _ _) U45 rfl U3 rfl rfl rfl) (zn3 ?_);refine zZ rfl (fun bb=>?_) (fun bb=>?_)
  ·have a4:ndC b t=12:=by unfold ndC;rw[if_neg b1,if_neg be,if_pos bf,if_pos bu,if_neg bb]
   refine zn3 ?_;refine yk rfl TW (Z6 b9 _ _ _ ad.u) rfl rfl (fun e' w27 hr=>?_);obtain⟨rfl,ce⟩:=hr;replace ce:=sB ce;replace hC:=hC.st ce (by simp);refine⟨_,rfl,?_⟩;refine zV a2.u (fun w28 hq s27=>?_);replace hC:=hC.st s27 (fun g hg=>by rw[List.mem_singleton.1 hg];first|exact .inl rfl|exact .inr a1);replace a2:=hq;refine zn6 ?_;refine xK (.inl rfl) rfl (zX U45 rfl rfl a2.range0 zK) ?_;rw[Xx ao (show ndC b t=12 from a4) dE];exact⟨rfl,hC,a3.u⟩
  have bb:=au.1 bb;have a4:ndC b t=0:=by unfold ndC;rw[if_neg b1,if_neg be,if_pos bf,if_pos bu,if_pos bb]
  obtain⟨tb,to,A0,c0,B0,m0,rfl,htb,htr,cr,cq⟩:=hT.at_ ac;have bw:=twk_one ao a4 (by rw[inB,if_pos bf]:inB t b=b+1) bu.2.2 ac;refine zn3 ?_;refine Qz 9 kR kR (fun w29 s28=>?_);replace hC:=hC.st s28 (by simp);refine zn3 ?_;refine ws (x7 (i:=0) U32 X7 rfl rfl ac rfl) (zn5 ?_);refine Q4 ?_;refine yk rfl kR (IH (t.args[0]'ac) (aq ac) A0 B0 c0 m0 (d+1) (b+1) (n+1) _ cr cq oG oG oG hB.u a3.u bc.u) rfl rfl (fun e' w30 hr=>?_);obtain⟨rfl,bm,bk⟩:=hr;replace hC:=hC.trans bm (fun g hg=> .inl hg);replace a2:=a2.tr0 (c8.t s28);replace a2:=a2.chG bm (fun hx=>by have hx:b8=bN:=hx;omega);replace a3:=bk;refine⟨_,rfl,?_⟩;refine zV a2 (fun w31 hq s29=>?_);replace hC:=hC.st s29 (fun g hg=>by rw[List.mem_singleton.1 hg];first|exact .inl rfl|exact .inr a1);replace a2:=hq;refine zn5 ?_;refine xK (.inl rfl) rfl (zX U45 rfl rfl a2.range0 zK) ?_;rw[bw];exact⟨rfl,hC,a3.u⟩
 refine zn6 ?_;refine zZ rfl (fun bg=>?_) (fun bg=>?_)
 ·refine xQ (xQ ?_);refine xv (rg [] 121 20) (fun g w'=>(g 140= .bool (decide (¬(t.name=⟨#[]⟩/\t.index=0/\My t.type/\t.args.length=2))))/\Same [] w5 w') ?_ (fun g27 w32 hI=>?_)
  ·have hZ:SameQ [] w5 w5:=Same.refl _ _;refine zn5 ?_;refine zk 124 rfl (fun ab=>?_) (fun ab=>?_)
   ·refine Nk ?_;refine e_R ⟨agA,?_⟩;refine⟨?_,hZ⟩
    first|exact ag (aj (by exact fun h=>ab h.1)).symm|exact ag (aj (by exact fun h=>a9 h.2.1)).symm|exact ag (aj (by exact fun h=>a8 h.2.2.1)).symm|exact ag (am.2 (by exact⟨fun k h=>k (by have:=h.2.2.2;omega),fun k e=>k ⟨au.1 ab,au.1 a9,au.1 a8,by omega⟩⟩))
   refine zn8 ?_;refine zk 129 rfl (fun a9=>?_) (fun a9=>?_)
   ·refine yZ ?_;refine e_R ⟨agA,?_⟩;refine⟨?_,hZ⟩
    first|exact ag (aj (by exact fun h=>ab h.1)).symm|exact ag (aj (by exact fun h=>a9 h.2.1)).symm|exact ag (aj (by exact fun h=>a8 h.2.2.1)).symm|exact ag (am.2 (by exact⟨fun k h=>k (by have:=h.2.2.2;omega),fun k e=>k ⟨au.1 ab,au.1 a9,au.1 a8,by omega⟩⟩))
   refine zn3 ?_;refine wl (qw U31 rfl rfl (bd.u.sub (n:=2) (xs:=[_,_]) rfl) vj) (zn1 ?_);refine zW kR (none_any A c t.type _) rfl (fun e' w33 hr=>?_);obtain⟨rfl,c7⟩:=hr;replace c7:=sB c7;replace hC:=hC.st c7 (by simp);replace hZ:=SameQ.trans hZ c7 (by simp);refine⟨_,rfl,?_⟩;refine zn4 ?_;refine zk 135 rfl (fun a8=>?_) (fun a8=>?_)
   ·refine zn6 ?_;refine e_R ⟨agA,?_⟩;refine⟨?_,hZ⟩
    first|exact ag (aj (by exact fun h=>ab h.1)).symm|exact ag (aj (by exact fun h=>a9 h.2.1)).symm|exact ag (aj (by exact fun h=>a8 h.2.2.1)).symm|exact ag (am.2 (by exact⟨fun k h=>k (by have:=h.2.2.2;omega),fun k e=>k ⟨au.1 ab,au.1 a9,au.1 a8,by omega⟩⟩))
   refine yj ?_;refine e_R ⟨agA,?_⟩;refine⟨?_,hZ⟩
   first|exact ag (aj (by exact fun h=>ab h.1)).symm|exact ag (aj (by exact fun h=>a9 h.2.1)).symm|exact ag (aj (by exact fun h=>a8 h.2.2.1)).symm|exact ag (am.2 (by exact⟨fun k h=>k (by have:=h.2.2.2;omega),fun k e=>k ⟨au.1 ab,au.1 a9,au.1 a8,by omega⟩⟩))
  obtain⟨cx,bi⟩:=hI;replace hC:=hC.st bi (by simp);refine vZ 140 _ cx nu (e_S ?_);refine zZ rfl (fun b6=>?_) (fun b6=>?_)
  ·have a4:ndC b t=5:=by unfold ndC;rw[if_neg b1,if_neg be,if_neg bf,if_pos bg,if_neg b6]
   refine zn3 ?_;refine yk rfl TW (Z6 b9 _ _ _ ad.u) rfl rfl (fun e' w34 hr=>?_);obtain⟨rfl,cd⟩:=hr;replace cd:=sB cd;replace hC:=hC.st cd (by simp);refine⟨_,rfl,?_⟩;refine zV a2.u (fun w35 hq s33=>?_);replace hC:=hC.st s33 (fun g hg=>by rw[List.mem_singleton.1 hg];first|exact .inl rfl|exact .inr a1);replace a2:=hq;refine zn6 ?_;refine xK (.inl rfl) rfl (zX U45 rfl rfl a2.range0 zK) ?_;rw[Xx ao (show ndC b t=5 from a4) dE];exact⟨rfl,hC,a3.u⟩
  have b6:=au.1 b6;have ac:0<t.args.length:=by omega
  have c3:1<t.args.length:=by omega
  have a4:ndC b t=0:=by unfold ndC;rw[if_neg b1,if_neg be,if_neg bf,if_pos bg,if_pos b6]
  obtain⟨tb,to,A0,c0,B0,m0,rfl,htb,htr,cr,cq⟩:=hT.at_ ac;obtain⟨_,_,A1,c1,B1,m1,e1,_,htr1,ks1,kt1⟩:=hT.at_ c3;cases e1;have bw:=twk_two ao a4 (by rw[inB,if_neg bf]:inB t b=b) b6.2.2.2 ac c3;refine zn4 ?_;replace a3:=a3.tr0 bi;have ltNW:=a3.lt;replace hB:=hB.tr0 bi;have cu:=Bel.size hB;replace bd:=(((bd.tr0 (s2.t s3)).tr1 s4 oG).tr1 s5 oG).tr0 bi;have lt5W:=bd.lt;replace a2:=a2.tr0 bi;have lt8W:=a2.lt;replace ad:=ad.tr0 bi;have lt9W:=ad.lt;replace bc:=(((bc.tr0 (s1.t (s2.t s3))).tr1 s4 oG).tr1 s5 oG).tr0 bi;have ltVW:=bc.lt;have szCW:=hC.size;refine J9 10 [143,144,145,146,147,148,149,150,151,11] [bN] 8 (fun ix v wv=>match ix with|0=>v= .func (.func 75) #[] (cL bN bV)|1=>v= .pointer (some ⟨b5,0+5,none⟩)|2=>v= .slice (some ⟨tb,to,none⟩) t.args.length m|3=>v= .pointer (some ⟨tb,to+0*6,none⟩)|4=>v= .agg (cD ((t.args[0]'ac)) A0 c0 B0 m0)|5=>v= .int .i64 d|6=>v= .int .i64 ((d:Nat)+1:Int)|7=>v= .int .i64 b|8=>v= .agg #[.int .i64 (twk (t.args[0]'ac) (d+1) b (n+1)).2.1,.int .i64 (twk (t.args[0]'ac) (d+1) b (n+1)).2.2]|9=>∃ bq,v= .pointer (some ⟨bq,0,none⟩)/\w32.heap.size<=bq/\Blk wv bq 45 #[.int .i64 0,.int .i64 0]|_=>True) (fun wq=>Blk wq bN 3 #[.int .i64 (((twk (t.args[0]'ac) (d+1) b (n+1)).1:Nat):Int)]) kR kR ?_ (fun _ _ h hs=>Blk.tr0 h hs) ?_ ?_ dE ?_
  ·intro ix v wv wv2 h s34
   match ix,h with
   | 0,h=>exact h
   | 1,h=>exact h
   | 2,h=>exact h
   | 3,h=>exact h
   | 4,h=>exact h
   | 5,h=>exact h
   | 6,h=>exact h
   | 7,h=>exact h
   | 8,h=>exact h
   | 9,h=>
    obtain⟨bz,c5,ba,an⟩:=h;exact⟨bz,c5,ba,an.tr0 s34⟩
   | _+10,h=>exact trivial
  ·intro ix o hix bj a5 gg wx s35 hd
   match ix,hix,bj,a5 with
   | 0,_,_,a5=>
    cases sI a5;refine qk (qj (v:= .func _ _ _) underlying135 rfl rfl (bc.u.cell rfl)) ⟨Same.refl _ _,?_⟩;exact rfl
   | 1,_,_,a5=>
    cases sI a5;refine qk (jX U34 sz32 dE rfl rfl rfl) ⟨Same.refl _ _,?_⟩;exact rfl
   | 2,_,_,a5=>
    cases sI a5;refine aZ 144 (hd 1 a6) ?_;refine qk (qj (v:= .slice _ _ _) U32 rfl rfl (bd.u.cell rfl)) ⟨Same.refl _ _,?_⟩;exact rfl
   | 3,_,_,a5=>
    cases sI a5;refine aZ 145 (hd 2 a6) ?_;refine qk (x7 (i:=0) U32 X7 rfl rfl ac rfl) ⟨Same.refl _ _,?_⟩;exact rfl
   | 4,_,_,a5=>
    cases sI a5;replace hB:=hB.tr1 s35 cp;refine aZ 146 (hd 3 a6) ?_;refine qk (qw U34 rfl rfl (hB.range htb htr) X7) ⟨Same.refl _ _,?_⟩;exact rfl
   | 5,_,_,a5=>
    cases sI a5;refine qk (x6 (v:= .int _ _) rfl) ⟨Same.refl _ _,?_⟩;exact rfl
   | 6,_,_,a5=>
    cases sI a5;refine aZ 148 (hd 5 a6) ?_;refine qk (uW rfl rfl rfl oG) ⟨Same.refl _ _,?_⟩;exact rfl
   | 7,_,_,a5=>
    cases sI a5;refine qk (x6 (v:= .int _ _) rfl) ⟨Same.refl _ _,?_⟩;exact rfl
   | 8,_,bj,_=>exact absurd rfl bj
   | 9,_,_,a5=>
    cases sI a5;have hs0:=s35;refine jq (fun ops Q K=>?_);refine qQ (cs:=#[.int .i64 0,.int .i64 0]) qV rfl (fun bz w36 an s36 hr=>?_);exact K _ _ ⟨s36,⟨_,rfl,nLT hs0.size hr,an⟩⟩
   | _+10,hix,_,_=>exact absurd hix oG
  ·intro o a5 gg wx s37 hd;cases sI a5;replace hC:=hC.st s37 (by simp);refine aZ 143 (hd 0 a6) (aZ 147 (hd 4 a6) (aZ 149 (hd 6 a6) (aZ 150 (hd 7 a6) ?_)));refine jq (fun ops Q K=>?_);refine yk rfl kR (IH (t.args[0]'ac) (aq ac) A0 B0 c0 m0 (d+1) b (n+1) _ cr cq oG oG oG hB.u a3.u bc.u) rfl rfl (fun e' w2 hr=>?_);obtain⟨rfl,bm,cw⟩:=hr;have hs2:=bm.one;refine⟨_,rfl,K _ _ ⟨hs2,rfl,cw,fun kx v bj h=>?_⟩⟩
   match kx,bj,h with
   | 0,_,h=>exact h
   | 1,_,h=>exact h
   | 2,_,h=>exact h
   | 3,_,h=>exact h
   | 4,_,h=>exact h
   | 5,_,h=>exact h
   | 6,_,h=>exact h
   | 7,_,h=>exact h
   | 8,bj,_=>exact absurd rfl bj
   | 9,_,h=>
    obtain⟨bz,c5,ba,an⟩:=h;exact⟨bz,c5,ba,an.tr1 hs2 oG⟩
   | _+10,_,_=>exact trivial
  intro gg w37 cc cw hR;replace hB:=hB.tr1 cc cp;replace hC:=hC.st cc (fun g hg=>by rw[List.mem_singleton.1 hg];first|exact .inl rfl|exact .inr or_hC_bN);replace a3:=cw;obtain⟨bz,c5,ba,an⟩:=hR 9 dE;have b3:w.heap.size<=bz:=by omega
  refine x8 151 _ (hR 8 dE) nu (x8 11 _ c5 nu ?_);refine zV an (fun w38 hq cb=>?_);replace hB:=hB.tr1 cb (nLT cu ba);replace hC:=hC.st cb (fun g hg=>by rw[List.mem_singleton.1 hg];first|exact .inl rfl|exact .inr b3);replace an:=hq;refine zn9 ?_;refine zZ rfl (fun b4=>?_) (fun b4=>?_)
  ·rw[if_neg b4]at bw;refine zn3 ?_;refine zV a2.u (fun w39 hq s40=>?_);replace hC:=hC.st s40 (fun g hg=>by rw[List.mem_singleton.1 hg];first|exact .inl rfl|exact .inr a1);replace a2:=hq;refine zn6 ?_;refine xK (.inl rfl) rfl (zX U45 rfl rfl a2.range0 zK) ?_;rw[bw];exact⟨rfl,hC,a3.u⟩
  have b4:(twk (t.args[0]'ac) (d+1) b (n+1)).2.1=0:=au.1 b4;rw[if_pos b4]at bw;obtain⟨_,_,_,q1,q2⟩:=OV _ _ _ _ b4;have hn3:(twk (t.args[0]'ac) (d+1) b (n+1)).1<=200:=by rw[q1];exact q2
  refine zn3 ?_;refine Qz 8 kR kR (fun w40 s41=>?_);replace hC:=hC.st s41 (by simp);refine zn3 ?_;refine ws (x7 (i:=1) U32 X7 rfl rfl c3 rfl) (zn4 ?_);refine Q4 ?_;refine yk rfl kR (IH (t.args[1]'c3) (aq c3) A1 B1 c1 m1 (d+1) (b) ((twk (t.args[0]'ac) (d+1) b (n+1)).1) _ ks1 kt1 hn3 oG oG hB.u a3.u bc.u) rfl rfl (fun e' w41 hr=>?_);obtain⟨rfl,bm,bk⟩:=hr;replace hC:=hC.trans bm (fun g hg=> .inl hg);replace a2:=((a2.tr1 cc oG).tr1 cb oG).tr0 s41;replace a2:=a2.chG bm (fun hx=>by have hx:b8=bN:=hx;omega);replace a3:=bk;refine⟨_,rfl,?_⟩;refine zV a2 (fun w42 hq s42=>?_);replace hC:=hC.st s42 (fun g hg=>by rw[List.mem_singleton.1 hg];first|exact .inl rfl|exact .inr a1);replace a2:=hq;refine zn5 ?_;refine xK (.inl rfl) rfl (zX U45 rfl rfl a2.range0 zK) ?_;rw[bw];exact⟨rfl,hC,a3.u⟩
 have a4:ndC b t=4:=by unfold ndC;rw[if_neg b1,if_neg be,if_neg bf,if_neg bg]
 refine zn3 ?_;refine yk rfl TW (Z6 b9 _ _ _ ad) rfl rfl (fun e' w43 hr=>?_);obtain⟨rfl,ca⟩:=hr;replace ca:=sB ca;replace hC:=hC.st ca (by simp);refine⟨_,rfl,?_⟩;refine zV a2.u (fun w44 hq s44=>?_);replace hC:=hC.st s44 (fun g hg=>by rw[List.mem_singleton.1 hg];first|exact .inl rfl|exact .inr a1);replace a2:=hq;refine zn5 ?_;refine xK (.inl rfl) rfl (zX U45 rfl rfl a2.range0 zK) ?_;rw[Xx ao (show ndC b t=4 from a4) dE];exact⟨rfl,hC,a3.u⟩
theorem twk_anyK(l0N:w0.heap.size<=bN)(a1:w0.heap.size<=bV)(nVN:bV≠bN):∀(k:Nat) (t:Tm),SizeOf.sizeOf t<k->∀(A B:Option Addr) (c m d b n:Nat) (w:World),SimsIn w0 A t.type.args->TmsIn w0 B t.args->n<=200->d<=41->b<=d->Bel w0 w->Blk w bN 3 #[.int .i64 ((n:Nat):Int)]->Blk w bV 135 #[.func (.func 75) #[] (cL bN bV)]->Calls prog 75 #[.agg (cD (t) A c B m),.int .i64 ((d:Nat):Int),.int .i64 ((b:Nat):Int),.pointer (some ⟨bN,0,none⟩),.pointer (some ⟨bV,0,none⟩)] w fun e w'=>e= .returned (flV (twk t d b n).2)/\ChG (fun g=>g=bN) w w'/\Blk w' bN 3 #[.int .i64 (((twk t d b n).1:Nat):Int)]:=by
 intro k
 induction k with
 | zero=>intro t h;omega
 | succ k ih=>
  intro t h A B c m d b n w hS hT hn hd hbd hB hbN hbV;refine twk_step l0N a1 nVN hS hT (fun x hx A2 B2 c2 m2 d2 b2 n2 w2 h1 h2 h3 h4 h5 h6 h7 h8=>ih x ?_ A2 B2 c2 m2 d2 b2 n2 w2 h1 h2 h3 h4 h5 h6 h7 h8) hn hd hbd hB hbN hbV;have:=List.sizeOf_lt_of_mem hx;cases t with
  | mk k nm i s l=>simp only[Tm.mk.sizeOf_spec,Tm.args]at h this;omega
theorem twk_any(l0N:w0.heap.size<=bN)(a1:w0.heap.size<=bV)(nVN:bV≠bN)(t:Tm)(A B:Option Addr)(c m d b n:Nat)(w:World):SimsIn w0 A t.type.args->TmsIn w0 B t.args->n<=200->d<=41->b<=d->Bel w0 w->Blk w bN 3 #[.int .i64 ((n:Nat):Int)]->Blk w bV 135 #[.func (.func 75) #[] (cL bN bV)]->Calls prog 75 #[.agg (cD (t) A c B m),.int .i64 ((d:Nat):Int),.int .i64 ((b:Nat):Int),.pointer (some ⟨bN,0,none⟩),.pointer (some ⟨bV,0,none⟩)] w fun e w'=>e= .returned (flV (twk t d b n).2)/\ChG (fun g=>g=bN) w w'/\Blk w' bN 3 #[.int .i64 (((twk t d b n).1:Nat):Int)]:=twk_anyK l0N a1 nVN (SizeOf.sizeOf t+1) t (aH _) A B c m d b n w
end Go.Proofs.YtndbjnkilegebaaGreatDoor
