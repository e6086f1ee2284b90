/- What these functions compute, at every world: simple.Validate$1, term.none, simple.Same, simple.Validate, term.Validate$1$1, term.Validate$1; and plain laws. -/
import Derived.Test.YtmfiholmfieieaaDoorTxt
import Derived.Test.YtmfiholmfieieaaDoorZst
import Derived.Test.YtmfiholmfieieaaDoorGro
import Derived.ArgAppend
import Derived.Test.YtmfiholmfieieaaDoorU
namespace Go.Proofs.YtmfiholmfieieaaDoor
open Go.RowKit
variable {A:Option Addr}{b bN bV c d m n o:Nat}{l:List Sm}{t:Tm}{vs:List Value}{w w0:World}
theorem Blk.sub{t:Nat}{cs:Array Value}{xs:List Value}(h:Blk w b t cs)(hx:(cs.toList.drop o).take n=xs):w.rangeAt b o xs:=h.range (fun j v hj=>by
 subst hx
 rw[List.getElem?_take]at hj
 split at hj
 ·rw[List.getElem?_drop]at hj
  simpa using hj
 ·cases hj)
inductive StkS(w:World):List (Sm×Nat)->List Value->Prop
 | nil:StkS w [] []
 | snoc {l:List (Sm×Nat)} {vs:List Value} {s:Sm} {d:Nat} {A:Option Addr} {c:Nat} (h:StkS w l vs) (hs:SimsIn w A s.args):StkS w (l++[(s,d)]) (vs++[.string s.base,.slice A s.args.length c,.int .i64 d])
theorem StkS.len{l:List (Sm×Nat)}(h:StkS w l vs):vs.length=l.length*3:=by
 induction h with
 | nil=>rfl
 | snoc h hs ih=>simp only[List.length_append,ih,List.length_cons,List.length_nil];omega
theorem StkS.pop{l:List (Sm×Nat)}(h:StkS w l vs)(hl:0<l.length):∃ l' vs' s d A c,l=l'++[(s,d)]/\vs=vs'++[.string s.base,.slice A s.args.length c,.int .i64 (d:Nat)]/\StkS w l' vs'/\SimsIn w A s.args:=by
 cases h with
 | nil=>simp at hl
 | snoc h hs=>exact⟨_,_,_,_,_,_,rfl,rfl,h,hs⟩
inductive StkT(w:World):List (Tm×Nat×Nat)->List Value->Prop
 | nil:StkT w [] []
 | snoc {l:List (Tm×Nat×Nat)} {vs:List Value} {t:Tm} {d b:Nat} {A B:Option Addr} {c m:Nat} (h:StkT w l vs) (hs:SimsIn w A t.type.args) (ht:TmsIn w B t.args):StkT w (l++[(t,d,b)]) (vs++[.int .i64 t.kind,.string t.name,.int .i64 t.index,.string t.type.base,.slice A t.type.args.length c,.slice B t.args.length m,.int .i64 d,.int .i64 b])
theorem StkT.len{l:List (Tm×Nat×Nat)}(h:StkT w l vs):vs.length=l.length*8:=by
 induction h with
 | nil=>rfl
 | snoc h hs ht ih=>simp only[List.length_append,ih,List.length_cons,List.length_nil];omega
theorem StkT.pop{l:List (Tm×Nat×Nat)}(h:StkT w l vs)(hl:0<l.length):∃ l' vs' t d b A B c m,l=l'++[(t,d,b)]/\vs=vs'++[.int .i64 t.kind,.string t.name,.int .i64 t.index,.string t.type.base,.slice A t.type.args.length c,.slice B t.args.length m,.int .i64 (d:Nat),.int .i64 (b:Nat)]/\StkT w l' vs'/\SimsIn w A t.type.args/\TmsIn w B t.args:=by
 cases h with
 | nil=>simp at hl
 | snoc h hs ht=>exact⟨_,_,_,_,_,_,_,_,_,rfl,rfl,h,hs,ht⟩
theorem Ts.kids_len(τ:Ts):τ.sm.args.length<=2:=by cases τ<;>simp[Ts.sm,Sm.args]
def Ts.kids:Ts->List Ts
 | .b _=>[]
 | .f x y=>[x,y]
theorem Ts.kids_sm(τ:Ts):τ.sm.args=τ.kids.map Ts.sm:=by cases τ<;>rfl
theorem Ts.kids_lt{τ x:Ts}(h:x∈τ.kids):x.size<τ.size:=by
 cases τ with
 | b t=>cases h
 | f a b=>
  simp only[Ts.kids,List.mem_cons,List.not_mem_nil,or_false]at h;rcases h with rfl|rfl<;>simp only[Ts.size]<;>omega
theorem Ts.ext{a b:Ts}(hb:a.sm.base=b.sm.base)(hk:a.kids=b.kids):a=b:=by
 cases a with
 | b s=>cases b with
  | b t=>cases s<;>cases t<;>first|rfl|(exfalso;revert hb;simp[Ts.sm,Sm.base,smE,smT])
  | f x y=>cases hk
 | f x y=>cases b with
  | b t=>cases hk
  | f u v=>simp only[Ts.kids,List.cons.injEq,and_true]at hk;rw[hk.1,hk.2]
theorem Fk{τ:Ts}(h:SimsIn w A τ.sm.args){k:Nat}(hk:k<τ.kids.length):∃ b o A' c,A=some ⟨b,o,none⟩/\b<w.heap.size/\w.rangeAt b (o+k*2) [Value.string (τ.kids[k]).sm.base,.slice A' (τ.kids[k]).sm.args.length c]/\SimsIn w A' (τ.kids[k]).sm.args:=by
 obtain⟨b,o,A',c,h1,h2,h3,h4⟩:=h.at_ (k:=k) (by rw[Ts.kids_sm,List.length_map];exact hk);have e:τ.sm.args[k]'(by rw[Ts.kids_sm,List.length_map];exact hk)=(τ.kids[k]).sm:=by simp only[Ts.kids_sm,List.getElem_map]
 rw[e]at h3 h4;exact⟨b,o,A',c,h1,h2,h3,h4⟩
theorem take_kid{a b:List Ts}{j:Nat}(h:a.take j=b.take j)(ha:j<a.length)(hb:j<b.length)(e:a[j]=b[j]):a.take (j+1)=b.take (j+1):=by
 rw[List.take_succ_eq_append_getElem ha,List.take_succ_eq_append_getElem hb,h,e]
section
abbrev cI(a:Nat)(b:Nat):Array Value:=#[.pointer (some ⟨a,0,none⟩),.pointer (some ⟨b,0,none⟩)]
section ok
variable {b:ByteArray} {l:List Sm}
theorem okA(h:b=smE\/b=smT)(k:((l.length:Nat):Int)=0):Oj (.mk b l):= .inl ⟨h,by show l.length=0;omega⟩
theorem okB1(h:b=smE\/b=smT)(k:¬((l.length:Nat):Int)=0):¬Oj (.mk b l):=by
 rintro (⟨_,h2⟩|⟨h2,_⟩)
 ·exact k (by have:l.length=0:=h2;omega)
 ·have h2:b=⟨#[]⟩:=h2
  rcases h with h|h<;>exact absurd (h.symm.trans h2) dE
theorem okB2(h:¬(b=smE\/b=smT))(k:¬b=⟨#[]⟩):¬Oj (.mk b l):=by
 rintro (⟨h2,_⟩|⟨h2,_⟩)
 ·exact h h2
 ·exact k h2
theorem okX(h:b=smE\/b=smT)(k:b=⟨#[]⟩):False:=by rcases h with h|h<;>exact absurd (h.symm.trans k) dE
theorem okD(h:¬(b=smE\/b=smT))(k:b=⟨#[]⟩):decide (¬((l.length:Nat):Int)=2)=decide (¬Oj (.mk b l)):=by
 refine ai.2 (not_congr ⟨fun e=> .inr ⟨k,by show l.length=2;omega⟩,fun e=>?_⟩);rcases e with ⟨h2,_⟩|⟨_,h2⟩
 ·exact absurd h2 h
 ·have:l.length=2:=h2
  omega
end ok
theorem gW:(Tryd.prog.info? 61).map (·.size)=some 2:=by kernel_rfl
theorem Rz:(Tryd.prog.info? 61).map (·.zero)=some (some (.agg #[.string ⟨#[]⟩,.slice none 0 0])):=by kernel_rfl
set_option maxRecDepth 100000 in
set_option maxHeartbeats 2000000 in
theorem swk_step(l0N:w0.heap.size<=bN)(_l0V:w0.heap.size<=bV)(nVN:bV≠bN){base:ByteArray}{args:List Sm}(hS:SimsIn w0 A args)(IH:∀ x∈args,∀(A2:Option Addr) (c2 d2 n2:Nat) (w2:World),SimsIn w0 A2 x.args->n2<=200->d2<=41->Bel w0 w2->Blk w2 bN 3 #[.int .i64 ((n2:Nat):Int)]->Blk w2 bV 166 #[.func (.func 97) #[] (cI bN bV)]->Calls Tryd.prog 97 #[.agg #[.string x.base,.slice A2 x.args.length c2],.int .i64 ((d2:Nat):Int),.pointer (some ⟨bN,0,none⟩),.pointer (some ⟨bV,0,none⟩)] w2 fun e w'=>e= .returned (.int .i64 (swk x d2 n2).2)/\ChG (fun g=>g=bN) w2 w'/\Blk w' bN 3 #[.int .i64 (((swk x d2 n2).1:Nat):Int)])(hn:n<=200)(hd:d<=41)(hB:Bel w0 w)(a3:Blk w bN 3 #[.int .i64 ((n:Nat):Int)])(a5:Blk w bV 166 #[.func (.func 97) #[] (cI bN bV)]):Calls Tryd.prog 97 #[.agg #[.string base,.slice A args.length c],.int .i64 ((d:Nat):Int),.pointer (some ⟨bN,0,none⟩),.pointer (some ⟨bV,0,none⟩)] w fun e w'=>e= .returned (.int .i64 (swk (.mk base args) d n).2)/\ChG (fun g=>g=bN) w w'/\Blk w' bN 3 #[.int .i64 (((swk (.mk base args) d n).1:Nat):Int)]:=by
 have hmx:=hS.le;unfold vJ at hmx;have ltN:=a3.lt;have ltV:=a5.lt;have hC:ChG (fun g=>g=bN) w w:=ChG.refl _ _;refine enter Tryd.func97 Tryd.ntmps97 rfl (aE rfl) (zn2 ?_);refine qZ (cs:=#[_,_]) rfl (fun b4 w1 hb4 s1 hr=>?_);have:=a3.ob hr;have:=a5.ob hr;replace hC:=hC.st s1 (by simp);refine zn7 ?_;replace a3:=a3.tr0 s1;refine xj (v:= .int _ _) a3 rfl rfl x8 (by first|decide|simp) rfl rfl (fun w2 hq s2=>?_);replace hB:=hB.u.tr1 s2 l0N;replace hC:=hC.st s2 (fun g hg=>by rw[List.mem_singleton.1 hg];first|exact .inl rfl|exact .inr or_hC_bN);replace a3:=hq;refine zn4 ?_;refine yy [13,14,15,16,17,18] 18 (.bool (decide (200<n+1\/40<d))) nu ?_ (fun gq=>?_)
 ·refine zn4 ?_;refine zQ 15 rfl (fun g15=>?_) (fun g15=>?_)
  ·refine zn3 ?_;exact vx
  refine zn5 ?_;exact vx
 refine e_S ?_;refine zK rfl (fun ab=>?_) (fun ab=>?_)
 ·refine zn8 ?_;have e:swk (.mk base args) d n=(n+1,1):=by rw[Lq,if_pos ab]
  rw[e];exact⟨rfl,hC,a3⟩
 refine zn3 ?_;refine yy (rgq [7] 19 8) 7 (.bool (decide (base=smE\/base=smT))) nu ?_ (fun gq=>?_)
 ·refine zn5 ?_;refine zQ 22 rfl (fun a9=>?_) (fun a9=>?_)
  ·refine zn5 ?_;refine kv ?_
   first|exact ac (ah (Or.inl a9)).symm|exact ac (ai.2 ⟨Or.inr,fun h=>h.resolve_left a9⟩)
  refine zn8 ?_;refine kv ?_
  first|exact ac (ah (Or.inl a9)).symm|exact ac (ai.2 ⟨Or.inr,fun h=>h.resolve_left a9⟩)
 refine zn3 ?_;refine yy (rgq [] 27 19) 45 (.bool (decide (¬Oj (.mk base args)))) nu ?_ (fun gq=>?_)
 ·refine zn3 ?_;refine zQ 28 rfl (fun a1=>?_) (fun a1=>?_)
  ·refine jZ ?_;refine zQ 34 rfl (fun a6=>?_) (fun a6=>?_)
   ·refine gX ?_;refine kv ?_
    first|exact(okX a1 a2).elim|exact ac (ag (fun h=>h (okA a1 a6))).symm|exact ac (ah (okB1 a1 a6)).symm|exact ac (ah (okB2 a1 a2)).symm|exact ac (okD a1 a2)
   refine zn8 ?_;refine zQ 38 rfl (fun a2=>?_) (fun a2=>?_)
   ·refine jJ ?_;refine kv ?_
    first|exact(okX a1 a2).elim|exact ac (ag (fun h=>h (okA a1 a6))).symm|exact ac (ah (okB1 a1 a6)).symm|exact ac (ah (okB2 a1 a2)).symm|exact ac (okD a1 a2)
   refine zn8 ?_;refine kv ?_
   first|exact(okX a1 a2).elim|exact ac (ag (fun h=>h (okA a1 a6))).symm|exact ac (ah (okB1 a1 a6)).symm|exact ac (ah (okB2 a1 a2)).symm|exact ac (okD a1 a2)
  refine VQ ?_;refine zQ 38 rfl (fun a2=>?_) (fun a2=>?_)
  ·refine jJ ?_;refine kv ?_
   first|exact(okX a1 a2).elim|exact ac (ag (fun h=>h (okA a1 a6))).symm|exact ac (ah (okB1 a1 a6)).symm|exact ac (ah (okB2 a1 a2)).symm|exact ac (okD a1 a2)
  refine zn8 ?_;refine kv ?_
  first|exact(okX a1 a2).elim|exact ac (ag (fun h=>h (okA a1 a6))).symm|exact ac (ah (okB1 a1 a6)).symm|exact ac (ah (okB2 a1 a2)).symm|exact ac (okD a1 a2)
 refine e_S ?_;refine zK rfl (fun b1=>?_) (fun b1=>?_)
 ·have e:swk (.mk base args) d n=(n+1,5):=by rw[Lq,if_neg ab,if_neg b1]
  refine zn8 ?_;rw[e];exact⟨rfl,hC,a3⟩
 have hok:Oj (.mk base args):=aG.1 b1;have he:swk (.mk base args) d n=Ox args (d+1) (n+1):=by rw[Lq,if_neg ab,if_pos hok];rfl
 refine jJ ?_;refine qk (rgq [6,9,10] 49 13) (fun m g w'=>∃ j nj:Nat,j<=args.length/\m=args.length-j/\g 49= .int .i64 j/\nj<=200/\Ox args (d+1) (n+1)=Ox (args.drop j) (d+1) nj/\Bel w0 w'/\Blk w' bN 3 #[.int .i64 ((nj:Nat):Int)]/\Blk w' bV 166 #[.func (.func 97) #[] (cI bN bV)]/\ChG (fun g=>g=bN) w w') (args.length) ?_ (fun m g8 w3 hI=>?_)
 ·exact⟨0,n+1,ad _,rfl,rfl,by omega,rfl,hB,a3,a5.u,hC⟩
 obtain⟨j,nj,hj,hmj,h49,hnj,hR,hB,a3,a5,hC⟩:=hI;refine zZ 49 _ h49 nu (zn6 ?_);refine zK rfl (fun c50=>?_) (fun c50=>?_)
 ·have a8:j<args.length:=by omega
  obtain⟨sb,so,A',c',rfl,hsb,hsr,hs2⟩:=hS.at_ a8;have hdr:args.drop j=args[j]::args.drop (j+1):=List.drop_eq_getElem_cons a8;rw[hdr,Ox]at hR;refine zn8 ?_;refine qw (cs:=#[.string ⟨#[]⟩,.slice none 0 0]) Rz rfl (fun b9 w4 hb9 s3 hr=>?_);have:=a3.ob hr;have:=a5.ob hr;have a4:=(nLT hC.size hr)
  have lo9:=hB.ob hr;replace hC:=hC.st s3 (by simp);refine zJ hb9 (fun w5 hq s4=>?_);replace hC:=hC.st s4 (fun g hg=>by rw[List.mem_singleton.1 hg];first|exact .inl rfl|exact .inr a4);replace hb9:=hq;refine zn8 ?_;refine xw rfl kR (IH _ (ap a8) A' c' (d+1) nj _ hs2 hnj oG hB.u a3.u a5.u) rfl rfl (fun e' w6 hr=>?_);obtain⟨rfl,ao,an⟩:=hr;replace hB:=(hB.tr0 s3).tr1 s4 lo9;replace hB:=hB.chG ao (fun g hg=>by rw[show g=bN from hg];exact l0N);replace a5:=(a5.tr0 s3).tr1 s4 oG;replace a5:=a5.chG ao (fun hx=>by have hx:bV=bN:=hx;omega);replace hC:=hC.trans ao (fun g hg=> .inl hg);replace a3:=an;refine⟨_,rfl,?_⟩;refine zn9 ?_;refine zK rfl (fun a7=>?_) (fun a7=>?_)
  ·rw[if_neg a7]at hR;refine Zv ?_;rw[he,hR];exact⟨rfl,hC,a3⟩
  have a7:(swk (args[j]'a8) (d+1) nj).2=0:=aG.1 a7;rw[if_pos a7]at hR;obtain⟨_,_,e1,e2⟩:=Lz _ _ _ a7;have hn3:(swk (args[j]'a8) (d+1) nj).1<=200:=by rw[e1];exact e2
  have hR3:=hR;refine zn7 ?_;refine xY (args.length-(j+1)) oG agA ?_;exact⟨j+1,_,by omega,rfl,rfl,hn3,hR3,hB,a3,a5,hC⟩
 have hje:j=args.length:=by omega
 rw[hje,List.drop_length,Ox]at hR;refine jJ ?_;rw[he,hR];exact⟨rfl,hC,a3⟩
theorem swk_anyK(l0N:w0.heap.size<=bN)(a1:w0.heap.size<=bV)(nVN:bV≠bN):∀(k:Nat) (s:Sm),SizeOf.sizeOf s<k->∀(A:Option Addr) (c d n:Nat) (w:World),SimsIn w0 A s.args->n<=200->d<=41->Bel w0 w->Blk w bN 3 #[.int .i64 ((n:Nat):Int)]->Blk w bV 166 #[.func (.func 97) #[] (cI bN bV)]->Calls Tryd.prog 97 #[.agg #[.string s.base,.slice A s.args.length c],.int .i64 ((d:Nat):Int),.pointer (some ⟨bN,0,none⟩),.pointer (some ⟨bV,0,none⟩)] w fun e w'=>e= .returned (.int .i64 (swk s d n).2)/\ChG (fun g=>g=bN) w w'/\Blk w' bN 3 #[.int .i64 (((swk s d n).1:Nat):Int)]:=by
 intro k
 induction k with
 | zero=>intro s h;omega
 | succ k ih=>
  intro s h A c d n w hS hn hd hB hbN hbV;cases s with
  | mk base args=>exact swk_step (base:=base) (args:=args) l0N a1 nVN hS (fun x hx A2 c2 d2 n2 w2 h1 h2 h3 h4 h5 h6=>ih x (by have:=aN hx;simp only[Sm.mk.sizeOf_spec]at h;omega) A2 c2 d2 n2 w2 h1 h2 h3 h4 h5 h6) hn hd hB hbN hbV
theorem swk_any(l0N:w0.heap.size<=bN)(a1:w0.heap.size<=bV)(nVN:bV≠bN)(s:Sm)(A:Option Addr)(c d n:Nat)(w:World):SimsIn w0 A s.args->n<=200->d<=41->Bel w0 w->Blk w bN 3 #[.int .i64 ((n:Nat):Int)]->Blk w bV 166 #[.func (.func 97) #[] (cI bN bV)]->Calls Tryd.prog 97 #[.agg #[.string s.base,.slice A s.args.length c],.int .i64 ((d:Nat):Int),.pointer (some ⟨bN,0,none⟩),.pointer (some ⟨bV,0,none⟩)] w fun e w'=>e= .returned (.int .i64 (swk s d n).2)/\ChG (fun g=>g=bN) w w'/\Blk w' bN 3 #[.int .i64 (((swk s d n).1:Nat):Int)]:=swk_anyK l0N a1 nVN (SizeOf.sizeOf s+1) s (ax _) A c d n w
end
theorem sm2_two{c1 c2:Nat}{A1 A2:Option Addr}{s t:Sm}(hb:Blk w b 61 #[.string s.base,.slice A1 s.args.length c1,.string t.base,.slice A2 t.args.length c2])(h1:SimsIn w A1 s.args)(h2:SimsIn w A2 t.args):SimsIn w (some ⟨b,0,none⟩) [s,t]:=by
 refine .more (by simp[vJ]) hb.lt (fun k hk=>?_)
 match k,hk with
 | 0,_=>
  rw[show[s,t][0]=Sm.mk s.base s.args from Sm.eta s];refine SimAt.mk (c:=c1) hb.lt (fun i v hv=>?_) h1
  match i,hv with
  | 0,hv=>exact hb.cell hv
  | 1,hv=>exact hb.cell hv
  | i+2,hv=>simp at hv
 | 1,_=>
  rw[show[s,t][1]=Sm.mk t.base t.args from Sm.eta t];refine SimAt.mk (c:=c2) hb.lt (fun i v hv=>?_) h2
  match i,hv with
  | 0,hv=>exact hb.cell hv
  | 1,hv=>exact hb.cell hv
  | i+2,hv=>simp at hv
def tb(τ:Ts):ByteArray:=⟨τ.txt.toArray⟩
theorem W6(A:Option Addr)(c:Nat)(s:Sm)(w:World):Calls Tryd.prog 88 #[.agg #[.string s.base,.slice A s.args.length c]] w fun e w'=>e= .returned (.bool (decide (NW s)))/\Bel w w':=by
 refine enT Tryd.func88 Tryd.ntmps88 rfl rfl fun hB=>?_;refine zn2 ?_;refine qZ (cs:=#[_,_]) rfl (fun b1 w1 hb1 s1 hr=>?_);refine zn4 ?_;refine yy (rgq [] 2 10) 2 (.bool (decide (NW s))) nu ?_ (fun gq=>?_)
 ·refine zn5 ?_;refine zQ 6 rfl (fun g6=>?_) (fun g6=>?_)
  ·refine jZ ?_;refine kv ?_
   first|exact ac (ai.2 ⟨fun e=>⟨g6,by omega⟩,fun e=>by have:=e.2;omega⟩)|exact ac (ag (fun e=>g6 e.1)).symm
  refine zn6 ?_;refine kv ?_
  first|exact ac (ai.2 ⟨fun e=>⟨g6,by omega⟩,fun e=>by have:=e.2;omega⟩)|exact ac (ag (fun e=>g6 e.1)).symm
 refine zn3 ?_;exact⟨rfl,hB.u⟩
set_option maxRecDepth 100000 in
set_option maxHeartbeats 2000000 in
theorem same_step{A1 A2:Option Addr}{c1 c2:Nat}{a b:Ts}(h1:SimsIn w A1 a.sm.args)(h2:SimsIn w A2 b.sm.args)(IH:∀ x∈a.kids,∀(A1 A2:Option Addr) (c1 c2:Nat) (b:Ts) (w:World),SimsIn w A1 x.sm.args->SimsIn w A2 b.sm.args->Calls Tryd.prog 98 #[.agg #[.string x.sm.base,.slice A1 x.sm.args.length c1],.agg #[.string b.sm.base,.slice A2 b.sm.args.length c2]] w fun e w'=>e= .returned (.bool (x.eqb b))/\Bel w w'):Calls Tryd.prog 98 #[.agg #[.string a.sm.base,.slice A1 a.sm.args.length c1],.agg #[.string b.sm.base,.slice A2 b.sm.args.length c2]] w fun e w'=>e= .returned (.bool (a.eqb b))/\Bel w w':=by
 have hk1:=Ts.kids_len a;have hk2:=Ts.kids_len b;have ek1:a.sm.args.length=a.kids.length:=by rw[Ts.kids_sm,List.length_map]
 have ek2:b.sm.args.length=b.kids.length:=by rw[Ts.kids_sm,List.length_map]
 refine enT Tryd.func98 Tryd.ntmps98 rfl rfl fun hB=>?_;refine zn2 ?_;refine qZ (cs:=#[_,_]) rfl (fun b2 w1 a7 s1 hr=>?_);refine qZ (cs:=#[_,_]) rfl (fun b3 w2 a6 s2 hr=>?_);refine zn5 ?_;replace hB:=hB.tr0 (s1.t s2);refine yy (rgq [] 6 14) 19 (.bool (decide (¬(a.sm.base=b.sm.base/\a.sm.args.length=b.sm.args.length)))) nu ?_ (fun gq=>?_)
 ·refine zn7 ?_;refine zQ 11 rfl (fun a2=>?_) (fun a2=>?_)
  ·refine zn8 ?_;refine kv ?_
   first|exact ac (ah (by exact fun h=>a2 h.1)).symm|exact ac (ai.2 (by exact⟨fun h k=>h (by have:=k.2;omega),fun h e=>h ⟨ak.1 a2,by omega⟩⟩))
  refine Hw ?_;refine kv ?_
  first|exact ac (ah (by exact fun h=>a2 h.1)).symm|exact ac (ai.2 (by exact⟨fun h k=>h (by have:=k.2;omega),fun h e=>h ⟨ak.1 a2,by omega⟩⟩))
 refine e_S ?_;refine zK rfl (fun a8=>?_) (fun a8=>?_)
 ·refine zn8 ?_;have a4:¬a=b:=fun e=>a8 (by subst e;exact⟨rfl,rfl⟩)
  exact⟨congrArg (fun z=>Ending.returned (.bool z)) (Bool.eq_false_iff.2 (fun e=>a4 (Ts.eqb_iff.1 e))).symm,hB⟩
 have hbl:=aG.1 a8;refine jJ ?_;refine qk (rgq [4,5] 23 16) (fun m g w'=>∃ j:Nat,j<=a.kids.length/\m=a.kids.length-j/\g 23= .int .i64 j/\Bel w w'/\Blk w' b2 61 #[.string a.sm.base,.slice A1 a.sm.args.length c1]/\Blk w' b3 61 #[.string b.sm.base,.slice A2 b.sm.args.length c2]/\a.kids.take j=b.kids.take j) (a.kids.length) ?_ (fun m g4 w3 hI=>?_)
 ·exact⟨0,ad _,rfl,rfl,hB,a7.u,a6,rfl⟩
 obtain⟨j,hj,hmj,h23,hB,a7,a6,a1⟩:=hI;refine zZ 23 _ h23 nu (zn6 ?_);refine zK rfl (fun c24=>?_) (fun c24=>?_)
 ·have a5:j<a.kids.length:=by omega
  have hjb:j<b.kids.length:=by omega
  obtain⟨sb,so,A3,c3,rfl,hsb,hr3,hs3⟩:=Fk h1 a5;obtain⟨tb,to,A4,c4,rfl,htb,hr4,hs4⟩:=Fk h2 hjb;refine gX ?_;refine K6 10 kR kR (fun w4 s3=>?_);refine jZ ?_;refine Jy ?_;refine aZ kR (IH _ (ap a5) A3 A4 c3 c4 _ _ (hs3.mono hB.u) (hs4.mono hB.u)) rfl (fun w5 s4=>?_);refine zn3 ?_;refine jW rfl (fun a3=>?_) (fun a3=>?_)
  ·refine jJ ?_;have a4:¬a=b:=fun e=>by
    have h:=(Ts.eqb_iff (a:=a.kids[j]) (b:=b.kids[j])).2 (by subst e;rfl);rw[h]at a3;cases a3
   exact⟨congrArg (fun z=>Ending.returned (.bool z)) (Bool.eq_false_iff.2 (fun e=>a4 (Ts.eqb_iff.1 e))).symm,hB.u⟩
  refine zn7 ?_;refine xY (a.kids.length-(j+1)) oG agA ?_;exact⟨j+1,by omega,rfl,rfl,hB.u,a7.u,a6.u,take_kid a1 a5 hjb (Ts.eqb_iff.1 (by simpa using a3))⟩
 have hje:j=a.kids.length:=by omega
 refine jJ ?_;rw[hje,List.take_of_length_le (Nat.le_refl _),List.take_of_length_le oG]at a1;exact⟨congrArg (fun z=>Ending.returned (.bool z)) (Ts.eqb_iff.2 (Ts.ext hbl.1 a1)).symm,hB⟩
theorem same_anyK:∀(k:Nat) (a:Ts),a.size<k->∀(A1 A2:Option Addr) (c1 c2:Nat) (b:Ts) (w:World),SimsIn w A1 a.sm.args->SimsIn w A2 b.sm.args->Calls Tryd.prog 98 #[.agg #[.string a.sm.base,.slice A1 a.sm.args.length c1],.agg #[.string b.sm.base,.slice A2 b.sm.args.length c2]] w fun e w'=>e= .returned (.bool (a.eqb b))/\Bel w w':=by
 intro k
 induction k with
 | zero=>intro a h;omega
 | succ k ih=>exact fun a h A1 A2 c1 c2 b w h1 h2=>same_step h1 h2 (fun x hx A3 A4 c3 c4 b2 w2 h3 h4=>ih x (by have:=Ts.kids_lt hx;omega) A3 A4 c3 c4 b2 w2 h3 h4)
theorem samE_any(A1 A2:Option Addr)(c1 c2:Nat)(a b:Ts)(w:World)(h1:SimsIn w A1 a.sm.args)(h2:SimsIn w A2 b.sm.args):Calls Tryd.prog 98 #[.agg #[.string a.sm.base,.slice A1 a.sm.args.length c1],.agg #[.string b.sm.base,.slice A2 b.sm.args.length c2]] w fun e w'=>e= .returned (.bool (a.eqb b))/\Bel w w':=same_anyK _ a (ax _) A1 A2 c1 c2 b w h1 h2
section
section rules
variable {P:Program} {Q:Exit->Act->World->Prop} {n:Nw} {f:Fr} {w w':World} {ops:Array Oper} {rest:List Oper} {d:Nat} {ty:TypeId} {pos:String} {af:Array Edge} {x y z:Operand} {t t' e:TypeId}
theorem r_slF{dst:Option Tmp}{gd:Option (Nat×Bool)}{h:Nat}{sz:Nat}(hu:P.underlying t=some (.slice e))(hs:(P.info? e).map (·.size)=some sz)(hx:ev n f x= .slice A m c)(hy:ev n f y= .int .i64 (h:Int))(hz:ev n f z= .int .i64 (h:Int))(hh:h<=c):
  RV P n f w ⟨dst,.slice t x none (some y) (some z),ty,pos,af,gd⟩ (.slice A h h) w:=by
 cases hq:P.info? e with
 | none=>simp[hq]at hs
 | some i=>
  have h1:(Instr.sliceBound (.int .i64 (h:Int)) h .slice3C).run P w= .ok h w:=by simp[Instr.sliceBound,asIntOf]
  have h2:(Instr.sliceBound (.int .i64 (h:Int)) c .slice3Acap).run P w= .ok h w:=by simp[Instr.sliceBound,asIntOf,hh]
  have h3:(Instr.sliceBound (.int .i64 (h:Int)) h .slice3B).run P w= .ok h w:=by simp[Instr.sliceBound,asIntOf]
  cases A<;>simp[RV,execOp,hx,hy,hz,Instr.sliceAt,run_underlying hu,Instr.slice,Instr.sliceBounds,h1,h2,h3,sizeOf,typeInfo,hq,S9]
theorem wl_appFl{zv:Value}{a6 k sz:Nat}{cs:Array Value}{a2:List Value}(hu:P.underlying t=some (.slice e))(hi:(P.info? e).map (fun i=>(i.zero,i.size,i.bytes))=some (some zv,sz,a6))(hzs:zv.cells.size=sz)(hsz:0<sz)
  (hlo:a2.length=k*sz) (a4:∀ b',A=some b'->∀ j u,a2[j]? =some u->w.cell? (b'.add j)=some u) (hno:A=none->k=0) (hb:Blk w b e cs) (hx:ev n f x= .slice A k k) (hy:ev n f y= .slice (some ⟨b,0,none⟩) m c) (hl:cs.size=m*sz) (h1:cs.toList.all (·.oneCell')=true) (hm:0<m) (h63:k+m<=9223372036854775807) (a3:(k+m)*a6<=140737488355328)
  (K:∀ g a1 w1,Own w1 w.heap.size e sz (some ⟨g,0,none⟩) (k+m) a1 (a2++cs.toList)->Same [] w w1->w.heap.size<=g->WL P ops Q rest n (upd f d (.slice (some ⟨g,0,none⟩) (k+m) a1)) w1):
  WL P ops Q (⟨some d,.call { callee:= .builtin .append,args:=#[x,y],argTypes:=#[t,t] },ty,pos,af,none⟩::rest) n f w:=by
 cases A with
 | none=>
  obtain rfl:=hno rfl;obtain rfl:a2= []:=List.eq_nil_of_length_eq_zero (by simpa using hlo);refine vZ hu hi hzs hsz (Own.nil w w.heap.size e sz) hb hx hy hl h1 hm h63 a3 (ae _) (fun g a1 w1 ho hs hg=>K g a1 w1 ho hs ?_);rcases hg with h|h
  ·cases h
  ·exact h
 | some b'=>
  obtain⟨i,hq,a5⟩:=aU.1 hi;simp only[Prod.mk.injEq]at a5;obtain⟨v',w1,hr,ho,hg⟩:=run_append_arg_grows (P:=P) w t ty e i zv sz a6 hu hq a5.1 a5.2.1 a5.2.2 hzs hsz b' k k a2 hlo (a4 b' rfl) ⟨b,0,none⟩ m c cs.toList (by simpa using hl) (World.news_of_block hb) oG h63 a3;have hv:∃ g a1,v'= .slice (some ⟨g,0,none⟩) (k+m) a1/\w.heap.size<=g:=by
   rcases ho.2 with ⟨_,h0⟩|⟨g,a1,_,rfl,hg',_⟩
   ·omega
   ·exact⟨g,a1,rfl,hg'⟩
  obtain⟨g,a1,rfl,hgl⟩:=hv;refine wl (v:= .slice (some ⟨g,0,none⟩) (k+m) a1) (w':=w1) ?_ (K g a1 w1 ho (Ij (A:=none) (k:=0) (cap:=0) hg) hgl);simp only[RV,execOp,resolve,invoke,builtin,Sem.run_bind,Sem.run_pure,Result.andThen_ok,List.map_toArray,List.map_cons,List.map_nil,hx,hy,hr]
end rules
inductive SimR(w:World):List Sm->List Value->Prop
 | nil:SimR w [] []
 | snoc {l:List Sm} {vs:List Value} {s:Sm} {A:Option Addr} {c:Nat} (h:SimR w l vs) (hs:SimsIn w A s.args):SimR w (l++[s]) (vs++[.string s.base,.slice A s.args.length c])
theorem SimR.len(h:SimR w l vs):vs.length=l.length*2:=by
 induction h with
 | nil=>rfl
 | snoc h hs ih=>simp only[List.length_append,ih,List.length_cons,List.length_nil];omega
theorem SimR.mono{w w':World}{l:List Sm}{vs:List Value}(h:SimR w l vs)(hb:Bel w w'):SimR w' l vs:=by
 induction h with
 | nil=>exact .nil
 | snoc h hs ih=>exact .snoc ih (hs.mono hb)
theorem SimR.at_(h:SimR w l vs):∀ {k:Nat} (hk:k<l.length),∃ A c,vs[k*2]? =some (.string (l[k]).base)/\vs[k*2+1]? =some (.slice A (l[k]).args.length c)/\SimsIn w A (l[k]).args:=by
 induction h with
 | nil=>intro k hk;simp at hk
 | @snoc l vs s A c h hs ih=>
  intro k hk;have hl:=h.len;by_cases e:k<l.length
  ·grind
  ·have ek:k=l.length:=by rw[List.length_append]at hk;simp at hk;omega
   subst ek;rw[List.getElem_append_right (Nat.le_refl _)];simp only[Nat.sub_self,List.getElem_cons_zero];refine⟨A,c,?_,?_,hs⟩
   ·grind
   ·grind
theorem SimsIn.row(h:SimsIn w (some ⟨b,o,none⟩) l):∃ vs,SimR w l vs/\∀ j u,vs[j]? =some u->w.cell? ⟨b,o+j,none⟩=some u:=by
 have key:∀ k,k<=l.length->∃ vs,SimR w (l.take k) vs/\∀ j u,vs[j]? =some u->w.cell? ⟨b,o+j,none⟩=some u:=by
  intro k
  induction k with
  | zero=>exact fun _=>⟨[],.nil,fun j u hj=>by simp at hj⟩
  | succ k ih=>
   intro hk;obtain⟨vs,h1,h2⟩:=ih oG;obtain⟨b',o',A',c',e,_,hr,hs⟩:=h.at_ (k:=k) oG;cases e;have hl:=h1.len;rw[List.length_take,Nat.min_eq_left oG]at hl;refine⟨vs++[.string (l[k]).base,.slice A' (l[k]).args.length c'],?_,fun j u hj=>?_⟩
   ·rw[QZ l oG];exact .snoc h1 hs
   ·by_cases e:j<vs.length
    ·grind
    ·rw[List.getElem?_append_right oG]at hj
     have:=hr (j-vs.length) u hj
     grind
 obtain⟨vs,h1,h2⟩:=key l.length (ae _)
 grind
theorem sims_own{base cap g:Nat}(ho:Own w base 61 2 (some ⟨g,0,none⟩) n cap vs)(h:SimR w l vs)(hn:l.length=n)(hp:0<n):SimsIn w (some ⟨g,0,none⟩) l:=by
 have hl:=h.len;obtain⟨g',e,_,hg,hc⟩:=ho.cell (by intro e;rw[e]at hl;simp at hl;omega);cases e;refine .more (by have:=ho.max;unfold vJ;omega) hg (fun k hk=>?_);obtain⟨A,c,h1,h2,h3⟩:=h.at_ hk;rw[show l[k]=Sm.mk (l[k]).base (l[k]).args from Sm.eta _];refine SimAt.mk (c:=c) hg (fun i v hv=>?_) h3
 match i,hv with
 | 0,hv=>cases hv;have:=hc _ _ h1;rwa[Nat.zero_add]
 | 1,hv=>cases hv;have:=hc _ _ h2;rwa[Nat.zero_add]
 | i+2,hv=>simp at hv
def CtxIn(w:World)(C:Option Addr)(Γ:List Ts):Prop:=SimsIn w C (Γ.reverse.map Ts.sm)/\(C=none->Γ= [])
theorem CtxIn.mono{w w':World}{C:Option Addr}{Γ:List Ts}(h:CtxIn w C Γ)(hb:Bel w w'):CtxIn w' C Γ:=⟨h.1.mono hb,h.2⟩
theorem CtxIn.nil(w:World):CtxIn w none []:=⟨.nil,fun _=>rfl⟩
theorem CtxIn.at_{w:World}{C:Option Addr}{Γ:List Ts}(h:CtxIn w C Γ){i:Nat}{τ:Ts}(hi:Γ[i]? =some τ):∃ b o A c,C=some ⟨b,o,none⟩/\b<w.heap.size/\w.rangeAt b (o+(Γ.length-1-i)*2) [.string τ.sm.base,.slice A τ.sm.args.length c]/\SimsIn w A τ.sm.args:=by
 obtain⟨hl,rfl⟩:=aC.1 hi;obtain⟨b,o,A,c,h1,h2,h3,h4⟩:=h.1.at_ (k:=Γ.length-1-i) (by rw[List.length_map,List.length_reverse];omega)
 grind
theorem CtxIn.row{w:World}{C:Option Addr}{Γ:List Ts}(h:CtxIn w C Γ):∃ vs,SimR w (Γ.reverse.map Ts.sm) vs/\vs.length=Γ.length*2/\(∀ b',C=some b'->∀ j u,vs[j]? =some u->w.cell? (b'.add j)=some u)/\(C=none->Γ.length=0):=by
 have hn:C=none->Γ.length=0:=fun e=>by rw[h.2 e];rfl
 cases C with
 | none=>
  have:=h.2 rfl;subst this;exact⟨[],.nil,rfl,fun b' e=>(by cases e),hn⟩
 | some a=>
  cases hq:Γ with
  | nil=>exact⟨[],.nil,rfl,fun b' e j u hj=>by simp at hj,fun e=>by cases e⟩
  | cons τ Γ'=>
   have h1:=h.1;rw[hq]at h1
   generalize el:List.map Ts.sm (τ::Γ').reverse=l at h1
   cases h1 with
   | nil=>rw[List.map_eq_nil_iff]at el;simp at el
   | @more b o _ hl hb hx=>
    obtain⟨vs,h2,h3⟩:=SimsIn.row (.more hl hb hx);refine⟨vs,h2,by rw[h2.len,<- el,List.length_map,List.length_reverse],fun b' e j u hj=>?_,fun e=>by cases e⟩;cases e;rw[Addr.add_mid];exact h3 j u hj
theorem ctx_app{base cap g:Nat}{Γ:List Ts}{τ:Ts}(ho:Own w base 61 2 (some ⟨g,0,none⟩) n cap (vs++[.string τ.sm.base,.slice A τ.sm.args.length c]))(h:SimR w (Γ.reverse.map Ts.sm) vs)(hs:SimsIn w A τ.sm.args)(hn:Γ.length+1=n):CtxIn w (some ⟨g,0,none⟩) (τ::Γ):=by
 refine⟨?_,fun e=>by cases e⟩;have e:(τ::Γ).reverse.map Ts.sm=Γ.reverse.map Ts.sm++[τ.sm]:=by simp
 rw[e];exact sims_own ho (.snoc h hs) (by simp;exact hn) oG
theorem S7{w':World}{X:List Nat}{v:Value}(hs:Same X w w')(hb:b<w.heap.size)(hx:b∉X)(h:w.cell? ⟨b,o,none⟩=some v):w'.cell? ⟨b,o,none⟩=some v:=by
 have e:=hs.blk b hb hx;unfold World.cell? at h ⊢;simp only[e];exact h
theorem Mq{w w':World}{b:Nat}(hb:Blk w b 61 #[.string ⟨#[]⟩,.slice none 0 0])(hs:Same [b] w w'):∀(τ:Ts) {A:Option Addr},SimsIn w A τ.sm.args->SimsIn w' A τ.sm.args
 | .b t,A,h=>by cases t<;>exact .nil
 | .f x y,A,h=>by
  have far:∀(τ:Ts) (o c:Nat) (A':Option Addr),w.rangeAt b o [.string τ.sm.base,.slice A' τ.sm.args.length c]->False:=fun τ o c A' hr=>by
   have h0:=hr 0 _ rfl
   have h1:=hr 1 _ rfl
   rw[Nat.add_zero,cell_of_row w b o _ _ _ hb]at h0
   rw[cell_of_row w b (o+1) _ _ _ hb]at h1
   match o,h0,h1 with
   | 0,h0,h1=>
    simp only[List.getElem?_toArray,List.getElem?_cons_zero,Option.some.injEq,Value.string.injEq,List.getElem?_cons_succ,Value.slice.injEq,Nat.zero_add]at h0 h1
    obtain⟨p,q,rfl⟩:∃ p q,τ= .f p q:=by
     cases τ with
     | b t=>exfalso;revert h0;cases t<;>decide
     | f p q=>exact⟨p,q,rfl⟩
    have h2:0=2:=h1.2.1;cases h2
   | 1,h0,_=>simp at h0
   | o+2,h0,_=>simp at h0
  obtain⟨b1,o1,A0,c0,rfl,hl,hr0,hs0⟩:=h.at_ (k:=0) (by simp[Ts.sm,Sm.args]);obtain⟨_,_,A1,c1,e1,_,hr1,hs1⟩:=h.at_ (k:=1) (by simp[Ts.sm,Sm.args]);cases e1;have hne:b1∉[b]:=fun hm=>by
   obtain rfl:=aj.1 hm;exact far x _ _ _ hr0
  refine .more (show 2<=vJ by decide) (nLL hl hs.size) (fun k hk=>?_)
  match k,hk with
  | 0,_=>
   show SimAt w' b1 (o1+0*2) x.sm;rw[Sm.eta x.sm];exact SimAt.mk (nLL hl hs.size) (fun i v hv=>S7 hs hl hne (hr0 i v hv)) (Mq hb hs x hs0)
  | 1,_=>
   show SimAt w' b1 (o1+1*2) y.sm;rw[Sm.eta y.sm];exact SimAt.mk (nLL hl hs.size) (fun i v hv=>S7 hs hl hne (hr1 i v hv)) (Mq hb hs y hs1)
end
theorem sz166:(Tryd.prog.info? 166).map (·.size)=some 1:=by kernel_rfl
theorem ze166:(Tryd.prog.info? 166).map (·.zero)=some (some (.nilFunc)):=by kernel_rfl
set_option maxHeartbeats 1000000 in
theorem Fj(A:Option Addr)(c:Nat)(s:Sm)(w:World)(hS:SimsIn w A s.args):Calls Tryd.prog 87 #[.agg #[.string s.base,.slice A s.args.length c]] w fun e w'=>e= .returned (flV (smF s,0))/\Bel w w':=by
 refine enT Tryd.func87 Tryd.ntmps87 rfl rfl fun hB=>?_;refine zn2 ?_;refine qZ (cs:=#[_,_]) rfl (fun b1 w1 a6 s1 hr=>?_);refine qw (cs:=#[.int .i64 0,.int .i64 0]) qQ rfl (fun b2 w2 a1 s2 hr=>?_);have:=a6.ob hr;have lo2:=hB.u.ob hr;refine zn4 ?_;refine qw (cs:=#[.int .i64 0]) gJ rfl (fun b3 w3 a2 s3 hr=>?_);have:=a6.u.ob hr;have:=a1.ob hr;have a3:=hB.u.ob hr;refine xj (v:= .int _ _) a2 rfl rfl x8 (by first|decide|simp) rfl rfl (fun w4 hq s4=>?_);replace a2:=hq;refine zn4 ?_;refine qw (cs:=#[.nilFunc]) ze166 rfl (fun b4 w5 a4 s5 hr=>?_);have:=a6.u.ob hr;have:=a1.u.ob hr;have:=a2.ob hr;have lo4:=hB.u.ob hr;refine zn4 ?_;refine wl (LY rfl) ?_;refine xj (v:= .func _ _ _) a4 rfl rfl sz166 (by first|decide|simp) rfl rfl (fun w6 hq s6=>?_);replace a4:=hq;refine zn6 ?_;refine xw rfl kR (swk_any (w0:=w) (bN:=b3) (bV:=b4) a3 lo4 oG s A c 1 0 _ hS oG oG hB.u a2.u a4) rfl rfl (fun e' w7 hr=>?_);obtain⟨rfl,hC2,a5⟩:=hr;replace hB:=(((hB.tr0 (s1.t (s2.t s3))).tr1 s4 a3).tr0 s5).tr1 s6 lo4;replace hB:=hB.chG hC2 (fun g hg=>by rw[show g=b3 from hg];exact a3);replace a1:=(((a1.tr0 s3).tr1 s4 oG).tr0 s5).tr1 s6 oG;replace a1:=a1.chG hC2 (fun hx=>by have hx:b2=b3:=hx;omega);replace a2:=a5;refine⟨_,rfl,?_⟩;refine wl (MZ (v0:= .int _ _) (fun v0=>#[v0,.int .i64 0]) rfl kR) ?_;refine zJ a1 (fun w8 hq s7=>?_);replace a1:=hq;refine zn3 ?_;refine xX (.inl rfl) rfl (zw U43 rfl rfl a1.range0 zj) ?_;exact⟨rfl,hB.u⟩
abbrev cC(a:Tm)(b:Option Addr)(c:Nat)(d:Option Addr)(e:Nat):Array Value:=#[.int .i64 a.kind,.string a.name,.int .i64 a.index,.string a.type.base,.slice b a.type.args.length c,.slice d a.args.length e]
theorem twk_out(h:200<n+1\/40<d):twk t d b n=(n+1,(1,(n:Int))):=by rw[Ny,if_pos h]
theorem Qx{c:Int}(h:¬(200<n+1\/40<d))(hc:ndC b t=c)(h0:c≠0):twk t d b n=(n+1,(c,(n:Int))):=by rw[Ny,if_neg h,if_neg (by rw[hc];exact h0),hc]
theorem twk_nil(h:¬(200<n+1\/40<d))(hc:ndC b t=0)(ha:t.args= []):twk t d b n=(n+1,(0,0)):=by rw[Ny,if_neg h,if_pos hc,ha,VX]
theorem twk_end(x:Tm)(d b n:Nat):VX [x] d b n=twk x d b n:=by
 rw[VX];by_cases h:(twk x d b n).2.1=0
 ·rw[if_pos h,VX,<- twk_z h]
 ·rw[if_neg h]
theorem twks_one{l:List Tm}(hl:l.length=1)(h0:0<l.length)(d b n:Nat):VX l d b n=twk (l[0]'h0) d b n:=by
 match l,hl with
 | [x],_=>exact twk_end x d b n
theorem twks_two{l:List Tm}(hl:l.length=2)(h0:0<l.length)(h1:1<l.length)(d b n:Nat):VX l d b n=if (twk (l[0]'h0) d b n).2.1=0 then twk (l[1]'h1) d b (twk (l[0]'h0) d b n).1 else twk (l[0]'h0) d b n:=by
 match l,hl with
 | [x,y],_=>rw[VX,twk_end];rfl
theorem twk_one{b':Nat}(h:¬(200<n+1\/40<d))(hc:ndC b t=0)(hi:inB t b=b')(hl:t.args.length=1)(h0:0<t.args.length):twk t d b n=twk (t.args[0]'h0) (d+1) b' (n+1):=by
 rw[Ny,if_neg h,if_pos hc,hi,twks_one hl h0]
theorem twk_two{b':Nat}(h:¬(200<n+1\/40<d))(hc:ndC b t=0)(hi:inB t b=b')(hl:t.args.length=2)(h0:0<t.args.length)(h1:1<t.args.length):twk t d b n=if (twk (t.args[0]'h0) (d+1) b' (n+1)).2.1=0 then twk (t.args[1]'h1) (d+1) b' (twk (t.args[0]'h0) (d+1) b' (n+1)).1 else twk (t.args[0]'h0) (d+1) b' (n+1):=by
 rw[Ny,if_neg h,if_pos hc,hi,twks_two hl h0 h1]
theorem WY:zk Tryd.prog 46=true:=by kernel_rfl
theorem CZ:zk Tryd.prog 86=true:=by kernel_rfl
theorem sz62:(Tryd.prog.info? 62).map (·.size)=some 1:=by kernel_rfl
theorem Oq:(Tryd.prog.info? 64).map (·.size)=some 6:=by kernel_rfl
theorem uY(b9:Nat)(cd n:Int)(w:World)(hb9:Blk w b9 3 #[.int .i64 n]):Calls Tryd.prog 86 #[.int .i64 cd,.pointer (some ⟨b9,0,none⟩)] w fun e w'=>e= .returned (flV (cd,n))/\Bel w w':=by
 refine enT Tryd.func86 Tryd.ntmps86 rfl rfl fun hB=>?_;refine zn2 ?_;refine qw (cs:=#[.int .i64 0,.int .i64 0]) qQ rfl (fun b3 w1 a1 s1 hr=>?_);have lo3:=hB.ob hr;refine zn6 ?_;refine VY ?_;refine zJ a1 (fun w2 hq s2=>?_);replace a1:=hq;refine zn3 ?_;refine xX (.inl rfl) rfl (zw U43 rfl rfl a1.range0 zj) ?_;exact⟨rfl,hB.u⟩
set_option maxRecDepth 100000 in
set_option maxHeartbeats 8000000 in
theorem twk_step(cp:w0.heap.size<=bN)(_l0V:w0.heap.size<=bV)(nVN:bV≠bN){B:Option Addr}(hS:SimsIn w0 A t.type.args)(hT:TmsIn w0 B t.args)(IH:∀ x∈t.args,∀(A2 B2:Option Addr) (c2 m2 d2 b2 n2:Nat) (w2:World),SimsIn w0 A2 x.type.args->TmsIn w0 B2 x.args->n2<=200->d2<=41->b2<=d2->Bel w0 w2->Blk w2 bN 3 #[.int .i64 ((n2:Nat):Int)]->Blk w2 bV 153 #[.func (.func 85) #[] (cI bN bV)]->Calls Tryd.prog 85 #[.agg (cC (x) A2 c2 B2 m2),.int .i64 ((d2:Nat):Int),.int .i64 ((b2:Nat):Int),.pointer (some ⟨bN,0,none⟩),.pointer (some ⟨bV,0,none⟩)] w2 fun e w'=>e= .returned (flV (twk x d2 b2 n2).2)/\ChG (fun g=>g=bN) w2 w'/\Blk w' bN 3 #[.int .i64 (((twk x d2 b2 n2).1:Nat):Int)])(hn:n<=200)(hd:d<=41)(hbd:b<=d)(hB:Bel w0 w)(a3:Blk w bN 3 #[.int .i64 ((n:Nat):Int)])(bc:Blk w bV 153 #[.func (.func 85) #[] (cI bN bV)]):Calls Tryd.prog 85 #[.agg (cC (t) A c B m),.int .i64 ((d:Nat):Int),.int .i64 ((b:Nat):Int),.pointer (some ⟨bN,0,none⟩),.pointer (some ⟨bV,0,none⟩)] w fun e w'=>e= .returned (flV (twk t d b n).2)/\ChG (fun g=>g=bN) w w'/\Blk w' bN 3 #[.int .i64 (((twk t d b n).1:Nat):Int)]:=by
 have hmx:=hT.le;unfold vJ at hmx;have ltN:=a3.lt;have ltV:=bc.lt;have hC:ChG (fun g=>g=bN) w w:=ChG.refl _ _;refine enter Tryd.func85 Tryd.ntmps85 rfl (aE rfl) (zn2 ?_);refine qZ (cs:=#[_,_,_,_,_,_]) rfl (fun b5 w1 bd s1 hr=>?_);have:=a3.ob hr;replace hC:=hC.st s1 (by simp);refine qw (cs:=#[.int .i64 0,.int .i64 0]) qQ rfl (fun b8 w2 a2 s2 hr=>?_);have:=a3.u.ob hr;have:=bc.u.ob hr;have a1:=(nLT hC.size hr)
 have:=bd.ob hr;replace hC:=hC.st s2 (by simp);refine zn5 ?_;refine qw (cs:=#[.int .i64 0]) gJ rfl (fun b9 w3 ab s3 hr=>?_);have:=a3.u.ob hr;have:=bc.u.ob hr;have b7:=(nLT hC.size hr)
 have:=bd.u.ob hr;have:=a2.ob hr;have lo9:=hB.u.ob hr;replace hC:=hC.st s3 (by simp);refine xj (v:= .int _ _) ab rfl rfl x8 (by first|decide|simp) rfl rfl (fun w4 hq s4=>?_);replace hC:=hC.st s4 (fun g hg=>by rw[List.mem_singleton.1 hg];first|exact .inl rfl|exact .inr b7);replace ab:=hq;refine zn6 ?_;replace a3:=(a3.tr0 (s1.t (s2.t s3))).tr1 s4 oG;refine xj (v:= .int _ _) a3 rfl rfl x8 (by first|decide|simp) rfl rfl (fun w5 hq s5=>?_);replace hB:=hB.u.tr1 s5 cp;replace hC:=hC.st s5 (fun g hg=>by rw[List.mem_singleton.1 hg];first|exact .inl rfl|exact .inr or_hC_bN);replace a3:=hq;refine zn4 ?_;refine wl (LY rfl) (zn5 ?_);replace a2:=((a2.tr0 s3).tr1 s4 oG).tr1 s5 oG;replace ab:=ab.tr1 s5 oG;refine yy [16,17,18,19,20,21] 21 (.bool (decide (200<n+1\/40<d))) nu ?_ (fun gq=>?_)
 ·refine zn4 ?_;refine zQ 18 rfl (fun g18=>?_) (fun g18=>?_)
  ·refine zn3 ?_;exact vx
  refine zn5 ?_;exact vx
 refine e_S ?_;refine zK rfl (fun ao=>?_) (fun ao=>?_)
 ·refine zn3 ?_;refine xw rfl CZ (uY b9 _ _ _ ab) rfl rfl (fun e' w6 hr=>?_);obtain⟨rfl,s6⟩:=hr;replace s6:=sB s6;replace hC:=hC.st s6 (by simp);refine⟨_,rfl,?_⟩;refine zJ a2.u (fun w7 hq s7=>?_);replace hC:=hC.st s7 (fun g hg=>by rw[List.mem_singleton.1 hg];first|exact .inl rfl|exact .inr a1);replace a2:=hq;refine zn4 ?_;refine xX (.inl rfl) rfl (zw U43 rfl rfl a2.range0 zj) ?_;rw[twk_out ao];exact⟨rfl,hC,a3.u⟩
 refine P0 ?_;refine zK rfl (fun b1=>?_) (fun b1=>?_)
 ·refine yz (yz ?_);refine yy (rgq [] 30 9) 38 (.bool (decide (¬(t.index=0/\t.args.length=0)))) nu ?_ (fun gq=>?_)
  ·refine zn5 ?_;refine zQ 33 rfl (fun c4=>?_) (fun c4=>?_)
   ·refine zn5 ?_;refine kv ?_
    first|exact ac (ah (by exact fun h=>c4 h.1)).symm|exact ac (ai.2 (by exact⟨fun k h=>k (by have:=h.2;omega),fun k e=>k ⟨ak.1 c4,by omega⟩⟩))
   refine zn9 ?_;refine kv ?_
   first|exact ac (ah (by exact fun h=>c4 h.1)).symm|exact ac (ai.2 (by exact⟨fun k h=>k (by have:=h.2;omega),fun k e=>k ⟨ak.1 c4,by omega⟩⟩))
  refine e_S ?_;refine zK rfl (fun bh=>?_) (fun bh=>?_)
  ·have a4:ndC b t=5:=by unfold ndC;rw[if_pos b1,if_neg bh]
   refine zn3 ?_;refine xw rfl CZ (uY b9 _ _ _ ab) rfl rfl (fun e' w8 hr=>?_);obtain⟨rfl,s8⟩:=hr;replace s8:=sB s8;replace hC:=hC.st s8 (by simp);refine⟨_,rfl,?_⟩;refine zJ a2.u (fun w9 hq s9=>?_);replace hC:=hC.st s9 (fun g hg=>by rw[List.mem_singleton.1 hg];first|exact .inl rfl|exact .inr a1);replace a2:=hq;refine zn6 ?_;refine xX (.inl rfl) rfl (zw U43 rfl rfl a2.range0 zj) ?_;rw[Qx ao (show ndC b t=5 from a4) dE];exact⟨rfl,hC,a3.u⟩
  have bh:=ak.1 bh;refine zn7 ?_;refine zX WY (MJ _ _) rfl (fun e' w10 hr=>?_);obtain⟨rfl,rfl⟩:=hr;refine⟨_,rfl,?_⟩;refine zn3 ?_;refine jW rfl (fun bx=>?_) (fun bx=>?_)
  ·have a4:ndC b t=10:=by unfold ndC;rw[if_pos b1,if_pos bh,if_neg (by simpa using bx)]
   refine zn3 ?_;refine xw rfl CZ (uY b9 _ _ _ ab) rfl rfl (fun e' w11 hr=>?_);obtain⟨rfl,co⟩:=hr;replace co:=sB co;replace hC:=hC.st co (by simp);refine⟨_,rfl,?_⟩;refine zJ a2.u (fun w12 hq s11=>?_);replace hC:=hC.st s11 (fun g hg=>by rw[List.mem_singleton.1 hg];first|exact .inl rfl|exact .inr a1);replace a2:=hq;refine zn6 ?_;refine xX (.inl rfl) rfl (zw U43 rfl rfl a2.range0 zj) ?_;rw[Qx ao (show ndC b t=10 from a4) dE];exact⟨rfl,hC,a3.u⟩
  have bx:yQ t.name=true:=by simpa using bx
  refine zn5 ?_;refine wl (qK U61 rfl rfl (bd.u.sub (n:=2) (xs:=[_,_]) rfl) gW) ?_;refine zX kR (Fj A c t.type _ (hS.mono hB)) rfl (fun e' w13 hr=>?_);obtain⟨rfl,cn⟩:=hr;replace cn:=sB cn;replace hC:=hC.st cn (by simp);refine⟨_,rfl,?_⟩;refine wl (r_fd1 (v:= .int _ _) U43 rfl U3 rfl rfl rfl) (zn3 ?_);refine zK rfl (fun c6=>?_) (fun c6=>?_)
  ·have a4:ndC b t=12:=by unfold ndC;rw[if_pos b1,if_pos bh,if_pos bx,if_neg c6]
   refine zn3 ?_;refine xw rfl CZ (uY b9 _ _ _ ab.u) rfl rfl (fun e' w14 hr=>?_);obtain⟨rfl,cm⟩:=hr;replace cm:=sB cm;replace hC:=hC.st cm (by simp);refine⟨_,rfl,?_⟩;refine zJ a2.u (fun w15 hq s14=>?_);replace hC:=hC.st s14 (fun g hg=>by rw[List.mem_singleton.1 hg];first|exact .inl rfl|exact .inr a1);replace a2:=hq;refine zn5 ?_;refine xX (.inl rfl) rfl (zw U43 rfl rfl a2.range0 zj) ?_;rw[Qx ao (show ndC b t=12 from a4) dE];exact⟨rfl,hC,a3.u⟩
  have c6:=ak.1 c6;have a4:ndC b t=0:=by unfold ndC;rw[if_pos b1,if_pos bh,if_pos bx,if_pos c6]
  have cv:t.args= []:=aI.1 bh.2;refine zn5 ?_;refine uW (cs:=#[.int .i64 0,.int .i64 0]) ?_;refine zJ a2.u (fun w16 hq s15=>?_);replace hC:=hC.st s15 (fun g hg=>by rw[List.mem_singleton.1 hg];first|exact .inl rfl|exact .inr a1);replace a2:=hq;refine zn3 ?_;refine xX (.inl rfl) rfl (zw U43 rfl rfl a2.range0 zj) ?_;rw[twk_nil ao a4 cv];exact⟨rfl,hC,a3.u⟩
 refine zn6 ?_;refine zK rfl (fun be=>?_) (fun be=>?_)
 ·refine yz (yz ?_);refine yX (rgq [] 56 15) (fun g w'=>(g 70= .bool (decide (¬(t.name=⟨#[]⟩/\NW t.type/\t.args.length=0))))/\Same [] w5 w') ?_ (fun g16 w17 hI=>?_)
  ·have hZ:SameQ [] w5 w5:=Same.refl _ _;refine zn5 ?_;refine zQ 59 rfl (fun bt=>?_) (fun bt=>?_)
   ·refine jJ ?_;refine e_R ⟨agA,?_⟩;refine⟨?_,hZ⟩
    first|exact ac (ah (by exact fun h=>bt h.1)).symm|exact ac (ah (by exact fun h=>br h.2.1)).symm|exact ac (ai.2 (by exact⟨fun k h=>k (by have:=h.2.2;omega),fun k e=>k ⟨ak.1 bt,ak.1 br,by omega⟩⟩))
   refine zn3 ?_;refine wl (qK U61 rfl rfl (bd.u.sub (n:=2) (xs:=[_,_]) rfl) gW) (zn1 ?_);refine zX kR (W6 A c t.type _) rfl (fun e' w18 hr=>?_);obtain⟨rfl,c9⟩:=hr;replace c9:=sB c9;replace hC:=hC.st c9 (by simp);replace hZ:=SameQ.trans hZ c9 (by simp);refine⟨_,rfl,?_⟩;refine zn4 ?_;refine zQ 65 rfl (fun br=>?_) (fun br=>?_)
   ·refine zn6 ?_;refine e_R ⟨agA,?_⟩;refine⟨?_,hZ⟩
    first|exact ac (ah (by exact fun h=>bt h.1)).symm|exact ac (ah (by exact fun h=>br h.2.1)).symm|exact ac (ai.2 (by exact⟨fun k h=>k (by have:=h.2.2;omega),fun k e=>k ⟨ak.1 bt,ak.1 br,by omega⟩⟩))
   refine jZ ?_;refine e_R ⟨agA,?_⟩;refine⟨?_,hZ⟩
   first|exact ac (ah (by exact fun h=>bt h.1)).symm|exact ac (ah (by exact fun h=>br h.2.1)).symm|exact ac (ai.2 (by exact⟨fun k h=>k (by have:=h.2.2;omega),fun k e=>k ⟨ak.1 bt,ak.1 br,by omega⟩⟩))
  obtain⟨h70,ck⟩:=hI;replace hC:=hC.st ck (by simp);refine Zq 70 _ h70 nu (e_S ?_);refine zK rfl (fun bv=>?_) (fun bv=>?_)
  ·have a4:ndC b t=5:=by unfold ndC;rw[if_neg b1,if_pos be,if_neg bv]
   refine zn3 ?_;refine xw rfl CZ (uY b9 _ _ _ ab.u) rfl rfl (fun e' w19 hr=>?_);obtain⟨rfl,cj⟩:=hr;replace cj:=sB cj;replace hC:=hC.st cj (by simp);refine⟨_,rfl,?_⟩;refine zJ a2.u (fun w20 hq s19=>?_);replace hC:=hC.st s19 (fun g hg=>by rw[List.mem_singleton.1 hg];first|exact .inl rfl|exact .inr a1);replace a2:=hq;refine zn6 ?_;refine xX (.inl rfl) rfl (zw U43 rfl rfl a2.range0 zj) ?_;rw[Qx ao (show ndC b t=5 from a4) dE];exact⟨rfl,hC,a3.u⟩
  have bv:=ak.1 bv;refine zn3 ?_;replace a3:=a3.tr0 ck;replace a2:=a2.tr0 ck;refine yy (rgq [] 73 9) 81 (.bool (decide (t.index<0\/(b:Int)<=t.index))) nu ?_ (fun gq=>?_)
  ·refine zn5 ?_;refine zQ 76 rfl (fun g76=>?_) (fun g76=>?_)
   ·refine zn5 ?_;exact vx
   refine zn9 ?_;exact vx
  refine e_S ?_;refine zK rfl (fun cy=>?_) (fun cy=>?_)
  ·have a4:ndC b t=15:=by unfold ndC;rw[if_neg b1,if_pos be,if_pos bv,if_pos cy]
   refine zn3 ?_;refine xw rfl CZ (uY b9 _ _ _ ab.u) rfl rfl (fun e' w21 hr=>?_);obtain⟨rfl,cg⟩:=hr;replace cg:=sB cg;replace hC:=hC.st cg (by simp);refine⟨_,rfl,?_⟩;refine zJ a2.u (fun w22 hq s21=>?_);replace hC:=hC.st s21 (fun g hg=>by rw[List.mem_singleton.1 hg];first|exact .inl rfl|exact .inr a1);replace a2:=hq;refine zn5 ?_;refine xX (.inl rfl) rfl (zw U43 rfl rfl a2.range0 zj) ?_;rw[Qx ao (show ndC b t=15 from a4) dE];exact⟨rfl,hC,a3.u⟩
  have a4:ndC b t=0:=by unfold ndC;rw[if_neg b1,if_pos be,if_pos bv,if_neg cy]
  have cv:t.args= []:=aI.1 bv.2.2;refine zn5 ?_;refine uW (cs:=#[.int .i64 0,.int .i64 0]) ?_;refine zJ a2 (fun w23 hq s22=>?_);replace hC:=hC.st s22 (fun g hg=>by rw[List.mem_singleton.1 hg];first|exact .inl rfl|exact .inr a1);replace a2:=hq;refine zn3 ?_;refine xX (.inl rfl) rfl (zw U43 rfl rfl a2.range0 zj) ?_;rw[twk_nil ao a4 cv];exact⟨rfl,hC,a3.u⟩
 refine zn6 ?_;refine zK rfl (fun bf=>?_) (fun bf=>?_)
 ·refine yz (yz ?_);refine yy (rgq [] 86 14) 99 (.bool (decide (¬(t.name=⟨#[]⟩/\t.index=0/\t.args.length=1)))) nu ?_ (fun gq=>?_)
  ·refine zn5 ?_;refine zQ 89 rfl (fun bo=>?_) (fun bo=>?_)
   ·refine jZ ?_;refine kv ?_
    first|exact ac (ah (by exact fun h=>bo h.1)).symm|exact ac (ah (by exact fun h=>bn h.2.1)).symm|exact ac (ai.2 (by exact⟨fun k h=>k (by have:=h.2.2;omega),fun k e=>k ⟨ak.1 bo,ak.1 bn,by omega⟩⟩))
   refine zn8 ?_;refine zQ 94 rfl (fun bn=>?_) (fun bn=>?_)
   ·refine zn5 ?_;refine kv ?_
    first|exact ac (ah (by exact fun h=>bo h.1)).symm|exact ac (ah (by exact fun h=>bn h.2.1)).symm|exact ac (ai.2 (by exact⟨fun k h=>k (by have:=h.2.2;omega),fun k e=>k ⟨ak.1 bo,ak.1 bn,by omega⟩⟩))
   refine zn9 ?_;refine kv ?_
   first|exact ac (ah (by exact fun h=>bo h.1)).symm|exact ac (ah (by exact fun h=>bn h.2.1)).symm|exact ac (ai.2 (by exact⟨fun k h=>k (by have:=h.2.2;omega),fun k e=>k ⟨ak.1 bo,ak.1 bn,by omega⟩⟩))
  refine e_S ?_;refine zK rfl (fun bu=>?_) (fun bu=>?_)
  ·have a4:ndC b t=5:=by unfold ndC;rw[if_neg b1,if_neg be,if_pos bf,if_neg bu]
   refine zn3 ?_;refine xw rfl CZ (uY b9 _ _ _ ab) rfl rfl (fun e' w24 hr=>?_);obtain⟨rfl,cf⟩:=hr;replace cf:=sB cf;replace hC:=hC.st cf (by simp);refine⟨_,rfl,?_⟩;refine zJ a2.u (fun w25 hq s24=>?_);replace hC:=hC.st s24 (fun g hg=>by rw[List.mem_singleton.1 hg];first|exact .inl rfl|exact .inr a1);replace a2:=hq;refine zn6 ?_;refine xX (.inl rfl) rfl (zw U43 rfl rfl a2.range0 zj) ?_;rw[Qx ao (show ndC b t=5 from a4) dE];exact⟨rfl,hC,a3.u⟩
  have bu:=ak.1 bu;have a9:0<t.args.length:=by omega
  refine zn6 ?_;refine wl (qK U61 rfl rfl (bd.u.sub (n:=2) (xs:=[_,_]) rfl) gW) ?_;refine zX kR (Fj A c t.type _ (hS.mono hB)) rfl (fun e' w26 hr=>?_);obtain⟨rfl,c8⟩:=hr;replace c8:=sB c8;replace hC:=hC.st c8 (by simp);refine⟨_,rfl,?_⟩;refine wl (r_fd1 (v:= .int _ _) U43 rfl U3 rfl rfl rfl) (zn3 ?_);refine zK rfl (fun bb=>?_) (fun bb=>?_)
  ·have a4:ndC b t=12:=by unfold ndC;rw[if_neg b1,if_neg be,if_pos bf,if_pos bu,if_neg bb]
   refine zn3 ?_;refine xw rfl CZ (uY b9 _ _ _ ab.u) rfl rfl (fun e' w27 hr=>?_);obtain⟨rfl,ce⟩:=hr;replace ce:=sB ce;replace hC:=hC.st ce (by simp);refine⟨_,rfl,?_⟩;refine zJ a2.u (fun w28 hq s27=>?_);replace hC:=hC.st s27 (fun g hg=>by rw[List.mem_singleton.1 hg];first|exact .inl rfl|exact .inr a1);replace a2:=hq;refine zn6 ?_;refine xX (.inl rfl) rfl (zw U43 rfl rfl a2.range0 zj) ?_;rw[Qx ao (show ndC b t=12 from a4) dE];exact⟨rfl,hC,a3.u⟩
  have bb:=ak.1 bb;have a4:ndC b t=0:=by unfold ndC;rw[if_neg b1,if_neg be,if_pos bf,if_pos bu,if_pos bb]
  obtain⟨tb,to,A0,c0,B0,m0,rfl,htb,htr,cr,cq⟩:=hT.at_ a9;have bw:=twk_one ao a4 (by rw[inB,if_pos bf]:inB t b=b+1) bu.2.2 a9;refine zn3 ?_;refine K6 9 kR kR (fun w29 s28=>?_);replace hC:=hC.st s28 (by simp);refine zn3 ?_;refine ws (xW (i:=0) U62 Oq rfl rfl a9 rfl) (zn5 ?_);refine Jy ?_;refine xw rfl kR (IH (t.args[0]'a9) (ap a9) A0 B0 c0 m0 (d+1) (b+1) (n+1) _ cr cq oG oG oG hB.u a3.u bc.u) rfl rfl (fun e' w30 hr=>?_);obtain⟨rfl,bm,bk⟩:=hr;replace hC:=hC.trans bm (fun g hg=> .inl hg);replace a2:=a2.tr0 (c8.t s28);replace a2:=a2.chG bm (fun hx=>by have hx:b8=bN:=hx;omega);replace a3:=bk;refine⟨_,rfl,?_⟩;refine zJ a2 (fun w31 hq s29=>?_);replace hC:=hC.st s29 (fun g hg=>by rw[List.mem_singleton.1 hg];first|exact .inl rfl|exact .inr a1);replace a2:=hq;refine zn5 ?_;refine xX (.inl rfl) rfl (zw U43 rfl rfl a2.range0 zj) ?_;rw[bw];exact⟨rfl,hC,a3.u⟩
 refine zn6 ?_;refine zK rfl (fun bg=>?_) (fun bg=>?_)
 ·refine yz (yz ?_);refine yX (rgq [] 121 20) (fun g w'=>(g 140= .bool (decide (¬(t.name=⟨#[]⟩/\t.index=0/\NW t.type/\t.args.length=2))))/\Same [] w5 w') ?_ (fun g27 w32 hI=>?_)
  ·have hZ:SameQ [] w5 w5:=Same.refl _ _;refine zn5 ?_;refine zQ 124 rfl (fun a8=>?_) (fun a8=>?_)
   ·refine R7 ?_;refine e_R ⟨agA,?_⟩;refine⟨?_,hZ⟩
    first|exact ac (ah (by exact fun h=>a8 h.1)).symm|exact ac (ah (by exact fun h=>a7 h.2.1)).symm|exact ac (ah (by exact fun h=>a6 h.2.2.1)).symm|exact ac (ai.2 (by exact⟨fun k h=>k (by have:=h.2.2.2;omega),fun k e=>k ⟨ak.1 a8,ak.1 a7,ak.1 a6,by omega⟩⟩))
   refine zn8 ?_;refine zQ 129 rfl (fun a7=>?_) (fun a7=>?_)
   ·refine jJ ?_;refine e_R ⟨agA,?_⟩;refine⟨?_,hZ⟩
    first|exact ac (ah (by exact fun h=>a8 h.1)).symm|exact ac (ah (by exact fun h=>a7 h.2.1)).symm|exact ac (ah (by exact fun h=>a6 h.2.2.1)).symm|exact ac (ai.2 (by exact⟨fun k h=>k (by have:=h.2.2.2;omega),fun k e=>k ⟨ak.1 a8,ak.1 a7,ak.1 a6,by omega⟩⟩))
   refine zn3 ?_;refine wl (qK U61 rfl rfl (bd.u.sub (n:=2) (xs:=[_,_]) rfl) gW) (zn1 ?_);refine zX kR (W6 A c t.type _) rfl (fun e' w33 hr=>?_);obtain⟨rfl,c7⟩:=hr;replace c7:=sB c7;replace hC:=hC.st c7 (by simp);replace hZ:=SameQ.trans hZ c7 (by simp);refine⟨_,rfl,?_⟩;refine zn4 ?_;refine zQ 135 rfl (fun a6=>?_) (fun a6=>?_)
   ·refine zn6 ?_;refine e_R ⟨agA,?_⟩;refine⟨?_,hZ⟩
    first|exact ac (ah (by exact fun h=>a8 h.1)).symm|exact ac (ah (by exact fun h=>a7 h.2.1)).symm|exact ac (ah (by exact fun h=>a6 h.2.2.1)).symm|exact ac (ai.2 (by exact⟨fun k h=>k (by have:=h.2.2.2;omega),fun k e=>k ⟨ak.1 a8,ak.1 a7,ak.1 a6,by omega⟩⟩))
   refine jZ ?_;refine e_R ⟨agA,?_⟩;refine⟨?_,hZ⟩
   first|exact ac (ah (by exact fun h=>a8 h.1)).symm|exact ac (ah (by exact fun h=>a7 h.2.1)).symm|exact ac (ah (by exact fun h=>a6 h.2.2.1)).symm|exact ac (ai.2 (by exact⟨fun k h=>k (by have:=h.2.2.2;omega),fun k e=>k ⟨ak.1 a8,ak.1 a7,ak.1 a6,by omega⟩⟩))
  obtain⟨cx,bi⟩:=hI;replace hC:=hC.st bi (by simp);refine Zq 140 _ cx nu (e_S ?_);refine zK rfl (fun b6=>?_) (fun b6=>?_)
  ·have a4:ndC b t=5:=by unfold ndC;rw[if_neg b1,if_neg be,if_neg bf,if_pos bg,if_neg b6]
   refine zn3 ?_;refine xw rfl CZ (uY b9 _ _ _ ab.u) rfl rfl (fun e' w34 hr=>?_);obtain⟨rfl,cd⟩:=hr;replace cd:=sB cd;replace hC:=hC.st cd (by simp);refine⟨_,rfl,?_⟩;refine zJ a2.u (fun w35 hq s33=>?_);replace hC:=hC.st s33 (fun g hg=>by rw[List.mem_singleton.1 hg];first|exact .inl rfl|exact .inr a1);replace a2:=hq;refine zn6 ?_;refine xX (.inl rfl) rfl (zw U43 rfl rfl a2.range0 zj) ?_;rw[Qx ao (show ndC b t=5 from a4) dE];exact⟨rfl,hC,a3.u⟩
  have b6:=ak.1 b6;have a9:0<t.args.length:=by omega
  have c3:1<t.args.length:=by omega
  have a4:ndC b t=0:=by unfold ndC;rw[if_neg b1,if_neg be,if_neg bf,if_pos bg,if_pos b6]
  obtain⟨tb,to,A0,c0,B0,m0,rfl,htb,htr,cr,cq⟩:=hT.at_ a9;obtain⟨_,_,A1,c1,B1,m1,e1,_,htr1,ks1,kt1⟩:=hT.at_ c3;cases e1;have bw:=twk_two ao a4 (by rw[inB,if_neg bf]:inB t b=b) b6.2.2.2 a9 c3;refine zn4 ?_;replace a3:=a3.tr0 bi;have ltNW:=a3.lt;replace hB:=hB.tr0 bi;have cu:=Bel.size hB;replace bd:=(((bd.tr0 (s2.t s3)).tr1 s4 oG).tr1 s5 oG).tr0 bi;have lt5W:=bd.lt;replace a2:=a2.tr0 bi;have lt8W:=a2.lt;replace ab:=ab.tr0 bi;have lt9W:=ab.lt;replace bc:=(((bc.tr0 (s1.t (s2.t s3))).tr1 s4 oG).tr1 s5 oG).tr0 bi;have ltVW:=bc.lt;have szCW:=hC.size;refine Yk 10 [143,144,145,146,147,148,149,150,151,11] [bN] 8 (fun ix v wv=>match ix with|0=>v= .func (.func 85) #[] (cI bN bV)|1=>v= .pointer (some ⟨b5,0+5,none⟩)|2=>v= .slice (some ⟨tb,to,none⟩) t.args.length m|3=>v= .pointer (some ⟨tb,to+0*6,none⟩)|4=>v= .agg (cC ((t.args[0]'a9)) A0 c0 B0 m0)|5=>v= .int .i64 d|6=>v= .int .i64 ((d:Nat)+1:Int)|7=>v= .int .i64 b|8=>v= .agg #[.int .i64 (twk (t.args[0]'a9) (d+1) b (n+1)).2.1,.int .i64 (twk (t.args[0]'a9) (d+1) b (n+1)).2.2]|9=>∃ bq,v= .pointer (some ⟨bq,0,none⟩)/\w32.heap.size<=bq/\Blk wv bq 43 #[.int .i64 0,.int .i64 0]|_=>True) (fun wq=>Blk wq bN 3 #[.int .i64 (((twk (t.args[0]'a9) (d+1) b (n+1)).1:Nat):Int)]) kR kR ?_ (fun _ _ h hs=>Blk.tr0 h hs) ?_ ?_ dE ?_
  ·intro ix v wv wv2 h s34
   match ix,h with
   | 0,h=>exact h
   | 1,h=>exact h
   | 2,h=>exact h
   | 3,h=>exact h
   | 4,h=>exact h
   | 5,h=>exact h
   | 6,h=>exact h
   | 7,h=>exact h
   | 8,h=>exact h
   | 9,h=>
    obtain⟨bz,c5,ba,an⟩:=h;exact⟨bz,c5,ba,an.tr0 s34⟩
   | _+10,h=>exact trivial
  ·intro ix o hix bj a5 gg wx s35 hd
   match ix,hix,bj,a5 with
   | 0,_,_,a5=>
    cases sI a5;refine qV (qW (v:= .func _ _ _) Tryd.underlying153 rfl rfl (bc.u.cell rfl)) ⟨Same.refl _ _,?_⟩;exact rfl
   | 1,_,_,a5=>
    cases sI a5;refine qV (Z5 U64 sz62 dE rfl rfl rfl) ⟨Same.refl _ _,?_⟩;exact rfl
   | 2,_,_,a5=>
    cases sI a5;refine aX 144 (hd 1 aY) ?_;refine qV (qW (v:= .slice _ _ _) U62 rfl rfl (bd.u.cell rfl)) ⟨Same.refl _ _,?_⟩;exact rfl
   | 3,_,_,a5=>
    cases sI a5;refine aX 145 (hd 2 aY) ?_;refine qV (xW (i:=0) U62 Oq rfl rfl a9 rfl) ⟨Same.refl _ _,?_⟩;exact rfl
   | 4,_,_,a5=>
    cases sI a5;replace hB:=hB.tr1 s35 cp;refine aX 146 (hd 3 aY) ?_;refine qV (qK U64 rfl rfl (hB.range htb htr) Oq) ⟨Same.refl _ _,?_⟩;exact rfl
   | 5,_,_,a5=>
    cases sI a5;refine qV (x7 (v:= .int _ _) rfl) ⟨Same.refl _ _,?_⟩;exact rfl
   | 6,_,_,a5=>
    cases sI a5;refine aX 148 (hd 5 aY) ?_;refine qV (X0 rfl rfl rfl oG) ⟨Same.refl _ _,?_⟩;exact rfl
   | 7,_,_,a5=>
    cases sI a5;refine qV (x7 (v:= .int _ _) rfl) ⟨Same.refl _ _,?_⟩;exact rfl
   | 8,_,bj,_=>exact absurd rfl bj
   | 9,_,_,a5=>
    cases sI a5;have hs0:=s35;refine jK (fun ops Q K=>?_);refine qw (cs:=#[.int .i64 0,.int .i64 0]) qQ rfl (fun bz w36 an s36 hr=>?_);exact K _ _ ⟨s36,⟨_,rfl,nLT hs0.size hr,an⟩⟩
   | _+10,hix,_,_=>exact absurd hix oG
  ·intro o a5 gg wx s37 hd;cases sI a5;replace hC:=hC.st s37 (by simp);refine aX 143 (hd 0 aY) (aX 147 (hd 4 aY) (aX 149 (hd 6 aY) (aX 150 (hd 7 aY) ?_)));refine jK (fun ops Q K=>?_);refine xw rfl kR (IH (t.args[0]'a9) (ap a9) A0 B0 c0 m0 (d+1) b (n+1) _ cr cq oG oG oG hB.u a3.u bc.u) rfl rfl (fun e' w2 hr=>?_);obtain⟨rfl,bm,cw⟩:=hr;have hs2:=bm.one;refine⟨_,rfl,K _ _ ⟨hs2,rfl,cw,fun kx v bj h=>?_⟩⟩
   match kx,bj,h with
   | 0,_,h=>exact h
   | 1,_,h=>exact h
   | 2,_,h=>exact h
   | 3,_,h=>exact h
   | 4,_,h=>exact h
   | 5,_,h=>exact h
   | 6,_,h=>exact h
   | 7,_,h=>exact h
   | 8,bj,_=>exact absurd rfl bj
   | 9,_,h=>
    obtain⟨bz,c5,ba,an⟩:=h;exact⟨bz,c5,ba,an.tr1 hs2 oG⟩
   | _+10,_,_=>exact trivial
  intro gg w37 cc cw hR;replace hB:=hB.tr1 cc cp;replace hC:=hC.st cc (fun g hg=>by rw[List.mem_singleton.1 hg];first|exact .inl rfl|exact .inr or_hC_bN);replace a3:=cw;obtain⟨bz,c5,ba,an⟩:=hR 9 dE;have b3:w.heap.size<=bz:=by omega
  refine xz 151 _ (hR 8 dE) nu (xz 11 _ c5 nu ?_);refine zJ an (fun w38 hq cb=>?_);replace hB:=hB.tr1 cb (nLT cu ba);replace hC:=hC.st cb (fun g hg=>by rw[List.mem_singleton.1 hg];first|exact .inl rfl|exact .inr b3);replace an:=hq;refine zn9 ?_;refine zK rfl (fun b4=>?_) (fun b4=>?_)
  ·rw[if_neg b4]at bw;refine zn3 ?_;refine zJ a2.u (fun w39 hq s40=>?_);replace hC:=hC.st s40 (fun g hg=>by rw[List.mem_singleton.1 hg];first|exact .inl rfl|exact .inr a1);replace a2:=hq;refine zn6 ?_;refine xX (.inl rfl) rfl (zw U43 rfl rfl a2.range0 zj) ?_;rw[bw];exact⟨rfl,hC,a3.u⟩
  have b4:(twk (t.args[0]'a9) (d+1) b (n+1)).2.1=0:=ak.1 b4;rw[if_pos b4]at bw;obtain⟨_,_,_,q1,q2⟩:=L0 _ _ _ _ b4;have hn3:(twk (t.args[0]'a9) (d+1) b (n+1)).1<=200:=by rw[q1];exact q2
  refine zn3 ?_;refine K6 8 kR kR (fun w40 s41=>?_);replace hC:=hC.st s41 (by simp);refine zn3 ?_;refine ws (xW (i:=1) U62 Oq rfl rfl c3 rfl) (zn4 ?_);refine Jy ?_;refine xw rfl kR (IH (t.args[1]'c3) (ap c3) A1 B1 c1 m1 (d+1) (b) ((twk (t.args[0]'a9) (d+1) b (n+1)).1) _ ks1 kt1 hn3 oG oG hB.u a3.u bc.u) rfl rfl (fun e' w41 hr=>?_);obtain⟨rfl,bm,bk⟩:=hr;replace hC:=hC.trans bm (fun g hg=> .inl hg);replace a2:=((a2.tr1 cc oG).tr1 cb oG).tr0 s41;replace a2:=a2.chG bm (fun hx=>by have hx:b8=bN:=hx;omega);replace a3:=bk;refine⟨_,rfl,?_⟩;refine zJ a2 (fun w42 hq s42=>?_);replace hC:=hC.st s42 (fun g hg=>by rw[List.mem_singleton.1 hg];first|exact .inl rfl|exact .inr a1);replace a2:=hq;refine zn5 ?_;refine xX (.inl rfl) rfl (zw U43 rfl rfl a2.range0 zj) ?_;rw[bw];exact⟨rfl,hC,a3.u⟩
 have a4:ndC b t=4:=by unfold ndC;rw[if_neg b1,if_neg be,if_neg bf,if_neg bg]
 refine zn3 ?_;refine xw rfl CZ (uY b9 _ _ _ ab) rfl rfl (fun e' w43 hr=>?_);obtain⟨rfl,ca⟩:=hr;replace ca:=sB ca;replace hC:=hC.st ca (by simp);refine⟨_,rfl,?_⟩;refine zJ a2.u (fun w44 hq s44=>?_);replace hC:=hC.st s44 (fun g hg=>by rw[List.mem_singleton.1 hg];first|exact .inl rfl|exact .inr a1);replace a2:=hq;refine zn5 ?_;refine xX (.inl rfl) rfl (zw U43 rfl rfl a2.range0 zj) ?_;rw[Qx ao (show ndC b t=4 from a4) dE];exact⟨rfl,hC,a3.u⟩
theorem twk_anyK(l0N:w0.heap.size<=bN)(a1:w0.heap.size<=bV)(nVN:bV≠bN):∀(k:Nat) (t:Tm),SizeOf.sizeOf t<k->∀(A B:Option Addr) (c m d b n:Nat) (w:World),SimsIn w0 A t.type.args->TmsIn w0 B t.args->n<=200->d<=41->b<=d->Bel w0 w->Blk w bN 3 #[.int .i64 ((n:Nat):Int)]->Blk w bV 153 #[.func (.func 85) #[] (cI bN bV)]->Calls Tryd.prog 85 #[.agg (cC (t) A c B m),.int .i64 ((d:Nat):Int),.int .i64 ((b:Nat):Int),.pointer (some ⟨bN,0,none⟩),.pointer (some ⟨bV,0,none⟩)] w fun e w'=>e= .returned (flV (twk t d b n).2)/\ChG (fun g=>g=bN) w w'/\Blk w' bN 3 #[.int .i64 (((twk t d b n).1:Nat):Int)]:=by
 intro k
 induction k with
 | zero=>intro t h;omega
 | succ k ih=>
  intro t h A B c m d b n w hS hT hn hd hbd hB hbN hbV;refine twk_step l0N a1 nVN hS hT (fun x hx A2 B2 c2 m2 d2 b2 n2 w2 h1 h2 h3 h4 h5 h6 h7 h8=>ih x ?_ A2 B2 c2 m2 d2 b2 n2 w2 h1 h2 h3 h4 h5 h6 h7 h8) hn hd hbd hB hbN hbV;have:=aN hx;cases t with
  | mk k nm i s l=>simp only[Tm.mk.sizeOf_spec,Tm.args]at h this;omega
theorem twk_any(l0N:w0.heap.size<=bN)(a1:w0.heap.size<=bV)(nVN:bV≠bN)(t:Tm)(A B:Option Addr)(c m d b n:Nat)(w:World):SimsIn w0 A t.type.args->TmsIn w0 B t.args->n<=200->d<=41->b<=d->Bel w0 w->Blk w bN 3 #[.int .i64 ((n:Nat):Int)]->Blk w bV 153 #[.func (.func 85) #[] (cI bN bV)]->Calls Tryd.prog 85 #[.agg (cC (t) A c B m),.int .i64 ((d:Nat):Int),.int .i64 ((b:Nat):Int),.pointer (some ⟨bN,0,none⟩),.pointer (some ⟨bV,0,none⟩)] w fun e w'=>e= .returned (flV (twk t d b n).2)/\ChG (fun g=>g=bN) w w'/\Blk w' bN 3 #[.int .i64 (((twk t d b n).1:Nat):Int)]:=twk_anyK l0N a1 nVN (SizeOf.sizeOf t+1) t (ax _) A B c m d b n w
end Go.Proofs.YtmfiholmfieieaaDoor
