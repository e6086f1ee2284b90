/- Arguments opened: graphs. Arguments opened: types and terms (structs that hold slices of themselves), rules, words and grammars; and the bounds of strings inside. -/
import Derived.Test.YtdgnllfbooklcaaDoorName
import Derived.Test.YtdgnllfbooklcaaDoorGraph
import Derived.Test.YtdgnllfbooklcaaDoorEng5
import Derived.SizedLaws
namespace Go.Proofs.YtdgnllfbooklcaaDoor
open Go.RowKit Go.ChangeShapes Go.WideShapes Go.Deep Go.Joins
section
variable {H:Type} {enc:TypeId×Value→H} {P:Program} {w:World} {base:Nat} {spare:Nat→Bool} {held:Bool}
theorem W7 {t e ti:TypeId} {f0 f1:Field} {fuel:Nat} {v:Value} {x:DataW H×List MemPlace} (ht:P.underlying t=some (.slice e)) (he:P.underlying e=some (.struct #[f0,f1])) (hsz:P.cellsOf e=2) (o0:f0.offset=0) (o1:f1.offset=1) (e0:f0.type=ti) (e1:f1.type=ti)
    (hi:P.underlying ti=some (.int .i64)) (hc1:P.cellsOf ti=1) (h:DataW.trod enc P w base spare held fuel t [v]=some x):
    ∃ A xs c,v= .slice A (List.length xs) c∧xs.length≤c∧LinksIn w A xs:=by
  obtain⟨A,len,c,rfl,hl,hm,hx⟩:=JK ht hsz dE h;by_cases h0:len=0
  · subst h0
    exact⟨A,[],c,rfl,Nat.zero_le _,Nat.zero_le _,fun h=>absurd rfl h⟩
  · obtain⟨b,o,rfl,hlt,hc⟩:=hx h0
    obtain⟨xs,hxl,hxs⟩:=jk (p:=fun i (z:Int×Int)=>w.rangeAt b (o + i * 2) [.int .i64 z.1,.int .i64 z.2]) (n:=len) (fun i hi'=>by
      obtain⟨cs,k,y,h1,h2,h3⟩:=hc i hi';obtain⟨v0,v1,n,y0,y1,rfl,g0,g1⟩:=My he h1 o0 o1 (by rw [e0];exact hc1) (by rw [e1];exact hc1) h3;rw [e0] at g0;rw [e1] at g1;obtain⟨z1,h5,_,_⟩:=DataW.trod_int hi g0;obtain⟨z2,h6,_,_⟩:=DataW.trod_int hi g1;rw [jJ h5,jJ h6] at h2
      exact⟨(z1,z2),h2⟩)
    subst hxl;exact⟨_,xs,c,rfl,hl,nLT hl hm,fun _=>⟨b,o,rfl,hlt,hxs⟩⟩
theorem KQ {t e ti tl te:TypeId} {f0 f1 g0 g1:Field} {fuel:Nat} {v:Value} {x:DataW H×List MemPlace} (ht:P.underlying t=some (.slice e)) (he:P.underlying e=some (.struct #[f0,f1])) (hsz:P.cellsOf e=2) (o0:f0.offset=0) (o1:f1.offset=1) (e0:f0.type=ti) (e1:f1.type=tl)
    (htl:P.underlying tl=some (.slice te)) (hte:P.underlying te=some (.struct #[g0,g1])) (hst:P.cellsOf te=2) (p0:g0.offset=0) (p1:g1.offset=1) (d0:g0.type=ti) (d1:g1.type=ti) (hcl:P.cellsOf tl=1)
    (hi:P.underlying ti=some (.int .i64)) (hc1:P.cellsOf ti=1) (h:DataW.trod enc P w base spare held fuel t [v]=some x):
    ∃ A gr c,v= .slice A (List.length gr) c∧gr.length≤c∧NodesIn w A gr:=by
  obtain⟨A,len,c,rfl,hl,hm,hx⟩:=JK ht hsz dE h;by_cases h0:len=0
  · subst h0
    exact⟨A,[],c,rfl,Nat.zero_le _,Nat.zero_le _,fun h=>absurd rfl h⟩
  · obtain⟨b,o,rfl,hlt,hc⟩:=hx h0
    obtain⟨gr,hxl,hxs⟩:=jk (p:=fun i (z:Nd)=>NdIn w b (o + i * 2) z) (n:=len) (fun i hi'=>by
      obtain⟨cs,k,y,h1,h2,h3⟩:=hc i hi';obtain⟨v0,v1,n,y0,y1,rfl,q0,q1⟩:=My he h1 o0 o1 (by rw [e0];exact hc1) (by rw [e1];exact hcl) h3;rw [e0] at q0;rw [e1] at q1;obtain⟨z1,h5,_,_⟩:=DataW.trod_int hi q0;obtain⟨A',xs,c',rfl,_,hin⟩:=W7 htl hte hst p0 p1 d0 d1 hi hc1 q1;rw [jJ h5] at h2
      exact⟨⟨z1,xs⟩,A',c',h2,hin⟩)
    subst hxl;exact⟨_,gr,c,rfl,hl,nLT hl hm,fun _=>⟨b,o,rfl,hlt,hxs⟩⟩
theorem T4 {e:TypeId} {f0:Field} {fuel:Nat} {cs:List Value} {x:DataW H×List MemPlace} (he:P.underlying e=some (.struct #[f0])) (hl:cs.length=1) (o0:f0.offset=0) (c0:P.cellsOf f0.type=1) (h:DataW.trod enc P w base spare held fuel e cs=some x):
    ∃ v0 n y0,cs= [v0]∧DataW.trod enc P w base spare held n f0.type [v0]=some y0:=by
  obtain⟨y0,n,_,_,h0⟩:=trod_struct1 he h
  match cs,hl with
  | [v0],_=>
    simp [o0,c0] at h0;exact⟨v0,n,y0,rfl,h0⟩
theorem grs_open {t e tg tn ti tl te:TypeId} {q0 f0 f1 g0 g1:Field} {fuel:Nat} {v:Value} {x:DataW H×List MemPlace} (ht:P.underlying t=some (.slice tg)) (hg:P.underlying tg=some (.struct #[q0])) (hgz:P.cellsOf tg=1) (r0:q0.offset=0) (s0:q0.type=tn) (hcn:P.cellsOf tn=1)
    (htn:P.underlying tn=some (.slice e)) (he:P.underlying e=some (.struct #[f0,f1])) (hsz:P.cellsOf e=2) (o0:f0.offset=0) (o1:f1.offset=1) (e0:f0.type=ti) (e1:f1.type=tl)
    (htl:P.underlying tl=some (.slice te)) (hte:P.underlying te=some (.struct #[g0,g1])) (hst:P.cellsOf te=2) (p0:g0.offset=0) (p1:g1.offset=1) (d0:g0.type=ti) (d1:g1.type=ti) (hcl:P.cellsOf tl=1)
    (hi:P.underlying ti=some (.int .i64)) (hc1:P.cellsOf ti=1) (h:DataW.trod enc P w base spare held fuel t [v]=some x):
    ∃ A gs c,v= .slice A (List.length gs) c∧gs.length≤c∧gs.length≤j7∧(gs≠[]→∃ b o,A=some ⟨b,o,none⟩∧b < w.heap.size∧∀ k (hk:k < gs.length),∃ A' c,w.rangeAt b (o + k * 1) [.slice A' (gs[k]).length c]∧NodesIn w A' gs[k]):=by
  subst s0;obtain⟨A,len,c,rfl,hl,hm,hx⟩:=JK ht hgz dE h;by_cases h0:len=0
  · subst h0
    exact⟨A,[],c,rfl,Nat.zero_le _,Nat.zero_le _,fun h=>absurd rfl h⟩
  · obtain⟨b,o,rfl,hlt,hc⟩:=hx h0
    obtain⟨gs,hxl,hxs⟩:=jk (p:=fun i (z:List Nd)=>∃ A' c,w.rangeAt b (o + i * 1) [.slice A' z.length c]∧NodesIn w A' z) (n:=len) (fun i hi'=>by
      obtain⟨cs,k,y,h1,h2,h3⟩:=hc i hi';obtain⟨v0,n,y0,rfl,q0⟩:=T4 hg h1 r0 hcn h3;obtain⟨A',gr,c',rfl,_,hin⟩:=KQ htn he hsz o0 o1 e0 e1 htl hte hst p0 p1 d0 d1 hcl hi hc1 q0
      exact⟨gr,A',c',h2,hin⟩)
    subst hxl;exact⟨_,gs,c,rfl,hl,nLT hl hm,fun _=>⟨b,o,rfl,hlt,hxs⟩⟩
end
end Go.Proofs.YtdgnllfbooklcaaDoor
namespace Go.Proofs.YtdgnllfbooklcaaDoor
open Go.RowKit Go.ChangeShapes Go.WideShapes Go.Deep Go.Joins
section
variable {H:Type} {enc:TypeId×Value→H} {P:Program} {w:World} {base:Nat} {spare:Nat→Bool} {held:Bool}
def Lw (P:Program) (t:TypeId) (d:DataW H):Prop:=∀ n ∈ d.weights P t,n≤reachBytes
theorem Nj {e:TypeId}:∀ {l:List (DataW H)} {d:DataW H},d ∈ l→∀ n ∈ d.weights P e,n ∈ DataW.weightsAll P e l
  | [],_,h,_,_=>nomatch h
  | a :: r,d,h,n,hn=>by
    simp only [DataW.weightsAll,List.mem_append]
    rcases List.mem_cons.1 h with rfl | h
    · exact .inl hn
    · exact .inr (Nj h n hn)
theorem WJ {t:TypeId} {fs:Array Field} {fuel:Nat} {cs:List Value} {x:DataW H×List MemPlace} (ht:P.underlying t=some (.struct fs)) (h:DataW.trod enc P w base spare held fuel t cs=some x):
    ∃ n,n < fuel∧cs.length=P.cellsOf t∧∀ (i:Nat) (f:Field),fs[i]? =some f→∃ y,DataW.trod enc P w base spare held n f.type ((cs.drop f.offset).take (P.cellsOf f.type))=some y∧(Lw P t x.1→Lw P f.type y.1):=by
  obtain⟨xs,n,rfl,rfl,hl,hlen,hf⟩:=DataW.trod_struct ht h;refine⟨n,Nat.lt_succ_self n,hl,fun i f hi=>?_⟩;have hil:i < xs.length:=by rw [hlen];exact(Array.getElem?_eq_some_iff.1 hi).1
  have h1:=hf i f hi;rw [List.getElem?_eq_getElem hil] at h1;refine⟨xs[i],h1,fun hw m hm=>hw m ?_⟩;show m ∈ DataW.weights P t (.agg (xs.map (·.1)));simp only [DataW.weights,ht];refine DataW.weights_mem_each (j:=i) (t:=f.type) (d:=(xs[i]).1) ?_ ?_ m hm
  · rw [List.getElem?_map,Array.getElem?_toList,hi];rfl
  · rw [List.getElem?_map,List.getElem?_eq_getElem hil];rfl
theorem slF {t e:TypeId} {sz fuel:Nat} {v:Value} {x:DataW H×List MemPlace} (ht:P.underlying t=some (.slice e)) (hsz:P.cellsOf e=sz) (hpos:0 < sz) (h:DataW.trod enc P w base spare held fuel t [v]=some x):
    ∃ A len c,v= .slice A len c∧len≤c∧c≤j7∧(len≠0→∃ b o,A=some ⟨b,o,none⟩∧b < w.heap.size∧∀ i,i < len→∃ cs k y,k < fuel∧cs.length=sz∧w.rangeAt b (o + i * sz) cs∧DataW.trod enc P w base spare held k e cs=some y∧(Lw P t x.1→Lw P e y.1)):=by
  rcases DataW.trod_slice ht h with ⟨hc,_⟩ | ⟨a,len,cap,elems,rest,n,rfl,hc,rfl,hb,hl,hm,hlen,hel,_⟩
  · rw [jJ hc]
    exact⟨none,0,0,rfl,Nat.le_refl _,Nat.zero_le _,fun h=>absurd rfl h⟩
  · rw [jJ hc]
    rw [hsz] at hel;have hi:∀ i (hi:i < len),∃ cs',w.cells? base (a.add (i * sz)) sz=some cs'∧DataW.trod enc P w base spare held n e cs'=some (elems[i]'om):=fun i hi=>by
      have key:=hel i hi;rw [List.getElem?_eq_getElem om] at key;exact Option.bind_eq_some_iff.1 key
    refine⟨some a,len,cap,rfl,hl,hm,fun h0=>?_⟩;obtain⟨b,o,s⟩:=a;have hsp:s=none∧b < w.heap.size:=by
      obtain⟨cs,h1,_⟩:=hi 0 om;obtain⟨_,h3,h4⟩:=World.cells?_some h1;have h5:=h4 0 hpos;have h6:cs[0]? =some (cs[0]'om):=List.getElem?_eq_getElem om;have h7:(Addr.add (Addr.add ⟨b,o,s⟩ (0 * sz)) 0)=⟨b,o,s⟩:=by simp [Addr.add]
      rw [h7,h6] at h5;exact⟨World.cell?_spot h5,Go.Clock.block_lt h5⟩
    obtain⟨rfl,hlt⟩:=hsp;refine⟨b,o,rfl,hlt,fun i hil=>?_⟩;obtain⟨cs,h1,h2⟩:=hi i om;obtain⟨_,h3,h4⟩:=World.cells?_some h1;refine⟨cs,n,_,Nat.lt_succ_self n,h3,fun j v hj=>?_,h2,fun hw m hm=>hw m ?_⟩
    · have hjl:=(List.getElem?_eq_some_iff.1 hj).1
      have h5:=h4 j om;rw [Addr.add_mid,Addr.add_mid] at h5;rw [h5];exact hj
    · show m ∈ DataW.weights P t (.slice (elems.map (·.1)) (rest.map (·.1)))
      simp only [DataW.weights,ht,List.mem_cons,List.mem_append];exact .inr (.inl (Nj (List.mem_map.2 ⟨_,List.getElem_mem om,rfl⟩) m hm))
theorem Vy {t:TypeId} {fuel:Nat} {v:Value} {x:DataW H×List MemPlace} (ht:P.underlying t=some .string) (h:DataW.trod enc P w base spare held fuel t [v]=some x):∃ s:ByteArray,v= .string s∧(Lw P t x.1→s.size < 9223372036854775807):=by
  obtain⟨s,h1,rfl,_⟩:=DataW.trod_string ht h;refine⟨s,jJ h1,fun hw=>?_⟩;have:=hw s.data.toList.length (by simp [DataW.weights]);have h2:s.data.toList.length=s.size:=Array.length_toList;unfold reachBytes at this;omega
structure SmT (P:Program) (e ts tstr:TypeId) (f0 f1:Field):Prop where
  he:P.underlying e=some (.struct #[f0,f1])
  hsz:P.cellsOf e=2
  o0:f0.offset=0
  o1:f1.offset=1
  e0:f0.type=tstr
  e1:f1.type=ts
  hts:P.underlying ts=some (.slice e)
  hs:P.underlying tstr=some .string
  cs:P.cellsOf tstr=1
  ct:P.cellsOf ts=1
theorem sims_open {e ts tstr:TypeId} {f0 f1:Field} (T:SmT P e ts tstr f0 f1):∀ (fuel:Nat) (v:Value) (x:DataW H×List MemPlace),DataW.trod enc P w base spare held fuel ts [v]=some x→∃ A l c,v= .slice A (List.length l) c∧l.length≤c∧SimsIn w A l:=by
  intro fuel
  induction fuel using Nat.strongRecOn with
  | ind fuel ih=>
    intro v x h;obtain⟨A,len,c,rfl,hl,hm,hx⟩:=slF T.hts T.hsz dE h;by_cases h0:len=0
    · subst h0
      exact⟨A,[],c,rfl,Nat.zero_le _,.nil⟩
    · obtain⟨b,o,rfl,hlt,hc⟩:=hx h0
      obtain⟨l,hxl,hxs⟩:=jk (p:=fun i (z:Sm)=>SimAt w b (o + i * 2) z) (n:=len) (fun i hi=>by
        obtain⟨cs,k,y,hk,h1,h2,h3,_⟩:=hc i hi;obtain⟨n,hn,hlc,hf⟩:=WJ T.he h3;obtain⟨y0,g0,_⟩:=hf 0 f0 rfl;obtain⟨y1,g1,_⟩:=hf 1 f1 rfl
        match cs,h1 with
        | [v0,v1],_=>
          rw [T.e0,T.o0,T.cs] at g0;rw [T.e1,T.o1,T.ct] at g1;obtain⟨s,rfl,_⟩:=Vy T.hs (show DataW.trod enc P w base spare held n tstr [v0]=some y0 from g0);obtain⟨A',l',c',rfl,_,hin⟩:=ih n om v1 y1 g1
          exact⟨.mk s l',.mk hlt h2 hin⟩)
      subst hxl;exact⟨_,l,c,rfl,hl,.more (nLT hl hm) hlt hxs⟩
theorem sim_open {e ts tstr:TypeId} {f0 f1:Field} (T:SmT P e ts tstr f0 f1) {fuel:Nat} {v0 v1:Value} {x:DataW H×List MemPlace} (h:DataW.trod enc P w base spare held fuel e [v0,v1]=some x):∃ (s:Sm) (A:Option Addr) (c:Nat),v0= .string s.base∧v1= .slice A s.args.length c∧SimsIn w A s.args:=by
  obtain⟨n,hn,hlc,hf⟩:=WJ T.he h;obtain⟨y0,g0,_⟩:=hf 0 f0 rfl;obtain⟨y1,g1,_⟩:=hf 1 f1 rfl;rw [T.e0,T.o0,T.cs] at g0;rw [T.e1,T.o1,T.ct] at g1;obtain⟨s,rfl,_⟩:=Vy T.hs (show DataW.trod enc P w base spare held n tstr [v0]=some y0 from g0);obtain⟨A',l',c',rfl,_,hin⟩:=sims_open T n v1 y1 g1;exact⟨.mk s l',A',c',rfl,rfl,hin⟩
structure TmT (P:Program) (m tm ti tstr e ts:TypeId) (f0 f1:Field) (g0 g1 g2 g3 g4:Field):Prop where
  S:SmT P e ts tstr f0 f1
  he:P.underlying m=some (.struct #[g0,g1,g2,g3,g4])
  hsz:P.cellsOf m=6
  o0:g0.offset=0
  o1:g1.offset=1
  o2:g2.offset=2
  o3:g3.offset=3
  o4:g4.offset=5
  e0:g0.type=ti
  e1:g1.type=tstr
  e2:g2.type=ti
  e3:g3.type=e
  e4:g4.type=tm
  htm:P.underlying tm=some (.slice m)
  hi:P.underlying ti=some (.int .i64)
  ci:P.cellsOf ti=1
  ct:P.cellsOf tm=1
section tm
variable {m tm ti tstr e ts:TypeId} {f0 f1 g0 g1 g2 g3 g4:Field}
theorem BX (T:TmT P m tm ti tstr e ts f0 f1 g0 g1 g2 g3 g4) {fuel:Nat} {cs:List Value} {x:DataW H×List MemPlace} (hl:cs.length=6) (h:DataW.trod enc P w base spare held fuel m cs=some x):
    ∃ (k i:Int) (nm:ByteArray) (s:Sm) (A:Option Addr) (c:Nat) (v:Value) (n:Nat) (y:DataW H×List MemPlace),n < fuel∧cs= [.int .i64 k,.string nm,.int .i64 i,.string s.base,.slice A s.args.length c,v]∧SimsIn w A s.args∧DataW.trod enc P w base spare held n tm [v]=some y:=by
  obtain⟨n,hn,hlc,hf⟩:=WJ T.he h;obtain⟨y0,q0,_⟩:=hf 0 g0 rfl;obtain⟨y1,q1,_⟩:=hf 1 g1 rfl;obtain⟨y2,q2,_⟩:=hf 2 g2 rfl;obtain⟨y3,q3,_⟩:=hf 3 g3 rfl;obtain⟨y4,q4,_⟩:=hf 4 g4 rfl
  match cs,hl with
  | [v0,v1,v2,v3,v4,v5],_=>
    rw [T.e0,T.o0,T.ci] at q0;rw [T.e1,T.o1,T.S.cs] at q1;rw [T.e2,T.o2,T.ci] at q2;rw [T.e3,T.o3,T.S.hsz] at q3;rw [T.e4,T.o4,T.ct] at q4;obtain⟨k,h5,_,_⟩:=DataW.trod_int T.hi (show DataW.trod enc P w base spare held n ti [v0]=some y0 from q0);obtain⟨nm,rfl,_⟩:=Vy T.S.hs (show DataW.trod enc P w base spare held n tstr [v1]=some y1 from q1);obtain⟨i,h6,_,_⟩:=DataW.trod_int T.hi (show DataW.trod enc P w base spare held n ti [v2]=some y2 from q2);obtain⟨s,A,c,rfl,rfl,hS⟩:=sim_open T.S (show DataW.trod enc P w base spare held n e [v3,v4]=some y3 from q3);rw [jJ h5,jJ h6];exact⟨k,i,nm,s,A,c,v5,n,y4,hn,rfl,hS,q4⟩
theorem tms_open (T:TmT P m tm ti tstr e ts f0 f1 g0 g1 g2 g3 g4):∀ (fuel:Nat) (v:Value) (x:DataW H×List MemPlace),DataW.trod enc P w base spare held fuel tm [v]=some x→∃ A l c,v= .slice A (List.length l) c∧l.length≤c∧TmsIn w A l:=by
  intro fuel
  induction fuel using Nat.strongRecOn with
  | ind fuel ih=>
    intro v x h;obtain⟨A,len,c,rfl,hl,hm,hx⟩:=slF T.htm T.hsz dE h;by_cases h0:len=0
    · subst h0
      exact⟨A,[],c,rfl,Nat.zero_le _,.nil⟩
    · obtain⟨b,o,rfl,hlt,hc⟩:=hx h0
      obtain⟨l,hxl,hxs⟩:=jk (p:=fun i (z:Tm)=>TmAt w b (o + i * 6) z) (n:=len) (fun i hi=>by
        obtain⟨cs,k,y,hk,h1,h2,h3,_⟩:=hc i hi;obtain⟨kd,ix,nm,s,A1,c1,v',n,y',hn,rfl,hS,h4⟩:=BX T h1 h3;obtain⟨A',l',c',rfl,_,hin⟩:=ih n om v' y' h4
        exact⟨.mk kd nm ix s l',.mk hlt h2 hS hin⟩)
      subst hxl;exact⟨_,l,c,rfl,hl,.more (nLT hl hm) hlt hxs⟩
theorem Hq (T:TmT P m tm ti tstr e ts f0 f1 g0 g1 g2 g3 g4) {fuel:Nat} {cs:List Value} {x:DataW H×List MemPlace} (hl:cs.length=6) (h:DataW.trod enc P w base spare held fuel m cs=some x):
    ∃ (t:Tm) (A:Option Addr) (c:Nat) (B:Option Addr) (d:Nat),cs= [.int .i64 t.kind,.string t.name,.int .i64 t.index,.string t.type.base,.slice A t.type.args.length c,.slice B t.args.length d]∧SimsIn w A t.type.args∧TmsIn w B t.args:=by
  obtain⟨kd,ix,nm,s,A1,c1,v',n,y',hn,rfl,hS,h4⟩:=BX T hl h;obtain⟨A',l',c',rfl,_,hin⟩:=tms_open T n v' y' h4;exact⟨.mk kd nm ix s l',A1,c1,A',c',rfl,hS,hin⟩
end tm
structure GrfT (P:Program) (tg tn e ti tl te:TypeId) (q0 f0 f1 g0 g1:Field):Prop where
  hg:P.underlying tg=some (.struct #[q0])
  hgz:P.cellsOf tg=1
  r0:q0.offset=0
  s0:q0.type=tn
  hcn:P.cellsOf tn=1
  htn:P.underlying tn=some (.slice e)
  he:P.underlying e=some (.struct #[f0,f1])
  hsz:P.cellsOf e=2
  o0:f0.offset=0
  o1:f1.offset=1
  e0:f0.type=ti
  e1:f1.type=tl
  htl:P.underlying tl=some (.slice te)
  hte:P.underlying te=some (.struct #[g0,g1])
  hst:P.cellsOf te=2
  p0:g0.offset=0
  p1:g1.offset=1
  d0:g0.type=ti
  d1:g1.type=ti
  hcl:P.cellsOf tl=1
  hi:P.underlying ti=some (.int .i64)
  hc1:P.cellsOf ti=1
theorem CY {tg tn e ti tl te:TypeId} {q0 f0 f1 g0 g1:Field} (T:GrfT P tg tn e ti tl te q0 f0 f1 g0 g1) {fuel:Nat} {v:Value} {x:DataW H×List MemPlace} (h:DataW.trod enc P w base spare held fuel tg [v]=some x):∃ A gr c,v= .slice A (List.length gr) c∧NodesIn w A gr:=by
  obtain⟨v0,n,y0,h1,h2⟩:=T4 T.hg rfl T.r0 (by rw [T.s0];exact T.hcn) h;rw [T.s0] at h2;obtain⟨A,gr,c,rfl,_,hin⟩:=KQ T.htn T.he T.hsz T.o0 T.o1 T.e0 T.e1 T.htl T.hte T.hst T.p0 T.p1 T.d0 T.d1 T.hcl T.hi T.hc1 h2;exact⟨A,gr,c,jJ h1,hin⟩
section rl
variable {m tm ti tstr e ts:TypeId} {f0 f1 g0 g1 g2 g3 g4:Field} {tg tn te' tl tk:TypeId} {q0 a0 a1 b0 b1:Field}
theorem Fk {t r:TypeId} {x0 x1 x2 x3 x4:Field} (T:TmT P m tm ti tstr e ts f0 f1 g0 g1 g2 g3 g4) (G:GrfT P tg tn te' ti tl tk q0 a0 a1 b0 b1) (ht:P.underlying t=some (.slice r)) (hr:P.underlying r=some (.struct #[x0,x1,x2,x3,x4])) (hsz:P.cellsOf r=10)
    (o0:x0.offset=0) (o1:x1.offset=1) (o2:x2.offset=2) (o3:x3.offset=3) (o4:x4.offset=4) (t0:x0.type=tstr) (t1:x1.type=tg) (t2:x2.type=ti) (t3:x3.type=ti) (t4:x4.type=m) {fuel:Nat} {v:Value} {x:DataW H×List MemPlace} (h:DataW.trod enc P w base spare held fuel t [v]=some x):
    ∃ A l c,v= .slice A (List.length l) c∧l.length≤c∧RulesIn w A l:=by
  obtain⟨A,len,c,rfl,hl,hm,hx⟩:=slF ht hsz dE h;by_cases h0:len=0
  · subst h0
    exact⟨A,[],c,rfl,Nat.zero_le _,Nat.zero_le _,fun h=>absurd rfl h⟩
  · obtain⟨b,o,rfl,hlt,hc⟩:=hx h0
    obtain⟨l,hxl,hxs⟩:=jk (p:=fun i (z:Rl)=>RlIn w b (o + i * 10) z) (n:=len) (fun i hi=>by
      obtain⟨cs,k,y,hk,h1,h2,h3,_⟩:=hc i hi;obtain⟨n,hn,hlc,hf⟩:=WJ hr h3;obtain⟨y0,p0,_⟩:=hf 0 x0 rfl;obtain⟨y1,p1,_⟩:=hf 1 x1 rfl;obtain⟨y2,p2,_⟩:=hf 2 x2 rfl;obtain⟨y3,p3,_⟩:=hf 3 x3 rfl;obtain⟨y4,p4,_⟩:=hf 4 x4 rfl
      match cs,h1 with
      | [v0,v1,v2,v3,v4,v5,v6,v7,v8,v9],_=>
        rw [t0,o0,T.S.cs] at p0;rw [t1,o1,G.hgz] at p1;rw [t2,o2,T.ci] at p2;rw [t3,o3,T.ci] at p3;rw [t4,o4,T.hsz] at p4;obtain⟨nm,rfl,_⟩:=Vy T.S.hs (show DataW.trod enc P w base spare held n tstr [v0]=some y0 from p0);obtain⟨B,gr,d,rfl,hG⟩:=CY G (show DataW.trod enc P w base spare held n tg [v1]=some y1 from p1);obtain⟨kd,h5,_,_⟩:=DataW.trod_int T.hi (show DataW.trod enc P w base spare held n ti [v2]=some y2 from p2);obtain⟨wt,h6,_,_⟩:=DataW.trod_int T.hi (show DataW.trod enc P w base spare held n ti [v3]=some y3 from p3);obtain⟨tt,A2,c2,B2,d2,h7,hS,hT⟩:=Hq T rfl (show DataW.trod enc P w base spare held n m [v4,v5,v6,v7,v8,v9]=some y4 from p4);rw [jJ h5,jJ h6,h7] at h2
        exact⟨⟨nm,gr,kd,wt,tt⟩,B,d,A2,c2,B2,d2,h2,hG,hS,hT⟩)
    subst hxl;exact⟨_,l,c,rfl,hl,nLT hl hm,fun _=>⟨b,o,rfl,hlt,hxs⟩⟩
theorem W8 {t r:TypeId} {x0 x1 x2 x3:Field} (T:TmT P m tm ti tstr e ts f0 f1 g0 g1 g2 g3 g4) (G:GrfT P tg tn te' ti tl tk q0 a0 a1 b0 b1) (ht:P.underlying t=some (.slice r)) (hr:P.underlying r=some (.struct #[x0,x1,x2,x3])) (hsz:P.cellsOf r=9)
    (o0:x0.offset=0) (o1:x1.offset=1) (o2:x2.offset=2) (o3:x3.offset=3) (t0:x0.type=tstr) (t1:x1.type=tg) (t2:x2.type=ti) (t3:x3.type=m) {fuel:Nat} {v:Value} {x:DataW H×List MemPlace} (hw:Lw P t x.1) (h:DataW.trod enc P w base spare held fuel t [v]=some x):
    ∃ A l c,v= .slice A (List.length l) c∧l.length≤c∧LexesIn w A l:=by
  obtain⟨A,len,c,rfl,hl,hm,hx⟩:=slF ht hsz dE h;by_cases h0:len=0
  · subst h0
    exact⟨A,[],c,rfl,Nat.zero_le _,Nat.zero_le _,fun h=>absurd rfl h⟩
  · obtain⟨b,o,rfl,hlt,hc⟩:=hx h0
    obtain⟨l,hxl,hxs⟩:=jk (p:=fun i (z:Lx)=>LxIn w b (o + i * 9) z) (n:=len) (fun i hi=>by
      obtain⟨cs,k,y,hk,h1,h2,h3,hwy⟩:=hc i hi;obtain⟨n,hn,hlc,hf⟩:=WJ hr h3;obtain⟨y0,p0,hw0⟩:=hf 0 x0 rfl;obtain⟨y1,p1,_⟩:=hf 1 x1 rfl;obtain⟨y2,p2,_⟩:=hf 2 x2 rfl;obtain⟨y3,p3,_⟩:=hf 3 x3 rfl
      match cs,h1 with
      | [v0,v1,v2,v3,v4,v5,v6,v7,v8],_=>
        rw [t0,o0,T.S.cs] at p0;rw [t0] at hw0;rw [t1,o1,G.hgz] at p1;rw [t2,o2,T.ci] at p2;rw [t3,o3,T.hsz] at p3;obtain⟨nm,rfl,hws⟩:=Vy T.S.hs (show DataW.trod enc P w base spare held n tstr [v0]=some y0 from p0);obtain⟨B,gr,d,rfl,hG⟩:=CY G (show DataW.trod enc P w base spare held n tg [v1]=some y1 from p1);obtain⟨wt,h6,_,_⟩:=DataW.trod_int T.hi (show DataW.trod enc P w base spare held n ti [v2]=some y2 from p2);obtain⟨tt,A2,c2,B2,d2,h7,hS,hT⟩:=Hq T rfl (show DataW.trod enc P w base spare held n m [v3,v4,v5,v6,v7,v8]=some y3 from p3);rw [jJ h6,h7] at h2
        exact⟨⟨nm,gr,wt,tt⟩,hws (hw0 (hwy hw)),B,d,A2,c2,B2,d2,h2,hG,hS,hT⟩)
    subst hxl;exact⟨_,l,c,rfl,hl,nLT hl hm,fun _=>⟨b,o,rfl,hlt,hxs⟩⟩
end rl
theorem lw_arg {ts:List TypeId} {ds:List (DataW H)} (h:(DataW.weightsEach P ts ds).all (·≤reachBytes)=true) {j:Nat} {t:TypeId} {d:DataW H} (ht:ts[j]? =some t) (hd:ds[j]? =some d):Lw P t d:=fun n hn=>by
  have:=List.all_eq_true.1 h _ (DataW.weights_mem_each ht hd n hn)
  simpa using this
end
end Go.Proofs.YtdgnllfbooklcaaDoor
