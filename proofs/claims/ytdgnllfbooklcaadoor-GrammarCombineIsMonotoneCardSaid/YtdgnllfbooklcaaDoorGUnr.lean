/- The depth-first traversal of a graph as a relation, the numbers that it gives, and worlds that change in few blocks. What these functions of the program compute, at every world: slices.Index[[]bool,bool], glosswright/graph.fault, glosswright/graph.Loose, glosswright/glosswrightref3.LooseFault. What these functions of the program compute, at every world: glosswright/graph.Unreached, glosswright/glosswrightref3.Unreached. -/
import Derived.Test.YtdgnllfbooklcaaDoorGraph
import Derived.Test.YtdgnllfbooklcaaDoorU
import Derived.Test.YtdgnllfbooklcaaDoorName
namespace Go.Proofs.YtdgnllfbooklcaaDoor
open Go.RowKit
def nd (g:List Nd) (i:Nat):Nd:=g.getD i ⟨0,[]⟩
theorem yy {g:List Nd} {i:Nat} (hi:i < g.length):nd g i=g[i]:=by simp [nd,List.getD,hi]
def vz (g:List Nd) (i:Nat):List Nat:=(nd g i).ln.map (fun x=>x.2.toNat)
inductive DL (g:List Nd):List Nat→List Nat→List Nat→Prop
  | nil {o:List Nat}:DL g [] o o
  | old {i:Nat} {is o o':List Nat} (h:i ∈ o) (t:DL g is o o'):DL g (i :: is) o o'
  | new {i:Nat} {is o o1 o':List Nat} (h:¬i ∈ o) (s:DL g (vz g i) (o ++ [i]) o1) (t:DL g is o1 o'):DL g (i :: is) o o'
theorem DL.det {g:List Nd} {is o a:List Nat} (h:DL g is o a):∀ {b:List Nat},DL g is o b→a=b:=by
  induction h with
  | nil=>intro b k;cases k;rfl
  | old h t ih=>
    intro b k;cases k with
    | old h' t'=>exact ih t'
    | new h' s' t'=>exact absurd h h'
  | new h s t ihs iht=>
    intro b k;cases k with
    | old h' t'=>exact absurd h' h
    | new h' s' t'=>
      have:=ihs s';subst this;exact iht t'
theorem DL.append {g:List Nd} {xs a b:List Nat} (h:DL g xs a b):∀ {ys c:List Nat},DL g ys b c→DL g (xs ++ ys) a c:=by
  induction h with
  | nil=>intro ys c k;exact k
  | old h t ih=>intro ys c k;exact .old h (ih k)
  | new h s t ihs iht=>intro ys c k;exact .new h s (iht k)
def YX (o:List Nat) (x:Nat):Bool:=decide (x ∈ o)
structure OOk (n:Nat) (o:List Nat):Prop where
  lt:∀ x ∈ o,x < n
  cnt:o.length + jq n (YX o)≤n
theorem OOk.nil (n:Nat):OOk n []:=⟨fun x hx=>by simp at hx,by have:=Ey n (YX []);simpa using this⟩
theorem N6 {n i:Nat} {o:List Nat} (hi:i < n) (h:¬i ∈ o):jq n (YX (o ++ [i])) < jq n (YX o):=
  jv (fun x hx=>by
    simp only [YX,Bool.not_eq_true',decide_eq_false_iff_not,List.mem_append,not_or] at hx ⊢
    exact hx.1) (List.range n) i (List.mem_range.2 hi) (by simp [YX,h]) (by simp [YX])
theorem lack_more (n:Nat) (o s:List Nat):jq n (YX (o ++ s))≤jq n (YX o):=
  List.countP_mono_left (fun x _ hx=>by
    simp only [YX,Bool.not_eq_true',decide_eq_false_iff_not,List.mem_append,not_or] at hx ⊢
    exact hx.1)
theorem OOk.snoc {n i:Nat} {o:List Nat} (h:OOk n o) (hi:i < n) (hn:¬i ∈ o):OOk n (o ++ [i]):=
  ⟨fun x hx=>by
    rcases List.mem_append.1 hx with hx | hx
    · exact h.lt x hx
    · rw [List.mem_singleton.1 hx];exact hi,by
    have h1:=N6 hi hn
    have h2:=h.cnt
    simp only [List.length_append,List.length_cons,List.length_nil]
    omega⟩
theorem DL.ok {g:List Nd} (hr:∀ i,i < g.length→∀ t ∈ vz g i,t < g.length) {is o o':List Nat} (h:DL g is o o'):(∀ i ∈ is,i < g.length)→OOk g.length o→OOk g.length o'∧∃ s,o'=o ++ s:=by
  induction h with
  | nil=>intro _ k;exact⟨k,[],by simp⟩
  | old h t ih=>intro hi k;exact ih (fun i h=>hi i (List.mem_cons_of_mem _ h)) k
  | new h s t ihs iht=>
    intro hi k;have hlt:=hi _ (List.mem_cons_self ..);obtain⟨h1,s1,e1⟩:=ihs (hr _ hlt) (k.snoc hlt h);obtain⟨h2,s2,e2⟩:=iht (fun i h=>hi i (List.mem_cons_of_mem _ h)) h1;exact⟨h2,_,by rw [e2,e1,List.append_assoc,List.append_assoc]⟩
theorem D5 {nf:Nat} {g:List Nd} (h:PV nf g):∀ i,i < g.length→∀ t ∈ vz g i,t < g.length:=fun i hi t ht=>by
  simp only [vz,yy hi,List.mem_map] at ht
  obtain⟨x,hx,rfl⟩:=ht
  have:=h.ln i hi x hx
  omega
theorem F2 {g:List Nd} {i j t:Nat} (hi:i < g.length) (hj:j < (g[i]).ln.length) (ht:((g[i]).ln[j]).2=(t:Int)):(vz g i).take (j + 1)=(vz g i).take j ++ [t]:=by
  have hl:j < (vz g i).length:=by simp [vz,yy hi,hj]
  rw [List.take_succ_eq_append_getElem hl]
  congr 2
  simp [vz,yy hi,ht]
def uW (o:List Nat) (x:Nat):Int:=if x ∈ o then (o.idxOf x:Nat) else -1
theorem numO_nil (x:Nat):uW [] x= -1:=by simp [uW]
theorem numO_neg {o:List Nat} {x:Nat} (h:¬0≤uW o x):¬x ∈ o:=fun hx=>h (by simp only [uW,if_pos hx];omega)
theorem numO_pos {o:List Nat} {x:Nat} (h:0≤uW o x):x ∈ o:=by
  unfold uW at h;by_cases hx:x ∈ o
  · exact hx
  · rw [if_neg hx] at h;omega
theorem numO_snoc {o:List Nat} {i:Nat} (h:¬i ∈ o) (x:Nat):(if x=i then ((o.length:Nat):Int) else uW o x)=uW (o ++ [i]) x:=by
  unfold uW;by_cases e:x=i
  · subst e
    simp [List.idxOf_append,h]
  · by_cases hx:x ∈ o
    · simp [e,hx,List.idxOf_append]
    · simp [e,hx]
theorem row_num {n:Nat} {o:List Nat} {i:Nat} (h:¬i ∈ o):row n (fun x=>if x=i then Value.int .i64 ((o.length:Nat):Int) else .int .i64 (uW o x))=row n (fun x=> .int .i64 (uW (o ++ [i]) x)):=
  yK (fun x _=>by rw [← numO_snoc h];split <;> rfl)
def oV (o:List Nat):List Value:=o.map (fun(n:Nat)=>Value.int .i64 (n:Int))
theorem own_oV {w:World} {base:Nat} {A:Option Addr} {cap i:Nat} {o:List Nat} (h:Own w base 3 1 A (o.length + 1) cap (oV o ++ [Value.int .i64 (i:Int)])):Own w base 3 1 A (o ++ [i]).length cap (oV (o ++ [i])):=by
  unfold oV at h ⊢;rw [List.length_append,List.map_append];exact h
theorem sl_oV (A:Option Addr) (cap:Nat) (o:List Nat) (i:Nat):Value.slice A (o.length + 1) cap=Value.slice A (o ++ [i]).length cap:=by rw [List.length_append];rfl
structure Chg (base:Nat) (X:List Nat) (w w':World):Prop where
  os:w'.os=w.os
  tape:w'.tape=w.tape
  output:w'.output=w.output
  size:w.heap.size≤w'.heap.size
  blk:∀ k,k < base→¬k ∈ X→w'.heap[k]? =w.heap[k]?
theorem Chg.refl (base:Nat) (X:List Nat) (w:World):Chg base X w w:=⟨rfl,rfl,rfl,Nat.le_refl _,fun _ _ _=>rfl⟩
theorem Chg.trans {base:Nat} {X:List Nat} {a b c:World} (h:Chg base X a b) (k:Chg base X b c):Chg base X a c:=
  ⟨k.os.trans h.os,k.tape.trans h.tape,k.output.trans h.output,nLT h.size k.size,fun i hi hx=>(k.blk i hi hx).trans (h.blk i hi hx)⟩
theorem Chg.st {base:Nat} {X Y:List Nat} {a b c:World} (h:Chg base X a b) (k:Same Y b c) (hb:base≤b.heap.size) (hy:∀ g ∈ Y,g ∈ X∨base≤g):Chg base X a c:=
  h.trans ⟨k.os,k.tape,k.output,k.size,fun i hi hx=>k.blk i (nLL hi hb) (fun hm=>by
    rcases hy i hm with h1 | h1
    · exact hx h1
    · omega)⟩
theorem Blk.chg {base b t:Nat} {X:List Nat} {w w':World} {cs:Array Value} (h:Blk w b t cs) (hc:Chg base X w w') (hb:b < base) (hx:¬b ∈ X):Blk w' b t cs:=(hc.blk b hb hx).trans h
theorem Bel.chg {base:Nat} {X:List Nat} {w0 w w':World} (h:Bel w0 w) (hc:Chg base X w w') (hb:w0.heap.size≤base) (hx:∀ g ∈ X,w0.heap.size≤g):Bel w0 w':=
  ⟨hc.os.trans h.os,hc.tape.trans h.tape,hc.output.trans h.output,nLT h.size hc.size,fun k hk=>(hc.blk k (nLL hk hb) (fun hm=>by have:=hx k hm;omega)).trans (h.block k hk)⟩
def kV (m:Nat) (f h:Nat→Value):Array Value:=Array.ofFn (n:=m * 2) (fun i=>if i.val % 2=0 then f (i.val / 2) else h (i.val / 2))
theorem XW (m:Nat) (f h:Nat→Value):(kV m f h).size=m * 2:=by simp [kV]
theorem Dx {m i:Nat} {f h:Nat→Value} (hi:i < m):(kV m f h)[0 + i * 2 + 0]? =some (f i):=by
  have e1:0 + i * 2 + 0=i * 2:=by omega
  have e2:i * 2 < m * 2:=by omega
  rw [e1];simp [kV,e2]
theorem N1 {m i:Nat} {f h:Nat→Value} (hi:i < m):(kV m f h)[0 + i * 2 + 1]? =some (h i):=by
  have e1:0 + i * 2 + 1=i * 2 + 1:=by omega
  have e2:i * 2 + 1 < m * 2:=by omega
  have e3:(i * 2 + 1) % 2=1:=by omega
  have e4:(i * 2 + 1) / 2=i:=by omega
  rw [e1];simp [kV,e2,e3,e4]
theorem Dz {m i:Nat} {f h:Nat→Value} {v:Value}:(kV m f h).setIfInBounds (0 + i * 2 + 0) v=kV m (fun j=>if j=i then v else f j) h:=by
  apply Array.ext
  · simp [kV]
  · intro k h1 h2
    rw [Array.getElem_setIfInBounds (by simpa using h1)];simp only [kV,Array.getElem_ofFn];by_cases e:0 + i * 2 + 0=k
    · have e1:k % 2=0:=by omega
      have e2:k / 2=i:=by omega
      rw [if_pos e];simp [e1,e2]
    · rw [if_neg e]
      by_cases e1:k % 2=0
      · have e2:¬k / 2=i:=by omega
        simp [e1,e2]
      · simp [e1]
theorem D9 {m i:Nat} {f h:Nat→Value} {v:Value}:(kV m f h).setIfInBounds (0 + i * 2 + 1) v=kV m f (fun j=>if j=i then v else h j):=by
  apply Array.ext
  · simp [kV]
  · intro k h1 h2
    rw [Array.getElem_setIfInBounds (by simpa using h1)];simp only [kV,Array.getElem_ofFn];by_cases e:0 + i * 2 + 1=k
    · have e1:k % 2=1:=by omega
      have e2:k / 2=i:=by omega
      rw [if_pos e];simp [e1,e2]
    · rw [if_neg e]
      by_cases e1:k % 2=0
      · simp [e1]
      · have e2:¬k / 2=i:=by omega
        simp [e1,e2]
theorem ZX {m:Nat} {f f' h h':Nat→Value} (hf:∀ j,j < m→f j=f' j) (hh:∀ j,j < m→h j=h' j):kV m f h=kV m f' h':=by
  apply Array.ext
  · simp [kV]
  · intro k h1 h2
    have hk:k < m * 2:=by simpa [kV] using h1
    simp only [kV,Array.getElem_ofFn];rw [hf _ om,hh _ om]
theorem Dq (m:Nat) (a b:Value):madeCells #[a,b] (m * 2)=kV m (fun _=>a) (fun _=>b):=by
  apply Array.ext
  · simp [kV,madeCells]
  · intro k h1 h2
    simp only [kV,madeCells,Array.getElem_ofFn,Array.getElem_map,Array.getElem_range];rcases(by omega:k % 2=0∨k % 2=1) with e | e
    · simp [e]
    · simp [e]
def KV (o:List Nat) (x:Int×Int):Int×Int:=(x.1,uW o x.2.toNat)
def PZ (g:List Nd) (o:List Nat) (i:Nat):Nd:=⟨(nd g i).ty,(nd g i).ln.map (KV o)⟩
def yk (g:List Nd) (o:List Nat):List Nd:=o.map (PZ g o)
def lnV (xs:List (Int×Int)):List Value:=xs.flatMap (fun x=>[Value.int .i64 x.1,Value.int .i64 x.2])
theorem Tx (xs:List (Int×Int)) (x:Int×Int):lnV xs ++ [Value.int .i64 x.1,Value.int .i64 x.2]=lnV (xs ++ [x]):=by simp [lnV]
theorem YK:∀ (xs:List (Int×Int)) (k:Nat) (hk:k < xs.length),(lnV xs)[k * 2]? =some (Value.int .i64 (xs[k]).1)∧(lnV xs)[k * 2 + 1]? =some (Value.int .i64 (xs[k]).2)
  | [],k,hk=>by simp at hk
  | x :: xs,0,_=>by simp [lnV]
  | x :: xs,k + 1,hk=>by
    have h:=YK xs k (by simpa using hk)
    have e1:(k + 1) * 2=k * 2 + 1 + 1:=by omega
    have e2:(k + 1) * 2 + 1=k * 2 + 1 + 1 + 1:=by omega
    have e3:lnV (x :: xs)=Value.int .i64 x.1 :: Value.int .i64 x.2 :: lnV xs:=by simp [lnV]
    rw [e1,e3]
    simpa using h
theorem Dk {w:World} {base:Nat} {A:Option Addr} {cap:Nat} {xs:List (Int×Int)} (h:Own w base 95 2 A xs.length cap (lnV xs)):LinksIn w A xs:=
  ⟨h.max,fun hn=>by
    have hne:lnV xs≠[]:=by
      cases xs with
      | nil=>exact absurd rfl hn
      | cons x r=>simp [lnV]
    obtain⟨g,e,hb,hg,hc⟩:=h.cell hne;refine⟨g,0,e,hg,fun k hk j v hj=>?_⟩;have h2:=YK xs k hk
    match j,hj with
    | 0,hj=>cases hj;have:=hc _ _ h2.1;simpa using this
    | 1,hj=>cases hj;have:=hc _ _ h2.2;simpa using this
    | _ + 2,hj=>cases hj⟩
structure FrSame (B:Nat) (w w2:World):Prop where
  size:w.heap.size≤w2.heap.size
  blk:∀ k,B≤k→k < w.heap.size→w2.heap[k]? =w.heap[k]?
theorem FrSame.of {B:Nat} {w0 w w':World} {X:List Nat} (h:FrSame B w0 w) (hs:Same X w w') (hx:∀ g ∈ X,g < B∨w0.heap.size≤g):FrSame B w0 w':=
  ⟨nLT h.size hs.size,fun k hk hk2=>by
    rw [hs.blk k (nLL hk2 h.size) (fun hm=>by have:=hx k hm;omega)]
    exact h.blk k hk hk2⟩
theorem FrSame.refl (B:Nat) (w:World):FrSame B w w:=⟨Nat.le_refl _,fun _ _ _=>rfl⟩
theorem FrSame.at_ {B b t:Nat} {w w2:World} {cs:Array Value} (h:FrSame B w w2) (hb:Blk w b t cs) (hl:B≤b):Blk w2 b t cs:=(h.blk b hl hb.lt).trans hb
def RowO (w:World) (lo bs:Nat) (v:Value) (xs:List (Int×Int)):Prop:=∃ A c,v= .slice A xs.length c∧Own w lo 95 2 A xs.length c (lnV xs)∧∀ g ∈ aL A,g < bs
theorem Own.typ {w:World} {base:Nat} {e:TypeId} {sz:Nat} {A:Option Addr} {k cap:Nat} {xs:List Value} (h:Own w base e sz A k cap xs):∀ g ∈ aL A,∃ cs,Blk w g e cs:=fun g hg=>by
  rcases h.2 with ⟨hn,_⟩ | ⟨g',c,cur,hv,hb,hgg,r⟩
  · cases hn;cases hg
  · cases hv
    simp only [aL,List.mem_singleton] at hg
    subst hg;exact⟨cur,hgg⟩
theorem RowO.tr {w w':World} {lo bs:Nat} {v:Value} {xs:List (Int×Int)} {X:List Nat} (h:RowO w lo bs v xs) (hs:Same X w w') (hx:∀ g ∈ X,bs≤g∨∃ cs t,Blk w g t cs∧t≠95):RowO w' lo bs v xs:=by
  obtain⟨A,c,h1,h2,h3⟩:=h;refine⟨A,c,h1,h2.tr hs (fun g hg hm=>?_),h3⟩;rcases hx g hm with h4 | ⟨cs,t,h4,h5⟩
  · have:=h3 g hg;omega
  · obtain⟨cs2,h6⟩:=h2.typ g hg
    exact h5 (vw h4 h6)
theorem RowO.up {w:World} {lo bs bs':Nat} {v:Value} {xs:List (Int×Int)} (h:RowO w lo bs v xs) (hb:bs≤bs'):RowO w lo bs' v xs:=by
  obtain⟨A,c,h1,h2,h3⟩:=h;exact⟨A,c,h1,h2,fun g hg=>nLL (h3 g hg) hb⟩
theorem RowO.of {w:World} {lo base:Nat} {A:Option Addr} {cap:Nat} {xs:List (Int×Int)} (hl:lo≤base) (h:Own w base 95 2 A xs.length cap (lnV xs)):RowO w lo w.heap.size (.slice A xs.length cap) xs:=⟨A,cap,rfl,h.low hl,fun g hg=>(h.lt g hg).2⟩
theorem RowO.fr {w w2:World} {lo bs:Nat} {v:Value} {xs:List (Int×Int)} (h:RowO w lo bs v xs) (hf:FrSame lo w w2):RowO w2 lo bs v xs:=by
  obtain⟨A,c,h1,h2,h3⟩:=h;refine⟨A,c,h1,⟨h2.1,?_⟩,h3⟩;rcases h2.2 with hn | ⟨g,c,cur,hv,hb,hg,r⟩
  · exact .inl hn
  · exact .inr ⟨g,c,cur,hv,hb,(hf.blk g hb (kz hg)).trans hg,r⟩
def OrdF (w:World) (bn bd:Nat) (A:Option Addr) (o:List Nat):Prop:=
  (o= []∧A=none)∨(o≠[]∧∃ b,A=some ⟨b,0,none⟩∧b≠bn∧b < bd∧b < w.heap.size∧∀ k (hk:k < o.length),w.cell? ⟨b,0 + k,none⟩=some (.int .i64 (o[k]:Nat)))
theorem OrdF.nil (w:World) (bn bd:Nat):OrdF w bn bd none []:= .inl ⟨rfl,rfl⟩
theorem OrdF.tr {w w':World} {bn bd:Nat} {A:Option Addr} {o:List Nat} {X:List Nat} (h:OrdF w bn bd A o) (hs:Same X w w') (hx:∀ g ∈ X,g=bn∨bd≤g):OrdF w' bn bd A o:=by
  rcases h with h | ⟨h1,b,h2,h3,h4,h5,h6⟩
  · exact .inl h
  · refine .inr ⟨h1,b,h2,h3,h4,nLL h5 hs.size,fun k hk=>?_⟩
    rw [World.cell?_of_block (hs.blk b h5 (fun hm=>by rcases hx b hm with h | h <;> omega))];exact h6 k hk
theorem OrdF.up {w:World} {bn bd bd':Nat} {A:Option Addr} {o:List Nat} (h:OrdF w bn bd A o) (hb:bd≤bd'):OrdF w bn bd' A o:=by
  rcases h with h | ⟨h1,b,h2,h3,h4,h5,h6⟩
  · exact .inl h
  · exact .inr ⟨h1,b,h2,h3,nLL h4 hb,h5,h6⟩
def ndV (f h:Nat→Value) (k:Nat):List Value:=(List.range k).flatMap (fun x=>[f x,h x])
theorem Y5 (f h:Nat→Value) (k:Nat):ndV f h (k + 1)=ndV f h k ++ [f k,h k]:=by simp [ndV,List.range_succ,List.flatMap_append]
theorem ZJ {f f' h h':Nat→Value}:∀ {k:Nat},(∀ x,x < k→f x=f' x)→(∀ x,x < k→h x=h' x)→ndV f h k=ndV f' h' k
  | 0,_,_=>rfl
  | k + 1,h1,h2=>by rw [Y5,Y5,ZJ (fun x hx=>h1 x om) (fun x hx=>h2 x om),h1 k om,h2 k om]
theorem YQ (f h:Nat→Value):∀ k,(ndV f h k).length=k * 2
  | 0=>rfl
  | k + 1=>by rw [Y5,List.length_append,YQ f h k];simp only [List.length_cons,List.length_nil];omega
theorem Zj (f h:Nat→Value):∀ {k x:Nat},x < k→(ndV f h k)[x * 2]? =some (f x)∧(ndV f h k)[x * 2 + 1]? =some (h x)
  | 0,_,hx=>by omega
  | k + 1,x,hx=>by
    have hl:=YQ f h k
    rw [Y5]
    by_cases e:x < k
    · have ih:=Zj f h e
      rw [List.getElem?_append_left om,List.getElem?_append_left om]
      exact ih
    · have e2:x=k:=by omega
      subst e2
      rw [List.getElem?_append_right om,List.getElem?_append_right om,hl]
      have e3:x * 2 - x * 2=0:=by omega
      have e4:x * 2 + 1 - x * 2=1:=by omega
      rw [e3,e4];exact⟨rfl,rfl⟩
theorem Own.fr {w w2:World} {lo base:Nat} {e:TypeId} {sz:Nat} {A:Option Addr} {k cap:Nat} {xs:List Value} (h:Own w base e sz A k cap xs) (hl:lo≤base) (hf:FrSame lo w w2):Own w2 base e sz A k cap xs:=by
  refine⟨h.1,?_⟩;rcases h.2 with hn | ⟨g,c,cur,hv,hb,hg,r⟩
  · exact .inl hn
  · exact .inr ⟨g,c,cur,hv,hb,(hf.blk g (nLT hl hb) (kz hg)).trans hg,r⟩
theorem Dw {w:World} {lo base m cap bs:Nat} {A:Option Addr} {f h:Nat→Value} {gr:List Nd} (ho:Own w base 93 2 A m cap (ndV f h m)) (hm:gr.length=m) (hf:∀ k (hk:k < gr.length),f k= .int .i64 (gr[k]).ty) (hh:∀ k (hk:k < gr.length),RowO w lo bs (h k) (gr[k]).ln):NodesIn w A gr:=
  ⟨by rw [hm];exact ho.max,fun hn=>by
    have hne:ndV f h m≠[]:=fun h0=>by
      have h1:=YQ f h m
      rw [h0] at h1
      exact hn (List.length_eq_zero_iff.1 (by simp only [List.length_nil] at h1;omega))
    obtain⟨g,e,hb,hg,hc⟩:=ho.cell hne
    refine⟨g,0,e,hg,fun k hk=>?_⟩
    obtain⟨A',c,h1,h2,_⟩:=hh k hk
    have h3:=Zj f h (show k < m by omega)
    refine⟨A',c,fun j v hj=>?_,Dk h2⟩
    match j,hj with
    | 0,hj=>cases hj;rw [← hf k hk];have:=hc _ _ h3.1;simpa using this
    | 1,hj=>cases hj;rw [← h1];have:=hc _ _ h3.2;simpa using this
    | _ + 2,hj=>cases hj⟩
end Go.Proofs.YtdgnllfbooklcaaDoor
namespace Go.Proofs.YtdgnllfbooklcaaDoor
open Go.RowKit
theorem fn51:zZ Tryd.prog 51=true:=by kernel_rfl
theorem sz28:(Tryd.prog.info? 28).map (·.size)=some 1:=by kernel_rfl
theorem y5:(Tryd.prog.info? 3).map (·.size)=some 1:=by kernel_rfl
theorem zq:(Tryd.prog.info? 36).map (·.size)=some 2:=by kernel_rfl
theorem j8:(Tryd.prog.info? 4).map (·.size)=some 1:=by kernel_rfl
theorem sz91:(Tryd.prog.info? 91).map (·.size)=some 1:=by kernel_rfl
theorem K5:(Tryd.prog.info? 93).map (·.size)=some 2:=by kernel_rfl
theorem Vz:(Tryd.prog.info? 95).map (·.size)=some 2:=by kernel_rfl
theorem x7:(Tryd.prog.info? 36).map (·.zero)=some (some (.agg #[.int .i64 0,.int .i64 0])):=by kernel_rfl
theorem ze93:(Tryd.prog.info? 93).map (·.zero)=some (some (.agg #[.int .i64 0,.slice none 0 0])):=by kernel_rfl
theorem C1:(Tryd.prog.info? 95).map (·.zero)=some (some (.agg #[.int .i64 0,.int .i64 0])):=by kernel_rfl
theorem DZ (b n:Nat) (mk:Nat→Bool) (w:World) (hb:Blk w b 4 (row n (fun x=> .bool (mk x)))) (hn:n≤1000):Calls Tryd.prog 55 #[.slice (some ⟨b,0,none⟩) n n,.bool false] w fun e w'=>(∃ r,e= .returned (.int .i64 r)∧((r= -1∧∀ i,i < n→mk i=true)∨∃ k:Nat,r=k∧k < n∧mk k=false∧∀ i,i < k→mk i=true))∧Bel w w':=by
 refine enter Tryd.func55 Tryd.ntmps55 rfl (Nat.le_of_ble_eq_true rfl) ?_;have hB:Bel w w:=Below.refl _ _;refine V8 ?_;refine qQ [4,5,8,9,10,11,12,13,14,15,16,17,18] (fun m g w'=>∃ k:Nat,k≤n∧m=n - k∧g 8= .int .i64 k∧Bel w w'∧∀ i,i < k→mk i=true) (n) ?_ (fun m g2 w1 hI=>?_)
 ·exact⟨0,Nat.zero_le _,rfl,rfl,hB,fun i hi=>by omega⟩
 obtain⟨k,hk,hm,h8,hB,hA⟩:=hI;refine zX 8 _ h8 nu (zn6 ?_);refine zW rfl (fun c9=>?_) (fun c9=>?_)
 ·have hlt:k < n:=by omega
  refine E2 ?_;refine wl (qY (v:= .bool _) U4 rfl rfl ((hb.bel hB).cell (j9 hlt))) (wl (r_eqlB U4 rfl rfl) (zQ (e_S ?_)));refine kw rfl (fun c16=>?_) (fun c16=>?_)
  ·have hmk:mk k=false:=by simpa using c16
   refine Z8 ?_;exact⟨⟨_,rfl,.inr ⟨k,rfl,hlt,hmk,hA⟩⟩,hB⟩
  refine zn7 ?_;refine y6 (n - (k + 1)) om agA ?_
  exact⟨k + 1,by omega,rfl,rfl,hB,fun i hi=>by
    by_cases e:i=k
    · subst e;simpa using c16
    · exact hA i om⟩
 have hke:k=n:=by omega
 subst hke;refine jw ?_;exact⟨⟨_,rfl,.inl ⟨rfl,hA⟩⟩,hB⟩
theorem ZV (a b:Int) (w:World):Calls Tryd.prog 51 #[.int .i64 a,.int .i64 b] w fun e w'=>e= .returned (flV (a,b))∧Bel w w':=by
 refine enter Tryd.func51 Tryd.ntmps51 rfl (Nat.le_of_ble_eq_true rfl) ?_;have hB:Bel w w:=Below.refl _ _;refine zn2 ?_;refine qV (cs:=#[.int .i64 0,.int .i64 0]) x7 rfl (fun b4 w1 hb4 s1 hr=>?_);have lo4:=nLT (Bel.size hB) hr;refine zn6 ?_;refine wl (oK (v0:= .int _ _) (v1:= .int _ _) (fun v0 v1=>#[v0,v1]) rfl rfl kR) ?_;refine zk hb4 rfl rfl zq rfl zJ (fun w2 hq s2=>?_);replace hb4:=hq;refine zn3 ?_;refine y7 (.inl rfl) rfl (zw U36 rfl rfl hb4.range0 zq) ?_;replace hB:=(hB.tr0 s1).tr1 s2 lo4;exact⟨rfl,hB⟩
theorem loose_any (A B G:Option Addr) (c d cg:Nat) (l:List Ty) (fs:List Ft) (gr:List Nd) (w:World) (hG:NodesIn w G gr):Calls Tryd.prog 49 #[.agg #[.slice A l.length c,.slice B fs.length d],.agg #[.slice G gr.length cg]] w fun e w'=>e= .returned (flV (vk l.length fs.length gr))∧Bel w w':=by
 refine enter Tryd.func49 Tryd.ntmps49 rfl (Nat.le_of_ble_eq_true rfl) ?_;have hB:Bel w w:=Below.refl _ _;refine zn2 ?_;refine xk (v:= .agg #[_,_]) (cs:=#[_,_]) rfl rfl (fun b2 w1 hb2 s1 hr=>?_);refine xk (v:= .agg #[_]) (cs:=#[_]) rfl rfl (fun b3 w2 hb3 s2 hr=>?_);refine qV (cs:=#[.int .i64 0,.int .i64 0]) x7 rfl (fun b4 w3 hb4 s3 hr=>?_);replace hB:=hB.tr0 (s1.trans s2);have lo4:=nLT (Bel.size hB) hr;refine zn4 ?_;replace hB:=hB.tr0 s3;refine yV [10,11,12,13,14,15,16,17,18,19] 19 (.bool (decide (gr.length=0∨60 < gr.length))) nu ?_ (fun gq=>?_)
 ·refine zn6 ?_;refine zY 14 rfl (fun g14=>?_) (fun g14=>?_)
  ·refine zn5 ?_;refine zQ (e_R ⟨rfl,agA,?_⟩);exact clA
  refine zn9 ?_;refine zQ (e_R ⟨rfl,agA,?_⟩);exact clA
 refine e_S ?_;refine zW rfl (fun c19=>?_) (fun c19=>?_)
 ·refine zn2 ?_;refine qz fn51 (ZV _ _ _) rfl (fun e' w4 hr=>?_);obtain⟨rfl,s4⟩:=hr;replace s4:=sB s4;refine⟨_,rfl,?_⟩;replace hb4:=hb4.tr0 s4;refine zk hb4 rfl rfl zq rfl zJ (fun w5 hq s5=>?_);replace hb4:=hq;refine zn4 ?_;refine y7 (.inl rfl) rfl (zw U36 rfl rfl hb4.range0 zq) ?_;replace hB:=(hB.tr0 s4).tr1 s5 lo4;exact⟨xK (by simp only [vk,if_pos c19]),hB⟩
 have hR:=Lib.hid (show vk l.length fs.length gr=qZ (QK l.length fs.length gr) 0 (gr.length - 0) by simp only [vk,if_neg c19,Nat.sub_zero]);refine jw ?_;replace hb2:=hb2.tr0 (s2.trans s3);replace hb3:=hb3.tr0 s3;refine qQ [5,6,7,9,24,25,26,27,28,29,30,31,32,33,34,35,36,37,38,39,40,41,42,43,44,45,46,47,48,49,50,51,52,53,54,55,56,57,58,59,60,61,62,63,64,65,66,67,68,69,70,71,72,73,74,75,76,77,78,79,80,81,82,83,84] (fun m g w'=>∃ k:Nat,k≤gr.length∧m=gr.length - k∧g 24= .int .i64 k∧Bel w w'∧Blk w' b2 25 #[.slice A l.length c,.slice B fs.length d]∧Blk w' b3 30 #[.slice G gr.length cg]∧Blk w' b4 36 #[.int .i64 0,.int .i64 0]∧vk l.length fs.length gr=qZ (QK l.length fs.length gr) k (gr.length - k)) (gr.length) ?_ (fun m g4 w6 hI=>?_)
 ·exact⟨0,Nat.zero_le _,rfl,rfl,hB,hb2,hb3,hb4,hR.out⟩
 obtain⟨k,hk,hm,hk0,hB,hb2,hb3,hb4,hR'⟩:=hI;refine zX 24 _ hk0 nu (zn6 ?_);refine zW rfl (fun c25=>?_) (fun c25=>?_)
 ·have hlt:k < gr.length:=by omega
  obtain⟨nb,no,LA,lc,rfl,hnb,hnr,hln⟩:=hG.at_ hB hlt;have hmx:=hln.1;unfold j7 at hmx;refine zn8 ?_;refine wl (qW U93 rfl rfl hnr K5) ?_;refine qV (cs:=#[.int .i64 0,.slice none 0 0]) ze93 rfl (fun b6 w7 hb6 s6 hr=>?_);have:=nLL hb2.lt hr;have:=nLL hb3.lt hr;have:=nLL hb4.lt hr;have lo6:=nLT (Bel.size hB) hr;refine waI rfl ?_;refine zk hb6 rfl rfl K5 rfl zJ (fun w8 hq s7=>?_);replace hb6:=hq;refine zn4 ?_;replace hB:=(hB.tr0 s6).tr1 s7 lo6;replace hb4:=(hb4.tr0 s6).tr1 s7 om;refine yV [29,30,31,32,33,34,35,36,37,38,39] 39 (.bool (decide ((gr[k]'hlt).ty < 0∨(l.length:Int)≤(gr[k]'hlt).ty))) nu ?_ (fun gq=>?_)
  ·refine zn5 ?_;refine zY 32 rfl (fun g32=>?_) (fun g32=>?_)
   ·refine zn7 ?_;refine zQ (e_R ⟨rfl,agA,?_⟩);exact clA
   refine Z8 ?_;refine zQ (e_R ⟨rfl,agA,?_⟩);exact clA
  refine e_S ?_;refine zW rfl (fun c39=>?_) (fun c39=>?_)
  ·have hty:=JY (nf:=fs.length) hlt c39;refine zn3 ?_;refine qz fn51 (ZV _ _ _) rfl (fun e' w9 hr=>?_);obtain⟨rfl,s8⟩:=hr;replace s8:=sB s8;refine⟨_,rfl,?_⟩;replace hb4:=hb4.tr0 s8;refine zk hb4 rfl rfl zq rfl zJ (fun w10 hq s9=>?_);replace hb4:=hq;refine zn9 ?_;refine y7 (.inl rfl) rfl (zw U36 rfl rfl hb4.range0 zq) ?_;replace hB:=(hB.tr0 s8).tr1 s9 lo4;exact⟨xK (hR'.trans (xJ (c:=3) om hty dE)),hB⟩
  refine E2 ?_;replace hb2:=(hb2.tr0 s6).tr1 s7 om;replace hb3:=(hb3.tr0 s6).tr1 s7 om;refine qQ [7,9,45,46,47,48,49,50,51,52,53,54,55,56,57,58,59,60,61,62,63,64,65,66,67,68,69,70,71,72,73,74,75,76,77,78,79,80,81,82,83] (fun m g w'=>∃ (j:Nat) (last:Int),j≤(gr[k]'hlt).ln.length∧m=(gr[k]'hlt).ln.length - j∧g 45= .int .i64 j∧g 7= .int .i64 last∧Bel w w'∧Blk w' b2 25 #[.slice A l.length c,.slice B fs.length d]∧Blk w' b3 30 #[.slice (some ⟨nb,no,none⟩) gr.length cg]∧Blk w' b4 36 #[.int .i64 0,.int .i64 0]∧Blk w' b6 93 #[.int .i64 (gr[k]'hlt).ty,.slice LA (gr[k]'hlt).ln.length lc]∧QK l.length fs.length gr k=y9 fs.length gr.length last ((gr[k]'hlt).ln.drop j)) ((gr[k]'hlt).ln.length) ?_ (fun m g10 w11 hI=>?_)
  ·exact⟨0,-1,Nat.zero_le _,rfl,rfl,rfl,hB,hb2,hb3,hb4,hb6,Qk hlt c39⟩
  obtain⟨j,last,hj,hmj,h45,h7,hB,hb2,hb3,hb4,hb6,hP⟩:=hI;refine zX 45 _ h45 nu (zX 7 _ h7 nu (zn6 ?_));refine zW rfl (fun c46=>?_) (fun c46=>?_)
  ·have hlj:j < (gr[k]'hlt).ln.length:=by omega
   obtain⟨lb,lof,rfl,hlb,hlr⟩:=hln.at_ hB hlj;refine zn7 ?_;refine wl (qW U95 rfl rfl hlr Vz) ?_;refine yv (cs:=#[.int .i64 0,.int .i64 0]) C1 rfl (fun _=>rfl) (fun _=>rfl) Vz rfl zJ (fun b9 w13 hb9 s10 hr=>?_);refine zn4 ?_;replace hB:=hB.tr0 s10;replace hb4:=hb4.tr0 s10;refine yV [49,50,51,52,53,54,55,56,57,58,59,60,61,62,63,64,65,66,67,68,69,70,71,72] 72 (.bool (decide (((gr[k]'hlt).ln[j]'hlj).1 < 0∨(fs.length:Int)≤((gr[k]'hlt).ln[j]'hlj).1∨((gr[k]'hlt).ln[j]'hlj).2 < 0∨(gr.length:Int)≤((gr[k]'hlt).ln[j]'hlj).2))) nu ?_ (fun gq=>?_)
   ·refine zn5 ?_;refine zY 52 rfl (fun g52=>?_) (fun g52=>?_)
    ·refine zn20 ?_;refine zQ (e_R ⟨rfl,agA,?_⟩);exact clA
    refine V8 ?_;refine zY 60 rfl (fun g60=>?_) (fun g60=>?_)
    ·refine jw ?_;refine zQ (e_R ⟨rfl,agA,?_⟩);exact clA
    refine zn8 ?_;refine zY 65 rfl (fun g65=>?_) (fun g65=>?_)
    ·refine zn7 ?_;refine zQ (e_R ⟨rfl,agA,?_⟩);exact clA
    refine Z8 ?_;refine zQ (e_R ⟨rfl,agA,?_⟩);exact clA
   refine e_S ?_;refine zW rfl (fun c72=>?_) (fun c72=>?_)
   ·have hty:=hP.trans (ln_bad hlj (show uy _ _ _ from c72));refine zn3 ?_;refine qz fn51 (ZV _ _ _) rfl (fun e' w14 hr=>?_);obtain⟨rfl,s11⟩:=hr;replace s11:=sB s11;refine⟨_,rfl,?_⟩;replace hb4:=hb4.tr0 s11;refine zk hb4 rfl rfl zq rfl zJ (fun w15 hq s12=>?_);replace hb4:=hq;refine Z8 ?_;refine y7 (.inl rfl) rfl (zw U36 rfl rfl hb4.range0 zq) ?_;replace hB:=(hB.tr0 s11).tr1 s12 lo4;exact⟨xK (hR'.trans (xJ (c:=3) om hty dE)),hB⟩
   refine ZQ ?_;refine zW rfl (fun c78=>?_) (fun c78=>?_)
   ·have hty:=hP.trans (ln_ord hlj (show ¬uy _ _ _ from c72) c78);refine zn3 ?_;refine qz fn51 (ZV _ _ _) rfl (fun e' w16 hr=>?_);obtain⟨rfl,s13⟩:=hr;replace s13:=sB s13;refine⟨_,rfl,?_⟩;replace hb4:=hb4.tr0 s13;refine zk hb4 rfl rfl zq rfl zJ (fun w17 hq s14=>?_);replace hb4:=hq;refine Z8 ?_;refine y7 (.inl rfl) rfl (zw U36 rfl rfl hb4.range0 zq) ?_;replace hB:=(hB.tr0 s13).tr1 s14 lo4;exact⟨xK (hR'.trans (xJ (c:=13) om hty dE)),hB⟩
   have hP':=hP.trans (CV hlj (show ¬uy _ _ _ from c72) c78);refine Z8 ?_;refine y6 ((gr[k]'hlt).ln.length - (j + 1)) om agA ?_;replace hb2:=hb2.tr0 s10;replace hb3:=hb3.tr0 s10;replace hb6:=hb6.tr0 s10;exact⟨j + 1,_,by omega,rfl,rfl,rfl,hB,hb2,hb3,hb4,hb6,hP'⟩
  have hty0:=hP.trans (ln_end om);refine kv ?_;refine y6 (gr.length - (k + 1)) om agA ?_;exact⟨k + 1,by omega,rfl,rfl,hB,hb2,hb3,hb4,hR'.trans (jj hlt hty0)⟩
 refine zn7 ?_;refine wl (uZ (vs:=#[]) (cs:=#[.int .i64 0,.int .i64 0]) (by simp) kR) ?_;refine zk hb4 rfl rfl zq rfl zJ (fun w18 hq s15=>?_);replace hb4:=hq;refine zn3 ?_;refine y7 (.inl rfl) rfl (zw U36 rfl rfl hb4.range0 zq) ?_;replace hB:=hB.tr1 s15 lo4;exact⟨xK (hR'.trans (kj om)),hB⟩
theorem Fy (A B G:Option Addr) (c d cg:Nat) (l:List Ty) (fs:List Ft) (gr:List Nd) (w:World) (hG:NodesIn w G gr):Calls Tryd.prog 32 #[.agg #[.slice A l.length c,.slice B fs.length d],.agg #[.slice G gr.length cg]] w fun e w'=>e= .returned (flV (vk l.length fs.length gr))∧Bel w w':=by
 refine enter Tryd.func32 Tryd.ntmps32 rfl (Nat.le_of_ble_eq_true rfl) ?_;have hB:Bel w w:=Below.refl _ _;refine zn2 ?_;refine xk (v:= .agg #[_,_]) (cs:=#[_,_]) rfl rfl (fun b2 w1 hb2 s1 hr=>?_);refine xk (v:= .agg #[_]) (cs:=#[_]) rfl rfl (fun b3 w2 hb3 s2 hr=>?_);refine qV (cs:=#[.int .i64 0,.int .i64 0]) x7 rfl (fun b4 w3 hb4 s3 hr=>?_);replace hB:=hB.tr0 (s1.trans s2);have lo4:=nLT (Bel.size hB) hr;refine zn4 ?_;replace hB:=hB.tr0 s3;refine yV [9,10,11,12,13,14,15,16,17,18] 18 (.bool (decide (gr.length=0∨60 < gr.length))) nu ?_ (fun gq=>?_)
 ·refine zn6 ?_;refine zY 13 rfl (fun g13=>?_) (fun g13=>?_)
  ·refine zn5 ?_;refine zQ (e_R ⟨rfl,agA,?_⟩);exact clA
  refine zn9 ?_;refine zQ (e_R ⟨rfl,agA,?_⟩);exact clA
 refine e_S ?_;refine zW rfl (fun c18=>?_) (fun c18=>?_)
 ·refine zn2 ?_;refine wl (oK (v0:= .int _ _) (v1:= .int _ _) (fun v0 v1=>#[v0,v1]) rfl rfl kR) ?_;refine zk hb4 rfl rfl zq rfl zJ (fun w4 hq s4=>?_);replace hb4:=hq;refine zn4 ?_;refine y7 (.inl rfl) rfl (zw U36 rfl rfl hb4.range0 zq) ?_;replace hB:=hB.tr1 s4 lo4;exact⟨xK (by simp only [vk,if_pos c18]),hB⟩
 have hR:=Lib.hid (show vk l.length fs.length gr=qZ (QK l.length fs.length gr) 0 (gr.length - 0) by simp only [vk,if_neg c18,Nat.sub_zero]);refine jw ?_;replace hb2:=hb2.tr0 (s2.trans s3);replace hb3:=hb3.tr0 s3;refine qQ [5,6,7,8,23,24,25,26,27,28,29,30,31,32,33,34,35,36,37,38,39,40,41,42,43,44,45,46,47,48,49,50,51,52,53,54,55,56,57,58,59,60,61,62,63,64,65,66,67,68,69,70,71,72,73,74,75,76,77,78,79,80,81,82,83,84,85,86,87,88,89,90,91,92] (fun m g w'=>∃ k:Nat,k≤gr.length∧m=gr.length - k∧g 23= .int .i64 k∧Bel w w'∧Blk w' b2 25 #[.slice A l.length c,.slice B fs.length d]∧Blk w' b3 30 #[.slice G gr.length cg]∧Blk w' b4 36 #[.int .i64 0,.int .i64 0]∧vk l.length fs.length gr=qZ (QK l.length fs.length gr) k (gr.length - k)) (gr.length) ?_ (fun m g4 w5 hI=>?_)
 ·exact⟨0,Nat.zero_le _,rfl,rfl,hB,hb2,hb3,hb4,hR.out⟩
 obtain⟨k,hk,hm,hk0,hB,hb2,hb3,hb4,hR'⟩:=hI;refine zX 23 _ hk0 nu (zn6 ?_);refine zW rfl (fun c24=>?_) (fun c24=>?_)
 ·have hlt:k < gr.length:=by omega
  obtain⟨nb,no,LA,lc,rfl,hnb,hnr,hln⟩:=hG.at_ hB hlt;have hmx:=hln.1;unfold j7 at hmx;refine zn8 ?_;refine wl (qW U93 rfl rfl hnr K5) ?_;refine qV (cs:=#[.int .i64 0,.slice none 0 0]) ze93 rfl (fun b6 w6 hb6 s5 hr=>?_);have:=nLL hb2.lt hr;have:=nLL hb3.lt hr;have:=nLL hb4.lt hr;have lo6:=nLT (Bel.size hB) hr;refine waI rfl ?_;refine zk hb6 rfl rfl K5 rfl zJ (fun w7 hq s6=>?_);replace hb6:=hq;refine zn4 ?_;replace hB:=(hB.tr0 s5).tr1 s6 lo6;replace hb4:=(hb4.tr0 s5).tr1 s6 om;refine yV [28,29,30,31,32,33,34,35,36,37,38] 38 (.bool (decide ((gr[k]'hlt).ty < 0∨(l.length:Int)≤(gr[k]'hlt).ty))) nu ?_ (fun gq=>?_)
  ·refine zn5 ?_;refine zY 31 rfl (fun g31=>?_) (fun g31=>?_)
   ·refine zn7 ?_;refine zQ (e_R ⟨rfl,agA,?_⟩);exact clA
   refine Z8 ?_;refine zQ (e_R ⟨rfl,agA,?_⟩);exact clA
  refine e_S ?_;refine zW rfl (fun c38=>?_) (fun c38=>?_)
  ·have hty:=JY (nf:=fs.length) hlt c38;refine zn3 ?_;refine wl (oK (v0:= .int _ _) (v1:= .int _ _) (fun v0 v1=>#[v0,v1]) rfl rfl kR) ?_;refine zk hb4 rfl rfl zq rfl zJ (fun w8 hq s7=>?_);replace hb4:=hq;refine zn9 ?_;refine y7 (.inl rfl) rfl (zw U36 rfl rfl hb4.range0 zq) ?_;replace hB:=hB.tr1 s7 lo4;exact⟨xK (hR'.trans (xJ (c:=3) om hty dE)),hB⟩
  refine ZQ ?_;replace hb2:=(hb2.tr0 s5).tr1 s6 om;replace hb3:=(hb3.tr0 s5).tr1 s6 om;refine qQ [7,8,44,45,46,47,48,49,50,51,52,53,54,55,56,57,58,59,60,61,62,63,64,65,66,67,68,69,70,71,72,73,74,75,76,77,78,79,80,81,82,83,84,85,86,87,88,89,90,91] (fun m g w'=>∃ (j:Nat) (last:Int),j≤(gr[k]'hlt).ln.length∧m=(gr[k]'hlt).ln.length - j∧g 44= .int .i64 j∧Bel w w'∧Blk w' b2 25 #[.slice A l.length c,.slice B fs.length d]∧Blk w' b3 30 #[.slice (some ⟨nb,no,none⟩) gr.length cg]∧Blk w' b4 36 #[.int .i64 0,.int .i64 0]∧Blk w' b6 93 #[.int .i64 (gr[k]'hlt).ty,.slice LA (gr[k]'hlt).ln.length lc]∧(j=0→last= -1)∧(∀ h:0 < j∧j - 1 < (gr[k]'hlt).ln.length,last=((gr[k]'hlt).ln[j - 1]'h.2).1)∧QK l.length fs.length gr k=y9 fs.length gr.length last ((gr[k]'hlt).ln.drop j)) ((gr[k]'hlt).ln.length) ?_ (fun m g9 w9 hI=>?_)
  ·exact⟨0,-1,Nat.zero_le _,rfl,rfl,hB,hb2,hb3,hb4,hb6,fun _=>rfl,fun h=>by omega,Qk hlt c38⟩
  obtain⟨j,last,hj,hmj,h44,hB,hb2,hb3,hb4,hb6,hl0,hl1,hP⟩:=hI;refine zX 44 _ h44 nu (zn6 ?_);refine zW rfl (fun c45=>?_) (fun c45=>?_)
  ·have hlj:j < (gr[k]'hlt).ln.length:=by omega
   have hln':=hln;obtain⟨lb,lof,rfl,hlb,hlr⟩:=hln.at_ hB hlj;have hpd:∀ h:j - 1 < (gr[k]'hlt).ln.length,w.rangeAt lb (lof + (j - 1) * 2) [.int .i64 ((gr[k]'hlt).ln[j - 1]'h).1,.int .i64 ((gr[k]'hlt).ln[j - 1]'h).2]:=fun h=>by
     obtain⟨pb,po,he,hpb,hpr⟩:=hln'.at_ (Below.refl _ _:Bel w w) h;cases he;exact hpr
   refine zn8 ?_;refine wl (qW U95 rfl rfl hlr Vz) ?_;refine qV (cs:=#[.int .i64 0,.int .i64 0]) C1 rfl (fun b8 w10 hb8 s8 hr=>?_);have:=nLL hb2.lt hr;have:=nLL hb3.lt hr;have:=nLL hb4.lt hr;have:=nLL hb6.lt hr;have lo8:=nLT (Bel.size hB) hr;refine waI rfl ?_;refine zk hb8 rfl rfl Vz rfl zJ (fun w11 hq s9=>?_);replace hb8:=hq;refine zn4 ?_;replace hB:=(hB.tr0 s8).tr1 s9 lo8;replace hb4:=(hb4.tr0 s8).tr1 s9 om;refine yV [49,50,51,52,53,54,55,56,57,58,59,60,61,62,63,64,65,66,67,68,69,70,71,72] 72 (.bool (decide (((gr[k]'hlt).ln[j]'hlj).1 < 0∨(fs.length:Int)≤((gr[k]'hlt).ln[j]'hlj).1∨((gr[k]'hlt).ln[j]'hlj).2 < 0∨(gr.length:Int)≤((gr[k]'hlt).ln[j]'hlj).2))) nu ?_ (fun gq=>?_)
   ·refine zn5 ?_;refine zY 52 rfl (fun g52=>?_) (fun g52=>?_)
    ·refine zn20 ?_;refine zQ (e_R ⟨rfl,agA,?_⟩);exact clA
    refine V8 ?_;refine zY 60 rfl (fun g60=>?_) (fun g60=>?_)
    ·refine jw ?_;refine zQ (e_R ⟨rfl,agA,?_⟩);exact clA
    refine zn8 ?_;refine zY 65 rfl (fun g65=>?_) (fun g65=>?_)
    ·refine zn7 ?_;refine zQ (e_R ⟨rfl,agA,?_⟩);exact clA
    refine Z8 ?_;refine zQ (e_R ⟨rfl,agA,?_⟩);exact clA
   refine e_S ?_;refine zW rfl (fun c72=>?_) (fun c72=>?_)
   ·have hty:=hP.trans (ln_bad hlj (show uy _ _ _ from c72));refine zn3 ?_;refine wl (oK (v0:= .int _ _) (v1:= .int _ _) (fun v0 v1=>#[v0,v1]) rfl rfl kR) ?_;refine zk hb4 rfl rfl zq rfl zJ (fun w12 hq s10=>?_);replace hb4:=hq;refine Z8 ?_;refine y7 (.inl rfl) rfl (zw U36 rfl rfl hb4.range0 zq) ?_;replace hB:=hB.tr1 s10 lo4;exact⟨xK (hR'.trans (xJ (c:=3) om hty dE)),hB⟩
   refine zn3 ?_;refine ZY kR kR (fun w13 s11=>?_);refine zn3 ?_;replace hb2:=((hb2.tr0 s8).tr1 s9 om).tr0 s11;replace hb3:=((hb3.tr0 s8).tr1 s9 om).tr0 s11;replace hb6:=((hb6.tr0 s8).tr1 s9 om).tr0 s11;replace hB:=hB.tr0 s11;replace hb4:=hb4.tr0 s11;refine kZ 77 rfl (fun g77=>?_) (fun g77=>?_)
   ·refine vJ 77 rfl rfl (uK U95 y5 dE rfl rfl rfl) ?_;replace hb8:=hb8.tr0 s11;refine vJ 77 rfl rfl (qY (v:= .int _ _) U3 rfl rfl (hb8.cell rfl)) (vJ 77 rfl rfl (uK U93 sz91 dE rfl rfl rfl) (vJ 77 rfl rfl (qY (v:= .slice _ _ _) U91 rfl rfl (hb6.cell rfl)) (vJ 77 rfl rfl (x8 (v:= .int _ _) rfl) (vJ 77 rfl rfl (QX (c:=((j - 1:Nat):Int)) rfl rfl om om) (vJ 77 rfl rfl (yz (i:=j - 1) U91 Vz rfl rfl om rfl) (vJ 77 rfl rfl (uK U95 y5 dE rfl rfl rfl) (vJ 77 rfl rfl (qY (v:= .int _ _) U3 rfl rfl (hB.cell hlb (hpd om 0 _ rfl))) (vJ 77 rfl rfl (r_leq rfl rfl) (zn1 ?_)))))))));refine uX (e_S ?_);refine zW rfl (fun c88=>?_) (fun c88=>?_)
    ·have hty:=hP.trans (ln_ord hlj (show ¬uy _ _ _ from c72) (by have:=hl1 ⟨by omega,by omega⟩;omega));refine zn3 ?_;refine wl (oK (v0:= .int _ _) (v1:= .int _ _) (fun v0 v1=>#[v0,v1]) rfl rfl kR) ?_;refine zk hb4 rfl rfl zq rfl zJ (fun w14 hq s12=>?_);replace hb4:=hq;refine jw ?_;refine y7 (.inl rfl) rfl (zw U36 rfl rfl hb4.range0 zq) ?_;replace hB:=hB.tr1 s12 lo4;exact⟨xK (hR'.trans (xJ (c:=13) om hty dE)),hB⟩
    refine zn7 ?_;refine y6 ((gr[k]'hlt).ln.length - (j + 1)) om agA ?_;have hnl:¬((gr[k]'hlt).ln[j]'hlj).1≤last:=fun h=>by
      by_cases e:j=0
      · have:=hl0 e;omega
      · have:=hl1 ⟨by omega,by omega⟩
        omega
    exact⟨j + 1,((gr[k]'hlt).ln[j]'hlj).1,by omega,rfl,rfl,hB,hb2,hb3,hb4,hb6,fun h=>by omega,fun h=>rfl,hP.trans (CV hlj (show ¬uy _ _ _ from c72) hnl)⟩
   refine ZQ ?_;refine uX (zn9 ?_);refine y6 ((gr[k]'hlt).ln.length - (j + 1)) om agA ?_;have hnl:¬((gr[k]'hlt).ln[j]'hlj).1≤last:=fun h=>by
     by_cases e:j=0
     · have:=hl0 e;omega
     · have:=hl1 ⟨by omega,by omega⟩
       omega
   exact⟨j + 1,((gr[k]'hlt).ln[j]'hlj).1,by omega,rfl,rfl,hB,hb2,hb3,hb4,hb6,fun h=>by omega,fun h=>rfl,hP.trans (CV hlj (show ¬uy _ _ _ from c72) hnl)⟩
  have hty0:=hP.trans (ln_end om);refine kv ?_;refine y6 (gr.length - (k + 1)) om agA ?_;exact⟨k + 1,by omega,rfl,rfl,hB,hb2,hb3,hb4,hR'.trans (jj hlt hty0)⟩
 refine zn7 ?_;refine wl (uZ (vs:=#[]) (cs:=#[.int .i64 0,.int .i64 0]) (by simp) kR) ?_;refine zk hb4 rfl rfl zq rfl zJ (fun w15 hq s13=>?_);replace hb4:=hq;refine zn3 ?_;refine y7 (.inl rfl) rfl (zw U36 rfl rfl hb4.range0 zq) ?_;replace hB:=hB.tr1 s13 lo4;exact⟨xK (hR'.trans (kj om)),hB⟩
end Go.Proofs.YtdgnllfbooklcaaDoor
namespace Go.Proofs.YtdgnllfbooklcaaDoor
open Go.RowKit
theorem fn55:zZ Tryd.prog 55=true:=by kernel_rfl
theorem in3:(Tryd.prog.info? 3).map (fun i=>(i.zero,i.size,i.bytes))=some (some (.int .i64 0),1,8):=by kernel_rfl
theorem TX:(Tryd.prog.info? 4).map (fun i=>(i.zero,i.size,i.bytes))=some (some (.bool false),1,1):=by kernel_rfl
theorem Qv:(Tryd.prog.info? 3).map (·.zero)=some (some (.int .i64 0)):=by kernel_rfl
set_option maxHeartbeats 1000000 in
theorem unr_any (G:Option Addr) (cg nt nf:Nat) (gr:List Nd) (w:World) (hG:NodesIn w G gr) (hk:GOk nt nf gr):Calls Tryd.prog 52 #[.agg #[.slice G gr.length cg]] w fun e w'=>e= .returned (.int .i64 (Vv gr))∧Bel w w':=by
 have hn6:=hk.le;have hn0:=hk.pos;refine enter Tryd.func52 Tryd.ntmps52 rfl (Nat.le_of_ble_eq_true rfl) ?_;have hB:Bel w w:=Below.refl _ _;refine zn2 ?_;refine xk (v:= .agg #[_]) (cs:=#[_]) rfl rfl (fun b1 w1 hb1 s1 hr=>?_);refine zn8 ?_;refine Kx (m:=gr.length) OY TX rfl rfl rfl om om (fun b11 w2 hb11 s2 hr=>?_);have:=nLL hb1.lt hr;replace hB:=hB.tr0 s1;have lo11:=nLT (Bel.size hB) hr;refine zn6 ?_;refine wl (yz (i:=0) OY j8 rfl rfl hn0 rfl) ?_;refine xQ (v:= .bool _) hb11 rfl rfl j8 (by rw [row_size];omega) rfl u5 (fun w3 hq s3=>?_);replace hb11:=hq;rw [yK (g':=fun x=> .bool (Z7 (fun _=>false) 0 x)) (fun x _=>by by_cases e:x=0 <;> simp [Z7,e])] at hb11;refine zn5 ?_;refine qJ (cs:=#[_]) [(0,.int _ _)] rfl U70 y5 Qv dE dE kR rfl (fun b14 w4 hb14 s4 hr=>?_);have or_b11_b14:b11 < b14:=nLL hb11.lt hr;refine zn4 ?_;replace hB:=((hB.tr0 s2).tr1 s3 lo11).tr0 s4;replace hb1:=((hb1.tr0 s2).tr1 s3 om).tr0 s4;replace hb11:=hb11.tr0 s4;refine qQ [4,5,7,15,16,17,18,19,20,21,22,23,24,25,26,27,28,29,30,31,32,33,34,35,36,37,38,39,40,41,42,43,44,45,46,47,48,49,50,51,52,53,54,55] (fun m g w'=>∃ (st:List Int) (A4:Option Addr) (cap4:Nat) (mk:Nat→Bool),m=2 * jq gr.length mk + st.length∧2 * jq gr.length mk + st.length≤200∧g 4= .slice A4 st.length cap4∧Bel w w'∧Blk w' b1 30 #[.slice G gr.length cg]∧Blk w' b11 4 (row gr.length (fun x=> .bool (mk x)))∧Own w' (b11 + 1) 3 1 A4 (st).length cap4 ((st).map (Value.int .i64))∧DS gr mk st gr.length 0) (2 * jq gr.length (Z7 (fun _=>false) 0) + 1) ?_ (fun m g4 w5 hI=>?_)
 ·exact⟨[0],_,_,Z7 (fun _=>false) 0,rfl,by have:=Ey gr.length (Z7 (fun _=>false) 0);simp only [List.length_cons,List.length_nil];omega,rfl,hB,hb1,hb11,IK hb14 or_b11_b14 rfl dE,DS.start hn0⟩
 obtain⟨st,A4,cap4,mk,hm,hbd,h4,hB,hb1,hb11,ho,hds⟩:=hI;refine zX 4 _ h4 nu (zn8 ?_);refine zW rfl (fun c17=>?_) (fun c17=>?_)
 ·obtain⟨st1,z,rfl⟩:=HK (show 0 < st.length by omega);obtain⟨i,rfl,hin,hds1⟩:=hds.pop;have hlen:(st1 ++ [(i:Int)]).length=st1.length + 1:=by simp
  obtain⟨q,rfl,hqb,hql,hqc⟩:=ho.cell (by simp);have hz:w5.cell? ⟨q,0 + st1.length * 1,none⟩=some (.int .i64 (i:Int)):=by
    have:=hqc st1.length (.int .i64 (i:Int)) (by simp)
    simpa using this
  obtain⟨nb,no,LA,lc,rfl,hnb,hnr,hln⟩:=hG.at_ hB hin;have hmx:=hln.1;unfold j7 at hmx;refine zn8 ?_;refine wl (QX (c:=(st1.length:Int)) rfl rfl (by rw [hlen];omega) om) (wl (yz (i:=st1.length) U70 y5 rfl rfl (by rw [hlen];omega) rfl) (wl (qY (v:= .int _ _) U3 rfl rfl hz) (zn8 ?_)));refine wl (QX (c:=(st1.length:Int)) rfl rfl (by rw [hlen];omega) om) (wl (SJ (h:=st1.length) U70 y5 rfl rfl (by have:=ho.cap_le;omega)) (zn4 ?_));replace ho:Own w5 (b11 + 1) 3 1 (some ⟨q,0,none⟩) st1.length cap4 (st1.map (Value.int .i64)):=by
    have h:=ho.take (k':=st1.length) om om
    simpa using h
  refine zn4 ?_;refine wl (yz (i:=i) U28 K5 rfl rfl hin rfl) (zn1 ?_);refine wl (qY (v:= .slice _ _ _) U91 rfl rfl (hnr 1 _ rfl)) (zn5 ?_);refine qQ [4,7,36,37,38,39,40,41,42,43,44,45,46,47,48,49,50,51,52,53,54,55] (fun m g w'=>∃ (j:Nat) (st2:List Int) (A5:Option Addr) (cap5:Nat) (mk2:Nat→Bool),j≤(gr[i]'hin).ln.length∧m=(gr[i]'hin).ln.length - j∧g 36= .int .i64 j∧g 4= .slice A5 st2.length cap5∧2 * jq gr.length mk2 + st2.length≤2 * jq gr.length mk + st1.length∧Bel w w'∧Blk w' b1 30 #[.slice (some ⟨nb,no,none⟩) gr.length cg]∧Blk w' b11 4 (row gr.length (fun x=> .bool (mk2 x)))∧Own w' (b11 + 1) 3 1 A5 (st2).length cap5 ((st2).map (Value.int .i64))∧DS gr mk2 st2 i j) ((gr[i]'hin).ln.length) ?_ (fun m g8 w6 hI=>?_)
  ·exact⟨0,st1,_,_,mk,Nat.zero_le _,rfl,rfl,rfl,Nat.le_refl _,hB,hb1,hb11,ho,hds1⟩
  obtain⟨j,st2,A5,cap5,mk2,hj,hmj,h36,h4,hms,hB,hb1,hb11,ho,hds2⟩:=hI;refine zX 36 _ h36 nu (zX 4 _ h4 nu (zn6 ?_));refine zW rfl (fun c37=>?_) (fun c37=>?_)
  ·have hjl:j < (gr[i]'hin).ln.length:=by omega
   obtain⟨lb,lof,rfl,hlb,hlr⟩:=hln.at_ hB hjl;obtain⟨t,ht,htl⟩:∃ t:Nat,((gr[i]'hin).ln[j]'hjl).2=(t:Int)∧t < gr.length:=by
     have h1:=hk.ln i hin _ (List.getElem_mem hjl);exact⟨(((gr[i]'hin).ln[j]'hjl).2).toNat,by omega,by omega⟩
   refine zn7 ?_;refine wl (qW U95 rfl rfl hlr Vz) ?_;refine yv (cs:=#[.int .i64 0,.int .i64 0]) C1 rfl (fun _=>rfl) (fun _=>rfl) Vz rfl zJ (fun b7 w8 hb7 s5 hr=>?_);have:=nLL hb11.lt hr;have or_ho_b7:=fun g hg=>nLL (ho.lt g hg).2 hr
   refine zn3 ?_;rw [ht] at hb7;refine zn4 ?_;refine wl (yz (i:=t) OY j8 rfl rfl htl rfl) ?_;replace hb11:=hb11.tr0 s5;refine wl (qY (v:= .bool _) U4 rfl rfl (hb11.cell (j9 htl))) (zn3 ?_);replace hB:=hB.tr0 s5;replace hb1:=hb1.tr0 s5;replace ho:=ho.tr0 s5;refine kw rfl (fun c45=>?_) (fun c45=>?_)
   ·have hmt:mk2 t=false:=by simpa using c45
    refine zn5 ?_;refine wl (yz (i:=t) OY j8 rfl rfl htl rfl) ?_;refine xQ (v:= .bool _) hb11 rfl rfl j8 (by rw [row_size];omega) rfl u5 (fun w9 hq s6=>?_);replace ho:=ho.tr1 s6 (fun g hg=>by have:=(ho.lt g hg).1;(try have:=or_ho_b11 g hg);(try simp only [aL] at hg);(try simp only [List.mem_singleton] at hg);omega);replace hb11:=hq;rw [Sw] at hb11;refine zn6 ?_;refine qJ (cs:=#[_]) [(0,.int _ _)] rfl U70 y5 Qv dE dE kR rfl (fun b53 w10 hb53 s7 hr=>?_);replace hb1:=hb1.tr1 s6 om;have:=nLL hb1.lt hr;have:=nLL hb11.lt hr;replace hb11:=hb11.tr0 s7;replace ho:=ho.tr0 s7;refine kQ U70 in3 rfl dE ho hb53 rfl rfl rfl zJ dE om om hb11.lt (fun g54 cap54 w11 ho54 s8 hg=>?_);replace hb1:=hb1.tr0 s7;have ne_ho54_b1:g54≠b1:=fun e=>by
     have hl:=hb1.lt;rcases hg with hg | hg
     · have h1:=ho.lt g54 (by rw [hg];exact List.mem_singleton.2 rfl)
       (try have:=or_ho_b1 g54 (by rw [hg];exact List.mem_singleton.2 rfl));omega
     · omega
    have ne_ho54_b11:g54≠b11:=fun e=>by
     have hl:=hb11.lt;rcases hg with hg | hg
     · have h1:=ho.lt g54 (by rw [hg];exact List.mem_singleton.2 rfl)
       (try have:=or_ho_b11 g54 (by rw [hg];exact List.mem_singleton.2 rfl));omega
     · omega
    have ne_ho54_b7:g54≠b7:=fun e=>by
     replace hb7:=(hb7.tr1 s6 om).tr0 s7;have hl:=hb7.lt;rcases hg with hg | hg
     · have h1:=ho.lt g54 (by rw [hg];exact List.mem_singleton.2 rfl)
       (try have:=or_ho_b7 g54 (by rw [hg];exact List.mem_singleton.2 rfl));omega
     · omega
    replace hB:=(hB.tr1 s6 lo11).tr0 s7;replace hB:=hB.tr s8 (fun g hg=>nLT (Nat.le_succ_of_le lo11) (ho.lt g hg).1);replace hb1:=hb1.tr s8 (fun hx=>by have:=(ho.lt _ hx).1;(try have:=or_ho_b1 _ hx);omega);replace hb11:=hb11.tr s8 (fun hx=>by have:=(ho.lt _ hx).1;(try have:=or_ho_b11 _ hx);omega);refine zn8 ?_;refine y6 ((gr[i]'hin).ln.length - (j + 1)) om agA ?_
    first
      | exact⟨j + 1,st2 ++ [(t:Int)],_,_,Z7 mk2 t,by omega,rfl,rfl,Ex _ _ _ _,by have:=Tj htl hmt;simp only [List.length_append,List.length_cons,List.length_nil];omega,hB,hb1,hb11,IJ ho54,hds2.new hin hjl ht htl⟩
      | exact⟨j + 1,st2,_,_,mk2,by omega,rfl,rfl,rfl,hms,hB,hb1,hb11,ho,hds2.old hin hjl (by rw [ht];exact hmt)⟩
   have hmt:mk2 t=true:=by simpa using c45
   refine zn7 ?_;refine y6 ((gr[i]'hin).ln.length - (j + 1)) om agA ?_
   first
     | exact⟨j + 1,st2 ++ [(t:Int)],_,_,Z7 mk2 t,by omega,rfl,rfl,Ex _ _ _ _,by have:=Tj htl hmt;simp only [List.length_append,List.length_cons,List.length_nil];omega,hB,hb1,hb11,IJ ho54,hds2.new hin hjl ht htl⟩
     | exact⟨j + 1,st2,_,_,mk2,by omega,rfl,rfl,rfl,hms,hB,hb1,hb11,ho,hds2.old hin hjl (by rw [ht];exact hmt)⟩
  have hjx:j=(gr[i]'hin).ln.length:=by omega
  refine zn5 ?_;refine y6 (2 * jq gr.length mk2 + st2.length) om agA ?_;exact⟨st2,_,_,mk2,rfl,by omega,rfl,hB,hb1,hb11,ho,hds2.done hin hjx⟩
 have hst:st= []:=List.length_eq_zero_iff.1 om;subst hst;have hall:=hds.end_;refine zn8 ?_;refine qz fn55 (DZ b11 gr.length mk _ hb11 om) rfl (fun e' w12 hr=>?_);obtain⟨⟨r,rfl,hr⟩,s9⟩:=hr;replace s9:=sB s9;refine⟨_,rfl,?_⟩;refine zn5 ?_;have hun:r=Vv gr:=by
   rcases hr with ⟨h1,h2⟩ | ⟨k,h1,h2,h3,h4⟩
   · rw [h1];exact hall.yes h2
   · rw [h1];exact hall.no h2 h3 h4
 replace hB:=hB.tr0 s9;exact⟨X5 hun.symm,hB⟩
set_option maxHeartbeats 1000000 in
theorem runr_any (G:Option Addr) (cg nt nf:Nat) (gr:List Nd) (w:World) (hG:NodesIn w G gr) (hk:GOk nt nf gr):Calls Tryd.prog 34 #[.agg #[.slice G gr.length cg]] w fun e w'=>e= .returned (.int .i64 (Vv gr))∧Bel w w':=by
 have hn6:=hk.le;have hn0:=hk.pos;have hrg:=gok_rng hk;refine enter Tryd.func34 Tryd.ntmps34 rfl (Nat.le_of_ble_eq_true rfl) ?_;have hB:Bel w w:=Below.refl _ _;refine zn2 ?_;refine xk (v:= .agg #[_]) (cs:=#[_]) rfl rfl (fun b1 w1 hb1 s1 hr=>?_);refine zn8 ?_;refine Kx (m:=gr.length) OY TX rfl rfl rfl om om (fun b11 w2 hb11 s2 hr=>?_);have:=nLL hb1.lt hr;replace hB:=hB.tr0 s1;have lo11:=nLT (Bel.size hB) hr;refine zn6 ?_;refine wl (yz (i:=0) OY j8 rfl rfl hn0 rfl) ?_;refine xQ (v:= .bool _) hb11 rfl rfl j8 (by rw [row_size];omega) rfl u5 (fun w3 hq s3=>?_);replace hb11:=hq;rw [yK (g':=fun x=> .bool (Z7 (fun _=>false) 0 x)) (fun x _=>by by_cases e:x=0 <;> simp [Z7,e])] at hb11;refine jw ?_;replace hB:=(hB.tr0 s2).tr1 s3 lo11;replace hb1:=(hb1.tr0 s2).tr1 s3 om;refine qQ [4,5,7,17,18,19,20,21,22,23,24,25,26,27,28,29,30,31,32,33,34,35,36,37,38,39,40,41,42,43,44] (fun m g w'=>∃ (p:Nat) (mk:Nat→Bool),p≤gr.length∧m=gr.length - p∧g 17= .int .i64 p∧Bel w w'∧Blk w' b1 30 #[.slice G gr.length cg]∧Blk w' b11 4 (row gr.length (fun x=> .bool (mk x)))∧PS gr mk p) (gr.length) ?_ (fun m g4 w4 hI=>?_)
 ·exact⟨0,Z7 (fun _=>false) 0,Nat.zero_le _,rfl,rfl,hB,hb1,hb11,PS.start hn0⟩
 obtain⟨p,mk,hp,hm,h17,hB,hb1,hb11,hps⟩:=hI;refine zX 17 _ h17 nu (zn6 ?_);refine zW rfl (fun c18=>?_) (fun c18=>?_)
 ·refine Z8 ?_;refine qQ [4,5,7,22,23,24,25,26,27,28,29,30,31,32,33,34,35,36,37,38,39,40,41,42,43] (fun m g w'=>∃ (i:Nat) (mk2:Nat→Bool),i≤gr.length∧m=gr.length - i∧g 22= .int .i64 i∧Bel w w'∧Blk w' b1 30 #[.slice G gr.length cg]∧Blk w' b11 4 (row gr.length (fun x=> .bool (mk2 x)))∧PP gr mk mk2 i 0) (gr.length) ?_ (fun m g6 w5 hI=>?_)
  ·exact⟨0,mk,Nat.zero_le _,rfl,rfl,hB,hb1,hb11,PP.start hps⟩
  obtain⟨i,mk2,hi,hmi,h22,hB,hb1,hb11,hpp⟩:=hI;refine zX 22 _ h22 nu (zn6 ?_);refine zW rfl (fun c23=>?_) (fun c23=>?_)
  ·have hin:i < gr.length:=by omega
   obtain⟨nb,no,LA,lc,rfl,hnb,hnr,hln⟩:=hG.at_ hB hin;have hmx:=hln.1;unfold j7 at hmx;refine zn8 ?_;refine wl (qW U93 rfl rfl hnr K5) ?_;refine qV (cs:=#[.int .i64 0,.slice none 0 0]) ze93 rfl (fun b5 w6 hb5 s4 hr=>?_);have:=nLL hb1.lt hr;have:=nLL hb11.lt hr;have lo5:=nLT (Bel.size hB) hr;refine waI rfl ?_;refine zk hb5 rfl rfl K5 rfl zJ (fun w7 hq s5=>?_);replace hb5:=hq;refine ZQ ?_;replace hB:=(hB.tr0 s4).tr1 s5 lo5;replace hb1:=(hb1.tr0 s4).tr1 s5 om;replace hb11:=(hb11.tr0 s4).tr1 s5 om;refine qQ [7,30,31,32,33,34,35,36,37,38,39,40,41,42] (fun m g w'=>∃ (j:Nat) (mk3:Nat→Bool),j≤(gr[i]'hin).ln.length∧m=(gr[i]'hin).ln.length - j∧g 30= .int .i64 j∧Bel w w'∧Blk w' b1 30 #[.slice (some ⟨nb,no,none⟩) gr.length cg]∧Blk w' b11 4 (row gr.length (fun x=> .bool (mk3 x)))∧Blk w' b5 93 #[.int .i64 (gr[i]'hin).ty,.slice LA (gr[i]'hin).ln.length lc]∧PP gr mk mk3 i j) ((gr[i]'hin).ln.length) ?_ (fun m g9 w8 hI=>?_)
   ·exact⟨0,mk2,Nat.zero_le _,rfl,rfl,hB,hb1,hb11,hb5,hpp⟩
   obtain⟨j,mk3,hj,hmj,h30,hB,hb1,hb11,hb5,hpp3⟩:=hI;refine zX 30 _ h30 nu (zn6 ?_);refine zW rfl (fun c31=>?_) (fun c31=>?_)
   ·have hjl:j < (gr[i]'hin).ln.length:=by omega
    obtain⟨lb,lof,rfl,hlb,hlr⟩:=hln.at_ hB hjl;obtain⟨t,ht,htl⟩:∃ t:Nat,((gr[i]'hin).ln[j]'hjl).2=(t:Int)∧t < gr.length:=by
      have h1:=hk.ln i hin _ (List.getElem_mem hjl);exact⟨(((gr[i]'hin).ln[j]'hjl).2).toNat,by omega,by omega⟩
    refine zn7 ?_;refine wl (qW U95 rfl rfl hlr Vz) ?_;refine yv (cs:=#[.int .i64 0,.int .i64 0]) C1 rfl (fun _=>rfl) (fun _=>rfl) Vz rfl zJ (fun b7 w10 hb7 s6 hr=>?_);refine zn7 ?_;replace hb11:=hb11.tr0 s6;refine wl (qY (v:= .bool _) U4 rfl rfl (hb11.cell (j9 hin))) (zQ (e_S ?_));replace hB:=hB.tr0 s6;replace hb1:=hb1.tr0 s6;replace hb5:=hb5.tr0 s6;refine kw rfl (fun c37=>?_) (fun c37=>?_)
    ·rw [ht] at hb7;refine zn4 ?_;refine wl (yz (i:=t) OY j8 rfl rfl htl rfl) ?_;refine xQ (v:= .bool _) hb11 rfl rfl j8 (by rw [row_size];omega) rfl u5 (fun w11 hq s7=>?_);replace hb11:=hq;rw [Sw] at hb11;refine zn7 ?_;refine y6 ((gr[i]'hin).ln.length - (j + 1)) om agA ?_;replace hB:=hB.tr1 s7 lo11;replace hb1:=hb1.tr1 s7 om;replace hb5:=hb5.tr1 s7 om
     first
       | exact⟨j + 1,Z7 mk3 t,by omega,rfl,rfl,hB,hb1,hb11,hb5,hpp3.mark hin hjl ht c37⟩
       | exact⟨j + 1,mk3,by omega,rfl,rfl,hB,hb1,hb11,hb5,hpp3.skip c37⟩
    refine zn7 ?_;refine y6 ((gr[i]'hin).ln.length - (j + 1)) om agA ?_
    first
      | exact⟨j + 1,Z7 mk3 t,by omega,rfl,rfl,hB,hb1,hb11,hb5,hpp3.mark hin hjl ht c37⟩
      | exact⟨j + 1,mk3,by omega,rfl,rfl,hB,hb1,hb11,hb5,hpp3.skip c37⟩
   have hjx:j=(gr[i]'hin).ln.length:=by omega
   refine kv ?_;refine y6 (gr.length - (i + 1)) om agA ?_;exact⟨i + 1,mk3,by omega,rfl,rfl,hB,hb1,hb11,hpp3.next hin hjx⟩
  have hie:i=gr.length:=by omega
  rw [hie] at hpp;refine kv ?_;refine y6 (gr.length - (p + 1)) om agA ?_;exact⟨p + 1,mk2,by omega,rfl,rfl,hB,hb1,hb11,PP.end_ hrg hps hpp⟩
 have hpe:p=gr.length:=by omega
 rw [hpe] at hps;have hall:=hps.end_;refine zn8 ?_;refine qz fn55 (DZ b11 gr.length mk _ hb11 om) rfl (fun e' w12 hr=>?_);obtain⟨⟨r,rfl,hr⟩,s8⟩:=hr;replace s8:=sB s8;refine⟨_,rfl,?_⟩;refine zn5 ?_;have hun:r=Vv gr:=by
   rcases hr with ⟨h1,h2⟩ | ⟨k,h1,h2,h3,h4⟩
   · rw [h1];exact hall.yes h2
   · rw [h1];exact hall.no h2 h3 h4
 replace hB:=hB.tr0 s8;exact⟨X5 hun.symm,hB⟩
end Go.Proofs.YtdgnllfbooklcaaDoor
