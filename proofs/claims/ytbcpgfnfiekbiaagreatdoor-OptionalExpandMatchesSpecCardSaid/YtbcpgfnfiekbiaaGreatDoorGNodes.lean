/- A graph in memory that nobody else can reach: its nodes may be written in place. Types and links apart. No program in sight. What these functions of the program compute, at every world: glosswright/graph.From. The canonical form of a valid graph is valid, and its own canonical form. No program in sight. What these functions of the program compute, at every world: slices.Equal[[]glosswright/api.Link,glosswright/api.Link], glosswright/glosswrightequal.Nodes. -/
import Derived.Test.YtbcpgfnfiekbiaaGreatDoorGLoose
import Derived.Test.YtbcpgfnfiekbiaaGreatDoorEng4
import Derived.Test.YtbcpgfnfiekbiaaGreatDoorU
import Derived.Test.YtbcpgfnfiekbiaaGreatDoorTrm
namespace Go.Proofs.YtbcpgfnfiekbiaaGreatDoor
open Go.RowKit
def SameQ (X:List Nat) (w w':World):Prop:=Same X w w'
theorem SameQ.trans {X:List Nat} {a b c:World} (h:SameQ X a b) {Y:List Nat} (k:Same Y b c) (hy:∀ g ∈ Y,g ∈ X):SameQ X a c:=Same.trans h (k.weak hy)
structure ChG (Z:Nat→Prop) (w w':World):Prop where
  os:w'.os=w.os
  tape:w'.tape=w.tape
  output:w'.output=w.output
  size:w.heap.size≤w'.heap.size
  blk:∀ k,k < w.heap.size→¬Z k→w'.heap[k]? =w.heap[k]?
theorem ChG.refl (Z:Nat→Prop) (w:World):ChG Z w w:=⟨rfl,rfl,rfl,Nat.le_refl _,fun _ _ _=>rfl⟩
theorem ChG.st {Z:Nat→Prop} {Y:List Nat} {a b c:World} (h:ChG Z a b) (k:Same Y b c) (hy:∀ g ∈ Y,Z g∨a.heap.size≤g):ChG Z a c:=
  ⟨k.os.trans h.os,k.tape.trans h.tape,k.output.trans h.output,nLT h.size k.size,fun i hi hx=>(k.blk i (nLL hi h.size) (fun hm=>(hy i hm).elim hx (fun h2=>by omega))).trans (h.blk i hi hx)⟩
theorem ChG.trans {Z Z':Nat→Prop} {a b c:World} (h:ChG Z a b) (k:ChG Z' b c) (hz:∀ g,Z' g→Z g∨a.heap.size≤g):ChG Z a c:=
  ⟨k.os.trans h.os,k.tape.trans h.tape,k.output.trans h.output,nLT h.size k.size,fun i hi hx=>(k.blk i (nLL hi h.size) (fun hm=>(hz i hm).elim hx (fun h2=>by omega))).trans (h.blk i hi hx)⟩
theorem ChG.one {b:Nat} {w w':World} (h:ChG (fun g=>g=b) w w'):Same [b] w w':=⟨h.os,h.tape,h.output,h.size,fun k hk hx=>h.blk k hk (fun e=>hx (List.mem_singleton.2 e))⟩
theorem Blk.chG {Z:Nat→Prop} {w w':World} {b t:Nat} {cs:Array Value} (h:Blk w b t cs) (hc:ChG Z w w') (hx:¬Z b):Blk w' b t cs:=(hc.blk b h.lt hx).trans h
theorem Bel.chG {Z:Nat→Prop} {w0 w w':World} (h:Bel w0 w) (hc:ChG Z w w') (hz:∀ g,Z g→w0.heap.size≤g):Bel w0 w':=
  ⟨hc.os.trans h.os,hc.tape.trans h.tape,hc.output.trans h.output,nLT h.size hc.size,fun k hk=>(hc.blk k (nLL hk h.size) (fun hm=>by have:=hz k hm;omega)).trans (h.block k hk)⟩
theorem ChG.bel {Z:Nat→Prop} {w w':World} (h:Bel w w'):ChG Z w w':=⟨h.os,h.tape,h.output,h.size,fun k hk _=>h.block k hk⟩
theorem RowO.chG {w w':World} {lo bs g:Nat} {v:Value} {xs:List (Int×Int)} {cs:Array Value} {t:TypeId} (h:RowO w lo bs v xs) (hb:Blk w g t cs) (ht:115≠t) (hc:ChG (fun k=>k=g) w w'):RowO w' lo bs v xs:=by
  obtain⟨A,c,e,h1,h2⟩:=h;refine⟨A,c,e,⟨h1.1,?_⟩,h2⟩;have hty:=h1.typ;rcases h1.2 with hn | ⟨q,c,cur,hv,hbb,hg,r⟩
  · exact .inl hn
  · refine .inr ⟨q,c,cur,hv,hbb,?_,r⟩
    rw [hc.blk q (y5 hg) (fun e=>?_)]
    · exact hg
    · subst e;exact ht (jW hg hb)
def rtG (gr:List Nd) (T:Nat→Int):List Nd:=(List.range gr.length).map (fun i=>⟨T i,(nd gr i).ln⟩)
theorem N4 (gr:List Nd) (T:Nat→Int):(rtG gr T).length=gr.length:=by simp [rtG]
theorem Rz (gr:List Nd):rtG gr (fun x=>(nd gr x).ty)=gr:=by
  refine List.ext_getElem (N4 _ _) (fun i h1 h2=>?_);have:=kJ h2;simp [rtG,this]
theorem N8 {gr:List Nd} {o:List Nat} {x:Nat} (hx:x < o.length):nd (jY gr o) x=⟨(nd gr (o.getD x 0)).ty,(nd gr (o.getD x 0)).ln.map (X3 o)⟩:=by simp [nd,jY,canN,List.getD,hx]
def GrT (w:World) (lo hi:Nat) (A:Option Addr) (c:Nat) (gr:List Nd) (T:Nat→Int):Prop:=
  ∃ V:Nat→Value,Own w lo 113 2 A gr.length c (ndV (fun x=> .int .i64 (T x)) V gr.length)∧(∀ g ∈ aL A,g < hi)∧∀ x,x < gr.length→RowO w lo hi (V x) (nd gr x).ln
def Dis (V:Nat→Value) (n:Nat):Prop:=∀ x y,x < n→y < n→x≠y→∀ A m c A' m' c',V x= .slice A m c→V y= .slice A' m' c'→∀ g ∈ aL A,¬g ∈ aL A'
theorem Dis.congr {V V':Nat→Value} {n:Nat} (h:Dis V n) (e:∀ x,x < n→V x=V' x):Dis V' n:=fun x y hx hy hne A m c A' m' c' h1 h2=>h x y hx hy hne A m c A' m' c' ((e x hx).trans h1) ((e y hy).trans h2)
theorem Dis.snoc {V:Nat→Value} {L:Nat→List (Int×Int)} {w:World} {lo bs k n c:Nat} {A:Option Addr} (h:Dis V k) (hr:∀ x,x < k→RowO w lo bs (V x) (L x)) (hg:∀ g ∈ aL A,bs≤g):Dis (fun x=>if x=k then .slice A n c else V x) (k + 1):=fun x y hx hy hne A1 m1 c1 A2 m2 c2 h1 h2 g hg1 hg2=>by
  have far:∀ z,z < k→∀ A3 m3 c3,V z= .slice A3 m3 c3→∀ g ∈ aL A3,g < bs:=fun z hz A3 m3 c3 e g hg=>by
    obtain⟨A4,c4,e4,_,h4⟩:=hr z hz
    rw [e] at e4
    cases e4
    exact h4 g hg
  by_cases e:x=k
  · simp only [e,if_true,Value.slice.injEq] at h1
    by_cases e2:y=k
    · exact hne (by rw [e,e2])
    · simp only [e2,if_false] at h2
      rw [← h1.1] at hg1
      have:=far y oM _ _ _ h2 g hg2
      have:=hg g hg1
      omega
  · simp only [e,if_false] at h1
    by_cases e2:y=k
    · simp only [e2,if_true,Value.slice.injEq] at h2
      rw [← h2.1] at hg2
      have:=far x oM _ _ _ h1 g hg1
      have:=hg g hg2
      omega
    · simp only [e2,if_false] at h2
      exact h x y oM oM hne _ _ _ _ _ _ h1 h2 g hg1 hg2
def GrD (w:World) (lo hi:Nat) (A:Option Addr) (c:Nat) (gr:List Nd) (T:Nat→Int):Prop:=
  ∃ V:Nat→Value,Own w lo 113 2 A gr.length c (ndV (fun x=> .int .i64 (T x)) V gr.length)∧(∀ g ∈ aL A,g < hi)∧(∀ x,x < gr.length→RowO w lo hi (V x) (nd gr x).ln)∧Dis V gr.length
section
variable {w w':World} {lo hi c:Nat} {A:Option Addr} {gr:List Nd} {T:Nat→Int}
theorem GrD.grt (h:GrD w lo hi A c gr T):GrT w lo hi A c gr T:=by obtain⟨V,h1,h2,h3,_⟩:=h;exact⟨V,h1,h2,h3⟩
theorem GrD.mk {base bs m:Nat} {V f:Nat→Value} (ho:Own w base 113 2 A m c (ndV f V m)) (hm:gr.length=m) (hb:lo≤base) (hf:∀ x,x < m→f x= .int .i64 (T x)) (hA:∀ g ∈ aL A,g < hi) (hbs:bs≤hi) (hr:∀ x,x < m→RowO w lo bs (V x) (nd gr x).ln) (hd:Dis V m):GrD w lo hi A c gr T:=by
  subst hm;refine⟨V,?_,hA,fun x hx=>(hr x hx).up hbs,hd⟩;rw [Zy (f':=f) (h':=V) (fun x hx=>(hf x hx).symm) (fun _ _=>rfl)];exact ho.low hb
theorem GrT.nodes (h:GrT w lo hi A c gr T):NodesIn w A (rtG gr T):=by
  obtain⟨V,ho,_,hr⟩:=h;refine nodes_own (lo:=lo) (bs:=hi) ho (N4 gr T) (fun k hk=>?_) (fun k hk=>?_)
  · simp [rtG]
  · rw [N4] at hk
    have e:((rtG gr T)[k]'(by rw [N4];exact hk)).ln=(nd gr k).ln:=by simp [rtG]
    rw [e];exact hr k hk
theorem GrT.cap_le (h:GrT w lo hi A c gr T):gr.length≤c:=by obtain⟨V,ho,_⟩:=h;exact ho.cap_le
theorem GrT.congr (h:GrT w lo hi A c gr T) {T':Nat→Int} (e:∀ i,i < gr.length→T i=T' i):GrT w lo hi A c gr T':=by
  obtain⟨V,ho,hA,hr⟩:=h;exact⟨V,by rw [Zy (f':=fun x=> .int .i64 (T x)) (h':=V) (fun x hx=>by rw [e x hx]) (fun _ _=>rfl)];exact ho,hA,hr⟩
theorem GrT.tr {X:List Nat} (h:GrT w lo hi A c gr T) (hs:Same X w w') (hx:∀ g ∈ X,g < lo∨hi≤g):GrT w' lo hi A c gr T:=by
  obtain⟨V,ho,hA,hr⟩:=h;refine⟨V,ho.tr hs (fun g hg hm=>?_),hA,fun x hxl=>?_⟩
  · have h1:=hx g hm
    have h2:=(ho.lt g hg).1;have h3:=hA g hg;omega
  · obtain⟨A2,c2,e,h1,h2⟩:=hr x hxl
    refine⟨A2,c2,e,h1.tr hs (fun g hg hm=>?_),h2⟩;have h3:=hx g hm;have h4:=(h1.lt g hg).1;have h5:=h2 g hg;omega
theorem GrT.fr {w2:World} (h:GrT w lo hi A c gr T) (hf:FrSame lo w w2):GrT w2 lo hi A c gr T:=by
  obtain⟨V,ho,hA,hr⟩:=h;exact⟨V,ho.fr (Nat.le_refl _) hf,hA,fun x hx=>(hr x hx).fr hf⟩
theorem GrT.up {hi':Nat} (h:GrT w lo hi A c gr T) (hh:hi≤hi'):GrT w lo hi' A c gr T:=by
  obtain⟨V,ho,hA,hr⟩:=h;exact⟨V,ho,fun g hg=>nLL (hA g hg) hh,fun x hx=>(hr x hx).up hh⟩
theorem RowO.low {lo' bs:Nat} {v:Value} {xs:List (Int×Int)} (h:RowO w lo bs v xs) (hl:lo'≤lo):RowO w lo' bs v xs:=by
  obtain⟨A,c,e,h1,h2⟩:=h;exact⟨A,c,e,h1.low hl,h2⟩
theorem GrT.low {lo':Nat} (h:GrT w lo hi A c gr T) (hl:lo'≤lo):GrT w lo' hi A c gr T:=by
  obtain⟨V,ho,hA,hr⟩:=h;exact⟨V,ho.low hl,hA,fun x hx=>(hr x hx).low hl⟩
theorem GrT.mk {base bs m:Nat} {V f:Nat→Value} (ho:Own w base 113 2 A m c (ndV f V m)) (hm:gr.length=m) (hb:lo≤base) (hf:∀ x,x < m→f x= .int .i64 (T x)) (hA:∀ g ∈ aL A,g < hi) (hbs:bs≤hi) (hr:∀ x,x < m→RowO w lo bs (V x) (nd gr x).ln):GrT w lo hi A c gr T:=by
  subst hm;refine⟨V,?_,hA,fun x hx=>(hr x hx).up hbs⟩;rw [Zy (f':=f) (h':=V) (fun x hx=>(hf x hx).symm) (fun _ _=>rfl)];exact ho.low hb
theorem own_of {e:TypeId} {base sz k cap g:Nat} {cur:Array Value} {xs:List Value} (hb:Blk w g e cur) (hbase:base≤g) (hk:k≤cap) (hm:cap≤9223372036854775807) (hs:cur.size=cap * sz) (hx:cur.toList.take (k * sz)=xs):Own w base e sz (some ⟨g,0,none⟩) k cap xs:=by
  have hle:k * sz≤cap * sz:=Nat.mul_le_mul_right sz hk;subst hx;exact⟨by rw [List.length_take,Array.length_toList];omega,.inr ⟨g,cap,cur,rfl,hbase,hb,hk,by simpa [maxLen] using hm,hs,rfl⟩⟩
theorem own_row2 {b m:Nat} {f h:Nat→Value} (hb:Blk w b 113 (uv m f h)) (hl:lo≤b) (hm:m≤1000000):Own w lo 113 2 (some ⟨b,0,none⟩) m m (ndV f h m):=by
  refine own_of hb hl (Nat.le_refl _) oM (gQ m f h) ?_;refine List.ext_getElem? (fun j=>?_);by_cases hj:j < m * 2
  · have h2:j / 2 < m:=by omega
    rw [List.getElem?_take_of_lt hj,Array.getElem?_toList];rcases Nat.mod_two_eq_zero_or_one j with e | e
    · have e2:j=j / 2 * 2:=by omega
      have h3:=D6 (f:=f) (h:=h) h2;rw [show 0 + j / 2 * 2 + 0=j by omega] at h3;have h4:=(oQ f h h2).1;rw [← e2] at h4;rw [h3,h4]
    · have e2:j=j / 2 * 2 + 1:=by omega
      have h3:=IX (f:=f) (h:=h) h2;rw [show 0 + j / 2 * 2 + 1=j by omega] at h3;have h4:=(oQ f h h2).2;rw [← e2] at h4;rw [h3,h4]
  · rw [List.getElem?_eq_none (by rw [List.length_take];omega),List.getElem?_eq_none (by rw [Xk];omega)]
theorem ndV_set0 {f V:Nat→Value} {n k:Nat} {v:Value}:(ndV f V n).set (0 + k * 2 + 0) v=ndV (fun x=>if x=k then v else f x) V n:=by
  refine List.ext_getElem? (fun j=>?_);by_cases hj:j < n * 2
  · have h2:j / 2 < n:=by omega
    rcases Nat.mod_two_eq_zero_or_one j with e | e
    · have e2:j=j / 2 * 2:=by omega
      by_cases hjk:j / 2=k
      · rw [show 0 + k * 2 + 0=j by omega,List.getElem?_set_self (by rw [Xk];exact hj)]
        have h3:=(oQ (fun x=>if x=k then v else f x) V h2).1;rw [← e2] at h3;rw [h3,if_pos hjk]
      · rw [List.getElem?_set_ne oM]
        have h3:=(oQ (fun x=>if x=k then v else f x) V h2).1;have h4:=(oQ f V h2).1;rw [← e2] at h3 h4;rw [h3,h4,if_neg hjk]
    · have e2:j=j / 2 * 2 + 1:=by omega
      rw [List.getElem?_set_ne oM];have h3:=(oQ (fun x=>if x=k then v else f x) V h2).2;have h4:=(oQ f V h2).2;rw [← e2] at h3 h4;rw [h3,h4]
  · rw [List.getElem?_eq_none (by rw [List.length_set,Xk];omega),List.getElem?_eq_none (by rw [Xk];omega)]
theorem GrT.open_ {k:Nat} (h:GrT w lo hi A c gr T) (hk:k < gr.length):∃ (V:Nat→Value) (g:Nat) (cur:Array Value),A=some ⟨g,0,none⟩∧lo≤g∧g < hi∧Blk w g 113 cur∧gr.length * 2≤cur.size∧(∀ x,x < gr.length→cur[0 + x * 2 + 0]? =some (.int .i64 (T x)))∧(∀ x,x < gr.length→cur[0 + x * 2 + 1]? =some (V x))∧(∀ x,x < gr.length→RowO w lo hi (V x) (nd gr x).ln)∧
    ∀ w1 v,Blk w1 g 113 (cur.setIfInBounds (0 + k * 2 + 0) (.int .i64 v))→(∀ x,x < gr.length→RowO w1 lo hi (V x) (nd gr x).ln)→GrT w1 lo hi (some ⟨g,0,none⟩) c gr (fun x=>if x=k then v else T x):=by
  obtain⟨V,ho,hA,hr⟩:=h;obtain⟨g,cur,rfl,hg,hb,hsz,hrd,hcl⟩:=ho.open_ oM;refine⟨V,g,cur,rfl,hg,hA g (List.mem_singleton.2 rfl),hb,hsz,fun x hx=>?_,fun x hx=>?_,hr,fun w1 v hw hr2=>⟨V,?_,hA,hr2⟩⟩
  · rw [hrd _ oM,show 0 + x * 2 + 0=x * 2 by omega];exact(oQ _ _ hx).1
  · rw [hrd _ oM,show 0 + x * 2 + 1=x * 2 + 1 by omega];exact(oQ _ _ hx).2
  · have h1:=hcl w1 _ _ hw
    rw [ndV_set0,Zy (f':=fun x=> .int .i64 (if x=k then v else T x)) (h':=V) (fun x _=>by by_cases e:x=k <;> simp [e]) (fun _ _=>rfl)] at h1;exact h1
end
end Go.Proofs.YtbcpgfnfiekbiaaGreatDoor
namespace Go.Proofs.YtbcpgfnfiekbiaaGreatDoor
open Go.RowKit
theorem in113:(Tryz.prog.info? 113).map (fun i=>(i.zero,i.size,i.bytes))=some (some (.agg #[.int .i64 0,.slice none 0 0]),2,32):=by kernel_rfl
theorem DQ:(Tryz.prog.info? 115).map (fun i=>(i.zero,i.size,i.bytes))=some (some (.agg #[.int .i64 0,.int .i64 0]),2,16):=by kernel_rfl
theorem sz170:(Tryz.prog.info? 170).map (·.size)=some 1:=by kernel_rfl
theorem ze170:(Tryz.prog.info? 170).map (·.zero)=some (some (.nilFunc)):=by kernel_rfl
theorem T4:(Tryz.prog.info? 30).map (·.zero)=some (some (.agg #[.slice none 0 0])):=by kernel_rfl
theorem ze66:(Tryz.prog.info? 66).map (·.zero)=some (some (.slice none 0 0)):=by kernel_rfl
set_option maxHeartbeats 4000000 in
theorem from4_any (G:Option Addr) (cg nf:Nat) (gr:List Nd) (r:Nat) (w:World) (hG:NodesIn w G gr) (hk:Vv nf gr) (hnf:nf≤1000) (hr:r < gr.length):Calls Tryz.prog 79 #[.agg #[.slice G gr.length cg],.int .i64 r] w fun e w'=>(∃ o A,DL gr [r] [] o∧OOk gr.length o∧e= .returned (.agg #[.slice A o.length o.length])∧GrD w' w.heap.size w'.heap.size A o.length (jY gr o) (fun x=>(nd (jY gr o) x).ty))∧Bel w w':=by
 have hn6:=hk.le;have hrg:=V7 hk;refine enT Tryz.func79 Tryz.ntmps79 rfl rfl fun hB=>?_;refine zn2 ?_;refine x6 (v:= .agg #[_]) (cs:=#[_]) rfl rfl (fun b2 w1 hb2 s1 hr=>?_);have lo2:=nLT (Bel.size hB) hr;clear hr;refine qq (cs:=#[.slice none 0 0]) T4 rfl (fun b4 w2 hb4 s2 hr=>?_);have:=nLL hb2.lt hr;have lo4:=nLT (Bel.size hB.u) hr;clear hr;refine zn7 ?_;refine gv (m:=gr.length) U66 in3 rfl rfl rfl oM oM (fun b17 w3 hb17 s3 hr=>?_);have:=nLL hb2.u.lt hr;have:=nLL hb4.lt hr;have lo17:=nLT (Bel.size hB.u) hr;clear hr;refine qq (cs:=#[.slice none 0 0]) ze66 rfl (fun b5 w4 hb5 s4 hr=>?_);have:=nLL hb2.u.lt hr;have:=nLL hb4.u.lt hr;have:=nLL hb17.lt hr;have lo5:=nLT (Bel.size hB.u) hr;clear hr;refine xz (v:= .slice _ _ _) hb5 rfl rfl Mx (by first | decide | simp) rfl rfl (fun w5 hq s5=>?_);replace hb5:=hq;refine vq ?_;refine zW (rg [6] 20 7) (fun m g w'=>∃ k:Nat,k≤gr.length∧m=gr.length - k∧g 20= .int .i64 k∧Bel w w'∧Blk w' b2 30 #[.slice G gr.length cg]∧Blk w' b4 30 #[.slice none 0 0]∧Blk w' b5 66 #[.slice (some ⟨b17,0,none⟩) gr.length gr.length]∧Blk w' b17 3 (row gr.length (fun x=> .int .i64 (if x < k then -1 else 0)))) (gr.length) ?_ (fun m g3 w6 hI=>?_)
 ·refine⟨0,Nat.zero_le _,rfl,rfl,hB.u,hb2.u,hb4.u,hb5,?_⟩;replace hb17:=(hb17.tr0 s4).tr1 s5 oM;rw [yz (g':=fun _=> .int .i64 0) (fun x _=>by simp)];exact hb17
 obtain⟨k,hkk,hm,h20,hB,hb2,hb4,hb5,hb17⟩:=hI;refine zZ 20 _ h20 nu (zn6 ?_);refine zX rfl (fun c21=>?_) (fun c21=>?_)
 ·have hlt:k < gr.length:=by omega
  refine ZX ?_;refine xz (v:= .int _ _) hb17 rfl rfl qX (by rw [row_size];omega) rfl jQ (fun w7 hq s6=>?_);replace hb17:=hq
  rw [yz (g':=fun x=> .int .i64 (if x < k + 1 then -1 else 0)) (fun x _=>by
    by_cases e:x=k
    · subst e;simp
    · have e1:(x < k + 1) ↔ (x < k):=by omega
      simp [e,e1])] at hb17
  refine zn7 ?_;refine xv (gr.length - (k + 1)) oM agA ?_;exact⟨k + 1,by omega,rfl,rfl,hB.u,hb2.u,hb4.u,hb5.u,hb17⟩
 have hke:k=gr.length:=by omega
 rw [hke,yz (g':=fun x=> .int .i64 (kv [] x)) (fun x hx=>by simp [hx,Fx])] at hb17;refine zn7 ?_;refine qq (cs:=#[.slice none 0 0]) ze66 rfl (fun b7 w8 hb7 s7 hr=>?_);have:=nLL hb2.lt hr;have:=nLL hb4.lt hr;have:=nLL hb17.lt hr;have:=nLL hb5.lt hr;have lo7:=nLT (Bel.size hB) hr;clear hr;refine zn4 ?_;refine qq (cs:=#[.nilFunc]) ze170 rfl (fun b8 w9 hb8 s8 hr=>?_);have:=nLL hb2.u.lt hr;have:=nLL hb4.u.lt hr;have:=nLL hb17.u.lt hr;have:=nLL hb5.u.lt hr;have:=nLL hb7.lt hr;have lo8:=nLT (Bel.size hB.u) hr;clear hr;refine zn4 ?_;refine wl (r_mf rfl) ?_;refine xz (v:= .func _ _ _) hb8 rfl rfl sz170 (by first | decide | simp) rfl rfl (fun w10 hq s9=>?_);replace hb8:=hq;refine zn3 ?_;obtain⟨base,hbase⟩:∃ b,b=w10.heap.size:=⟨_,rfl⟩
 replace hB:=(hB.tr0 (s7.trans s8)).tr1 s9 lo8;have hlo:w.heap.size≤base:=by rw [hbase];exact Bel.size hB
 have hbs:base≤w10.heap.size:=Nat.le_of_eq hbase;replace hb5:=(hb5.tr0 (s7.trans s8)).tr1 s9 oM;have lt5:b5 < base:=by rw [hbase];exact hb5.lt
 replace hb7:=(hb7.tr0 s8).tr1 s9 oM;have lt7:b7 < base:=by rw [hbase];exact hb7.lt
 replace hb2:=(hb2.tr0 (s7.trans s8)).tr1 s9 oM;have lt2:b2 < base:=by rw [hbase];exact hb2.lt
 replace hb4:=(hb4.tr0 (s7.trans s8)).tr1 s9 oM;have lt4:b4 < base:=by rw [hbase];exact hb4.lt
 have lt8:b8 < base:=by rw [hbase];exact hb8.lt
 replace hb17:=(hb17.tr0 (s7.trans s8)).tr1 s9 oM;have lt17:b17 < base:=by rw [hbase];exact hb17.lt
 refine zn3 ?_;refine y6 rfl fn111 (visit_any (w0:=w) (G:=G) (cg:=cg) (bP:=b5) (bQ:=b7) (bG:=b2) (bV:=b8) (bn:=b17) (base:=base) hG hk hlo lo5 lo7 lo2 lo8 lo17 lt5 lt7 lt2 lt8 lt17 oM oM oM oM oM oM oM gr.length [] none 0 _ r (Nz _ _) hr hB hbs (OOk.nil _) hb5 hb7 hb2 hb8 hb17 (Own.nil _ _ _ _)) rfl rfl (fun e' w11 hr=>?_);obtain⟨rfl,o,AO,capO,hD,hb7n,hoo,hb17n,hC⟩:=hr;replace hB:=hB.chg hC hlo (by simp [lo7,lo17])
 replace hb2 := hb2.chg hC lt2 (by have : b2 ≠ b7 := by omega
                                   have:b2≠b17:=by omega
                                   simp [*])
 replace hb4 := hb4.chg hC lt4 (by have : b4 ≠ b7 := by omega
                                   have:b4≠b17:=by omega
                                   simp [*])
 replace hb5 := hb5.chg hC lt5 (by have : b5 ≠ b7 := by omega
                                   have:b5≠b17:=by omega
                                   simp [*])
 replace hb7:=hb7n;replace hb17:=hb17n;obtain⟨hok,_,_⟩:=hD.ok hrg (fun i hi=>by rw [List.mem_singleton.1 hi];exact hr) (OOk.nil _);have hol:=hok.cnt;refine⟨_,rfl,?_⟩;refine zn6 ?_;refine Gj (m:=o.length) U28 in113 rfl rfl oM oM (fun b33 w12 hb33 s10 hr=>?_);have:=nLL hb2.lt hr;have:=nLL hb4.lt hr;have:=nLL hb17.lt hr;have:=nLL hb5.lt hr;have:=nLL hb7.lt hr;have or_hoo_b33:=fun g hg=>nLL (hoo.lt g hg).2 hr
 have lo33:=nLT (Bel.size hB) hr;clear hr;refine wl (ZY (v0:= .slice _ _ _) (fun v0=>#[v0]) rfl kR) ?_;refine xV (cs:=#[.slice none 0 0]) T4 rfl (fun _=>rfl) (fun _=>rfl) ZK rfl zQ (fun b9 w14 hb9 s11 hr=>?_);have:=nLL hb33.lt hr;clear hr;refine zn4 ?_;replace hB:=hB.tr0 (s10.trans s11);replace hb2:=hb2.tr0 (s10.trans s11);replace hb4:=hb4.tr0 (s10.trans s11);replace hb17:=hb17.tr0 (s10.trans s11);replace hb5:=hb5.tr0 (s10.trans s11);replace hb7:=hb7.tr0 (s10.trans s11);replace hoo:=hoo.tr0 (s10.trans s11);replace hb33:=hb33.tr0 s11;replace hb33:Blk w14 b33 113 (uv o.length (fun _=> .int .i64 0) (fun _=> .slice none 0 0)):=by
   have h:=hb33;rw [show (Value.agg #[.int .i64 0,.slice none 0 0]).cells= #[.int .i64 0,.slice none 0 0] from rfl,D5] at h;exact h
 refine zn7 ?_;refine zW (rg [10,11,13] 37 50) (fun m g w'=>∃ (k:Nat) (V:Nat→Value),k≤o.length∧m=o.length - k∧g 37= .int .i64 k∧Bel w w'∧Blk w' b2 30 #[.slice G gr.length cg]∧Blk w' b4 30 #[.slice none 0 0]∧Blk w' b5 66 #[.slice (some ⟨b17,0,none⟩) gr.length gr.length]∧Blk w' b7 66 #[.slice AO o.length capO]∧Blk w' b17 3 (row gr.length (fun x=> .int .i64 (kv o x)))∧Blk w' b9 30 #[.slice (some ⟨b33,0,none⟩) o.length o.length]∧Own w' base 3 1 AO o.length capO (oV o)∧Blk w' b33 113 (uv o.length (fun x=>if x < k then .int .i64 (nd gr (o.getD x 0)).ty else .int .i64 0) (fun x=>if x < k then V x else .slice none 0 0))∧(∀ x,x < k→RowO w' w.heap.size w'.heap.size (V x) ((nd gr (o.getD x 0)).ln.map (X3 o)))∧Dis V k) (o.length) ?_ (fun m g13 w15 hI=>?_)
 ·refine⟨0,fun _=> .slice none 0 0,Nat.zero_le _,rfl,rfl,hB,hb2,hb4,hb5,hb7,hb17,hb9,hoo,?_,fun x hx=>by omega,fun x y hx=>by omega⟩;rw [Xq (f':=fun _=> .int .i64 0) (h':=fun _=> .slice none 0 0) (fun x _=>by simp) (fun x _=>by simp)];exact hb33
 obtain⟨k,V,hkk,hm,h37,hB,hb2,hb4,hb5,hb7,hb17,hb9,hoo,hb33,hrows,hdis⟩:=hI;obtain⟨bs,hbsz⟩:∃ b,b=w15.heap.size:=⟨_,rfl⟩
 rw [← hbsz] at hrows;have hbz:bs≤w15.heap.size:=Nat.le_of_eq hbsz;have hlb5:w.heap.size≤bs:=by rw [hbsz];exact Bel.size hB
 have lu2:b2 < bs:=by rw [hbsz];exact hb2.lt
 have lu4:b4 < bs:=by rw [hbsz];exact hb4.lt
 have lu5:b5 < bs:=by rw [hbsz];exact hb5.lt
 have lu7:b7 < bs:=by rw [hbsz];exact hb7.lt
 have lu17:b17 < bs:=by rw [hbsz];exact hb17.lt
 have lu9:b9 < bs:=by rw [hbsz];exact hb9.lt
 have lu33:b33 < bs:=by rw [hbsz];exact hb33.lt
 have luo:∀ g ∈ aL AO,g < bs:=fun g hg=>by rw [hbsz];exact(hoo.lt g hg).2
 refine zZ 37 _ h37 nu (zn6 ?_);refine zX rfl (fun c38=>?_) (fun c38=>?_)
 ·have hlt:k < o.length:=by omega
  obtain⟨i,hoi,hin⟩:∃ i:Nat,o[k]'hlt=i∧i < gr.length:=⟨_,rfl,hok.lt _ (List.getElem_mem hlt)⟩
  have hgd:o.getD k 0=i:=by simp [List.getD,hlt,hoi]
  have hnd:=kJ hin
  obtain⟨q,rfl,hqb,hql,hqc⟩:=hoo.cell (by
    intro h0;have:=congrArg List.length h0;simp [oV] at this;rw [this] at hlt
    simp at hlt)
  have hz:w15.cell? ⟨q,0 + k * 1,none⟩=some (.int .i64 (i:Int)):=by
    have:=hqc k (.int .i64 (i:Int)) (by simp [oV,hlt,hoi])
    simpa using this
  obtain⟨nb,no,LA,lc,rfl,hnb,hnr,hln⟩:=hG.at_ (Below.refl _ _:Bel w w) hin;have hmx:=hln.1;unfold yJ at hmx;have hfw:=hk.few i hin;refine zn8 ?_;refine wl (qV (v:= .int _ _) U3 rfl rfl hz) (zn5 ?_);refine XQ 11 kR kR (fun w16 s12=>?_);replace hrows:=fun x hx=>(hrows x hx).tr s12 (by simp)
  replace hbz:=nLT hbz (Same.size s12);refine zn6 ?_;refine ws (xk (i:=i) U28 kQ rfl rfl hin rfl) (zn1 ?_);refine ws (qV (v:= .int _ _) U3 rfl rfl (hB.u.cell hnb (hnr 0 _ rfl))) (zn2 ?_);refine X8 ?_;replace hb33:=hb33.tr0 s12;refine xz (v:= .int _ _) hb33 rfl rfl qX (by rw [gQ];show 0 + k * 2 + 0 < o.length * 2;omega) rfl D4 (fun w17 hq s13=>?_);replace hoo:=hoo.tr0 s12;replace hoo:=hoo.tr1 s13 (neL or_hoo_b33);replace hrows:=fun x hx=>(hrows x hx).tr s13 (fun g hg=>by rw [List.mem_singleton.1 hg];first | exact .inr ⟨_,_,hb33,by decide⟩ | exact .inl oM)
  replace hbz:=nLT hbz (Same.size s13);replace hb33:=hq
  rw [Xq (f':=(fun x=>if x < k + 1 then .int .i64 (nd gr (o.getD x 0)).ty else .int .i64 0)) (h':=fun x=>if x=k then .slice none 0 0 else if x < k then V x else .slice none 0 0) (fun x _=>by
    by_cases e:x=k
    · subst e;simp [List.getD,hlt,hoi,hnd]
    · have e1:(x < k + 1) ↔ (x < k):=by omega
      simp [e,e1]) (fun x _=>by
    by_cases e:x=k
    · subst e;simp
    · simp [e])] at hb33
  refine zn7 ?_;refine wl (xk (i:=i) U28 kQ rfl rfl hin rfl) (zn1 ?_);refine wl (qV (v:= .slice _ _ _) u7 rfl rfl (hB.u.cell hnb (hnr 1 _ rfl))) (zn5 ?_);refine zW (rg [13] 60 26) (fun m g w'=>∃ (j:Nat) (A5:Option Addr) (cap5:Nat),j≤(gr[i]'hin).ln.length∧m=(gr[i]'hin).ln.length - j∧g 60= .int .i64 j∧Bel w w'∧Blk w' b2 30 #[.slice (some ⟨nb,no,none⟩) gr.length cg]∧Blk w' b4 30 #[.slice none 0 0]∧Blk w' b5 66 #[.slice (some ⟨b17,0,none⟩) gr.length gr.length]∧Blk w' b7 66 #[.slice (some ⟨q,0,none⟩) o.length capO]∧Blk w' b17 3 (row gr.length (fun x=> .int .i64 (kv o x)))∧Blk w' b9 30 #[.slice (some ⟨b33,0,none⟩) o.length o.length]∧Own w' base 3 1 (some ⟨q,0,none⟩) o.length capO (oV o)∧Blk w' b33 113 (uv o.length (fun x=>if x < k + 1 then .int .i64 (nd gr (o.getD x 0)).ty else .int .i64 0) (fun x=>if x=k then .slice A5 j cap5 else if x < k then V x else .slice none 0 0))∧(∀ x,x < k→RowO w' w.heap.size bs (V x) ((nd gr (o.getD x 0)).ln.map (X3 o)))∧bs≤w'.heap.size∧Own w' bs 115 2 A5 j cap5 (lnV (((gr[i]'hin).ln.take j).map (X3 o)))) ((gr[i]'hin).ln.length) ?_ (fun m g17 w18 hI=>?_)
  ·exact⟨0,none,0,Nat.zero_le _,rfl,rfl,hB.u,hb2.u,hb4.u,hb5.u,hb7.u,hb17.u,hb9.u,hoo,hb33,hrows,hbz,Own.nil _ _ _ _⟩
  obtain⟨j,A5,cap5,hj,hmj,h60,hB,hb2,hb4,hb5,hb7,hb17,hb9,hoo,hb33,hrows,hbz,ho5⟩:=hI;refine zZ 60 _ h60 nu (zn6 ?_);refine zX rfl (fun c61=>?_) (fun c61=>?_)
  ·have hjl:j < (gr[i]'hin).ln.length:=by omega
   obtain⟨lb,lof,rfl,hlb,hlr⟩:=hln.at_ hB hjl;obtain⟨t,ht,htl⟩:∃ t:Nat,((gr[i]'hin).ln[j]'hjl).2=(t:Int)∧t < gr.length:=by
     have h1:=hk.ln i hin _ (List.getElem_mem hjl);exact⟨(((gr[i]'hin).ln[j]'hjl).2).toNat,by omega,by omega⟩
   refine zn7 ?_;refine wl (zY Zk rfl rfl hlr j7) ?_;refine qq (cs:=#[.int .i64 0,.int .i64 0]) gz rfl (fun b13 w19 hb13 s14 hr=>?_);have:=nLL hb2.lt hr;have:=nLL hb4.lt hr;have:=nLL hb17.lt hr;have:=nLL hb5.lt hr;have:=nLL hb7.lt hr;have:=nLL hb33.lt hr;have:=nLL hb9.lt hr;have or_hbz_b13:=(nLT hbz hr)
   have or_hoo_b13:=fun g hg=>nLL (hoo.lt g hg).2 hr
   have or_ho5_b13:=fun g hg=>nLL (ho5.lt g hg).2 hr
   have lo13:=nLT (Bel.size hB) hr;replace hrows:=fun x hx=>(hrows x hx).tr s14 (by simp)
   replace hbz:=nLT hbz (Same.size s14);clear hr;refine zk hb13 rfl rfl j7 rfl zQ (fun w20 hq s15=>?_);replace hrows:=fun x hx=>(hrows x hx).tr s15 (fun g hg=>by rw [List.mem_singleton.1 hg];first | exact .inr ⟨_,_,hb13,by decide⟩ | exact .inl oM)
   replace hbz:=nLT hbz (Same.size s15);replace hoo:=hoo.tr0 s14;replace hoo:=hoo.tr1 s15 (neL or_hoo_b13);replace ho5:=ho5.tr0 s14;replace ho5:=ho5.tr1 s15 (neL or_ho5_b13);replace hb13:=hq;refine zJ (e_S ?_);rw [ht] at hb13;have zo:=fun g hg=>(ho5.lt g hg).2
   have hcell:(uv o.length (fun x=>if x < k + 1 then .int .i64 (nd gr (o.getD x 0)).ty else .int .i64 0) (fun x=>if x=k then .slice A5 j cap5 else if x < k then V x else .slice none 0 0))[0 + k * 2 + 1]? =some (.slice A5 j cap5):=by rw [IX hlt];simp
   replace hB:=(hB.tr0 s14).tr1 s15 lo13;have hsz:=Bel.size hB;refine Wk 21 (rg [] 64 21) (aL A5) 18 (fun ix v wv=>match ix with | 0=>v= .pointer (some ⟨b9,0,none⟩) | 1=>v= .slice (some ⟨b33,0,none⟩) o.length o.length | 2=>v= .int .i64 k | 3=>v= .pointer (some ⟨b9,0,none⟩) | 4=>v= .slice (some ⟨b33,0,none⟩) o.length o.length | 5=>v= .int .i64 k | 6=>v= .pointer (some ⟨b33,0 + k * 2,none⟩) | 7=>v= .pointer (some ⟨b33,0 + k * 2 + 1,none⟩) | 8=>v= .slice A5 j cap5 | 9=>v= .pointer (some ⟨b13,0,none⟩) | 10=>v= .int .i64 ((gr[i]'hin).ln[j]'hjl).1 | 11=>v= .slice (some ⟨b17,0,none⟩) gr.length gr.length | 12=>v= .pointer (some ⟨b13,1,none⟩) | 13=>v= .int .i64 (t:Nat) | 14=>v= .pointer (some ⟨b17,0 + t * 1,none⟩) | 15=>v= .int .i64 (kv o t) | 16=>v= .agg #[.int .i64 ((gr[i]'hin).ln[j]'hjl).1,.int .i64 (kv o t)] | 17=>∃ b,v= .slice (some ⟨b,0,none⟩) 1 1∧w20.heap.size≤b∧Blk wv b 115 #[.int .i64 ((gr[i]'hin).ln[j]'hjl).1,.int .i64 (kv o t)] | 18=>∃ g cap,v= .slice (some ⟨g,0,none⟩) (j + 1) cap∧Own wv bs 115 2 (some ⟨g,0,none⟩) (j + 1) cap (lnV (((gr[i]'hin).ln.take j).map (X3 o)) ++ [.int .i64 ((gr[i]'hin).ln[j]'hjl).1,.int .i64 (kv o t)]) | 19=>v= .pointer (some ⟨b33,0 + k * 2,none⟩) | 20=>v= .pointer (some ⟨b33,0 + k * 2 + 1,none⟩) | _=>True) (fun _=>True) kR kR ?_ (fun _ _ _ _=>trivial) ?_ ?_ dE ?_
   ·intro ix v wv wv2 h s16
    match ix,h with
    | 0,h=>exact h
    | 1,h=>exact h
    | 2,h=>exact h
    | 3,h=>exact h
    | 4,h=>exact h
    | 5,h=>exact h
    | 6,h=>exact h
    | 7,h=>exact h
    | 8,h=>exact h
    | 9,h=>exact h
    | 10,h=>exact h
    | 11,h=>exact h
    | 12,h=>exact h
    | 13,h=>exact h
    | 14,h=>exact h
    | 15,h=>exact h
    | 16,h=>exact h
    | 17,h=>
     obtain⟨b81,e81,lo81,hb81⟩:=h;exact⟨b81,e81,lo81,hb81.tr0 s16⟩
    | 18,h=>
     obtain⟨g82,cap82,e82,ho82⟩:=h;exact⟨g82,cap82,e82,ho82.tr0 s16⟩
    | 19,h=>exact h
    | 20,h=>exact h
    | _ + 21,h=>exact trivial
   ·intro ix o hix hne hoq gg wx s17 hd;replace hb9:=(hb9.tr0 s14).tr1 s15 oM
    match ix,hix,hne,hoq with
    | 0,_,_,hoq=>
     cases sI hoq;refine xW (X2 U30 sz28 dE rfl rfl rfl) ⟨Same.refl _ _,?_⟩;exact rfl
    | 1,_,_,hoq=>
     cases sI hoq;replace hb9:=hb9.ta s17 ho5;refine zx 64 _ (hd 0 (zj kR)) nu ?_;refine xW (qV (v:= .slice _ _ _) U28 rfl rfl (hb9.cell rfl)) ⟨Same.refl _ _,?_⟩;exact rfl
    | 2,_,_,hoq=>
     cases sI hoq;refine xW (yq (v:= .int _ _) rfl) ⟨Same.refl _ _,?_⟩;exact rfl
    | 3,_,_,hoq=>
     cases sI hoq;refine xW (X2 U30 sz28 dE rfl rfl rfl) ⟨Same.refl _ _,?_⟩;exact rfl
    | 4,_,_,hoq=>
     cases sI hoq;replace hb9:=hb9.ta s17 ho5;refine zx 67 _ (hd 3 (zj kR)) nu ?_;refine xW (qV (v:= .slice _ _ _) U28 rfl rfl (hb9.cell rfl)) ⟨Same.refl _ _,?_⟩;exact rfl
    | 5,_,_,hoq=>
     cases sI hoq;refine xW (yq (v:= .int _ _) rfl) ⟨Same.refl _ _,?_⟩;exact rfl
    | 6,_,_,hoq=>
     cases sI hoq;refine zx 68 _ (hd 4 (zj kR)) nu (zx 69 _ (hd 5 (zj kR)) nu ?_);refine xW (xk (i:=k) U28 kQ rfl rfl oM rfl) ⟨Same.refl _ _,?_⟩;exact rfl
    | 7,_,_,hoq=>
     cases sI hoq;refine zx 70 _ (hd 6 (zj kR)) nu ?_;refine xW (X2 I9 Ez dE rfl rfl rfl) ⟨Same.refl _ _,?_⟩;exact rfl
    | 8,_,_,hoq=>
     cases sI hoq;replace hb33:=(hb33.tr0 s14).tr1 s15 oM;replace hb33:=hb33.ta s17 ho5;refine zx 71 _ (hd 7 (zj kR)) nu ?_;refine xW (qV (v:= .slice _ _ _) u7 rfl rfl (hb33.cell hcell)) ⟨Same.refl _ _,?_⟩;exact rfl
    | 9,_,_,hoq=>
     cases sI hoq;refine xW (X2 Zk qX dE rfl rfl rfl) ⟨Same.refl _ _,?_⟩;exact rfl
    | 10,_,_,hoq=>
     cases sI hoq;replace hb13:=hb13.tb s17 (neL or_ho5_b13);refine zx 73 _ (hd 9 (zj kR)) nu ?_;refine xW (qV (v:= .int _ _) U3 rfl rfl (hb13.cell rfl)) ⟨Same.refl _ _,?_⟩;exact rfl
    | 11,_,_,hoq=>
     cases sI hoq;replace hb5:=(hb5.tr0 s14).tr1 s15 oM;replace hb5:=hb5.ta s17 ho5;refine xW (qV (v:= .slice _ _ _) U66 rfl rfl (hb5.cell rfl)) ⟨Same.refl _ _,?_⟩;exact rfl
    | 12,_,_,hoq=>
     cases sI hoq;refine xW (X2 Zk qX dE rfl rfl rfl) ⟨Same.refl _ _,?_⟩;exact rfl
    | 13,_,_,hoq=>
     cases sI hoq;replace hb13:=hb13.tb s17 (neL or_ho5_b13);refine zx 76 _ (hd 12 (zj kR)) nu ?_;refine xW (qV (v:= .int _ _) U3 rfl rfl (hb13.cell rfl)) ⟨Same.refl _ _,?_⟩;exact rfl
    | 14,_,_,hoq=>
     cases sI hoq;refine zx 75 _ (hd 11 (zj kR)) nu (zx 77 _ (hd 13 (zj kR)) nu ?_);refine xW (xk (i:=t) U66 qX rfl rfl htl rfl) ⟨Same.refl _ _,?_⟩;exact rfl
    | 15,_,_,hoq=>
     cases sI hoq;replace hb17:=(hb17.tr0 s14).tr1 s15 oM;replace hb17:=hb17.ta s17 ho5;refine zx 78 _ (hd 14 (zj kR)) nu ?_;refine xW (qV (v:= .int _ _) U3 rfl rfl (hb17.cell (yk htl))) ⟨Same.refl _ _,?_⟩;exact rfl
    | 16,_,_,hoq=>
     cases sI hoq;refine zx 74 _ (hd 10 (zj kR)) nu (zx 79 _ (hd 15 (zj kR)) nu ?_);refine xW (xY (v0:= .int _ _) (v1:= .int _ _) (fun v0 v1=>#[v0,v1]) rfl rfl kR) ⟨Same.refl _ _,?_⟩;exact rfl
    | 17,_,_,hoq=>
     cases sI hoq;have hs0:=s17;refine zx 80 _ (hd 16 (zj kR)) nu ?_;refine jk (fun ops Q K=>?_);refine qw (cs:=#[_,_]) [(0,.agg _)] rfl u7 j7 gz dE dE kR rfl (fun b81 w21 hb81 s18 hr=>?_);exact K _ _ ⟨s18,⟨_,rfl,nLT hs0.size hr,hb81⟩⟩
    | 18,_,hne,_=>exact absurd rfl hne
    | 19,_,_,hoq=>
     cases sI hoq;refine zx 65 _ (hd 1 (zj kR)) nu (zx 66 _ (hd 2 (zj kR)) nu ?_);refine xW (xk (i:=k) U28 kQ rfl rfl oM rfl) ⟨Same.refl _ _,?_⟩;exact rfl
    | 20,_,_,hoq=>
     cases sI hoq;refine zx 83 _ (hd 19 (zj kR)) nu ?_;refine xW (X2 I9 Ez dE rfl rfl rfl) ⟨Same.refl _ _,?_⟩;exact rfl
    | _ + 21,hix,_,_=>exact absurd hix oM
   ·intro o hoq gg wx s19 hd;cases sI hoq;replace hrows:=fun x hx=>(hrows x hx).tr s19 (by simp)
    replace hbz:=nLT hbz (Same.size s19);obtain⟨b81,e81,lo81,hb81⟩:=hd 17 (zj kR);refine zx 72 _ (hd 8 (zj kR)) nu (zx 81 _ e81 nu ?_);refine jk (fun ops Q K=>?_);replace ho5:=ho5.tr0 s19;refine vX u7 DQ rfl dE ho5 hb81 rfl rfl rfl zQ dE oM oM hbz (fun g82 cap82 w2 ho82 hs2 hg82=>?_);refine K _ _ ⟨hs2,⟨_,_,rfl,ho82⟩,trivial,fun kx v hne h=>?_⟩
    match kx,hne,h with
    | 0,_,h=>exact h
    | 1,_,h=>exact h
    | 2,_,h=>exact h
    | 3,_,h=>exact h
    | 4,_,h=>exact h
    | 5,_,h=>exact h
    | 6,_,h=>exact h
    | 7,_,h=>exact h
    | 8,_,h=>exact h
    | 9,_,h=>exact h
    | 10,_,h=>exact h
    | 11,_,h=>exact h
    | 12,_,h=>exact h
    | 13,_,h=>exact h
    | 14,_,h=>exact h
    | 15,_,h=>exact h
    | 16,_,h=>exact h
    | 17,_,h=>
     obtain⟨b81,e81,lo81,hb81⟩:=h;exact⟨b81,e81,lo81,hb81.tr hs2 (fun hx=>by have:=zo _ hx;omega)⟩
    | 18,hne,_=>exact absurd rfl hne
    | 19,_,h=>exact h
    | 20,_,h=>exact h
    | _ + 21,_,_=>exact trivial
   intro gg w22 s20 _ hR;replace hB:=hB.tr s20 (fun g hg=>nLT hlb5 (ho5.lt g hg).1);replace hb2:=(hb2.tr0 s14).tr1 s15 oM;replace hb2:=hb2.ta s20 ho5;replace hb4:=(hb4.tr0 s14).tr1 s15 oM;replace hb4:=hb4.ta s20 ho5;replace hb17:=(hb17.tr0 s14).tr1 s15 oM;replace hb17:=hb17.ta s20 ho5;replace hb5:=(hb5.tr0 s14).tr1 s15 oM;replace hb5:=hb5.ta s20 ho5;replace hb7:=(hb7.tr0 s14).tr1 s15 oM;replace hb7:=hb7.ta s20 ho5;replace hb33:=(hb33.tr0 s14).tr1 s15 oM;replace hb33:=hb33.ta s20 ho5;replace hb9:=(hb9.tr0 s14).tr1 s15 oM;replace hb9:=hb9.ta s20 ho5;replace hrows:=fun x hx=>(hrows x hx).tr s20 (fun g hg=> .inl ((ho5).lt g hg).1)
   replace hbz:=nLT hbz (Same.size s20);replace hoo:=hoo.tr s20 (fun g hg hx=>by have:=(ho5.lt _ hx).1;(try have:=luo g hg);omega);obtain⟨g82,cap82,e82,ho82⟩:=hR 18 dE;replace ho82:Own w22 bs 115 2 (some ⟨g82,0,none⟩) (j + 1) cap82 (lnV (((gr[i]'hin).ln.take (j + 1)).map (X3 o))):=by
     rw [List.take_succ_eq_append_getElem hjl,List.map_append,List.map_cons,List.map_nil,← u4];have e:X3 o ((gr[i]'hin).ln[j]'hjl)=(((gr[i]'hin).ln[j]'hjl).1,kv o t):=by simp [X3,ht]
     rw [e];exact ho82
   have ho5:=ho82;refine xK 82 _ e82 nu (xK 84 _ (hR 20 dE) nu ?_);refine xz (v:= .slice _ _ _) hb33 rfl rfl Ez (by rw [gQ];show 0 + k * 2 + 1 < o.length * 2;omega) rfl D3 (fun w23 hq s21=>?_);replace hrows:=fun x hx=>(hrows x hx).tr s21 (fun g hg=>by rw [List.mem_singleton.1 hg];first | exact .inr ⟨_,_,hb33,by decide⟩ | exact .inl oM)
   replace hbz:=nLT hbz (Same.size s21);replace hoo:=hoo.tr1 s21 (neL or_hoo_b33);replace ho5:=ho5.tq s21;replace hb33:=hq
   rw [Xq (f':=(fun x=>if x < k + 1 then .int .i64 (nd gr (o.getD x 0)).ty else .int .i64 0)) (h':=fun x=>if x=k then .slice (some ⟨g82,0,none⟩) (j + 1) cap82 else if x < k then V x else .slice none 0 0) (fun x _=>rfl) (fun x _=>by
     by_cases e:x=k
     · subst e;simp
     · simp [e])] at hb33
   refine zn7 ?_;refine xv ((gr[i]'hin).ln.length - (j + 1)) oM agA ?_;exact⟨j + 1,_,_,by omega,rfl,rfl,hB.u,hb2.u,hb4.u,hb5.u,hb7.u,hb17.u,hb9.u,hoo,hb33,hrows,hbz,ho5⟩
  have hjx:j=(gr[i]'hin).ln.length:=by omega
  subst hjx;refine yv ?_;refine xv (o.length - (k + 1)) oM agA ?_;refine⟨k + 1,fun x=>if x=k then .slice A5 (gr[i]'hin).ln.length cap5 else V x,by omega,rfl,rfl,hB,hb2,hb4,hb5,hb7,hb17,hb9,hoo,?_,fun x hx=>?_,hdis.snoc hrows (fun g hg=>(ho5.lt g hg).1)⟩
  · rw [Xq (f':=(fun x=>if x < k + 1 then .int .i64 (nd gr (o.getD x 0)).ty else .int .i64 0)) (h':=(fun x=>if x < k + 1 then (if x=k then .slice A5 (gr[i]'hin).ln.length cap5 else V x) else .slice none 0 0)) (fun x _=>rfl) (fun x _=>by
      by_cases e:x=k
      · subst e;simp
      · have e1:(x < k + 1) ↔ (x < k):=by omega
        simp [e,e1])] at hb33
    exact hb33
  · by_cases e:x=k
    · subst e
      simp only [if_true]
      have h:=RowO.of (lo:=w.heap.size) (xs:=(gr[i]'hin).ln.map (X3 o)) hlb5 (by
        rw [List.take_length] at ho5
        rw [List.length_map];exact ho5)
      rw [List.length_map] at h;rw [hgd,hnd];exact h
    · simp only [if_neg e]
      exact(hrows x oM).up hbz
 have hke:k=o.length:=by omega
 rw [hke] at hb33 hrows hdis;refine zn8 ?_;refine zk hb4 rfl rfl ZK rfl zQ (fun w24 hq s22=>?_);replace hrows:=fun x hx=>(hrows x hx).tr s22 (fun g hg=>by rw [List.mem_singleton.1 hg];first | exact .inr ⟨_,_,hb4,by decide⟩ | exact .inl oM)
 replace hbz:=nLT hbz (Same.size s22);replace hb4:=hq;refine zn3 ?_;refine x7 (.inl rfl) rfl (zy U30 rfl rfl hb4.range0 ZK) ?_;have hcl:(jY gr o).length=o.length:=by simp [jY]
 replace hB:=hB.tr1 s22 lo4;replace hb33:=hb33.tr1 s22 oM;refine⟨⟨o,_,hD,hok,rfl,GrD.mk (own_row2 hb33 lo33 oM) hcl (Nat.le_refl _) (fun x hx=>?_) (fun g hg=>?_) hbz (fun x hx=>?_) (hdis.congr (fun x hx=>by simp [hx]))⟩,hB⟩
 · rw [N8 hx];simp [hx]
 · rw [List.mem_singleton.1 hg];exact hb33.lt
 · rw [N8 hx]
   have h:=hrows x hx
   simpa [hx] using h
theorem from3_any (G:Option Addr) (cg nf:Nat) (gr:List Nd) (r:Nat) (w:World) (hG:NodesIn w G gr) (hk:Vv nf gr) (hnf:nf≤1000) (hr:r < gr.length):Calls Tryz.prog 79 #[.agg #[.slice G gr.length cg],.int .i64 r] w fun e w'=>(∃ o A,DL gr [r] [] o∧OOk gr.length o∧e= .returned (.agg #[.slice A o.length o.length])∧GrT w' w.heap.size w'.heap.size A o.length (jY gr o) (fun x=>(nd (jY gr o) x).ty))∧Bel w w':=(from4_any G cg nf gr r w hG hk hnf hr).mono fun e w' h=>by
  obtain⟨⟨o,A,h1,h2,h3,h4⟩,hs⟩:=h
  exact⟨⟨o,A,h1,h2,h3,h4.grt⟩,hs⟩
theorem DJ (G:Option Addr) (cg nf:Nat) (gr:List Nd) (r:Nat) (w:World) (hG:NodesIn w G gr) (hk:Vv nf gr) (hnf:nf≤1000) (hr:r < gr.length):Calls Tryz.prog 79 #[.agg #[.slice G gr.length cg],.int .i64 r] w fun e w'=>(∃ o A,DL gr [r] [] o∧OOk gr.length o∧e= .returned (.agg #[.slice A o.length o.length])∧(∀ w2,FrSame w.heap.size w' w2→NodesIn w2 A (jY gr o)))∧Bel w w':=(from3_any G cg nf gr r w hG hk hnf hr).mono fun e w' h=>by
  obtain⟨⟨o,A,h1,h2,h3,h4⟩,hs⟩:=h
  exact⟨⟨o,A,h1,h2,h3,fun w2 hf=>by have:=(h4.fr hf).nodes;rwa [Rz] at this⟩,hs⟩
theorem from_any (G:Option Addr) (cg nt nf:Nat) (gr:List Nd) (r:Nat) (w:World) (hG:NodesIn w G gr) (hk:GOk nt nf gr) (hnf:nf≤1000) (hr:r < gr.length):Calls Tryz.prog 79 #[.agg #[.slice G gr.length cg],.int .i64 r] w fun e w'=>(∃ o A,DL gr [r] [] o∧OOk gr.length o∧e= .returned (.agg #[.slice A o.length o.length])∧(∀ w2,FrSame w.heap.size w' w2→NodesIn w2 A (jY gr o)))∧Bel w w':=DJ G cg nf gr r w hG hk.two hnf hr
end Go.Proofs.YtbcpgfnfiekbiaaGreatDoor
namespace Go.Proofs.YtbcpgfnfiekbiaaGreatDoor
open Go.RowKit
structure GV (l:List Ty) (fs:List Ft) (g:List Nd):Prop where
  h:(qZ l fs).1=0
  s:Sound l
  few:fs.length≤40
  f:FOk l.length fs
  gok:GOk l.length fs.length g
  t:tyF l fs g=(0,0)
  u:¬0≤VK g
  lo:(vJ l.length fs.length g).1=0
theorem gv_of {l:List Ty} {fs:List Ft} {g:List Nd} (h:(uq l fs g).1=0):GV l fs g:=by
  by_cases h0:(qZ l fs).1=0
  · rw [gf_in h0] at h
    by_cases h1:(vJ l.length fs.length g).1=0
    · by_cases h2:(tyF l fs g).1=0
      · have h2':tyF l fs g=(0,0):=DY h2
        by_cases h3:0≤VK g
        · rw [WV h1 h2' h3] at h;cases h
        · refine⟨h0,ZV h0,?_,O9 h0,O7 h1,h2',h3,h1⟩
          unfold qZ at h0;by_cases h4:40 < fs.length
          · rw [if_pos h4] at h0;cases h0
          · omega
      · unfold yV at h
        rw [if_neg (fun e=>e h1),if_pos h2] at h;exact absurd h h2
    · rw [Jq h1] at h;exact absurd h h1
  · rw [gf_hier h0] at h;exact absurd h h0
theorem DL.sub {g:List Nd} {is a b:List Nat} (h:DL g is a b):∀ x ∈ a,x ∈ b:=by
  induction h with
  | nil=>exact fun x h=>h
  | old h t ih=>exact ih
  | new h s t ihs iht=>exact fun x hx=>iht x (ihs x (List.mem_append_left _ hx))
theorem DL.has {g:List Nd} {is a b:List Nat} (h:DL g is a b):∀ i ∈ is,i ∈ b:=by
  induction h with
  | nil=>exact fun i h=>by cases h
  | old h t ih=>
    intro i hi;rcases List.mem_cons.1 hi with rfl | hi
    · exact t.sub _ h
    · exact ih i hi
  | new h s t ihs iht=>
    intro i hi;rcases List.mem_cons.1 hi with rfl | hi
    · exact t.sub _ (s.sub _ (by simp))
    · exact iht i hi
theorem DL.clo {g:List Nd} {is a b:List Nat} (h:DL g is a b):∀ x ∈ b,¬x ∈ a→∀ t ∈ yK g x,t ∈ b:=by
  induction h with
  | nil=>exact fun x h1 h2=>absurd h1 h2
  | old h t ih=>exact ih
  | new h s t ihs iht=>
    rename_i i is o o1 o'
    intro x hx hn y hy;by_cases h1:x ∈ o1
    · by_cases h2:x=i
      · subst h2;exact t.sub _ (s.has y hy)
      · exact t.sub _ (ihs x h1 (fun h3=>by
          rcases List.mem_append.1 h3 with h3 | h3
          · exact hn h3
          · exact h2 (List.mem_singleton.1 h3)) y hy)
    · exact iht x hx h1 y hy
theorem DL.nodup {g:List Nd} {is a b:List Nat} (h:DL g is a b):a.Nodup→b.Nodup:=by
  induction h with
  | nil=>exact fun h=>h
  | old h t ih=>exact ih
  | new h s t ihs iht=>
    intro hd;refine iht (ihs (List.nodup_append.2 ⟨hd,by simp,fun x hx y hy=>?_⟩));rw [List.mem_singleton.1 hy];exact fun e=>h (e ▸ hx)
theorem DL.rch {g:List Nd} (hr:∀ i,i < g.length→∀ t ∈ yK g i,t < g.length) {is a b:List Nat} (h:DL g is a b):(∀ i ∈ is,i < g.length)→(∀ i ∈ is,Rch g i)→(∀ x ∈ a,Rch g x)→∀ x ∈ b,Rch g x:=by
  induction h with
  | nil=>exact fun _ _ h=>h
  | old h t ih=>exact fun hi hR ha=>ih (fun i h=>hi i (List.mem_cons_of_mem _ h)) (fun i h=>hR i (List.mem_cons_of_mem _ h)) ha
  | new h s t ihs iht=>
    rename_i i is o o1 o'
    intro hi hR ha;have hlt:=hi i (List.mem_cons_self ..);have hRi:=hR i (List.mem_cons_self ..);refine iht (fun i h=>hi i (List.mem_cons_of_mem _ h)) (fun i h=>hR i (List.mem_cons_of_mem _ h)) (ihs (hr i hlt) (fun t ht=>?_) (fun x hx=>?_))
    · simp only [yK,kJ hlt,List.mem_map] at ht
      obtain⟨y,hy,rfl⟩:=ht;exact .step hRi hlt hy
    · rcases List.mem_append.1 hx with hx | hx
      · exact ha x hx
      · rw [List.mem_singleton.1 hx];exact hRi
structure Tr (g:List Nd) (o:List Nat):Prop where
  dl:DL g [0] [] o
  ok:OOk g.length o
  nd:o.Nodup
  pos:0 < o.length
  zero:o.idxOf 0=0
  clo:∀ x ∈ o,∀ t ∈ yK g x,t ∈ o
theorem Nq {o:List Nat} (hn:o.Nodup) {k:Nat} (hk:k < o.length):o.idxOf o[k]=k:=by
  have h1:o.idxOf o[k] < o.length:=List.idxOf_lt_length_of_mem (List.getElem_mem hk);have h2:o[o.idxOf o[k]]=o[k]:=List.getElem_idxOf h1;exact(List.getElem_inj hn).1 h2
theorem Qj {o:List Nat} {x:Nat} (hx:x ∈ o):∃ h:o.idxOf x < o.length,o[o.idxOf x]=x:=⟨List.idxOf_lt_length_of_mem hx,List.getElem_idxOf _⟩
theorem numO_in {o:List Nat} {x:Nat} (hx:x ∈ o):kv o x=(o.idxOf x:Nat):=by simp [kv,hx]
theorem oK (g:List Nd) (o:List Nat):(jY g o).length=o.length:=by simp [jY]
theorem canG_nd {g:List Nd} {o:List Nat} {x:Nat} (hx:x ∈ o):nd (jY g o) (o.idxOf x)=canN g o x:=by
  obtain⟨h1,h2⟩:=Qj hx;rw [kJ (by rw [oK];exact h1)];simp [jY,h2]
theorem canG_succ {g:List Nd} {o:List Nat} (h:∀ x ∈ o,∀ t ∈ yK g x,t ∈ o) {x:Nat} (hx:x ∈ o):yK (jY g o) (o.idxOf x)=(yK g x).map (o.idxOf ·):=by
  unfold yK;rw [canG_nd hx];simp only [canN,List.map_map];refine List.map_congr_left (fun y hy=>?_);have:y.2.toNat ∈ o:=h x hx _ (by simp only [yK,List.mem_map];exact⟨y,hy,rfl⟩);simp [X3,numO_in this]
theorem DL.map {g:List Nd} {o:List Nat} (hc:∀ x ∈ o,∀ t ∈ yK g x,t ∈ o) {is a b:List Nat} (h:DL g is a b):(∀ x ∈ b,x ∈ o)→DL (jY g o) (is.map (o.idxOf ·)) (a.map (o.idxOf ·)) (b.map (o.idxOf ·)):=by
  have inj:∀ x y,x ∈ o→y ∈ o→o.idxOf x=o.idxOf y→x=y:=fun x y hx hy e=>by
    obtain⟨h1,h2⟩:=Qj hx;obtain⟨h3,h4⟩:=Qj hy;rw [← h2,← h4];simp only [e]
  induction h with
  | nil=>exact fun _=> .nil
  | old h t ih=>
    intro hb;exact .old (List.mem_map_of_mem h) (ih hb)
  | new h s t ihs iht=>
    rename_i i is o0 o1 o'
    intro hb;have hio:=hb i (t.sub _ (s.sub _ (by simp)));refine .new (fun hm=>?_) ?_ (iht hb)
    · obtain⟨y,hy,e⟩:=List.mem_map.1 hm
      have hyo:=hb y (t.sub _ (s.sub _ (List.mem_append_left _ hy)));exact h (inj y i hyo hio e ▸ hy)
    · have:=ihs (fun x hx=>hb x (t.sub _ hx))
      rw [List.map_append] at this;rw [canG_succ hc hio];exact this
theorem map_idx {o:List Nat} (hn:o.Nodup):o.map (o.idxOf ·)=List.range o.length:=by
  apply List.ext_getElem
  · simp
  · intro k h1 h2
    simp only [List.getElem_map,List.getElem_range];exact Nq hn (by simpa using h1)
end Go.Proofs.YtbcpgfnfiekbiaaGreatDoor
namespace Go.Proofs.YtbcpgfnfiekbiaaGreatDoor
open Go.RowKit
theorem FrSame.then {B B0:Nat} {w0 w1 w2:World} (h:FrSame B w0 w1) (k:FrSame B0 w1 w2) (hb:B0≤B):FrSame B w0 w2:=
  ⟨nLT h.size k.size,fun i hi hl=>(k.blk i (nLT hb hi) (nLL hl h.size)).trans (h.blk i hi hl)⟩
theorem fd115:(Tryz.prog.fieldsOf 115).toList.map (fun f=>(f.name == "_",f.type,f.offset))= [(false,3,0),(false,3,1)]:=by kernel_rfl
theorem fn73:zK Tryz.prog 73=true:=by kernel_rfl
theorem ft115:Tryz.prog.underlying 115=some (.struct (Tryz.prog.fieldsOf 115)):=by kernel_rfl
theorem leq_any (A B:Option Addr) (c d:Nat) (xs ys:List (Int×Int)) (w:World) (hX:LinksIn w A xs) (hY:LinksIn w B ys):Calls Tryz.prog 73 #[.slice A xs.length c,.slice B ys.length d] w fun e w'=>e= .returned (.bool (decide (xs=ys)))∧Bel w w':=by
 have hmx:=hX.1;unfold yJ at hmx;refine enT Tryz.func73 Tryz.ntmps73 rfl rfl fun hB=>?_;refine QJ ?_;refine zX rfl (fun c10=>?_) (fun c10=>?_)
 ·refine zn8 ?_;exact⟨vZ (decide_eq_false (fun h=>c10 (by rw [h]))),hB⟩
 refine vq ?_;refine zW (rg [4,5] 13 13) (fun m g w'=>∃ k:Nat,k≤xs.length∧m=xs.length - k∧g 13= .int .i64 k∧Bel w w'∧xs.take k=ys.take k) (xs.length) ?_ (fun m g4 w1 hI=>?_)
 ·exact⟨0,Nat.zero_le _,rfl,rfl,hB,rfl⟩
 obtain⟨k,hk,hm,h13,hB,hE⟩:=hI;refine zZ 13 _ h13 nu (zn6 ?_);refine zX rfl (fun c14=>?_) (fun c14=>?_)
 ·have hlt:k < xs.length:=by omega
  have hly:k < ys.length:=by omega
  obtain⟨pb,po,rfl,hpb,hpc⟩:=hX.at_ (Below.refl _ _:Bel w w) hlt;obtain⟨qb,qo,rfl,hqb,hqc⟩:=hY.at_ (Below.refl _ _:Bel w w) hly;refine vq ?_;refine SW kR kR (fun w2 s1=>?_);refine zn8 ?_;refine ws (r_neF Tryz.eqGuardType115 ft115 Tryz.stoodInHeld115 fd115 U3 rfl rfl) (s_nil (e_S ?_));refine zX rfl (fun c24=>?_) (fun c24=>?_)
  ·refine yZ ?_;replace hB:=hB.tr0 s1;exact⟨vZ (decide_eq_false (fun h=>c24 (by subst h;exact⟨rfl,rfl⟩))),hB⟩
  refine zn7 ?_;refine xv (xs.length - (k + 1)) oM agA ?_;have hx:xs[k]'hlt=ys[k]'hly:=by
    have h:=Decidable.not_not.1 c24;exact Prod.ext h.1 h.2
  replace hB:=hB.tr0 s1;exact⟨k + 1,by omega,rfl,rfl,hB,by rw [List.take_succ_eq_append_getElem hlt,List.take_succ_eq_append_getElem hly,hE,hx]⟩
 have hek:k=xs.length:=by omega
 have hfin:xs=ys:=by
   rw [hek] at hE;have e2:ys.take xs.length=ys:=List.take_of_length_le oM;rw [List.take_length,e2] at hE;exact hE
 refine yZ ?_;exact⟨vZ (decide_eq_true hfin),hB⟩
set_option maxHeartbeats 1000000 in
theorem nodes_any (A B:Option Addr) (c d:Nat) (ga gb:List Nd) (w:World) (hA:NodesIn w A ga) (hBn:NodesIn w B gb):Calls Tryz.prog 39 #[.agg #[.slice A ga.length c],.agg #[.slice B gb.length d]] w fun e w'=>e= .returned (.bool (decide (ga=gb)))∧Bel w w':=by
 have hmx:=hA.1;unfold yJ at hmx;refine enT Tryz.func39 Tryz.ntmps39 rfl rfl fun hB=>?_;refine zn2 ?_;refine x6 (v:= .agg #[_]) (cs:=#[_]) rfl rfl (fun b2 w1 hb2 s1 hr=>?_);refine x6 (v:= .agg #[_]) (cs:=#[_]) rfl rfl (fun b3 w2 hb3 s2 hr=>?_);refine QJ ?_;refine zX rfl (fun c12=>?_) (fun c12=>?_)
 ·refine zn8 ?_;replace hB:=hB.tr0 (s1.trans s2);exact⟨vZ (decide_eq_false (fun h=>c12 (by rw [h]))),hB⟩
 refine yZ ?_;refine zW (rg [4,5] 16 33) (fun m g w'=>∃ k:Nat,k≤ga.length∧m=ga.length - k∧g 16= .int .i64 k∧Bel w w'∧Blk w' b2 30 #[.slice A ga.length c]∧Blk w' b3 30 #[.slice B gb.length d]∧ga.take k=gb.take k) (ga.length) ?_ (fun m g4 w3 hI=>?_)
 ·exact⟨0,Nat.zero_le _,rfl,rfl,hB.u,hb2.u,hb3,rfl⟩
 obtain⟨k,hk,hm,h16,hB,hb2,hb3,hE⟩:=hI;refine zZ 16 _ h16 nu (zn6 ?_);refine zX rfl (fun c17=>?_) (fun c17=>?_)
 ·have hlt:k < ga.length:=by omega
  have hly:k < gb.length:=by omega
  obtain⟨ab,ao,LA,la,rfl,hab,har,haln⟩:=hA.at_ (Below.refl _ _:Bel w w) hlt;obtain⟨bb,bo,LB,lb,rfl,hbb,hbr,hbln⟩:=hBn.at_ (Below.refl _ _:Bel w w) hly;refine vq ?_;refine yy (rg [] 19 29) (fun g w'=>g 47= .bool (decide (¬(ga[k]'hlt).ty=(gb[k]'hly).ty) || !decide ((ga[k]'hlt).ln=(gb[k]'hly).ln))∧Same [] w3 w') ?_ (fun g6 w4 hI=>?_)
  ·refine jx [] [0,1,2,3,4,5,6,7,8,9,10,11,12,13,14,15,16,17,18,19,20,21,22,23,24,25,26,27,28] rfl (fun w5 s3=>?_);have hs0:=s3;refine zn5 ?_;refine hl1 (v:= .int _ _) rfl U3 rfl rfl (hB.u.cell hab (har 0 _ rfl)) (zn5 ?_);refine hl1 (v:= .int _ _) rfl U3 rfl rfl (hB.u.cell hbb (hbr 0 _ rfl)) (zn2 ?_);refine h_casesd 32 rfl (fun g32=>?_) (fun g32=>?_)
   ·refine Nk ?_;refine e_R ⟨agA,?_,hs0⟩;show Value.bool _=Value.bool _;exact congrArg Value.bool (by simp [g32])
   refine zn5 ?_;refine hg1 (v:= .slice _ _ _) 32 rfl rfl rfl u7 rfl rfl (hB.u.cell hab (har 1 _ rfl)) (zn5 ?_);refine hg1 (v:= .slice _ _ _) 32 rfl rfl rfl u7 rfl rfl (hB.u.cell hbb (hbr 1 _ rfl)) (h1 rfl (zn1 ?_));refine zV fn73 (leq_any _ _ _ _ _ _ w5 (haln.mono hB.u) (hbln.mono hB.u)) rfl (fun e' w6 hr=>?_);obtain⟨rfl,s4⟩:=hr;replace s4:=sB s4;have hsH26:=s4;refine⟨_,rfl,?_⟩;refine zJ (M5 hsH26 (zn3 ?_));replace hs0:=hs0.trans s4;refine e_R ⟨agA,?_,hs0⟩;show Value.bool _=Value.bool _;exact congrArg Value.bool (by simp [g32])
  obtain⟨h47,s5⟩:=hI;refine gV 47 _ h47 nu (e_S ?_);refine vK rfl (fun c47=>?_) (fun c47=>?_)
  ·refine yZ ?_;replace hB:=hB.tr0 s5
   exact⟨vZ (decide_eq_false (fun h=>by
     subst h
     simp at c47)),hB⟩
  have hx:ga[k]'hlt=gb[k]'hly:=by
    simp only [Bool.or_eq_false_iff,decide_eq_false_iff_not,Bool.not_eq_false',decide_eq_true_eq] at c47;exact Lj (Decidable.not_not.1 c47.1) c47.2
  refine zn7 ?_;refine xv (ga.length - (k + 1)) oM agA ?_;replace hB:=hB.tr0 s5;replace hb2:=hb2.tr0 s5;replace hb3:=hb3.tr0 s5;exact⟨k + 1,by omega,rfl,rfl,hB,hb2,hb3,by rw [List.take_succ_eq_append_getElem hlt,List.take_succ_eq_append_getElem hly,hE,hx]⟩
 have hek:k=ga.length:=by omega
 have hfin:ga=gb:=by
   rw [hek] at hE;have e2:gb.take ga.length=gb:=List.take_of_length_le oM;rw [List.take_length,e2] at hE;exact hE
 refine yZ ?_;exact⟨vZ (decide_eq_true hfin),hB⟩
end Go.Proofs.YtbcpgfnfiekbiaaGreatDoor
