/- A graph is unified into a node of another one; a rule's graph takes graphs for its daughters one after the other. No program in sight. What a rule makes of daughters that say more says more. No program in sight. Graphs and words of derivation trees as plain values; a tree without a fault has none in its parts. No program in sight. The engine: a region that draws its order, in which some operations store into blocks of a list X; every operation leaves what the others have told. The engine: a region that draws its order, with stores into blocks of a list X, and operations that are guarded. -/
import Derived.Test.YtdgnllfbooklcaaDoorLub
import Derived.Test.YtdgnllfbooklcaaDoorTurn
import Derived.Test.YtdgnllfbooklcaaDoorEng2
namespace Go.Proofs.YtdgnllfbooklcaaDoor
open Go.RowKit
section stp
variable {l:List Ty} {fs:List Ft} {ga gb X Y:List Nd} {j:Nat}
def vy (ga gb:List Nd):List Nd:=ga ++ gb.map (shN ga.length)
theorem E5 (ga gb:List Nd):(vy ga gb).length=ga.length + gb.length:=by simp [vy]
theorem DW {i:Nat} (h:i < ga.length):nd (vy ga gb) i=nd ga i:=ZJ h
theorem DV {i:Nat} (h:i < ga.length + gb.length) (hn:¬i < ga.length):nd (vy ga gb) i=shN ga.length (nd gb (i - ga.length))∧i - ga.length < gb.length:=by
  have hl:i - ga.length < gb.length:=by omega
  have h2:=Vj (U:=ga) hl;rw [show ga.length + (i - ga.length)=i by omega] at h2;exact⟨h2,hl⟩
theorem Q1 (hga:GX l ga) (hgb:GX l gb) (hj:j < ga.length) {P rep ρ:Nat→Nat} {T:Nat→Int} {L:Nat→List (Int×Int)} {o:List Nat} (hus:US l (vy ga gb) [(j,ga.length)] P rep ρ T L []) (hd:DL (xY (vy ga gb).length rep T L) [rep 0] [] o):
    TrR (xY (vy ga gb).length rep T L) (rep 0) o∧GX l (y5 (xY (vy ga gb).length rep T L) o)∧Maps l ga (y5 (xY (vy ga gb).length rep T L) o)∧Adm l (vy ga gb) (y5 (xY (vy ga gb).length rep T L) o) (fun i=>o.idxOf (rep i))∧o.idxOf (rep 0)=0∧o.idxOf (rep j)=o.idxOf (rep ga.length):=by
  have hlen:=E5 ga gb;have hp:=hga.pos;have hpb:=hgb.pos;have h0:0 < (vy ga gb).length:=by omega
  have hgy:=hus.gy hga.vt h0;have hr:=hus.uf.rl 0 h0;have hrr:=hus.uf.two h0;have t:=hgy.trr (r:=rep 0) (by rw [yY];exact hr) hd;have hjr:rep j=rep ga.length:=hus.jcov (j,ga.length) (by simp) rep ⟨fun i hi=>(hus.uf.two hi).symm,fun w hw=>by cases hw⟩;have z0:∀ x:Nd,shN 0 x=x:=fun x=>Y0 rfl (by simp [shN])
  obtain⟨φ,h1,h2,h3,h4,h5⟩:=hus.into hga.vt hr hrr t (g:=ga) (s:=0) hga (fun i hi=>by
    rw [Nat.zero_add,z0]
    exact⟨by omega,ZJ hi⟩) t.has
  obtain⟨ψ,k1,k2,k3,k4,k5⟩:=hus.into hga.vt hr hrr t (g:=gb) (s:=ga.length) hgb (fun i hi=>⟨by omega,Vj hi⟩) (by rw [← hjr];have:=(h2 j hj).1;rwa [Nat.zero_add] at this);have e1:∀ i,i < ga.length→o.idxOf (rep i)=φ i:=fun i hi=>by have:=(h2 i hi).2;rw [Nat.zero_add] at this;exact this.symm
  have e2:∀ i,i < gb.length→o.idxOf (rep (ga.length + i))=ψ i:=fun i hi=>((k2 i hi).2).symm
  refine⟨t,t.gx hgy,⟨φ,by rw [h1];exact t.zero,h3,h4,h5⟩,⟨fun i hi=>?_,fun i hi=>?_,fun i hi x hx=>?_⟩,t.zero,by rw [hjr]⟩ <;> rw [hlen] at hi <;> by_cases e:i < ga.length
  · rw [e1 i e];exact h3 i e
  · obtain⟨_,hl⟩:=DV hi e
    have:=e2 _ hl;rw [show ga.length + (i - ga.length)=i by omega] at this;rw [this];exact k3 _ hl
  · simp only [e1 i e];rw [DW e];exact h4 i e
  · obtain⟨hn,hl⟩:=DV hi e
    have:=e2 _ hl;rw [show ga.length + (i - ga.length)=i by omega] at this;simp only [this];rw [hn];exact k4 _ hl
  · simp only [e1 i e]
    rw [DW e] at hx;have hxr:=hga.lr i e x hx;rw [h5 i e x hx,e1 _ hxr.2]
  · obtain⟨hn,hl⟩:=DV hi e
    have he:=e2 _ hl;rw [show ga.length + (i - ga.length)=i by omega] at he;simp only [he];rw [hn] at hx;obtain⟨y,hy,rfl⟩:=List.mem_map.1 hx;have hyr:=hgb.lr _ hl y hy;rw [k5 _ hl y hy];have e3:(y.2 + (ga.length:Int)).toNat=ga.length + y.2.toNat:=by omega
    simp only [e3];rw [e2 _ hyr.2]
theorem C4 (hga:GX l ga) (hgb:GX l gb) (hj:j < ga.length) (h:VX l (vy ga gb) [(j,ga.length)] X):GX l X∧Maps l ga X:=by
  obtain⟨P,rep,ρ,T,L,o,hus,hd,rfl⟩:=h;obtain⟨_,a,b,_⟩:=Q1 hga hgb hj hus hd;exact⟨a,b⟩
theorem PY (hga:GX l ga) (hgb:GX l gb) (hj:j < ga.length) (h:VX l (vy ga gb) [(j,ga.length)] X):DQ l (vy ga gb) [(j,ga.length)]:=by
  obtain⟨P,rep,ρ,T,L,o,hus,hd,rfl⟩:=h;obtain⟨_,a,_,b,_,c⟩:=Q1 hga hgb hj hus hd;exact⟨_,_,a.tr,b,fun p hp=>by rw [List.mem_singleton.1 hp];exact c⟩
theorem stp_le (hga:GX l ga) (hgb:GX l gb) (hj:j < ga.length) (h:VX l (vy ga gb) [(j,ga.length)] X) (k:VX l (vy ga gb) [(j,ga.length)] Y):Maps l X Y:=by
  obtain⟨P,rep,ρ,T,L,o,hus,hd,rfl⟩:=h;obtain⟨P',rep',ρ',T',L',o',hus',hd',rfl⟩:=k;obtain⟨t,_⟩:=Q1 hga hgb hj hus hd;obtain⟨_,a,_,b,c,d⟩:=Q1 hga hgb hj hus' hd';have h0:0 < (vy ga gb).length:=by have:=E5 ga gb;have:=hga.pos;omega
  have hJ:∀ p ∈ [(j,ga.length)],(fun i=>o'.idxOf (rep' i)) p.1=(fun i=>o'.idxOf (rep' i)) p.2:=fun p hp=>by rw [List.mem_singleton.1 hp];exact d
  have hres:=(hus.only _ _ a.tr b hJ).1.1 0 h0;exact hus.least (hus.uf.rl 0 h0) (hus.uf.two h0) t a.tr b hJ (hres.symm.trans c)
theorem Ek (hga:GX l ga) (hgb:GX l gb) (hj:j < ga.length) (h:VX l (vy ga gb) [(j,ga.length)] X) (k:VX l (vy ga gb) [(j,ga.length)] Y):X=Y:=by
  have m1:=stp_le hga hgb hj h k;have m2:=stp_le hga hgb hj k h;have gx:=(C4 hga hgb hj h).1;have gy:=(C4 hga hgb hj k).1;have cX:∃ o,DL X [0] [] o∧y5 X o=X:=by
    obtain⟨P,rep,ρ,T,L,o,hus,hd,rfl⟩:=h;obtain⟨t,_⟩:=Q1 hga hgb hj hus hd;exact⟨_,by have:=t.dl2 t.has t.dl;rw [t.zero] at this;exact this,t.can2 t.has t.dl⟩
  have cY:∃ o,DL Y [0] [] o∧y5 Y o=Y:=by
    obtain⟨P,rep,ρ,T,L,o,hus,hd,rfl⟩:=k;obtain⟨t,_⟩:=Q1 hga hgb hj hus hd;exact⟨_,by have:=t.dl2 t.has t.dl;rw [t.zero] at this;exact this,t.can2 t.has t.dl⟩
  obtain⟨o,ho,e⟩:=cX;obtain⟨p,hp,e2⟩:=cY;have:=Wy gx gy m1 m2 ho hp;rw [e,e2] at this;exact this.symm
theorem stp_valid (ha:GV l fs ga) (hb:GV l fs gb) (hj:j < ga.length) (h:VX l (vy ga gb) [(j,ga.length)] X) (h60:X.length≤60):kj l fs X=(0,0):=by
  have hl:=(C4 ha.gx hb.gx hj h).1;obtain⟨P,rep,ρ,T,L,o,hus,hd,rfl⟩:=h;have hlen:=E5 ga gb;have h0:0 < (vy ga gb).length:=by have:=ha.gok.pos;omega
  obtain⟨t,_⟩:=Q1 ha.gx hb.gx hj hus hd
  have hfit:=hus.fit (fs:=fs) ha.s.vt (hus.uf.rl 0 h0) (hus.uf.two h0) t (fun i hi x hx=>by
    rw [hlen] at hi;by_cases e:i < ga.length
    · rw [DW e] at hx ⊢
      have h1:=ha.lt e hx;have h2:=(ha.gx.lr i e x hx).2;rw [DW h2];exact⟨⟨h1.1,h1.2.1⟩,h1.2.2⟩
    · obtain⟨h3,hl2⟩:=DV hi e
      rw [h3] at hx ⊢;obtain⟨y,hy,rfl⟩:=List.mem_map.1 hx;have h1:=hb.lt hl2 hy;have h2:=(hb.gx.lr _ hl2 y hy).2;have h4:=(hb.gx.lr _ hl2 y hy).1;have e1:(y.2 + (ga.length:Int)).toNat=ga.length + y.2.toNat:=by omega
      simp only [e1];rw [show nd (vy ga gb) (ga.length + y.2.toNat)=_ from Vj h2]
      exact⟨⟨h1.1,h1.2.1⟩,h1.2.2⟩)
  exact gf_mk ha.h hl h60 hfit.1 hfit.2
def plc (g:List Nd) (f:Int):Int:=tgt (nd g 0).ln f
theorem stp_plc (hga:GX l ga) (hgb:GX l gb) (hj:j < ga.length) (h:VX l (vy ga gb) [(j,ga.length)] X) {f:Int} (hf:0≤plc ga f):0≤plc X f:=by
  obtain⟨φ,hφ⟩:=(C4 hga hgb hj h).2;unfold plc at hf ⊢;rcases H8 (xs:=(nd ga 0).ln) (f:=f) with e | ⟨y,hy,e1,_⟩
  · omega
  · have:=hφ.ln 0 hga.pos y hy
    rw [hφ.zero,e1] at this;omega
structure Jok (l:List Ty) (fs:List Ft) (m:Int) (g:List Nd):Prop where
  v:GV l fs g
  z:kj l fs g=(0,0)
  p:∀ f:Int,0≤f→f≤m→0≤plc g f
theorem Jok.lt {m f:Int} {g:List Nd} (h:Jok l fs m g) (h0:0≤f) (hm:f≤m):(plc g f).toNat < g.length:=by
  have hp:=h.p f h0 hm;rcases H8 (xs:=(nd g 0).ln) (f:=f) with e | ⟨y,hy,e1,e2⟩
  · unfold plc at hp;omega
  · have:=(h.v.gx.lr 0 h.v.gx.pos y hy).2
    unfold plc;rw [e2];exact this
theorem Jok.step {m f:Int} {k:List Nd} (h:Jok l fs m ga) (hk:GV l fs k) (h0:0≤f) (hm:f≤m) (hX:VX l (vy ga k) [((plc ga f).toNat,ga.length)] X) (h60:X.length≤60):Jok l fs m X:=by
  have z:=stp_valid h.v hk (h.lt h0 hm) hX h60;exact⟨TK (by rw [z]),z,fun q q0 qm=>stp_plc h.v.gx hk.gx (h.lt h0 hm) hX (h.p q q0 qm)⟩
def BadU (l:List Ty) (U:List Nd) (J:List (Nat×Nat)):Prop:=¬DQ l U J∨∃ X,VX l U J X∧60 < X.length
theorem bad_no (hga:GX l ga) (hgb:GX l gb) (hj:j < ga.length) (h:BadU l (vy ga gb) [(j,ga.length)]) (hX:VX l (vy ga gb) [(j,ga.length)] X) (h60:X.length≤60):False:=by
  rcases h with h | ⟨Z,hZ,hz⟩
  · exact h (PY hga hgb hj hX)
  · rw [Ek hga hgb hj hX hZ] at h60;omega
def QJ (l:List Ty):List Nd→Nat→List (List Nd)→Bool→List Nd→Prop
  | x,_,[],ok,Y=>ok=true∧∃ o,DL x [(plc x 0).toNat] [] o∧Y=y5 x o
  | x,i,k :: ks,ok,Y=>(∃ X,VX l (vy x k) [((plc x ((i:Int) + 1)).toNat,x.length)] X∧X.length≤60∧QJ l X (i + 1) ks ok Y)∨(BadU l (vy x k) [((plc x ((i:Int) + 1)).toNat,x.length)]∧ok=false∧Y= [])
theorem join_no {x k:List Nd} {i:Nat} {ks:List (List Nd)} (h:BadU l (vy x k) [((plc x ((i:Int) + 1)).toNat,x.length)]):QJ l x i (k :: ks) false []:= .inr ⟨h,rfl,rfl⟩
theorem O5 {m:Int}:∀ (ks:List (List Nd)) (x:List Nd) (i:Nat) (ok ok':Bool) (Y Y':List Nd),Jok l fs m x→(∀ k ∈ ks,GV l fs k)→(i:Int) + ks.length≤m→QJ l x i ks ok Y→QJ l x i ks ok' Y'→ok=ok'∧Y=Y'
  | [],x,i,ok,ok',Y,Y',hx,_,_,h,h'=>by
    obtain⟨rfl,o,ho,rfl⟩:=h
    obtain⟨rfl,o',ho',rfl⟩:=h'
    exact⟨rfl,by rw [DL.det ho ho']⟩
  | k :: ks,x,i,ok,ok',Y,Y',hx,hk,hm,h,h'=>by
    rw [List.length_cons] at hm
    have hkv:=hk k (List.mem_cons_self ..)
    have hlt:=hx.lt (f:=(i:Int) + 1) om om
    rcases h with ⟨X,h1,h2,h3⟩ | ⟨h1,rfl,rfl⟩
    · rcases h' with ⟨X',k1,k2,k3⟩ | ⟨k1,_⟩
      · obtain rfl:=Ek hx.v.gx hkv.gx hlt h1 k1
        exact O5 ks X (i + 1) ok ok' Y Y' (hx.step hkv om om h1 h2) (fun q hq=>hk q (List.mem_cons_of_mem _ hq)) om h3 k3
      · exact(bad_no hx.v.gx hkv.gx hlt k1 h1 h2).elim
    · rcases h' with ⟨X',k1,k2,_⟩ | ⟨_,rfl,rfl⟩
      · exact(bad_no hx.v.gx hkv.gx hlt h1 k1 k2).elim
      · exact⟨rfl,rfl⟩
theorem Mk {g:List Nd} (h:(qj l fs).1=0) (h2:(xj l fs g).1=0):GV l fs g∧kj l fs g=(0,0):=by
  have e:(kj l fs g).1=0:=by rw [Dj h];exact h2
  have hv:=TK e;exact⟨hv,by rw [Dj h,JY hv.lo hv.t hv.u]⟩
theorem jok_rule {r:Rl} (h:(qj l fs).1=0) (h2:(xj l fs r.gr).1=0) (h3:uZ r.gr r.kids=true) (h4:r.kids≤3):Jok l fs r.kids r.gr:=by
  obtain⟨hv,hz⟩:=Mk h h2;refine⟨hv,hz,fun f f0 fm=>?_⟩;obtain⟨n,hn⟩:=Int.eq_ofNat_of_zero_le f0;subst hn;have:=List.all_eq_true.1 h3 n (List.mem_range.2 om);unfold plN at this;have e:decide ((n:Int)≤r.kids)=true:=decide_eq_true fm;rw [e] at this;have h5:(0:Int)≤tgt (I0 r.gr 0).ln (n:Int):=by simpa using this
  exact h5
end stp
end Go.Proofs.YtdgnllfbooklcaaDoor
namespace Go.Proofs.YtdgnllfbooklcaaDoor
open Go.RowKit
section mon
variable {l:List Ty} {fs:List Ft} {x z k k2 X Z:List Nd} {j:Nat} {φ χ:Nat→Nat}
theorem O3 {m:Int}:∀ (ks:List (List Nd)) (x:List Nd) (i:Nat) (Y:List Nd),Jok l fs m x→(∀ k ∈ ks,GV l fs k)→(i:Int) + ks.length≤m→0≤m→QJ l x i ks true Y→(kj l fs Y).1=0
  | [],x,i,Y,hx,_,_,h0,h=>by
    obtain⟨_,o,ho,rfl⟩:=h
    exact(hx.v.gx.toGY.trr (hx.lt (Int.le_refl _) h0) ho).valid hx.v
  | k :: ks,x,i,Y,hx,hv,hi,h0,h=>by
    rw [List.length_cons] at hi
    rcases h with ⟨X',h1,h2,h3⟩ | ⟨_,h',_⟩
    · exact O3 ks X' (i + 1) Y (hx.step (hv k (List.mem_cons_self ..)) om om h1 h2) (fun q hq=>hv q (List.mem_cons_of_mem _ hq)) om h0 h3
    · cases h'
end mon
end Go.Proofs.YtdgnllfbooklcaaDoor
namespace Go.Proofs.YtdgnllfbooklcaaDoor
open Go.RowKit
section
variable {rs:List Rl} {nx:Nat}
theorem chN_le {t:Dt} {c c':Nat} (h:c'≤c):chN rs t c'≤chN rs t c:=by unfold chN;split <;> omega
theorem lfN_le {t:Dt} {l l':Nat} (h:l'≤l):lfN t l'≤lfN t l:=by unfold lfN;split <;> omega
theorem lfN_ge {t:Dt} {l:Nat}:l≤lfN t l:=by unfold lfN;split <;> omega
theorem H1 (d c n l:Nat):tws rs nx [] d c n l=(n,l,(0,0)):=by rw [tws]
theorem K0 (x:Dt) (r:List Dt) (d c n l:Nat):tws rs nx (x :: r) d c n l=if (tw rs nx x d c n l).2.2.1=0 then tws rs nx r d c (tw rs nx x d c n l).1 (tw rs nx x d c n l).2.1 else tw rs nx x d c n l:=by rw [tws]
def WJ (rs:List Rl) (nx:Nat) (t:Dt):Prop:=∀ d c n l d' c' n' l',d'≤d→c'≤c→n'≤n→l'≤l→(tw rs nx t d c n l).2.2.1=0→(tw rs nx t d' c' n' l').2.2.1=0∧(tw rs nx t d' c' n' l').1≤(tw rs nx t d c n l).1∧(tw rs nx t d' c' n' l').2.1≤(tw rs nx t d c n l).2.1∧l≤(tw rs nx t d c n l).2.1
theorem E4:∀ (ks:List Dt),(∀ x ∈ ks,WJ rs nx x)→∀ d c n l d' c' n' l',d'≤d→c'≤c→n'≤n→l'≤l→(tws rs nx ks d c n l).2.2.1=0→(tws rs nx ks d' c' n' l').2.2.1=0∧(tws rs nx ks d' c' n' l').1≤(tws rs nx ks d c n l).1∧(tws rs nx ks d' c' n' l').2.1≤(tws rs nx ks d c n l).2.1∧l≤(tws rs nx ks d c n l).2.1
  | [],_,d,c,n,l,d',c',n',l',_,_,h3,h4,_=>by
    rw [H1,H1];exact⟨rfl,h3,h4,Nat.le_refl _⟩
  | x :: r,hx,d,c,n,l,d',c',n',l',h1,h2,h3,h4,h0=>by
    rw [K0] at h0
    by_cases e:(tw rs nx x d c n l).2.2.1=0
    · obtain⟨p1,p2,p3,p4⟩:=hx x (List.mem_cons_self ..) d c n l d' c' n' l' h1 h2 h3 h4 e
      rw [if_pos e] at h0
      obtain⟨q1,q2,q3,q4⟩:=E4 r (fun y hy=>hx y (List.mem_cons_of_mem _ hy)) d c _ _ d' c' _ _ h1 h2 p2 p3 h0
      rw [K0,K0,if_pos e,if_pos p1]
      exact⟨q1,q2,q3,nLT p4 q4⟩
    · rw [if_neg e] at h0;exact absurd h0 e
theorem tw_less:∀ (k:Nat) (t:Dt),SizeOf.sizeOf t < k→WJ rs nx t:=by
  intro k
  induction k with
  | zero=>intro t h;omega
  | succ k ih=>
    intro t ht d c n l d' c' n' l' h1 h2 h3 h4 h0;by_cases a1:200 < n + 1∨48 < d
    · rw [DY a1] at h0;cases h0
    by_cases a2:trC rs nx t=0
    · by_cases a3:3 < chN rs t c
      · rw [VW a1 a2 a3] at h0;cases h0
      · have b3:¬3 < chN rs t c':=by have:=chN_le (rs:=rs) (t:=t) h2;omega
        rw [MX a1 a2 a3] at h0;rw [MX a1 a2 a3,MX om a2 b3]
        obtain⟨q1,q2,q3,q4⟩:=E4 t.kids (fun x hx=>ih x (by
          have:=List.sizeOf_lt_of_mem hx;cases t with
          | mk r x ks=>simp only [Dt.mk.sizeOf_spec,Dt.kids] at ht this;omega)) (d + 1) (chN rs t c) (n + 1) (lfN t l) (d' + 1) (chN rs t c') (n' + 1) (lfN t l') om (chN_le h2) om (lfN_le h4) h0
        exact⟨q1,q2,q3,nLT lfN_ge q4⟩
    · rw [Jx a1 rfl a2] at h0;exact absurd h0 a2
theorem Tx (t:Dt):WJ rs nx t:=tw_less (SizeOf.sizeOf t + 1) t (Nat.lt_succ_self _)
theorem H2:∀ (ks:List Dt) (d c n l:Nat),(tws rs nx ks d c n l).2.2.1=0→∀ x ∈ ks,∃ n2 l2,(tw rs nx x d c n2 l2).2.2.1=0∧(tw rs nx x d c n2 l2).2.1≤(tws rs nx ks d c n l).2.1
  | [],_,_,_,_,_,x,hx=>by cases hx
  | y :: r,d,c,n,l,h0,x,hx=>by
    rw [K0] at h0 ⊢
    by_cases e:(tw rs nx y d c n l).2.2.1=0
    · rw [if_pos e] at h0 ⊢
      rcases List.mem_cons.1 hx with rfl | hx
      · exact⟨n,l,e,(E4 r (fun _ _=>Tx _) d c _ _ d c _ _ (Nat.le_refl _) (Nat.le_refl _) (Nat.le_refl _) (Nat.le_refl _) h0).2.2.2⟩
      · exact H2 r d c _ _ h0 x hx
    · rw [if_neg e] at h0;exact absurd h0 e
theorem kid_ok {t x:Dt} (h:(yv rs nx t).1=0) (hx:x ∈ t.kids):(yv rs nx x).1=0:=by
  by_cases a:(tw rs nx t 1 0 0 0).2.2.1=0
  · by_cases b:12 < (tw rs nx t 1 0 0 0).2.1
    · rw [NQ a b] at h;cases h
    · by_cases a1:200 < 0 + 1∨48 < 1
      · omega
      by_cases a2:trC rs nx t=0
      · by_cases a3:3 < chN rs t 0
        · rw [VW a1 a2 a3] at a;cases a
        · rw [MX a1 a2 a3] at a b
          obtain⟨n2,l2,p1,p2⟩:=H2 _ _ _ _ _ a x hx;obtain⟨q1,_,q3,_⟩:=Tx x _ _ _ _ 1 0 0 0 om (Nat.zero_le _) (Nat.zero_le _) (Nat.zero_le _) p1;rw [tf_ok q1 om]
      · rw [Jx a1 rfl a2] at a;exact absurd a a2
  · rw [C0 a] at h;exact absurd h a
end
def P7 (xs:List Lx) (x:Int):ByteArray:=((xs[x.toNat]?).map (·.word)).getD ⟨#[]⟩
def lxGr (xs:List Lx) (x:Int):List Nd:=((xs[x.toNat]?).map (·.gr)).getD []
def rlGr (rs:List Rl) (r:Int):List Nd:=((rs[r.toNat]?).map (·.gr)).getD []
theorem lxWd_at {xs:List Lx} {i:Nat} (hi:i < xs.length) {x:Int} (h:x=(i:Int)):P7 xs x=(xs[i]).word:=by simp [P7,h,hi]
theorem L5 {xs:List Lx} {i:Nat} (hi:i < xs.length) {x:Int} (h:x=(i:Int)):lxGr xs x=(xs[i]).gr:=by simp [lxGr,h,hi]
theorem Cy {rs:List Rl} {i:Nat} (hi:i < rs.length) {x:Int} (h:x=(i:Int)):rlGr rs x=(rs[i]).gr:=by simp [rlGr,h,hi]
mutual
def wdT (xs:List Lx):Dt→List ByteArray
  | .mk r x ks=>(if r < 0 then [P7 xs x] else []) ++ Iy xs ks
def Iy (xs:List Lx):List Dt→List ByteArray
  | []=>[]
  | t :: r=>wdT xs t ++ Iy xs r
end
theorem wdT_eq (xs:List Lx) (t:Dt):wdT xs t=(if t.rule < 0 then [P7 xs t.lex] else []) ++ Iy xs t.kids:=by cases t;rw [wdT];rfl
mutual
theorem RZ (xs:List Lx):∀ t:Dt,(wdT xs t).length≤ndT t
  | .mk r x ks=>by
    rw [wdT,ndT,List.length_append]
    have:=WV xs ks
    split <;> simp <;> omega
theorem WV (xs:List Lx):∀ l:List Dt,(Iy xs l).length≤Qx l
  | []=>by rw [Iy,Qx];exact Nat.le_refl _
  | t :: r=>by rw [Iy,Qx,List.length_append];have:=RZ xs t;have:=WV xs r;omega
end
mutual
def TgR (l:List Ty) (rs:List Rl) (xs:List Lx):Dt→Bool→List Nd→Prop
  | .mk r x ks,ok,X=>if r < 0 then (ok=true∧∃ o,DL (lxGr xs x) [0] [] o∧X=y5 (lxGr xs x) o) else ((∃ Ys,gW l rs xs ks Ys∧QJ l (rlGr rs r) 0 Ys ok X)∨(TgB l rs xs ks∧ok=false∧X= []))
def gW (l:List Ty) (rs:List Rl) (xs:List Lx):List Dt→List (List Nd)→Prop
  | [],Ys=>Ys= []
  | t :: r,Ys=>∃ Y Zs,TgR l rs xs t true Y∧gW l rs xs r Zs∧Ys=Y :: Zs
def TgB (l:List Ty) (rs:List Rl) (xs:List Lx):List Dt→Prop
  | []=>False
  | t :: r=>TgR l rs xs t false []∨TgB l rs xs r
end
section
variable {l:List Ty} {fs:List Ft} {rs:List Rl} {xs:List Lx}
theorem E7 {t:Dt} {ok:Bool} {X:List Nd} (h:t.rule < 0):TgR l rs xs t ok X ↔ (ok=true∧∃ o,DL (lxGr xs t.lex) [0] [] o∧X=y5 (lxGr xs t.lex) o):=by
  cases t;rw [TgR];exact iff_of_eq (if_pos h)
theorem Xy {t:Dt} {ok:Bool} {X:List Nd} (h:¬t.rule < 0):TgR l rs xs t ok X ↔ ((∃ Ys,gW l rs xs t.kids Ys∧QJ l (rlGr rs t.rule) 0 Ys ok X)∨(TgB l rs xs t.kids∧ok=false∧X= [])):=by
  cases t;rw [TgR];exact iff_of_eq (if_neg h)
theorem E6:∀ {ks:List Dt} {Ys:List (List Nd)} {t:Dt} {Y:List Nd},gW l rs xs ks Ys→TgR l rs xs t true Y→gW l rs xs (ks ++ [t]) (Ys ++ [Y])
  | [],Ys,t,Y,h,k=>by
    rw [gW] at h;subst h
    show gW l rs xs (t :: []) [Y]
    rw [gW];exact⟨Y,[],k,by rw [gW],rfl⟩
  | a :: ks,Ys,t,Y,h,k=>by
    rw [gW] at h
    obtain⟨Z,Zs,h1,h2,rfl⟩:=h
    show gW l rs xs (a :: (ks ++ [t])) _
    rw [gW];exact⟨Z,Zs ++ [Y],h1,E6 h2 k,rfl⟩
theorem tgB_iff:∀ {ks:List Dt},TgB l rs xs ks ↔ ∃ t ∈ ks,TgR l rs xs t false []
  | []=>by rw [TgB];simp
  | a :: ks=>by rw [TgB,tgB_iff (ks:=ks)];simp
theorem K1:∀ {ks:List Dt} {Ys:List (List Nd)},gW l rs xs ks Ys→Ys.length=ks.length
  | [],Ys,h=>by rw [gW] at h;rw [h];rfl
  | a :: ks,Ys,h=>by
    rw [gW] at h
    obtain⟨Z,Zs,_,h2,rfl⟩:=h
    rw [List.length_cons,List.length_cons,K1 h2]
theorem O4:∀ (ks:List (List Nd)) (x:List Nd) (i:Nat) (Y:List Nd),QJ l x i ks false Y→Y= []
  | [],x,i,Y,h=>by obtain⟨h,_⟩:=h;cases h
  | k :: ks,x,i,Y,h=>by
    rcases h with ⟨X,_,_,h⟩ | ⟨_,_,h⟩
    · exact O4 ks X (i + 1) Y h
    · exact h
theorem tg_no {t:Dt} {X:List Nd} (h:TgR l rs xs t false X):X= []:=by
  by_cases hr:t.rule < 0
  · have:=((E7 hr).1 h).1;cases this
  · rcases(Xy hr).1 h with ⟨Ys,_,h⟩ | ⟨_,_,h⟩
    · exact O4 _ _ _ _ h
    · exact h
structure Nv (l:List Ty) (fs:List Ft) (rs:List Rl) (xs:List Lx):Prop where
  h0:(qj l fs).1=0
  rl:∀ i (hi:i < rs.length),Jok l fs (rs[i]).kids (rs[i]).gr∧0≤(rs[i]).kids∧(rs[i]).kids≤3
  lx:∀ i (hi:i < xs.length),GV l fs (xs[i]).gr
def AllG (l:List Ty) (fs:List Ft) (rs:List Rl) (xs:List Lx) (t:Dt):Prop:=(∀ X,TgR l rs xs t true X→(kj l fs X).1=0)∧∀ ok X ok' X',TgR l rs xs t ok X→TgR l rs xs t ok' X'→ok=ok'∧X=X'
theorem Zw:∀ (ks:List Dt),(∀ t ∈ ks,AllG l fs rs xs t)→∀ Ys Zs,gW l rs xs ks Ys→(∀ Y ∈ Ys,(kj l fs Y).1=0)∧(gW l rs xs ks Zs→Ys=Zs)∧¬TgB l rs xs ks
  | [],_,Ys,Zs,h=>by
    rw [gW] at h;subst h
    refine⟨(fun Y hY=>by cases hY),fun h=>?_,fun h=>?_⟩
    · rw [gW] at h;exact h.symm
    · rw [TgB] at h;exact h
  | a :: ks,H,Ys,Zs,h=>by
    rw [gW] at h
    obtain⟨Y,Us,h1,h2,rfl⟩:=h
    obtain⟨a1,a2⟩:=H a (List.mem_cons_self ..)
    have ih:=fun Vs=>Zw ks (fun t ht=>H t (List.mem_cons_of_mem _ ht)) Us Vs h2
    refine⟨fun Z hZ=>?_,fun h=>?_,fun h=>?_⟩
    · rcases List.mem_cons.1 hZ with rfl | hZ
      · exact a1 _ h1
      · exact(ih []).1 _ hZ
    · rw [gW] at h
      obtain⟨Y',Vs,k1,k2,rfl⟩:=h
      rw [(a2 _ _ _ _ h1 k1).2,(ih Vs).2.1 k2]
    · rw [TgB] at h
      rcases h with h | h
      · have:=(a2 _ _ _ _ h1 h).1;cases this
      · exact(ih []).2.2 h
theorem tg_all (G:Nv l fs rs xs):∀ (k:Nat) (t:Dt),SizeOf.sizeOf t < k→OkT rs xs.length t→AllG l fs rs xs t:=by
  intro k
  induction k with
  | zero=>intro t h;omega
  | succ k ih=>
    intro t ht hok;obtain⟨hk1,hk2⟩:=hok.at_
    have hks:∀ x ∈ t.kids,AllG l fs rs xs x:=fun x hx=>ih x (by
      have:=List.sizeOf_lt_of_mem hx;cases t with
      | mk r x ks=>simp only [Dt.mk.sizeOf_spec,Dt.kids] at ht this;omega) (hk2 x hx)
    by_cases hr:t.rule < 0
    · obtain⟨_,q1,q2,_⟩:=KY hk1 hr
      obtain⟨xi,hxi⟩:=Int.eq_ofNat_of_zero_le q1;have hxil:xi < xs.length:=by omega
      have hv:=G.lx xi hxil;have e:=L5 hxil hxi;refine⟨fun X h=>?_,fun ok X ok' X' h h'=>?_⟩
      · obtain⟨_,o,hd,rfl⟩:=(E7 hr).1 h
        rw [e] at hd ⊢;exact(hv.gx.toGY.trr hv.gx.pos hd).valid hv
      · obtain⟨rfl,o,hd,rfl⟩:=(E7 hr).1 h
        obtain⟨rfl,o',hd',rfl⟩:=(E7 hr).1 h';rw [DL.det hd hd'];exact⟨rfl,rfl⟩
    · obtain⟨q1,_,q2⟩:=KW hk1 hr
      obtain⟨ri,hri⟩:=Int.eq_ofNat_of_zero_le (Int.not_lt.1 hr);have hril:ri < rs.length:=by omega
      obtain⟨hj,hk0,_⟩:=G.rl ri hril;have e:=Cy hril hri;rw [CW hril hri] at q2;refine⟨fun X h=>?_,fun ok X ok' X' h h'=>?_⟩
      · rcases(Xy hr).1 h with ⟨Ys,h1,h2⟩ | ⟨_,h,_⟩
        · rw [e] at h2
          exact O3 Ys _ 0 X hj (fun Y hY=>TK ((Zw _ hks Ys [] h1).1 Y hY)) (by rw [K1 h1];omega) hk0 h2
        · cases h
      · rcases(Xy hr).1 h with ⟨Ys,h1,h2⟩ | ⟨h1,rfl,rfl⟩
        · obtain⟨d1,d2,d3⟩:=Zw _ hks Ys Ys h1
          rcases(Xy hr).1 h' with ⟨Zs,k1,k2⟩ | ⟨k1,rfl,rfl⟩
          · have:=(Zw _ hks Ys Zs h1).2.1 k1
            subst this;rw [e] at h2 k2;exact O5 Ys _ 0 ok ok' X X' hj (fun Y hY=>TK (d1 Y hY)) (by rw [K1 h1];omega) h2 k2
          · exact absurd k1 d3
        · rcases(Xy hr).1 h' with ⟨Zs,k1,k2⟩ | ⟨k1,rfl,rfl⟩
          · exact absurd h1 (Zw _ hks Zs Zs k1).2.2
          · exact⟨rfl,rfl⟩
theorem tg_det (G:Nv l fs rs xs) {t:Dt} (hok:OkT rs xs.length t) {ok ok':Bool} {X X':List Nd} (h:TgR l rs xs t ok X) (h':TgR l rs xs t ok' X'):ok=ok'∧X=X':=(tg_all G (SizeOf.sizeOf t + 1) t (Nat.lt_succ_self _) hok).2 _ _ _ _ h h'
theorem NZ (G:Nv l fs rs xs) {ks:List Dt} (hk:∀ x ∈ ks,OkT rs xs.length x):∀ x ∈ ks,AllG l fs rs xs x:=fun x hx=>tg_all G (SizeOf.sizeOf x + 1) x (Nat.lt_succ_self _) (hk x hx)
theorem tgs_gf (G:Nv l fs rs xs) {ks:List Dt} (hk:∀ x ∈ ks,OkT rs xs.length x) {Ys:List (List Nd)} (h:gW l rs xs ks Ys):∀ Y ∈ Ys,(kj l fs Y).1=0:=(Zw ks (NZ G hk) Ys [] h).1
theorem tgs_gv (G:Nv l fs rs xs) {ks:List Dt} (hk:∀ x ∈ ks,OkT rs xs.length x) {Ys:List (List Nd)} (h:gW l rs xs ks Ys):∀ Y ∈ Ys,GV l fs Y:=fun Y hY=>TK (tgs_gf G hk h Y hY)
theorem tg_bad (G:Nv l fs rs xs) {t:Dt} (hok:OkT rs xs.length t) (hr:¬t.rule < 0) (hb:TgB l rs xs t.kids) {ok:Bool} {X:List Nd} (h:TgR l rs xs t ok X):ok=false:=by
  rcases(Xy hr).1 h with ⟨Ys,h1,_⟩ | ⟨_,h,_⟩
  · exact absurd hb (Zw _ (NZ G hok.at_.2) Ys [] h1).2.2
  · exact h
theorem tg_join (G:Nv l fs rs xs) {t:Dt} (hok:OkT rs xs.length t) (hr:¬t.rule < 0) {Ys:List (List Nd)} (hY:gW l rs xs t.kids Ys) {ok:Bool} {X:List Nd} (h:TgR l rs xs t ok X):QJ l (rlGr rs t.rule) 0 Ys ok X:=by
  rcases(Xy hr).1 h with ⟨Zs,h1,h2⟩ | ⟨h1,_,_⟩
  · rw [(Zw _ (NZ G hok.at_.2) Ys Zs hY).2.1 h1];exact h2
  · exact absurd h1 (Zw _ (NZ G hok.at_.2) Ys [] hY).2.2
end
end Go.Proofs.YtdgnllfbooklcaaDoor
namespace Go.Proofs.YtdgnllfbooklcaaDoor
open Go.RowKit
section monok
variable {P:Program} {Q:Exit→Act→World→Prop} {n:Nat} {f:Fr} {w:World}
def vO (f:Fr) (o:Oper):Value:=match o.dst with
  | some d=>f d
  | none=>undef
def rO (R:Nat→Value→World→Prop) (i:Nat) (o:Oper) (v:Value) (w:World):Prop:=match o.dst with
  | some _=>R i v w
  | none=>R i undef w
def EW (l:List Oper) (m:Nat) (S:List Nat):Bool:=
  decide (l.length=m) && (List.range l.length).all (fun i=>match l[i]? with
    | some o=>o.guard.isNone && (yx o).all (fun j=>decide (j < i)) && (match o.dst with
      | some d=>mem S d && (List.range l.length).all (fun j=>decide (i=j) || (match l[j]? with | some o'=>!(o'.dst == some d) | none=>true))
      | none=>true)
    | none=>false)
theorem M7 {Post:Value→World→Prop} {op:Op} {ty:TypeId} {pos:String} {af:Array Edge} (h:∀ (ops:Array Oper) (Q:Exit→Act→World→Prop),(∀ w',Post undef w'→WL P ops Q [] n f w')→WL P ops Q [⟨none,op,ty,pos,af,none⟩] n f w):OS P n f w ⟨none,op,ty,pos,af,none⟩ Post:=by
  unfold OS;intro K Q hK
  have h1:=h #[] (D8 K Q) (fun w' hp=>by
    unfold WL;refine wpList_nil ?_;have:=hK undef w' hp
    exact this)
  unfold WL wpList at h1;rw [if_pos (by simp [Region.wanted])] at h1;have ho:¬LetsOut (D8 K Q):=fun⟨_,_,h⟩=>h
  rcases h1 with h1 | ⟨_,h1⟩
  · exact J8 (Q:=D8 K Q) (fun a w h=>h) (fun c a w h=>h) ho h1
  · exact absurd h1 ho
theorem c_monoK {id:Nat} {l:List Oper} (m:Nat) (S X:List Nat) (R:Nat→Value→World→Prop) (J:World→Prop) (hm:P.follows .mixedOrders=true) (hB:EW l m S=true) (hJ0:∀ w',Same [] w w'→J w')
    (step:∀ i o,i < m→l[i]? =some o→∀ f' w',Same X w w'→J w'→Ag S f' f→(∀ j o',j ∈ yx o→l[j]? =some o'→R j (vO f' o') w')→OS P n f' w' o (fun v w''=>Same X w' w''∧J w''∧rO R i o v w''∧∀ k v,k≠i→R k v w'→R k v w''))
    (fin:∀ f' w',Same X w w'→J w'→Ag S f' f→(∀ i o,l[i]? =some o→R i (vO f' o) w')→WL P l.toArray Q [] n f' w'):WC P (.region id l.toArray true) Q n f w:=by
  unfold WC;refine wp_region_any hm ?_;simp only [EW,Bool.and_eq_true,List.all_eq_true,List.mem_range,decide_eq_true_eq] at hB;obtain⟨hlm,hB⟩:=hB;have hget:∀ i o,l[i]? =some o→o.guard=none∧(∀ j ∈ yx o,j < i)∧∀ d,o.dst=some d→mem S d=true∧∀ j o',l[j]? =some o'→i≠j→o'.dst≠some d:=fun i o ho=>by
    have hil:i < l.length:=(List.getElem?_eq_some_iff.1 ho).1;have h:=hB i hil;simp only [ho,Bool.and_eq_true] at h;obtain⟨⟨h1,h2⟩,h3⟩:=h;refine⟨Option.isNone_iff_eq_none.1 h1,fun j hj=>by simpa using List.all_eq_true.1 h2 j hj,fun d hd=>?_⟩;simp only [hd,Bool.and_eq_true] at h3;refine⟨h3.1,fun j o' ho' hne hd'=>?_⟩;have h4:=List.all_eq_true.1 h3.2 j (List.mem_range.2 (List.getElem?_eq_some_iff.1 ho').1);simp [ho',hd',hne] at h4
  have key:∀ (fuel:Nat) (listed:Array Bool) (f':Fr) (w':World),listed.size=l.length→Dn l listed→Same X w w'→J w'→Ag S f' f→(∀ i o,l[i]? =some o→listed.getD i false=true→R i (vO f' o) w')→
      (List.range l.length).countP (fun i=>!listed.getD i false)≤fuel→wpAny P .any l.toArray Q fuel listed (AF n f') w':=by
    have fin':∀ (listed:Array Bool) (f':Fr) (w':World),Same X w w'→J w'→Ag S f' f→(∀ i o,l[i]? =some o→listed.getD i false=true→R i (vO f' o) w')→(∀ i,i < l.length→listed.getD i false=true)→Q .normal (AF n f') w':=fun listed f' w' hs hj hag hR hall=>by
      have:=fin f' w' hs hj hag (fun i o ho=>hR i o ho (hall i (List.getElem?_eq_some_iff.1 ho).1));unfold WL at this;exact this
    intro fuel
    induction fuel with
    | zero=>
      intro listed f' w' hs hD hsm hj hag hR hc;have hall:∀ i,i < l.length→listed.getD i false=true:=by
        intro i hi;have h0:(List.range l.length).countP (fun i=>!listed.getD i false)=0:=by omega
        rw [List.countP_eq_zero] at h0;have:=h0 i (List.mem_range.2 hi)
        simpa using this
      refine⟨?_,fin' listed f' w' hsm hj hag hR hall⟩;cases hr:Region.ready .any l.toArray listed with
      | nil=>rfl
      | cons i r=>
        obtain⟨o,ho,hn,_⟩:=kz listed i (by rw [hr];simp);have:i < l.length:=(List.getElem?_eq_some_iff.1 ho).1;rw [hall i om] at hn;cases hn
    | succ fuel ih=>
      intro listed f' w' hs hD hsm hj hag hR hc;refine⟨fun hr=>?_,fun i hi=>?_⟩
      · have hall:∀ k,k≤l.length→∀ i,i < k→listed.getD i false=true:=by
          intro k
          induction k with
          | zero=>intro _ i hi;omega
          | succ k ihk=>
            intro hk i hi;have ihk':=ihk om;by_cases hik:i < k
            · exact ihk' i hik
            · have:i=k:=by omega
              subst this;cases hb:listed.getD i false with
              | true=>rfl
              | false=>
                have ho:l[i]? =some l[i]:=List.getElem?_eq_getElem om;have:=J0 listed i _ hs ho hb (fun j hj=>ihk' j ((hget i _ ho).2.1 j hj));rw [hr] at this;cases this
        exact fin' listed f' w' hsm hj hag hR (hall l.length (Nat.le_refl _))
      · obtain⟨o,ho,hn,hd⟩:=kz listed i hi
        have hil:i < l.length:=(List.getElem?_eq_some_iff.1 ho).1;obtain⟨hg,hdl,hdd⟩:=hget i o ho;unfold wpOp;simp only [List.getElem?_toArray,ho];rw [if_pos (by simp [Region.wanted,hg])]
        left
        have hst1:=step i o om ho f' w' hsm hj hag (fun j o' hjd ho'=>hR j o' ho' (hd j hjd));unfold OS at hst1;refine hst1 _ _ ?_
        rintro v w'' ⟨hs1,hj1,hr1,hk1⟩
        have hli:∀ j,i≠j→(listed.setIfInBounds i true).getD j false=listed.getD j false:=fun j hij=>by
          simp only [Array.getD_eq_getD_getElem?,Array.getElem?_setIfInBounds_ne hij]
        have hlt:=jz (p:=fun i=>!listed.getD i false) (q:=fun k=>!(listed.setIfInBounds i true).getD k false) (fun x hx=>by
          by_cases hix:i=x
          · subst hix;simp [hn]
          · simpa only [Array.getD_eq_getD_getElem?,Array.getElem?_setIfInBounds_ne hix] using hx) (List.range l.length) i (List.mem_range.2 hil) (by simp [hn]) (by
            have:i < listed.size:=by omega
            simp [this])
        cases hdst:o.dst with
        | none=>
          have hri:R i undef w'':=by simpa only [rO,hdst] using hr1
          show wpAny P .any l.toArray Q fuel (listed.setIfInBounds i true) (AF n f') w'';refine ih _ _ _ (by simpa using hs) (hD.set om ho hd) (hsm.trans hs1) hj1 hag (fun j o' ho' hl'=>?_) om;by_cases hij:i=j
          · subst hij
            rw [ho] at ho';cases ho'
            simpa only [vO,hdst] using hri
          · rw [hli j hij] at hl'
            exact hk1 j _ (fun e=>hij e.symm) (hR j o' ho' hl')
        | some d=>
          have hri:R i v w'':=by simpa only [rO,hdst] using hr1
          obtain⟨hSd,hne⟩:=hdd d hdst;rw [kJ];refine ih _ _ _ (by simpa using hs) (hD.set om ho hd) (hsm.trans hs1) hj1 (JV hSd hag) (fun j o' ho' hl'=>?_) om;by_cases hij:i=j
          · subst hij
            rw [ho] at ho';cases ho';have:vO (upd f' d v) o=v:=by simp [vO,hdst,upd]
            rw [this];exact hri
          · rw [hli j hij] at hl'
            have:vO (upd f' d v) o'=vO f' o':=by
              unfold vO;cases hd':o'.dst with
              | none=>rfl
              | some d'=>
                have h1:=hne j o' ho' hij;rw [hd'] at h1;simp only [upd];have:Nat.beq d' d=false:=by
                  cases hb:Nat.beq d' d
                  · rfl
                  · exact absurd (congrArg some (Nat.eq_of_beq_eq_true hb)) h1
                simp [this]
            rw [this];exact hk1 j _ (fun e=>hij e.symm) (hR j o' ho' hl')
  have h0:=key l.length (Array.replicate l.length false) f { w with drawn:=w.drawn + 1 } (by simp) (fun j o _ h=>by
    simp only [Array.getD_eq_getD_getElem?,Array.getElem?_replicate] at h
    split at h <;> cases h) ((Same.drew w 1).weak (fun x hx=>by cases hx)) (hJ0 _ (Same.drew w 1)) QX (fun i o _ h=>by
    simp only [Array.getD_eq_getD_getElem?,Array.getElem?_replicate] at h
    split at h <;> cases h) (by
      have:=List.countP_le_length (p:=fun i=>!(Array.replicate l.length false).getD i false) (l:=List.range l.length);simp only [List.length_range] at this
      omega)
  simpa using h0
theorem R5 {id:Nat} {l:List Oper} (m:Nat) (S X:List Nat) (R:Nat→Value→World→Prop) (J:World→Prop) (hm:P.follows .mixedOrders=true) (hB:EW l m S=true)
    (hst:∀ i v w1 w2,R i v w1→Same [] w1 w2→R i v w2) (hJ:∀ w1 w2,J w1→Same [] w1 w2→J w2) (hJ0:J w)
    (step:∀ i o,i < m→l[i]? =some o→∀ g w',Same X w w'→J w'→(∀ j o',j ∈ yx o→l[j]? =some o'→R j (vO g o') w')→match o.dst with
      | some _=>OS P n (ovr S g f) w' o (fun v w''=>Same [] w' w''∧R i v w''∧PZ false w' w'' v)
      | none=>OS P n (ovr S g f) w' o (fun _ w''=>Same X w' w''∧J w''∧R i undef w''∧∀ k v,k≠i→R k v w'→R k v w''))
    (fin:∀ g w',Same X w w'→J w'→(∀ i o,l[i]? =some o→R i (vO g o) w')→WL P l.toArray Q [] n (ovr S g f) w'):WC P (.region id l.toArray true) Q n f w:=by
  refine c_monoK m S X R J hm hB (fun w' hs=>hJ _ _ hJ0 hs) (fun i o hi ho f' w' hs hj hag hd=>?_) (fun f' w' hs hj hag hR=>?_)
  · have h:=step i o hi ho f' w' hs hj hd
    rw [← ov hag] at h;unfold rO;cases hdst:o.dst with
    | some d=>
      simp only [hdst] at h;unfold OS at h ⊢;exact fun K Q hK=>h K Q (fun v w'' ⟨h1,h2,_⟩=>hK v w'' ⟨h1.weak (fun x hx=>by cases hx),hJ _ _ hj h1,h2,fun k v _ hr=>hst k v _ _ hr h1⟩)
    | none=>
      simp only [hdst] at h;unfold OS at h ⊢;exact fun K Q hK=>h K Q (fun v w'' h1=>hK v w'' h1)
  · have:=fin f' w' hs hj hR
    rwa [← ov hag] at this
end monok
end Go.Proofs.YtdgnllfbooklcaaDoor
namespace Go.Proofs.YtdgnllfbooklcaaDoor
open Go.RowKit
section monokg
variable {P:Program} {Q:Exit→Act→World→Prop} {n:Nat} {f:Fr} {w:World}
def FV (l:List Oper) (m:Nat) (S:List Nat):Bool:=
  decide (l.length=m) && (List.range l.length).all (fun i=>match l[i]? with
    | some o=>(yx o).all (fun j=>decide (j < i)) && (match o.dst with
      | some d=>mem S d && (List.range l.length).all (fun j=>decide (i=j) || (match l[j]? with | some o'=>!(o'.dst == some d) | none=>true))
      | none=>true)
    | none=>false)
theorem c_monoKG {id:Nat} {l:List Oper} (m:Nat) (S X:List Nat) (R:Nat→Value→World→Prop) (J:World→Prop) (hm:P.follows .mixedOrders=true) (hB:FV l m S=true) (hJ0:∀ w',Same [] w w'→J w')
    (step:∀ i o,i < m→l[i]? =some o→∀ f' w',Same X w w'→J w'→Ag S f' f→(∀ j o',j ∈ yx o→l[j]? =some o'→R j (vO f' o') w')→(Region.wanted o (yielded l.toArray (AF n f').tmps)=true→OS P n f' w' o (fun v w''=>Same X w' w''∧J w''∧rO R i o v w''∧∀ k v,k≠i→R k v w'→R k v w''))∧(Region.wanted o (yielded l.toArray (AF n f').tmps)=false→R i undef w'))
    (fin:∀ f' w',Same X w w'→J w'→Ag S f' f→(∀ i o,l[i]? =some o→R i (vO f' o) w')→WL P l.toArray Q [] n f' w'):WC P (.region id l.toArray true) Q n f w:=by
  unfold WC;refine wp_region_any hm ?_;simp only [FV,Bool.and_eq_true,List.all_eq_true,List.mem_range,decide_eq_true_eq] at hB;obtain⟨hlm,hB⟩:=hB;have hget:∀ i o,l[i]? =some o→True∧(∀ j ∈ yx o,j < i)∧∀ d,o.dst=some d→mem S d=true∧∀ j o',l[j]? =some o'→i≠j→o'.dst≠some d:=fun i o ho=>by
    have hil:i < l.length:=(List.getElem?_eq_some_iff.1 ho).1;have h:=hB i hil;simp only [ho,Bool.and_eq_true] at h;obtain⟨h2,h3⟩:=h;refine⟨trivial,fun j hj=>by simpa using List.all_eq_true.1 h2 j hj,fun d hd=>?_⟩;simp only [hd,Bool.and_eq_true] at h3;refine⟨h3.1,fun j o' ho' hne hd'=>?_⟩;have h4:=List.all_eq_true.1 h3.2 j (List.mem_range.2 (List.getElem?_eq_some_iff.1 ho').1);simp [ho',hd',hne] at h4
  have key:∀ (fuel:Nat) (listed:Array Bool) (f':Fr) (w':World),listed.size=l.length→Dn l listed→Same X w w'→J w'→Ag S f' f→(∀ i o,l[i]? =some o→listed.getD i false=true→R i (vO f' o) w')→
      (List.range l.length).countP (fun i=>!listed.getD i false)≤fuel→wpAny P .any l.toArray Q fuel listed (AF n f') w':=by
    have fin':∀ (listed:Array Bool) (f':Fr) (w':World),Same X w w'→J w'→Ag S f' f→(∀ i o,l[i]? =some o→listed.getD i false=true→R i (vO f' o) w')→(∀ i,i < l.length→listed.getD i false=true)→Q .normal (AF n f') w':=fun listed f' w' hs hj hag hR hall=>by
      have:=fin f' w' hs hj hag (fun i o ho=>hR i o ho (hall i (List.getElem?_eq_some_iff.1 ho).1));unfold WL at this;exact this
    intro fuel
    induction fuel with
    | zero=>
      intro listed f' w' hs hD hsm hj hag hR hc;have hall:∀ i,i < l.length→listed.getD i false=true:=by
        intro i hi;have h0:(List.range l.length).countP (fun i=>!listed.getD i false)=0:=by omega
        rw [List.countP_eq_zero] at h0;have:=h0 i (List.mem_range.2 hi)
        simpa using this
      refine⟨?_,fin' listed f' w' hsm hj hag hR hall⟩;cases hr:Region.ready .any l.toArray listed with
      | nil=>rfl
      | cons i r=>
        obtain⟨o,ho,hn,_⟩:=kz listed i (by rw [hr];simp);have:i < l.length:=(List.getElem?_eq_some_iff.1 ho).1;rw [hall i om] at hn;cases hn
    | succ fuel ih=>
      intro listed f' w' hs hD hsm hj hag hR hc;refine⟨fun hr=>?_,fun i hi=>?_⟩
      · have hall:∀ k,k≤l.length→∀ i,i < k→listed.getD i false=true:=by
          intro k
          induction k with
          | zero=>intro _ i hi;omega
          | succ k ihk=>
            intro hk i hi;have ihk':=ihk om;by_cases hik:i < k
            · exact ihk' i hik
            · have:i=k:=by omega
              subst this;cases hb:listed.getD i false with
              | true=>rfl
              | false=>
                have ho:l[i]? =some l[i]:=List.getElem?_eq_getElem om;have:=J0 listed i _ hs ho hb (fun j hj=>ihk' j ((hget i _ ho).2.1 j hj));rw [hr] at this;cases this
        exact fin' listed f' w' hsm hj hag hR (hall l.length (Nat.le_refl _))
      · obtain⟨o,ho,hn,hd⟩:=kz listed i hi
        have hil:i < l.length:=(List.getElem?_eq_some_iff.1 ho).1;obtain⟨hg,hdl,hdd⟩:=hget i o ho;unfold wpOp;simp only [List.getElem?_toArray,ho];have next:∀ v w'',Same X w' w''→J w''→rO R i o v w''→(∀ k v,k≠i→R k v w'→R k v w'')→wpAny P .any l.toArray Q fuel (listed.setIfInBounds i true) ((AF n f').put o.dst v) w'':=by
          intro v w'' hs1 hj1 hr1 hk1;have hli:∀ j,i≠j→(listed.setIfInBounds i true).getD j false=listed.getD j false:=fun j hij=>by
            simp only [Array.getD_eq_getD_getElem?,Array.getElem?_setIfInBounds_ne hij]
          have hlt:=jz (p:=fun i=>!listed.getD i false) (q:=fun k=>!(listed.setIfInBounds i true).getD k false) (fun x hx=>by
            by_cases hix:i=x
            · subst hix;simp [hn]
            · simpa only [Array.getD_eq_getD_getElem?,Array.getElem?_setIfInBounds_ne hix] using hx) (List.range l.length) i (List.mem_range.2 hil) (by simp [hn]) (by
              have:i < listed.size:=by omega
              simp [this])
          cases hdst:o.dst with
          | none=>
            have hri:R i undef w'':=by simpa only [rO,hdst] using hr1
            show wpAny P .any l.toArray Q fuel (listed.setIfInBounds i true) (AF n f') w'';refine ih _ _ _ (by simpa using hs) (hD.set om ho hd) (hsm.trans hs1) hj1 hag (fun j o' ho' hl'=>?_) om;by_cases hij:i=j
            · subst hij
              rw [ho] at ho';cases ho'
              simpa only [vO,hdst] using hri
            · rw [hli j hij] at hl'
              exact hk1 j _ (fun e=>hij e.symm) (hR j o' ho' hl')
          | some d=>
            have hri:R i v w'':=by simpa only [rO,hdst] using hr1
            obtain⟨hSd,hne⟩:=hdd d hdst;rw [kJ];refine ih _ _ _ (by simpa using hs) (hD.set om ho hd) (hsm.trans hs1) hj1 (JV hSd hag) (fun j o' ho' hl'=>?_) om;by_cases hij:i=j
            · subst hij
              rw [ho] at ho';cases ho';have:vO (upd f' d v) o=v:=by simp [vO,hdst,upd]
              rw [this];exact hri
            · rw [hli j hij] at hl'
              have:vO (upd f' d v) o'=vO f' o':=by
                unfold vO;cases hd':o'.dst with
                | none=>rfl
                | some d'=>
                  have h1:=hne j o' ho' hij;rw [hd'] at h1;simp only [upd];have:Nat.beq d' d=false:=by
                    cases hb:Nat.beq d' d
                    · rfl
                    · exact absurd (congrArg some (Nat.eq_of_beq_eq_true hb)) h1
                  simp [this]
              rw [this];exact hk1 j _ (fun e=>hij e.symm) (hR j o' ho' hl')
        have hst1:=step i o om ho f' w' hsm hj hag (fun j o' hjd ho'=>hR j o' ho' (hd j hjd));by_cases hwt:Region.wanted o (yielded l.toArray (AF n f').tmps)=true
        · rw [if_pos hwt]
          left
          have hst2:=hst1.1 hwt;unfold OS at hst2;exact hst2 _ _ (fun v w'' ⟨hs1,hj1,hr1,hk1⟩=>next v w'' hs1 hj1 hr1 hk1)
        · rw [if_neg hwt]
          refine next undef w' ((Same.refl [] w').weak (fun x hx=>by cases hx)) hj ?_ (fun k v _ h=>h);have hu:=hst1.2 (by simpa using hwt);unfold rO;cases o.dst <;> exact hu
  have h0:=key l.length (Array.replicate l.length false) f { w with drawn:=w.drawn + 1 } (by simp) (fun j o _ h=>by
    simp only [Array.getD_eq_getD_getElem?,Array.getElem?_replicate] at h
    split at h <;> cases h) ((Same.drew w 1).weak (fun x hx=>by cases hx)) (hJ0 _ (Same.drew w 1)) QX (fun i o _ h=>by
    simp only [Array.getD_eq_getD_getElem?,Array.getElem?_replicate] at h
    split at h <;> cases h) (by
      have:=List.countP_le_length (p:=fun i=>!(Array.replicate l.length false).getD i false) (l:=List.range l.length);simp only [List.length_range] at this
      omega)
  simpa using h0
theorem Dy {id:Nat} {l:List Oper} (m:Nat) (S X:List Nat) (R:Nat→Value→World→Prop) (J:World→Prop) (hm:P.follows .mixedOrders=true) (hB:FV l m S=true)
    (hst:∀ i v w1 w2,R i v w1→Same [] w1 w2→R i v w2) (hJ:∀ w1 w2,J w1→Same [] w1 w2→J w2) (hJ0:J w)
    (step:∀ i o,i < m→l[i]? =some o→∀ g w',Same X w w'→J w'→(∀ j o',j ∈ yx o→l[j]? =some o'→R j (vO g o') w')→(Region.wanted o (yielded l.toArray (AF n (ovr S g f)).tmps)=true→match o.dst with
      | some _=>OS P n (ovr S g f) w' o (fun v w''=>Same [] w' w''∧R i v w''∧PZ false w' w'' v)
      | none=>OS P n (ovr S g f) w' o (fun _ w''=>Same X w' w''∧J w''∧R i undef w''∧∀ k v,k≠i→R k v w'→R k v w''))∧(Region.wanted o (yielded l.toArray (AF n (ovr S g f)).tmps)=false→R i undef w'))
    (fin:∀ g w',Same X w w'→J w'→(∀ i o,l[i]? =some o→R i (vO g o) w')→WL P l.toArray Q [] n (ovr S g f) w'):WC P (.region id l.toArray true) Q n f w:=by
  refine c_monoKG m S X R J hm hB (fun w' hs=>hJ _ _ hJ0 hs) (fun i o hi ho f' w' hs hj hag hd=>?_) (fun f' w' hs hj hag hR=>?_)
  · have h:=step i o hi ho f' w' hs hj hd
    rw [← ov hag] at h;refine⟨fun hw=>?_,h.2⟩;replace h:=h.1 hw;unfold rO;cases hdst:o.dst with
    | some d=>
      simp only [hdst] at h;unfold OS at h ⊢;exact fun K Q hK=>h K Q (fun v w'' ⟨h1,h2,_⟩=>hK v w'' ⟨h1.weak (fun x hx=>by cases hx),hJ _ _ hj h1,h2,fun k v _ hr=>hst k v _ _ hr h1⟩)
    | none=>
      simp only [hdst] at h;unfold OS at h ⊢;exact fun K Q hK=>h K Q (fun v w'' h1=>hK v w'' h1)
  · have:=fin f' w' hs hj hR
    rwa [← ov hag] at this
end monokg
end Go.Proofs.YtdgnllfbooklcaaDoor
