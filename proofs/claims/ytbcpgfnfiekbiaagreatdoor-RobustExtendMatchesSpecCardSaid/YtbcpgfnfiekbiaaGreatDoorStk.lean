/- Data in newer blocks, but for holes; rows of data; copies. No program in sight. The engine: a region that draws its order, in which some operations store into blocks of a list X; every operation leaves what the others have told. The engine's seventh part: a drawn region of whatever operations. What these functions of the program compute, at every world: glosswright/simple.Clone. Stacks of types and terms that a world holds. No program in sight. -/
import Derived.Test.YtbcpgfnfiekbiaaGreatDoorLxd
import Derived.Test.YtbcpgfnfiekbiaaGreatDoorEng2
import Derived.Test.YtbcpgfnfiekbiaaGreatDoorRng
import Derived.Test.YtbcpgfnfiekbiaaGreatDoorEng4
import Derived.Test.YtbcpgfnfiekbiaaGreatDoorU
import Derived.Test.YtbcpgfnfiekbiaaGreatDoorTrm
namespace Go.Proofs.YtbcpgfnfiekbiaaGreatDoor
open Go.RowKit
structure Hv (lo:Nat) (X:List Nat) (n:Nat) (w:World) (P:World→Prop):Prop where
  le:n≤w.heap.size
  all:∀ w2,w.heap.size≤w2.heap.size→(∀ k,lo≤k→k < n→k ∉ X→w2.heap[k]? =w.heap[k]?)→P w2
section hv
variable {lo lo2 n m:Nat} {X Y Z:List Nat} {w w1 w2:World} {P Q:World→Prop}
theorem Hv.now (h:Hv lo X n w P):P w:=h.all w (Nat.le_refl _) (fun _ _ _ _=>rfl)
theorem Hv.tr (h:Hv lo X n w P) (hs:Same Z w w1) (hz:∀ g ∈ Z,g < lo∨g ∈ X∨n≤g):Hv lo X n w1 P:=
  ⟨nLT h.le hs.size,fun w2 h2 hk=>h.all w2 (nLT hs.size h2) (fun k h3 h4 h5=>(hk k h3 h4 h5).trans (hs.blk k (nLL h4 h.le) (fun hm=>by
    rcases hz k hm with e | e | e
    · omega
    · exact h5 e
    · omega)))⟩
theorem Hv.tr0 (h:Hv lo X n w P) (hs:Same [] w w1):Hv lo X n w1 P:=h.tr hs (by simp)
theorem Hv.bel (h:Hv lo X n w P) (hb:Bel w w1):Hv lo X n w1 P:=h.tr0 (sB hb)
theorem Hv.in1 {b:Nat} (h:Hv lo X n w P) (hs:Same [b] w w1) (hb:b ∈ X):Hv lo X n w1 P:=h.tr hs (fun g hg=> .inr (.inl (by rw [List.mem_singleton.1 hg];exact hb)))
theorem Hv.lo1 {b:Nat} (h:Hv lo X n w P) (hs:Same [b] w w1) (hb:b < lo):Hv lo X n w1 P:=h.tr hs (fun g hg=> .inl (by rw [List.mem_singleton.1 hg];exact hb))
theorem Hv.mono (h:Hv lo X n w P) (hl:lo2≤lo) (hn:n≤m) (hm:m≤w.heap.size):Hv lo2 X m w P:=⟨hm,fun w2 h2 hk=>h.all w2 h2 (fun k h3 h4 h5=>hk k om om h5)⟩
theorem Hv.up (h:Hv lo X n w P):Hv lo X w.heap.size w P:=h.mono (Nat.le_refl _) h.le (Nat.le_refl _)
theorem Hv.hole (h:Hv lo X n w P) (hy:∀ y ∈ Y,y ∈ X∨y < lo∨n≤y):Hv lo Y n w P:=⟨h.le,fun w2 h2 hk=>h.all w2 h2 (fun k h3 h4 h5=>hk k h3 h4 (fun hm=>by
  rcases hy k hm with e | e | e
  · exact h5 e
  · omega
  · omega))⟩
theorem Hv.nil (h:Hv lo X n w P):Hv lo [] n w P:=h.hole (by simp)
theorem Hv.imp (h:Hv lo X n w P) (hi:∀ w,P w→Q w):Hv lo X n w Q:=⟨h.le,fun w2 h2 hk=>hi w2 (h.all w2 h2 hk)⟩
theorem Hv.and (h:Hv lo X n w P) (g:Hv lo X m w Q):Hv lo X w.heap.size w (fun w=>P w∧Q w):=⟨Nat.le_refl _,fun w2 h2 hk=>⟨h.up.all w2 h2 hk,g.up.all w2 h2 hk⟩⟩
theorem Hv.triv (lo:Nat) (X:List Nat) (w:World) (h:∀ w,P w):Hv lo X w.heap.size w P:=⟨Nat.le_refl _,fun w2 _ _=>h w2⟩
theorem Hv.blk {b t:Nat} {cs:Array Value} (h:Blk w b t cs) (hl:lo≤b) (hx:b ∉ X):Hv lo X w.heap.size w (fun w=>Blk w b t cs):=⟨Nat.le_refl _,fun _ _ hk=>(hk b hl h.lt hx).trans h⟩
theorem Hv.fr (h:∀ w2,FrSame lo w w2→P w2):Hv lo [] w.heap.size w P:=⟨Nat.le_refl _,fun w2 h2 hk=>h w2 ⟨h2,fun k h3 h4=>hk k h3 h4 (by simp)⟩⟩
end hv
inductive RowD {α:Type} (C:World→α→List Value→Prop) (sz:Nat) (w:World):List α→List Value→Prop
  | nil:RowD C sz w [] []
  | snoc {l:List α} {vs v:List Value} {x:α} (h:RowD C sz w l vs) (hv:v.length=sz) (hx:C w x v):RowD C sz w (l ++ [x]) (vs ++ v)
theorem RowD.len {α:Type} {C:World→α→List Value→Prop} {sz:Nat} {w:World} {l:List α} {vs:List Value} (h:RowD C sz w l vs):vs.length=l.length * sz:=by
  induction h with
  | nil=>simp
  | snoc h hv _ ih=>simp only [List.length_append,List.length_cons,List.length_nil,ih,hv,Nat.add_mul,Nat.zero_add,Nat.one_mul]
theorem RowD.get {α:Type} {C:World→α→List Value→Prop} {sz:Nat} {w:World} {l:List α} {vs:List Value} (h:RowD C sz w l vs):∀ k (hk:k < l.length),∃ v,v.length=sz∧C w l[k] v∧∀ j u,v[j]? =some u→vs[k * sz + j]? =some u:=by
  induction h with
  | nil=>intro k hk;simp at hk
  | @snoc l vs v x h hv hx ih=>
    intro k hk;have hlen:=h.len;by_cases e:k < l.length
    · rw [List.getElem_append_left e]
      obtain⟨v1,h0,h1,h2⟩:=ih k e;refine⟨v1,h0,h1,fun j u hj=>?_⟩;have hj9:j < sz:=by rw [← h0];exact(List.getElem?_eq_some_iff.1 hj).1
      have hm:(k + 1) * sz≤l.length * sz:=Nat.mul_le_mul_right _ e;rw [Nat.add_mul,Nat.one_mul] at hm;rw [List.getElem?_append_left om];exact h2 j u hj
    · simp only [List.length_append,List.length_cons,List.length_nil] at hk
      have ek:k=l.length:=by omega
      subst ek;refine⟨v,hv,by simpa using hx,fun j u hj=>?_⟩;rw [List.getElem?_append_right om,hlen,Nat.add_sub_cancel_left];exact hj
theorem own_at2 {w:World} {base k cap sz:Nat} {e:TypeId} {A:Option Addr} {vs:List Value} (ho:Own w base e sz A k cap vs) (hne:vs≠[]):∃ (g:Nat) (cs:Array Value),A=some ⟨g,0,none⟩∧base≤g∧Blk w g e cs∧∀ (j:Nat) (u:Value),vs[j]? =some u→cs[j]? =some u:=by
  rcases ho.2 with ⟨_,hn⟩ | ⟨g,c,cur,hv,hb,hg,hk,hm,hs,ht⟩
  · have h1:=ho.1
    rw [hn,Nat.zero_mul] at h1;exact absurd (List.length_eq_zero_iff.1 h1) hne
  · cases hv
    refine⟨g,cur,rfl,hb,hg,fun j u hj=>?_⟩;rw [← ht] at hj;have hjl:j < k * sz:=by
      have:=(List.getElem?_eq_some_iff.1 hj).1;rw [List.length_take] at this;omega
    rw [List.getElem?_take_of_lt hjl] at hj
    simpa using hj
theorem Vz {α:Type} {C:World→α→List Value→Prop} {R:World→Option Addr→List α→Prop} {sz:Nat} {w:World} {base lo k cap n:Nat} {e:TypeId} {A:Option Addr} {l:List α} {vs:List Value} {X Y:List Nat}
    (hR:∀ (w:World) (A:Option Addr),R w A [])
    (hC:∀ (w:World) (g:Nat) (cs:Array Value),Blk w g e cs→l.length≤vQ→(∀ k (hk:k < l.length),∃ v,C w l[k] v∧w.rangeAt g (0 + k * sz) v)→R w (some ⟨g,0,none⟩) l)
    (hz:0 < sz) (ho:Own w base e sz A k cap vs) (hb:lo≤base) (hd:Hv lo X n w (fun w=>RowD C sz w l vs)) (hY:∀ y ∈ Y,y ∈ X) (hA:∀ y ∈ Y,y ∉ aL A):Hv lo Y w.heap.size w (fun w=>R w A l):=by
  have hlen:=hd.now.len;cases hl:l with
  | nil=>exact Hv.triv _ _ _ (fun w=>hR w A)
  | cons a r=>
    rw [← hl];have hne:vs≠[]:=fun h0=>by
      rw [h0,hl] at hlen;simp only [List.length_nil,List.length_cons,Nat.add_mul] at hlen;omega
    obtain⟨g,cs,rfl,hg,hblk,hcs⟩:=own_at2 ho hne;have hmx:=ho.max;have hk:l.length=k:=by
      have h1:=ho.len;rw [hlen] at h1;exact Nat.eq_of_mul_eq_mul_right hz h1
    refine((Hv.blk hblk (nLT hb hg) (fun h=>hA g h (List.mem_singleton.2 rfl))).and (hd.hole (fun y hy=> .inl (hY y hy))).up).imp (fun w2 h=>?_);refine hC w2 g cs h.1 (by rw [hk];exact hmx) (fun i hi=>?_);obtain⟨v,hv,h1,h2⟩:=h.2.get i hi;refine⟨v,h1,h.1.range (fun j u hj=>?_)⟩;rw [Nat.zero_add];exact hcs _ _ (h2 j u hj)
theorem I7 {α:Type} {C:World→α→List Value→Prop} {R:World→Option Addr→List α→Prop} {sz:Nat} {w:World} {base lo k cap n:Nat} {e:TypeId} {A:Option Addr} {l:List α} {vs:List Value} {X:List Nat}
    (hR:∀ (w:World) (A:Option Addr),R w A [])
    (hC:∀ (w:World) (g:Nat) (cs:Array Value),Blk w g e cs→l.length≤vQ→(∀ k (hk:k < l.length),∃ v,C w l[k] v∧w.rangeAt g (0 + k * sz) v)→R w (some ⟨g,0,none⟩) l)
    (hz:0 < sz) (ho:Own w base e sz A k cap vs) (hb:lo≤base) (hd:Hv lo X n w (fun w=>RowD C sz w l vs)):Hv lo [] w.heap.size w (fun w=>R w A l):=
  Vz hR hC hz ho hb hd (by simp) (by simp)
def smC (w:World) (s:Sm) (v:List Value):Prop:=∃ A c,v= [.string s.base,.slice A s.args.length c]∧SimsIn w A s.args
def tmD (w:World) (t:Tm) (v:List Value):Prop:=∃ S B cs cb,v=tmC t S B cs cb∧SimsIn w S t.type.args∧TmsIn w B t.args
theorem sim_at {w:World} {b o:Nat} {s:Sm} {A:Option Addr} {c:Nat} (hb:b < w.heap.size) (h:w.rangeAt b o [.string s.base,.slice A s.args.length c]) (h1:SimsIn w A s.args):SimAt w b o s:=by
  cases s with
  | mk nm a=>exact .mk hb h h1
theorem own_sims {w:World} {base lo k cap n:Nat} {A:Option Addr} {l:List Sm} {vs:List Value} {X:List Nat} (ho:Own w base 41 2 A k cap vs) (hb:lo≤base) (hd:Hv lo X n w (fun w=>RowD smC 2 w l vs)):Hv lo [] w.heap.size w (fun w=>SimsIn w A l):=
  I7 (fun _ _=> .nil) (fun w g cs hblk hl hk=> .more hl hblk.lt (fun k hkl=>by
    obtain⟨v,⟨A,c,rfl,hs⟩,hr⟩:=hk k hkl
    exact sim_at hblk.lt hr hs)) dE ho hb hd
theorem own_tms {w:World} {base lo k cap n:Nat} {A:Option Addr} {l:List Tm} {vs:List Value} {X:List Nat} (ho:Own w base 44 6 A k cap vs) (hb:lo≤base) (hd:Hv lo X n w (fun w=>RowD tmD 6 w l vs)):Hv lo [] w.heap.size w (fun w=>TmsIn w A l):=
  I7 (fun _ _=> .nil) (fun w g cs hblk hl hk=> .more hl hblk.lt (fun k hkl=>by
    obtain⟨v,⟨S,B,cs',cb,rfl,hs,ht⟩,hr⟩:=hk k hkl
    exact tm_at hblk.lt hr hs ht)) dE ho hb hd
def lxD (w:World) (x:Lx) (v:List Value):Prop:=x.word.size < 9223372036854775807∧∃ G S B cg cs cb,v=lxC x G S B cg cs cb∧NodesIn w G x.gr∧SimsIn w S x.mean.type.args∧TmsIn w B x.mean.args
def rlCc (r:Rl) (G S B:Option Addr) (cg cs cb:Nat):List Value:=[.string r.name,.slice G r.gr.length cg,.int .i64 r.kids,.int .i64 r.wt] ++ tmC r.mean S B cs cb
def rlD (w:World) (r:Rl) (v:List Value):Prop:=∃ G S B cg cs cb,v=rlCc r G S B cg cs cb∧NodesIn w G r.gr∧SimsIn w S r.mean.type.args∧TmsIn w B r.mean.args
theorem Dw {w:World} {base lo k cap n:Nat} {A:Option Addr} {l:List Lx} {vs:List Value} {X:List Nat} (ho:Own w base 46 9 A k cap vs) (hb:lo≤base) (hd:Hv lo X n w (fun w=>RowD lxD 9 w l vs)):Hv lo [] w.heap.size w (fun w=>LexesIn w A l):=
  I7 (fun _ _=>⟨Nat.zero_le _,fun h=>absurd rfl h⟩) (fun w g cs hblk hl hk=>⟨hl,fun _=>⟨g,0,rfl,hblk.lt,fun k hkl=>by
    obtain⟨v,⟨h0,G,S,B,cg,cs',cb,rfl,hg,hs,ht⟩,hr⟩:=hk k hkl
    exact⟨h0,G,cg,S,cs',B,cb,hr,hg,hs,ht⟩⟩⟩) dE ho hb hd
theorem L3 {w:World} {base lo k cap n:Nat} {A:Option Addr} {l:List Rl} {vs:List Value} {X Y:List Nat} (ho:Own w base 54 10 A k cap vs) (hb:lo≤base) (hd:Hv lo X n w (fun w=>RowD rlD 10 w l vs)) (hY:∀ y ∈ Y,y ∈ X) (hA:∀ y ∈ Y,y ∉ aL A):Hv lo Y w.heap.size w (fun w=>RulesIn w A l):=
  Vz (fun _ _=>⟨Nat.zero_le _,fun h=>absurd rfl h⟩) (fun w g cs hblk hl hk=>⟨hl,fun _=>⟨g,0,rfl,hblk.lt,fun k hkl=>by
    obtain⟨v,⟨G,S,B,cg,cs',cb,rfl,hg,hs,ht⟩,hr⟩:=hk k hkl
    exact⟨G,cg,S,cs',B,cb,hr,hg,hs,ht⟩⟩⟩) dE ho hb hd hY hA
def tyD (w:World) (t:Ty) (v:List Value):Prop:=∃ A c,v= [.string t.name,.slice A t.par.length c]∧IntsIn w A t.par
theorem RJ {w:World} {base lo k cap n:Nat} {A:Option Addr} {l:List Ty} {vs:List Value} {X Y:List Nat} (ho:Own w base 110 2 A k cap vs) (hb:lo≤base) (hd:Hv lo X n w (fun w=>RowD tyD 2 w l vs)) (hY:∀ y ∈ Y,y ∈ X) (hA:∀ y ∈ Y,y ∉ aL A):Hv lo Y w.heap.size w (fun w=>TypesIn w A l):=
  Vz (fun _ _=>⟨Nat.zero_le _,fun h=>absurd rfl h⟩) (fun w g cs hblk hl hk=>⟨hl,fun _=>⟨g,0,rfl,hblk.lt,fun k hkl=>by
    obtain⟨v,⟨A,c,rfl,hs⟩,hr⟩:=hk k hkl
    exact⟨A,c,hr,hs⟩⟩⟩) dE ho hb hd hY hA
inductive SmK:Sm→Prop
  | mk {b:ByteArray} {l:List Sm} (hl:l.length≤1000) (hk:∀ x ∈ l,SmK x):SmK (.mk b l)
inductive TmK:Tm→Prop
  | mk {k i:Int} {nm:ByteArray} {s:Sm} {l:List Tm} (hs:SmK s) (hl:l.length≤1000) (hk:∀ x ∈ l,TmK x):TmK (.mk k nm i s l)
theorem Ts.smK:∀ τ:Ts,SmK τ.sm
  | .b _=> .mk (Nat.zero_le _) (fun x h=>by cases h)
  | .f x y=> .mk (by show 2≤1000;decide) (fun z h=>by
    rcases List.mem_cons.1 h with h | h
    · rw [h];exact x.smK
    · rw [List.mem_singleton.1 h];exact y.smK)
theorem smZ_K:SmK smZ:= .mk (Nat.zero_le _) (fun x h=>by cases h)
theorem Tv.tmK:∀ v:Tv,TmK v.tm
  | .con _ τ=> .mk τ.smK (Nat.zero_le _) (fun x h=>by cases h)
  | .var _=> .mk smZ_K (Nat.zero_le _) (fun x h=>by cases h)
  | .abs τ x=> .mk τ.smK (by show 1≤1000;decide) (fun z h=>by rw [List.mem_singleton.1 h];exact x.tmK)
  | .app x y=> .mk smZ_K (by show 2≤1000;decide) (fun z h=>by
    rcases List.mem_cons.1 h with h | h
    · rw [h];exact x.tmK
    · rw [List.mem_singleton.1 h];exact y.tmK)
theorem SmK.le {s:Sm} (h:SmK s):s.args.length≤1000:=by
  cases h with
  | mk hl _=>exact hl
theorem TmK.le {s:Tm} (h:TmK s):s.args.length≤1000:=by
  cases h with
  | mk _ hl _=>exact hl
theorem TmK.ty {s:Tm} (h:TmK s):SmK s.type:=by
  cases h with
  | mk hs _ _=>exact hs
theorem RowD.app {α:Type} {C:World→α→List Value→Prop} {sz lo l2 n m:Nat} {X Y:List Nat} {w:World} {l:List α} {vs v:List Value} {j:Nat} {x:α} (hj:j < l.length) (hx:l[j]=x) (h:Hv lo X n w (fun w=>RowD C sz w (l.take j) vs)) (hv:v.length=sz) (hC:Hv l2 [] m w (fun w=>C w x v)) (hl:lo≤l2) (hY:∀ y ∈ Y,y ∈ X∨n≤y) (hY2:∀ y ∈ Y,y < l2∨m≤y):Hv lo Y w.heap.size w (fun w=>RowD C sz w (l.take (j + 1)) (vs ++ v)):=
  ((h.hole (fun y hy=>(hY y hy).imp id .inr)).and ((hC.hole (fun y hy=> .inr (hY2 y hy))).mono hl (Nat.le_refl _) hC.le)).imp (fun w2 h2=>by
    rw [List.take_succ_eq_append_getElem hj,hx]
    exact .snoc h2.1 hv h2.2)
theorem RowD.take {α:Type} {C:World→α→List Value→Prop} {sz:Nat} {w:World} {l:List α} (f:α→List Value) (hf:∀ x,(f x).length=sz) (hC:∀ x ∈ l,C w x (f x)):∀ k,k≤l.length→RowD C sz w (l.take k) ((l.take k).flatMap f)
  | 0,_=> .nil
  | k + 1,h=>by
    rw [List.take_succ_eq_append_getElem om,List.flatMap_append]
    have:=(RowD.take f hf hC k om).snoc (hf (l[k])) (hC _ (List.getElem_mem om))
    simpa using this
theorem RowD.all {α:Type} {C:World→α→List Value→Prop} {sz:Nat} {w:World} {l:List α} (f:α→List Value) (hf:∀ x,(f x).length=sz) (hC:∀ x ∈ l,C w x (f x)):RowD C sz w l (l.flatMap f):=by
  have:=RowD.take f hf hC l.length (Nat.le_refl _)
  rwa [List.take_length] at this
def inC (_:World) (x:Int) (v:List Value):Prop:=v= [.int .i64 x]
def ftL (f:Ft):List Value:=[.string f.name,.int .i64 f.of,.int .i64 f.val]
def ftD (_:World) (f:Ft) (v:List Value):Prop:=v=ftL f
def feV (fs:List Ft):List Value:=fs.flatMap ftL
theorem DX (xs:List Int):xs.map (Value.int .i64)=xs.flatMap (fun x=>[Value.int .i64 x]):=by
  induction xs with
  | nil=>rfl
  | cons x r ih=>rw [List.map_cons,List.flatMap_cons,ih];rfl
theorem feV_len (fs:List Ft):(feV fs).length=fs.length * 3:=(RowD.all (C:=ftD) (w:=default) ftL (fun _=>rfl) (fun _ _=>rfl)).len
theorem feV_one (fs:List Ft):(feV fs).all (·.oneCell')=true:=by
  unfold feV;rw [List.all_eq_true];intro v hv;obtain⟨f,_,h⟩:=List.mem_flatMap.1 hv;simp only [ftL,List.mem_cons,List.not_mem_nil,or_false] at h;rcases h with h | h | h <;> rw [h] <;> rfl
theorem own_intsH {w:World} {base lo k cap:Nat} {e:TypeId} {A:Option Addr} {xs:List Int} (ho:Own w base e 1 A k cap (xs.map (Value.int .i64))) (hb:lo≤base):Hv lo [] w.heap.size w (fun w=>IntsIn w A xs):=
  I7 (X:=[]) (C:=inC) (fun _ _=>⟨Nat.zero_le _,fun h=>absurd rfl h⟩) (fun w g cs hblk hl hk=>⟨hl,fun _=>⟨g,0,rfl,hblk.lt,fun k hkl=>by
    obtain⟨v,rfl,hr⟩:=hk k hkl
    have:=hr 0 _ rfl
    rw [Nat.mul_one] at this
    simpa using this⟩⟩) dE ho hb (Hv.triv _ _ _ (fun w=>by rw [DX];exact RowD.all _ (fun _=>rfl) (fun _ _=>rfl)))
theorem L5 {w:World} {base lo k cap:Nat} {e:TypeId} {A:Option Addr} {fs:List Ft} (ho:Own w base e 3 A k cap (feV fs)) (hb:lo≤base):Hv lo [] w.heap.size w (fun w=>FeatsIn w A fs):=
  I7 (X:=[]) (C:=ftD) (fun _ _=>⟨Nat.zero_le _,fun h=>absurd rfl h⟩) (fun w g cs hblk hl hk=>⟨hl,fun _=>⟨g,0,rfl,hblk.lt,fun k hkl=>by
    obtain⟨v,rfl,hr⟩:=hk k hkl
    exact hr⟩⟩) dE ho hb (Hv.triv _ _ _ (fun w=>RowD.all _ (fun _=>rfl) (fun _ _=>rfl)))
theorem Rx {α:Type} {C:World→α→List Value→Prop} {sz:Nat} {w:World} {b o:Nat} {l:List α} {vs:List Value} (h:RowD C sz w l vs) (hr:∀ k (hk:k < l.length),∀ v,C w l[k] v→w.rangeAt b (o + k * sz) v):∀ j u,vs[j]? =some u→w.cell? ⟨b,o + j,none⟩=some u:=by
  induction h with
  | nil=>intro j u hj;simp at hj
  | @snoc l vs v x h hv hx ih=>
    intro j u hj;by_cases e:j < vs.length
    · rw [List.getElem?_append_left e] at hj
      exact ih (fun k hk v2 hv2=>by
        have:=hr k (by rw [List.length_append];omega) v2;rw [List.getElem_append_left hk] at this
        exact this hv2) j u hj
    · rw [List.getElem?_append_right om] at hj
      have h2:=hr l.length (by rw [List.length_append];show _ < _ + 1;omega) v (by simpa using hx) _ _ hj;have hlen:=h.len;have e2:o + l.length * sz + (j - vs.length)=o + j:=by omega
      rwa [e2] at h2
theorem LV {w:World} {A:Option Addr} {fs:List Ft} (h:FeatsIn w A fs) (hn:0 < fs.length):∃ b o,A=some ⟨b,o,none⟩∧∀ j u,(feV fs)[j]? =some u→w.cell? ⟨b,o + j,none⟩=some u:=by
  obtain⟨b,o,e,_,hc⟩:=h.2 (by rintro rfl;simp at hn);exact⟨b,o,e,Rx (C:=ftD) (RowD.all _ (fun _=>rfl) (fun _ _=>rfl)) (fun k hk v hv=>by rw [show v=_ from hv];exact hc k hk)⟩
theorem ints_news {w:World} {A:Option Addr} {xs:List Int} (h:IntsIn w A xs) (hn:0 < xs.length):∃ b o,A=some ⟨b,o,none⟩∧∀ j u,(xs.map (Value.int .i64))[j]? =some u→w.cell? ⟨b,o + j,none⟩=some u:=by
  obtain⟨b,o,e,_,hc⟩:=h.2 (by rintro rfl;simp at hn);refine⟨b,o,e,?_⟩;rw [DX]
  exact Rx (C:=inC) (sz:=1) (RowD.all _ (fun _=>rfl) (fun _ _=>rfl)) (fun k hk v hv=>by
    rw [show v=_ from hv];intro j u hj
    match j,hj with
    | 0,hj=>cases hj;exact hc k hk)
theorem cell_keep {w w2:World} {b o:Nat} (h:w2.heap[b]? =w.heap[b]?):w2.cell? ⟨b,o,none⟩=w.cell? ⟨b,o,none⟩:=by simp [World.cell?,h]
theorem O4 {w w2:World} {b o:Nat} {xs:List Value} (h:w2.heap[b]? =w.heap[b]?) (hr:w.rangeAt b o xs):w2.rangeAt b o xs:=fun j v hj=>(cell_keep h).trans (hr j v hj)
def Kw (w w2:World):Prop:=w.heap.size≤w2.heap.size∧∀ k,k < w.heap.size→w2.heap[k]? =w.heap[k]?
theorem SimsIn.keep {w w2:World} {A:Option Addr} {l:List Sm} (hw:Kw w w2) (h:SimsIn w A l):SimsIn w2 A l:=
  SimsIn.rec (motive_1:=fun b o s _=>SimAt w2 b o s) (motive_2:=fun A l _=>SimsIn w2 A l)
    (fun hb h _ ih=> .mk (nLL hb hw.1) (O4 (hw.2 _ hb) h) ih) .nil (fun hl hb _ ih=> .more hl (nLL hb hw.1) ih) h
theorem TmsIn.keep {w w2:World} {A:Option Addr} {l:List Tm} (hw:Kw w w2) (h:TmsIn w A l):TmsIn w2 A l:=
  TmsIn.rec (motive_1:=fun b o s _=>TmAt w2 b o s) (motive_2:=fun A l _=>TmsIn w2 A l)
    (fun hb h hs _ ih=> .mk (nLL hb hw.1) (O4 (hw.2 _ hb) h) (hs.keep hw) ih) .nil (fun hl hb _ ih=> .more hl (nLL hb hw.1) ih) h
theorem Hv.old {w w1:World} {X:List Nat} {P:World→Prop} (hP:∀ w2,Kw w w2→P w2) (hB:Bel w w1) (hX:∀ y ∈ X,w.heap.size≤y):Hv 0 X w.heap.size w1 P:=
  ⟨hB.size,fun w2 h2 hk=>hP w2 ⟨nLT hB.size h2,fun k hkw=>(hk k (Nat.zero_le _) hkw (fun hm=>by have:=hX k hm;omega)).trans (hB.block k hkw)⟩⟩
end Go.Proofs.YtbcpgfnfiekbiaaGreatDoor
namespace Go.Proofs.YtbcpgfnfiekbiaaGreatDoor
open Go.RowKit
section monok
variable {P:Program} {Q:Exit→Act→World→Prop} {n:Nat} {f:Fr} {w:World}
def vO (f:Fr) (o:Oper):Value:=match o.dst with
  | some d=>f d
  | none=>undef
def rO (R:Nat→Value→World→Prop) (i:Nat) (o:Oper) (v:Value) (w:World):Prop:=match o.dst with
  | some _=>R i v w
  | none=>R i undef w
def monoK (l:List Oper) (m:Nat) (S:List Nat):Bool:=
  decide (l.length=m) && (List.range l.length).all (fun i=>match l[i]? with
    | some o=>o.guard.isNone && (j5 o).all (fun j=>decide (j < i)) && (match o.dst with
      | some d=>mem S d && (List.range l.length).all (fun j=>decide (i=j) || (match l[j]? with | some o'=>!(o'.dst == some d) | none=>true))
      | none=>true)
    | none=>false)
theorem Mx {Post:Value→World→Prop} {op:Op} {ty:TypeId} {pos:String} {af:Array Edge} (h:∀ (ops:Array Oper) (Q:Exit→Act→World→Prop),(∀ w',Post undef w'→WL P ops Q [] n f w')→WL P ops Q [⟨none,op,ty,pos,af,none⟩] n f w):OS P n f w ⟨none,op,ty,pos,af,none⟩ Post:=by
  unfold OS;intro K Q hK
  have h1:=h #[] (Dy K Q) (fun w' hp=>by
    unfold WL;refine wpList_nil ?_;have:=hK undef w' hp
    exact this)
  unfold WL wpList at h1;rw [if_pos (by simp [Region.wanted])] at h1;have ho:¬LetsOut (Dy K Q):=fun⟨_,_,h⟩=>h
  rcases h1 with h1 | ⟨_,h1⟩
  · exact J8 (Q:=Dy K Q) (fun a w h=>h) (fun c a w h=>h) ho h1
  · exact absurd h1 ho
end monok
end Go.Proofs.YtbcpgfnfiekbiaaGreatDoor
namespace Go.Proofs.YtbcpgfnfiekbiaaGreatDoor
open Go.RowKit
section seven
variable {P:Program} {Q:Exit→Act→World→Prop} {n:Nat} {f:Fr} {w:World}
def stU (st:Nat→Bool) (i k:Nat):Bool:=if k=i then true else st k
def stL (sp:Nat→Bool) (listed:Array Bool) (k:Nat):Bool:=listed.getD k false && sp k
def MY (l:List Oper):Nat→Nat→Nat→Bool
  | 0,_,_=>false
  | k + 1,s,i=>match l[s]? with
    | some o=>(j5 o).any (fun j=>Nat.beq j i || MY l k j i)
    | none=>false
theorem Rj {l:List Oper} {listed:Array Bool} (hD:Dn l listed):∀ {k s i:Nat},MY l k s i=true→listed.getD s false=true→listed.getD i false=true
  | 0,_,_,h,_=>by cases h
  | k + 1,s,i,h,hs=>by
    unfold MY at h
    cases ho:l[s]? with
    | none=>rw [ho] at h;cases h
    | some o=>
      rw [ho] at h
      obtain⟨j,hj,h2⟩:=List.any_eq_true.1 h
      have hjl:=hD s o ho hs j hj
      rw [Bool.or_eq_true] at h2
      rcases h2 with h2 | h2
      · rw [← Nat.eq_of_beq_eq_true h2];exact hjl
      · exact Rj hD h2 hjl
theorem c_monoU {id:Nat} {l:List Oper} (m:Nat) (S X:List Nat) (sp:Nat→Bool) (R:(Nat→Bool)→Nat→Value→Nat→Nat→World→Prop) (hm:P.follows .mixedOrders=true) (hB:monoK l m S=true)
    (hst:∀ st i v la ha w1 w2,R st i v la ha w1→Same [] w1 w2→R st i v la ha w2)
    (step:∀ st i o,i < m→sp i=false→l[i]? =some o→(∀ s,sp s=true→MY l m s i=true→st s=false)→∀ f' w' (la ha:Nat→Nat),Same X w w'→Ag S f' f→(∀ j o',j ∈ j5 o→l[j]? =some o'→R st j (vO f' o') (la j) (ha j) w')→OS P n f' w' o (fun v w''=>Same [] w' w''∧R st i v w'.heap.size w''.heap.size w''))
    (stepS:∀ st i o,i < m→sp i=true→st i=false→l[i]? =some o→(∀ s,sp s=true→MY l m s i=true→st s=false)→∀ f' w' (la ha:Nat→Nat),Same X w w'→Ag S f' f→(∀ j o',j ∈ j5 o→l[j]? =some o'→R st j (vO f' o') (la j) (ha j) w')→(∀ j k,j ∈ j5 o→k ∈ j5 o→j≠k→ha j≤la k∨ha k≤la j)→OS P n f' w' o (fun v w''=>Same X w w''∧w'.heap.size≤w''.heap.size∧rO (fun i v w''=>R (stU st i) i v w'.heap.size w''.heap.size w'') i o v w''∧∀ k o',k≠i→l[k]? =some o'→R st k (vO f' o') (la k) (ha k) w'→R (stU st i) k (vO f' o') (la k) (ha k) w''))
    (hspd:∀ i o,l[i]? =some o→o.dst=none→sp i=true)
    (fin:∀ st f' w' (la ha:Nat→Nat),(∀ k,k < m→sp k=true→st k=true)→Same X w w'→Ag S f' f→(∀ i o,l[i]? =some o→R st i (vO f' o) (la i) (ha i) w')→(∀ i j,i < m→j < m→i≠j→ha i≤la j∨ha j≤la i)→WL P l.toArray Q [] n f' w'):WC P (.region id l.toArray true) Q n f w:=by
  unfold WC;refine wp_region_any hm ?_;simp only [monoK,Bool.and_eq_true,List.all_eq_true,List.mem_range,decide_eq_true_eq] at hB;obtain⟨hlm,hB⟩:=hB;have hget:∀ i o,l[i]? =some o→o.guard=none∧(∀ j ∈ j5 o,j < i)∧∀ d,o.dst=some d→mem S d=true∧∀ j o',l[j]? =some o'→i≠j→o'.dst≠some d:=fun i o ho=>by
    have hil:i < l.length:=(List.getElem?_eq_some_iff.1 ho).1;have h:=hB i hil;simp only [ho,Bool.and_eq_true] at h;obtain⟨⟨h1,h2⟩,h3⟩:=h;refine⟨Option.isNone_iff_eq_none.1 h1,fun j hj=>by simpa using List.all_eq_true.1 h2 j hj,fun d hd=>?_⟩;simp only [hd,Bool.and_eq_true] at h3;refine⟨h3.1,fun j o' ho' hne hd'=>?_⟩;have h4:=List.all_eq_true.1 h3.2 j (List.mem_range.2 (List.getElem?_eq_some_iff.1 ho').1);simp [ho',hd',hne] at h4
  have key:∀ (fuel:Nat) (listed:Array Bool) (f':Fr) (w':World) (la ha:Nat→Nat),listed.size=l.length→Dn l listed→Same X w w'→Ag S f' f→(∀ i o,l[i]? =some o→listed.getD i false=true→R (stL sp listed) i (vO f' o) (la i) (ha i) w')→(∀ i,i < l.length→listed.getD i false=true→ha i≤w'.heap.size)→(∀ i j,i < l.length→j < l.length→i≠j→listed.getD i false=true→listed.getD j false=true→ha i≤la j∨ha j≤la i)→
      (List.range l.length).countP (fun i=>!listed.getD i false)≤fuel→wpAny P .any l.toArray Q fuel listed (AF n f') w':=by
    have fin':∀ (listed:Array Bool) (f':Fr) (w':World) (la ha:Nat→Nat),Same X w w'→Ag S f' f→(∀ i o,l[i]? =some o→listed.getD i false=true→R (stL sp listed) i (vO f' o) (la i) (ha i) w')→(∀ i j,i < l.length→j < l.length→i≠j→listed.getD i false=true→listed.getD j false=true→ha i≤la j∨ha j≤la i)→(∀ i,i < l.length→listed.getD i false=true)→Q .normal (AF n f') w':=fun listed f' w' la ha hs hag hR hI hall=>by
      have:=fin (stL sp listed) f' w' la ha (fun k hk hsk=>by unfold stL;rw [hall k om,hsk];rfl) hs hag (fun i o ho=>hR i o ho (hall i (List.getElem?_eq_some_iff.1 ho).1)) (fun i j hi hj hne=>hI i j om om hne (hall i om) (hall j om));unfold WL at this;exact this
    intro fuel
    induction fuel with
    | zero=>
      intro listed f' w' la ha hs hD hsm hag hR hH hI hc;have hall:∀ i,i < l.length→listed.getD i false=true:=by
        intro i hi;have h0:(List.range l.length).countP (fun i=>!listed.getD i false)=0:=by omega
        rw [List.countP_eq_zero] at h0;have:=h0 i (List.mem_range.2 hi)
        simpa using this
      refine⟨?_,fin' listed f' w' la ha hsm hag hR hI hall⟩;cases hr:Region.ready .any l.toArray listed with
      | nil=>rfl
      | cons i r=>
        obtain⟨o,ho,hn,_⟩:=XV listed i (by rw [hr];simp);have:i < l.length:=(List.getElem?_eq_some_iff.1 ho).1;rw [hall i om] at hn;cases hn
    | succ fuel ih=>
      intro listed f' w' la ha hs hD hsm hag hR hH hI hc;refine⟨fun hr=>?_,fun i hi=>?_⟩
      · have hall:∀ k,k≤l.length→∀ i,i < k→listed.getD i false=true:=by
          intro k
          induction k with
          | zero=>intro _ i hi;omega
          | succ k ihk=>
            intro hk i hi;have ihk':=ihk om;by_cases hik:i < k
            · exact ihk' i hik
            · have:i=k:=by omega
              subst this;cases hb:listed.getD i false with
              | true=>rfl
              | false=>
                have ho:l[i]? =some l[i]:=List.getElem?_eq_getElem om;have:=Dx listed i _ hs ho hb (fun j hj=>ihk' j ((hget i _ ho).2.1 j hj));rw [hr] at this;cases this
        exact fin' listed f' w' la ha hsm hag hR hI (hall l.length (Nat.le_refl _))
      · obtain⟨o,ho,hn,hd⟩:=XV listed i hi
        have hil:i < l.length:=(List.getElem?_eq_some_iff.1 ho).1;obtain⟨hg,hdl,hdd⟩:=hget i o ho;unfold wpOp;simp only [List.getElem?_toArray,ho];rw [if_pos (by simp [Region.wanted,hg])]
        left
        have hstn:sp i=false→stL sp (listed.setIfInBounds i true)=stL sp listed:=fun hsp=>by
          funext k
          unfold stL;by_cases hik:i=k
          · subst hik;rw [hsp,Bool.and_false,Bool.and_false]
          · simp only [Array.getD_eq_getD_getElem?,Array.getElem?_setIfInBounds_ne hik]
        have hsts:sp i=true→stL sp (listed.setIfInBounds i true)=stU (stL sp listed) i:=fun hsp=>by
          funext k
          unfold stL stU;by_cases hik:k=i
          · subst hik
            have:k < listed.size:=by omega
            simp [this,hsp]
          · rw [if_neg hik]
            simp only [Array.getD_eq_getD_getElem?,Array.getElem?_setIfInBounds_ne (Ne.symm hik)]
        have hli:∀ j,i≠j→(listed.setIfInBounds i true).getD j false=listed.getD j false:=fun j hij=>by
          simp only [Array.getD_eq_getD_getElem?,Array.getElem?_setIfInBounds_ne hij]
        have hlt:=oQ (p:=fun i=>!listed.getD i false) (q:=fun k=>!(listed.setIfInBounds i true).getD k false) (fun x hx=>by
          by_cases hix:i=x
          · subst hix;simp [hn]
          · simpa only [Array.getD_eq_getD_getElem?,Array.getElem?_setIfInBounds_ne hix] using hx) (List.range l.length) i (List.mem_range.2 hil) (by simp [hn]) (by
            have:i < listed.size:=by omega
            simp [this])
        have next:∀ v w'',Same X w w''→w'.heap.size≤w''.heap.size→rO (fun i v w''=>R (stL sp (listed.setIfInBounds i true)) i v w'.heap.size w''.heap.size w'') i o v w''→(∀ k o',k≠i→l[k]? =some o'→R (stL sp listed) k (vO f' o') (la k) (ha k) w'→R (stL sp (listed.setIfInBounds i true)) k (vO f' o') (la k) (ha k) w'')→wpAny P .any l.toArray Q fuel (listed.setIfInBounds i true) ((AF n f').put o.dst v) w'':=by
          intro v w'' hs1 hsz hr1 hk1;have hH2:∀ j,j < l.length→(listed.setIfInBounds i true).getD j false=true→(if j=i then w''.heap.size else ha j)≤w''.heap.size:=fun j hj hl'=>by
            by_cases hij:j=i
            · rw [if_pos hij];exact Nat.le_refl _
            · rw [hli j (Ne.symm hij)] at hl'
              rw [if_neg hij];exact nLT (hH j hj hl') hsz
          have hI2:∀ j1 j2,j1 < l.length→j2 < l.length→j1≠j2→(listed.setIfInBounds i true).getD j1 false=true→(listed.setIfInBounds i true).getD j2 false=true→(if j1=i then w''.heap.size else ha j1)≤(if j2=i then w'.heap.size else la j2)∨(if j2=i then w''.heap.size else ha j2)≤(if j1=i then w'.heap.size else la j1):=fun j1 j2 hj1 hj2 hne hl1 hl2=>by
            by_cases e1:j1=i
            · subst e1
              rw [hli j2 hne] at hl2;rw [if_pos rfl,if_neg (Ne.symm hne),if_neg (Ne.symm hne),if_pos rfl];exact .inr (hH j2 hj2 hl2)
            · rw [hli j1 (Ne.symm e1)] at hl1
              rw [if_neg e1,if_neg e1];by_cases e2:j2=i
              · rw [if_pos e2,if_pos e2]
                exact .inl (hH j1 hj1 hl1)
              · rw [hli j2 (Ne.symm e2)] at hl2
                rw [if_neg e2,if_neg e2];exact hI j1 j2 hj1 hj2 hne hl1 hl2
          cases hdst:o.dst with
          | none=>
            have hri:R (stL sp (listed.setIfInBounds i true)) i undef w'.heap.size w''.heap.size w'':=by simpa only [rO,hdst] using hr1
            show wpAny P .any l.toArray Q fuel (listed.setIfInBounds i true) (AF n f') w'';refine ih _ _ _ (fun k=>if k=i then w'.heap.size else la k) (fun k=>if k=i then w''.heap.size else ha k) (by simpa using hs) (hD.set om ho hd) hs1 hag (fun j o' ho' hl'=>?_) hH2 hI2 om;by_cases hij:i=j
            · subst hij
              rw [ho] at ho';cases ho';simp only [if_true,vO,hdst];exact hri
            · rw [hli j hij] at hl'
              simp only [if_neg (Ne.symm hij)];exact hk1 j o' (fun e=>hij e.symm) ho' (hR j o' ho' hl')
          | some d=>
            have hri:R (stL sp (listed.setIfInBounds i true)) i v w'.heap.size w''.heap.size w'':=by simpa only [rO,hdst] using hr1
            obtain⟨hSd,hne⟩:=hdd d hdst;rw [gj];refine ih _ _ _ (fun k=>if k=i then w'.heap.size else la k) (fun k=>if k=i then w''.heap.size else ha k) (by simpa using hs) (hD.set om ho hd) hs1 (SX hSd hag) (fun j o' ho' hl'=>?_) hH2 hI2 om;by_cases hij:i=j
            · subst hij
              rw [ho] at ho';cases ho';have:vO (upd f' d v) o=v:=by simp [vO,hdst,upd]
              rw [this];simp only [if_true];exact hri
            · rw [hli j hij] at hl'
              have:vO (upd f' d v) o'=vO f' o':=by
                unfold vO;cases hd':o'.dst with
                | none=>rfl
                | some d'=>
                  have h1:=hne j o' ho' hij;rw [hd'] at h1;simp only [upd];have:Nat.beq d' d=false:=by
                    cases hb:Nat.beq d' d
                    · rfl
                    · exact absurd (congrArg some (Nat.eq_of_beq_eq_true hb)) h1
                  simp [this]
              rw [this];simp only [if_neg (Ne.symm hij)];exact hk1 j o' (fun e=>hij e.symm) ho' (hR j o' ho' hl')
        have hns:∀ s,sp s=true→MY l m s i=true→stL sp listed s=false:=fun s _ hr=>by
          unfold stL;cases hls:listed.getD s false with
          | false=>rfl
          | true=>rw [Rj hD hr hls] at hn;cases hn
        cases hsp:sp i with
        | false=>
          have hst1:=step (stL sp listed) i o om hsp ho hns f' w' la ha hsm hag (fun j o' hjd ho'=>hR j o' ho' (hd j hjd));unfold OS at hst1;refine hst1 _ _ ?_
          rintro v w'' ⟨hs1,hr1⟩
          refine next v w'' (hsm.trans (hs1.weak (by simp))) hs1.size ?_ (fun k o' _ _ h=>by rw [hstn hsp];exact hst _ _ _ _ _ _ _ h hs1);unfold rO;cases hdst:o.dst with
          | none=>have:=hspd i o ho hdst;rw [hsp] at this;cases this
          | some d=>simp only [hstn hsp];exact hr1
        | true=>
          have hst1:=stepS (stL sp listed) i o om hsp (by unfold stL;rw [hn];rfl) ho hns f' w' la ha hsm hag (fun j o' hjd ho'=>hR j o' ho' (hd j hjd)) (fun j k hj hk hne=>hI j k (by have:=hdl j hj;omega) (by have:=hdl k hk;omega) hne (hd j hj) (hd k hk));unfold OS at hst1;refine hst1 _ _ ?_
          rintro v w'' ⟨hs1,hsz,hr1,hk1⟩
          rw [← hsts hsp] at hk1;refine next v w'' hs1 hsz ?_ hk1;unfold rO at hr1 ⊢;cases hdst:o.dst with
          | none=>simp only [hdst] at hr1 ⊢;rw [hsts hsp];exact hr1
          | some d=>simp only [hdst] at hr1 ⊢;rw [hsts hsp];exact hr1
  have h0:=key l.length (Array.replicate l.length false) f { w with drawn:=w.drawn + 1 } (fun _=>0) (fun _=>0) (by simp) (fun j o _ h=>by
    simp only [Array.getD_eq_getD_getElem?,Array.getElem?_replicate] at h
    split at h <;> cases h) ((Same.drew w 1).weak (fun x hx=>by cases hx)) IX (fun i o _ h=>by
    simp only [Array.getD_eq_getD_getElem?,Array.getElem?_replicate] at h
    split at h <;> cases h) (fun _ _ _=>Nat.zero_le _) (fun _ _ _ _ _ _ _=> .inl (Nat.le_refl _)) (by
      have:=List.countP_le_length (p:=fun i=>!(Array.replicate l.length false).getD i false) (l:=List.range l.length);simp only [List.length_range] at this
      omega)
  simpa using h0
theorem IZ {id:Nat} {l:List Oper} (m:Nat) (S X:List Nat) (sp:Nat→Bool) (R:(Nat→Bool)→Nat→Value→Nat→Nat→World→Prop) (hm:P.follows .mixedOrders=true) (hB:monoK l m S=true) (hsp:(List.range m).all (fun i=>match l[i]? with | some o=>o.dst.isSome || sp i | none=>true)=true)
    (hst:∀ st i v la ha w1 w2,R st i v la ha w1→Same [] w1 w2→R st i v la ha w2)
    (step:∀ st i o,i < m→l[i]? =some o→(∀ s,sp s=true→MY l m s i=true→st s=false)→∀ g w' (la ha:Nat→Nat),Same X w w'→(∀ j o',j ∈ j5 o→l[j]? =some o'→R st j (vO g o') (la j) (ha j) w')→bif sp i then st i=false→(∀ j k,j ∈ j5 o→k ∈ j5 o→j≠k→ha j≤la k∨ha k≤la j)→OS P n (ovr S g f) w' o (fun v w''=>Same X w w''∧w'.heap.size≤w''.heap.size∧rO (fun i v w''=>R (stU st i) i v w'.heap.size w''.heap.size w'') i o v w''∧∀ k o',k≠i→l[k]? =some o'→R st k (vO g o') (la k) (ha k) w'→R (stU st i) k (vO g o') (la k) (ha k) w'') else OS P n (ovr S g f) w' o (fun v w''=>Same [] w' w''∧R st i v w'.heap.size w''.heap.size w''))
    (fin:∀ st g w' (la ha:Nat→Nat),(∀ k,k < m→sp k=true→st k=true)→Same X w w'→(∀ i o,l[i]? =some o→R st i (vO g o) (la i) (ha i) w')→(∀ i j,i < m→j < m→i≠j→ha i≤la j∨ha j≤la i)→WL P l.toArray Q [] n (ovr S g f) w'):WC P (.region id l.toArray true) Q n f w:=by
  have hlm:l.length=m:=by
    have h:=hB;simp only [monoK,Bool.and_eq_true,decide_eq_true_eq] at h;exact h.1
  have hvo:∀ {f':Fr},Ag S f' f→f'=ovr S f' f:=fun hag=>Y6 hag
  refine c_monoU m S X sp R hm hB hst (fun st i o hi hs ho hns f' w' la ha hsm hag hd=>?_) (fun st i o hi hs hn ho hns f' w' la ha hsm hag hd hI=>?_) (fun i o ho hd=>?_) (fun st f' w' la ha hall hsm hag hR hI=>?_)
  · have h:=step st i o hi ho hns f' w' la ha hsm hd
    rw [hs] at h;rw [← hvo hag] at h;exact h
  · have h:=step st i o hi ho hns f' w' la ha hsm hd
    rw [hs] at h;rw [← hvo hag] at h;exact h hn hI
  · have hil:=(List.getElem?_eq_some_iff.1 ho).1
    have h:=List.all_eq_true.1 hsp i (List.mem_range.2 om)
    simpa [ho,hd] using h
  · have h:=fin st f' w' la ha hall hsm hR hI
    rw [← hvo hag] at h;exact h
end seven
end Go.Proofs.YtbcpgfnfiekbiaaGreatDoor
namespace Go.Proofs.YtbcpgfnfiekbiaaGreatDoor
open Go.RowKit
theorem fn112:zZ Tryz.prog 112=true:=by kernel_rfl
theorem in41_ECl:(Tryz.prog.info? 41).map (fun i=>(i.zero,i.size,i.bytes))=some (some (.agg #[.string ⟨#[]⟩,.slice none 0 0]),2,40):=by kernel_rfl
theorem TZ:(Tryz.prog.info? 39).map (·.size)=some 1:=by kernel_rfl
theorem Z8:(Tryz.prog.info? 41).map (·.size)=some 2:=by kernel_rfl
theorem sz9_ECl:(Tryz.prog.info? 9).map (·.size)=some 1:=by kernel_rfl
theorem JY:(Tryz.prog.info? 41).map (·.zero)=some (some (.agg #[.string ⟨#[]⟩,.slice none 0 0])):=by kernel_rfl
set_option maxRecDepth 100000 in
set_option maxHeartbeats 2000000 in
theorem R7 {s:Sm} {A:Option Addr} {c:Nat} {w:World} (hK:s.args.length≤1000) (hS:SimsIn w A s.args) (IH:∀ x ∈ s.args,∀ (A:Option Addr) (c:Nat) (w:World),SimsIn w A x.args→Calls Tryz.prog 112 #[.agg #[.string (x).base,.slice A (x).args.length c]] w fun e w'=>(∃ A' c',e= .returned (.agg #[.string (x).base,.slice A' (x).args.length c'])∧Hv w.heap.size [] w'.heap.size w' (fun w=>SimsIn w A' (x).args))∧Bel w w'):Calls Tryz.prog 112 #[.agg #[.string (s).base,.slice A (s).args.length c]] w fun e w'=>(∃ A' c',e= .returned (.agg #[.string (s).base,.slice A' (s).args.length c'])∧Hv w.heap.size [] w'.heap.size w' (fun w=>SimsIn w A' (s).args))∧Bel w w':=by
 refine enT Tryz.func112 Tryz.ntmps112 rfl rfl fun hB=>?_;refine zn2 ?_;refine qK (v:= .agg #[_,_]) (cs:=#[_,_]) rfl rfl (fun b1 w1 hb1 s1 hr=>?_);refine zY (cs:=#[.string ⟨#[]⟩,.slice none 0 0]) JY rfl (fun b2 w2 hb2 s2 hr=>?_);have lo2:=nLT (Bel.size hB.u) hr;refine zn6 ?_;refine wl (V8 (v0:= .string _) (fun v0=>#[v0,.slice none 0 0]) rfl kR) ?_;refine xW (cs:=#[.string ⟨#[]⟩,.slice none 0 0]) JY rfl (fun _=>rfl) (fun _=>rfl) Z8 rfl zX (fun b3 w4 hb3 s3 hr=>?_);have:=nLL hb1.u.lt hr;have:=nLL hb2.lt hr;have lo3:=nLT (Bel.size hB.u) hr;refine y8 ?_;refine zK (rg [5] 12 12) (fun m g w'=>∃ (j:Nat) (A3:Option Addr) (c3 n3:Nat) (vs:List Value),j≤s.args.length∧m=s.args.length - j∧g 12= .int .i64 j∧Bel w w'∧Blk w' b1 41 #[.string s.base,.slice A s.args.length c]∧Blk w' b2 41 #[.string ⟨#[]⟩,.slice none 0 0]∧Blk w' b3 41 #[.string s.base,.slice A3 j c3]∧Own w' (b3 + 1) 41 2 A3 j c3 vs∧Hv w.heap.size (b2 :: b3 :: aL A3) n3 w' (fun w=>RowD smC 2 w (s.args.take j) vs)) (s.args.length) ?_ (fun m g3 w5 hI=>?_)
 ·exact⟨0,none,0,_,[],Nat.zero_le _,rfl,rfl,hB.u,hb1.u,hb2.u,hb3,Own.nil _ _ _ _,Hv.triv _ _ _ (fun w=> .nil)⟩
 obtain⟨j,A3,c3,n3,vs,hj,hmj,h12,hB,hb1,hb2,hb3,ho3,hH⟩:=hI;refine zQ 12 _ h12 nu (zn6 ?_);refine zy rfl (fun c13=>?_) (fun c13=>?_)
 ·have hja:j < s.args.length:=by omega
  obtain⟨sb,so,Ax,cx,rfl,hsb,hrx,hsx⟩:=hS.at_ hja;have hnH:=hH.le;refine zn8 ?_;refine zY (cs:=#[.string ⟨#[]⟩,.slice none 0 0]) JY rfl (fun b5 w6 hb5 s4 hr=>?_);have:=nLL hb1.lt hr;have:=nLL hb2.lt hr;have:=nLL hb3.lt hr;have or_ho3_b5:=fun g hg=>nLL (ho3.lt g hg).2 hr
  have or_hH_b5:=(nLT hH.le hr)
  have lo5:=nLT (Bel.size hB) hr;refine zj hb5 rfl rfl Z8 rfl zX (fun w7 hq s5=>?_);replace ho3:=ho3.tr0 s4;replace ho3:=ho3.tr1 s5 (neL or_ho3_b5);replace hH:=hH.tr0 s4;replace hH:=hH.tr s5 (fun g hg=> .inr (.inr (by rw [List.mem_singleton.1 hg];exact or_hH_b5)));replace hb5:=hq;refine zw (e_S ?_);have zo:=fun g hg=>(ho3.lt g hg).2
  replace hb3:=(hb3.tr0 s4).tr1 s5 om;have z3:=hb3.lt;replace hb2:=(hb2.tr0 s4).tr1 s5 om;have z2:=hb2.lt;replace hB:=(hB.tr0 s4).tr1 s5 lo5;have hsz:=Bel.size hB;refine jZ 5 [16,17,18,19,20] (fun ix=>Nat.beq ix 4) (fun ix v wv=>match ix with | 0=>v= .pointer (some ⟨b3,1,none⟩) | 1=>v= .slice A3 j c3 | 2=>v= .agg #[.string (s.args[j]).base,.slice Ax (s.args[j]).args.length cx] | 3=>∃ A19 c19 n19,v= .agg #[.string (s.args[j]).base,.slice A19 (s.args[j]).args.length c19]∧Hv w7.heap.size [] n19 wv (fun w=>SimsIn w A19 (s.args[j]).args) | 4=>∃ b A19 c19 n19,v= .slice (some ⟨b,0,none⟩) 1 1∧w7.heap.size≤b∧Blk wv b 41 #[.string (s.args[j]).base,.slice A19 (s.args[j]).args.length c19]∧Hv w7.heap.size [] n19 wv (fun w=>SimsIn w A19 (s.args[j]).args) | _=>True) kR kR ?_ ?_ ?_
  ·intro ix v wv wv2 h s6
   match ix,h with
   | 0,h=>exact h
   | 1,h=>exact h
   | 2,h=>exact h
   | 3,h=>
    obtain⟨A19,c19,n19,e19,hz19⟩:=h;exact⟨A19,c19,n19,e19,hz19.tr0 s6⟩
   | 4,h=>
    obtain⟨b20,A20,c20,n20,e20,lo20,hb20,hz20⟩:=h;exact⟨b20,A20,c20,n20,e20,lo20,hb20.tr0 s6,hz20.tr0 s6⟩
   | _ + 5,h=>exact trivial
  ·intro ix o hix hoq gg wx s7 hd hdis
   match ix,hix,hoq with
   | 0,_,hoq=>
    cases sI hoq;exact oVq (uk U41 TZ dE rfl rfl rfl) rfl
   | 1,_,hoq=>
    cases sI hoq;refine zz 16 _ (hd 0 (zq kR)) nu ?_;exact oVq (qZ (v:= .slice _ _ _) U39 rfl rfl (hb3.u.cell rfl)) rfl
   | 2,_,hoq=>
    cases sI hoq;exact oVq (zV U41 rfl rfl hb5.u.range0 Z8) rfl
   | 3,_,hoq=>
    cases sI hoq;have hs0:=s7;refine zz 18 _ (hd 2 (zq kR)) nu ?_;refine yK fn112 (IH _ (List.getElem_mem hja) Ax cx wx (hsx.mono hB.u)) rfl (fun e' w2 hr=>?_);obtain⟨⟨A19,c19,rfl,hz19⟩,s8⟩:=hr;exact⟨_,rfl,sB s8,⟨A19,c19,_,rfl,hz19.mono hs0.size (Nat.le_refl _) (Nat.le_refl _)⟩,xq⟩
   | 4,_,hoq=>
    cases sI hoq;have hs0:=s7;obtain⟨A19,c19,n19,e19,hz19⟩:=hd 3 (zq kR);refine zz 19 _ e19 nu ?_;refine vK (fun ops Q K=>?_);refine qv (cs:=#[_,_]) [(0,.agg _)] rfl U39 Z8 JY dE dE kR rfl (fun b20 w8 hb20 s9 hr=>?_);exact K _ _ ⟨s9,⟨_,A19,c19,n19,rfl,nLT hs0.size hr,hb20,hz19.tr0 s9⟩,fRq hr hb20.lt⟩
   | _ + 5,hix,_=>exact absurd hix om
  intro gg w9 s10 hR hdis;obtain⟨b20,A20,c20,n20,e20,lo20,hb20,hz20⟩:=hR 4 dE;replace hH:=hH.tr0 s10;have hnH:=hH.le;have hnz:=hz20.le;refine x7 17 _ (hR 1 dE) nu (x7 20 _ e20 nu ?_);replace ho3:=ho3.tr0 s10;refine vW U39 in41_ECl rfl dE ho3 hb20 rfl rfl rfl zX dE om om hb3.u.lt (fun g21 cap21 w10 ho21 s11 hg=>?_);have ne_ho21_b1:g21≠b1:=neA ho3 hb1.u.lt hg
  have ne_ho21_b2:g21≠b2:=neA ho3 hb2.u.lt hg
  have ne_ho21_b3:g21≠b3:=neA ho3 hb3.u.lt hg
  have ne_ho21_b5:g21≠b5:=neB hb5.u.lt hg (neL or_ho3_b5)
  replace hB:=hB.u.tr s11 (fun g hg=>nLT (Nat.le_succ_of_le lo3) (ho3.lt g hg).1);replace hb1:=((hb1.tr0 s4).tr1 s5 om).tr0 s10;replace hb1:=hb1.ta s11 ho3;replace hb2:=hb2.tr0 s10;replace hb2:=hb2.ta s11 ho3;replace hb3:=hb3.tr0 s10;replace hb3:=hb3.ta s11 ho3;replace hH:=hH.tr s11 (fun g hg=> .inr (.inl (by simp [hg])));replace hz20:=hz20.tr s11 (fun g hg=> .inl (zo g hg));refine zn1 ?_;refine x9 (v:= .slice _ _ _) hb3 rfl rfl TZ (by first | decide | simp) rfl rfl (fun w11 hq s12=>?_);replace hH:=hH.in1 s12 (by simp);replace hz20:=hz20.lo1 s12 z3;replace ho21:=ho21.tr1 s12 (neS ne_ho21_b3);replace hb3:=hq
  have hH2:=RowD.app (Y:=b2 :: b3 :: aL (some (⟨g21,0,none⟩:Addr))) hja rfl hH rfl (hz20.imp (fun _ h=>(⟨A20,c20,rfl,h⟩:smC _ _ _))) hsz (fun y hy=>by
    rcases List.mem_cons.1 hy with h | hy
    · exact .inl (by simp [h])
    rcases List.mem_cons.1 hy with h | hy
    · exact .inl (by simp [h])
    · cases List.mem_singleton.1 hy
      rcases hg with hg | hg
      · exact .inl (by simp [hg])
      · exact .inr (nLT hnH hg)) (fun y hy=>by
    rcases List.mem_cons.1 hy with h | hy
    · exact .inl (by rw [h];exact z2)
    rcases List.mem_cons.1 hy with h | hy
    · exact .inl (by rw [h];exact z3)
    · cases List.mem_singleton.1 hy
      rcases hg with hg | hg
      · exact .inl (zo g21 (by rw [hg];exact List.mem_singleton.2 rfl))
      · exact .inr (nLT hnz hg))
  refine zn7 ?_;refine qV (s.args.length - (j + 1)) om agA ?_;exact⟨j + 1,_,_,_,_,by omega,rfl,rfl,hB.u,hb1.u,hb2.u,hb3,ho21,hH2⟩
 have hje:j=s.args.length:=by omega
 refine zn8 ?_;refine zj hb2 rfl rfl Z8 rfl zX (fun w12 hq s13=>?_);replace ho3:=ho3.tq s13;replace hH:=hH.in1 s13 (by simp);replace hb2:=hq;refine zn3 ?_;refine x8 (.inl rfl) rfl (zk U41 rfl rfl hb2.range0 Z8) ?_;replace hb3:=hb3.tr1 s13 om;rw [hje] at ho3 hH hb3;rw [List.take_length] at hH;replace hB:=hB.tr1 s13 lo2;exact⟨⟨A3,c3,by rw [hje],own_sims ho3 om hH⟩,hB⟩
theorem H9 {s:Sm} (h:SmK s):∀ (A:Option Addr) (c:Nat) (w:World),SimsIn w A s.args→Calls Tryz.prog 112 #[.agg #[.string (s).base,.slice A (s).args.length c]] w fun e w'=>(∃ A' c',e= .returned (.agg #[.string (s).base,.slice A' (s).args.length c'])∧Hv w.heap.size [] w'.heap.size w' (fun w=>SimsIn w A' (s).args))∧Bel w w':=by
  induction h with
  | mk hl _ ih=>exact fun A c w hS=>R7 hl hS (fun x hx A c w h=>ih x hx A c w h)
end Go.Proofs.YtbcpgfnfiekbiaaGreatDoor
namespace Go.Proofs.YtbcpgfnfiekbiaaGreatDoor
open Go.RowKit
theorem own_top {w:World} {base sz cap n g:Nat} {e:TypeId} {xs ys:List Value} {m:Nat} (h:Own w base e sz (some ⟨g,0,none⟩) m cap (xs ++ ys)) (hx:xs.length=n * sz):w.rangeAt g (0 + n * sz) ys:=fun i v hv=>by
  have hi:i < ys.length:=(List.getElem?_eq_some_iff.1 hv).1
  obtain⟨g',e,_,_,hc⟩:=h.cell (by intro e;rw [List.append_eq_nil_iff] at e;rw [e.2] at hi;simp at hi)
  cases e
  have:=hc (xs.length + i) v (by rw [List.getElem?_append_right om];rw [Nat.add_sub_cancel_left];exact hv)
  rw [hx] at this
  rw [Nat.zero_add]
  exact this
theorem Blk.sub {w:World} {b t o n:Nat} {cs:Array Value} {xs:List Value} (h:Blk w b t cs) (hx:(cs.toList.drop o).take n=xs):w.rangeAt b o xs:=h.range (fun j v hj=>by
  subst hx
  rw [List.getElem?_take] at hj
  split at hj
  · rw [List.getElem?_drop] at hj
    simpa using hj
  · cases hj)
inductive StkS (w:World):List (Sm×Nat)→List Value→Prop
  | nil:StkS w [] []
  | snoc {l:List (Sm×Nat)} {vs:List Value} {s:Sm} {d:Nat} {A:Option Addr} {c:Nat} (h:StkS w l vs) (hs:SimsIn w A s.args):StkS w (l ++ [(s,d)]) (vs ++ [.string s.base,.slice A s.args.length c,.int .i64 d])
theorem StkS.len {w:World} {l:List (Sm×Nat)} {vs:List Value} (h:StkS w l vs):vs.length=l.length * 3:=by
  induction h with
  | nil=>rfl
  | snoc h hs ih=>simp only [List.length_append,ih,List.length_cons,List.length_nil];omega
theorem StkS.pop {w:World} {l:List (Sm×Nat)} {vs:List Value} (h:StkS w l vs) (hl:0 < l.length):∃ l' vs' s d A c,l=l' ++ [(s,d)]∧vs=vs' ++ [.string s.base,.slice A s.args.length c,.int .i64 (d:Nat)]∧StkS w l' vs'∧SimsIn w A s.args:=by
  cases h with
  | nil=>simp at hl
  | snoc h hs=>exact⟨_,_,_,_,_,_,rfl,rfl,h,hs⟩
inductive StkT (w:World):List (Tm×Nat×Nat)→List Value→Prop
  | nil:StkT w [] []
  | snoc {l:List (Tm×Nat×Nat)} {vs:List Value} {t:Tm} {d b:Nat} {A B:Option Addr} {c m:Nat} (h:StkT w l vs) (hs:SimsIn w A t.type.args) (ht:TmsIn w B t.args):StkT w (l ++ [(t,d,b)]) (vs ++ [.int .i64 t.kind,.string t.name,.int .i64 t.index,.string t.type.base,.slice A t.type.args.length c,.slice B t.args.length m,.int .i64 d,.int .i64 b])
theorem StkT.len {w:World} {l:List (Tm×Nat×Nat)} {vs:List Value} (h:StkT w l vs):vs.length=l.length * 8:=by
  induction h with
  | nil=>rfl
  | snoc h hs ht ih=>simp only [List.length_append,ih,List.length_cons,List.length_nil];omega
theorem StkT.pop {w:World} {l:List (Tm×Nat×Nat)} {vs:List Value} (h:StkT w l vs) (hl:0 < l.length):∃ l' vs' t d b A B c m,l=l' ++ [(t,d,b)]∧vs=vs' ++ [.int .i64 t.kind,.string t.name,.int .i64 t.index,.string t.type.base,.slice A t.type.args.length c,.slice B t.args.length m,.int .i64 (d:Nat),.int .i64 (b:Nat)]∧StkT w l' vs'∧SimsIn w A t.type.args∧TmsIn w B t.args:=by
  cases h with
  | nil=>simp at hl
  | snoc h hs ht=>exact⟨_,_,_,_,_,_,_,_,_,rfl,rfl,h,hs,ht⟩
theorem V6 {α:Type} (l:List α) (x:α):(l ++ [x]).reverse=x :: l.reverse:=by simp
theorem Ts.kids_len (τ:Ts):τ.sm.args.length≤2:=by cases τ <;> simp [Ts.sm,Sm.args]
def Ts.kids:Ts→List Ts
  | .b _=>[]
  | .f x y=>[x,y]
theorem Ts.kids_sm (τ:Ts):τ.sm.args=τ.kids.map Ts.sm:=by cases τ <;> rfl
theorem Ts.kids_lt {τ x:Ts} (h:x ∈ τ.kids):x.size < τ.size:=by
  cases τ with
  | b t=>cases h
  | f a b=>
    simp only [Ts.kids,List.mem_cons,List.not_mem_nil,or_false] at h;rcases h with rfl | rfl <;> simp only [Ts.size] <;> omega
theorem Ts.ext {a b:Ts} (hb:a.sm.base=b.sm.base) (hk:a.kids=b.kids):a=b:=by
  cases a with
  | b s=>cases b with
    | b t=>cases s <;> cases t <;> first | rfl | (exfalso;revert hb;simp [Ts.sm,Sm.base,smE,smT])
    | f x y=>cases hk
  | f x y=>cases b with
    | b t=>cases hk
    | f u v=>simp only [Ts.kids,List.cons.injEq,and_true] at hk;rw [hk.1,hk.2]
theorem R6 {w:World} {A:Option Addr} {τ:Ts} (h:SimsIn w A τ.sm.args) {k:Nat} (hk:k < τ.kids.length):∃ b o A' c,A=some ⟨b,o,none⟩∧b < w.heap.size∧w.rangeAt b (o + k * 2) [Value.string (τ.kids[k]).sm.base,.slice A' (τ.kids[k]).sm.args.length c]∧SimsIn w A' (τ.kids[k]).sm.args:=by
  obtain⟨b,o,A',c,h1,h2,h3,h4⟩:=h.at_ (k:=k) (by rw [Ts.kids_sm,List.length_map];exact hk);have e:τ.sm.args[k]'(by rw [Ts.kids_sm,List.length_map];exact hk)=(τ.kids[k]).sm:=by simp only [Ts.kids_sm,List.getElem_map]
  rw [e] at h3 h4;exact⟨b,o,A',c,h1,h2,h3,h4⟩
theorem take_kid {a b:List Ts} {j:Nat} (h:a.take j=b.take j) (ha:j < a.length) (hb:j < b.length) (e:a[j]=b[j]):a.take (j + 1)=b.take (j + 1):=by
  rw [List.take_succ_eq_append_getElem ha,List.take_succ_eq_append_getElem hb,h,e]
end Go.Proofs.YtbcpgfnfiekbiaaGreatDoor
