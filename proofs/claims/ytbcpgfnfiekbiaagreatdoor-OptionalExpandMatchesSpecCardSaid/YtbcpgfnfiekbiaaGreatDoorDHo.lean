/- All rules that are made of optional rules, one after the other. No program in sight. What hierarchyOf lays. No program in sight. The grammars that the program makes as data: how a world holds them. No program in sight. What these functions of the program compute, at every world: glosswright/glosswrightequal.graphOf. What these functions of the program compute, at every world: glosswright/glosswrightequal.Small$1. What these functions of the program compute, at every world: glosswright/glosswrightequal.hierarchyOf. -/
import Derived.Test.YtbcpgfnfiekbiaaGreatDoorERx
import Derived.Test.YtbcpgfnfiekbiaaGreatDoorStk
import Derived.Test.YtbcpgfnfiekbiaaGreatDoorU
import Derived.Test.YtbcpgfnfiekbiaaGreatDoorTrm
import Derived.Test.YtbcpgfnfiekbiaaGreatDoorEng7
namespace Go.Proofs.YtbcpgfnfiekbiaaGreatDoor
open Go.RowKit
open Classical in
noncomputable def tyA (r:Orl):List Ts:=if h:∃ v τ,TyIs r.rule.mean v τ then qJ (Classical.choose (Classical.choose_spec h)) else []
theorem H4 {r:Orl} {v:Tv} {τ:Ts} (h:TyIs r.rule.mean v τ):qJ τ=tyA r:=by
  have h0:∃ v τ,TyIs r.rule.mean v τ:=⟨v,τ,h⟩
  unfold tyA;rw [dif_pos h0,((Classical.choose_spec (Classical.choose_spec h0)).det h).2]
noncomputable def Mv (l:List Ty) (fs:List Ft) (ch:Nat→Nat→Bool) (i c:Nat) (r:Orl) (rs:List Orl):List (Int×Rl):=((List.range (2 ^ r.om.length)).drop c).map (fun c=>((i:Int),kX l fs r (tyA r) (ch c))) ++ M8 l fs tyA ch (i + 1) rs
section
variable {l:List Ty} {fs:List Ft} {ch:Nat→Nat→Bool} {i c:Nat} {r:Orl} {rs:List Orl}
theorem all_at (hi:i < rs.length) (hr:r=rs[i]):M8 l fs tyA ch i (rs.drop i)=Mv l fs ch i 0 r (rs.drop (i + 1)):=by
  subst hr;rw [List.drop_eq_getElem_cons hi];rfl
theorem Ry (hc:c < 2 ^ r.om.length):Mv l fs ch i c r rs=((i:Int),kX l fs r (tyA r) (ch c)) :: Mv l fs ch i (c + 1) r rs:=by
  unfold Mv;rw [List.drop_eq_getElem_cons (by rw [List.length_range];exact hc),List.map_cons,List.getElem_range];rfl
theorem D8 (hc:2 ^ r.om.length≤c):Mv l fs ch i c r rs=M8 l fs tyA ch (i + 1) rs:=by
  unfold Mv;rw [List.drop_eq_nil_of_le (by rw [List.length_range];exact hc)];rfl
end
section
variable {l:List Ty} {fs:List Ft} {i:Int} {x:Rl} {xs:List (Int×Rl)} {out:List Rl}
theorem SK (h:xj x.name=false):Q6 l fs ((i,x) :: xs) out=((10,i),[]):=if_pos h
theorem Kx (out:List Rl) (s:ByteArray):jX (out.map (·.name)) s=out.any (fun y=>decide (y.name=s)):=by
  unfold jX;rw [List.any_map];rfl
theorem SX (h1:xj x.name=true) (h2:jX (out.map (·.name)) x.name=true):Q6 l fs ((i,x) :: xs) out=((7,i),[]):=by
  unfold Q6;rw [if_neg (by rw [h1];decide),if_pos (by rw [← Kx];exact h2)]
theorem SJ (h1:xj x.name=true) (h2:jX (out.map (·.name)) x.name=false) (h3:¬vy l fs x=0):Q6 l fs ((i,x) :: xs) out=((vy l fs x,i),[]):=by
  unfold Q6;rw [if_neg (by rw [h1];decide),if_neg (by rw [← Kx,h2];decide),if_pos h3]
theorem LY (h1:xj x.name=true) (h2:jX (out.map (·.name)) x.name=false) (h3:vy l fs x=0) (h4:out.length=40):Q6 l fs ((i,x) :: xs) out=((17,-1),[]):=by
  unfold Q6;rw [if_neg (by rw [h1];decide),if_neg (by rw [← Kx,h2];decide),if_neg (fun h=>h h3),if_pos h4]
theorem W9 (h1:xj x.name=true) (h2:jX (out.map (·.name)) x.name=false) (h3:vy l fs x=0) (h4:¬out.length=40):Q6 l fs ((i,x) :: xs) out=Q6 l fs xs (out ++ [x]):=by
  rw [Q6,if_neg (by rw [h1];decide),if_neg (by rw [← Kx,h2];decide),if_neg (fun h=>h h3),if_neg h4]
end
theorem ex_ok (l:List Ty) (fs:List Ft):∀ (xs:List (Int×Rl)) (out:List Rl),out.length≤40→(∀ x ∈ out,vy l fs x=0)→(Q6 l fs xs out).2.length≤40∧∀ x ∈ (Q6 l fs xs out).2,vy l fs x=0
  | [],out,h1,h2=>⟨h1,h2⟩
  | (i,x) :: xs,out,h1,h2=>by
    have nil:∀ F:Fl,(F,([]:List Rl)).2.length≤40∧∀ x ∈ (F,([]:List Rl)).2,vy l fs x=0:=fun F=>⟨Nat.zero_le _,fun x h=>by cases h⟩
    cases a:xj x.name with
    | false=>rw [SK a];exact nil _
    | true=>
      cases b:jX (out.map (·.name)) x.name with
      | true=>rw [SX a b];exact nil _
      | false=>
        by_cases c:vy l fs x=0
        · by_cases d:out.length=40
          · rw [LY a b c d];exact nil _
          · rw [W9 a b c d]
            refine ex_ok l fs xs _ (by rw [List.length_append];show _ + 1≤40;omega) (fun y hy=>?_)
            rcases List.mem_append.1 hy with h | h
            · exact h2 y h
            · rw [List.mem_singleton.1 h];exact c
        · rw [SJ a b c];exact nil _
noncomputable def orN (l:List Ty) (fs:List Ft) (rs:List Orl) (i:Nat):Int:=match rs[i]? with
  | none=>0
  | some r=>(Q0 l fs r).1
noncomputable def N0 (l:List Ty) (fs:List Ft) (ch:Nat→Nat→Bool) (rs:List Orl):Fl×List Rl:=
  if 40 < rs.length then ((2,-2),[]) else if (x8 (orN l fs rs) 0 rs.length).1≠0 then (x8 (orN l fs rs) 0 rs.length,[]) else Q6 l fs (M8 l fs tyA ch 0 rs) []
noncomputable def Px (l:List Ty) (fs:List Ft) (ch:Nat→Nat→Bool) (rs:List Orl):Fl×List Rl:=if (yX l fs).1≠0 then (yX l fs,[]) else N0 l fs ch rs
section
variable {l:List Ty} {fs:List Ft} {ch:Nat→Nat→Bool} {i:Nat} {r:Orl} {rs:List Orl} {F:Fl} {E:Fl×List Rl}
theorem J4 (hi:i < rs.length) (hr:r=rs[i]):orN l fs rs i=(Q0 l fs r).1:=by
  subst hr;unfold orN;rw [List.getElem?_eq_getElem hi]
theorem C7 (h:40 < rs.length):N0 l fs ch rs=((2,-2),[]):=if_pos h
theorem xf_or (h:¬40 < rs.length) (h2:x8 (orN l fs rs) 0 rs.length=F) (h3:F.1≠0):N0 l fs ch rs=(F,[]):=by
  subst h2;unfold N0;rw [if_neg h,if_pos h3]
theorem Y2 (h:¬40 < rs.length) (h2:x8 (orN l fs rs) 0 rs.length=(0,0)) (h3:Q6 l fs (M8 l fs tyA ch 0 rs) []=E):N0 l fs ch rs=E:=by
  unfold N0;rw [if_neg h,h2,if_neg dE,h3]
theorem xv_rd (h:¬(yX l fs).1=0):Px l fs ch rs=(yX l fs,[]):=if_pos h
theorem Vw (h:(yX l fs).1=0) (h2:N0 l fs ch rs=E):Px l fs ch rs=E:=by
  unfold Px;rw [if_neg (fun e=>e h),h2]
theorem xf_ok:(N0 l fs ch rs).2.length≤40∧∀ x ∈ (N0 l fs ch rs).2,vy l fs x=0:=by
  have nil:∀ F:Fl,(F,([]:List Rl)).2.length≤40∧∀ x ∈ (F,([]:List Rl)).2,vy l fs x=0:=fun F=>⟨Nat.zero_le _,fun x h=>by cases h⟩
  by_cases h:40 < rs.length
  · rw [C7 h];exact nil _
  · by_cases h2:(x8 (orN l fs rs) 0 rs.length).1=0
    · unfold N0
      rw [if_neg h,if_neg (fun e=>e h2)];exact ex_ok l fs _ [] (Nat.zero_le _) (fun x h=>by cases h)
    · rw [xf_or h rfl h2];exact nil _
end
def ExO (Q:World→Prop) (lo:Nat) (E:Fl×List Rl) (w':World) (e:Ending):Prop:=∃ A c,e= .returned (.tuple #[.slice A E.2.length c,.agg #[.int .i64 E.1.1,.int .i64 E.1.2]])∧Hv lo [] w'.heap.size w' (fun w2=>Q w2→RulesIn w2 A E.2)
theorem u8 {Q:World→Prop} {lo:Nat} {E:Fl×List Rl} {F:Fl} {w':World} (h:E=(F,[])):ExO Q lo E w' (.returned (.tuple #[.slice none 0 0,.agg #[.int .i64 F.1,.int .i64 F.2]])):=by
  subst h;exact⟨none,0,rfl,Hv.triv _ _ _ (fun _ _=>⟨Nat.zero_le _,fun h=>absurd rfl h⟩)⟩
theorem RowD.add {α:Type} {C:World→α→List Value→Prop} {sz lo l2 n m:Nat} {X Y:List Nat} {w:World} {l:List α} {vs v:List Value} {x:α} (h:Hv lo X n w (fun w=>RowD C sz w l vs)) (hv:v.length=sz) (hC:Hv l2 [] m w (fun w=>C w x v)) (hl:lo≤l2) (hY:∀ y ∈ Y,y ∈ X∨n≤y) (hY2:∀ y ∈ Y,y < l2∨m≤y):Hv lo Y w.heap.size w (fun w=>RowD C sz w (l ++ [x]) (vs ++ v)):=
  ((h.hole (fun y hy=>(hY y hy).imp id .inr)).and ((hC.hole (fun y hy=> .inr (hY2 y hy))).mono hl (Nat.le_refl _) hC.le)).imp (fun _ h=> .snoc h.1 hv h.2)
def bkN (b:Nat→Bool) (q j:Nat):Bool:=decide (j < q) && b j
theorem bk_zero (b:Nat→Bool):bkN b 0=fun _=>false:=funext (fun j=>by simp [bkN])
theorem bk_row {b:Nat→Bool} {q n:Nat} {v:Bool} (h:v=b q):row n (fun j=>if j=q then Value.bool v else .bool (bkN b q j))=row n (fun j=> .bool (bkN b (q + 1) j)):=by
  subst h
  congr 1
  funext j
  by_cases e:j=q
  · rw [if_pos e,e];simp [bkN]
  · rw [if_neg e]
    have:decide (j < q)=decide (j < q + 1):=decide_eq_decide.2 oM;simp [bkN,this]
theorem bk_all {b:Nat→Bool} {n j:Nat} (h:j < n):bkN b n j=b j:=by simp [bkN,h]
end Go.Proofs.YtbcpgfnfiekbiaaGreatDoor
namespace Go.Proofs.YtbcpgfnfiekbiaaGreatDoor
open Go.RowKit
def StrsD (w:World) (A:Option Addr) (ss:List ByteArray):Prop:=
  ss≠[]→∃ b o,A=some ⟨b,o,none⟩∧b < w.heap.size∧∀ k (h:k < ss.length),w.cell? ⟨b,o + k * 1,none⟩=some (.string ss[k])
theorem StrsD.at_ {w w':World} {A:Option Addr} {ss:List ByteArray} (h:StrsD w A ss) (hb:Bel w w') {k:Nat} (hk:k < ss.length):
    ∃ b o,A=some ⟨b,o,none⟩∧w'.cell? ⟨b,o + k * 1,none⟩=some (.string ss[k]):=by
  obtain⟨b,o,e,hl,hc⟩:=h (by rintro rfl;simp at hk);exact⟨b,o,e,hb.cell hl (hc k hk)⟩
def M4 (ns:List ByteArray) (ps:List Int) (i:Nat):Ty:=⟨ns.getD i ⟨#[]⟩,if 0 < i then [ps.getD i 0] else []⟩
def XW (ns:List ByteArray) (ps:List Int) (k:Nat):List Ty:=(List.range k).map (M4 ns ps)
theorem O6 (ns:List ByteArray) (ps:List Int) (k:Nat):XW ns ps (k + 1)=XW ns ps k ++ [M4 ns ps k]:=by
  unfold XW;rw [List.range_succ,List.map_append];rfl
theorem FY {ns:List ByteArray} {ps:List Int} {k:Nat} (hk:k < ns.length) (h:¬0 < k):M4 ns ps k=⟨ns[k],[]⟩:=by
  simp [M4,h,List.getD,List.getElem?_eq_getElem hk]
theorem LJ {ns:List ByteArray} {ps:List Int} {k:Nat} (hk:k < ns.length) (hk2:k < ps.length) (h:0 < k):M4 ns ps k=⟨ns[k],[ps[k]]⟩:=by
  simp [M4,h,List.getD,List.getElem?_eq_getElem hk,List.getElem?_eq_getElem hk2]
def TS2:List Nat:=110 :: 25 :: TS
inductive TyData (w:World):List Ty→List Value→Prop
  | nil:TyData w [] []
  | snoc {l:List Ty} {vs:List Value} {x:Ty} {A:Option Addr} {c:Nat} (h:TyData w l vs) (hp:IntsIn w A x.par):TyData w (l ++ [x]) (vs ++ [.string x.name,.slice A x.par.length c])
theorem TyData.len {w:World} {l:List Ty} {vs:List Value} (h:TyData w l vs):vs.length=l.length * 2:=by
  induction h with
  | nil=>rfl
  | snoc h hl ih=>simp only [List.length_append,List.length_cons,List.length_nil,ih];omega
theorem TyData.get {w:World} {l:List Ty} {vs:List Value} (h:TyData w l vs):∀ k (hk:k < l.length),∃ A c,vs[k * 2]? =some (.string (l[k]).name)∧vs[k * 2 + 1]? =some (.slice A (l[k]).par.length c)∧IntsIn w A (l[k]).par:=by
  induction h with
  | nil=>intro k hk;simp at hk
  | @snoc l cs t A c h hp ih=>
    intro k hk;have hlen:=h.len;by_cases e:k < l.length
    · obtain⟨A',c',h1,h2,h3⟩:=ih k e
      refine⟨A',c',?_,?_,?_⟩
      · rw [List.getElem?_append_left oM,h1,List.getElem_append_left e]
      · rw [List.getElem?_append_left oM,h2,List.getElem_append_left e]
      · rw [List.getElem_append_left e];exact h3
    · simp only [List.length_append,List.length_cons,List.length_nil] at hk
      have ek:k=l.length:=by omega
      subst ek;have eg:(l ++ [t])[l.length]'(by simp)=t:=by simp
      rw [eg];refine⟨A,c,?_,?_,hp⟩
      · rw [List.getElem?_append_right oM,hlen];simp
      · rw [List.getElem?_append_right oM,hlen];simp
theorem gof_types {w:World} {B:Nat} {A:Option Addr} {k cap:Nat} {cs:List Value} {l:List Ty} (ho:Own w B 110 2 A k cap cs) (ht:TyData w l cs):TypesIn w A l:=by
  have hlk:l.length=k:=by have h1:=ho.len;have h2:=ht.len;omega
  refine⟨by rw [hlk];exact ho.max,fun hn=>?_⟩
  obtain⟨g,e,hb,hg,hc⟩:=ho.cell (by
    intro h0;have:=ht.len;rw [h0] at this;cases l with
    | nil=>exact hn rfl
    | cons a r=>simp only [List.length_nil,List.length_cons] at this;omega)
  refine⟨g,0,e,hg,fun j hj=>?_⟩;obtain⟨A',c,h1,h2,h3⟩:=ht.get j hj;refine⟨A',c,?_,h3⟩;intro i v hi
  match i,hi with
  | 0,hi=>cases hi;have:=hc _ _ h1;simpa using this
  | 1,hi=>cases hi;have:=hc _ _ h2;simpa using this
  | _ + 2,hi=>cases hi
theorem hof_end {w:World} {B n:Nat} {A:Option Addr} {k cap:Nat} {cs:List Value} {l:List Ty} (ho:Own w B 110 2 A k cap cs) (ht:Fz [] n TS2 w (fun w=>TyData w l cs)):Fz [] w.heap.size TS w (fun w=>TypesIn w A l):=
  ((ho.fz (ts:=TS) (M1 dE dE dE)).and ((ht.up).sub dE)).imp (fun _ h=>gof_types h.1 h.2)
theorem FW {w:World} {n k:Nat} {ns:List ByteArray} {ps:List Int} {cs:List Value} (h:Fz [] n TS2 w (fun w=>TyData w (XW ns ps k) cs)) (hk:k < ns.length) (h0:¬0 < k):Fz [] w.heap.size TS2 w (fun w=>TyData w (XW ns ps (k + 1)) (cs ++ [.string ns[k],.slice none 0 0])):=by
  rw [O6,FY hk h0];exact h.up.imp (fun _ h=> .snoc (x:=⟨ns[k],[]⟩) h ⟨Nat.zero_le _,fun h=>absurd rfl h⟩)
theorem hof_pos {w:World} {n k b:Nat} {ns:List ByteArray} {ps:List Int} {cs:List Value} (h:Fz [] n TS2 w (fun w=>TyData w (XW ns ps k) cs)) (hk:k < ns.length) (hk2:k < ps.length) (h0:0 < k) (hb:Blk w b 3 #[.int .i64 ps[k]]):Fz [] w.heap.size TS2 w (fun w=>TyData w (XW ns ps (k + 1)) (cs ++ [.string ns[k],.slice (some ⟨b,0,none⟩) 1 1])):=by
  rw [O6,LJ hk hk2 h0]
  exact(h.and (Fz.blk (X:=[]) hb (by simp) (M1 dE dE dE _))).imp (fun _ h=> .snoc (x:=⟨ns[k],[ps[k]]⟩) h.1 ⟨by show 1≤yJ;decide,fun _=>⟨b,0,rfl,h.2.lt,fun j hj=>by
    have:j=0:=by simp at hj;omega
    subst this
    exact h.2.cell rfl⟩⟩)
end Go.Proofs.YtbcpgfnfiekbiaaGreatDoor
namespace Go.Proofs.YtbcpgfnfiekbiaaGreatDoor
open Go.RowKit
inductive RlCs (w:World):List Rl→List Value→Prop
  | nil:RlCs w [] []
  | cons {r:Rl} {G S B:Option Addr} {gn cg cs cb:Nat} {l:List Rl} {vs:List Value} (hn:gn=r.gr.length) (hG:NodesIn w G r.gr) (hS:SimsIn w S r.mean.type.args) (hT:TmsIn w B r.mean.args) (t:RlCs w l vs):RlCs w (r :: l) (.string r.name :: .slice G gn cg :: .int .i64 r.kids :: .int .i64 r.wt :: .int .i64 r.mean.kind :: .string r.mean.name :: .int .i64 r.mean.index :: .string r.mean.type.base :: .slice S r.mean.type.args.length cs :: .slice B r.mean.args.length cb :: vs)
def rlC (r:Rl) (G S B:Option Addr) (cg cs cb:Nat):List Value:=[.string r.name,.slice G r.gr.length cg,.int .i64 r.kids,.int .i64 r.wt,.int .i64 r.mean.kind,.string r.mean.name,.int .i64 r.mean.index,.string r.mean.type.base,.slice S r.mean.type.args.length cs,.slice B r.mean.args.length cb]
theorem RlCs.len {w:World} {l:List Rl} {vs:List Value} (h:RlCs w l vs):vs.length=l.length * 10:=by
  induction h with
  | nil=>rfl
  | cons _ _ _ _ _ ih=>simp only [List.length_cons,ih];omega
theorem RlCs.get {w:World} {l:List Rl} {vs:List Value} (h:RlCs w l vs):∀ k (hk:k < l.length),∃ G cg S cs B cb,(∀ j v,(rlC (l[k]) G S B cg cs cb)[j]? =some v→vs[k * 10 + j]? =some v)∧NodesIn w G (l[k]).gr∧SimsIn w S (l[k]).mean.type.args∧TmsIn w B (l[k]).mean.args:=by
  induction h with
  | nil=>intro k hk;simp at hk
  | @cons r G S B gn cg cs cb l vs hn hG hS hT t ih=>
    intro k hk
    match k,hk with
    | 0,_=>
      subst hn;refine⟨G,cg,S,cs,B,cb,fun j v hj=>?_,hG,hS,hT⟩
      match j,hj with
      | 0,hj=>exact hj
      | 1,hj=>exact hj
      | 2,hj=>exact hj
      | 3,hj=>exact hj
      | 4,hj=>exact hj
      | 5,hj=>exact hj
      | 6,hj=>exact hj
      | 7,hj=>exact hj
      | 8,hj=>exact hj
      | 9,hj=>exact hj
      | _ + 10,hj=>cases hj
    | k + 1,hk=>
      obtain⟨G',cg',S',cs',B',cb',h1,h2⟩:=ih k (by simpa using hk);refine⟨G',cg',S',cs',B',cb',fun j v hj=>?_,h2⟩;rw [show (k + 1) * 10 + j=k * 10 + j + 10 by omega];exact h1 j v hj
theorem RlCs.rules {w:World} {b t:Nat} {l:List Rl} {vs:List Value} (h:RlCs w l vs) (hb:Blk w b t vs.toArray) (hl:l.length≤yJ):RulesIn w (some ⟨b,0,none⟩) l:=
  ⟨hl,fun _=>⟨b,0,rfl,hb.lt,fun k hk=>by
    obtain⟨G,cg,S,cs,B,cb,h1,h2⟩:=h.get k hk
    exact⟨G,cg,S,cs,B,cb,V1 hb (fun j v hj=>by rw [List.getElem?_toArray,Nat.zero_add];exact h1 j v hj),h2⟩⟩⟩
theorem TY {w:World} {b t:Nat} (xs:List ByteArray) (h:Blk w b t (xs.map Value.string).toArray):StrsD w (some ⟨b,0,none⟩) xs:=
  fun _=>⟨b,0,rfl,h.lt,fun k hk=>h.cell (by simp [hk])⟩
def RowV (w:World) (r:List Int) (v:Value):Prop:=∃ A c,v= .slice A r.length c∧IntsIn w A r∧0 < r.length∧r.length≤1000
inductive RowVs (w:World):List (List Int)→List Value→Prop
  | nil:RowVs w [] []
  | cons {r:List Int} {rs:List (List Int)} {v:Value} {vs:List Value} (h:RowV w r v) (t:RowVs w rs vs):RowVs w (r :: rs) (v :: vs)
theorem RowVs.pos {w:World} {rs:List (List Int)} {vs:List Value} (h:RowVs w rs vs):∀ r ∈ rs,0 < r.length∧r.length≤1000:=by
  induction h with
  | nil=>intro r hr;cases hr
  | cons h _ ih=>
    intro r hr;rcases List.mem_cons.1 hr with rfl | hr
    · obtain⟨_,_,_,_,h3,h4⟩:=h;exact⟨h3,h4⟩
    · exact ih r hr
theorem RowVs.get {w:World} {rs:List (List Int)} {vs:List Value} (h:RowVs w rs vs):∀ k (hk:k < rs.length),∃ A c,vs[k]? =some (.slice A (rs[k]).length c)∧IntsIn w A rs[k]:=by
  induction h with
  | nil=>intro k hk;simp at hk
  | cons h _ ih=>
    intro k hk
    match k,hk with
    | 0,_=>obtain⟨A,c,h1,h2,_⟩:=h;exact⟨A,c,by rw [h1];rfl,h2⟩
    | k + 1,hk=>exact ih k (by simpa using hk)
theorem qY {w:World} {b t:Nat} {rs:List (List Int)} {vs:List Value} (h:Blk w b t vs.toArray) (hr:RowVs w rs vs) (hl:rs.length≤1000):RowsIn w (some ⟨b,0,none⟩) rs:=
  ⟨hl,hr.pos,fun _=>⟨b,0,rfl,h.lt,fun k hk=>by
    obtain⟨A,c,h1,h2⟩:=hr.get k hk
    exact⟨A,c,h.cell (by simpa using h1),h2⟩⟩⟩
def kidsAt:Nat→Int→List Rl→List Rl
  | _,_,[]=>[]
  | 0,z,r :: l=>⟨r.name,r.gr,z,r.wt,r.mean⟩ :: l
  | k + 1,z,r :: l=>r :: kidsAt k z l
theorem RlCs.kids {w:World} {l:List Rl} {vs:List Value} (h:RlCs w l vs) (z:Int):∀ k,k < l.length→RlCs w (kidsAt k z l) (vs.set (k * 10 + 2) (.int .i64 z)):=by
  induction h with
  | nil=>intro k hk;simp at hk
  | @cons r G S B gn cg cs cb l vs hn hG hS hT t ih=>
    intro k hk
    match k,hk with
    | 0,_=>exact .cons (r:=⟨r.name,r.gr,z,r.wt,r.mean⟩) hn hG hS hT t
    | k + 1,hk=>
      rw [show (k + 1) * 10 + 2=k * 10 + 2 + 10 by omega];exact .cons hn hG hS hT (ih k (by simpa using hk))
def GmD (T:List Ty) (F:List Ft) (R:List Rl) (L:List Lx) (S:List Nd) (w0 w:World) (v:Value):Prop:=
  ∃ At ct Bf cf br cells A cap AS cst n,v= .agg #[.slice At T.length ct,.slice Bf F.length cf,.slice (some ⟨br,0,none⟩) R.length R.length,.slice A L.length cap,.slice AS S.length cst]∧w0.heap.size≤br∧L.length≤cap∧Blk w br 54 cells∧Fz [] n [54,57] w (fun w=>TypesIn w At T∧FeatsIn w Bf F∧RlCs w R cells.toList∧LexesIn w A L∧NodesIn w AS S)
def IsP (xs:List Int) (w:World) (v:Value):Prop:=∃ b,v= .slice (some ⟨b,0,none⟩) xs.length xs.length∧IntsIn w (some ⟨b,0,none⟩) xs
def RsP (rs:List (List Int)) (w:World) (v:Value):Prop:=∃ b,v= .slice (some ⟨b,0,none⟩) rs.length rs.length∧RowsIn w (some ⟨b,0,none⟩) rs
def GrP (rs:List (List Int)) (w:World) (v:Value):Prop:=∃ G c n,v= .agg #[.slice G rs.length c]∧Fz [] n TS w (fun w=>NodesIn w G (rs.map XY))
theorem IsP.tr0 {xs:List Int} {w w1:World} {v:Value} (h:IsP xs w v) (hs:Same [] w w1):IsP xs w1 v:=by
  obtain⟨b,e,h⟩:=h;exact⟨b,e,h.mono hs.bel⟩
theorem vY {P:Program} {n:Nw} {f:Fr} {w:World} (xs:List Int) {len d:Nat} {t e ty:TypeId} {pos:String} {af:Array Edge} {parts:Array (Nat×Operand)} (hv:parts.toList.map (fun p=>(p.1,ev n f p.2))=xs.zipIdx.map (fun x=>(x.2,Value.int .i64 x.1)))
    (hu:P.underlying t=some (.slice e)) (hs:(P.info? e).map (·.size)=some 1) (hz:(P.info? e).map (·.zero)=some (some (.int .i64 0))) (hn:len=xs.length:=by rfl) (hl:¬len * 1 > 2 ^ 24:=by decide) (hl0:len * 1≠0:=by decide)
    (hfill:Instr.fill (fun i=>some (i * 1,1)) ((Array.range (len * 1)).map ((Value.int .i64 0).cells[· % (Value.int .i64 0).cells.size]!)) (xs.zipIdx.map (fun x=>(x.2,Value.int .i64 x.1)))=some (flat (xs.zipIdx.map (fun x=>(x.2,Value.int .i64 x.1)))):=by kernel_rfl)
    (hcs:flat (xs.zipIdx.map (fun x=>(x.2,Value.int .i64 x.1)))=(xs.map (Value.int .i64)).toArray:=by kernel_rfl) (hm:xs.length≤yJ:=by decide):OS P n f w ⟨some d,.buildSlice t len parts,ty,pos,af,none⟩ (fun v w''=>Same [] w w''∧IsP xs w'' v∧WQ false w w'' v):=
  jk (fun _ _ K=>qw _ hv hu hs hz hl hl0 hfill hcs (fun b w1 hb hs hr=>K _ _ ⟨hs,⟨b,by rw [hn],qy xs hb hm⟩,xX⟩))
theorem RsP.tr0 {xs:List (List Int)} {w w1:World} {v:Value} (h:RsP xs w v) (hs:Same [] w w1):RsP xs w1 v:=by
  obtain⟨b,e,h⟩:=h;exact⟨b,e,h.mono hs.bel⟩
theorem GrP.tr0 {xs:List (List Int)} {w w1:World} {v:Value} (h:GrP xs w v) (hs:Same [] w w1):GrP xs w1 v:=by
  obtain⟨G,c,n,e,h⟩:=h;exact⟨G,c,n,e,h.tr0 hs⟩
section fz
variable {X:List Nat} {n:Nat} {w w':World} {P:World→Prop}
theorem Fz.add {bG base k cap:Nat} {A:Option Addr} {cs:Array Value} {xs:List Value} (h:Fz X n TS w P) (hS:Same (bG :: aL A) w w') (hb:Blk w bG 32 cs) (ho:Own w base 46 9 A k cap xs):Fz X n TS w' P:=
  h.trX hS (fun g hg=>by
    rcases List.mem_cons.1 hg with e | hg
    · exact .inr (.inr ⟨_,_,by rw [e];exact hb,.inl dE⟩)
    · obtain⟨cs,h⟩:=Qq ho g hg
      exact .inr (.inr ⟨_,_,h,.inl dE⟩))
end fz
def zGr:Array Value:=#[.slice none 0 0,.slice none 0 0,.slice none 0 0,.slice none 0 0,.slice none 0 0]
def tyET:Ts:= .f (.b false) (.b true)
def tyEET:Ts:= .f (.b false) tyET
section st
structure SmC (T:List Ty) (F:List Ft) (R:List Rl) (b0 b1 b2 b3 b4 b5 b23 b93 base capt c12 c15:Nat) (At A12 A15:Option Addr) (cr:Array Value) (w wc:World):Prop where
  bel:Bel w wc
  bs:base≤wc.heap.size
  k0:Blk wc b0 32 zGr
  k1:Blk wc b1 41 #[.string ⟨#[101]⟩,.slice none 0 0]
  k2:Blk wc b2 41 #[.string ⟨#[116]⟩,.slice none 0 0]
  k3:Blk wc b3 41 #[.string tyET.sm.base,.slice A12 tyET.sm.args.length c12]
  k4:Blk wc b4 41 #[.string tyEET.sm.base,.slice A15 tyEET.sm.args.length c15]
  k93:Blk wc b93 54 cr
  dt:Fz [] base TS wc (fun w=>TypesIn w At T∧FeatsIn w (some ⟨b23,0,none⟩) F∧RlCs w R cr.toList)
  p12:Fz [] base TS wc (fun w=>SimsIn w A12 tyET.sm.args)
  p15:Fz [] base TS wc (fun w=>SimsIn w A15 tyEET.sm.args)
  lo5:w.heap.size≤b5
  lo93:w.heap.size≤b93
  o:b0 < b5∧b1 < b5∧b2 < b5∧b3 < b5∧b4 < b5∧b5 < b93
  l:b5 < base∧b93 < base
variable {T F R b0 b1 b2 b3 b4 b5 b23 b93 base capt c12 c15 At A12 A15 cr}
theorem SmC.tr {w wc w1:World} {Z:List Nat} (h:SmC T F R b0 b1 b2 b3 b4 b5 b23 b93 base capt c12 c15 At A12 A15 cr w wc) (hs:Same Z wc w1) (hz:∀ x ∈ Z,(x=b5∨base≤x)∧∃ t cs,Blk wc x t cs∧Sp TS t cs):SmC T F R b0 b1 b2 b3 b4 b5 b23 b93 base capt c12 c15 At A12 A15 cr w w1:=by
  obtain⟨o0,o1,o2,o3,o4,o9⟩:=h.o;obtain⟨l5,l9⟩:=h.l;have hf:∀ g ∈ Z,base≤g∨g ∈ []∨∃ t cs,Blk wc g t cs∧Sp TS t cs:=fun g hg=> .inr (.inr (hz g hg).2)
  have lo5:=h.lo5;have lo93:=h.lo93
  exact { h with
    bel:=h.bel.tr hs (fun x hx=>by rcases(hz x hx).1 with e | e <;> omega)
    bs:=nLT h.bs hs.size
    k0:=h.k0.tr hs (fun hx=>by rcases(hz _ hx).1 with e | e <;> omega)
    k1:=h.k1.tr hs (fun hx=>by rcases(hz _ hx).1 with e | e <;> omega)
    k2:=h.k2.tr hs (fun hx=>by rcases(hz _ hx).1 with e | e <;> omega)
    k3:=h.k3.tr hs (fun hx=>by rcases(hz _ hx).1 with e | e <;> omega)
    k4:=h.k4.tr hs (fun hx=>by rcases(hz _ hx).1 with e | e <;> omega)
    k93:=h.k93.tr hs (fun hx=>by rcases(hz _ hx).1 with e | e <;> omega)
    dt:=h.dt.trX hs hf
    p12:=h.p12.trX hs hf
    p15:=h.p15.trX hs hf }
theorem SmC.tr0 {w wc w1:World} (h:SmC T F R b0 b1 b2 b3 b4 b5 b23 b93 base capt c12 c15 At A12 A15 cr w wc) (hs:Same [] wc w1):SmC T F R b0 b1 b2 b3 b4 b5 b23 b93 base capt c12 c15 At A12 A15 cr w w1:=h.tr hs (by simp)
theorem SmC.add {w wc w1:World} {k cap:Nat} {A:Option Addr} {cs:Array Value} {xs:List Value} (h:SmC T F R b0 b1 b2 b3 b4 b5 b23 b93 base capt c12 c15 At A12 A15 cr w wc) (hS:Same (b5 :: aL A) wc w1) (hb:Blk wc b5 32 cs) (ho:Own wc base 46 9 A k cap xs):SmC T F R b0 b1 b2 b3 b4 b5 b23 b93 base capt c12 c15 At A12 A15 cr w w1:=
  h.tr hS (fun g hg=>by
    rcases List.mem_cons.1 hg with e | hg
    · exact⟨.inl e,_,_,by rw [e];exact hb,.inl dE⟩
    · obtain⟨cs,h⟩:=Qq ho g hg
      exact⟨.inr (ho.lt g hg).1,_,_,h,.inl dE⟩)
variable (T F R b0 b1 b2 b3 b4 b5 b23 b93 base capt c12 c15 At A12 A15 cr)
def SmSt (k:Nat) (lx:List Lx) (w wc:World):Prop:=SmC T F R b0 b1 b2 b3 b4 b5 b23 b93 base capt c12 c15 At A12 A15 cr w wc∧∃ A cap xs nL,Blk wc b5 32 #[.slice At 15 capt,.slice (some ⟨b23,0,none⟩) 5 5,.slice (some ⟨b93,0,none⟩) 6 6,.slice A k cap,.slice none 0 0]∧Own wc base 46 9 A k cap xs∧Fz [] nL TS wc (fun w=>LxData w lx xs)
variable {T F R b0 b1 b2 b3 b4 b5 b23 b93 base capt c12 c15 At A12 A15 cr}
theorem SmSt.tr0 {k:Nat} {lx:List Lx} {w wc w1:World} (h:SmSt T F R b0 b1 b2 b3 b4 b5 b23 b93 base capt c12 c15 At A12 A15 cr k lx w wc) (hs:Same [] wc w1):SmSt T F R b0 b1 b2 b3 b4 b5 b23 b93 base capt c12 c15 At A12 A15 cr k lx w w1:=by
  obtain⟨hC,A,cap,xs,nL,hb5,ho,hL⟩:=h;exact⟨hC.tr0 hs,A,cap,xs,nL,hb5.tr0 hs,ho.tr0 hs,hL.tr0 hs⟩
end st
def starB (g:List Nd):Bool:=(List.range g.length).all (fun i=>decide (i=0) || (List.range i).any (fun j=>(BY g (j:Int)).ln.any (fun x=>decide (x.2=(i:Int)))))
theorem unr_star {g:List Nd} (h:starB g=true):VK g= -1:=by
  refine(Cq (.inl ⟨rfl,?_⟩)).symm;intro i
  induction i using Nat.strongRecOn with
  | ind i ih=>
    intro hi;have h1:=List.all_eq_true.1 h i (List.mem_range.2 hi);by_cases e:i=0
    · subst e;exact .zero
    · simp only [e,decide_false,Bool.false_or] at h1
      obtain⟨j,hj,h2⟩:=List.any_eq_true.1 h1;obtain⟨x,hx,h3⟩:=List.any_eq_true.1 h2;have hji:=List.mem_range.1 hj;have hjl:j < g.length:=by omega
      have hx2:x ∈ (g[j]).ln:=by
        have e2:BY g (j:Int)=g[j]:=by simp [BY,List.getD,hjl]
        rw [e2] at hx;exact hx
      have hr:=Rch.step (ih j hji hjl) hjl hx2;have e3:x.2=(i:Int):=by simpa using h3
      rw [e3] at hr;simpa using hr
def grB (T:List Ty) (F:List Ft) (g:List Nd):Bool:=decide ((vJ T.length F.length g).1=0) && decide (tyF T F g=(0,0)) && starB g
theorem grB_ok {T:List Ty} {F:List Ft} {g:List Nd} (h:grB T F g=true):yV T F g=(0,0):=by
  simp only [grB,Bool.and_eq_true,decide_eq_true_eq] at h;exact C9 h.1.1 h.1.2 (by rw [unr_star h.2];decide)
def tvB (x:Tv):Bool:=decide ((twk x.tm 1 0 0).2.1=0) && (tyv [] x).isSome
theorem Cj {x:Tv} (h:tvB x=true):tmF x.tm=(0,0):=by
  simp only [tvB,Bool.and_eq_true,decide_eq_true_eq] at h;obtain⟨τ,hτ⟩:=Option.isSome_iff_exists.1 h.2;unfold tmF;rw [if_pos h.1,if_pos ⟨x,τ,rfl,hτ⟩]
structure RlS where
  name:ByteArray
  rows:List (List Int)
  kids:Int
  wt:Int
  mean:Tv
def RlS.rl (r:RlS):Rl:=⟨r.name,r.rows.map XY,r.kids,r.wt,r.mean.tm⟩
structure LxS where
  word:ByteArray
  rows:List (List Int)
  wt:Int
  mean:Tv
def LxS.lx (r:LxS):Lx:=⟨r.word,r.rows.map XY,r.wt,r.mean.tm⟩
def RlP (r:RlS) (w:World) (v:Value):Prop:=∃ G c n S cs B cb m,v= .agg #[.string r.name,.slice G r.rows.length c,.int .i64 r.kids,.int .i64 r.wt,.int .i64 r.mean.tm.kind,.string r.mean.tm.name,.int .i64 r.mean.tm.index,.string r.mean.tm.type.base,.slice S r.mean.tm.type.args.length cs,.slice B r.mean.tm.args.length cb]∧Fz [] n TS w (fun w=>NodesIn w G (r.rows.map XY))∧Fz [] m TS w (fun w=>SimsIn w S r.mean.tm.type.args∧TmsIn w B r.mean.tm.args)
theorem RlP.tr0 {r:RlS} {w w1:World} {v:Value} (h:RlP r w v) (hs:Same [] w w1):RlP r w1 v:=by
  obtain⟨G,c,n,S,cs,B,cb,m,e,h1,h2⟩:=h;exact⟨G,c,n,S,cs,B,cb,m,e,h1.tr0 hs,h2.tr0 hs⟩
theorem Fz.rcons {r:RlS} {G S B:Option Addr} {c cs cb n m k:Nat} {l:List Rl} {vs:List Value} {w:World} (hG:Fz [] n TS w (fun w=>NodesIn w G (r.rows.map XY))) (hM:Fz [] m TS w (fun w=>SimsIn w S r.mean.tm.type.args∧TmsIn w B r.mean.tm.args)) (hR:Fz [] k TS w (fun w=>RlCs w l vs)):
    Fz [] w.heap.size TS w (fun w=>RlCs w (r.rl :: l) (.string r.name :: .slice G r.rows.length c :: .int .i64 r.kids :: .int .i64 r.wt :: .int .i64 r.mean.tm.kind :: .string r.mean.tm.name :: .int .i64 r.mean.tm.index :: .string r.mean.tm.type.base :: .slice S r.mean.tm.type.args.length cs :: .slice B r.mean.tm.args.length cb :: vs)):=
  (hG.and (hM.and hR)).imp (fun _ h=>RlCs.cons (r:=r.rl) (by simp [RlS.rl]) h.1 h.2.1.1 h.2.1.2 h.2.2)
def rlB (T:List Ty) (F:List Ft) (r:RlS):Bool:=xj r.name && !decide (Q9 r.rl) && grB T F r.rl.gr && u3 r.rl.gr r.kids && tvB r.mean
theorem IK {T:List Ty} {F:List Ft} {r:RlS} (h:rlB T F r=true):xj r.rl.name=true∧vy T F r.rl=0:=by
  simp only [rlB,Bool.and_eq_true,Bool.not_eq_true',decide_eq_false_iff_not] at h;refine⟨h.1.1.1.1,?_⟩;rw [Rj h.1.1.1.2 (by rw [grB_ok h.1.1.2]) h.1.2];exact congrArg (·.1) (Cj h.2)
theorem I2 {f:Nat→Int}:∀ (m i:Nat),(∀ k,i≤k→k < i + m→f k=0)→x8 f i m=(0,0)
  | 0,_,_=>rfl
  | m + 1,i,h=>by
    rw [x8,if_neg (fun e=>e (h i (Nat.le_refl _) oM))]
    exact I2 m (i + 1) (fun k h1 h2=>h k oM oM)
theorem MJ {f:Nat→Int} {n:Nat} (h:∀ i,i < n→f i=0):x8 f 0 n=(0,0):=I2 n 0 (fun k _ h2=>h k oM)
end Go.Proofs.YtbcpgfnfiekbiaaGreatDoor
namespace Go.Proofs.YtbcpgfnfiekbiaaGreatDoor
open Go.RowKit
theorem in113_DGo:(Tryz.prog.info? 113).map (fun i=>(i.zero,i.size,i.bytes))=some (some (.agg #[.int .i64 0,.slice none 0 0]),2,32):=by kernel_rfl
theorem in115_DGo:(Tryz.prog.info? 115).map (fun i=>(i.zero,i.size,i.bytes))=some (some (.agg #[.int .i64 0,.int .i64 0]),2,16):=by kernel_rfl
theorem PY:(Tryz.prog.info? 111).map (·.size)=some 1:=by kernel_rfl
theorem PW:(Tryz.prog.info? 113).map (·.size)=some 2:=by kernel_rfl
theorem sz115_DGo:(Tryz.prog.info? 115).map (·.size)=some 2:=by kernel_rfl
theorem sz28_DGo:(Tryz.prog.info? 28).map (·.size)=some 1:=by kernel_rfl
theorem qk:(Tryz.prog.info? 3).map (·.size)=some 1:=by kernel_rfl
theorem E8:(Tryz.prog.info? 30).map (·.size)=some 1:=by kernel_rfl
theorem y8:(Tryz.prog.info? 66).map (·.size)=some 1:=by kernel_rfl
theorem Pw:(Tryz.prog.info? 113).map (·.zero)=some (some (.agg #[.int .i64 0,.slice none 0 0])):=by kernel_rfl
theorem ze115_DGo:(Tryz.prog.info? 115).map (·.zero)=some (some (.agg #[.int .i64 0,.int .i64 0])):=by kernel_rfl
theorem T3:(Tryz.prog.info? 30).map (·.zero)=some (some (.agg #[.slice none 0 0])):=by kernel_rfl
set_option maxHeartbeats 2000000 in
theorem o5 (A:Option Addr) (c:Nat) (rs:List (List Int)) (w:World) (hR:RowsIn w A rs):Calls Tryz.prog 21 #[.slice A rs.length c] w fun e w'=>(∃ A' cap,e= .returned (.agg #[.slice A' rs.length cap])∧Fz [] w'.heap.size TS w' (fun w=>NodesIn w A' (rs.map XY)))∧Bel w w':=by
 have hrl:=hR.1;have hrr:=hR.2.1;refine enT Tryz.func21 Tryz.ntmps21 rfl rfl fun hB=>?_;refine zn2 ?_;refine qq (cs:=#[.slice none 0 0]) T3 rfl (fun b2 w1 hb2 s1 hr=>?_);have lo2:=nLT (Bel.size hB) hr;refine zn4 ?_;refine qq (cs:=#[.slice none 0 0]) T3 rfl (fun b3 w2 hb3 s2 hr=>?_);have:=nLL hb2.lt hr;have lo3:=nLT (Bel.size hB.u) hr;refine vq ?_;refine zW (rg [5,6,7] 10 37) (fun m g w'=>∃ (k:Nat) (A3:Option Addr) (cap3:Nat) (xs3:List Value) (n3:Nat),k≤rs.length∧m=rs.length - k∧g 10= .int .i64 k∧Bel w w'∧Blk w' b2 30 #[.slice none 0 0]∧Blk w' b3 30 #[.slice A3 k cap3]∧Own w' (b3 + 1) 113 2 A3 k cap3 xs3∧Fz [] n3 TS1 w' (fun w=>NdData w ((rs.take k).map XY) xs3)) (rs.length) ?_ (fun m g3 w3 hI=>?_)
 ·exact⟨0,none,0,[],_,Nat.zero_le _,rfl,rfl,hB.u,hb2.u,hb3,Own.nil _ _ _ _,Fz.triv [] _ TS1 (fun _=>NdData.nil)⟩
 obtain⟨k,A3,cap3,xs3,n3,hk,hm,h10,hB,hb2,hb3,ho3,hnd⟩:=hI;refine zZ 10 _ h10 nu (zn6 ?_);refine zX rfl (fun c11=>?_) (fun c11=>?_)
 ·have hlt:k < rs.length:=by omega
  have hrk:=hrr _ (List.getElem_mem hlt);obtain⟨rb,ro,Ar,cr,rfl,hrc,hri⟩:=hR.at_ hB hlt;refine zn7 ?_;refine wl (qV (v:= .slice _ _ _) U66 rfl rfl hrc) (zn4 ?_);obtain⟨pb,po,rfl,hpb,hpc⟩:=hri.2 (by intro h;rw [h] at hrk;simp at hrk);have hc0:=hB.cell hpb (hpc 0 hrk.1);obtain⟨z0,hz0⟩:∃ z,z=(rs[k]'hlt)[0]'hrk.1:=⟨_,rfl⟩
  rw [← hz0] at hc0;refine zn2 ?_;refine wl (xk (i:=0) U66 qk rfl rfl oM rfl) (wl (qV (v:= .int _ _) U3 rfl rfl hc0) (wl (ZY (v0:= .int _ _) (fun v0=>#[v0,.slice none 0 0]) rfl kR) ?_));refine xV (cs:=#[.int .i64 0,.slice none 0 0]) Pw rfl (fun _=>rfl) (fun _=>rfl) PW rfl zQ (fun b6 w5 hb6 s3 hr=>?_);have:=nLL hb2.lt hr;have:=nLL hb3.lt hr;have or_ho3_b6:=fun g hg=>nLL (ho3.lt g hg).2 hr
  have or_hnd_b6:=nLT hnd.le hr;have lo6:=nLT (Bel.size hB) hr;refine zn9 ?_;replace ho3:=ho3.tr0 s3;replace hnd:=hnd.tr0 s3;refine zW (rg [7] 18 22) (fun m g w'=>∃ (i j:Nat) (A6:Option Addr) (cap6:Nat) (ls6:List (Int×Int)),1≤i∧j≤i∧i≤(rs[k]'hlt).length + 1∧m=(rs[k]'hlt).length + 2 - i∧g 7= .int .i64 i∧Qy ((rs[k]'hlt).drop 1)=ls6 ++ Qy ((rs[k]'hlt).drop i)∧Bel w w'∧Blk w' b2 30 #[.slice none 0 0]∧Blk w' b3 30 #[.slice A3 k cap3]∧Own w' (b3 + 1) 113 2 A3 k cap3 xs3∧Blk w' b6 113 #[.int .i64 z0,.slice A6 j cap6]∧Own w' (b6 + 1) 115 2 A6 j cap6 (lnC ls6)∧Fz [] n3 TS1 w' (fun w=>NdData w ((rs.take k).map XY) xs3)) ((rs[k]'hlt).length + 1) ?_ (fun m g7 w6 hI=>?_)
  ·exact⟨1,0,none,0,[],Nat.le_refl _,Nat.zero_le _,by omega,rfl,rfl,rfl,hB.u,hb2.u,hb3.u,ho3,hb6,Own.nil _ _ _ _,hnd⟩
  obtain⟨i,j,A6,cap6,ls6,hi1,hji,hil,hm7,h7,hpr,hB,hb2,hb3,ho3,hb6,ho6,hnd⟩:=hI;refine zZ 7 _ h7 nu (zn4 ?_);refine wl (Z9 (c:=((i + 1:Nat):Int)) rfl rfl rfl oM) (zn5 ?_);refine zX rfl (fun c22=>?_) (fun c22=>?_)
  ·have hi0:i < (rs[k]'hlt).length:=by omega
   have hi2:i + 1 < (rs[k]'hlt).length:=by omega
   have hca:=hB.cell hpb (hpc i hi0);have hcb:=hB.cell hpb (hpc (i + 1) hi2);obtain⟨za,hza⟩:∃ z,z=(rs[k]'hlt)[i]'hi0:=⟨_,rfl⟩
   obtain⟨zb,hzb⟩:∃ z,z=(rs[k]'hlt)[i + 1]'hi2:=⟨_,rfl⟩
   rw [← hza] at hca;rw [← hzb] at hcb;have hpr2:Qy ((rs[k]'hlt).drop 1)=(ls6 ++ [(za,zb)]) ++ Qy ((rs[k]'hlt).drop (i + 2)):=by rw [hpr,L6 hi2,← hza,← hzb,List.append_assoc];rfl
   refine zn4 ?_;have z2:=hb2.lt;have z3:=hb3.lt;have z6:=hb6.lt;have zo3:=fun g hg=>(ho3.lt g hg).2
   have zo6:=fun g hg=>(ho6.lt g hg).2
   have hsz:=Bel.size hB;replace hca:=fun(w1:World) (h:Bel w6 w1)=>h.cell (nLL hpb hsz) hca
   replace hcb:=fun(w1:World) (h:Bel w6 w1)=>h.cell (nLL hpb hsz) hcb
   refine kK 13 (rg [] 25 13) (fun ix=>Nat.beq ix 12) (fun ix v wv=>match ix with | 0=>v= .pointer (some ⟨b6,1,none⟩) | 1=>v= .slice A6 j cap6 | 2=>v= .slice (some ⟨pb,po,none⟩) (rs[k]'hlt).length cr | 3=>v= .int .i64 i | 4=>v= .pointer (some ⟨pb,po + i * 1,none⟩) | 5=>v= .int .i64 za | 6=>v= .slice (some ⟨pb,po,none⟩) (rs[k]'hlt).length cr | 7=>v= .int .i64 i | 8=>v= .int .i64 ((i + 1:Nat):Int) | 9=>v= .pointer (some ⟨pb,po + (i + 1) * 1,none⟩) | 10=>v= .int .i64 zb | 11=>v= .agg #[.int .i64 za,.int .i64 zb] | 12=>∃ b,v= .slice (some ⟨b,0,none⟩) 1 1∧w6.heap.size≤b∧Blk wv b 115 #[.int .i64 za,.int .i64 zb] | _=>True) kR kR ?_ ?_ ?_
   ·intro ix v wv wv2 h s4
    match ix,h with
    | 0,h=>exact h
    | 1,h=>exact h
    | 2,h=>exact h
    | 3,h=>exact h
    | 4,h=>exact h
    | 5,h=>exact h
    | 6,h=>exact h
    | 7,h=>exact h
    | 8,h=>exact h
    | 9,h=>exact h
    | 10,h=>exact h
    | 11,h=>exact h
    | 12,h=>
     obtain⟨b37,e37,lo37,hb37⟩:=h;exact⟨b37,e37,lo37,hb37.tr0 s4⟩
    | _ + 13,h=>exact trivial
   ·intro ix o hix hoq gg wx s5 hd hdis
    match ix,hix,hoq with
    | 0,_,hoq=>
     cases sI hoq;exact oVq (X2 I9 PY dE rfl rfl rfl) rfl
    | 1,_,hoq=>
     cases sI hoq;refine zx 25 _ (hd 0 (zj kR)) nu ?_;exact oVq (qV (v:= .slice _ _ _) u7 rfl rfl (hb6.u.cell rfl)) rfl
    | 2,_,hoq=>
     cases sI hoq;exact oVq (yq (v:= .slice _ _ _) rfl) rfl
    | 3,_,hoq=>
     cases sI hoq;exact oVq (yq (v:= .int _ _) rfl) rfl
    | 4,_,hoq=>
     cases sI hoq;refine zx 27 _ (hd 2 (zj kR)) nu (zx 28 _ (hd 3 (zj kR)) nu ?_);exact oVq (xk (i:=i) U66 qk rfl rfl oM rfl) rfl
    | 5,_,hoq=>
     cases sI hoq;have hs0:=s5;refine zx 29 _ (hd 4 (zj kR)) nu ?_;exact oVq (qV (v:= .int _ _) U3 rfl rfl (hca _ hs0.bel)) rfl
    | 6,_,hoq=>
     cases sI hoq;exact oVq (yq (v:= .slice _ _ _) rfl) rfl
    | 7,_,hoq=>
     cases sI hoq;exact oVq (yq (v:= .int _ _) rfl) rfl
    | 8,_,hoq=>
     cases sI hoq;refine zx 32 _ (hd 7 (zj kR)) nu ?_;exact oVq (Z9 (c:=((i + 1:Nat):Int)) rfl rfl rfl oM) rfl
    | 9,_,hoq=>
     cases sI hoq;refine zx 31 _ (hd 6 (zj kR)) nu (zx 33 _ (hd 8 (zj kR)) nu ?_);exact oVq (xk (i:=i + 1) U66 qk rfl rfl oM rfl) rfl
    | 10,_,hoq=>
     cases sI hoq;have hs0:=s5;refine zx 34 _ (hd 9 (zj kR)) nu ?_;exact oVq (qV (v:= .int _ _) U3 rfl rfl (hcb _ hs0.bel)) rfl
    | 11,_,hoq=>
     cases sI hoq;refine zx 30 _ (hd 5 (zj kR)) nu (zx 35 _ (hd 10 (zj kR)) nu ?_);exact oVq (xY (v0:= .int _ _) (v1:= .int _ _) (fun v0 v1=>#[v0,v1]) rfl rfl kR) rfl
    | 12,_,hoq=>
     cases sI hoq;have hs0:=s5;refine zx 36 _ (hd 11 (zj kR)) nu ?_;refine jk (fun ops Q K=>?_);refine qw (cs:=#[_,_]) [(0,.agg _)] rfl u7 sz115_DGo ze115_DGo dE dE kR rfl (fun b37 w7 hb37 s6 hr=>?_);exact K _ _ ⟨s6,⟨_,rfl,nLT hs0.size hr,hb37⟩,fRq hr hb37.lt⟩
    | _ + 13,hix,_=>exact absurd hix oM
   intro gg w8 s7 hR hdis;have hs0:=s7;obtain⟨b37,e37,lo37,hb37⟩:=hR 12 dE;have hsm:_≤w8.heap.size:=hs0.size;refine xK 26 _ (hR 1 dE) nu (xK 37 _ e37 nu ?_);replace ho6:=ho6.tr0 s7;refine vX u7 in115_DGo rfl dE ho6 hb37 rfl rfl rfl zQ dE oM oM (nLT z6 hsm) (fun g38 cap38 w9 ho38 s8 hg=>?_);have ne_ho38_b2:g38≠b2:=neA ho6 hb2.u.lt hg
   have ne_ho38_b3:g38≠b3:=neA ho6 hb3.u.lt hg
   have ne_ho38_b6:g38≠b6:=neA ho6 hb6.u.lt hg
   replace hB:=hB.u.tr s8 (fun g hg=>nLT (Nat.le_succ_of_le lo6) (ho6.lt g hg).1);replace hb2:=hb2.tr0 s7;replace hb2:=hb2.ta s8 ho6;replace hb3:=hb3.tr0 s7;replace hb3:=hb3.ta s8 ho6;replace ho3:=ho3.tr0 s7;replace ho3:=ho3.tr s8 (fun g hg hx=>by have:=(ho6.lt _ hx).1;have:=(ho3.lt _ hg).1;(try have:=or_ho3_b2 _ hg);(try have:=or_ho6_b2 _ hx);(try have:=or_ho3_b3 _ hg);(try have:=or_ho6_b3 _ hx);(try have:=or_ho3_b6 _ hg);(try have:=or_ho6_b6 _ hx);(try have:=or_ho3_b37 _ hg);(try have:=or_ho6_b37 _ hx);omega);replace hnd:=hnd.tr0 s7;replace hnd:=hnd.trX s8 (fun g hg=> .inl (by have:=(ho6.lt g hg).1;omega));replace hb6:=hb6.tr0 s7;replace hb6:=hb6.ta s8 ho6;refine zn1 ?_;refine xz (v:= .slice _ _ _) hb6 rfl rfl PY (by first | decide | simp) rfl rfl (fun w10 hq s9=>?_);replace ho3:=ho3.tr1 s9 (neL or_ho3_b6);replace hnd:=hnd.sp1 s9 hb6 (.inl dE);replace ho38:=ho38.tr1 s9 (neS ne_ho38_b6);replace hb6:=hq;refine zn5 ?_;refine wl (Z9 (c:=((i + 2:Nat):Int)) rfl rfl rfl oM) (zn2 ?_);refine xv ((rs[k]'hlt).length + 2 - (i + 2)) oM agA ?_;replace hB:=hB.tr1 s9 lo6;replace hb2:=hb2.tr1 s9 oM;replace hb3:=hb3.tr1 s9 oM;exact⟨i + 2,j + 1,_,_,ls6 ++ [(za,zb)],by omega,by omega,by omega,rfl,rfl,hpr2,hB,hb2,hb3,ho3,hb6,by rw [← lnC_snoc];exact ho38,hnd⟩
  have hls:Qy ((rs[k]'hlt).drop 1)=ls6:=by rw [hpr,pairs_end oM,List.append_nil]
  have hrow:XY (rs[k]'hlt)=⟨z0,ls6⟩:=by
    unfold XY;rw [hls,hz0];simp [List.getD,hrk.1]
  have htk:(rs.take (k + 1)).map XY=(rs.take k).map XY ++ [⟨z0,ls6⟩]:=by rw [Zv rs hlt,List.map_append,List.map_cons,List.map_nil,hrow]
  refine zn9 ?_;refine qw (cs:=#[_,_]) [(0,.agg _)] rfl U28 PW Pw dE dE kR rfl (fun b43 w11 hb43 s10 hr=>?_);have:=nLL hb2.lt hr;have:=nLL hb3.lt hr;have or_ho3_b43:=fun g hg=>nLL (ho3.lt g hg).2 hr
  have or_hnd_b43:=nLT hnd.le hr;have:=nLL hb6.lt hr;have or_ho6_b43:=fun g hg=>nLL (ho6.lt g hg).2 hr
  have lo43:=nLT (Bel.size hB) hr;replace ho3:=ho3.tr0 s10;refine vX U28 in113_DGo rfl dE ho3 hb43 rfl rfl rfl zQ dE oM oM hb3.u.lt (fun g44 cap44 w12 ho44 s11 hg=>?_);have ne_ho44_b2:g44≠b2:=neA ho3 hb2.u.lt hg
  have ne_ho44_b3:g44≠b3:=neA ho3 hb3.u.lt hg
  have ne_ho44_b6:g44≠b6:=neB hb6.u.lt hg (neL or_ho3_b6)
  replace hB:=hB.u.tr s11 (fun g hg=>nLT (Nat.le_succ_of_le lo3) (ho3.lt g hg).1);replace hb2:=hb2.tr0 s10;replace hb2:=hb2.ta s11 ho3;replace hb3:=hb3.tr0 s10;replace hb3:=hb3.ta s11 ho3;replace hnd:=hnd.tr0 s10;replace hnd:=hnd.trX s11 (fun g hg=>by obtain⟨cs,h⟩:=Qq ho3 g hg;exact .inr (.inr ⟨_,_,h,.inl dE⟩));replace ho6:=ho6.tr0 s10;replace ho6:=ho6.tr s11 (fun g hg hx=>by have:=(ho3.lt _ hx).1;have:=(ho6.lt _ hg).1;(try have:=or_ho6_b2 _ hg);(try have:=or_ho3_b2 _ hx);(try have:=or_ho6_b3 _ hg);(try have:=or_ho3_b3 _ hx);(try have:=or_ho6_b6 _ hg);(try have:=or_ho3_b6 _ hx);(try have:=or_ho6_b43 _ hg);(try have:=or_ho3_b43 _ hx);omega);have hnd2:=gof_more (z:=z0) ho6 hnd;refine zn1 ?_;refine xz (v:= .slice _ _ _) hb3 rfl rfl sz28_DGo (by first | decide | simp) rfl rfl (fun w13 hq s12=>?_);replace ho44:=ho44.tr1 s12 (neS ne_ho44_b3);replace hnd2:=hnd2.sp1 s12 hb3 (.inl dE);replace hb3:=hq;refine zn7 ?_;refine xv (rs.length - (k + 1)) oM agA ?_;replace hB:=hB.tr1 s12 lo3;replace hb2:=hb2.tr1 s12 oM;exact⟨k + 1,_,_,_,_,by omega,rfl,rfl,hB,hb2,hb3,ho44,by rw [htk];exact hnd2⟩
 have hkl:k=rs.length:=by omega
 subst hkl;rw [List.take_length] at hnd;refine zn8 ?_;refine zk hb2 rfl rfl E8 rfl zQ (fun w14 hq s13=>?_);replace ho3:=ho3.tq s13;replace hnd:=hnd.sp1 s13 hb2 (.inl dE);replace hb2:=hq;refine zn3 ?_;refine x7 (.inl rfl) rfl (zy U30 rfl rfl hb2.range0 E8) ?_;exact⟨⟨_,_,rfl,gof_end ho3 hnd⟩,hB.u⟩
end Go.Proofs.YtbcpgfnfiekbiaaGreatDoor
namespace Go.Proofs.YtbcpgfnfiekbiaaGreatDoor
open Go.RowKit
theorem W6:zK Tryz.prog 21=true:=by kernel_rfl
theorem in46:(Tryz.prog.info? 46).map (fun i=>(i.zero,i.size,i.bytes))=some (some (.agg #[.string ⟨#[]⟩,.slice none 0 0,.int .i64 0,.int .i64 0,.string ⟨#[]⟩,.int .i64 0,.string ⟨#[]⟩,.slice none 0 0,.slice none 0 0]),9,144):=by kernel_rfl
theorem TJ:(Tryz.prog.info? 27).map (·.size)=some 1:=by kernel_rfl
theorem kj:(Tryz.prog.info? 44).map (·.size)=some 6:=by kernel_rfl
theorem sz46_DAd:(Tryz.prog.info? 46).map (·.size)=some 9:=by kernel_rfl
theorem ze46_DAd:(Tryz.prog.info? 46).map (·.zero)=some (some (.agg #[.string ⟨#[]⟩,.slice none 0 0,.int .i64 0,.int .i64 0,.string ⟨#[]⟩,.int .i64 0,.string ⟨#[]⟩,.slice none 0 0,.slice none 0 0])):=by kernel_rfl
set_option maxHeartbeats 1000000 in
theorem uQ (s:ByteArray) (z:Int) (x:Tv) (SA BA R A:Option Addr) (cs cb:Nat) (rs:List (List Int)) (c bG base k cap nT nL:Nat) (c0 c1 c2 c4:Value) (xs:List Value) (lx:List Lx) (w:World) (hs9:s.size < 9223372036854775807) (hR:RowsIn w R rs) (hT:Fz [] nT TS w (fun w=>SimsIn w SA x.tm.type.args∧TmsIn w BA x.tm.args)) (hbG:Blk w bG 32 #[c0,c1,c2,.slice A k cap,c4]) (ho:Own w base 46 9 A k cap xs) (hL:Fz [] nL TS w (fun w=>LxData w lx xs)) (hbase:base≤w.heap.size) (hbl:bG < base) (hk:k≤1000):Calls Tryz.prog 22 #[.string s,.int .i64 z,.agg #[.int .i64 (x).tm.kind,.string (x).tm.name,.int .i64 (x).tm.index,.string (x).tm.type.base,.slice SA (x).tm.type.args.length cs,.slice BA (x).tm.args.length cb],.slice R rs.length c,.pointer (some ⟨bG,0,none⟩)] w (fun e w'=>e= .returned (.tuple #[])∧∃ A' cap' xs',Blk w' bG 32 #[c0,c1,c2,.slice A' (k + 1) cap',c4]∧Own w' base 46 9 A' (k + 1) cap' xs'∧Fz [] w'.heap.size TS w' (fun w=>LxData w (lx ++ [⟨s,rs.map XY,z,x.tm⟩]) xs')∧Same (bG :: aL A) w w'∧(aL A'=aL A∨∀ g ∈ aL A',w.heap.size≤g)):=by
 refine enT Tryz.func22 Tryz.ntmps22 rfl rfl fun hB=>?_;refine zn2 ?_;refine x6 (v:= .agg #[_,_,_,_,_,_]) (cs:=#[_,_,_,_,_,_]) rfl rfl (fun b7 w1 hb7 s1 hr=>?_);have or_ho_b7:=fun g hg=>nLL (ho.lt g hg).2 hr
 refine zJ (e_S ?_);replace hbG:=hbG.tr0 s1;have zG:=hbG.lt;replace ho:=ho.tr0 s1;have zo:=fun g hg=>(ho.lt g hg).2
 replace hB:=hB.tr0 s1;have hsz:=Bel.size hB;have hrs:=hR.1;refine kK 9 (rg [] 9 9) (fun ix=>Nat.beq ix 8) (fun ix v wv=>match ix with | 0=>v= .pointer (some ⟨bG,3,none⟩) | 1=>v= .slice A k cap | 2=>v= .string s | 3=>v= .int .i64 z | 4=>v= .agg #[.int .i64 (x).tm.kind,.string (x).tm.name,.int .i64 (x).tm.index,.string (x).tm.type.base,.slice SA (x).tm.type.args.length cs,.slice BA (x).tm.args.length cb] | 5=>v= .slice R rs.length c | 6=>∃ G g n,v= .agg #[.slice G rs.length g]∧Fz [] n TS wv (fun w=>NodesIn w G (rs.map XY)) | 7=>∃ G g n,v= .agg #[.string s,.slice G rs.length g,.int .i64 z,.int .i64 (x).tm.kind,.string (x).tm.name,.int .i64 (x).tm.index,.string (x).tm.type.base,.slice SA (x).tm.type.args.length cs,.slice BA (x).tm.args.length cb]∧Fz [] n TS wv (fun w=>NodesIn w G (rs.map XY)) | 8=>∃ b G g n,v= .slice (some ⟨b,0,none⟩) 1 1∧w1.heap.size≤b∧Blk wv b 46 #[.string s,.slice G rs.length g,.int .i64 z,.int .i64 (x).tm.kind,.string (x).tm.name,.int .i64 (x).tm.index,.string (x).tm.type.base,.slice SA (x).tm.type.args.length cs,.slice BA (x).tm.args.length cb]∧Fz [] n TS wv (fun w=>NodesIn w G (rs.map XY)) | _=>True) kR kR ?_ ?_ ?_
 ·intro ix v wv wv2 h s2
  match ix,h with
  | 0,h=>exact h
  | 1,h=>exact h
  | 2,h=>exact h
  | 3,h=>exact h
  | 4,h=>exact h
  | 5,h=>exact h
  | 6,h=>
   obtain⟨G15,g15,n15,e15,hz15⟩:=h;exact⟨G15,g15,n15,e15,hz15.tr0 s2⟩
  | 7,h=>
   obtain⟨G16,g16,n16,e16,hz16⟩:=h;exact⟨G16,g16,n16,e16,hz16.tr0 s2⟩
  | 8,h=>
   obtain⟨b17,G17,g17,n17,e17,lo17,hb17,hz17⟩:=h;exact⟨b17,G17,g17,n17,e17,lo17,hb17.tr0 s2,hz17.tr0 s2⟩
  | _ + 9,h=>exact trivial
 ·intro ix o hix hoq gg wx s3 hd hdis
  match ix,hix,hoq with
  | 0,_,hoq=>
   cases sI hoq;exact oVq (X2 U32 TJ dE rfl rfl rfl) rfl
  | 1,_,hoq=>
   cases sI hoq;refine zx 9 _ (hd 0 (zj kR)) nu ?_;exact oVq (qV (v:= .slice _ _ _) U27 rfl rfl (hbG.u.cell rfl)) rfl
  | 2,_,hoq=>
   cases sI hoq;exact oVq (yq (v:= .string _) rfl) rfl
  | 3,_,hoq=>
   cases sI hoq;exact oVq (yq (v:= .int _ _) rfl) rfl
  | 4,_,hoq=>
   cases sI hoq;exact oVq (zY U44 rfl rfl hb7.u.range0 kj) rfl
  | 5,_,hoq=>
   cases sI hoq;exact oVq (yq (v:= .slice _ _ _) rfl) rfl
  | 6,_,hoq=>
   cases sI hoq;refine zx 14 _ (hd 5 (zj kR)) nu ?_;refine vQ W6 (o5 _ _ _ wx (hR.mono hB.u)) rfl (fun e' w2 hr=>?_);obtain⟨⟨G9,g9,rfl,hz9⟩,s4⟩:=hr;exact⟨_,rfl,sB s4,⟨G9,g9,_,rfl,hz9⟩,xX⟩
  | 7,_,hoq=>
   cases sI hoq;obtain⟨G15,g15,n15,e15,hz15⟩:=hd 6 (zj kR);refine zx 11 _ (hd 2 (zj kR)) nu (zx 12 _ (hd 3 (zj kR)) nu (zx 13 _ (hd 4 (zj kR)) nu (zx 15 _ e15 nu ?_)));exact oVq (r_bd4 (v0:= .string _) (v1:= .int _ _) (v2:= .agg _) (v3:= .agg _) (fun v0 v1 v2 v3=>#[v0,(qx v3 0),v1,(qx v2 0),(qx v2 1),(qx v2 2),(qx v2 3),(qx v2 4),(qx v2 5)]) rfl rfl rfl rfl kR) ⟨G15,g15,n15,rfl,hz15⟩
  | 8,_,hoq=>
   cases sI hoq;have hs0:=s3;obtain⟨G16,g16,n16,e16,hz16⟩:=hd 7 (zj kR);refine zx 16 _ e16 nu ?_;refine jk (fun ops Q K=>?_);refine qw (cs:=#[_,_,_,_,_,_,_,_,_]) [(0,.agg _)] rfl U27 sz46_DAd ze46_DAd dE dE kR rfl (fun b17 w2 hb17 s5 hr=>?_);exact K _ _ ⟨s5,⟨_,G16,g16,n16,rfl,nLT hs0.size hr,hb17,hz16.tr0 s5⟩,fRq hr hb17.lt⟩
  | _ + 9,hix,_=>exact absurd hix oM
 intro gg w3 s6 hR hdis;obtain⟨b17,G17,g17,n17,e17,lo17,hb17,hz17⟩:=hR 8 dE;have hbs:base≤w3.heap.size:=nLT hbase (Bel.size hB.u);replace hB:=hB.tr0 s6;have hS0:=(sB hB).weak (Y:=bG :: aL A) (by simp);have hsz2:=Bel.size hB;refine xK 10 _ (hR 1 dE) nu (xK 17 _ e17 nu ?_);replace ho:=ho.tr0 s6;refine vX U27 in46 rfl dE ho hb17 rfl rfl rfl zQ dE oM oM hbs (fun g18 cap18 w4 ho18 s7 hg=>?_);have ne_ho18_bG:g18≠bG:=neA ho hbG.u.lt hg
 have ne_ho18_b7:g18≠b7:=neB hb7.u.lt hg (neL or_ho_b7)
 replace hbG:=hbG.tr0 s6;replace hbG:=hbG.ta s7 ho;replace hT:=hT.tr0 (s1.trans s6);replace hT:=hT.trX s7 (fun g hg=>by obtain⟨cs,h⟩:=Qq ho g hg;exact .inr (.inr ⟨_,_,h,.inl dE⟩));replace hL:=hL.tr0 (s1.trans s6);replace hL:=hL.trX s7 (fun g hg=>by obtain⟨cs,h⟩:=Qq ho g hg;exact .inr (.inr ⟨_,_,h,.inl dE⟩));replace hz17:=hz17.trX s7 (fun g hg=>by obtain⟨cs,h⟩:=Qq ho g hg;exact .inr (.inr ⟨_,_,h,.inl dE⟩));have hS:=hS0.trans (s7.weak (fun x hx=>List.mem_cons_of_mem _ hx));refine zn1 ?_;refine xz (v:= .slice _ _ _) hbG rfl rfl TJ (by first | decide | simp) rfl rfl (fun w5 hq s8=>?_);replace hT:=hT.sp1 s8 hbG (.inl dE);replace hL:=hL.sp1 s8 hbG (.inl dE);replace hz17:=hz17.sp1 s8 hbG (.inl dE);replace ho18:=ho18.tr1 s8 (neS ne_ho18_bG);replace hS:=hS.trans (s8.weak (by simp));replace hbG:=hq;refine zJ (fin0 (.inr rfl) rfl  ?_);refine⟨rfl,_,_,_,hbG,ho18,(hL.and (hT.and hz17)).imp (fun _ h=>LxData.snoc (x:=⟨s,rs.map XY,z,x.tm⟩) h.1 hs9 (List.length_map _).symm h.2.2 h.2.1.1 h.2.1.2),hS,?_⟩;rcases hg with hg | hg
 · left;rw [hg];rfl
 · right;intro g hgm;cases List.mem_singleton.1 hgm;exact nLT hsz2 hg
end Go.Proofs.YtbcpgfnfiekbiaaGreatDoor
namespace Go.Proofs.YtbcpgfnfiekbiaaGreatDoor
open Go.RowKit
theorem in110:(Tryz.prog.info? 110).map (fun i=>(i.zero,i.size,i.bytes))=some (some (.agg #[.string ⟨#[]⟩,.slice none 0 0]),2,40):=by kernel_rfl
theorem Iv:(Tryz.prog.info? 110).map (·.size)=some 2:=by kernel_rfl
theorem TK:(Tryz.prog.info? 22).map (·.size)=some 1:=by kernel_rfl
theorem sz23_DHo:(Tryz.prog.info? 23).map (·.size)=some 1:=by kernel_rfl
theorem E9:(Tryz.prog.info? 25).map (·.size)=some 2:=by kernel_rfl
theorem Cw:(Tryz.prog.info? 3).map (·.size)=some 1:=by kernel_rfl
theorem TZ:(Tryz.prog.info? 66).map (·.size)=some 1:=by kernel_rfl
theorem sz9_DHo:(Tryz.prog.info? 9).map (·.size)=some 1:=by kernel_rfl
theorem Iz:(Tryz.prog.info? 110).map (·.zero)=some (some (.agg #[.string ⟨#[]⟩,.slice none 0 0])):=by kernel_rfl
theorem T5:(Tryz.prog.info? 25).map (·.zero)=some (some (.agg #[.slice none 0 0,.slice none 0 0])):=by kernel_rfl
theorem qj:(Tryz.prog.info? 3).map (·.zero)=some (some (.int .i64 0)):=by kernel_rfl
set_option maxHeartbeats 1000000 in
theorem P9 (A B C:Option Addr) (c d mC f:Nat) (ns:List ByteArray) (ps:List Int) (w:World) (hN:StrsD w A ns) (hP:IntsIn w B ps) (hl:ns.length≤1000) (hpl:ps.length=ns.length):Calls Tryz.prog 19 #[.slice A ns.length c,.slice B ps.length d,.slice C mC f] w fun e w'=>(∃ A' cap,e= .returned (.agg #[.slice A' ns.length cap,.slice C mC f])∧Fz [] w'.heap.size TS w' (fun w=>TypesIn w A' (XW ns ps ns.length)))∧Bel w w':=by
 refine enT Tryz.func19 Tryz.ntmps19 rfl rfl fun hB=>?_;refine zn2 ?_;refine qq (cs:=#[.slice none 0 0,.slice none 0 0]) T5 rfl (fun b6 w1 hb6 s1 hr=>?_);have lo6:=nLT (Bel.size hB) hr;refine zn4 ?_;refine qq (cs:=#[.slice none 0 0,.slice none 0 0]) T5 rfl (fun b7 w2 hb7 s2 hr=>?_);have:=nLL hb6.lt hr;have lo7:=nLT (Bel.size hB.u) hr;refine vq ?_;refine zW (rg [8,9,10] 13 22) (fun m g w'=>∃ (k:Nat) (A7:Option Addr) (cap7:Nat) (cs:List Value) (n7:Nat),k≤ns.length∧m=ns.length - k∧g 13= .int .i64 k∧Bel w w'∧Blk w' b6 25 #[.slice none 0 0,.slice none 0 0]∧Blk w' b7 25 #[.slice A7 k cap7,.slice none 0 0]∧Own w' (b7 + 1) 110 2 A7 k cap7 cs∧Fz [] n7 TS2 w' (fun w=>TyData w (XW ns ps k) cs)) (ns.length) ?_ (fun m g3 w3 hI=>?_)
 ·exact⟨0,none,0,[],_,Nat.zero_le _,rfl,rfl,hB.u,hb6.u,hb7,Own.nil _ _ _ _,Fz.triv [] _ TS2 (fun _=>TyData.nil)⟩
 obtain⟨k,A7,cap7,cs,n7,hk,hm,h13,hB,hb6,hb7,ho7,hty⟩:=hI;refine zZ 13 _ h13 nu (zn6 ?_);refine zX rfl (fun c14=>?_) (fun c14=>?_)
 ·have hlt:k < ns.length:=by omega
  have hlp:k < ps.length:=by omega
  obtain⟨nb,no,rfl,hnc⟩:=hN.at_ hB hlt;obtain⟨pb,po,rfl,hpb,hpc⟩:=hP.at_ hlp;refine zn8 ?_;refine wl (qV (v:= .string _) U9 rfl rfl hnc) (zn7 ?_);refine wl (ZY (v0:= .string _) (fun v0=>#[v0,.slice none 0 0]) rfl kR) ?_;refine xV (cs:=#[.string ⟨#[]⟩,.slice none 0 0]) Iz rfl (fun _=>rfl) (fun _=>rfl) Iv rfl zQ (fun b10 w5 hb10 s3 hr=>?_);have:=nLL hb6.lt hr;have:=nLL hb7.lt hr;have or_ho7_b10:=fun g hg=>nLL (ho7.lt g hg).2 hr
  have lo10:=nLT (Bel.size hB) hr;refine zn9 ?_;replace ho7:=ho7.tr0 s3;replace hty:=hty.tr0 s3;refine zX rfl (fun c21=>?_) (fun c21=>?_)
  ·refine zn4 ?_;refine wl (qV (v:= .int _ _) U3 rfl rfl (hB.u.cell hpb hpc)) ?_;refine qw (cs:=#[_]) [(0,.int _ _)] rfl U66 Cw qj dE dE kR rfl (fun b26 w6 hb26 s4 hr=>?_);have:=nLL hb7.u.lt hr;have or_ho7_b26:=fun g hg=>nLL (ho7.lt g hg).2 hr
   have:=nLL hb10.lt hr;refine zn1 ?_;replace hb10:=hb10.tr0 s4;refine xz (v:= .slice _ _ _) hb10 rfl rfl TZ (by first | decide | simp) rfl rfl (fun w7 hq s5=>?_);replace ho7:=ho7.tr0 s4;replace ho7:=ho7.tr1 s5 (neL or_ho7_b10);replace hty:=hty.tr0 s4;replace hty:=hty.sp1 s5 hb10 (.inl dE);replace hb10:=hq;refine zn6 ?_;refine qw (cs:=#[_,_]) [(0,.agg _)] rfl U22 Iv Iz dE dE kR rfl (fun b31 w8 hb31 s6 hr=>?_);have:=nLL hb6.u.lt hr;have:=nLL hb7.u.lt hr;have:=nLL hb26.u.lt hr;replace ho7:=ho7.tr0 s6;refine vX U22 in110 rfl dE ho7 hb31 rfl rfl rfl zQ dE oM oM hb7.u.lt (fun g32 cap32 w9 ho32 s7 hg=>?_);have ne_ho32_b6:g32≠b6:=neA ho7 hb6.u.lt hg
   have ne_ho32_b7:g32≠b7:=neA ho7 hb7.u.lt hg
   have ne_ho32_b10:g32≠b10:=neB hb10.u.lt hg (neL or_ho7_b10)
   have ne_ho32_b26:g32≠b26:=neB hb26.u.lt hg (neL or_ho7_b26)
   replace hB:=hB.u.tr s7 (fun g hg=>nLT (Nat.le_succ_of_le lo7) (ho7.lt g hg).1);replace hb6:=((hb6.tr0 (s3.trans s4)).tr1 s5 oM).tr0 s6;replace hb6:=hb6.ta s7 ho7;replace hb7:=((hb7.tr0 (s3.trans s4)).tr1 s5 oM).tr0 s6;replace hb7:=hb7.ta s7 ho7;replace hty:=hty.tr0 s6;replace hty:=hty.trX s7 (fun g hg=>by obtain⟨cs,h⟩:=Qq ho7 g hg;exact .inr (.inr ⟨_,_,h,.inl dE⟩));replace hb26:=(hb26.tr1 s5 oM).tr0 s6;replace hb26:=hb26.tb s7 (neL or_ho7_b26);have hty2:=(by first | exact hof_pos hty hlt hlp oM hb26 | exact FW hty hlt oM:Fz [] (w9).heap.size TS2 w9 (fun w=>TyData w (XW ns ps (k + 1)) (cs ++ _)))
   refine zn1 ?_;refine xz (v:= .slice _ _ _) hb7 rfl rfl TK (by first | decide | simp) rfl rfl (fun w10 hq s8=>?_);replace ho32:=ho32.tr1 s8 (neS ne_ho32_b7);replace hty2:=hty2.sp1 s8 hb7 (.inl dE);replace hb7:=hq;refine zn7 ?_;refine xv (ns.length - (k + 1)) oM agA ?_;exact⟨k + 1,_,_,_,_,by omega,rfl,rfl,hB.u,hb6.u,hb7,ho32,hty2⟩
  refine zn6 ?_;refine qw (cs:=#[_,_]) [(0,.agg _)] rfl U22 Iv Iz dE dE kR rfl (fun b31 w11 hb31 s9 hr=>?_);have:=nLL hb6.u.lt hr;have:=nLL hb7.u.lt hr;replace ho7:=ho7.tr0 s9;refine vX U22 in110 rfl dE ho7 hb31 rfl rfl rfl zQ dE oM oM hb7.u.lt (fun g32 cap32 w12 ho32 s10 hg=>?_);have ne_ho32_b6:g32≠b6:=neA ho7 hb6.u.lt hg
  have ne_ho32_b7:g32≠b7:=neA ho7 hb7.u.lt hg
  have ne_ho32_b10:g32≠b10:=neB hb10.u.lt hg (neL or_ho7_b10)
  replace hB:=hB.u.tr s10 (fun g hg=>nLT (Nat.le_succ_of_le lo7) (ho7.lt g hg).1);replace hb6:=hb6.tr0 (s3.trans s9);replace hb6:=hb6.ta s10 ho7;replace hb7:=hb7.tr0 (s3.trans s9);replace hb7:=hb7.ta s10 ho7;replace hty:=hty.tr0 s9;replace hty:=hty.trX s10 (fun g hg=>by obtain⟨cs,h⟩:=Qq ho7 g hg;exact .inr (.inr ⟨_,_,h,.inl dE⟩));have hty2:=(by first | exact hof_pos hty hlt hlp oM hb26 | exact FW hty hlt oM:Fz [] (w12).heap.size TS2 w12 (fun w=>TyData w (XW ns ps (k + 1)) (cs ++ _)))
  refine zn1 ?_;refine xz (v:= .slice _ _ _) hb7 rfl rfl TK (by first | decide | simp) rfl rfl (fun w13 hq s11=>?_);replace ho32:=ho32.tr1 s11 (neS ne_ho32_b7);replace hty2:=hty2.sp1 s11 hb7 (.inl dE);replace hb7:=hq;refine zn7 ?_;refine xv (ns.length - (k + 1)) oM agA ?_;exact⟨k + 1,_,_,_,_,by omega,rfl,rfl,hB.u,hb6.u,hb7,ho32,hty2⟩
 have hkl:k=ns.length:=by omega
 subst hkl;refine zn9 ?_;refine xz (v:= .slice _ _ _) hb7 rfl rfl sz23_DHo (by first | decide | simp) rfl rfl (fun w14 hq s12=>?_);replace ho7:=ho7.tq s12;replace hty:=hty.sp1 s12 hb7 (.inl dE);replace hb7:=hq;refine zn5 ?_;refine zk hb6.u rfl rfl E9 rfl zQ (fun w15 hq s13=>?_);replace ho7:=ho7.tq s13;replace hb6:=hb6.tr1 s12 oM;replace hty:=hty.sp1 s13 hb6 (.inl dE);replace hb6:=hq;refine zn3 ?_;refine x7 (.inl rfl) rfl (zy U25 rfl rfl hb6.range0 E9) ?_;exact⟨⟨_,_,rfl,hof_end ho7 hty⟩,hB.u⟩
end Go.Proofs.YtbcpgfnfiekbiaaGreatDoor
