/- What these functions of the program compute, at every world: glosswright/graph.Within, glosswright/glosswrightref3.InHierarchy. What these functions of the program compute, at every world: . What these functions of the program compute, at every world: glosswright/graph.From$1. The engine's third part: cap, append of nothing, append of zeros to the nil slice. The engine's fourth part: a check of a pointer, a slice that owns its cells opened and closed again, rows of cells told by a list. A graph in memory that nobody else can reach: its nodes may be written in place. Types and links apart. No program in sight. -/
import Derived.Test.YtdgnllfbooklcaaDoorU
import Derived.Test.YtdgnllfbooklcaaDoorSim
import Derived.Test.YtdgnllfbooklcaaDoorGUnr
import Derived.Test.YtdgnllfbooklcaaDoorEng2
import Derived.Lib.AppendZerosOnto
namespace Go.Proofs.YtdgnllfbooklcaaDoor
open Go.RowKit
theorem fn49:zZ Tryd.prog 49=true:=by kernel_rfl
theorem fn50:zZ Tryd.prog 50=true:=by kernel_rfl
theorem fn52:zZ Tryd.prog 52=true:=by kernel_rfl
theorem sz25:(Tryd.prog.info? 25).map (·.size)=some 2:=by kernel_rfl
theorem Z8:(Tryd.prog.info? 30).map (·.size)=some 1:=by kernel_rfl
theorem Gw:(Tryd.prog.info? 72).map (·.size)=some 3:=by kernel_rfl
theorem Gv:(Tryd.prog.info? 86).map (·.size)=some 2:=by kernel_rfl
theorem G0:(Tryd.prog.info? 72).map (·.zero)=some (some (.agg #[.string ⟨#[]⟩,.int .i64 0,.int .i64 0])):=by kernel_rfl
set_option maxHeartbeats 1000000 in
theorem Xw (A B G:Option Addr) (c d cg bu bd:Nat) (l:List Ty) (fs:List Ft) (gr:List Nd) (w:World) (hI:TableIn w l bu bd) (h60:l.length≤60) (hF:FeatsIn w B fs) (hG:NodesIn w G gr) (hfo:FOk l.length fs):Calls Tryd.prog 30 #[.agg #[.slice A l.length c,.slice B fs.length d],OQ l.length bu bd,.agg #[.slice G gr.length cg]] w fun e w'=>e= .returned (flV (xj l fs gr))∧Bel w w':=by
 refine enter Tryd.func30 Tryd.ntmps30 rfl (Nat.le_of_ble_eq_true rfl) ?_;have hB:Bel w w:=Below.refl _ _;refine zn2 ?_;refine xz (v:= .agg #[_,_]) (cs:=#[_,_]) rfl rfl (fun b3 w1 hb3 s1 hr=>?_);refine xz (v:= .agg #[_,_]) (cs:=#[_,_]) rfl rfl (fun b4 w2 hb4 s2 hr=>?_);refine xz (v:= .agg #[_]) (cs:=#[_]) rfl rfl (fun b5 w3 hb5 s3 hr=>?_);refine qw (cs:=#[.int .i64 0,.int .i64 0]) zY rfl (fun b6 w4 hb6 s4 hr=>?_);replace hB:=hB.tr0 (s1.trans (s2.trans s3));have lo6:=nLT (Bel.size hB) hr;refine zn7 ?_;replace hB:=hB.tr0 s4;refine zX fn49 (loose_any A B G c d cg l fs gr _ (hG.mono hB)) rfl (fun e' w5 hr=>?_);obtain⟨rfl,s5⟩:=hr;replace s5:=sB s5;refine⟨_,rfl,?_⟩;refine yj (cs:=#[.int .i64 0,.int .i64 0]) zY rfl (fun _=>rfl) (fun _=>rfl) zz rfl zK (fun b7 w7 hb7 s6 hr=>?_);refine zn9 ?_;replace hB:=hB.tr0 (s5.trans s6);replace hb6:=hb6.tr0 (s5.trans s6);refine zJ rfl (fun c19=>?_) (fun c19=>?_)
 ·refine zn3 ?_;refine zk hb6 rfl rfl zz rfl zK (fun w8 hq s7=>?_);replace hb6:=hq;refine zn4 ?_;refine xX (.inl rfl) rfl (zw U36 rfl rfl hb6.range0 zz) ?_;replace hB:=hB.tr1 s7 lo6;exact⟨xW (E2 c19),hB⟩
 have hl0:=Decidable.not_not.1 c19;have hk0:=W9 hl0;have hk6:=hk0.le;refine vQ ?_;replace hb3:=hb3.tr0 (s2.trans (s3.trans (s4.trans (s5.trans s6))));replace hb4:=hb4.tr0 (s3.trans (s4.trans (s5.trans s6)));replace hb5:=hb5.tr0 (s4.trans (s5.trans s6));refine qJ [8,9,11,12,24,25,26,27,28,29,30,31,32,33,34,35,36,37,38,39,40,41,42,43,44,45,46,47,48,49,50,51,52,53,54,55,56,57,58,59,60,61,62,63,64,65,66] (fun m g w'=>∃ k:Nat,k≤gr.length∧m=gr.length - k∧g 24= .int .i64 k∧Bel w w'∧Blk w' b3 25 #[.slice A l.length c,.slice B fs.length d]∧Blk w' b4 86 #[.slice (some ⟨bu,0,none⟩) l.length l.length,.slice (some ⟨bd,0,none⟩) l.length l.length]∧Blk w' b5 30 #[.slice G gr.length cg]∧Blk w' b6 36 #[.int .i64 0,.int .i64 0]∧tyF l fs gr=qv (tyN l fs gr) k (gr.length - k)) (gr.length) ?_ (fun m g5 w9 hI=>?_)
 ·exact⟨0,Nat.zero_le _,rfl,rfl,hB,hb3,hb4,hb5,hb6,rfl⟩
 obtain⟨k,hk,hm,hkk,hB,hb3,hb4,hb5,hb6,hU⟩:=hI;refine zQ 24 _ hkk nu (zn6 ?_);refine zJ rfl (fun c25=>?_) (fun c25=>?_)
 ·have hlt:k < gr.length:=by omega
  obtain⟨nb,no,LA,lc,rfl,hnb,hnr,hln⟩:=hG.at_ hB hlt;have hmx:=hln.1;unfold vz at hmx;refine zn8 ?_;refine wl (qW U93 rfl rfl hnr OX) ?_;refine qw (cs:=#[.int .i64 0,.slice none 0 0]) ze93 rfl (fun b9 w10 hb9 s8 hr=>?_);have:=nLL hb3.lt hr;have:=nLL hb4.lt hr;have:=nLL hb5.lt hr;have:=nLL hb6.lt hr;have lo9:=nLT (Bel.size hB) hr;refine waI rfl ?_;refine zk hb9 rfl rfl OX rfl zK (fun w11 hq s9=>?_);replace hb9:=hq;refine gj ?_;replace hB:=(hB.tr0 s8).tr1 s9 lo9;replace hb3:=(hb3.tr0 s8).tr1 s9 om;replace hb4:=(hb4.tr0 s8).tr1 s9 om;replace hb5:=(hb5.tr0 s8).tr1 s9 om;replace hb6:=(hb6.tr0 s8).tr1 s9 om;refine qJ [11,12,32,33,34,35,36,37,38,39,40,41,42,43,44,45,46,47,48,49,50,51,52,53,54,55,56,57,58,59,60,61,62,63,64,65] (fun m g w'=>∃ j:Nat,j≤(gr[k]'hlt).ln.length∧m=(gr[k]'hlt).ln.length - j∧g 32= .int .i64 j∧Bel w w'∧Blk w' b3 25 #[.slice A l.length c,.slice B fs.length d]∧Blk w' b4 86 #[.slice (some ⟨bu,0,none⟩) l.length l.length,.slice (some ⟨bd,0,none⟩) l.length l.length]∧Blk w' b5 30 #[.slice (some ⟨nb,no,none⟩) gr.length cg]∧Blk w' b6 36 #[.int .i64 0,.int .i64 0]∧Blk w' b9 93 #[.int .i64 (gr[k]'hlt).ty,.slice LA (gr[k]'hlt).ln.length lc]∧(∀ j' (hj':j' < (gr[k]'hlt).ln.length),j' < j→Mz l fs gr (gr[k]'hlt).ty ((gr[k]'hlt).ln[j'])=false)) ((gr[k]'hlt).ln.length) ?_ (fun m g8 w12 hI=>?_)
  ·exact⟨0,Nat.zero_le _,rfl,rfl,hB,hb3,hb4,hb5,hb6,hb9,fun j' _ h=>by omega⟩
  obtain⟨j,hj,hmj,hjj,hB,hb3,hb4,hb5,hb6,hb9,hN⟩:=hI;refine zQ 32 _ hjj nu (zn6 ?_);refine zJ rfl (fun c33=>?_) (fun c33=>?_)
  ·have hlj:j < (gr[k]'hlt).ln.length:=by omega
   obtain⟨lb,lof,rfl,hlb,hlr⟩:=hln.at_ hB hlj;have hxr:=hk0.ln k hlt _ (List.getElem_mem hlj);obtain⟨fi,hfi,hfl⟩:∃ t:Nat,((gr[k]'hlt).ln[j]'hlj).1=(t:Int)∧t < fs.length:=⟨(((gr[k]'hlt).ln[j]'hlj).1).toNat,by omega,by omega⟩
   obtain⟨ti,hti,htl⟩:∃ t:Nat,((gr[k]'hlt).ln[j]'hlj).2=(t:Int)∧t < gr.length:=⟨(((gr[k]'hlt).ln[j]'hlj).2).toNat,by omega,by omega⟩
   obtain⟨yn,hyn,hynl⟩:∃ t:Nat,(gr[k]'hlt).ty=(t:Int)∧t < l.length:=by
     have h:=hk0.ty k hlt;exact⟨(gr[k]'hlt).ty.toNat,by omega,by omega⟩
   obtain⟨zn,hzn,hznl⟩:∃ t:Nat,(gr[ti]'htl).ty=(t:Int)∧t < l.length:=by
     have h:=hk0.ty ti htl;exact⟨(gr[ti]'htl).ty.toNat,by omega,by omega⟩
   have hff:=hfo.at_ fi hfl;obtain⟨on,hon,honl⟩:∃ t:Nat,(fs[fi]'hfl).of=(t:Int)∧t < l.length:=⟨(fs[fi]'hfl).of.toNat,by omega,by omega⟩
   obtain⟨vn,hvn,hvnl⟩:∃ t:Nat,(fs[fi]'hfl).val=(t:Int)∧t < l.length:=⟨(fs[fi]'hfl).val.toNat,by omega,by omega⟩
   obtain⟨fb,fo,rfl,hfb,hfr⟩:=hF.at_ (Below.refl _ _:Bel w w) hfl;obtain⟨nb2,no2,LA2,lc2,he2,hnb2,hnr2,_⟩:=hG.at_ (Below.refl _ _:Bel w w) htl;cases he2;rw [hzn] at hnr2;have hlty:=lnTy_at (l:=l) hfi hfl hti htl hyn hon hvn hzn;refine zn7 ?_;refine wl (qW U95 rfl rfl hlr Ez) ?_;refine yj (cs:=#[.int .i64 0,.int .i64 0]) LY rfl (fun _=>rfl) (fun _=>rfl) Ez rfl zK (fun b11 w14 hb11 s10 hr=>?_);refine zn3 ?_;rw [hfi,hti] at hb11;refine zn7 ?_;refine yj (cs:=#[.string ⟨#[]⟩,.int .i64 0,.int .i64 0]) G0 rfl (fun _=>rfl) (fun _=>rfl) Gw rfl zK (fun b12 w16 hb12 s11 hr=>?_);refine zn3 ?_;rw [hon,hvn] at hb12;replace hb9:=hb9.tr0 (s10.trans s11);rw [hyn] at hb9;replace hB:=hB.tr0 (s10.trans s11);replace hb6:=hb6.tr0 (s10.trans s11);refine yz [42,43,44,45,46,47,48,49,50,51,52,53,54,55,56,57,58,59,60,61,62] (fun g w'=>g 62= .bool (!sub l yn on || !sub l zn vn)∧Same [] w16 w') ?_ (fun g11 w17 hI=>?_)
   ·refine uQ [] [0,1,2,3,4,5,6,7,8,9,10,11,12,13,14,15,16,17,18,19,20] rfl (fun w18 s12=>?_);have hs0:=s12;refine zn5 ?_;replace hB:=hB.tr0 s12;refine hcl (fun v wv=>v= .bool (sub l yn on)) rfl fn50 (BW l bu bd yn on w18 (hI.mono hB) h60 hynl honl) rfl (fun e' w2 hr=>?_) (fun v47 w19 s13 d47=>?_)
    ·obtain⟨rfl,s14⟩:=hr;exact⟨_,rfl,sB s14,rfl⟩
    have e47:=d47;subst e47;refine zn2 ?_;replace hs0:=hs0.trans s13;refine Lk 49 rfl (fun g49=>?_) (fun g49=>?_)
    ·refine Yq ?_;refine e_R ⟨agA,?_,hs0⟩;show Value.bool _=Value.bool _;exact congrArg Value.bool (by simp [g49])
    refine zn7 ?_;replace hB:=hB.tr0 s13;refine hg1 (v:= .int _ _) 49 rfl rfl rfl U3 rfl rfl (hB.cell hnb2 (hnr2 0 _ rfl)) (zn2 ?_);refine h1 rfl (zn1 ?_);refine zX fn50 (BW l bu bd zn vn w19 (hI.mono hB) h60 hznl hvnl) rfl (fun e' w20 hr=>?_);obtain⟨rfl,s15⟩:=hr;replace s15:=sB s15;have hsH18:=s15;refine⟨_,rfl,?_⟩;refine zW (Px hsH18 (zn3 ?_));replace hs0:=hs0.trans s15;refine e_R ⟨agA,?_,hs0⟩;show Value.bool _=Value.bool _;exact congrArg Value.bool (by simp [g49])
   obtain⟨h62,s16⟩:=hI;refine oz 62 _ h62 nu (e_S ?_);replace hB:=hB.tr0 s16;replace hb6:=hb6.tr0 s16;refine kv rfl (fun c62=>?_) (fun c62=>?_)
   ·have hty:=tyN_yes hlt hlj (hlty.trans c62);refine zn3 ?_;refine zX fn51 (Z6 _ _ _) rfl (fun e' w21 hr=>?_);obtain⟨rfl,s17⟩:=hr;replace s17:=sB s17;refine⟨_,rfl,?_⟩;replace hb6:=hb6.tr0 s17;refine zk hb6 rfl rfl zz rfl zK (fun w22 hq s18=>?_);replace hb6:=hq;refine vQ ?_;refine xX (.inl rfl) rfl (zw U36 rfl rfl hb6.range0 zz) ?_;replace hB:=(hB.tr0 s17).tr1 s18 lo6;exact⟨xW (wi_ty hl0 (hU.trans (y9 (c:=12) om hty dE))),hB⟩
   refine zn7 ?_;refine yq ((gr[k]'hlt).ln.length - (j + 1)) om agA ?_;replace hb9:=hb9.tr0 s16;rw [← hyn] at hb9;replace hb3:=hb3.tr0 (s10.trans (s11.trans s16));replace hb4:=hb4.tr0 (s10.trans (s11.trans s16));replace hb5:=hb5.tr0 (s10.trans (s11.trans s16))
   exact⟨j + 1,by omega,rfl,rfl,hB,hb3,hb4,hb5,hb6,hb9,fun j' hj' h=>by
     by_cases e:j'=j
     · subst e;rw [hlty];simpa using c62
     · exact hN j' hj' om⟩
  have hun:=RY hlt (fun j' hj'=>hN j' hj' om);refine jy ?_;refine yq (gr.length - (k + 1)) om agA ?_;exact⟨k + 1,by omega,rfl,rfl,hB,hb3,hb4,hb5,hb6,hU.trans (jY hlt hun)⟩
 have hT0:=hU.trans (uq om);refine zn9 ?_;refine zX fn52 (unr_any G cg l.length fs.length gr _ (hG.mono hB) hk0) rfl (fun e' w23 hr=>?_);obtain⟨rfl,s19⟩:=hr;replace s19:=sB s19;refine⟨_,rfl,?_⟩;refine zn9 ?_;replace hB:=hB.tr0 s19;replace hb6:=hb6.tr0 s19;refine zJ rfl (fun c70=>?_) (fun c70=>?_)
 ·refine zn3 ?_;refine zX fn51 (Z6 _ _ _) rfl (fun e' w24 hr=>?_);obtain⟨rfl,s20⟩:=hr;replace s20:=sB s20;refine⟨_,rfl,?_⟩;replace hb6:=hb6.tr0 s20;refine zk hb6 rfl rfl zz rfl zK (fun w25 hq s21=>?_);replace hb6:=hq;refine zn4 ?_;refine xX (.inl rfl) rfl (zw U36 rfl rfl hb6.range0 zz) ?_;replace hB:=(hB.tr0 s20).tr1 s21 lo6;exact⟨xW (wi_unr hl0 hT0 om),hB⟩
 refine zn4 ?_;refine wl (uJ (vs:=#[]) (cs:=#[.int .i64 0,.int .i64 0]) (by simp) kR) ?_;refine zk hb6 rfl rfl zz rfl zK (fun w26 hq s22=>?_);replace hb6:=hq;refine zn3 ?_;refine xX (.inl rfl) rfl (zw U36 rfl rfl hb6.range0 zz) ?_;replace hB:=hB.tr1 s22 lo6;exact⟨xW (JY hl0 hT0 om),hB⟩
end Go.Proofs.YtdgnllfbooklcaaDoor
namespace Go.Proofs.YtdgnllfbooklcaaDoor
open Go.RowKit
theorem qk {w:World} {b t:Nat} (xs:List Int) (h:Blk w b t (xs.map (Value.int .i64)).toArray) (hl:xs.length≤vz):IntsIn w (some ⟨b,0,none⟩) xs:=
  ⟨hl,fun _=>⟨b,0,rfl,h.lt,fun k hk=>h.cell (by simp [hk])⟩⟩
theorem B3 {w:World} {b t:Nat} (fs:List Ft) (h:Blk w b t (fs.flatMap (fun f=>[Value.string f.name,.int .i64 f.of,.int .i64 f.val])).toArray) (hl:fs.length≤vz):FeatsIn w (some ⟨b,0,none⟩) fs:=by
  refine⟨hl,fun _=>⟨b,0,rfl,h.lt,fun k hk=>?_⟩⟩;have key:∀ (l:List Ft) (k:Nat) (hk:k < l.length) (j:Nat) (v:Value),[Value.string (l[k]).name,.int .i64 (l[k]).of,.int .i64 (l[k]).val][j]? =some v→(l.flatMap (fun f=>[Value.string f.name,.int .i64 f.of,.int .i64 f.val]))[k * 3 + j]? =some v:=by
    intro l
    induction l with
    | nil=>intro k hk;simp at hk
    | cons a r ih=>
      intro k hk j v hj
      match k,hk with
      | 0,_=>
        have hj3:j < 3:=(List.getElem?_eq_some_iff.1 hj).1;rw [List.flatMap_cons,List.getElem?_append_left (by simpa using hj3)]
        simpa using hj
      | k + 1,hk=>
        rw [List.flatMap_cons,List.getElem?_append_right (by simp;omega)];have:=ih k (by simpa using hk) j v hj;have e:(k + 1) * 3 + j - [Value.string a.name,.int .i64 a.of,.int .i64 a.val].length=k * 3 + j:=by simp;omega
        rw [e];exact this
  intro j v hj;have:=key fs k hk j v hj;exact h.cell (by simpa using this)
inductive TyVs (w:World):List Ty→List Value→Prop
  | nil:TyVs w [] []
  | cons {t:Ty} {l:List Ty} {vs:List Value} {A:Option Addr} {c:Nat} (h:IntsIn w A t.par) (r:TyVs w l vs):TyVs w (t :: l) (.string t.name :: .slice A t.par.length c :: vs)
theorem TyVs.get {w:World} {l:List Ty} {vs:List Value} (h:TyVs w l vs):∀ k (hk:k < l.length),∃ A c,vs[k * 2]? =some (.string (l[k]).name)∧vs[k * 2 + 1]? =some (.slice A (l[k]).par.length c)∧IntsIn w A (l[k]).par:=by
  induction h with
  | nil=>intro k hk;simp at hk
  | cons h r ih=>
    intro k hk
    match k,hk with
    | 0,_=>exact⟨_,_,rfl,rfl,h⟩
    | k + 1,hk=>
      obtain⟨A,c,h1,h2,h3⟩:=ih k (by simpa using hk);refine⟨A,c,?_,?_,h3⟩
      · rw [show (k + 1) * 2=k * 2 + 1 + 1 from by omega];simpa using h1
      · rw [show (k + 1) * 2 + 1=k * 2 + 1 + 1 + 1 from by omega];simpa using h2
theorem oX (w:World) (A:Option Addr):NodesIn w A []:=⟨Nat.zero_le _,fun h=>absurd rfl h⟩
end Go.Proofs.YtdgnllfbooklcaaDoor
namespace Go.Proofs.YtdgnllfbooklcaaDoor
open Go.RowKit
theorem fn75:zZ Tryd.prog 75=true:=by kernel_rfl
theorem MJ:(Tryd.prog.info? 70).map (·.size)=some 1:=by kernel_rfl
set_option maxHeartbeats 2000000 in
theorem E3 {w0:World} {G:Option Addr} {cg nf bP bQ bG bV bn base:Nat} {gr:List Nd} (hG:NodesIn w0 G gr) (hk:Py nf gr) (hlo:w0.heap.size≤base) (_l0P:w0.heap.size≤bP) (l0Q:w0.heap.size≤bQ) (_l0G:w0.heap.size≤bG) (_l0V:w0.heap.size≤bV) (l0n:w0.heap.size≤bn) (lP:bP < base) (lQ:bQ < base) (lG:bG < base) (lV:bV < base) (ln:bn < base) (nPQ:bP≠bQ) (nPn:bP≠bn) (nQn:bQ≠bn) (nGQ:bG≠bQ) (nGn:bG≠bn) (nVQ:bV≠bQ) (nVn:bV≠bn) {o:List Nat} {A:Option Addr} {cap:Nat} {w:World} (hB:Bel w0 w) (hbs:base≤w.heap.size) (hok:OOk gr.length o) (hbP:Blk w bP 70 #[.slice (some ⟨bn,0,none⟩) gr.length gr.length]) (hbQ:Blk w bQ 70 #[.slice A (o).length cap]) (hbG:Blk w bG 30 #[.slice G gr.length cg]) (hbV:Blk w bV 107 #[.func (.func 75) #[] #[.pointer (some ⟨bP,0,none⟩),.pointer (some ⟨bQ,0,none⟩),.pointer (some ⟨bG,0,none⟩),.pointer (some ⟨bV,0,none⟩)]]) (hbn:Blk w bn 3 (row gr.length (fun x=> .int .i64 (u7 o x)))) (ho:Own w base 3 1 A (o).length cap (oV (o))) {i:Nat} (hin:i < gr.length) (IH:∀ (t:Nat) (o2:List Nat) (A2:Option Addr) (cap2:Nat) (w2:World),kW gr.length (Y2 o2) < kW gr.length (Y2 o)→t < gr.length→Bel w0 w2→base≤w2.heap.size→OOk gr.length o2→Blk w2 bP 70 #[.slice (some ⟨bn,0,none⟩) gr.length gr.length]→Blk w2 bQ 70 #[.slice A2 (o2).length cap2]→Blk w2 bG 30 #[.slice G gr.length cg]→Blk w2 bV 107 #[.func (.func 75) #[] #[.pointer (some ⟨bP,0,none⟩),.pointer (some ⟨bQ,0,none⟩),.pointer (some ⟨bG,0,none⟩),.pointer (some ⟨bV,0,none⟩)]]→Blk w2 bn 3 (row gr.length (fun x=> .int .i64 (u7 o2 x)))→Own w2 base 3 1 A2 (o2).length cap2 (oV (o2))→Calls Tryd.prog 75 #[.int .i64 (t:Nat),.pointer (some ⟨bP,0,none⟩),.pointer (some ⟨bQ,0,none⟩),.pointer (some ⟨bG,0,none⟩),.pointer (some ⟨bV,0,none⟩)] w2 fun e w'=>e= .returned (.tuple #[])∧∃ o' A' cap',DL gr [t] o2 o'∧Blk w' bQ 70 #[.slice A' o'.length cap']∧Own w' base 3 1 A' o'.length cap' (oV o')∧Blk w' bn 3 (row gr.length (fun x=> .int .i64 (u7 o' x)))∧Chg base [bQ,bn] w2 w'):Calls Tryd.prog 75 #[.int .i64 (i:Nat),.pointer (some ⟨bP,0,none⟩),.pointer (some ⟨bQ,0,none⟩),.pointer (some ⟨bG,0,none⟩),.pointer (some ⟨bV,0,none⟩)] w fun e w'=>e= .returned (.tuple #[])∧∃ o' A' cap',DL gr [i] o o'∧Blk w' bQ 70 #[.slice A' o'.length cap']∧Own w' base 3 1 A' o'.length cap' (oV o')∧Blk w' bn 3 (row gr.length (fun x=> .int .i64 (u7 o' x)))∧Chg base [bQ,bn] w w':=by
 have hCS:Chg base [bQ,bn] w w∧base≤w.heap.size:=⟨Chg.refl _ _ _,hbs⟩
 have hn6:=hk.le;have hrg:=PW hk;have hol:=hok.cnt;refine enter Tryd.func75 Tryd.ntmps75 rfl (Nat.le_of_ble_eq_true rfl) (zn5 ?_);refine wl (yJ (i:=i) U70 xy rfl rfl hin rfl) (wl (qK (v:= .int _ _) U3 rfl rfl (hbn.cell (gZ hin))) (zn3 ?_));refine zJ rfl (fun c12=>?_) (fun c12=>?_)
 ·refine c_ret (e_Sr (fin0 (.inl rfl) rfl  ?_));exact⟨rfl,o,A,cap,.old (numO_pos c12) .nil,hbQ,ho,hbn,hCS.1⟩
 have hni:=numO_neg c12;have hok2:=hok.snoc hin hni;have hol2:=hok2.cnt;refine zn8 ?_;refine wl (yJ (i:=i) U70 xy rfl rfl hin rfl) ?_;refine xZ (v:= .int _ _) hbn rfl rfl xy (by rw [row_size];omega) rfl Qj (fun w1 hq t1=>?_);replace hB:=hB.tr1 t1 l0n;replace ho:=ho.tr1 t1 (fun g hg=>by have:=(ho.lt g hg).1;(try have:=or_ho_bn g hg);(try simp only [aL] at hg);(try simp only [List.mem_singleton] at hg);omega);replace hCS:=And.intro (hCS.1.st t1 hCS.2 (fun g hg=>by have h1:=List.mem_singleton.1 hg;first | (left;rw [h1];simp;done) | (right;omega))) (nLT hCS.2 (Same.size t1));replace hbn:=hq;rw [row_num hni] at hbn;refine zn6 ?_;refine qZ (cs:=#[_]) [(0,.int _ _)] rfl U70 xy gk dE dE kR rfl (fun b20 w2 hb20 t2 hr=>?_);replace hbP:=hbP.tr1 t1 om;have:=nLL hbP.lt hr;replace hbQ:=hbQ.tr1 t1 om;have:=nLL hbQ.lt hr;replace hbG:=hbG.tr1 t1 om;have:=nLL hbG.lt hr;replace hbV:=hbV.tr1 t1 om;have:=nLL hbV.lt hr;have:=nLL hbn.lt hr;have or_ho_b20:=fun g hg=>nLL (ho.lt g hg).2 hr
 have or_hCS_b20:=(nLT hCS.2 hr)
 replace hCS:=And.intro (hCS.1.st t2 hCS.2 (by simp)) (nLT hCS.2 (Same.size t2));replace ho:=ho.tr0 t2;refine j9 U70 in3 rfl dE ho hb20 rfl rfl rfl zK dE om om hCS.2 (fun g21 cap21 w3 ho21 t3 hg=>?_);replace hB:=hB.tr0 t2;replace hbP:=hbP.tr0 t2;replace hbQ:=hbQ.tr0 t2;replace hbG:=hbG.tr0 t2;replace hbV:=hbV.tr0 t2;replace hbn:=hbn.tr0 t2;have ne_ho21_bP:g21≠bP:=fun e=>by
  have hl:=hbP.lt;rcases hg with hg | hg
  · have h1:=ho.lt g21 (by rw [hg];exact List.mem_singleton.2 rfl)
    (try have:=or_ho_bP g21 (by rw [hg];exact List.mem_singleton.2 rfl));omega
  · omega
 have ne_ho21_bQ:g21≠bQ:=fun e=>by
  have hl:=hbQ.lt;rcases hg with hg | hg
  · have h1:=ho.lt g21 (by rw [hg];exact List.mem_singleton.2 rfl)
    (try have:=or_ho_bQ g21 (by rw [hg];exact List.mem_singleton.2 rfl));omega
  · omega
 have ne_ho21_bG:g21≠bG:=fun e=>by
  have hl:=hbG.lt;rcases hg with hg | hg
  · have h1:=ho.lt g21 (by rw [hg];exact List.mem_singleton.2 rfl)
    (try have:=or_ho_bG g21 (by rw [hg];exact List.mem_singleton.2 rfl));omega
  · omega
 have ne_ho21_bV:g21≠bV:=fun e=>by
  have hl:=hbV.lt;rcases hg with hg | hg
  · have h1:=ho.lt g21 (by rw [hg];exact List.mem_singleton.2 rfl)
    (try have:=or_ho_bV g21 (by rw [hg];exact List.mem_singleton.2 rfl));omega
  · omega
 have ne_ho21_bn:g21≠bn:=fun e=>by
  have hl:=hbn.lt;rcases hg with hg | hg
  · have h1:=ho.lt g21 (by rw [hg];exact List.mem_singleton.2 rfl)
    (try have:=or_ho_bn g21 (by rw [hg];exact List.mem_singleton.2 rfl));omega
  · omega
 replace hB:=hB.tr t3 (fun g hg=>nLT hlo (ho.lt g hg).1);replace hbP:=hbP.tr t3 (fun hx=>by have:=(ho.lt _ hx).1;(try have:=or_ho_bP _ hx);omega);replace hbQ:=hbQ.tr t3 (fun hx=>by have:=(ho.lt _ hx).1;(try have:=or_ho_bQ _ hx);omega);replace hbG:=hbG.tr t3 (fun hx=>by have:=(ho.lt _ hx).1;(try have:=or_ho_bG _ hx);omega);replace hbV:=hbV.tr t3 (fun hx=>by have:=(ho.lt _ hx).1;(try have:=or_ho_bV _ hx);omega);replace hbn:=hbn.tr t3 (fun hx=>by have:=(ho.lt _ hx).1;(try have:=or_ho_bn _ hx);omega);replace hCS:=And.intro (hCS.1.st t3 hCS.2 (fun g hg=> .inr ((ho).lt g hg).1)) (nLT hCS.2 (Same.size t3));refine xZ (v:= .slice _ _ _) hbQ rfl rfl MJ (by first | decide | simp) rfl rfl (fun w4 hq t4=>?_);replace hB:=hB.tr1 t4 l0Q;replace hCS:=And.intro (hCS.1.st t4 hCS.2 (fun g hg=>by have h1:=List.mem_singleton.1 hg;first | (left;rw [h1];simp;done) | (right;omega))) (nLT hCS.2 (Same.size t4));replace ho21:=ho21.tr1 t4 (fun g hg=>by have:=(ho21.lt g hg).1;(try have:=or_ho21_bQ g hg);(try simp only [aL] at hg);(try simp only [List.mem_singleton] at hg);omega);replace hbQ:=hq;replace hbQ:Blk w4 bQ 70 #[.slice (some ⟨g21,0,none⟩) (o ++ [i]).length cap21]:=by rw [← sl_oV];exact hbQ
 replace ho21:=own_oV ho21;refine zn3 ?_;obtain⟨nb,no,LA,lc,rfl,hnb,hnr,hln⟩:=hG.at_ hB hin;have hmx:=hln.1;unfold vz at hmx;refine zn4 ?_;refine wl (yJ (i:=i) U28 OX rfl rfl hin rfl) (zn1 ?_);refine wl (qK (v:= .slice _ _ _) U91 rfl rfl (hnr 1 _ rfl)) (zn5 ?_);replace hbP:=hbP.tr1 t4 om;replace hbG:=hbG.tr1 t4 om;replace hbV:=hbV.tr1 t4 om;replace hbn:=hbn.tr1 t4 om;refine qJ [7,29,30,31,32,33,34,35,36,37] (fun m g w'=>∃ (j:Nat) (o2:List Nat) (A2:Option Addr) (cap2:Nat),j≤(gr[i]'hin).ln.length∧m=(gr[i]'hin).ln.length - j∧g 29= .int .i64 j∧DL gr ((yZ gr i).take j) (o ++ [i]) o2∧Bel w0 w'∧Blk w' bP 70 #[.slice (some ⟨bn,0,none⟩) gr.length gr.length]∧Blk w' bQ 70 #[.slice A2 (o2).length cap2]∧Blk w' bG 30 #[.slice (some ⟨nb,no,none⟩) gr.length cg]∧Blk w' bV 107 #[.func (.func 75) #[] #[.pointer (some ⟨bP,0,none⟩),.pointer (some ⟨bQ,0,none⟩),.pointer (some ⟨bG,0,none⟩),.pointer (some ⟨bV,0,none⟩)]]∧Blk w' bn 3 (row gr.length (fun x=> .int .i64 (u7 o2 x)))∧Own w' base 3 1 A2 (o2).length cap2 (oV (o2))∧(Chg base [bQ,bn] w w'∧base≤w'.heap.size)) ((gr[i]'hin).ln.length) ?_ (fun m g4 w5 hI=>?_)
 ·exact⟨0,_,_,_,Nat.zero_le _,rfl,rfl,.nil,hB,hbP,hbQ,hbG,hbV,hbn,ho21,hCS⟩
 obtain⟨j,o2,A2,cap2,hj,hm,h29,hD,hB,hbP,hbQ,hbG,hbV,hbn,ho,hCS⟩:=hI;refine zQ 29 _ h29 nu (zn6 ?_);refine zJ rfl (fun c30=>?_) (fun c30=>?_)
 ·have hjl:j < (gr[i]'hin).ln.length:=by omega
  obtain⟨lb,lof,rfl,hlb,hlr⟩:=hln.at_ hB hjl;obtain⟨t,ht,htl⟩:∃ t:Nat,((gr[i]'hin).ln[j]'hjl).2=(t:Int)∧t < gr.length:=by
    have h1:=hk.ln i hin _ (List.getElem_mem hjl);exact⟨(((gr[i]'hin).ln[j]'hjl).2).toNat,by omega,by omega⟩
  obtain⟨hok3,s3,hs3⟩:=hD.ok hrg (fun x hx=>hrg i hin x (List.mem_of_mem_take hx)) hok2;have hlk:kW gr.length (Y2 o2) < kW gr.length (Y2 o):=by
    rw [hs3];exact Nat.lt_of_le_of_lt (lack_more _ _ _) (Mx hin hni)
  refine zn7 ?_;refine wl (qW U95 rfl rfl hlr Ez) ?_;refine qw (cs:=#[.int .i64 0,.int .i64 0]) LY rfl (fun b7 w6 hb7 t5 hr=>?_);have:=nLL hbP.lt hr;have:=nLL hbQ.lt hr;have:=nLL hbG.lt hr;have:=nLL hbV.lt hr;have:=nLL hbn.lt hr;have or_hCS_b7:=(nLT hCS.2 hr)
  have or_ho_b7:=fun g hg=>nLL (ho.lt g hg).2 hr
  have lo7:=nLT (Bel.size hB) hr;replace hCS:=And.intro (hCS.1.st t5 hCS.2 (by simp)) (nLT hCS.2 (Same.size t5));refine zk hb7 rfl rfl Ez rfl zK (fun w7 hq t6=>?_);replace hCS:=And.intro (hCS.1.st t6 hCS.2 (fun g hg=>by have h1:=List.mem_singleton.1 hg;first | (left;rw [h1];simp;done) | (right;omega))) (nLT hCS.2 (Same.size t6));replace ho:=ho.tr0 t5;replace ho:=ho.tr1 t6 (fun g hg=>by have:=(ho.lt g hg).1;(try have:=or_ho_b7 g hg);(try simp only [aL] at hg);(try simp only [List.mem_singleton] at hg);omega);replace hb7:=hq;refine zW (e_S ?_);rw [ht] at hb7;refine zn4 ?_;replace hB:=(hB.tr0 t5).tr1 t6 lo7;replace hbP:=(hbP.tr0 t5).tr1 t6 om;replace hbQ:=(hbQ.tr0 t5).tr1 t6 om;replace hbG:=(hbG.tr0 t5).tr1 t6 om;replace hbV:=(hbV.tr0 t5).tr1 t6 om;replace hbn:=(hbn.tr0 t5).tr1 t6 om;refine xv rfl fn75 (IH t o2 A2 cap2 _ hlk htl hB hCS.2 hok3 hbP hbQ hbG hbV hbn ho) rfl rfl (fun e' w8 hr=>?_);obtain⟨rfl,o3,A3,cap3,hD3,hbQ3,ho3,hbn3,hC3⟩:=hr;replace hB:=hB.chg hC3 hlo (by simp [l0Q,l0n]);replace hbP:=hbP.chg hC3 lP (by simp [nPQ,nPn]);replace hbG:=hbG.chg hC3 lG (by simp [nGQ,nGn]);replace hbV:=hbV.chg hC3 lV (by simp [nVQ,nVn]);replace hbQ:=hbQ3;replace hbn:=hbn3;replace ho:=ho3;replace hCS:=And.intro (hCS.1.trans hC3) (nLT hCS.2 hC3.size);refine⟨_,rfl,?_⟩;refine zn7 ?_;refine yq ((gr[i]'hin).ln.length - (j + 1)) om agA ?_;exact⟨j + 1,o3,A3,cap3,by omega,rfl,rfl,by rw [F3 hin hjl ht];exact hD.append hD3,hB,hbP,hbQ,hbG,hbV,hbn,ho,hCS⟩
 have hjx:j=(gr[i]'hin).ln.length:=by omega
 have hfin:DL gr (yZ gr i) (o ++ [i]) o2:=by
   have e:(yZ gr i).take j=yZ gr i:=List.take_of_length_le (by simp [yZ,yy hin,hjx]);rw [e] at hD;exact hD
 refine zn4 ?_;refine fin0 (.inr rfl) rfl  ?_;exact⟨rfl,o2,A2,cap2,.new hni hfin .nil,hbQ,ho,hbn,hCS.1⟩
theorem G8 {w0:World} {G:Option Addr} {cg nf bP bQ bG bV bn base:Nat} {gr:List Nd} (hG:NodesIn w0 G gr) (hk:Py nf gr) (hlo:w0.heap.size≤base) (_l0P:w0.heap.size≤bP) (l0Q:w0.heap.size≤bQ) (_l0G:w0.heap.size≤bG) (_l0V:w0.heap.size≤bV) (l0n:w0.heap.size≤bn) (lP:bP < base) (lQ:bQ < base) (lG:bG < base) (lV:bV < base) (ln:bn < base) (nPQ:bP≠bQ) (nPn:bP≠bn) (nQn:bQ≠bn) (nGQ:bG≠bQ) (nGn:bG≠bn) (nVQ:bV≠bQ) (nVn:bV≠bn):∀ (m:Nat) (o:List Nat) (A:Option Addr) (cap:Nat) (w:World) (i:Nat),kW gr.length (Y2 o)≤m→i < gr.length→Bel w0 w→base≤w.heap.size→OOk gr.length o→Blk w bP 70 #[.slice (some ⟨bn,0,none⟩) gr.length gr.length]→Blk w bQ 70 #[.slice A (o).length cap]→Blk w bG 30 #[.slice G gr.length cg]→Blk w bV 107 #[.func (.func 75) #[] #[.pointer (some ⟨bP,0,none⟩),.pointer (some ⟨bQ,0,none⟩),.pointer (some ⟨bG,0,none⟩),.pointer (some ⟨bV,0,none⟩)]]→Blk w bn 3 (row gr.length (fun x=> .int .i64 (u7 o x)))→Own w base 3 1 A (o).length cap (oV (o))→Calls Tryd.prog 75 #[.int .i64 (i:Nat),.pointer (some ⟨bP,0,none⟩),.pointer (some ⟨bQ,0,none⟩),.pointer (some ⟨bG,0,none⟩),.pointer (some ⟨bV,0,none⟩)] w fun e w'=>e= .returned (.tuple #[])∧∃ o' A' cap',DL gr [i] o o'∧Blk w' bQ 70 #[.slice A' o'.length cap']∧Own w' base 3 1 A' o'.length cap' (oV o')∧Blk w' bn 3 (row gr.length (fun x=> .int .i64 (u7 o' x)))∧Chg base [bQ,bn] w w':=by
  intro m
  induction m with
  | zero=>intro o A cap w i hm hin hB hbs hok h1 h2 h3 h4 h5 h6;exact E3 hG hk hlo _l0P l0Q _l0G _l0V l0n lP lQ lG lV ln nPQ nPn nQn nGQ nGn nVQ nVn hB hbs hok h1 h2 h3 h4 h5 h6 hin (fun t o2 A2 cap2 w2 hl=>by omega)
  | succ m ih=>intro o A cap w i hm hin hB hbs hok h1 h2 h3 h4 h5 h6;exact E3 hG hk hlo _l0P l0Q _l0G _l0V l0n lP lQ lG lV ln nPQ nPn nQn nGQ nGn nVQ nVn hB hbs hok h1 h2 h3 h4 h5 h6 hin (fun t o2 A2 cap2 w2 hl=>ih o2 A2 cap2 w2 t om)
end Go.Proofs.YtdgnllfbooklcaaDoor
namespace Go.Proofs.YtdgnllfbooklcaaDoor
open Go.RowKit
section eng3
variable {P:Program} {Q:Exit→Act→World→Prop} {n:Nat} {f:Fr} {w:World} {ops:Array Oper} {rest:List Oper} {d:Tmp} {ty t e:TypeId} {pos:String} {af:Array Edge} {x y:Operand}
theorem r_cap {dst:Option Tmp} {gd:Option (Nat×Bool)} {A:Option Addr} {m c:Nat} (hu:P.underlying t=some (.slice e)) (hx:ev n f x= .slice A m c):
    RV P n f w ⟨dst,.call { callee:= .builtin .cap,args:=#[x],argTypes:=#[t] },ty,pos,af,gd⟩ (.int .i64 (c:Int)) w:=by
  simp [RV,execOp,resolve,invoke,builtin,hx,Builtin.cap_,run_underlying hu,goInt]
theorem run_app0 {A B:Option Addr} {k cap c sz:Nat} (hu:P.underlying t=some (.slice e)) (hs:(P.info? e).map (·.size)=some sz) (hk:k≤cap):
    (Builtin.append_ #[t,t] ty #[.slice A k cap,.slice B 0 c]).run P w= .ok (.slice A k cap) w:=by
  cases hq:P.info? e with
  | none=>simp [hq] at hs
  | some i=>
    simp only [hq,Option.map_some,Option.some.injEq] at hs;have hz:(Go.sizeOf e).run P w= .ok sz w:=by simp [Go.sizeOf,typeInfo,hq,hs]
    have h0:(Builtin.firstCells sz 0 (.slice B 0 c)).run P w= .ok #[] w:=by
      cases B with
      | none=>simp [Builtin.firstCells]
      | some b=>simp [Builtin.firstCells,loadCells,loadCellsFrom]
    cases A with
    | none=>simp [Builtin.append_,run_underlying hu,hz,Builtin.lenOf,hk,h0]
    | some a=>simp [Builtin.append_,run_underlying hu,hz,Builtin.lenOf,hk,h0,storeCells]
theorem r_app0 {dst:Option Tmp} {gd:Option (Nat×Bool)} {A B:Option Addr} {k cap c sz:Nat} (hu:P.underlying t=some (.slice e)) (hs:(P.info? e).map (·.size)=some sz) (hk:k≤cap) (hx:ev n f x= .slice A k cap) (hy:ev n f y= .slice B 0 c):
    RV P n f w ⟨dst,.call { callee:= .builtin .append,args:=#[x,y],argTypes:=#[t,t] },ty,pos,af,gd⟩ (.slice A k cap) w:=by
  have hr:=run_app0 (P:=P) (w:=w) (ty:=ty) (A:=A) (B:=B) (c:=c) hu hs hk;simp only [RV,execOp,resolve,invoke,builtin,Sem.run_bind,Sem.run_pure,Result.andThen_ok,List.map_toArray,List.map_cons,List.map_nil,hx,hy,hr]
theorem wl_appZ {tn:TypeId} {zv:Value} {sz by' k:Nat} (hu:P.underlying t=some (.slice e)) (hn:P.underlying tn=some (.int .i64)) (hi:(P.info? e).map (fun i=>(i.zero,i.size,i.bytes))=some (some zv,sz,by')) (hz:zv.cells.size=sz) (h0:0 < k) (hs:0 < sz) (hb:k * by'≤140737488355328) (h63:k≤4611686018427387904)
    (hx:ev n f x= .slice none 0 0) (hy:ev n f y= .int .i64 (k:Int))
    (K:∀ b cap w1,Own w1 w.heap.size e sz (some ⟨b,0,none⟩) 0 cap []→Same [] w w1→w.heap.size≤b→k≤cap→cap≤9223372036854775807→WL P ops Q rest n (upd f d (.slice (some ⟨b,0,none⟩) k cap)) w1):
    WL P ops Q (⟨some d,.call { callee:= .builtin .append,args:=#[x,y],argTypes:=#[t,tn] },ty,pos,af,none⟩ :: rest) n f w:=by
  obtain⟨i,hq,hzz⟩:=Option.map_eq_some_iff.1 hi;simp only [Prod.mk.injEq] at hzz;obtain⟨z1,z2,z3⟩:=hzz;have hold:(Builtin.firstCells i.size 0 (.slice none 0 0)).run P w.drew= .ok ([]:List Value).toArray w.drew:=by simp [Builtin.firstCells]
  have hfit:=growslice_fits (need:=0 + k) (old:=0) (bytes:=i.bytes) om (by rw [Nat.zero_add,z3];exact hb);have hr:=Lib.run_append_grow_zeros w t tn ty e i zv .i64 .i64 hu hn hq z1 none 0 0 [] hold k h0 om om om (by rw [z3];omega) hfit;rw [Nat.zero_add] at hr;have hge:=grownCap_ge w k 0 e;have hle:=grownCap_le_maxLen w k 0 e (by unfold maxLen;omega)
  generalize grownCap w k 0 e=C at hr hge hle
  refine wl (v:= .slice (some ⟨w.heap.size,0,none⟩) k C) (w':=w.drew.alloc (.cells (#[] ++ Builtin.zeroCells zv.cells k ++ Builtin.zeroCells zv.cells (C - k)) e)) ?_ (K _ _ _ ?_ ?_ (Nat.le_refl _) hge (by unfold maxLen at hle;omega))
  · simp only [RV,execOp,resolve,invoke,builtin,Sem.run_bind,Sem.run_pure,Result.andThen_ok,List.map_toArray,List.map_cons,List.map_nil,hx,hy,hr]
  · refine⟨by simp,.inr ⟨w.heap.size,C,_,rfl,Nat.le_refl _,heap_alloc_new w.drew _,Nat.zero_le _,hle,?_,by simp⟩⟩
    simp only [Array.size_append,Builtin.zeroCells,Array.size_map,Array.size_range,hz];simp only [List.size_toArray,List.length_nil,Nat.zero_add,← Nat.add_mul];rw [show k + (C - k)=C by omega]
  · have hd:Same [] w w.drew:=⟨rfl,rfl,rfl,Nat.le_refl _,fun _ _ _=>rfl⟩
    exact hd.trans (o6 w.drew _)
theorem WK {zv:Value} {base sz by' k cap m c:Nat} {A B:Option Addr} {xs news:List Value} (hu:P.underlying t=some (.slice e)) (hi:(P.info? e).map (fun i=>(i.zero,i.size,i.bytes))=some (some zv,sz,by')) (hzs:zv.cells.size=sz) (hsz:0 < sz)
    (hown:Own w base e sz A k cap xs) (hx:ev n f x= .slice A k cap) (hy:ev n f y= .slice B m c) (hn:0 < m→∃ b o',B=some ⟨b,o',none⟩∧∀ j u,news[j]? =some u→w.cell? ⟨b,o' + j,none⟩=some u) (hl:news.length=m * sz) (h1:news.all (·.oneCell')=true) (h63:k + m≤9223372036854775807) (hbytes:(k + m) * by'≤140737488355328) (hbase:base≤w.heap.size)
    (K:∀ A' cap' w1,Own w1 base e sz A' (k + m) cap' (xs ++ news)→Same (aL A) w w1→(∀ g ∈ aL A',g ∈ aL A∨w.heap.size≤g)→WL P ops Q rest n (upd f d (.slice A' (k + m) cap')) w1):
    WL P ops Q (⟨some d,.call { callee:= .builtin .append,args:=#[x,y],argTypes:=#[t,t] },ty,pos,af,none⟩ :: rest) n f w:=by
  by_cases hm:0 < m
  · obtain⟨b,o',rfl,hc⟩:=hn hm
    refine wl_appC hu hi hzs hsz hown hx hy hc hl h1 hm h63 hbytes hbase (fun g cap' w1 ho hs hg=>K _ _ _ ho hs (fun g' hg'=>?_));have e1:g'=g:=List.mem_singleton.1 hg';subst e1;rcases hg with hg | hg
    · exact .inl (by rw [hg];simp)
    · exact .inr hg
  · obtain rfl:m=0:=by omega
    obtain rfl:news= []:=List.length_eq_zero_iff.1 (by simpa using hl);have hs:(P.info? e).map (·.size)=some sz:=by
      obtain⟨i,hq,hzz⟩:=Option.map_eq_some_iff.1 hi;simp only [Prod.mk.injEq] at hzz;simp [hq,hzz.2.1]
    refine wl (r_app0 hu hs hown.cap_le hx hy) ?_;exact K A cap w (by simpa using hown) (Same.refl _ _) (fun g hg=> .inl hg)
end eng3
end Go.Proofs.YtdgnllfbooklcaaDoor
namespace Go.Proofs.YtdgnllfbooklcaaDoor
open Go.RowKit
section eng4
variable {P:Program} {Q:Exit→Act→World→Prop} {n:Nat} {f:Fr} {w w':World} {ops:Array Oper} {rest:List Oper} {d:Tmp} {ty t e:TypeId} {pos:String} {af:Array Edge} {x y:Operand}
theorem ZQ {dst:Option Tmp} {gd:Option (Nat×Bool)} {a:Addr} (hx:ev n f x= .pointer (some a)):
    RV P n f w ⟨dst,.nilCheck x,ty,pos,af,gd⟩ (.pointer (some a)) w:=by simp [RV,execOp,hx]
variable {base sz k cap:Nat} {A:Option Addr} {xs:List Value}
theorem Own.open_ (h:Own w base e sz A k cap xs) (hk:0 < k):∃ (g:Nat) (cur:Array Value),A=some ⟨g,0,none⟩∧base≤g∧Blk w g e cur∧k * sz≤cur.size∧(∀ j,j < k * sz→cur[j]? =xs[j]?)∧∀ w1 o v,Blk w1 g e (cur.setIfInBounds o v)→Own w1 base e sz (some ⟨g,0,none⟩) k cap (xs.set o v):=by
  rcases h.2 with ⟨_,hn⟩ | ⟨g,c,cur,hv,hb,hg,hkc,hm,hs,ht⟩
  · omega
  · cases hv
    have hle:k * sz≤cap * sz:=Nat.mul_le_mul_right sz hkc;refine⟨g,cur,rfl,hb,hg,by omega,fun j hj=>?_,fun w1 o v hw=>⟨by rw [List.length_set];exact h.1,.inr ⟨g,cap,_,rfl,hb,hw,hkc,hm,by rw [Array.size_setIfInBounds];exact hs,?_⟩⟩⟩
    · rw [← ht,List.getElem?_take_of_lt hj];simp
    · rw [Array.toList_setIfInBounds,List.take_set,ht]
theorem x9 {b1 b2 s1 s2 k1 k2 c1 c2:Nat} {e1 e2:TypeId} {A1 A2:Option Addr} {x1 x2:List Value} (h:Own w b1 e1 s1 A1 k1 c1 x1) (k:Own w b2 e2 s2 A2 k2 c2 x2) (hne:e1≠e2):∀ g ∈ aL A1,¬g ∈ aL A2:=fun g h1 h2=>by
  have ht:∀ {b s k c:Nat} {e:TypeId} {A:Option Addr} {x:List Value},Own w b e s A k c x→g ∈ aL A→∃ cs,Blk w g e cs:=fun h hg=>by
    rcases h.2 with ⟨hv,_⟩ | ⟨g',c',cur,hv,_,hb,_⟩
    · cases hv;cases hg
    · cases hv
      simp only [aL,List.mem_singleton] at hg
      subst hg;exact⟨cur,hb⟩
  obtain⟨c1,q1⟩:=ht h h1
  obtain⟨c2,q2⟩:=ht k h2
  exact hne (Zx q1 q2)
def vj (n:Nat) (g:Nat→Value):List Value:=(List.range n).map g
theorem rowL_len (n:Nat) (g:Nat→Value):(vj n g).length=n:=by simp [vj]
theorem rowL_get {n j:Nat} {g:Nat→Value} (h:j < n):(vj n g)[j]? =some (g j):=by simp [vj,h]
theorem u5 {n:Nat} {g g':Nat→Value} (h:∀ j,j < n→g j=g' j):vj n g=vj n g':=List.map_congr_left (fun j hj=>h j (List.mem_range.1 hj))
theorem KJ {n i:Nat} {g:Nat→Value} {v:Value}:(vj n g).set i v=vj n (fun x=>if x=i then v else g x):=by
  refine List.ext_getElem (by simp [vj]) (fun j h1 h2=>?_);simp only [vj,List.getElem_set,List.getElem_map,List.getElem_range];by_cases e:i=j
  · subst e;simp
  · rw [if_neg e,if_neg (fun h=>e h.symm)]
theorem D1 {n:Nat} {g:Nat→Value} {v:Value}:vj n g ++ [v]=vj (n + 1) (fun x=>if x < n then g x else v):=by
  unfold vj;rw [List.range_succ,List.map_append,List.map_cons,List.map_nil,if_neg (Nat.lt_irrefl n)];refine congrArg (· ++ [v]) (List.map_congr_left (fun j hj=>?_));rw [if_pos (List.mem_range.1 hj)]
theorem Own.rowc {g:Nat→Value} {m:Nat} (h:Own w base e 1 A m cap (vj m g)) {j:Nat} (hj:j < m):∃ q,A=some ⟨q,0,none⟩∧base≤q∧q < w.heap.size∧w.cell? ⟨q,0 + j * 1,none⟩=some (g j):=by
  have hne:vj m g≠[]:=fun e=>by have:=congrArg List.length e;rw [rowL_len] at this;simp at this;omega
  obtain⟨q,h1,h2,h3,h4⟩:=h.cell hne;have e0:0 + j * 1=j:=by omega
  exact⟨q,h1,h2,h3,by rw [e0];exact h4 j _ (rowL_get hj)⟩
end eng4
end Go.Proofs.YtdgnllfbooklcaaDoor
namespace Go.Proofs.YtdgnllfbooklcaaDoor
open Go.RowKit
def SameQ (X:List Nat) (w w':World):Prop:=Same X w w'
theorem SameQ.trans {X:List Nat} {a b c:World} (h:SameQ X a b) {Y:List Nat} (k:Same Y b c) (hy:∀ g ∈ Y,g ∈ X):SameQ X a c:=Same.trans h (k.weak hy)
structure ChG (Z:Nat→Prop) (w w':World):Prop where
  os:w'.os=w.os
  tape:w'.tape=w.tape
  output:w'.output=w.output
  size:w.heap.size≤w'.heap.size
  blk:∀ k,k < w.heap.size→¬Z k→w'.heap[k]? =w.heap[k]?
theorem ChG.refl (Z:Nat→Prop) (w:World):ChG Z w w:=⟨rfl,rfl,rfl,Nat.le_refl _,fun _ _ _=>rfl⟩
theorem ChG.st {Z:Nat→Prop} {Y:List Nat} {a b c:World} (h:ChG Z a b) (k:Same Y b c) (hy:∀ g ∈ Y,Z g∨a.heap.size≤g):ChG Z a c:=
  ⟨k.os.trans h.os,k.tape.trans h.tape,k.output.trans h.output,nLT h.size k.size,fun i hi hx=>(k.blk i (nLL hi h.size) (fun hm=>(hy i hm).elim hx (fun h2=>by omega))).trans (h.blk i hi hx)⟩
theorem ChG.trans {Z Z':Nat→Prop} {a b c:World} (h:ChG Z a b) (k:ChG Z' b c) (hz:∀ g,Z' g→Z g∨a.heap.size≤g):ChG Z a c:=
  ⟨k.os.trans h.os,k.tape.trans h.tape,k.output.trans h.output,nLT h.size k.size,fun i hi hx=>(k.blk i (nLL hi h.size) (fun hm=>(hz i hm).elim hx (fun h2=>by omega))).trans (h.blk i hi hx)⟩
theorem ChG.one {b:Nat} {w w':World} (h:ChG (fun g=>g=b) w w'):Same [b] w w':=⟨h.os,h.tape,h.output,h.size,fun k hk hx=>h.blk k hk (fun e=>hx (List.mem_singleton.2 e))⟩
theorem Blk.chG {Z:Nat→Prop} {w w':World} {b t:Nat} {cs:Array Value} (h:Blk w b t cs) (hc:ChG Z w w') (hx:¬Z b):Blk w' b t cs:=(hc.blk b h.lt hx).trans h
theorem Bel.chG {Z:Nat→Prop} {w0 w w':World} (h:Bel w0 w) (hc:ChG Z w w') (hz:∀ g,Z g→w0.heap.size≤g):Bel w0 w':=
  ⟨hc.os.trans h.os,hc.tape.trans h.tape,hc.output.trans h.output,nLT h.size hc.size,fun k hk=>(hc.blk k (nLL hk h.size) (fun hm=>by have:=hz k hm;omega)).trans (h.block k hk)⟩
theorem ChG.bel {Z:Nat→Prop} {w w':World} (h:Bel w w'):ChG Z w w':=⟨h.os,h.tape,h.output,h.size,fun k hk _=>h.block k hk⟩
theorem RowO.chG {w w':World} {lo bs g:Nat} {v:Value} {xs:List (Int×Int)} {cs:Array Value} {t:TypeId} (h:RowO w lo bs v xs) (hb:Blk w g t cs) (ht:95≠t) (hc:ChG (fun k=>k=g) w w'):RowO w' lo bs v xs:=by
  obtain⟨A,c,e,h1,h2⟩:=h;refine⟨A,c,e,⟨h1.1,?_⟩,h2⟩;have hty:=h1.typ;rcases h1.2 with hn | ⟨q,c,cur,hv,hbb,hg,r⟩
  · exact .inl hn
  · refine .inr ⟨q,c,cur,hv,hbb,?_,r⟩
    rw [hc.blk q (jv hg) (fun e=>?_)]
    · exact hg
    · subst e;exact ht (Zx hg hb)
def rtG (gr:List Nd) (T:Nat→Int):List Nd:=(List.range gr.length).map (fun i=>⟨T i,(nd gr i).ln⟩)
theorem NJ (gr:List Nd) (T:Nat→Int):(rtG gr T).length=gr.length:=by simp [rtG]
theorem rtG_self (gr:List Nd):rtG gr (fun x=>(nd gr x).ty)=gr:=by
  refine List.ext_getElem (NJ _ _) (fun i h1 h2=>?_);have:=yy h2;simp [rtG,this]
theorem HW {gr:List Nd} {o:List Nat} {x:Nat} (hx:x < o.length):nd (y5 gr o) x=⟨(nd gr (o.getD x 0)).ty,(nd gr (o.getD x 0)).ln.map (JK o)⟩:=by simp [nd,y5,Pj,List.getD,hx]
def GrT (w:World) (lo hi:Nat) (A:Option Addr) (c:Nat) (gr:List Nd) (T:Nat→Int):Prop:=
  ∃ V:Nat→Value,Own w lo 93 2 A gr.length c (ndV (fun x=> .int .i64 (T x)) V gr.length)∧(∀ g ∈ aL A,g < hi)∧∀ x,x < gr.length→RowO w lo hi (V x) (nd gr x).ln
def Dis (V:Nat→Value) (n:Nat):Prop:=∀ x y,x < n→y < n→x≠y→∀ A m c A' m' c',V x= .slice A m c→V y= .slice A' m' c'→∀ g ∈ aL A,¬g ∈ aL A'
theorem Dis.congr {V V':Nat→Value} {n:Nat} (h:Dis V n) (e:∀ x,x < n→V x=V' x):Dis V' n:=fun x y hx hy hne A m c A' m' c' h1 h2=>h x y hx hy hne A m c A' m' c' ((e x hx).trans h1) ((e y hy).trans h2)
theorem Dis.snoc {V:Nat→Value} {L:Nat→List (Int×Int)} {w:World} {lo bs k n c:Nat} {A:Option Addr} (h:Dis V k) (hr:∀ x,x < k→RowO w lo bs (V x) (L x)) (hg:∀ g ∈ aL A,bs≤g):Dis (fun x=>if x=k then .slice A n c else V x) (k + 1):=fun x y hx hy hne A1 m1 c1 A2 m2 c2 h1 h2 g hg1 hg2=>by
  have far:∀ z,z < k→∀ A3 m3 c3,V z= .slice A3 m3 c3→∀ g ∈ aL A3,g < bs:=fun z hz A3 m3 c3 e g hg=>by
    obtain⟨A4,c4,e4,_,h4⟩:=hr z hz
    rw [e] at e4
    cases e4
    exact h4 g hg
  by_cases e:x=k
  · simp only [e,if_true,Value.slice.injEq] at h1
    by_cases e2:y=k
    · exact hne (by rw [e,e2])
    · simp only [e2,if_false] at h2
      rw [← h1.1] at hg1
      have:=far y om _ _ _ h2 g hg2
      have:=hg g hg1
      omega
  · simp only [e,if_false] at h1
    by_cases e2:y=k
    · simp only [e2,if_true,Value.slice.injEq] at h2
      rw [← h2.1] at hg2
      have:=far x om _ _ _ h1 g hg1
      have:=hg g hg2
      omega
    · simp only [e2,if_false] at h2
      exact h x y om om hne _ _ _ _ _ _ h1 h2 g hg1 hg2
def GrD (w:World) (lo hi:Nat) (A:Option Addr) (c:Nat) (gr:List Nd) (T:Nat→Int):Prop:=
  ∃ V:Nat→Value,Own w lo 93 2 A gr.length c (ndV (fun x=> .int .i64 (T x)) V gr.length)∧(∀ g ∈ aL A,g < hi)∧(∀ x,x < gr.length→RowO w lo hi (V x) (nd gr x).ln)∧Dis V gr.length
section
variable {w w':World} {lo hi c:Nat} {A:Option Addr} {gr:List Nd} {T:Nat→Int}
theorem GrD.grt (h:GrD w lo hi A c gr T):GrT w lo hi A c gr T:=by obtain⟨V,h1,h2,h3,_⟩:=h;exact⟨V,h1,h2,h3⟩
theorem GrD.mk {base bs m:Nat} {V f:Nat→Value} (ho:Own w base 93 2 A m c (ndV f V m)) (hm:gr.length=m) (hb:lo≤base) (hf:∀ x,x < m→f x= .int .i64 (T x)) (hA:∀ g ∈ aL A,g < hi) (hbs:bs≤hi) (hr:∀ x,x < m→RowO w lo bs (V x) (nd gr x).ln) (hd:Dis V m):GrD w lo hi A c gr T:=by
  subst hm;refine⟨V,?_,hA,fun x hx=>(hr x hx).up hbs,hd⟩;rw [Z4 (f':=f) (h':=V) (fun x hx=>(hf x hx).symm) (fun _ _=>rfl)];exact ho.low hb
theorem GrT.nodes (h:GrT w lo hi A c gr T):NodesIn w A (rtG gr T):=by
  obtain⟨V,ho,_,hr⟩:=h;refine D9 (lo:=lo) (bs:=hi) ho (NJ gr T) (fun k hk=>?_) (fun k hk=>?_)
  · simp [rtG]
  · rw [NJ] at hk
    have e:((rtG gr T)[k]'(by rw [NJ];exact hk)).ln=(nd gr k).ln:=by simp [rtG]
    rw [e];exact hr k hk
theorem GrT.cap_le (h:GrT w lo hi A c gr T):gr.length≤c:=by obtain⟨V,ho,_⟩:=h;exact ho.cap_le
theorem GrT.congr (h:GrT w lo hi A c gr T) {T':Nat→Int} (e:∀ i,i < gr.length→T i=T' i):GrT w lo hi A c gr T':=by
  obtain⟨V,ho,hA,hr⟩:=h;exact⟨V,by rw [Z4 (f':=fun x=> .int .i64 (T x)) (h':=V) (fun x hx=>by rw [e x hx]) (fun _ _=>rfl)];exact ho,hA,hr⟩
theorem GrT.tr {X:List Nat} (h:GrT w lo hi A c gr T) (hs:Same X w w') (hx:∀ g ∈ X,g < lo∨hi≤g):GrT w' lo hi A c gr T:=by
  obtain⟨V,ho,hA,hr⟩:=h;refine⟨V,ho.tr hs (fun g hg hm=>?_),hA,fun x hxl=>?_⟩
  · have h1:=hx g hm
    have h2:=(ho.lt g hg).1;have h3:=hA g hg;omega
  · obtain⟨A2,c2,e,h1,h2⟩:=hr x hxl
    refine⟨A2,c2,e,h1.tr hs (fun g hg hm=>?_),h2⟩;have h3:=hx g hm;have h4:=(h1.lt g hg).1;have h5:=h2 g hg;omega
theorem GrT.fr {w2:World} (h:GrT w lo hi A c gr T) (hf:FrSame lo w w2):GrT w2 lo hi A c gr T:=by
  obtain⟨V,ho,hA,hr⟩:=h;exact⟨V,ho.fr (Nat.le_refl _) hf,hA,fun x hx=>(hr x hx).fr hf⟩
theorem GrT.up {hi':Nat} (h:GrT w lo hi A c gr T) (hh:hi≤hi'):GrT w lo hi' A c gr T:=by
  obtain⟨V,ho,hA,hr⟩:=h;exact⟨V,ho,fun g hg=>nLL (hA g hg) hh,fun x hx=>(hr x hx).up hh⟩
theorem RowO.low {lo' bs:Nat} {v:Value} {xs:List (Int×Int)} (h:RowO w lo bs v xs) (hl:lo'≤lo):RowO w lo' bs v xs:=by
  obtain⟨A,c,e,h1,h2⟩:=h;exact⟨A,c,e,h1.low hl,h2⟩
theorem GrT.low {lo':Nat} (h:GrT w lo hi A c gr T) (hl:lo'≤lo):GrT w lo' hi A c gr T:=by
  obtain⟨V,ho,hA,hr⟩:=h;exact⟨V,ho.low hl,hA,fun x hx=>(hr x hx).low hl⟩
theorem GrT.mk {base bs m:Nat} {V f:Nat→Value} (ho:Own w base 93 2 A m c (ndV f V m)) (hm:gr.length=m) (hb:lo≤base) (hf:∀ x,x < m→f x= .int .i64 (T x)) (hA:∀ g ∈ aL A,g < hi) (hbs:bs≤hi) (hr:∀ x,x < m→RowO w lo bs (V x) (nd gr x).ln):GrT w lo hi A c gr T:=by
  subst hm;refine⟨V,?_,hA,fun x hx=>(hr x hx).up hbs⟩;rw [Z4 (f':=f) (h':=V) (fun x hx=>(hf x hx).symm) (fun _ _=>rfl)];exact ho.low hb
theorem own_of {e:TypeId} {base sz k cap g:Nat} {cur:Array Value} {xs:List Value} (hb:Blk w g e cur) (hbase:base≤g) (hk:k≤cap) (hm:cap≤9223372036854775807) (hs:cur.size=cap * sz) (hx:cur.toList.take (k * sz)=xs):Own w base e sz (some ⟨g,0,none⟩) k cap xs:=by
  have hle:k * sz≤cap * sz:=Nat.mul_le_mul_right sz hk;subst hx;exact⟨by rw [List.length_take,Array.length_toList];omega,.inr ⟨g,cap,cur,rfl,hbase,hb,hk,by simpa [maxLen] using hm,hs,rfl⟩⟩
theorem own_row2 {b m:Nat} {f h:Nat→Value} (hb:Blk w b 93 (jJ m f h)) (hl:lo≤b) (hm:m≤1000000):Own w lo 93 2 (some ⟨b,0,none⟩) m m (ndV f h m):=by
  refine own_of hb hl (Nat.le_refl _) om (X7 m f h) ?_;refine List.ext_getElem? (fun j=>?_);by_cases hj:j < m * 2
  · have h2:j / 2 < m:=by omega
    rw [List.getElem?_take_of_lt hj,Array.getElem?_toList];rcases Nat.mod_two_eq_zero_or_one j with e | e
    · have e2:j=j / 2 * 2:=by omega
      have h3:=D5 (f:=f) (h:=h) h2;rw [show 0 + j / 2 * 2 + 0=j by omega] at h3;have h4:=(gQ f h h2).1;rw [← e2] at h4;rw [h3,h4]
    · have e2:j=j / 2 * 2 + 1:=by omega
      have h3:=M6 (f:=f) (h:=h) h2;rw [show 0 + j / 2 * 2 + 1=j by omega] at h3;have h4:=(gQ f h h2).2;rw [← e2] at h4;rw [h3,h4]
  · rw [List.getElem?_eq_none (by rw [List.length_take];omega),List.getElem?_eq_none (by rw [Y1];omega)]
theorem ndV_set0 {f V:Nat→Value} {n k:Nat} {v:Value}:(ndV f V n).set (0 + k * 2 + 0) v=ndV (fun x=>if x=k then v else f x) V n:=by
  refine List.ext_getElem? (fun j=>?_);by_cases hj:j < n * 2
  · have h2:j / 2 < n:=by omega
    rcases Nat.mod_two_eq_zero_or_one j with e | e
    · have e2:j=j / 2 * 2:=by omega
      by_cases hjk:j / 2=k
      · rw [show 0 + k * 2 + 0=j by omega,List.getElem?_set_self (by rw [Y1];exact hj)]
        have h3:=(gQ (fun x=>if x=k then v else f x) V h2).1;rw [← e2] at h3;rw [h3,if_pos hjk]
      · rw [List.getElem?_set_ne om]
        have h3:=(gQ (fun x=>if x=k then v else f x) V h2).1;have h4:=(gQ f V h2).1;rw [← e2] at h3 h4;rw [h3,h4,if_neg hjk]
    · have e2:j=j / 2 * 2 + 1:=by omega
      rw [List.getElem?_set_ne om];have h3:=(gQ (fun x=>if x=k then v else f x) V h2).2;have h4:=(gQ f V h2).2;rw [← e2] at h3 h4;rw [h3,h4]
  · rw [List.getElem?_eq_none (by rw [List.length_set,Y1];omega),List.getElem?_eq_none (by rw [Y1];omega)]
theorem GrT.open_ {k:Nat} (h:GrT w lo hi A c gr T) (hk:k < gr.length):∃ (V:Nat→Value) (g:Nat) (cur:Array Value),A=some ⟨g,0,none⟩∧lo≤g∧g < hi∧Blk w g 93 cur∧gr.length * 2≤cur.size∧(∀ x,x < gr.length→cur[0 + x * 2 + 0]? =some (.int .i64 (T x)))∧(∀ x,x < gr.length→cur[0 + x * 2 + 1]? =some (V x))∧(∀ x,x < gr.length→RowO w lo hi (V x) (nd gr x).ln)∧
    ∀ w1 v,Blk w1 g 93 (cur.setIfInBounds (0 + k * 2 + 0) (.int .i64 v))→(∀ x,x < gr.length→RowO w1 lo hi (V x) (nd gr x).ln)→GrT w1 lo hi (some ⟨g,0,none⟩) c gr (fun x=>if x=k then v else T x):=by
  obtain⟨V,ho,hA,hr⟩:=h;obtain⟨g,cur,rfl,hg,hb,hsz,hrd,hcl⟩:=ho.open_ om;refine⟨V,g,cur,rfl,hg,hA g (List.mem_singleton.2 rfl),hb,hsz,fun x hx=>?_,fun x hx=>?_,hr,fun w1 v hw hr2=>⟨V,?_,hA,hr2⟩⟩
  · rw [hrd _ om,show 0 + x * 2 + 0=x * 2 by omega];exact(gQ _ _ hx).1
  · rw [hrd _ om,show 0 + x * 2 + 1=x * 2 + 1 by omega];exact(gQ _ _ hx).2
  · have h1:=hcl w1 _ _ hw
    rw [ndV_set0,Z4 (f':=fun x=> .int .i64 (if x=k then v else T x)) (h':=V) (fun x _=>by by_cases e:x=k <;> simp [e]) (fun _ _=>rfl)] at h1;exact h1
end
end Go.Proofs.YtdgnllfbooklcaaDoor
