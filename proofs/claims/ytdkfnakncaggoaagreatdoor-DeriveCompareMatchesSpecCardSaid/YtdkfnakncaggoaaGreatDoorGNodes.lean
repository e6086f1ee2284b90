/- What these functions of the program compute, at every world: glosswright/graph.Within, glosswright/glosswrightref3.InHierarchy. What these functions of the program compute, at every world: . The engine's fourth part: a check of a pointer, a slice that owns its cells opened and closed again, rows of cells told by a list. A graph in memory that nobody else can reach: its nodes may be written in place. Types and links apart. No program in sight. The canonical form of a valid graph is valid, and its own canonical form. No program in sight. What these functions of the program compute, at every world: slices.Equal[[]glosswright/api.Link,glosswright/api.Link], glosswright/glosswrightequal.Nodes. -/
import Derived.Test.YtdkfnakncaggoaaGreatDoorU
import Derived.Test.YtdkfnakncaggoaaGreatDoorName
import Derived.Test.YtdkfnakncaggoaaGreatDoorGUnr
import Derived.Test.YtdkfnakncaggoaaGreatDoorData
import Derived.Lib.AppendZerosOnto
import Derived.Test.YtdkfnakncaggoaaGreatDoorDfs
namespace Go.Proofs.YtdkfnakncaggoaaGreatDoor
open Go.RowKit
theorem fn45:zQ Tryz.prog 45=true:=by kernel_rfl
theorem E8:zQ Tryz.prog 46=true:=by kernel_rfl
theorem fn47:zQ Tryz.prog 47=true:=by kernel_rfl
theorem fn65:zQ Tryz.prog 65=true:=by kernel_rfl
theorem fn66:zQ Tryz.prog 66=true:=by kernel_rfl
theorem fn68:zQ Tryz.prog 68=true:=by kernel_rfl
theorem Ly:(Tryz.prog.info? 25).map (·.size)=some 2:=by kernel_rfl
theorem EW:(Tryz.prog.info? 30).map (·.size)=some 1:=by kernel_rfl
theorem NX:(Tryz.prog.info? 71).map (·.size)=some 3:=by kernel_rfl
theorem Kx:(Tryz.prog.info? 94).map (·.size)=some 2:=by kernel_rfl
theorem Nv:(Tryz.prog.info? 71).map (·.zero)=some (some (.agg #[.string ⟨#[]⟩,.int .i64 0,.int .i64 0])):=by kernel_rfl
set_option maxHeartbeats 1000000 in
theorem V3 (A B G:Option Addr) (c d cg bu bd:Nat) (l:List Ty) (fs:List Ft) (gr:List Nd) (w:World) (hI:TableIn w l bu bd) (h60:l.length≤60) (hF:FeatsIn w B fs) (hG:NodesIn w G gr) (hfo:FOk l.length fs):Calls Tryz.prog 42 #[.agg #[.slice A l.length c,.slice B fs.length d],VQ l.length bu bd,.agg #[.slice G gr.length cg]] w fun e w'=>e= .returned (flV (y9 l fs gr))∧Bel w w':=by
 refine enter Tryz.func42 Tryz.ntmps42 rfl (Nat.le_of_ble_eq_true rfl) ?_;have hB:Bel w w:=Below.refl _ _;refine zn2 ?_;refine qW (v:= .agg #[_,_]) (cs:=#[_,_]) rfl rfl (fun b3 w1 hb3 hs hr=>?_);replace hB:=hB.tr0 hs;refine qW (v:= .agg #[_,_]) (cs:=#[_,_]) rfl rfl (fun b4 w2 hb4 hs hr=>?_);replace hB:=hB.tr0 hs;replace hb3:=hb3.tr0 hs;refine qW (v:= .agg #[_]) (cs:=#[_]) rfl rfl (fun b5 w3 hb5 hs hr=>?_);replace hB:=hB.tr0 hs;replace hb3:=hb3.tr0 hs;replace hb4:=hb4.tr0 hs;refine qZ (cs:=#[.int .i64 0,.int .i64 0]) zY rfl (fun b6 w4 hb6 hs hr=>?_);have lo6:=nLT (Bel.size hB) hr;replace hB:=hB.tr0 hs;replace hb3:=hb3.tr0 hs;replace hb4:=hb4.tr0 hs;replace hb5:=hb5.tr0 hs;refine zn7 ?_;refine zV fn65 (loose_any A B G c d cg l fs gr _ (hG.mono hB)) rfl (fun e' w5 hr=>?_);obtain⟨rfl,hs⟩:=hr;replace hs:=sB hs;replace hB:=hB.tr0 hs;replace hb3:=hb3.tr0 hs;replace hb4:=hb4.tr0 hs;replace hb5:=hb5.tr0 hs;replace hb6:=hb6.tr0 hs;refine⟨_,rfl,?_⟩;refine xV (cs:=#[.int .i64 0,.int .i64 0]) zY rfl (fun _=>rfl) (fun _=>rfl) zq rfl zK (fun b7 w7 hb7 hs hr=>?_);replace hB:=hB.tr0 hs;replace hb3:=hb3.tr0 hs;replace hb4:=hb4.tr0 hs;replace hb5:=hb5.tr0 hs;replace hb6:=hb6.tr0 hs;refine zn9 ?_;refine zw rfl (fun c19=>?_) (fun c19=>?_)
 ·refine zn3 ?_;refine zk hb6 rfl rfl zq rfl zK (fun w8 hq hs=>?_);replace hB:=hB.tr1 hs lo6;replace hb6:=hq;refine zn4 ?_;refine x5 (.inl rfl) rfl (zy U37 rfl rfl hb6.range0 zq) ?_;exact⟨qQ (M4 c19),hB⟩
 have hl0:=Decidable.not_not.1 c19;have hk0:=DY hl0;have hk6:=hk0.le;refine yj ?_;refine q8 [8,9,11,12,24,25,26,27,28,29,30,31,32,33,34,35,36,37,38,39,40,41,42,43,44,45,46,47,48,49,50,51,52,53,54,55,56,57,58,59,60,61,62,63,64,65,66] (fun m g w'=>∃ k:Nat,k≤gr.length∧m=gr.length - k∧g 24= .int .i64 k∧Bel w w'∧Blk w' b3 25 #[.slice A l.length c,.slice B fs.length d]∧Blk w' b4 94 #[.slice (some ⟨bu,0,none⟩) l.length l.length,.slice (some ⟨bd,0,none⟩) l.length l.length]∧Blk w' b5 30 #[.slice G gr.length cg]∧Blk w' b6 37 #[.int .i64 0,.int .i64 0]∧tyF l fs gr=qy (tyN l fs gr) k (gr.length - k)) (gr.length) ?_ (fun m g5 w9 hI=>?_)
 ·exact⟨0,Nat.zero_le _,rfl,rfl,hB,hb3,hb4,hb5,hb6,rfl⟩
 obtain⟨k,hk,hm,hkk,hB,hb3,hb4,hb5,hb6,hU⟩:=hI;refine zJ 24 (.int .i64 k) hkk nu (zn6 ?_);refine zw rfl (fun c25=>?_) (fun c25=>?_)
 ·have hlt:k < gr.length:=by omega
  obtain⟨nb,no,LA,lc,rfl,hnb,hnr,hln⟩:=hG.at_ hB hlt;have hmx:=hln.1;unfold yJ at hmx;refine zn8 ?_;refine wl (zW YK rfl rfl hnr Zw) ?_;refine qZ (cs:=#[.int .i64 0,.slice none 0 0]) Cw rfl (fun b9 w10 hb9 hs hr=>?_);have:=nLL hb3.lt hr;have:=nLL hb4.lt hr;have:=nLL hb5.lt hr;have:=nLL hb6.lt hr;have lo9:=nLT (Bel.size hB) hr;replace hB:=hB.tr0 hs;replace hb3:=hb3.tr0 hs;replace hb4:=hb4.tr0 hs;replace hb5:=hb5.tr0 hs;replace hb6:=hb6.tr0 hs;refine waI rfl ?_;refine zk hb9 rfl rfl Zw rfl zK (fun w11 hq hs=>?_);replace hB:=hB.tr1 hs lo9;replace hb3:=hb3.tr1 hs om;replace hb4:=hb4.tr1 hs om;replace hb5:=hb5.tr1 hs om;replace hb6:=hb6.tr1 hs om;replace hb9:=hq;refine vx ?_;refine q8 [11,12,32,33,34,35,36,37,38,39,40,41,42,43,44,45,46,47,48,49,50,51,52,53,54,55,56,57,58,59,60,61,62,63,64,65] (fun m g w'=>∃ j:Nat,j≤(gr[k]'hlt).ln.length∧m=(gr[k]'hlt).ln.length - j∧g 32= .int .i64 j∧Bel w w'∧Blk w' b3 25 #[.slice A l.length c,.slice B fs.length d]∧Blk w' b4 94 #[.slice (some ⟨bu,0,none⟩) l.length l.length,.slice (some ⟨bd,0,none⟩) l.length l.length]∧Blk w' b5 30 #[.slice (some ⟨nb,no,none⟩) gr.length cg]∧Blk w' b6 37 #[.int .i64 0,.int .i64 0]∧Blk w' b9 100 #[.int .i64 (gr[k]'hlt).ty,.slice LA (gr[k]'hlt).ln.length lc]∧(∀ j' (hj':j' < (gr[k]'hlt).ln.length),j' < j→F7 l fs gr (gr[k]'hlt).ty ((gr[k]'hlt).ln[j'])=false)) ((gr[k]'hlt).ln.length) ?_ (fun m g8 w12 hI=>?_)
  ·exact⟨0,Nat.zero_le _,rfl,rfl,hB,hb3,hb4,hb5,hb6,hb9,fun j' _ h=>by omega⟩
  obtain⟨j,hj,hmj,hjj,hB,hb3,hb4,hb5,hb6,hb9,hN⟩:=hI;refine zJ 32 (.int .i64 j) hjj nu (zn6 ?_);refine zw rfl (fun c33=>?_) (fun c33=>?_)
  ·have hlj:j < (gr[k]'hlt).ln.length:=by omega
   obtain⟨lb,lof,rfl,hlb,hlr⟩:=hln.at_ hB hlj;have hxr:=hk0.ln k hlt _ (List.getElem_mem hlj);obtain⟨fi,hfi,hfl⟩:∃ t:Nat,((gr[k]'hlt).ln[j]'hlj).1=(t:Int)∧t < fs.length:=⟨(((gr[k]'hlt).ln[j]'hlj).1).toNat,by omega,by omega⟩
   obtain⟨ti,hti,htl⟩:∃ t:Nat,((gr[k]'hlt).ln[j]'hlj).2=(t:Int)∧t < gr.length:=⟨(((gr[k]'hlt).ln[j]'hlj).2).toNat,by omega,by omega⟩
   obtain⟨yn,hyn,hynl⟩:∃ t:Nat,(gr[k]'hlt).ty=(t:Int)∧t < l.length:=by
     have h:=hk0.ty k hlt;exact⟨(gr[k]'hlt).ty.toNat,by omega,by omega⟩
   obtain⟨zn,hzn,hznl⟩:∃ t:Nat,(gr[ti]'htl).ty=(t:Int)∧t < l.length:=by
     have h:=hk0.ty ti htl;exact⟨(gr[ti]'htl).ty.toNat,by omega,by omega⟩
   have hff:=hfo.at_ fi hfl;obtain⟨on,hon,honl⟩:∃ t:Nat,(fs[fi]'hfl).of=(t:Int)∧t < l.length:=⟨(fs[fi]'hfl).of.toNat,by omega,by omega⟩
   obtain⟨vn,hvn,hvnl⟩:∃ t:Nat,(fs[fi]'hfl).val=(t:Int)∧t < l.length:=⟨(fs[fi]'hfl).val.toNat,by omega,by omega⟩
   obtain⟨fb,fo,rfl,hfb,hfr⟩:=hF.at_ (Below.refl _ _:Bel w w) hfl;obtain⟨nb2,no2,LA2,lc2,he2,hnb2,hnr2,_⟩:=hG.at_ (Below.refl _ _:Bel w w) htl;cases he2;rw [hzn] at hnr2;have hlty:=Hj (l:=l) hfi hfl hti htl hyn hon hvn hzn;refine zn7 ?_;refine wl (zW X3 rfl rfl hlr Zv) ?_;refine xV (cs:=#[.int .i64 0,.int .i64 0]) Nw rfl (fun _=>rfl) (fun _=>rfl) Zv rfl zK (fun b11 w14 hb11 hs hr=>?_);replace hB:=hB.tr0 hs;replace hb3:=hb3.tr0 hs;replace hb4:=hb4.tr0 hs;replace hb5:=hb5.tr0 hs;replace hb6:=hb6.tr0 hs;replace hb9:=hb9.tr0 hs;refine zn3 ?_;rw [hfi,hti] at hb11;refine zn7 ?_;refine xV (cs:=#[.string ⟨#[]⟩,.int .i64 0,.int .i64 0]) Nv rfl (fun _=>rfl) (fun _=>rfl) NX rfl zK (fun b12 w16 hb12 hs hr=>?_);replace hB:=hB.tr0 hs;replace hb3:=hb3.tr0 hs;replace hb4:=hb4.tr0 hs;replace hb5:=hb5.tr0 hs;replace hb6:=hb6.tr0 hs;replace hb9:=hb9.tr0 hs;replace hb11:=hb11.tr0 hs;refine zn3 ?_;rw [hon,hvn] at hb12;rw [hyn] at hb9;refine jW 21 [42,43,44,45,46,47,48,49,50,51,52,53,54,55,56,57,58,59,60,61,62] (fun _=>false) (fun ix v wv=>match ix with | 0=>v=VQ l.length bu bd | 1=>v= .pointer (some ⟨b9,0,none⟩) | 2=>v= .int .i64 (yn:Nat) | 3=>v= .pointer (some ⟨b12,1,none⟩) | 4=>v= .int .i64 (on:Nat) | 5=>v= .bool (sub l yn on) | 6=>v= .bool (!sub l yn on) | 7=>v= .bool (!sub l yn on) | 8=>(((!sub l yn on))=false→v=VQ l.length bu bd)∧(((!sub l yn on))=true→v=undef) | 9=>(((!sub l yn on))=false→v= .pointer (some ⟨b5,0,none⟩))∧(((!sub l yn on))=true→v=undef) | 10=>(((!sub l yn on))=false→v= .slice (some ⟨nb,no,none⟩) gr.length cg)∧(((!sub l yn on))=true→v=undef) | 11=>(((!sub l yn on))=false→v= .pointer (some ⟨b11,1,none⟩))∧(((!sub l yn on))=true→v=undef) | 12=>(((!sub l yn on))=false→v= .int .i64 (ti:Nat))∧(((!sub l yn on))=true→v=undef) | 13=>(((!sub l yn on))=false→v= .pointer (some ⟨nb,no + ti * 2,none⟩))∧(((!sub l yn on))=true→v=undef) | 14=>(((!sub l yn on))=false→v= .pointer (some ⟨nb,no + ti * 2 + 0,none⟩))∧(((!sub l yn on))=true→v=undef) | 15=>(((!sub l yn on))=false→v= .int .i64 (zn:Nat))∧(((!sub l yn on))=true→v=undef) | 16=>(((!sub l yn on))=false→v= .pointer (some ⟨b12,2,none⟩))∧(((!sub l yn on))=true→v=undef) | 17=>(((!sub l yn on))=false→v= .int .i64 (vn:Nat))∧(((!sub l yn on))=true→v=undef) | 18=>(((!sub l yn on))=false→v= .bool (sub l zn vn))∧(((!sub l yn on))=true→v=undef) | 19=>(((!sub l yn on))=false→v= .bool (!sub l zn vn))∧(((!sub l yn on))=true→v=undef) | 20=>v= .bool (!sub l yn on || !sub l zn vn) | _=>True) kR kR ?_ ?_ ?_
   ·intro ix v wv wv2 h hs
    match ix,h with
    | 0,h=>exact h
    | 1,h=>exact h
    | 2,h=>exact h
    | 3,h=>exact h
    | 4,h=>exact h
    | 5,h=>exact h
    | 6,h=>exact h
    | 7,h=>exact h
    | 8,h=>exact h
    | 9,h=>exact h
    | 10,h=>exact h
    | 11,h=>exact h
    | 12,h=>exact h
    | 13,h=>exact h
    | 14,h=>exact h
    | 15,h=>exact h
    | 16,h=>exact h
    | 17,h=>exact h
    | 18,h=>exact h
    | 19,h=>exact h
    | 20,h=>exact h
    | _ + 21,h=>exact trivial
   ·intro ix o hix hoq gg wx hs hd hdis
    match ix,hix,hoq with
    | 0,_,hoq=>
     cases sI hoq;replace hb4:=hb4.tr0 hs;refine⟨fun _=>?_,fun hw=>Bool.noConfusion (show true=false from hw)⟩;exact oV (zW U94 rfl rfl hb4.range0 Kx) rfl
    | 1,_,hoq=>
     cases sI hoq;refine⟨fun _=>?_,fun hw=>Bool.noConfusion (show true=false from hw)⟩;exact oV (vX YK qw dE rfl rfl rfl) rfl
    | 2,_,hoq=>
     cases sI hoq;replace hb9:=hb9.tr0 hs;refine⟨fun _=>?_,fun hw=>Bool.noConfusion (show true=false from hw)⟩;refine z4 43 (.pointer (some ⟨b9,0,none⟩)) (hd 1 (zz kR)) nu ?_;exact oV (qk (v:= .int _ _) U3 rfl rfl (hb9.cell rfl)) rfl
    | 3,_,hoq=>
     cases sI hoq;refine⟨fun _=>?_,fun hw=>Bool.noConfusion (show true=false from hw)⟩;exact oV (vX U71 qw dE rfl rfl rfl) rfl
    | 4,_,hoq=>
     cases sI hoq;replace hb12:=hb12.tr0 hs;refine⟨fun _=>?_,fun hw=>Bool.noConfusion (show true=false from hw)⟩;refine z4 45 (.pointer (some ⟨b12,1,none⟩)) (hd 3 (zz kR)) nu ?_;exact oV (qk (v:= .int _ _) U3 rfl rfl (hb12.cell rfl)) rfl
    | 5,_,hoq=>
     cases sI hoq;replace hB:=hB.tr0 hs;have e42:gg 42=VQ l.length bu bd:=hd 0 (zz kR);refine⟨fun _=>?_,fun hw=>Bool.noConfusion (show true=false from hw)⟩;refine z4 42 (VQ l.length bu bd) e42 (by simp [undef,VQ]) (z4 44 (.int .i64 (yn:Nat)) (hd 2 (zz kR)) nu (z4 46 (.int .i64 (on:Nat)) (hd 4 (zz kR)) nu ?_));refine qx fn66 (CW l bu bd yn on wx (hI.mono hB) h60 hynl honl) rfl (fun e' w2 hr=>?_);obtain⟨rfl,hs⟩:=hr;exact⟨_,rfl,sB hs,rfl,zX⟩
    | 6,_,hoq=>
     cases sI hoq;refine⟨fun _=>?_,fun hw=>Bool.noConfusion (show true=false from hw)⟩;refine z4 47 (.bool (sub l yn on)) (hd 5 (zz kR)) nu ?_;exact oV (gJ rfl) rfl
    | 7,_,hoq=>
     cases sI hoq;refine⟨fun _=>?_,fun hw=>Bool.noConfusion (show true=false from hw)⟩;refine z4 48 (.bool (!sub l yn on)) (hd 6 (zz kR)) nu ?_;exact oV (x9 (v:= .bool _) rfl) rfl
    | 8,_,hoq=>
     cases sI hoq;replace hb4:=hb4.tr0 hs;have e49:gg 49= .bool (!sub l yn on):=hd 7 (zz kR);refine zx 49 ((!sub l yn on)) rfl e49 (fun hgc=>?_) (fun hgc=>⟨fun h=>absurd (h.symm.trans hgc) dE,fun _=>rfl⟩);refine z4 49 (.bool (!sub l yn on)) e49 nu ?_;exact oV (zW U94 rfl rfl hb4.range0 Kx) ⟨fun _=>rfl,fun h=>absurd (h.symm.trans hgc) dE⟩
    | 9,_,hoq=>
     cases sI hoq;have e49:gg 49= .bool (!sub l yn on):=hd 7 (zz kR);refine zx 49 ((!sub l yn on)) rfl e49 (fun hgc=>?_) (fun hgc=>⟨fun h=>absurd (h.symm.trans hgc) dE,fun _=>rfl⟩);refine z4 49 (.bool (!sub l yn on)) e49 nu ?_;exact oV (vX U30 sz28 dE rfl rfl rfl) ⟨fun _=>rfl,fun h=>absurd (h.symm.trans hgc) dE⟩
    | 10,_,hoq=>
     cases sI hoq;replace hb5:=hb5.tr0 hs;have e49:gg 49= .bool (!sub l yn on):=hd 7 (zz kR);have d9:(((!sub l yn on))=false→gg 51= .pointer (some ⟨b5,0,none⟩))∧(((!sub l yn on))=true→gg 51=undef):=hd 9 (zz kR);refine zx 49 ((!sub l yn on)) rfl e49 (fun hgc=>?_) (fun hgc=>⟨fun h=>absurd (h.symm.trans hgc) dE,fun _=>rfl⟩);have e51:=d9.1 hgc;refine z4 49 (.bool (!sub l yn on)) e49 nu (z4 51 (.pointer (some ⟨b5,0,none⟩)) e51 nu ?_);exact oV (qk (v:= .slice _ _ _) U28 rfl rfl (hb5.cell rfl)) ⟨fun _=>rfl,fun h=>absurd (h.symm.trans hgc) dE⟩
    | 11,_,hoq=>
     cases sI hoq;have e49:gg 49= .bool (!sub l yn on):=hd 7 (zz kR);refine zx 49 ((!sub l yn on)) rfl e49 (fun hgc=>?_) (fun hgc=>⟨fun h=>absurd (h.symm.trans hgc) dE,fun _=>rfl⟩);refine z4 49 (.bool (!sub l yn on)) e49 nu ?_;exact oV (vX X3 qw dE rfl rfl rfl) ⟨fun _=>rfl,fun h=>absurd (h.symm.trans hgc) dE⟩
    | 12,_,hoq=>
     cases sI hoq;replace hb11:=hb11.tr0 hs;have e49:gg 49= .bool (!sub l yn on):=hd 7 (zz kR);have d11:(((!sub l yn on))=false→gg 53= .pointer (some ⟨b11,1,none⟩))∧(((!sub l yn on))=true→gg 53=undef):=hd 11 (zz kR);refine zx 49 ((!sub l yn on)) rfl e49 (fun hgc=>?_) (fun hgc=>⟨fun h=>absurd (h.symm.trans hgc) dE,fun _=>rfl⟩);have e53:=d11.1 hgc;refine z4 49 (.bool (!sub l yn on)) e49 nu (z4 53 (.pointer (some ⟨b11,1,none⟩)) e53 nu ?_);exact oV (qk (v:= .int _ _) U3 rfl rfl (hb11.cell rfl)) ⟨fun _=>rfl,fun h=>absurd (h.symm.trans hgc) dE⟩
    | 13,_,hoq=>
     cases sI hoq;have e49:gg 49= .bool (!sub l yn on):=hd 7 (zz kR);have d10:(((!sub l yn on))=false→gg 52= .slice (some ⟨nb,no,none⟩) gr.length cg)∧(((!sub l yn on))=true→gg 52=undef):=hd 10 (zz kR);have d12:(((!sub l yn on))=false→gg 54= .int .i64 (ti:Nat))∧(((!sub l yn on))=true→gg 54=undef):=hd 12 (zz kR);refine zx 49 ((!sub l yn on)) rfl e49 (fun hgc=>?_) (fun hgc=>⟨fun h=>absurd (h.symm.trans hgc) dE,fun _=>rfl⟩);have e52:=d10.1 hgc;have e54:=d12.1 hgc;refine z4 49 (.bool (!sub l yn on)) e49 nu (z4 52 (.slice (some ⟨nb,no,none⟩) gr.length cg) e52 nu (z4 54 (.int .i64 (ti:Nat)) e54 nu ?_));exact oV (yQ (i:=ti) U28 Zw rfl rfl om rfl) ⟨fun _=>rfl,fun h=>absurd (h.symm.trans hgc) dE⟩
    | 14,_,hoq=>
     cases sI hoq;have e49:gg 49= .bool (!sub l yn on):=hd 7 (zz kR);have d13:(((!sub l yn on))=false→gg 55= .pointer (some ⟨nb,no + ti * 2,none⟩))∧(((!sub l yn on))=true→gg 55=undef):=hd 13 (zz kR);refine zx 49 ((!sub l yn on)) rfl e49 (fun hgc=>?_) (fun hgc=>⟨fun h=>absurd (h.symm.trans hgc) dE,fun _=>rfl⟩);have e55:=d13.1 hgc;refine z4 49 (.bool (!sub l yn on)) e49 nu (z4 55 (.pointer (some ⟨nb,no + ti * 2,none⟩)) e55 nu ?_);exact oV (vX YK qw dE rfl rfl rfl) ⟨fun _=>rfl,fun h=>absurd (h.symm.trans hgc) dE⟩
    | 15,_,hoq=>
     cases sI hoq;replace hB:=hB.tr0 hs;have e49:gg 49= .bool (!sub l yn on):=hd 7 (zz kR);have d14:(((!sub l yn on))=false→gg 56= .pointer (some ⟨nb,no + ti * 2 + 0,none⟩))∧(((!sub l yn on))=true→gg 56=undef):=hd 14 (zz kR);refine zx 49 ((!sub l yn on)) rfl e49 (fun hgc=>?_) (fun hgc=>⟨fun h=>absurd (h.symm.trans hgc) dE,fun _=>rfl⟩);have e56:=d14.1 hgc;refine z4 49 (.bool (!sub l yn on)) e49 nu (z4 56 (.pointer (some ⟨nb,no + ti * 2 + 0,none⟩)) e56 nu ?_);exact oV (qk (v:= .int _ _) U3 rfl rfl (hB.cell hnb2 (hnr2 0 _ rfl))) ⟨fun _=>rfl,fun h=>absurd (h.symm.trans hgc) dE⟩
    | 16,_,hoq=>
     cases sI hoq;have e49:gg 49= .bool (!sub l yn on):=hd 7 (zz kR);refine zx 49 ((!sub l yn on)) rfl e49 (fun hgc=>?_) (fun hgc=>⟨fun h=>absurd (h.symm.trans hgc) dE,fun _=>rfl⟩);refine z4 49 (.bool (!sub l yn on)) e49 nu ?_;exact oV (vX U71 qw dE rfl rfl rfl) ⟨fun _=>rfl,fun h=>absurd (h.symm.trans hgc) dE⟩
    | 17,_,hoq=>
     cases sI hoq;replace hb12:=hb12.tr0 hs;have e49:gg 49= .bool (!sub l yn on):=hd 7 (zz kR);have d16:(((!sub l yn on))=false→gg 58= .pointer (some ⟨b12,2,none⟩))∧(((!sub l yn on))=true→gg 58=undef):=hd 16 (zz kR);refine zx 49 ((!sub l yn on)) rfl e49 (fun hgc=>?_) (fun hgc=>⟨fun h=>absurd (h.symm.trans hgc) dE,fun _=>rfl⟩);have e58:=d16.1 hgc;refine z4 49 (.bool (!sub l yn on)) e49 nu (z4 58 (.pointer (some ⟨b12,2,none⟩)) e58 nu ?_);exact oV (qk (v:= .int _ _) U3 rfl rfl (hb12.cell rfl)) ⟨fun _=>rfl,fun h=>absurd (h.symm.trans hgc) dE⟩
    | 18,_,hoq=>
     cases sI hoq;replace hB:=hB.tr0 hs;have e49:gg 49= .bool (!sub l yn on):=hd 7 (zz kR);have d8:(((!sub l yn on))=false→gg 50=VQ l.length bu bd)∧(((!sub l yn on))=true→gg 50=undef):=hd 8 (zz kR);have d15:(((!sub l yn on))=false→gg 57= .int .i64 (zn:Nat))∧(((!sub l yn on))=true→gg 57=undef):=hd 15 (zz kR);have d17:(((!sub l yn on))=false→gg 59= .int .i64 (vn:Nat))∧(((!sub l yn on))=true→gg 59=undef):=hd 17 (zz kR);refine zx 49 ((!sub l yn on)) rfl e49 (fun hgc=>?_) (fun hgc=>⟨fun h=>absurd (h.symm.trans hgc) dE,fun _=>rfl⟩);have e50:=d8.1 hgc;have e57:=d15.1 hgc;have e59:=d17.1 hgc;refine z4 49 (.bool (!sub l yn on)) e49 nu (z4 50 (VQ l.length bu bd) e50 (by simp [undef,VQ]) (z4 57 (.int .i64 (zn:Nat)) e57 nu (z4 59 (.int .i64 (vn:Nat)) e59 nu ?_)));refine qx fn66 (CW l bu bd zn vn wx (hI.mono hB) h60 hznl hvnl) rfl (fun e' w2 hr=>?_);obtain⟨rfl,hs⟩:=hr;exact⟨_,rfl,sB hs,⟨fun _=>rfl,fun h=>absurd (h.symm.trans hgc) dE⟩,zX⟩
    | 19,_,hoq=>
     cases sI hoq;have e49:gg 49= .bool (!sub l yn on):=hd 7 (zz kR);have d18:(((!sub l yn on))=false→gg 60= .bool (sub l zn vn))∧(((!sub l yn on))=true→gg 60=undef):=hd 18 (zz kR);refine zx 49 ((!sub l yn on)) rfl e49 (fun hgc=>?_) (fun hgc=>⟨fun h=>absurd (h.symm.trans hgc) dE,fun _=>rfl⟩);have e60:=d18.1 hgc;refine z4 49 (.bool (!sub l yn on)) e49 nu (z4 60 (.bool (sub l zn vn)) e60 nu ?_);exact oV (gJ rfl) ⟨fun _=>rfl,fun h=>absurd (h.symm.trans hgc) dE⟩
    | 20,_,hoq=>
     cases sI hoq;have e49:gg 49= .bool (!sub l yn on):=hd 7 (zz kR);have d19:(((!sub l yn on))=false→gg 61= .bool (!sub l zn vn))∧(((!sub l yn on))=true→gg 61=undef):=hd 19 (zz kR);refine⟨fun _=>?_,fun hw=>Bool.noConfusion (show true=false from hw)⟩;cases hcc:(!sub l yn on) with
     | true=>
      rw [hcc] at e49;refine z4 49 (.bool true) e49 nu ?_;exact oV (Q9 (v:= .bool _) rfl rfl) rfl
     | false=>
      have e61:=d19.1 hcc;rw [hcc] at e49;refine z4 49 (.bool false) e49 nu (z4 61 (.bool (!sub l zn vn)) e61 nu ?_);exact oV (Qz (v:= .bool _) rfl rfl) rfl
    | _ + 21,hix,_=>exact absurd hix om
   intro gg w17 hs hR hdis;replace hB:=hB.tr0 hs;replace hb3:=hb3.tr0 hs;replace hb4:=hb4.tr0 hs;replace hb5:=hb5.tr0 hs;replace hb6:=hb6.tr0 hs;replace hb9:=hb9.tr0 hs;refine qK 62 (.bool (!sub l yn on || !sub l zn vn)) (hR 20 dE) nu (zZ (e_S ?_));refine j7 rfl (fun c62=>?_) (fun c62=>?_)
   ·have hty:=W9 hlt hlj (hlty.trans c62);refine zn3 ?_;refine zV fn67 (ov _ _ _) rfl (fun e' w18 hr=>?_);obtain⟨rfl,hs⟩:=hr;replace hs:=sB hs;replace hB:=hB.tr0 hs;replace hb6:=hb6.tr0 hs;refine⟨_,rfl,?_⟩;refine zk hb6 rfl rfl zq rfl zK (fun w19 hq hs=>?_);replace hB:=hB.tr1 hs lo6;replace hb6:=hq;refine yj ?_;refine x5 (.inl rfl) rfl (zy U37 rfl rfl hb6.range0 zq) ?_;exact⟨qQ (wi_ty hl0 (hU.trans (qV (c:=12) om hty dE))),hB⟩
   refine zn7 ?_;refine xv ((gr[k]'hlt).ln.length - (j + 1)) om agA ?_;rw [← hyn] at hb9
   exact⟨j + 1,by omega,rfl,rfl,hB,hb3,hb4,hb5,hb6,hb9,fun j' hj' h=>by
     by_cases e:j'=j
     · subst e;rw [hlty];simpa using c62
     · exact hN j' hj' om⟩
  have hun:=tyN_no hlt (fun j' hj'=>hN j' hj' om);refine yq ?_;refine xv (gr.length - (k + 1)) om agA ?_;exact⟨k + 1,by omega,rfl,rfl,hB,hb3,hb4,hb5,hb6,hU.trans (yx hlt hun)⟩
 have hT0:=hU.trans (yK om);refine zn9 ?_;refine zV fn68 (unr_any G cg l.length fs.length gr _ (hG.mono hB) hk0) rfl (fun e' w20 hr=>?_);obtain⟨rfl,hs⟩:=hr;replace hs:=sB hs;replace hB:=hB.tr0 hs;replace hb6:=hb6.tr0 hs;refine⟨_,rfl,?_⟩;refine zn9 ?_;refine zw rfl (fun c70=>?_) (fun c70=>?_)
 ·refine zn3 ?_;refine zV fn67 (ov _ _ _) rfl (fun e' w21 hr=>?_);obtain⟨rfl,hs⟩:=hr;replace hs:=sB hs;replace hB:=hB.tr0 hs;replace hb6:=hb6.tr0 hs;refine⟨_,rfl,?_⟩;refine zk hb6 rfl rfl zq rfl zK (fun w22 hq hs=>?_);replace hB:=hB.tr1 hs lo6;replace hb6:=hq;refine zn4 ?_;refine x5 (.inl rfl) rfl (zy U37 rfl rfl hb6.range0 zq) ?_;exact⟨qQ (wi_unr hl0 hT0 om),hB⟩
 refine zn4 ?_;refine wl (uw (vs:=#[]) (cs:=#[.int .i64 0,.int .i64 0]) (by simp) kR) ?_;refine zk hb6 rfl rfl zq rfl zK (fun w23 hq hs=>?_);replace hB:=hB.tr1 hs lo6;replace hb6:=hq;refine zn3 ?_;refine x5 (.inl rfl) rfl (zy U37 rfl rfl hb6.range0 zq) ?_;exact⟨qQ (Ev hl0 hT0 om),hB⟩
set_option maxHeartbeats 1000000 in
theorem DJ (A B G:Option Addr) (c d cg:Nat) (l:List Ty) (fs:List Ft) (gr:List Nd) (w:World) (hT:TypesIn w A l) (hv:VT l) (h60:l.length≤60) (hF:FeatsIn w B fs) (hG:NodesIn w G gr) (hfo:FOk l.length fs):Calls Tryz.prog 14 #[.agg #[.slice A l.length c,.slice B fs.length d],.agg #[.slice G gr.length cg]] w fun e w'=>e= .returned (flV (y9 l fs gr))∧Bel w w':=by
 refine enter Tryz.func14 Tryz.ntmps14 rfl (Nat.le_of_ble_eq_true rfl) ?_;have hB:Bel w w:=Below.refl _ _;refine zn2 ?_;refine qW (v:= .agg #[_,_]) (cs:=#[_,_]) rfl rfl (fun b2 w1 hb2 hs hr=>?_);replace hB:=hB.tr0 hs;refine qW (v:= .agg #[_]) (cs:=#[_]) rfl rfl (fun b3 w2 hb3 hs hr=>?_);replace hB:=hB.tr0 hs;replace hb2:=hb2.tr0 hs;refine qZ (cs:=#[.int .i64 0,.int .i64 0]) zY rfl (fun b4 w3 hb4 hs hr=>?_);have lo4:=nLT (Bel.size hB) hr;replace hB:=hB.tr0 hs;replace hb2:=hb2.tr0 hs;replace hb3:=hb3.tr0 hs;refine zn7 ?_;refine zV fn45 (RX A B G c d cg l fs gr _ (hG.mono hB)) rfl (fun e' w4 hr=>?_);obtain⟨rfl,hs⟩:=hr;replace hs:=sB hs;replace hB:=hB.tr0 hs;replace hb2:=hb2.tr0 hs;replace hb3:=hb3.tr0 hs;replace hb4:=hb4.tr0 hs;refine⟨_,rfl,?_⟩;refine xV (cs:=#[.int .i64 0,.int .i64 0]) zY rfl (fun _=>rfl) (fun _=>rfl) zq rfl zK (fun b5 w6 hb5 hs hr=>?_);replace hB:=hB.tr0 hs;replace hb2:=hb2.tr0 hs;replace hb3:=hb3.tr0 hs;replace hb4:=hb4.tr0 hs;refine zn9 ?_;refine zw rfl (fun c17=>?_) (fun c17=>?_)
 ·refine zn3 ?_;refine zk hb4 rfl rfl zq rfl zK (fun w7 hq hs=>?_);replace hB:=hB.tr1 hs lo4;replace hb4:=hq;refine zn4 ?_;refine x5 (.inl rfl) rfl (zy U37 rfl rfl hb4.range0 zq) ?_;exact⟨qQ (M4 c17),hB⟩
 have hl0:=Decidable.not_not.1 c17;have hk0:=DY hl0;have hk6:=hk0.le;refine yj ?_;refine q8 [6,7,9,10,22,23,24,25,26,27,28,29,30,31,32,33,34,35,36,37,38,39,40,41,42,43,44,45,46,47,48,49,50,51,52,53,54,55,56,57,58,59,60,61,62,63,64,65,66] (fun m g w'=>∃ k:Nat,k≤gr.length∧m=gr.length - k∧g 22= .int .i64 k∧Bel w w'∧Blk w' b2 25 #[.slice A l.length c,.slice B fs.length d]∧Blk w' b3 30 #[.slice G gr.length cg]∧Blk w' b4 37 #[.int .i64 0,.int .i64 0]∧tyF l fs gr=qy (tyN l fs gr) k (gr.length - k)) (gr.length) ?_ (fun m g5 w8 hI=>?_)
 ·exact⟨0,Nat.zero_le _,rfl,rfl,hB,hb2,hb3,hb4,rfl⟩
 obtain⟨k,hk,hm,hkk,hB,hb2,hb3,hb4,hU⟩:=hI;refine zJ 22 (.int .i64 k) hkk nu (zn6 ?_);refine zw rfl (fun c23=>?_) (fun c23=>?_)
 ·have hlt:k < gr.length:=by omega
  obtain⟨nb,no,LA,lc,rfl,hnb,hnr,hln⟩:=hG.at_ hB hlt;have hmx:=hln.1;unfold yJ at hmx;refine zn8 ?_;refine wl (zW YK rfl rfl hnr Zw) ?_;refine qZ (cs:=#[.int .i64 0,.slice none 0 0]) Cw rfl (fun b7 w9 hb7 hs hr=>?_);have:=nLL hb2.lt hr;have:=nLL hb3.lt hr;have:=nLL hb4.lt hr;have lo7:=nLT (Bel.size hB) hr;replace hB:=hB.tr0 hs;replace hb2:=hb2.tr0 hs;replace hb3:=hb3.tr0 hs;replace hb4:=hb4.tr0 hs;refine waI rfl ?_;refine zk hb7 rfl rfl Zw rfl zK (fun w10 hq hs=>?_);replace hB:=hB.tr1 hs lo7;replace hb2:=hb2.tr1 hs om;replace hb3:=hb3.tr1 hs om;replace hb4:=hb4.tr1 hs om;replace hb7:=hq;refine vx ?_;refine q8 [9,10,30,31,32,33,34,35,36,37,38,39,40,41,42,43,44,45,46,47,48,49,50,51,52,53,54,55,56,57,58,59,60,61,62,63,64,65] (fun m g w'=>∃ j:Nat,j≤(gr[k]'hlt).ln.length∧m=(gr[k]'hlt).ln.length - j∧g 30= .int .i64 j∧Bel w w'∧Blk w' b2 25 #[.slice A l.length c,.slice B fs.length d]∧Blk w' b3 30 #[.slice (some ⟨nb,no,none⟩) gr.length cg]∧Blk w' b4 37 #[.int .i64 0,.int .i64 0]∧Blk w' b7 100 #[.int .i64 (gr[k]'hlt).ty,.slice LA (gr[k]'hlt).ln.length lc]∧(∀ j' (hj':j' < (gr[k]'hlt).ln.length),j' < j→F7 l fs gr (gr[k]'hlt).ty ((gr[k]'hlt).ln[j'])=false)) ((gr[k]'hlt).ln.length) ?_ (fun m g8 w11 hI=>?_)
  ·exact⟨0,Nat.zero_le _,rfl,rfl,hB,hb2,hb3,hb4,hb7,fun j' _ h=>by omega⟩
  obtain⟨j,hj,hmj,hjj,hB,hb2,hb3,hb4,hb7,hN⟩:=hI;refine zJ 30 (.int .i64 j) hjj nu (zn6 ?_);refine zw rfl (fun c31=>?_) (fun c31=>?_)
  ·have hlj:j < (gr[k]'hlt).ln.length:=by omega
   obtain⟨lb,lof,rfl,hlb,hlr⟩:=hln.at_ hB hlj;have hxr:=hk0.ln k hlt _ (List.getElem_mem hlj);obtain⟨fi,hfi,hfl⟩:∃ t:Nat,((gr[k]'hlt).ln[j]'hlj).1=(t:Int)∧t < fs.length:=⟨(((gr[k]'hlt).ln[j]'hlj).1).toNat,by omega,by omega⟩
   obtain⟨ti,hti,htl⟩:∃ t:Nat,((gr[k]'hlt).ln[j]'hlj).2=(t:Int)∧t < gr.length:=⟨(((gr[k]'hlt).ln[j]'hlj).2).toNat,by omega,by omega⟩
   obtain⟨yn,hyn,hynl⟩:∃ t:Nat,(gr[k]'hlt).ty=(t:Int)∧t < l.length:=by
     have h:=hk0.ty k hlt;exact⟨(gr[k]'hlt).ty.toNat,by omega,by omega⟩
   obtain⟨zn,hzn,hznl⟩:∃ t:Nat,(gr[ti]'htl).ty=(t:Int)∧t < l.length:=by
     have h:=hk0.ty ti htl;exact⟨(gr[ti]'htl).ty.toNat,by omega,by omega⟩
   have hff:=hfo.at_ fi hfl;obtain⟨on,hon,honl⟩:∃ t:Nat,(fs[fi]'hfl).of=(t:Int)∧t < l.length:=⟨(fs[fi]'hfl).of.toNat,by omega,by omega⟩
   obtain⟨vn,hvn,hvnl⟩:∃ t:Nat,(fs[fi]'hfl).val=(t:Int)∧t < l.length:=⟨(fs[fi]'hfl).val.toNat,by omega,by omega⟩
   obtain⟨fb,fo,rfl,hfb,hfr⟩:=hF.at_ (Below.refl _ _:Bel w w) hfl;obtain⟨nb2,no2,LA2,lc2,he2,hnb2,hnr2,_⟩:=hG.at_ (Below.refl _ _:Bel w w) htl;cases he2;rw [hzn] at hnr2;have hlty:=Hj (l:=l) hfi hfl hti htl hyn hon hvn hzn;refine zn7 ?_;refine wl (zW X3 rfl rfl hlr Zv) ?_;refine xV (cs:=#[.int .i64 0,.int .i64 0]) Nw rfl (fun _=>rfl) (fun _=>rfl) Zv rfl zK (fun b9 w13 hb9 hs hr=>?_);replace hB:=hB.tr0 hs;replace hb2:=hb2.tr0 hs;replace hb3:=hb3.tr0 hs;replace hb4:=hb4.tr0 hs;replace hb7:=hb7.tr0 hs;refine zn3 ?_;rw [hfi,hti] at hb9;refine zn7 ?_;refine xV (cs:=#[.string ⟨#[]⟩,.int .i64 0,.int .i64 0]) Nv rfl (fun _=>rfl) (fun _=>rfl) NX rfl zK (fun b10 w15 hb10 hs hr=>?_);replace hB:=hB.tr0 hs;replace hb2:=hb2.tr0 hs;replace hb3:=hb3.tr0 hs;replace hb4:=hb4.tr0 hs;replace hb7:=hb7.tr0 hs;replace hb9:=hb9.tr0 hs;refine zn3 ?_;rw [hon,hvn] at hb10;rw [hyn] at hb7;refine jW 23 [40,41,42,43,44,45,46,47,48,49,50,51,52,53,54,55,56,57,58,59,60,61,62] (fun _=>false) (fun ix v wv=>match ix with | 0=>v= .pointer (some ⟨b2,0,none⟩) | 1=>v= .slice A l.length c | 2=>v= .pointer (some ⟨b7,0,none⟩) | 3=>v= .int .i64 (yn:Nat) | 4=>v= .pointer (some ⟨b10,1,none⟩) | 5=>v= .int .i64 (on:Nat) | 6=>v= .bool (sub l yn on) | 7=>v= .bool (!sub l yn on) | 8=>v= .bool (!sub l yn on) | 9=>(((!sub l yn on))=false→v= .pointer (some ⟨b2,0,none⟩))∧(((!sub l yn on))=true→v=undef) | 10=>(((!sub l yn on))=false→v= .slice A l.length c)∧(((!sub l yn on))=true→v=undef) | 11=>(((!sub l yn on))=false→v= .pointer (some ⟨b3,0,none⟩))∧(((!sub l yn on))=true→v=undef) | 12=>(((!sub l yn on))=false→v= .slice (some ⟨nb,no,none⟩) gr.length cg)∧(((!sub l yn on))=true→v=undef) | 13=>(((!sub l yn on))=false→v= .pointer (some ⟨b9,1,none⟩))∧(((!sub l yn on))=true→v=undef) | 14=>(((!sub l yn on))=false→v= .int .i64 (ti:Nat))∧(((!sub l yn on))=true→v=undef) | 15=>(((!sub l yn on))=false→v= .pointer (some ⟨nb,no + ti * 2,none⟩))∧(((!sub l yn on))=true→v=undef) | 16=>(((!sub l yn on))=false→v= .pointer (some ⟨nb,no + ti * 2 + 0,none⟩))∧(((!sub l yn on))=true→v=undef) | 17=>(((!sub l yn on))=false→v= .int .i64 (zn:Nat))∧(((!sub l yn on))=true→v=undef) | 18=>(((!sub l yn on))=false→v= .pointer (some ⟨b10,2,none⟩))∧(((!sub l yn on))=true→v=undef) | 19=>(((!sub l yn on))=false→v= .int .i64 (vn:Nat))∧(((!sub l yn on))=true→v=undef) | 20=>(((!sub l yn on))=false→v= .bool (sub l zn vn))∧(((!sub l yn on))=true→v=undef) | 21=>(((!sub l yn on))=false→v= .bool (!sub l zn vn))∧(((!sub l yn on))=true→v=undef) | 22=>v= .bool (!sub l yn on || !sub l zn vn) | _=>True) kR kR ?_ ?_ ?_
   ·intro ix v wv wv2 h hs
    match ix,h with
    | 0,h=>exact h
    | 1,h=>exact h
    | 2,h=>exact h
    | 3,h=>exact h
    | 4,h=>exact h
    | 5,h=>exact h
    | 6,h=>exact h
    | 7,h=>exact h
    | 8,h=>exact h
    | 9,h=>exact h
    | 10,h=>exact h
    | 11,h=>exact h
    | 12,h=>exact h
    | 13,h=>exact h
    | 14,h=>exact h
    | 15,h=>exact h
    | 16,h=>exact h
    | 17,h=>exact h
    | 18,h=>exact h
    | 19,h=>exact h
    | 20,h=>exact h
    | 21,h=>exact h
    | 22,h=>exact h
    | _ + 23,h=>exact trivial
   ·intro ix o hix hoq gg wx hs hd hdis
    match ix,hix,hoq with
    | 0,_,hoq=>
     cases sI hoq;refine⟨fun _=>?_,fun hw=>Bool.noConfusion (show true=false from hw)⟩;exact oV (vX U25 I4 dE rfl rfl rfl) rfl
    | 1,_,hoq=>
     cases sI hoq;replace hb2:=hb2.tr0 hs;refine⟨fun _=>?_,fun hw=>Bool.noConfusion (show true=false from hw)⟩;refine z4 40 (.pointer (some ⟨b2,0,none⟩)) (hd 0 (zz kR)) nu ?_;exact oV (qk (v:= .slice _ _ _) U22 rfl rfl (hb2.cell rfl)) rfl
    | 2,_,hoq=>
     cases sI hoq;refine⟨fun _=>?_,fun hw=>Bool.noConfusion (show true=false from hw)⟩;exact oV (vX YK qw dE rfl rfl rfl) rfl
    | 3,_,hoq=>
     cases sI hoq;replace hb7:=hb7.tr0 hs;refine⟨fun _=>?_,fun hw=>Bool.noConfusion (show true=false from hw)⟩;refine z4 42 (.pointer (some ⟨b7,0,none⟩)) (hd 2 (zz kR)) nu ?_;exact oV (qk (v:= .int _ _) U3 rfl rfl (hb7.cell rfl)) rfl
    | 4,_,hoq=>
     cases sI hoq;refine⟨fun _=>?_,fun hw=>Bool.noConfusion (show true=false from hw)⟩;exact oV (vX U71 qw dE rfl rfl rfl) rfl
    | 5,_,hoq=>
     cases sI hoq;replace hb10:=hb10.tr0 hs;refine⟨fun _=>?_,fun hw=>Bool.noConfusion (show true=false from hw)⟩;refine z4 44 (.pointer (some ⟨b10,1,none⟩)) (hd 4 (zz kR)) nu ?_;exact oV (qk (v:= .int _ _) U3 rfl rfl (hb10.cell rfl)) rfl
    | 6,_,hoq=>
     cases sI hoq;replace hB:=hB.tr0 hs;refine⟨fun _=>?_,fun hw=>Bool.noConfusion (show true=false from hw)⟩;refine z4 41 (.slice A l.length c) (hd 1 (zz kR)) nu (z4 43 (.int .i64 (yn:Nat)) (hd 3 (zz kR)) nu (z4 45 (.int .i64 (on:Nat)) (hd 5 (zz kR)) nu ?_));refine qx E8 (EY A c l yn on wx (hT.mono hB) hv h60 hynl honl) rfl (fun e' w2 hr=>?_);obtain⟨rfl,hs⟩:=hr;exact⟨_,rfl,sB hs,rfl,zX⟩
    | 7,_,hoq=>
     cases sI hoq;refine⟨fun _=>?_,fun hw=>Bool.noConfusion (show true=false from hw)⟩;refine z4 46 (.bool (sub l yn on)) (hd 6 (zz kR)) nu ?_;exact oV (gJ rfl) rfl
    | 8,_,hoq=>
     cases sI hoq;refine⟨fun _=>?_,fun hw=>Bool.noConfusion (show true=false from hw)⟩;refine z4 47 (.bool (!sub l yn on)) (hd 7 (zz kR)) nu ?_;exact oV (x9 (v:= .bool _) rfl) rfl
    | 9,_,hoq=>
     cases sI hoq;have e48:gg 48= .bool (!sub l yn on):=hd 8 (zz kR);refine zx 48 ((!sub l yn on)) rfl e48 (fun hgc=>?_) (fun hgc=>⟨fun h=>absurd (h.symm.trans hgc) dE,fun _=>rfl⟩);refine z4 48 (.bool (!sub l yn on)) e48 nu ?_;exact oV (vX U25 I4 dE rfl rfl rfl) ⟨fun _=>rfl,fun h=>absurd (h.symm.trans hgc) dE⟩
    | 10,_,hoq=>
     cases sI hoq;replace hb2:=hb2.tr0 hs;have e48:gg 48= .bool (!sub l yn on):=hd 8 (zz kR);have d9:(((!sub l yn on))=false→gg 49= .pointer (some ⟨b2,0,none⟩))∧(((!sub l yn on))=true→gg 49=undef):=hd 9 (zz kR);refine zx 48 ((!sub l yn on)) rfl e48 (fun hgc=>?_) (fun hgc=>⟨fun h=>absurd (h.symm.trans hgc) dE,fun _=>rfl⟩);have e49:=d9.1 hgc;refine z4 48 (.bool (!sub l yn on)) e48 nu (z4 49 (.pointer (some ⟨b2,0,none⟩)) e49 nu ?_);exact oV (qk (v:= .slice _ _ _) U22 rfl rfl (hb2.cell rfl)) ⟨fun _=>rfl,fun h=>absurd (h.symm.trans hgc) dE⟩
    | 11,_,hoq=>
     cases sI hoq;have e48:gg 48= .bool (!sub l yn on):=hd 8 (zz kR);refine zx 48 ((!sub l yn on)) rfl e48 (fun hgc=>?_) (fun hgc=>⟨fun h=>absurd (h.symm.trans hgc) dE,fun _=>rfl⟩);refine z4 48 (.bool (!sub l yn on)) e48 nu ?_;exact oV (vX U30 sz28 dE rfl rfl rfl) ⟨fun _=>rfl,fun h=>absurd (h.symm.trans hgc) dE⟩
    | 12,_,hoq=>
     cases sI hoq;replace hb3:=hb3.tr0 hs;have e48:gg 48= .bool (!sub l yn on):=hd 8 (zz kR);have d11:(((!sub l yn on))=false→gg 51= .pointer (some ⟨b3,0,none⟩))∧(((!sub l yn on))=true→gg 51=undef):=hd 11 (zz kR);refine zx 48 ((!sub l yn on)) rfl e48 (fun hgc=>?_) (fun hgc=>⟨fun h=>absurd (h.symm.trans hgc) dE,fun _=>rfl⟩);have e51:=d11.1 hgc;refine z4 48 (.bool (!sub l yn on)) e48 nu (z4 51 (.pointer (some ⟨b3,0,none⟩)) e51 nu ?_);exact oV (qk (v:= .slice _ _ _) U28 rfl rfl (hb3.cell rfl)) ⟨fun _=>rfl,fun h=>absurd (h.symm.trans hgc) dE⟩
    | 13,_,hoq=>
     cases sI hoq;have e48:gg 48= .bool (!sub l yn on):=hd 8 (zz kR);refine zx 48 ((!sub l yn on)) rfl e48 (fun hgc=>?_) (fun hgc=>⟨fun h=>absurd (h.symm.trans hgc) dE,fun _=>rfl⟩);refine z4 48 (.bool (!sub l yn on)) e48 nu ?_;exact oV (vX X3 qw dE rfl rfl rfl) ⟨fun _=>rfl,fun h=>absurd (h.symm.trans hgc) dE⟩
    | 14,_,hoq=>
     cases sI hoq;replace hb9:=hb9.tr0 hs;have e48:gg 48= .bool (!sub l yn on):=hd 8 (zz kR);have d13:(((!sub l yn on))=false→gg 53= .pointer (some ⟨b9,1,none⟩))∧(((!sub l yn on))=true→gg 53=undef):=hd 13 (zz kR);refine zx 48 ((!sub l yn on)) rfl e48 (fun hgc=>?_) (fun hgc=>⟨fun h=>absurd (h.symm.trans hgc) dE,fun _=>rfl⟩);have e53:=d13.1 hgc;refine z4 48 (.bool (!sub l yn on)) e48 nu (z4 53 (.pointer (some ⟨b9,1,none⟩)) e53 nu ?_);exact oV (qk (v:= .int _ _) U3 rfl rfl (hb9.cell rfl)) ⟨fun _=>rfl,fun h=>absurd (h.symm.trans hgc) dE⟩
    | 15,_,hoq=>
     cases sI hoq;have e48:gg 48= .bool (!sub l yn on):=hd 8 (zz kR);have d12:(((!sub l yn on))=false→gg 52= .slice (some ⟨nb,no,none⟩) gr.length cg)∧(((!sub l yn on))=true→gg 52=undef):=hd 12 (zz kR);have d14:(((!sub l yn on))=false→gg 54= .int .i64 (ti:Nat))∧(((!sub l yn on))=true→gg 54=undef):=hd 14 (zz kR);refine zx 48 ((!sub l yn on)) rfl e48 (fun hgc=>?_) (fun hgc=>⟨fun h=>absurd (h.symm.trans hgc) dE,fun _=>rfl⟩);have e52:=d12.1 hgc;have e54:=d14.1 hgc;refine z4 48 (.bool (!sub l yn on)) e48 nu (z4 52 (.slice (some ⟨nb,no,none⟩) gr.length cg) e52 nu (z4 54 (.int .i64 (ti:Nat)) e54 nu ?_));exact oV (yQ (i:=ti) U28 Zw rfl rfl om rfl) ⟨fun _=>rfl,fun h=>absurd (h.symm.trans hgc) dE⟩
    | 16,_,hoq=>
     cases sI hoq;have e48:gg 48= .bool (!sub l yn on):=hd 8 (zz kR);have d15:(((!sub l yn on))=false→gg 55= .pointer (some ⟨nb,no + ti * 2,none⟩))∧(((!sub l yn on))=true→gg 55=undef):=hd 15 (zz kR);refine zx 48 ((!sub l yn on)) rfl e48 (fun hgc=>?_) (fun hgc=>⟨fun h=>absurd (h.symm.trans hgc) dE,fun _=>rfl⟩);have e55:=d15.1 hgc;refine z4 48 (.bool (!sub l yn on)) e48 nu (z4 55 (.pointer (some ⟨nb,no + ti * 2,none⟩)) e55 nu ?_);exact oV (vX YK qw dE rfl rfl rfl) ⟨fun _=>rfl,fun h=>absurd (h.symm.trans hgc) dE⟩
    | 17,_,hoq=>
     cases sI hoq;replace hB:=hB.tr0 hs;have e48:gg 48= .bool (!sub l yn on):=hd 8 (zz kR);have d16:(((!sub l yn on))=false→gg 56= .pointer (some ⟨nb,no + ti * 2 + 0,none⟩))∧(((!sub l yn on))=true→gg 56=undef):=hd 16 (zz kR);refine zx 48 ((!sub l yn on)) rfl e48 (fun hgc=>?_) (fun hgc=>⟨fun h=>absurd (h.symm.trans hgc) dE,fun _=>rfl⟩);have e56:=d16.1 hgc;refine z4 48 (.bool (!sub l yn on)) e48 nu (z4 56 (.pointer (some ⟨nb,no + ti * 2 + 0,none⟩)) e56 nu ?_);exact oV (qk (v:= .int _ _) U3 rfl rfl (hB.cell hnb2 (hnr2 0 _ rfl))) ⟨fun _=>rfl,fun h=>absurd (h.symm.trans hgc) dE⟩
    | 18,_,hoq=>
     cases sI hoq;have e48:gg 48= .bool (!sub l yn on):=hd 8 (zz kR);refine zx 48 ((!sub l yn on)) rfl e48 (fun hgc=>?_) (fun hgc=>⟨fun h=>absurd (h.symm.trans hgc) dE,fun _=>rfl⟩);refine z4 48 (.bool (!sub l yn on)) e48 nu ?_;exact oV (vX U71 qw dE rfl rfl rfl) ⟨fun _=>rfl,fun h=>absurd (h.symm.trans hgc) dE⟩
    | 19,_,hoq=>
     cases sI hoq;replace hb10:=hb10.tr0 hs;have e48:gg 48= .bool (!sub l yn on):=hd 8 (zz kR);have d18:(((!sub l yn on))=false→gg 58= .pointer (some ⟨b10,2,none⟩))∧(((!sub l yn on))=true→gg 58=undef):=hd 18 (zz kR);refine zx 48 ((!sub l yn on)) rfl e48 (fun hgc=>?_) (fun hgc=>⟨fun h=>absurd (h.symm.trans hgc) dE,fun _=>rfl⟩);have e58:=d18.1 hgc;refine z4 48 (.bool (!sub l yn on)) e48 nu (z4 58 (.pointer (some ⟨b10,2,none⟩)) e58 nu ?_);exact oV (qk (v:= .int _ _) U3 rfl rfl (hb10.cell rfl)) ⟨fun _=>rfl,fun h=>absurd (h.symm.trans hgc) dE⟩
    | 20,_,hoq=>
     cases sI hoq;replace hB:=hB.tr0 hs;have e48:gg 48= .bool (!sub l yn on):=hd 8 (zz kR);have d10:(((!sub l yn on))=false→gg 50= .slice A l.length c)∧(((!sub l yn on))=true→gg 50=undef):=hd 10 (zz kR);have d17:(((!sub l yn on))=false→gg 57= .int .i64 (zn:Nat))∧(((!sub l yn on))=true→gg 57=undef):=hd 17 (zz kR);have d19:(((!sub l yn on))=false→gg 59= .int .i64 (vn:Nat))∧(((!sub l yn on))=true→gg 59=undef):=hd 19 (zz kR);refine zx 48 ((!sub l yn on)) rfl e48 (fun hgc=>?_) (fun hgc=>⟨fun h=>absurd (h.symm.trans hgc) dE,fun _=>rfl⟩);have e50:=d10.1 hgc;have e57:=d17.1 hgc;have e59:=d19.1 hgc;refine z4 48 (.bool (!sub l yn on)) e48 nu (z4 50 (.slice A l.length c) e50 nu (z4 57 (.int .i64 (zn:Nat)) e57 nu (z4 59 (.int .i64 (vn:Nat)) e59 nu ?_)));refine qx E8 (EY A c l zn vn wx (hT.mono hB) hv h60 hznl hvnl) rfl (fun e' w2 hr=>?_);obtain⟨rfl,hs⟩:=hr;exact⟨_,rfl,sB hs,⟨fun _=>rfl,fun h=>absurd (h.symm.trans hgc) dE⟩,zX⟩
    | 21,_,hoq=>
     cases sI hoq;have e48:gg 48= .bool (!sub l yn on):=hd 8 (zz kR);have d20:(((!sub l yn on))=false→gg 60= .bool (sub l zn vn))∧(((!sub l yn on))=true→gg 60=undef):=hd 20 (zz kR);refine zx 48 ((!sub l yn on)) rfl e48 (fun hgc=>?_) (fun hgc=>⟨fun h=>absurd (h.symm.trans hgc) dE,fun _=>rfl⟩);have e60:=d20.1 hgc;refine z4 48 (.bool (!sub l yn on)) e48 nu (z4 60 (.bool (sub l zn vn)) e60 nu ?_);exact oV (gJ rfl) ⟨fun _=>rfl,fun h=>absurd (h.symm.trans hgc) dE⟩
    | 22,_,hoq=>
     cases sI hoq;have e48:gg 48= .bool (!sub l yn on):=hd 8 (zz kR);have d21:(((!sub l yn on))=false→gg 61= .bool (!sub l zn vn))∧(((!sub l yn on))=true→gg 61=undef):=hd 21 (zz kR);refine⟨fun _=>?_,fun hw=>Bool.noConfusion (show true=false from hw)⟩;cases hcc:(!sub l yn on) with
     | true=>
      rw [hcc] at e48;refine z4 48 (.bool true) e48 nu ?_;exact oV (Q9 (v:= .bool _) rfl rfl) rfl
     | false=>
      have e61:=d21.1 hcc;rw [hcc] at e48;refine z4 48 (.bool false) e48 nu (z4 61 (.bool (!sub l zn vn)) e61 nu ?_);exact oV (Qz (v:= .bool _) rfl rfl) rfl
    | _ + 23,hix,_=>exact absurd hix om
   intro gg w16 hs hR hdis;replace hB:=hB.tr0 hs;replace hb2:=hb2.tr0 hs;replace hb3:=hb3.tr0 hs;replace hb4:=hb4.tr0 hs;replace hb7:=hb7.tr0 hs;refine qK 62 (.bool (!sub l yn on || !sub l zn vn)) (hR 22 dE) nu (zZ (e_S ?_));refine j7 rfl (fun c62=>?_) (fun c62=>?_)
   ·have hty:=W9 hlt hlj (hlty.trans c62);refine zn3 ?_;refine wl (yz (v0:= .int _ _) (v1:= .int _ _) (fun v0 v1=>#[v0,v1]) rfl rfl kR) ?_;refine zk hb4 rfl rfl zq rfl zK (fun w17 hq hs=>?_);replace hB:=hB.tr1 hs lo4;replace hb4:=hq;refine yj ?_;refine x5 (.inl rfl) rfl (zy U37 rfl rfl hb4.range0 zq) ?_;exact⟨qQ (wi_ty hl0 (hU.trans (qV (c:=12) om hty dE))),hB⟩
   refine zn7 ?_;refine xv ((gr[k]'hlt).ln.length - (j + 1)) om agA ?_;rw [← hyn] at hb7
   exact⟨j + 1,by omega,rfl,rfl,hB,hb2,hb3,hb4,hb7,fun j' hj' h=>by
     by_cases e:j'=j
     · subst e;rw [hlty];simpa using c62
     · exact hN j' hj' om⟩
  have hun:=tyN_no hlt (fun j' hj'=>hN j' hj' om);refine yq ?_;refine xv (gr.length - (k + 1)) om agA ?_;exact⟨k + 1,by omega,rfl,rfl,hB,hb2,hb3,hb4,hU.trans (yx hlt hun)⟩
 have hT0:=hU.trans (yK om);refine zn9 ?_;refine zV fn47 (runr_any G cg l.length fs.length gr _ (hG.mono hB) hk0) rfl (fun e' w18 hr=>?_);obtain⟨rfl,hs⟩:=hr;replace hs:=sB hs;replace hB:=hB.tr0 hs;replace hb4:=hb4.tr0 hs;refine⟨_,rfl,?_⟩;refine zn9 ?_;refine zw rfl (fun c70=>?_) (fun c70=>?_)
 ·refine zn3 ?_;refine wl (yz (v0:= .int _ _) (v1:= .int _ _) (fun v0 v1=>#[v0,v1]) rfl rfl kR) ?_;refine zk hb4 rfl rfl zq rfl zK (fun w19 hq hs=>?_);replace hB:=hB.tr1 hs lo4;replace hb4:=hq;refine zn4 ?_;refine x5 (.inl rfl) rfl (zy U37 rfl rfl hb4.range0 zq) ?_;exact⟨qQ (wi_unr hl0 hT0 om),hB⟩
 refine zn4 ?_;refine wl (uw (vs:=#[]) (cs:=#[.int .i64 0,.int .i64 0]) (by simp) kR) ?_;refine zk hb4 rfl rfl zq rfl zK (fun w20 hq hs=>?_);replace hB:=hB.tr1 hs lo4;replace hb4:=hq;refine zn3 ?_;refine x5 (.inl rfl) rfl (zy U37 rfl rfl hb4.range0 zq) ?_;exact⟨qQ (Ev hl0 hT0 om),hB⟩
end Go.Proofs.YtdkfnakncaggoaaGreatDoor
namespace Go.Proofs.YtdkfnakncaggoaaGreatDoor
open Go.RowKit
theorem qv {w:World} {b t:Nat} (xs:List Int) (h:Blk w b t (xs.map (Value.int .i64)).toArray) (hl:xs.length≤yJ):IntsIn w (some ⟨b,0,none⟩) xs:=
  ⟨hl,fun _=>⟨b,0,rfl,h.lt,fun k hk=>h.cell (by simp [hk])⟩⟩
theorem C3 {w:World} {b t:Nat} (fs:List Ft) (h:Blk w b t (fs.flatMap (fun f=>[Value.string f.name,.int .i64 f.of,.int .i64 f.val])).toArray) (hl:fs.length≤yJ):FeatsIn w (some ⟨b,0,none⟩) fs:=by
  refine⟨hl,fun _=>⟨b,0,rfl,h.lt,fun k hk=>?_⟩⟩;have key:∀ (l:List Ft) (k:Nat) (hk:k < l.length) (j:Nat) (v:Value),[Value.string (l[k]).name,.int .i64 (l[k]).of,.int .i64 (l[k]).val][j]? =some v→(l.flatMap (fun f=>[Value.string f.name,.int .i64 f.of,.int .i64 f.val]))[k * 3 + j]? =some v:=by
    intro l
    induction l with
    | nil=>intro k hk;simp at hk
    | cons a r ih=>
      intro k hk j v hj
      match k,hk with
      | 0,_=>
        have hj3:j < 3:=(List.getElem?_eq_some_iff.1 hj).1;rw [List.flatMap_cons,List.getElem?_append_left (by simpa using hj3)]
        simpa using hj
      | k + 1,hk=>
        rw [List.flatMap_cons,List.getElem?_append_right (by simp;omega)];have:=ih k (by simpa using hk) j v hj;have e:(k + 1) * 3 + j - [Value.string a.name,.int .i64 a.of,.int .i64 a.val].length=k * 3 + j:=by simp;omega
        rw [e];exact this
  intro j v hj;have:=key fs k hk j v hj;exact h.cell (by simpa using this)
inductive TyVs (w:World):List Ty→List Value→Prop
  | nil:TyVs w [] []
  | cons {t:Ty} {l:List Ty} {vs:List Value} {A:Option Addr} {c:Nat} (h:IntsIn w A t.par) (r:TyVs w l vs):TyVs w (t :: l) (.string t.name :: .slice A t.par.length c :: vs)
theorem TyVs.get {w:World} {l:List Ty} {vs:List Value} (h:TyVs w l vs):∀ k (hk:k < l.length),∃ A c,vs[k * 2]? =some (.string (l[k]).name)∧vs[k * 2 + 1]? =some (.slice A (l[k]).par.length c)∧IntsIn w A (l[k]).par:=by
  induction h with
  | nil=>intro k hk;simp at hk
  | cons h r ih=>
    intro k hk
    match k,hk with
    | 0,_=>exact⟨_,_,rfl,rfl,h⟩
    | k + 1,hk=>
      obtain⟨A,c,h1,h2,h3⟩:=ih k (by simpa using hk);refine⟨A,c,?_,?_,h3⟩
      · rw [show (k + 1) * 2=k * 2 + 1 + 1 from by omega];simpa using h1
      · rw [show (k + 1) * 2 + 1=k * 2 + 1 + 1 + 1 from by omega];simpa using h2
end Go.Proofs.YtdkfnakncaggoaaGreatDoor
namespace Go.Proofs.YtdkfnakncaggoaaGreatDoor
open Go.RowKit
section eng4
variable {P:Program} {Q:Exit→Act→World→Prop} {n:Nat} {f:Fr} {w w':World} {ops:Array Oper} {rest:List Oper} {d:Tmp} {ty t e:TypeId} {pos:String} {af:Array Edge} {x y:Operand}
theorem r_nc {dst:Option Tmp} {gd:Option (Nat×Bool)} {a:Addr} (hx:ev n f x= .pointer (some a)):
    RV P n f w ⟨dst,.nilCheck x,ty,pos,af,gd⟩ (.pointer (some a)) w:=by simp [RV,execOp,hx]
variable {base sz k cap:Nat} {A:Option Addr} {xs:List Value}
theorem Own.open_ (h:Own w base e sz A k cap xs) (hk:0 < k):∃ (g:Nat) (cur:Array Value),A=some ⟨g,0,none⟩∧base≤g∧Blk w g e cur∧k * sz≤cur.size∧(∀ j,j < k * sz→cur[j]? =xs[j]?)∧∀ w1 o v,Blk w1 g e (cur.setIfInBounds o v)→Own w1 base e sz (some ⟨g,0,none⟩) k cap (xs.set o v):=by
  rcases h.2 with ⟨_,hn⟩ | ⟨g,c,cur,hv,hb,hg,hkc,hm,hs,ht⟩
  · omega
  · cases hv
    have hle:k * sz≤cap * sz:=Nat.mul_le_mul_right sz hkc;refine⟨g,cur,rfl,hb,hg,by omega,fun j hj=>?_,fun w1 o v hw=>⟨by rw [List.length_set];exact h.1,.inr ⟨g,cap,_,rfl,hb,hw,hkc,hm,by rw [Array.size_setIfInBounds];exact hs,?_⟩⟩⟩
    · rw [← ht,List.getElem?_take_of_lt hj];simp
    · rw [Array.toList_setIfInBounds,List.take_set,ht]
theorem own_ne {b1 b2 s1 s2 k1 k2 c1 c2:Nat} {e1 e2:TypeId} {A1 A2:Option Addr} {x1 x2:List Value} (h:Own w b1 e1 s1 A1 k1 c1 x1) (k:Own w b2 e2 s2 A2 k2 c2 x2) (hne:e1≠e2):∀ g ∈ aL A1,¬g ∈ aL A2:=fun g h1 h2=>by
  have ht:∀ {b s k c:Nat} {e:TypeId} {A:Option Addr} {x:List Value},Own w b e s A k c x→g ∈ aL A→∃ cs,Blk w g e cs:=fun h hg=>by
    rcases h.2 with ⟨hv,_⟩ | ⟨g',c',cur,hv,_,hb,_⟩
    · cases hv;cases hg
    · cases hv
      simp only [aL,List.mem_singleton] at hg
      subst hg;exact⟨cur,hb⟩
  obtain⟨c1,q1⟩:=ht h h1
  obtain⟨c2,q2⟩:=ht k h2
  exact hne (jQ q1 q2)
end eng4
end Go.Proofs.YtdkfnakncaggoaaGreatDoor
namespace Go.Proofs.YtdkfnakncaggoaaGreatDoor
open Go.RowKit
def SameQ (X:List Nat) (w w':World):Prop:=Same X w w'
theorem SameQ.trans {X:List Nat} {a b c:World} (h:SameQ X a b) {Y:List Nat} (k:Same Y b c) (hy:∀ g ∈ Y,g ∈ X):SameQ X a c:=Same.trans h (k.weak hy)
structure ChG (Z:Nat→Prop) (w w':World):Prop where
  os:w'.os=w.os
  tape:w'.tape=w.tape
  output:w'.output=w.output
  size:w.heap.size≤w'.heap.size
  blk:∀ k,k < w.heap.size→¬Z k→w'.heap[k]? =w.heap[k]?
theorem ChG.refl (Z:Nat→Prop) (w:World):ChG Z w w:=⟨rfl,rfl,rfl,Nat.le_refl _,fun _ _ _=>rfl⟩
theorem ChG.st {Z:Nat→Prop} {Y:List Nat} {a b c:World} (h:ChG Z a b) (k:Same Y b c) (hy:∀ g ∈ Y,Z g∨a.heap.size≤g):ChG Z a c:=
  ⟨k.os.trans h.os,k.tape.trans h.tape,k.output.trans h.output,nLT h.size k.size,fun i hi hx=>(k.blk i (nLL hi h.size) (fun hm=>(hy i hm).elim hx (fun h2=>by omega))).trans (h.blk i hi hx)⟩
theorem ChG.trans {Z Z':Nat→Prop} {a b c:World} (h:ChG Z a b) (k:ChG Z' b c) (hz:∀ g,Z' g→Z g∨a.heap.size≤g):ChG Z a c:=
  ⟨k.os.trans h.os,k.tape.trans h.tape,k.output.trans h.output,nLT h.size k.size,fun i hi hx=>(k.blk i (nLL hi h.size) (fun hm=>(hz i hm).elim hx (fun h2=>by omega))).trans (h.blk i hi hx)⟩
theorem ChG.one {b:Nat} {w w':World} (h:ChG (fun g=>g=b) w w'):Same [b] w w':=⟨h.os,h.tape,h.output,h.size,fun k hk hx=>h.blk k hk (fun e=>hx (List.mem_singleton.2 e))⟩
theorem Blk.chG {Z:Nat→Prop} {w w':World} {b t:Nat} {cs:Array Value} (h:Blk w b t cs) (hc:ChG Z w w') (hx:¬Z b):Blk w' b t cs:=(hc.blk b h.lt hx).trans h
theorem Bel.chG {Z:Nat→Prop} {w0 w w':World} (h:Bel w0 w) (hc:ChG Z w w') (hz:∀ g,Z g→w0.heap.size≤g):Bel w0 w':=
  ⟨hc.os.trans h.os,hc.tape.trans h.tape,hc.output.trans h.output,nLT h.size hc.size,fun k hk=>(hc.blk k (nLL hk h.size) (fun hm=>by have:=hz k hm;omega)).trans (h.block k hk)⟩
theorem ChG.bel {Z:Nat→Prop} {w w':World} (h:Bel w w'):ChG Z w w':=⟨h.os,h.tape,h.output,h.size,fun k hk _=>h.block k hk⟩
theorem RowO.chG {w w':World} {lo bs g:Nat} {v:Value} {xs:List (Int×Int)} {cs:Array Value} {t:TypeId} (h:RowO w lo bs v xs) (hb:Blk w g t cs) (ht:103≠t) (hc:ChG (fun k=>k=g) w w'):RowO w' lo bs v xs:=by
  obtain⟨A,c,e,h1,h2⟩:=h;refine⟨A,c,e,⟨h1.1,?_⟩,h2⟩;have hty:=h1.typ;rcases h1.2 with hn | ⟨q,c,cur,hv,hbb,hg,r⟩
  · exact .inl hn
  · refine .inr ⟨q,c,cur,hv,hbb,?_,r⟩
    rw [hc.blk q (jk hg) (fun e=>?_)]
    · exact hg
    · subst e;exact ht (jQ hg hb)
def GrT (w:World) (lo hi:Nat) (A:Option Addr) (c:Nat) (gr:List Nd) (T:Nat→Int):Prop:=
  ∃ V:Nat→Value,Own w lo 100 2 A gr.length c (ndV (fun x=> .int .i64 (T x)) V gr.length)∧(∀ g ∈ aL A,g < hi)∧∀ x,x < gr.length→RowO w lo hi (V x) (nd gr x).ln
def Dis (V:Nat→Value) (n:Nat):Prop:=∀ x y,x < n→y < n→x≠y→∀ A m c A' m' c',V x= .slice A m c→V y= .slice A' m' c'→∀ g ∈ aL A,¬g ∈ aL A'
theorem Dis.congr {V V':Nat→Value} {n:Nat} (h:Dis V n) (e:∀ x,x < n→V x=V' x):Dis V' n:=fun x y hx hy hne A m c A' m' c' h1 h2=>h x y hx hy hne A m c A' m' c' ((e x hx).trans h1) ((e y hy).trans h2)
theorem Dis.snoc {V:Nat→Value} {L:Nat→List (Int×Int)} {w:World} {lo bs k n c:Nat} {A:Option Addr} (h:Dis V k) (hr:∀ x,x < k→RowO w lo bs (V x) (L x)) (hg:∀ g ∈ aL A,bs≤g):Dis (fun x=>if x=k then .slice A n c else V x) (k + 1):=fun x y hx hy hne A1 m1 c1 A2 m2 c2 h1 h2 g hg1 hg2=>by
  have far:∀ z,z < k→∀ A3 m3 c3,V z= .slice A3 m3 c3→∀ g ∈ aL A3,g < bs:=fun z hz A3 m3 c3 e g hg=>by
    obtain⟨A4,c4,e4,_,h4⟩:=hr z hz
    rw [e] at e4
    cases e4
    exact h4 g hg
  by_cases e:x=k
  · simp only [e,if_true,Value.slice.injEq] at h1
    by_cases e2:y=k
    · exact hne (by rw [e,e2])
    · simp only [e2,if_false] at h2
      rw [← h1.1] at hg1
      have:=far y om _ _ _ h2 g hg2
      have:=hg g hg1
      omega
  · simp only [e,if_false] at h1
    by_cases e2:y=k
    · simp only [e2,if_true,Value.slice.injEq] at h2
      rw [← h2.1] at hg2
      have:=far x om _ _ _ h1 g hg1
      have:=hg g hg2
      omega
    · simp only [e2,if_false] at h2
      exact h x y om om hne _ _ _ _ _ _ h1 h2 g hg1 hg2
def GrD (w:World) (lo hi:Nat) (A:Option Addr) (c:Nat) (gr:List Nd) (T:Nat→Int):Prop:=
  ∃ V:Nat→Value,Own w lo 100 2 A gr.length c (ndV (fun x=> .int .i64 (T x)) V gr.length)∧(∀ g ∈ aL A,g < hi)∧(∀ x,x < gr.length→RowO w lo hi (V x) (nd gr x).ln)∧Dis V gr.length
section
variable {w w':World} {lo hi c:Nat} {A:Option Addr} {gr:List Nd} {T:Nat→Int}
theorem GrD.mk {base bs m:Nat} {V f:Nat→Value} (ho:Own w base 100 2 A m c (ndV f V m)) (hm:gr.length=m) (hb:lo≤base) (hf:∀ x,x < m→f x= .int .i64 (T x)) (hA:∀ g ∈ aL A,g < hi) (hbs:bs≤hi) (hr:∀ x,x < m→RowO w lo bs (V x) (nd gr x).ln) (hd:Dis V m):GrD w lo hi A c gr T:=by
  subst hm;refine⟨V,?_,hA,fun x hx=>(hr x hx).up hbs,hd⟩;rw [ZW (f':=f) (h':=V) (fun x hx=>(hf x hx).symm) (fun _ _=>rfl)];exact ho.low hb
theorem GrT.cap_le (h:GrT w lo hi A c gr T):gr.length≤c:=by obtain⟨V,ho,_⟩:=h;exact ho.cap_le
theorem GrT.congr (h:GrT w lo hi A c gr T) {T':Nat→Int} (e:∀ i,i < gr.length→T i=T' i):GrT w lo hi A c gr T':=by
  obtain⟨V,ho,hA,hr⟩:=h;exact⟨V,by rw [ZW (f':=fun x=> .int .i64 (T x)) (h':=V) (fun x hx=>by rw [e x hx]) (fun _ _=>rfl)];exact ho,hA,hr⟩
theorem GrT.tr {X:List Nat} (h:GrT w lo hi A c gr T) (hs:Same X w w') (hx:∀ g ∈ X,g < lo∨hi≤g):GrT w' lo hi A c gr T:=by
  obtain⟨V,ho,hA,hr⟩:=h;refine⟨V,ho.tr hs (fun g hg hm=>?_),hA,fun x hxl=>?_⟩
  · have h1:=hx g hm
    have h2:=(ho.lt g hg).1;have h3:=hA g hg;omega
  · obtain⟨A2,c2,e,h1,h2⟩:=hr x hxl
    refine⟨A2,c2,e,h1.tr hs (fun g hg hm=>?_),h2⟩;have h3:=hx g hm;have h4:=(h1.lt g hg).1;have h5:=h2 g hg;omega
theorem GrT.fr {w2:World} (h:GrT w lo hi A c gr T) (hf:FrSame lo w w2):GrT w2 lo hi A c gr T:=by
  obtain⟨V,ho,hA,hr⟩:=h;exact⟨V,ho.fr (Nat.le_refl _) hf,hA,fun x hx=>(hr x hx).fr hf⟩
theorem GrT.up {hi':Nat} (h:GrT w lo hi A c gr T) (hh:hi≤hi'):GrT w lo hi' A c gr T:=by
  obtain⟨V,ho,hA,hr⟩:=h;exact⟨V,ho,fun g hg=>nLL (hA g hg) hh,fun x hx=>(hr x hx).up hh⟩
theorem RowO.low {lo' bs:Nat} {v:Value} {xs:List (Int×Int)} (h:RowO w lo bs v xs) (hl:lo'≤lo):RowO w lo' bs v xs:=by
  obtain⟨A,c,e,h1,h2⟩:=h;exact⟨A,c,e,h1.low hl,h2⟩
theorem GrT.low {lo':Nat} (h:GrT w lo hi A c gr T) (hl:lo'≤lo):GrT w lo' hi A c gr T:=by
  obtain⟨V,ho,hA,hr⟩:=h;exact⟨V,ho.low hl,hA,fun x hx=>(hr x hx).low hl⟩
theorem GrT.mk {base bs m:Nat} {V f:Nat→Value} (ho:Own w base 100 2 A m c (ndV f V m)) (hm:gr.length=m) (hb:lo≤base) (hf:∀ x,x < m→f x= .int .i64 (T x)) (hA:∀ g ∈ aL A,g < hi) (hbs:bs≤hi) (hr:∀ x,x < m→RowO w lo bs (V x) (nd gr x).ln):GrT w lo hi A c gr T:=by
  subst hm;refine⟨V,?_,hA,fun x hx=>(hr x hx).up hbs⟩;rw [ZW (f':=f) (h':=V) (fun x hx=>(hf x hx).symm) (fun _ _=>rfl)];exact ho.low hb
theorem ndV_set0 {f V:Nat→Value} {n k:Nat} {v:Value}:(ndV f V n).set (0 + k * 2 + 0) v=ndV (fun x=>if x=k then v else f x) V n:=by
  refine List.ext_getElem? (fun j=>?_);by_cases hj:j < n * 2
  · have h2:j / 2 < n:=by omega
    rcases Nat.mod_two_eq_zero_or_one j with e | e
    · have e2:j=j / 2 * 2:=by omega
      by_cases hjk:j / 2=k
      · rw [show 0 + k * 2 + 0=j by omega,List.getElem?_set_self (by rw [JX];exact hj)]
        have h3:=(Z6 (fun x=>if x=k then v else f x) V h2).1;rw [← e2] at h3;rw [h3,if_pos hjk]
      · rw [List.getElem?_set_ne om]
        have h3:=(Z6 (fun x=>if x=k then v else f x) V h2).1;have h4:=(Z6 f V h2).1;rw [← e2] at h3 h4;rw [h3,h4,if_neg hjk]
    · have e2:j=j / 2 * 2 + 1:=by omega
      rw [List.getElem?_set_ne om];have h3:=(Z6 (fun x=>if x=k then v else f x) V h2).2;have h4:=(Z6 f V h2).2;rw [← e2] at h3 h4;rw [h3,h4]
  · rw [List.getElem?_eq_none (by rw [List.length_set,JX];omega),List.getElem?_eq_none (by rw [JX];omega)]
theorem GrT.open_ {k:Nat} (h:GrT w lo hi A c gr T) (hk:k < gr.length):∃ (V:Nat→Value) (g:Nat) (cur:Array Value),A=some ⟨g,0,none⟩∧lo≤g∧g < hi∧Blk w g 100 cur∧gr.length * 2≤cur.size∧(∀ x,x < gr.length→cur[0 + x * 2 + 0]? =some (.int .i64 (T x)))∧(∀ x,x < gr.length→cur[0 + x * 2 + 1]? =some (V x))∧(∀ x,x < gr.length→RowO w lo hi (V x) (nd gr x).ln)∧
    ∀ w1 v,Blk w1 g 100 (cur.setIfInBounds (0 + k * 2 + 0) (.int .i64 v))→(∀ x,x < gr.length→RowO w1 lo hi (V x) (nd gr x).ln)→GrT w1 lo hi (some ⟨g,0,none⟩) c gr (fun x=>if x=k then v else T x):=by
  obtain⟨V,ho,hA,hr⟩:=h;obtain⟨g,cur,rfl,hg,hb,hsz,hrd,hcl⟩:=ho.open_ om;refine⟨V,g,cur,rfl,hg,hA g (List.mem_singleton.2 rfl),hb,hsz,fun x hx=>?_,fun x hx=>?_,hr,fun w1 v hw hr2=>⟨V,?_,hA,hr2⟩⟩
  · rw [hrd _ om,show 0 + x * 2 + 0=x * 2 by omega];exact(Z6 _ _ hx).1
  · rw [hrd _ om,show 0 + x * 2 + 1=x * 2 + 1 by omega];exact(Z6 _ _ hx).2
  · have h1:=hcl w1 _ _ hw
    rw [ndV_set0,ZW (f':=fun x=> .int .i64 (if x=k then v else T x)) (h':=V) (fun x _=>by by_cases e:x=k <;> simp [e]) (fun _ _=>rfl)] at h1;exact h1
end
end Go.Proofs.YtdkfnakncaggoaaGreatDoor
namespace Go.Proofs.YtdkfnakncaggoaaGreatDoor
open Go.RowKit
structure GV (l:List Ty) (fs:List Ft) (g:List Nd):Prop where
  h:(qY l fs).1=0
  s:Sound l
  few:fs.length≤40
  f:FOk l.length fs
  gok:GOk l.length fs.length g
  t:tyF l fs g=(0,0)
  u:¬0≤Vv g
  lo:(vw l.length fs.length g).1=0
theorem DL.sub {g:List Nd} {is a b:List Nat} (h:DL g is a b):∀ x ∈ a,x ∈ b:=by
  induction h with
  | nil=>exact fun x h=>h
  | old h t ih=>exact ih
  | new h s t ihs iht=>exact fun x hx=>iht x (ihs x (List.mem_append_left _ hx))
theorem DL.has {g:List Nd} {is a b:List Nat} (h:DL g is a b):∀ i ∈ is,i ∈ b:=by
  induction h with
  | nil=>exact fun i h=>by cases h
  | old h t ih=>
    intro i hi;rcases List.mem_cons.1 hi with rfl | hi
    · exact t.sub _ h
    · exact ih i hi
  | new h s t ihs iht=>
    intro i hi;rcases List.mem_cons.1 hi with rfl | hi
    · exact t.sub _ (s.sub _ (by simp))
    · exact iht i hi
theorem DL.clo {g:List Nd} {is a b:List Nat} (h:DL g is a b):∀ x ∈ b,¬x ∈ a→∀ t ∈ YY g x,t ∈ b:=by
  induction h with
  | nil=>exact fun x h1 h2=>absurd h1 h2
  | old h t ih=>exact ih
  | new h s t ihs iht=>
    rename_i i is o o1 o'
    intro x hx hn y hy;by_cases h1:x ∈ o1
    · by_cases h2:x=i
      · subst h2;exact t.sub _ (s.has y hy)
      · exact t.sub _ (ihs x h1 (fun h3=>by
          rcases List.mem_append.1 h3 with h3 | h3
          · exact hn h3
          · exact h2 (List.mem_singleton.1 h3)) y hy)
    · exact iht x hx h1 y hy
structure Tr (g:List Nd) (o:List Nat):Prop where
  dl:DL g [0] [] o
  ok:OOk g.length o
  nd:o.Nodup
  pos:0 < o.length
  zero:o.idxOf 0=0
  clo:∀ x ∈ o,∀ t ∈ YY g x,t ∈ o
theorem C0 {o:List Nat} {x:Nat} (hx:x ∈ o):∃ h:o.idxOf x < o.length,o[o.idxOf x]=x:=⟨List.idxOf_lt_length_of_mem hx,List.getElem_idxOf _⟩
theorem numO_in {o:List Nat} {x:Nat} (hx:x ∈ o):numO o x=(o.idxOf x:Nat):=by simp [numO,hx]
theorem canG_len (g:List Nd) (o:List Nat):(canG g o).length=o.length:=by simp [canG]
theorem canG_nd {g:List Nd} {o:List Nat} {x:Nat} (hx:x ∈ o):nd (canG g o) (o.idxOf x)=canN g o x:=by
  obtain⟨h1,h2⟩:=C0 hx;rw [nd_eq (by rw [canG_len];exact h1)];simp [canG,h2]
theorem canG_succ {g:List Nd} {o:List Nat} (h:∀ x ∈ o,∀ t ∈ YY g x,t ∈ o) {x:Nat} (hx:x ∈ o):YY (canG g o) (o.idxOf x)=(YY g x).map (o.idxOf ·):=by
  unfold YY;rw [canG_nd hx];simp only [canN,List.map_map];refine List.map_congr_left (fun y hy=>?_);have:y.2.toNat ∈ o:=h x hx _ (by simp only [YY,List.mem_map];exact⟨y,hy,rfl⟩);simp [canL,numO_in this]
theorem DL.map {g:List Nd} {o:List Nat} (hc:∀ x ∈ o,∀ t ∈ YY g x,t ∈ o) {is a b:List Nat} (h:DL g is a b):(∀ x ∈ b,x ∈ o)→DL (canG g o) (is.map (o.idxOf ·)) (a.map (o.idxOf ·)) (b.map (o.idxOf ·)):=by
  have inj:∀ x y,x ∈ o→y ∈ o→o.idxOf x=o.idxOf y→x=y:=fun x y hx hy e=>by
    obtain⟨h1,h2⟩:=C0 hx;obtain⟨h3,h4⟩:=C0 hy;rw [← h2,← h4];simp only [e]
  induction h with
  | nil=>exact fun _=> .nil
  | old h t ih=>
    intro hb;exact .old (List.mem_map_of_mem h) (ih hb)
  | new h s t ihs iht=>
    rename_i i is o0 o1 o'
    intro hb;have hio:=hb i (t.sub _ (s.sub _ (by simp)));refine .new (fun hm=>?_) ?_ (iht hb)
    · obtain⟨y,hy,e⟩:=List.mem_map.1 hm
      have hyo:=hb y (t.sub _ (s.sub _ (List.mem_append_left _ hy)));exact h (inj y i hyo hio e ▸ hy)
    · have:=ihs (fun x hx=>hb x (t.sub _ hx))
      rw [List.map_append] at this;rw [canG_succ hc hio];exact this
end Go.Proofs.YtdkfnakncaggoaaGreatDoor
namespace Go.Proofs.YtdkfnakncaggoaaGreatDoor
open Go.RowKit
theorem FrSame.then {B B0:Nat} {w0 w1 w2:World} (h:FrSame B w0 w1) (k:FrSame B0 w1 w2) (hb:B0≤B):FrSame B w0 w2:=
  ⟨nLT h.size k.size,fun i hi hl=>(k.blk i (nLT hb hi) (nLL hl h.size)).trans (h.blk i hi hl)⟩
end Go.Proofs.YtdkfnakncaggoaaGreatDoor
