/- NcB, RnA, RnB in one text. Conditions: as each part says. -/
import Derived.Test.YtdmlghfggninbaaGreatDoorMb5
import Derived.Test.YtdmlghfggninbaaGreatDoorMb20
import Derived.Test.YtdmlghfggninbaaGreatDoorMb17
import Derived.Test.YtdmlghfggninbaaGreatDoorRbP
import Derived.Test.YtdmlghfggninbaaGreatDoorMb24
set_option linter.unusedVariables false
set_option linter.unusedSimpArgs false
set_option maxHeartbeats 1500000
set_option maxRecDepth 100000
namespace Go.Proofs.YtdmlghfggninbaaGreatDoor
open Go.RowKit Go.Lib Go.Maps Go.WideMaps
theorem j8x{K V:Type}[DecidableEq K]{lt:K→K→Bool}{k:K}{v:V}:∀ {L:List (K×V)},(∀p∈L,p.1≠k)→(Q9 lt k v L).Perm ((k,v)::L)
 | [],_=>List.Perm.refl _
 | y::r,h=>by
  unfold Q9
  rw[if_neg (h y List.mem_cons_self)]
  split
  ·exact List.Perm.refl _
  ·exact((j8x fun p hp=>h p (List.mem_cons_of_mem _ hp)).cons y).trans (List.Perm.swap _ _ _)
structure CpSt(lo mk:Nat)(os:BL)(w:World):Prop where
 map:AlMap Tryz.prog 25 Z6 beV mk (z8i Q2 os) w
 bin:∀q∈os,OBin q.2.b q.2.mb q.2.L w∧lo≤q.2.b∧lo≤q.2.mb
 nd:(mk::os.map (fun q=>q.2.mb)).Nodup
 key:∀q∈os,R5 q.1
theorem CpSt.keepH{lo mk:Nat}{os:BL}{w w':World}(h:CpSt lo mk os w)(hk:∀k,k<w.heap.size→(k=mk∨lo≤k)→w'.heap[k]? =w.heap[k]?):CpSt lo mk os w':=
 ⟨h.map.keep (hk mk h.map.blt (.inl rfl)),fun q hq=>by
  obtain⟨h1,h2,h3⟩:=h.bin q hq
  exact⟨h1.keep (hk _ h1.lt (.inr h2)) (hk _ h1.map.lt (.inr h3)),h2,h3⟩,h.nd,h.key⟩
theorem CpSt.below{lo mk:Nat}{os:BL}{w w':World}(h:CpSt lo mk os w)(hb:Below w.heap.size w w'):CpSt lo mk os w':=h.keepH fun k hk _=>hb.block k hk
theorem CpSt.cur{lo mk c:Nat}{os:BL}{w w':World}(h:CpSt lo mk os w)(hg:w.grownBy w' (some c))(h1:mk≠c)(h2:c<lo):CpSt lo mk os w':=h.keepH fun k hk hm=>hg.block k hk (fun e=>by
 injection e with e
 rcases hm with rfl|hm
 ·exact h1 e
 ·omega)
theorem CpSt.step{lo mk b2 mb2:Nat}{os:BL}{x:Idn}{L:HldL}{w w1 w2:World}(h:CpSt lo mk os w)(hx:R5 x)(hb:Below w.heap.size w w1)(hlo:lo≤w.heap.size)(ho:OBin b2 mb2 L w1)(h1:w.heap.size≤b2)(h2:w.heap.size≤mb2)
  (hm:AlMap Tryz.prog 25 Z6 beV mk (Q9 Q2 x ⟨L,b2,mb2⟩ (z8i Q2 os)) w2) (hg:w1.grownBy w2 (some mk)):CpSt lo mk (os++ [(x,⟨L,b2,mb2⟩)]) w2:=by
 have hmk:=h.map.blt
 have far:∀ {k:Nat},k≠mk→some k≠some mk:=fun hn e=>hn (by injection e)
 have hmb:∀q∈os,q.2.mb≠mk:=fun q hq e=>by
  have:=(List.nodup_cons.1 h.nd).1
  rw[←e]at this
  exact this (List.mem_map_of_mem (f:=fun q:Idn×BE=>q.2.mb) hq)
 have cne:∀ {k:Nat} {cs t z},w1.heap[k]? =some (.cells cs t z)→k≠mk:=fun {k cs t z} hk e=>by
  obtain⟨es,clock,e1⟩:=(h.below hb).map.isMap
  rw[e,e1]at hk;cases hk
 refine⟨?_,fun q hq=> ?_,?_,fun q hq=> ?_⟩
 ·rw[z8j];exact hm
 ·rcases List.mem_append.1 hq with hq|hq
  ·obtain⟨q1,q2,q3⟩:=(h.below hb).bin q hq
   exact⟨q1.keep (hg.block _ q1.lt (far (cne q1.row))) (hg.block _ q1.map.lt (far (hmb q hq))),q2,q3⟩
  ·rw[List.mem_singleton.1 hq]
   exact⟨ho.keep (hg.block _ ho.lt (far (by omega))) (hg.block _ ho.map.lt (far (by omega))),Nat.le_trans hlo h1,Nat.le_trans hlo h2⟩
 ·rw[List.map_append,←List.cons_append]
  refine List.nodup_append.2 ⟨h.nd,by simp,fun a ha b hb e=> ?_⟩
  have hb':b=mb2:=by simpa using hb
  rcases List.mem_cons.1 ha with e2|ha
  ·omega
  ·obtain⟨q,hq,e2⟩:=List.mem_map.1 ha
   have:=(h.bin q hq).1.map.lt
   have e2:q.2.mb=a:=e2
   omega
 ·rcases List.mem_append.1 hq with hq|hq
  ·exact h.key q hq
  ·rw[List.mem_singleton.1 hq];exact hx
end Go.Proofs.YtdmlghfggninbaaGreatDoor
namespace Go.Proofs.YtdmlghfggninbaaGreatDoor
open Go.RowKit Go.Lib
structure RBE where
 x:Idn
 L:HldL
 rb:Nat
 v:Value
def rbC(q:RBE):List Value:= [.int .u32 (q.x.1:Int),.int .i64 q.x.2,.pointer (some ⟨q.rb,0,none⟩)]
def J2(G:List RBE):List Value:=G.flatMap rbC
theorem W6(G:List RBE):(J2 G).length=G.length*3:=by
 induction G with
 | nil=>rfl
 | cons o l ih=>rw[show J2 (o::l)=rbC o++J2 l from rfl,List.length_append,ih,show(rbC o).length=3 from rfl,List.length_cons];omega
theorem q0e(a b:List RBE):J2 (a++b)=J2 a++J2 b:=List.flatMap_append
theorem j8y(l:List RBE)(k:Nat)(h:k<l.length)(j:Nat)(hj:j<3):(J2 l)[k*3+j]? =(rbC l[k])[j]? :=by
 conv=>lhs;rw[←List.take_append_drop k l,List.drop_eq_getElem_cons h,q0e]
 have hl:(J2 (l.take k)).length=k*3:=by rw[W6,List.length_take,Nat.min_eq_left (by omega)]
 rw[List.getElem?_append_right (by omega),hl,Nat.add_sub_cancel_left]
 rw[show J2 (l[k]::l.drop (k+1))=rbC l[k]++J2 (l.drop (k+1))from rfl,List.getElem?_append_left (by simp[rbC];exact hj)]
theorem j8z(G:List RBE):∀u∈J2 G,u.oneCell'=true:=by
 intro u hu
 obtain⟨x,_,hx⟩:=List.mem_flatMap.1 hu
 simp only[rbC,List.mem_cons,List.not_mem_nil,or_false]at hx
 rcases hx with rfl|rfl|rfl<;>rfl
abbrev REL:=List (Rcp×Value)
def blkG(G:List RBE):List Nat:=G.flatMap fun q=>q.rb::q.v.ownBlock.toList
def blkN(n:Nat)(vb:Value)(G:List RBE):List Nat:=n::(vb.ownBlock.toList++blkG G)
def rR(vf:Value)(E:REL)(k:Nat):Prop:=(vf.ownBlock=some k∧E≠ [])∨∃x∈E,x.2.ownBlock=some k∧x.1.ids≠ []
structure ORN(n:Nat)(vf vb:Value)(E:REL)(G:List RBE)(w:World):Prop where
 row:w.heap[n]? =some (.cells #[vf,vb] 34 (0,0))
 files:RdC w w.heap.size 4 vf E.length (rcK.row E)
 ids:∀x∈E,RdI w w.heap.size x.2 x.1.ids
 bins:w.ownsRow 0 54 3 vb G.length (J2 G)
 bin:∀q∈G,RBin q.rb 0 q.v q.L w
 nd:(blkN n vb G).Nodup
 ap:∀k,rR vf E k→k∉blkN n vb G
def J9(E:REL)(G:List RBE):PNode:=⟨E.map fun x=>(x.1.name,x.1),G.map fun q=>(q.x,q.L)⟩
def j9a(n:Nat)(vf vb:Value)(E:REL)(G:List RBE):Foot:=⟨fun k=>k∈blkN n vb G,rR vf E⟩
def j9b(n:Nat)(P:PNode)(f:Foot)(w:World):Prop:=∃vf vb E G,ORN n vf vb E G w∧J9 E G=P∧j9a n vf vb E G=f
section
variable {n:Nat} {vf vb:Value} {E:REL} {G:List RBE} {w w':World}
theorem ORN.nlt(h:ORN n vf vb E G w):n<w.heap.size:=(Array.getElem?_eq_some_iff.1 h.row).1
theorem ORN.c0(h:ORN n vf vb E G w):w.cell? ⟨n,0,none⟩=some vf:=by rw[cell_of_row w n 0 _ _ _ h.row];rfl
theorem ORN.c1(h:ORN n vf vb E G w):w.cell? ⟨n,1,none⟩=some vb:=by rw[cell_of_row w n 1 _ _ _ h.row];rfl
theorem RdC.keepK{size m:Nat}{v:Value}{xs:List Value}(h:RdC w w.heap.size size v m xs)(hz:w.heap.size≤w'.heap.size)(hk:∀k,v.ownBlock=some k→0<m→k<w.heap.size→w'.heap[k]? =w.heap[k]?):RdC w' w'.heap.size size v m xs:=by
 obtain⟨A,c,hv,hl,hc,hx⟩:=h
 refine⟨A,c,hv,hl,hc,fun h0=> ?_⟩
 obtain⟨g,o,hA,hg,hcell⟩:=hx h0
 subst hA;subst hv
 exact⟨g,o,rfl,by omega,fun k u hu=>(World.cell?_of_block (a:=⟨g,o+k,none⟩) (hk g rfl h0 hg)).trans (hcell k u hu)⟩
theorem j9c{q:RBE}(hq:q∈G):q.rb∈blkG G∧∀g,q.v.ownBlock=some g→g∈blkG G:=
 ⟨List.mem_flatMap.2 ⟨q,hq,List.mem_cons_self⟩,fun g e=>List.mem_flatMap.2 ⟨q,hq,List.mem_cons_of_mem _ (by rw[e];exact List.mem_cons_self)⟩⟩
theorem j9d:n∈blkN n vb G:=List.mem_cons_self
theorem j9e{g:Nat}(e:vb.ownBlock=some g):g∈blkN n vb G:=List.mem_cons_of_mem _ (List.mem_append_left _ (by rw[e];exact List.mem_cons_self))
theorem j9f{g:Nat}(e:g∈blkG G):g∈blkN n vb G:=List.mem_cons_of_mem _ (List.mem_append_right _ e)
theorem U8{k:Nat}:k∈blkN n vb G↔k=n∨vb.ownBlock=some k∨∃q∈G,q.rb=k∨q.v.ownBlock=some k:=by
 unfold blkN blkG
 rw[List.mem_cons,List.mem_append,List.mem_flatMap,Option.mem_toList]
 refine or_congr Iff.rfl (or_congr Iff.rfl ⟨fun⟨q,hq,h⟩=>⟨q,hq,?_⟩,fun⟨q,hq,h⟩=>⟨q,hq,?_⟩⟩)
 ·rcases List.mem_cons.1 h with e|h
  ·exact .inl e.symm
  ·exact .inr (Option.mem_toList.1 h)
 ·rcases h with e|e
  ·exact List.mem_cons.2 (.inl e.symm)
  ·exact List.mem_cons_of_mem _ (Option.mem_toList.2 e)
theorem ORN.keepH(h:ORN n vf vb E G w)(hz:w.heap.size≤w'.heap.size)(hk:∀k,k<w.heap.size→(k∈blkN n vb G∨rR vf E k)→w'.heap[k]? =w.heap[k]?):ORN n vf vb E G w' where
 row:=(hk n h.nlt (.inl j9d)).trans h.row
 files:=h.files.keepK hz fun k e h0 hl=>hk k hl (.inr (.inl ⟨e,List.ne_nil_of_length_pos h0⟩))
 ids:=fun x hx=>RdC.keepK (h.ids x hx) hz fun k e h0 hl=>hk k hl (.inr (.inr ⟨x,hx,e,List.ne_nil_of_length_pos h0⟩))
 bins:=by
  refine⟨h.bins.1,?_⟩
  rcases h.bins.2 with h1|⟨g,cap,cur,hv,hgb,hh,h3⟩
  ·exact .inl h1
  ·exact .inr ⟨g,cap,cur,hv,hgb,(hk g (Array.getElem?_eq_some_iff.1 hh).1 (.inl (j9e (by rw[hv];rfl)))).trans hh,h3⟩
 bin:=fun q hq=>by
  have hb:=h.bin q hq
  refine⟨(hk q.rb hb.lt (.inl (j9f (j9c hq).1))).trans hb.row,?_,hb.ne⟩
  refine⟨hb.own.1,?_⟩
  rcases hb.own.2 with h1|⟨g,cap,cur,hv,hgb,hh,h3⟩
  ·exact .inl h1
  ·exact .inr ⟨g,cap,cur,hv,hgb,(hk g (Array.getElem?_eq_some_iff.1 hh).1 (.inl (j9f ((j9c hq).2 g (by rw[hv];rfl))))).trans hh,h3⟩
 nd:=h.nd
 ap:=h.ap
theorem ORN.below(h:ORN n vf vb E G w)(hb:Below w.heap.size w w'):ORN n vf vb E G w':=h.keepH hb.size fun k hk _=>hb.block k hk
theorem ORN.vbf(h:ORN n vf vb E G w):∃A c,vb= .slice A G.length c∧G.length≤c∧(0<G.length→∃g,A=some ⟨g,0,none⟩∧g<w.heap.size∧∀k (hk:k<G.length),
  w.cell? ⟨g,k*3,none⟩=some (.int .u32 (G[k].x.1:Int))∧w.cell? ⟨g,k*3+1,none⟩=some (.int .i64 G[k].x.2)∧w.cell? ⟨g,k*3+2,none⟩=some (.pointer (some ⟨G[k].rb,0,none⟩))):=by
 rcases h.bins.2 with⟨hv,h0⟩|⟨g,cap,cur,hv,hgb,hh,hnc,_⟩
 ·exact⟨none,0,by rw[hv,h0],by omega,fun h=>absurd h (by omega)⟩
 ·refine⟨_,cap,hv,hnc,fun _=>⟨g,rfl,(Array.getElem?_eq_some_iff.1 hh).1,fun k hk=> ?_⟩⟩
  have hb:=h.bins
  subst hv
  have at_:∀j,j<3→w.cell? ⟨g,k*3+j,none⟩=(rbC G[k])[j]? :=fun j hj=>by rw[hb.cellAt (k*3+j) (by omega),j8y G k hk j hj]
  exact⟨at_ 0 (by decide),at_ 1 (by decide),at_ 2 (by decide)⟩
theorem ORN.vff(h:ORN n vf vb E G w):∃A c,vf= .slice A E.length c∧E.length≤c∧(0<E.length→∃g o,A=some ⟨g,o,none⟩∧g<w.heap.size∧∀k (hk:k<E.length),
  w.cell? ⟨g,o+k*4,none⟩=some (VT E[k].1.name)∧w.cell? ⟨g,o+k*4+1,none⟩=some (.int .i64 E[k].1.len)∧w.cell? ⟨g,o+k*4+2,none⟩=some (.int .u32 (E[k].1.print:Int))∧w.cell? ⟨g,o+k*4+3,none⟩=some E[k].2):=by
 obtain⟨A,c,hv,hl,hc,hx⟩:=h.files
 refine⟨A,c,hv,hc,fun h0=> ?_⟩
 obtain⟨g,o,hA,hg,hcell⟩:=hx h0
 refine⟨g,o,hA,hg,fun k hk=> ?_⟩
 have at_:∀j u,j<4→(rcK.cells E[k].1 E[k].2)[j]? =some u→w.cell? ⟨g,o+k*4+j,none⟩=some u:=fun j u hj hu=>by
  have:=hcell (k*4+j) u (by have h2:=rcK.row_at E k hk j hj;rw[show rcK.n=4 from rfl]at h2;rw[h2];exact hu)
  rw[Nat.add_assoc];exact this
 exact⟨at_ 0 _ (by decide) rfl,at_ 1 _ (by decide) rfl,at_ 2 _ (by decide) rfl,at_ 3 _ (by decide) rfl⟩
theorem RdC.own_lt{B size m g:Nat}{v:Value}{xs:List Value}(h:RdC w B size v m xs)(h0:0<m)(e:v.ownBlock=some g):g<B:=by
 obtain⟨A,c,hv,_,_,hx⟩:=h
 obtain⟨g',o,hA,hg,_⟩:=hx h0
 rw[hv,hA]at e
 injection e with e
 subst e
 exact hg
theorem ORN.rlt(h:ORN n vf vb E G w):∀k,rR vf E k→k<w.heap.size:=fun k hk=>by
 rcases hk with⟨e,ne⟩|⟨x,hx,e,ne⟩
 ·exact h.files.own_lt (List.length_pos_iff.2 ne) e
 ·exact RdC.own_lt (h.ids x hx) (List.length_pos_iff.2 ne) e
theorem ORN.foot(h:ORN n vf vb E G w):(j9a n vf vb E G).lt w.heap.size:=fun k hk=>by
 rcases hk with hk|hk
 ·rcases U8.1 hk with rfl|e|⟨q,hq,rfl|e⟩
  ·exact h.nlt
  ·exact C8 h.bins e
  ·exact(h.bin q hq).lt
  ·exact C8 (h.bin q hq).own e
 ·exact h.rlt k hk
end
theorem j9g(n:Nat)(vf vb:Value)(E:REL)(G:List RBE)(hl:E.length≤1000000)(nm:Bytes)(w:World)(h:ORN n vf vb E G w) :
  Calls Tryz.prog 13 #[.pointer (some ⟨n,0,none⟩),.string (bs nm)] w fun e w'=>e= .returned (.int .i64 (ixP (fun x=>decide (x.1.name=nm)) E))∧w=w':=by
 have c0:=h.c0
 obtain⟨A,c,hvf,hcap,hx⟩:=h.vff
 subst hvf
 have HX:=zh hx
 clear hx h
 go_enter Tryz.func13,Tryz.ntmps13
 go_wp2
 go_loopg [5] E.length (fun gh v5 wr=>∃k:Nat,v5= .int .i64 k∧k≤E.length∧gh=E.length-k∧Hid (∀j (hj:j<k) (hl:j<E.length),decide (E[j].1.name=nm)=false)∧w=wr)
 case atStart=>exact⟨0,rfl,Nat.zero_le _,rfl,zh (fun j hj=>absurd hj (Nat.not_lt_zero _)),rfl⟩
 case round=>
  obtain⟨k,rfl,hk,hgm,HI,rfl⟩:=hrel
  by_cases hkl:k<E.length
  ·obtain⟨g,o,rfl,hg,hcells⟩:=HX.out (by omega)
   obtain⟨x0,_,_,_⟩:=hcells k hkl
   have b1:(0:Int)≤(k:Int):=by omega
   have b2:(k:Int)<(E.length:Int):=by omega
   clear hcells
   by_cases he:E[k].1.name=nm
   ·have hlq:((bs E[k].1.name).toList==(bs nm).toList)=true:=by rw[he];exact beq_self_eq_true _
    have HQ:=zh (k2r (p:=fun x:Rcp×Value=>decide (x.1.name=nm)) hkl (fun j hj=>HI.out j hj (by omega)) (decide_eq_true he))
    clear he
    go_wp2
    go_ret
    exact⟨by rw[HQ.out];rfl,rfl⟩
   ·have hlq:((bs E[k].1.name).toList==(bs nm).toList)=false:=by rw[ByteArray.toList_eq,ByteArray.toList_eq,Q3,Q3];exact beq_eq_false_iff_ne.2 he
    have HN:Hid (∀j (hj:j<k+1) (hl:j<E.length),decide (E[j].1.name=nm)=false):=zh (fun j hj hl=>by
     by_cases e:j=k
     ·subst e;exact decide_eq_false he
     ·exact HI.out j (by omega) hl)
    clear he
    go_wp2
    go_roundg (E.length-(k+1))
    case measure=>omega
    case rel=>exact⟨k+1,by go_num,hkl,rfl,HN,rfl⟩
  ·obtain rfl:k=E.length:=by omega
   have HQ:=zh (k2s (p:=fun x:Rcp×Value=>decide (x.1.name=nm)) (fun j hj=>HI.out j hj hj))
   go_wp2
   go_ret
   exact⟨by rw[HQ.out];rfl,rfl⟩
theorem j9h(n:Nat)(vf vb:Value)(E:REL)(G:List RBE)(hl:G.length≤1000000)(x:Idn)(w:World)(h:ORN n vf vb E G w) :
  Calls Tryz.prog 15 #[.pointer (some ⟨n,0,none⟩),idV x] w fun e w'=>e= .returned (.int .i64 (ixP (fun q=>decide (q.x=x)) G))∧Below w.heap.size w w':=by
 have hb1:Below w.heap.size w (w.alloc (.cells #[.int .u32 (x.1:Int),.int .i64 x.2] 25)):=(zb _ _).alloc (zl _) _
 have hn:=h.nlt
 have HC1:=zh h.c1
 obtain⟨A,c,hvb,hcap,hx⟩:=h.vbf
 subst hvb
 have HX:=zh hx
 have HB1:=zh hb1
 have BX1:=zh (Box2.mk' w (.int .u32 (x.1:Int)) (.int .i64 x.2) 25)
 clear hx h hb1
 go_enter Tryz.func15,Tryz.ntmps15
 go_wp2
 generalize(w.alloc (.cells #[.int .u32 (x.1:Int),.int .i64 x.2] 25))=w1 at *
 go_loopg [5] G.length (fun gh v5 wr=>∃k:Nat,v5= .int .i64 k∧k≤G.length∧gh=G.length-k∧Hid (∀j (hj:j<k) (hl:j<G.length),decide (G[j].x=x)=false)∧Hid (Below w1.heap.size w1 wr))
 case atStart=>exact⟨0,rfl,Nat.zero_le _,rfl,zh (fun j hj=>absurd hj (Nat.not_lt_zero _)),zh (zb _ _)⟩
 case round=>
  obtain⟨k,rfl,hk,hgm,HI,HBr⟩:=hrel
  have HBw:=zh (HB1.out.trans (HBr.out.mono HB1.out.size))
  have c1:=(HBw.out.cell (p:=⟨n,1,none⟩) hn).trans HC1.out
  by_cases hkl:k<G.length
  ·obtain⟨g,rfl,hg,hcells⟩:=HX.out (by omega)
   obtain⟨x0,x1,_⟩:=hcells k hkl
   have y0:=(HBw.out.cell (p:=⟨g,k*3,none⟩) hg).trans x0
   have y1:=(HBw.out.cell (p:=⟨g,k*3+1,none⟩) hg).trans x1
   obtain⟨z0,z1,_,_⟩:=BX1.out.below HBr.out BX1.out.lt
   have b1:(0:Int)≤(k:Int):=by omega
   have b2:(k:Int)<(G.length:Int):=by omega
   clear hcells x0 x1
   by_cases he:G[k].x=x
   ·obtain⟨t1,t2⟩:=j0a he
    have HQ:=zh (k2r (p:=fun q:RBE=>decide (q.x=x)) hkl (fun j hj=>HI.out j hj (by omega)) (decide_eq_true he))
    clear he
    go_wp2
    go_quiet (fail)
    have hbd:=V3 (zb wr.heap.size wr) nq
    have HBd:=zh (HBr.out.trans (hbd.mono HBr.out.size))
    clear hbd
    go_wp2
    go_ret
    exact⟨by rw[HQ.out];rfl,HB1.out.trans (HBd.out.mono HB1.out.size)⟩
   ·have HN:Hid (∀j (hj:j<k+1) (hl:j<G.length),decide (G[j].x=x)=false):=zh (fun j hj hl=>by
     by_cases e:j=k
     ·subst e;exact decide_eq_false he
     ·exact HI.out j (by omega) hl)
    have hne:=j0b he
    clear he
    rcases hne with t1|⟨t1,t2⟩
    ·skip
     go_wp2
     go_quiet (fail)
     have hbd:=V3 (zb wr.heap.size wr) nq
     have HBd:=zh (HBr.out.trans (hbd.mono HBr.out.size))
     clear hbd
     go_wp2
     go_roundg (G.length-(k+1))
     case measure=>omega
     case rel=>exact⟨k+1,by go_num,hkl,rfl,HN,HBd⟩
    ·skip
     go_wp2
     go_quiet (fail)
     have hbd:=V3 (zb wr.heap.size wr) nq
     have HBd:=zh (HBr.out.trans (hbd.mono HBr.out.size))
     clear hbd
     go_wp2
     go_roundg (G.length-(k+1))
     case measure=>omega
     case rel=>exact⟨k+1,by go_num,hkl,rfl,HN,HBd⟩
  ·obtain rfl:k=G.length:=by omega
   have HQ:=zh (k2s (p:=fun q:RBE=>decide (q.x=x)) (fun j hj=>HI.out j hj hj))
   go_wp2
   go_ret
   exact⟨by rw[HQ.out];rfl,HBw.out⟩
theorem j9i(w:World)(x:Value)(t:TypeId):∀j q,[x][j]? =some q→(w.alloc (.cells #[x] t)).cell? ((⟨w.heap.size,0,none⟩:Addr).add j)=some q:=by
 intro j q hj
 rw[q0n,Nat.zero_add,World.cell?_alloc_at _ _ _ _ rfl]
 match j,hj with
 | 0,hj=>exact hj
theorem j9j:(Tryz.prog.info? 9).map (fun i=>(i.zero,i.size,i.bytes))=some (some (.string ByteArray.empty),1,16):=by kernel_rfl
def sumG(G:List RBE):Int:=(G.map fun q=>J8 q.L).sum
theorem j9k{G:List RBE}{k:Nat}(hk:k<G.length):sumG (G.take (k+1))=sumG (G.take k)+J8 G[k].L:=by
 unfold sumG
 rw[List.take_succ_eq_append_getElem hk,List.map_append,List.sum_append,List.map_cons,List.map_nil,List.sum_cons,List.sum_nil,Int.add_zero]
theorem j9l{G:List RBE}(h:∀q∈G,0≤J8 q.L∧J8 q.L≤16000):0≤sumG G∧sumG G≤16000*G.length:=by
 unfold sumG
 induction G with
 | nil=>simp
 | cons q r ih=>
  have h1:=ih (fun z hz=>h z (List.mem_cons_of_mem _ hz))
  have h2:=h q List.mem_cons_self
  rw[List.map_cons,List.sum_cons,List.length_cons]
  omega
def ofE(x:Idn)(E:REL):List Bytes:=(E.filter fun q=>decide (Z8 q.1.ids=x)).map (·.1.name)
theorem j9m{x:Idn}{E:REL}{k:Nat}(hk:k<E.length)(h:Z8 E[k].1.ids=x):ofE x (E.take (k+1))=ofE x (E.take k)++ [E[k].1.name]:=by
 unfold ofE
 rw[List.take_succ_eq_append_getElem hk,List.filter_append,List.map_append,List.filter_cons,if_pos (by simp[h])];rfl
theorem j9n{x:Idn}{E:REL}{k:Nat}(hk:k<E.length)(h:Z8 E[k].1.ids≠x):ofE x (E.take (k+1))=ofE x (E.take k):=by
 unfold ofE
 rw[List.take_succ_eq_append_getElem hk,List.filter_append,List.map_append,List.filter_cons,if_neg (by simp[h])];simp
theorem j9o(n:Nat)(vf vb:Value)(E:REL)(G:List RBE)(hl:G.length≤1000)(hG:∀q∈G,q.L.length≤250∧(∀y∈q.L,0≤y.id.2∧y.id.2≤64)∧0≤J8 q.L∧J8 q.L≤16000)(w:World)(h:ORN n vf vb E G w) :
  Calls Tryz.prog 38 #[.pointer (some ⟨n,0,none⟩)] w fun e w'=>e= .returned (.int .i64 (sumG G))∧Below w.heap.size w w':=by
 have hn:=h.nlt
 have HC1:=zh h.c1
 have HN:=zh h
 have HGG:=zh hG
 obtain⟨A,c,hvb,hcap,hx⟩:=h.vbf
 subst hvb
 have HX:=zh hx
 clear hx h hG
 go_enter Tryz.func38,Tryz.ntmps38
 go_wp2
 go_loopg [3,4] G.length (fun gh v3 v4 wr=>∃k:Nat,v4= .int .i64 k∧v3= .int .i64 (sumG (G.take k))∧k≤G.length∧gh=G.length-k∧Hid (Below w.heap.size w wr))
 case atStart=>exact⟨0,rfl,rfl,Nat.zero_le _,rfl,zh (zb _ _)⟩
 case round=>
  obtain⟨k,rfl,rfl,hk,hgm,HBr⟩:=hrel
  have c1:=(HBr.out.cell (p:=⟨n,1,none⟩) hn).trans HC1.out
  by_cases hkl:k<G.length
  ·obtain⟨g,rfl,hg,hcells⟩:=HX.out (by omega)
   obtain⟨_,_,x2⟩:=hcells k hkl
   have y2:=(HBr.out.cell (p:=⟨g,k*3+2,none⟩) hg).trans x2
   have b1:(0:Int)≤(k:Int):=by omega
   have b2:(k:Int)<(G.length:Int):=by omega
   obtain⟨hg1,hg2,hg3,hg4⟩:=HGG.out G[k] (List.getElem_mem hkl)
   have hsb:=j9l (G:=G.take k) (fun q hq=>(HGG.out q (List.mem_of_mem_take hq)).2.2)
   have hkt:(G.take k).length=k:=by rw[List.length_take];omega
   have HSZ:=zh (k4u G[k].rb 0 G[k].v G[k].L (by omega) hg2 wr ((HN.out.bin _ (List.getElem_mem hkl)).below HBr.out))
   have HSS:=zh (j9k hkl)
   rw[hkt]at hsb
   generalize G[k]=q at *
   generalize sumG (G.take k)=s at *
   generalize J8 q.L=z at *
   clear hcells x2 hkt hg2
   go_wp2_with fail
   refine HSZ.out.mono ?_
   rintro e w3 ⟨rfl,hw3⟩
   subst hw3
   have HB3:=HBr
   clear HSZ
   go_wp2
   go_roundg (G.length-(k+1))
   case measure=>omega
   case rel=>exact⟨k+1,by go_num,by rw[HSS.out],hkl,rfl,HB3⟩
  ·obtain rfl:k=G.length:=by omega
   have HTL:Hid (G.take G.length=G):=zh List.take_length
   go_wp2
   go_ret
   exact⟨by rw[HTL.out];rfl,HBr.out⟩
theorem j9p(n:Nat)(vf vb:Value)(E:REL)(G:List RBE)(hl:E.length≤1000)(hE:∀q∈E,q.1.ids.length≤1000000)(x:Idn)(w:World)(h:ORN n vf vb E G w) :
  Calls Tryz.prog 57 #[.pointer (some ⟨n,0,none⟩),idV x] w fun e w'=>∃v,e= .returned v∧w'.ownsRow w.heap.size 9 1 v (ofE x E).length ((ofE x E).map VT)∧Below w.heap.size w w':=by
 obtain⟨i0,hi,hz0,hz1,hz2⟩:=info_parts j9j
 have hb1:Below w.heap.size w (w.alloc (.cells #[.int .u32 (x.1:Int),.int .i64 x.2] 25)):=(zb _ _).alloc (zl _) _
 have hn:=h.nlt
 have HC0:=zh h.c0
 have HN:=zh h
 have HEI:=zh hE
 obtain⟨A,c,hvf,hcap,hx⟩:=h.vff
 subst hvf
 have HX:=zh hx
 have HB1:=zh hb1
 have BX1:=zh (Box2.mk' w (.int .u32 (x.1:Int)) (.int .i64 x.2) 25)
 clear hx h hE hb1
 go_enter Tryz.func57,Tryz.ntmps57
 go_wp2
 generalize(w.alloc (.cells #[.int .u32 (x.1:Int),.int .i64 x.2] 25))=w1 at *
 go_loopg [5,6] E.length (fun gh v5 v6 wr=>∃(k q:Nat),v6= .int .i64 k∧k≤E.length∧gh=E.length-k∧Hid (q=(ofE x (E.take k)).length)∧q≤k∧Hid (wr.ownsRow w1.heap.size 9 1 v5 q ((ofE x (E.take k)).map VT))∧Hid (Below w1.heap.size w1 wr))
 case atStart=>exact⟨0,0,rfl,Nat.zero_le _,rfl,zh rfl,zl _,zh (World.ownsRow_nil _ _ _ _),zh (zb _ _)⟩
 case round=>
  obtain⟨k,q,rfl,hk,hgm,HQ,hqk,HO,HBr⟩:=hrel
  obtain⟨A5,c5,hv5⟩:=J0 HO.out
  subst hv5
  have HBw:=zh (HB1.out.trans (HBr.out.mono HB1.out.size))
  have c0:=(HBw.out.cell (p:=⟨n,0,none⟩) hn).trans HC0.out
  by_cases hkl:k<E.length
  ·obtain⟨g,o,rfl,hg,hcells⟩:=HX.out (by omega)
   obtain⟨x0,x1,x2,x3⟩:=hcells k hkl
   have hrc:=HEI.out E[k] (List.getElem_mem hkl)
   have hids:=HN.out.ids E[k] (List.getElem_mem hkl)
   obtain⟨SA,sc,hsv,_⟩:=hids.form
   have HNY:=zh (fun h=>j9m hkl (x:=x) h)
   have HNN:=zh (fun h=>j9n hkl (x:=x) h)
   have C0:=zh c0
   have hnr:n<wr.heap.size:=Nat.lt_of_lt_of_le hn HBw.out.size
   have hgr:g<wr.heap.size:=Nat.lt_of_lt_of_le hg HBw.out.size
   generalize E[k]=q0 at *
   obtain⟨r,sl⟩:=q0
   simp only at hsv x0 x1 x2 x3 hids hrc HNY HNN
   subst hsv
   have Y0:=zh ((HBw.out.cell (p:=⟨g,o+k*4,none⟩) hg).trans x0)
   have Y1:=zh ((HBw.out.cell (p:=⟨g,o+k*4+1,none⟩) hg).trans x1)
   have Y2:=zh ((HBw.out.cell (p:=⟨g,o+k*4+2,none⟩) hg).trans x2)
   have Y3:=zh ((HBw.out.cell (p:=⟨g,o+k*4+3,none⟩) hg).trans x3)
   have HSr:=zh ((hids.keep HBw.out (zl _)).more HBw.out.size)
   have BXr:=zh (BX1.out.below HBr.out BX1.out.lt)
   have b1:(0:Int)≤(k:Int):=by omega
   have b2:(k:Int)<(E.length:Int):=by omega
   have X0:=zh x0
   clear hcells x0 x1 x2 x3 hids
   by_cases he:Z8 r.ids=x
   ·obtain⟨t1,t2⟩:=j0a he
    have HN2:=zh (HNY.out he)
    clear he
    go_wp2
    have hS0:Below wr.heap.size wr wr.drew:=(zb _ _).drew
    refine kR (fun w'=>Below wr.heap.size wr w') 9 ?_
    refine kT 0 hS0 ?_
    refine kT 1 hS0 ?_
    refine kT 2 hS0 ?_
    refine kS 3 rfl hS0 (fun w' hS=>by have A0:=(hS.cell (p:=⟨n,0,none⟩) hnr).trans C0.out;go_simp;rfl) ?_
    refine kT 4 hS0 ?_
    refine kT 5 hS0 ?_
    refine kS 6 rfl hS0 (fun w' hS=>by have A0:=(hS.cell (p:=⟨g,o+k*4,none⟩) hgr).trans Y0.out;have A1:=(hS.cell (p:=⟨g,o+k*4+1,none⟩) hgr).trans Y1.out;have A2:=(hS.cell (p:=⟨g,o+k*4+2,none⟩) hgr).trans Y2.out;have A3:=(hS.cell (p:=⟨g,o+k*4+3,none⟩) hgr).trans Y3.out;go_simp;rfl) ?_
    refine kS 8 rfl hS0 (fun w' hS=>by obtain⟨A0,A1,_,_⟩:=BXr.out.below hS BXr.out.lt;go_simp;rfl) ?_
    refine kC 7 (fun K hK=> ?_)
    go_simp
    refine(j7e (.agg #[VT r.name,.int .i64 r.len,.int .u32 (r.print:Int),.slice SA r.ids.length sc]) r hrc _ ⟨_,rfl,(HSr.out.keep hS0 (zl _)).more hS0.size⟩).mono ?_
    rintro e w4 ⟨rfl,hbw4⟩
    have hS1:Below wr.heap.size wr w4:=hS0.trans (hbw4.mono hS0.size)
    refine hK _ _ hS1 (kF ?_)
    clear hK K
    try simp only[Act.put,zM]
    try simp only[Act.put,zM]
    simp only[List.drop_succ_cons,List.drop_zero]
    have HBd:=zh (HBr.out.trans (hS1.mono HBr.out.size))
    have HOd:=zh (Q4 HO.out hS1)
    clear hS0 hS1 hbw4
    have hgd:g<w4.heap.size:=Nat.lt_of_lt_of_le hg (HB1.out.trans (HBd.out.mono HB1.out.size)).size
    have y0:=((HB1.out.trans (HBd.out.mono HB1.out.size)).cell (p:=⟨g,o+k*4,none⟩) hg).trans X0.out
    have c0:=((HB1.out.trans (HBd.out.mono HB1.out.size)).cell (p:=⟨n,0,none⟩) hn).trans HC0.out
    have hba:Below w4.heap.size w4 (w4.alloc (.cells #[.string (bs r.name)] 9)):=(zb _ _).alloc (zl _) _
    have HOa:=zh (Q4 HOd.out hba)
    have HBa:=zh (HBd.out.trans (hba.mono HBd.out.size))
    clear hba
    go_wp2_with(first|(at_builtin;refine wpList_append_own_at _ rfl (.tmp 26) (.tmp 35) 60 rfl w1.heap.size 9 i0 (.string ByteArray.empty) 1 16 Tryz.underlying60 hi hz0 hz1 hz2 rfl (by decide) _ _ _ rfl HOa.out ⟨w4.heap.size,0,none⟩ 1 1 [.string (bs r.name)] rfl rfl (j9i _ _ _) (by simp[Value.oneCell']) (by unfold maxLen;omega) (by omega) HBa.out.size ?_;intro v7 w7 ho7 hg7 _ ha7)|fail)
    have HO7:Hid (w7.ownsRow w1.heap.size 9 1 v7 (q+1) ((ofE x (E.take (k+1))).map VT)):=zh (by rw[HN2.out,List.map_append];exact ho7)
    have HQ7:Hid (q+1=(ofE x (E.take (k+1))).length):=zh (by rw[HN2.out,List.length_append,←HQ.out];rfl)
    have HB7:=zh (HBa.out.grown hg7 HBa.out.size (fun g e=>Y7 HOa.out e))
    clear ho7 hg7 ha7
    go_wp2
    go_roundg (E.length-(k+1))
    case measure=>omega
    case rel=>exact⟨k+1,q+1,by go_num,hkl,rfl,HQ7,by omega,HO7,HB7⟩
   ·have HN2:=zh (HNN.out he)
    have hne:=j0b he
    clear he
    rcases hne with t1|⟨t1,t2⟩
    ·skip
     go_wp2
     have hS0:Below wr.heap.size wr wr.drew:=(zb _ _).drew
     refine kR (fun w'=>Below wr.heap.size wr w') 9 ?_
     refine kT 0 hS0 ?_
     refine kT 1 hS0 ?_
     refine kT 2 hS0 ?_
     refine kS 3 rfl hS0 (fun w' hS=>by have A0:=(hS.cell (p:=⟨n,0,none⟩) hnr).trans C0.out;go_simp;rfl) ?_
     refine kT 4 hS0 ?_
     refine kT 5 hS0 ?_
     refine kS 6 rfl hS0 (fun w' hS=>by have A0:=(hS.cell (p:=⟨g,o+k*4,none⟩) hgr).trans Y0.out;have A1:=(hS.cell (p:=⟨g,o+k*4+1,none⟩) hgr).trans Y1.out;have A2:=(hS.cell (p:=⟨g,o+k*4+2,none⟩) hgr).trans Y2.out;have A3:=(hS.cell (p:=⟨g,o+k*4+3,none⟩) hgr).trans Y3.out;go_simp;rfl) ?_
     refine kS 8 rfl hS0 (fun w' hS=>by obtain⟨A0,A1,_,_⟩:=BXr.out.below hS BXr.out.lt;go_simp;rfl) ?_
     refine kC 7 (fun K hK=> ?_)
     go_simp
     refine(j7e (.agg #[VT r.name,.int .i64 r.len,.int .u32 (r.print:Int),.slice SA r.ids.length sc]) r hrc _ ⟨_,rfl,(HSr.out.keep hS0 (zl _)).more hS0.size⟩).mono ?_
     rintro e w4 ⟨rfl,hbw4⟩
     have hS1:Below wr.heap.size wr w4:=hS0.trans (hbw4.mono hS0.size)
     refine hK _ _ hS1 (kF ?_)
     clear hK K
     try simp only[Act.put,zM]
     try simp only[Act.put,zM]
     simp only[List.drop_succ_cons,List.drop_zero]
     have HBd:=zh (HBr.out.trans (hS1.mono HBr.out.size))
     have HOd:=zh (Q4 HO.out hS1)
     clear hS0 hS1 hbw4
     have HO7:Hid (w4.ownsRow w1.heap.size 9 1 (.slice A5 q c5) q ((ofE x (E.take (k+1))).map VT)):=zh (by rw[HN2.out];exact HOd.out)
     have HQ7:Hid (q=(ofE x (E.take (k+1))).length):=zh (by rw[HN2.out];exact HQ.out)
     go_wp2
     go_roundg (E.length-(k+1))
     case measure=>omega
     case rel=>exact⟨k+1,q,by go_num,hkl,rfl,HQ7,by omega,HO7,HBd⟩
    ·skip
     go_wp2
     have hS0:Below wr.heap.size wr wr.drew:=(zb _ _).drew
     refine kR (fun w'=>Below wr.heap.size wr w') 9 ?_
     refine kT 0 hS0 ?_
     refine kT 1 hS0 ?_
     refine kT 2 hS0 ?_
     refine kS 3 rfl hS0 (fun w' hS=>by have A0:=(hS.cell (p:=⟨n,0,none⟩) hnr).trans C0.out;go_simp;rfl) ?_
     refine kT 4 hS0 ?_
     refine kT 5 hS0 ?_
     refine kS 6 rfl hS0 (fun w' hS=>by have A0:=(hS.cell (p:=⟨g,o+k*4,none⟩) hgr).trans Y0.out;have A1:=(hS.cell (p:=⟨g,o+k*4+1,none⟩) hgr).trans Y1.out;have A2:=(hS.cell (p:=⟨g,o+k*4+2,none⟩) hgr).trans Y2.out;have A3:=(hS.cell (p:=⟨g,o+k*4+3,none⟩) hgr).trans Y3.out;go_simp;rfl) ?_
     refine kS 8 rfl hS0 (fun w' hS=>by obtain⟨A0,A1,_,_⟩:=BXr.out.below hS BXr.out.lt;go_simp;rfl) ?_
     refine kC 7 (fun K hK=> ?_)
     go_simp
     refine(j7e (.agg #[VT r.name,.int .i64 r.len,.int .u32 (r.print:Int),.slice SA r.ids.length sc]) r hrc _ ⟨_,rfl,(HSr.out.keep hS0 (zl _)).more hS0.size⟩).mono ?_
     rintro e w4 ⟨rfl,hbw4⟩
     have hS1:Below wr.heap.size wr w4:=hS0.trans (hbw4.mono hS0.size)
     refine hK _ _ hS1 (kF ?_)
     clear hK K
     try simp only[Act.put,zM]
     try simp only[Act.put,zM]
     simp only[List.drop_succ_cons,List.drop_zero]
     have HBd:=zh (HBr.out.trans (hS1.mono HBr.out.size))
     have HOd:=zh (Q4 HO.out hS1)
     clear hS0 hS1 hbw4
     have HO7:Hid (w4.ownsRow w1.heap.size 9 1 (.slice A5 q c5) q ((ofE x (E.take (k+1))).map VT)):=zh (by rw[HN2.out];exact HOd.out)
     have HQ7:Hid (q=(ofE x (E.take (k+1))).length):=zh (by rw[HN2.out];exact HQ.out)
     go_wp2
     go_roundg (E.length-(k+1))
     case measure=>omega
     case rel=>exact⟨k+1,q,by go_num,hkl,rfl,HQ7,by omega,HO7,HBd⟩
  ·obtain rfl:k=E.length:=by omega
   rw[List.take_length]at HQ HO
   have HF:Hid (∃v,Ending.returned (.slice A5 q c5)= .returned v∧wr.ownsRow w.heap.size 9 1 v (ofE x E).length ((ofE x E).map VT)∧Below w.heap.size w wr):=zh ⟨_,rfl,by have:=M2 HO.out HB1.out.size;rwa [HQ.out]at this ⊢,HBw.out⟩
   go_wp2
   go_ret
   exact HF.out
end Go.Proofs.YtdmlghfggninbaaGreatDoor
