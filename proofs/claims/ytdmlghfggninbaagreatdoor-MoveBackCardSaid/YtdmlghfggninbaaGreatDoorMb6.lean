/- Ids, BnA in one text. Conditions: as each part says. -/
import Derived.Test.YtdmlghfggninbaaGreatDoorMb2
import Derived.Test.YtdmlghfggninbaaGreatDoorMb1
import Derived.Test.YtdmlghfggninbaaGreatDoorMb30
import Derived.Test.YtdmlghfggninbaaGreatDoorMb12
import Derived.Deep.AppendLies
import Derived.Test.YtdmlghfggninbaaGreatDoorMb3
import Derived.Maps.OwnSet
import Derived.OwnWalk
import Derived.DeepKeys4
import Derived.Maps.OwnOps
import Derived.Maps.Views
import Derived.Handy
set_option linter.unusedVariables false
set_option linter.unusedSimpArgs false
set_option maxRecDepth 100000
namespace Go.Proofs.YtdmlghfggninbaaGreatDoor
open Go.RowKit Go.Lib
def W7(x:Idn):List Value:= [.int .u32 (x.1:Int),.int .i64 x.2]
abbrev idV(x:Idn):Value:= .agg #[.int .u32 (x.1:Int),.int .i64 x.2]
def U4(L:IdL):List Value:=L.flatMap W7
theorem z8n(L:IdL):(U4 L).length=L.length*2:=by
 induction L with
 | nil=>rfl
 | cons o l ih=>rw[show U4 (o::l)=W7 o++U4 l from rfl,List.length_append,ih,show(W7 o).length=2 from rfl,List.length_cons];omega
theorem z8o(a b:IdL):U4 (a++b)=U4 a++U4 b:=List.flatMap_append
theorem z8p(a:IdL)(x:Idn):U4 (a++ [x])=U4 a++ [.int .u32 (x.1:Int),.int .i64 x.2]:=by rw[z8o];rfl
theorem z8q(l:IdL)(k:Nat)(h:k<l.length)(j:Nat)(hj:j<2):(U4 l)[k*2+j]? =(W7 l[k])[j]? :=by
 conv=>lhs;rw[←List.take_append_drop k l,List.drop_eq_getElem_cons h,z8o]
 have hl:(U4 (l.take k)).length=k*2:=by rw[z8n,List.length_take,Nat.min_eq_left (by omega)]
 rw[List.getElem?_append_right (by omega),hl,Nat.add_sub_cancel_left]
 rw[show U4 (l[k]::l.drop (k+1))=W7 l[k]++U4 (l.drop (k+1))from rfl,List.getElem?_append_left (by simp[W7];exact hj)]
theorem z8r(L:IdL):∀u∈U4 L,u.oneCell'=true:=by
 intro u hu
 obtain⟨x,_,hx⟩:=List.mem_flatMap.1 hu
 simp only[W7,List.mem_cons,List.not_mem_nil,or_false]at hx
 rcases hx with rfl|rfl<;>rfl
def RdI(w:World)(B:Nat)(v:Value)(L:IdL):Prop:=RdC w B 2 v L.length (U4 L)
theorem RdI.below{w w':World}{B:Nat}{v:Value}{L:IdL}(h:RdI w B v L)(hb:Below B w w'):RdI w' B v L:=RdC.below h hb
theorem RdI.more{w:World}{B B':Nat}{v:Value}{L:IdL}(h:RdI w B v L)(hB:B≤B'):RdI w B' v L:=by
 obtain⟨A,c,hv,hl,hc,hx⟩:=h
 refine⟨A,c,hv,hl,hc,fun h0=> ?_⟩
 obtain⟨g,o,hA,hg,hcell⟩:=hx h0
 exact⟨g,o,hA,by omega,hcell⟩
theorem RdI.keep{w w':World}{B B':Nat}{v:Value}{L:IdL}(h:RdI w B v L)(hb:Below B' w w')(h1:B≤B'):RdI w' B v L:=h.below (hb.mono h1)
theorem RdI.nil(w:World)(B:Nat):RdI w B (.slice none 0 0) []:=⟨none,0,rfl,rfl,zl _,fun h=>absurd h (by simp)⟩
theorem RdI.own{w:World}{base n:Nat}{v:Value}{L:IdL}(h:w.ownsRow base 25 2 v n (U4 L))(hn:n=L.length):RdI w w.heap.size v L:=by
 subst hn
 rcases h.2 with⟨rfl,h0⟩|⟨g,cap,cur,hv,_,hh,hnc,_⟩
 ·exact⟨none,0,by rw[h0],h.1,by rw[h0];exact zl _,fun h=>absurd h (by omega)⟩
 ·refine⟨_,cap,hv,h.1,hnc,fun _=>⟨g,0,rfl,(Array.getElem?_eq_some_iff.1 hh).1,fun k u hu=> ?_⟩⟩
  subst hv
  have hk:k<L.length*2:=by rw[←h.1];exact(List.getElem?_eq_some_iff.1 hu).1
  rw[Nat.zero_add,h.cellAt k hk];exact hu
theorem RdI.form{w:World}{B:Nat}{v:Value}{L:IdL}(h:RdI w B v L):∃A c,v= .slice A L.length c∧L.length≤c∧(0<L.length→∃g o,A=some ⟨g,o,none⟩∧g<B∧∀k (hk:k<L.length),
  w.cell? ⟨g,o+k*2,none⟩=some (.int .u32 (L[k].1:Int))∧w.cell? ⟨g,o+k*2+1,none⟩=some (.int .i64 L[k].2)):=by
 obtain⟨A,c,hv,hl,hc,hx⟩:=h
 refine⟨A,c,hv,hc,fun h0=> ?_⟩
 obtain⟨g,o,hA,hg,hcell⟩:=hx h0
 refine⟨g,o,hA,hg,fun k hk=>⟨?_,?_⟩⟩
 ·have:=hcell (k*2+0) _ (by rw[z8q L k hk 0 (by decide)];rfl)
  simpa using this
 ·have:=hcell (k*2+1) _ (by rw[z8q L k hk 1 (by decide)];rfl)
  simpa[Nat.add_assoc]using this
theorem Q4{w w':World}{base n size:Nat}{e:TypeId}{v:Value}{xs:List Value}(h:w.ownsRow base e size v n xs)(hb:Below w.heap.size w w'):w'.ownsRow base e size v n xs:=by
 refine⟨h.1,?_⟩
 rcases h.2 with h|⟨g,cap,cur,hv,hg,hh,h3⟩
 ·exact .inl h
 ·exact .inr ⟨g,cap,cur,hv,hg,(hb.block g (Array.getElem?_eq_some_iff.1 hh).1).trans hh,h3⟩
theorem J0{w:World}{base n size:Nat}{e:TypeId}{v:Value}{xs:List Value}(h:w.ownsRow base e size v n xs):∃A c,v= .slice A n c:=by
 rcases h.2 with⟨rfl,rfl⟩|⟨g,cap,cur,rfl,_⟩
 ·exact⟨_,_,rfl⟩
 ·exact⟨_,_,rfl⟩
theorem z8s(w:World)(x y:Value)(t:TypeId):∀j u,[x,y][j]? =some u→(w.alloc (.cells #[x,y] t)).cell? ((⟨w.heap.size,0,none⟩:Addr).add j)=some u:=by
 intro j u hj
 rw[q0n,Nat.zero_add,World.cell?_alloc_at _ _ _ _ rfl]
 match j,hj with
 | 0,hj=>exact hj
 | 1,hj=>exact hj
 | j+2,hj=>simp at hj
theorem z8t:(Tryz.prog.info? 25).map (fun i=>(i.zero,i.size,i.bytes))=some (some (.agg #[.int .u32 0,.int .i64 0]),2,16):=by kernel_rfl
theorem z8u{w w1 w2:World}{r:Option Nat}(h:w.grownBy w1 r)(hb:Below w1.heap.size w1 w2):w.grownBy w2 r:=h.trans ⟨hb.os,hb.tape,hb.output,hb.size,fun i hi _=>hb.block i hi⟩
theorem z8v{w:World}{k b j:Nat}{v:Value}(h:k≠b):(w.setCell ⟨b,j,none⟩ v).heap[k]? =w.heap[k]? :=by simp[World.setCell,Array.getElem?_modify,Ne.symm h]
theorem z8w{w w1:World}{b:Nat}(h:w.grownBy w1 (some b))(j:Nat)(v:Value):w.grownBy (w1.setCell ⟨b,j,none⟩ v) (some b):=
 h.trans ⟨rfl,rfl,rfl,by simp[World.setCell],fun i _ hne=>z8v (fun e=>hne (by rw[e]))⟩
theorem z8x{w w1 w2:World}{b base n size:Nat}{e:TypeId}{v:Value}{xs:List Value}(h:w.grownBy w1 (some b))(hb:w.heap.size≤base)(ho:w1.ownsRow base e size v n xs)(hg:w1.grownBy w2 v.ownBlock):w.grownBy w2 (some b):=
 h.andThen hg (fun j hj=> .inl (Nat.le_trans hb (Y7 ho hj)))
theorem C4{B b:Nat}{w0 w w':World}(h0:Below B w0 w)(hB:B≤w.heap.size)(hb:B≤b)(h:w.grownBy w' (some b)):Below B w0 w':=
 h0.grown h hB (fun k e=>by injection e with e;omega)
theorem z8y{w w':World}{b d:Nat}{x y:Value}(h:w.grownBy w' (some b))(hd:d≠b)(hx:Box2 d x y w):Box2 d x y w':=
 have hne:some d≠some b:=fun e=>hd (by injection e)
 ⟨(h.cell_far ⟨d,0,none⟩ hx.lt hne).trans hx.c0,(h.cell_far ⟨d,1,none⟩ hx.lt hne).trans hx.c1,(h.frozen_far ⟨d,0,none⟩ hx.lt hne).trans hx.f0,(h.frozen_far ⟨d,1,none⟩ hx.lt hne).trans hx.f1⟩
theorem V7{w:World}{base n:Nat}{e:TypeId}{v:Value}{xs:List Value}(h:w.ownsRow base e 1 v n xs) :
  ∃A c,v= .slice A n c∧n≤c∧(0<n→∃g,A=some ⟨g,0,none⟩∧base≤g∧g<w.heap.size∧∀k u,xs[k]? =some u→w.cell? ⟨g,k,none⟩=some u):=by
 rcases h.2 with⟨rfl,h0⟩|⟨g,cap,cur,hv,hge,hh,hnc,_⟩
 ·exact⟨none,0,by rw[h0],by omega,fun h=>absurd h (by omega)⟩
 ·refine⟨_,cap,hv,hnc,fun _=>⟨g,rfl,hge,(Array.getElem?_eq_some_iff.1 hh).1,fun k u hu=> ?_⟩⟩
  subst hv
  have hk:k<n*1:=by rw[←h.1];exact(List.getElem?_eq_some_iff.1 hu).1
  rw[h.cellAt k hk];exact hu
structure Box4(b:Nat)(x y z u:Value)(w:World):Prop where
 c0:w.cell? ⟨b,0,none⟩=some x
 c1:w.cell? ⟨b,1,none⟩=some y
 c2:w.cell? ⟨b,2,none⟩=some z
 c3:w.cell? ⟨b,3,none⟩=some u
 f:∀j,w.frozen? ⟨b,j,none⟩=false
theorem Box4.lt{b:Nat}{x y z u:Value}{w:World}(h:Box4 b x y z u w):b<w.heap.size:=World.block_lt_of_cell? w _ h.c0
theorem Box4.below{b B:Nat}{x y z u:Value}{w w':World}(h:Box4 b x y z u w)(hb:Below B w w')(hB:b<B):Box4 b x y z u w':=
 ⟨(hb.cell (p:=⟨b,0,none⟩) hB).trans h.c0,(hb.cell (p:=⟨b,1,none⟩) hB).trans h.c1,(hb.cell (p:=⟨b,2,none⟩) hB).trans h.c2,(hb.cell (p:=⟨b,3,none⟩) hB).trans h.c3,fun j=>(hb.frozen (p:=⟨b,j,none⟩) hB).trans (h.f j)⟩
theorem Box4.mk'(w:World)(x y z u:Value)(t:TypeId):Box4 w.heap.size x y z u (w.alloc (.cells #[x,y,z,u] t)):=
 ⟨by rw[World.cell?_alloc_at _ _ _ _ rfl];rfl,by rw[World.cell?_alloc_at _ _ _ _ rfl];rfl,by rw[World.cell?_alloc_at _ _ _ _ rfl];rfl,by rw[World.cell?_alloc_at _ _ _ _ rfl];rfl,fun _=>World.frozen?_alloc_new _ _ _ _⟩
theorem Box4.set3{b:Nat}{x y z u:Value}{w:World}(h:Box4 b x y z u w)(v:Value):Box4 b x y z v (w.setCell ⟨b,3,none⟩ v):=by
 have hne:∀j,j≠3→(⟨b,3,none⟩:Addr)≠⟨b,j,none⟩:=by intro j hj h;injection h with _ h;exact hj h.symm
 exact⟨(World.cell?_setCell_other _ _ _ _ (hne 0 (by decide))).trans h.c0,(World.cell?_setCell_other _ _ _ _ (hne 1 (by decide))).trans h.c1,(World.cell?_setCell_other _ _ _ _ (hne 2 (by decide))).trans h.c2,
  World.cell?_setCell_same _ _ _ h.c3,fun j=>by rw[World.frozen?_setCell];exact h.f j⟩
theorem z8z{w w':World}{d:Nat}{x y z u:Value}{r:Option Nat}(h:w.grownBy w' r)(hne:some d≠r)(hx:Box4 d x y z u w):Box4 d x y z u w':=
 ⟨(h.cell_far ⟨d,0,none⟩ hx.lt hne).trans hx.c0,(h.cell_far ⟨d,1,none⟩ hx.lt hne).trans hx.c1,(h.cell_far ⟨d,2,none⟩ hx.lt hne).trans hx.c2,(h.cell_far ⟨d,3,none⟩ hx.lt hne).trans hx.c3,fun j=>(h.frozen_far ⟨d,j,none⟩ hx.lt hne).trans (hx.f j)⟩
theorem z9a{w:World}{base n size d:Nat}{e:TypeId}{v:Value}{xs:List Value}(h:w.ownsRow base e size v n xs)(hd:d<base):some d≠v.ownBlock:=fun e=>by
 have:=Y7 h e.symm;omega
theorem z9b{w:World}{base n size d j:Nat}{x:Value}{e:TypeId}{v:Value}{xs:List Value}(h:w.ownsRow base e size v n xs)(hd:d<base):(w.setCell ⟨d,j,none⟩ x).ownsRow base e size v n xs:=by
 refine⟨h.1,?_⟩
 rcases h.2 with h|⟨g,cap,cur,hv,hg,hh,h3⟩
 ·exact .inl h
 ·exact .inr ⟨g,cap,cur,hv,hg,by rw[z8v (by omega)];exact hh,h3⟩
theorem D4{w:World}{b j k:Nat}{v:Value}(h:k≠j):(w.setCell ⟨b,j,none⟩ v).cell? ⟨b,k,none⟩=w.cell? ⟨b,k,none⟩:=
 World.cell?_setCell_other _ _ _ _ (by intro e;injection e with _ e;exact h e.symm)
theorem Box4.set{b:Nat}{x y z u:Value}{w:World}(h:Box4 b x y z u w)(x' y' z' u':Value) :
  Box4 b x' y' z' u' ((((w.setCell ⟨b,0,none⟩ x').setCell ⟨b,1,none⟩ y').setCell ⟨b,2,none⟩ z').setCell ⟨b,3,none⟩ u'):=by
 refine⟨?_,?_,?_,?_,fun j=>by simp only[World.frozen?_setCell];exact h.f j⟩
 ·rw[D4 (by decide),D4 (by decide),D4 (by decide)];exact World.cell?_setCell_same _ _ _ h.c0
 ·rw[D4 (by decide),D4 (by decide)];exact World.cell?_setCell_same _ _ _ (by rw[D4 (by decide)];exact h.c1)
 ·rw[D4 (by decide)];exact World.cell?_setCell_same _ _ _ (by rw[D4 (by decide),D4 (by decide)];exact h.c2)
 ·exact World.cell?_setCell_same _ _ _ (by rw[D4 (by decide),D4 (by decide),D4 (by decide)];exact h.c3)
theorem Z7{B b:Nat}{a w:World}(h:Below B a w)(hb:B≤b)(x y z u:Value):Below B a ((((w.setCell ⟨b,0,none⟩ x).setCell ⟨b,1,none⟩ y).setCell ⟨b,2,none⟩ z).setCell ⟨b,3,none⟩ u):=
 (((h.setCell (p:=⟨b,0,none⟩) hb x).setCell (p:=⟨b,1,none⟩) hb y).setCell (p:=⟨b,2,none⟩) hb z).setCell (p:=⟨b,3,none⟩) hb u
theorem z9c(w:World)(b:Nat)(x y z u:Value):((((w.setCell ⟨b,0,none⟩ x).setCell ⟨b,1,none⟩ y).setCell ⟨b,2,none⟩ z).setCell ⟨b,3,none⟩ u).heap.size=w.heap.size:=by simp[World.setCell]
theorem z9d{w:World}{base n size:Nat}{e:TypeId}{v:Value}{xs:List Value}(h:w.ownsRow base e size v n xs){b:Nat}(hb:b<base)(x y z u:Value) :
  ((((w.setCell ⟨b,0,none⟩ x).setCell ⟨b,1,none⟩ y).setCell ⟨b,2,none⟩ z).setCell ⟨b,3,none⟩ u).ownsRow base e size v n xs:=by
 refine⟨h.1,?_⟩
 rcases h.2 with h|⟨g,cap,cur,hv,hg,hh,h3⟩
 ·exact .inl h
 ·have hne:g≠b:=by omega
  exact .inr ⟨g,cap,cur,hv,hg,by rw[z8v hne,z8v hne,z8v hne,z8v hne];exact hh,h3⟩
def RcpV(w:World)(B:Nat)(v:Value)(r:Rcp):Prop:=∃sl,v= .agg #[VT r.name,.int .i64 r.len,.int .u32 (r.print:Int),sl]∧RdI w B sl r.ids
theorem RcpV.keep{w w':World}{B B':Nat}{v:Value}{r:Rcp}(h:RcpV w B v r)(hb:Below B' w w')(h1:B≤B'):RcpV w' B v r:=by
 obtain⟨sl,hv,hr⟩:=h
 exact⟨sl,hv,hr.keep hb h1⟩
theorem RcpV.more{w:World}{B B':Nat}{v:Value}{r:Rcp}(h:RcpV w B v r)(hB:B≤B'):RcpV w B' v r:=by
 obtain⟨sl,hv,hr⟩:=h
 exact⟨sl,hv,hr.more hB⟩
theorem RcpV.below{w w':World}{v:Value}{r:Rcp}(h:RcpV w w.heap.size v r)(hb:Below w.heap.size w w'):RcpV w' w'.heap.size v r:=(h.keep hb (zl _)).more hb.size
theorem RcpV.zero(w:World)(B:Nat):RcpV w B (.agg #[.string ByteArray.empty,.int .i64 0,.int .u32 0,.slice none 0 0]) R8:=⟨_,rfl,RdI.nil w B⟩
def R9:Value:= .agg #[.string ⟨#[]⟩,.int .i64 0,.int .u32 0,.slice none 0 0]
def RdB(w:World)(lo hi:Nat)(v:Value)(L:IdL):Prop:=
 ∃A c,v= .slice A L.length c∧L.length≤c∧(0<L.length→∃g o,A=some ⟨g,o,none⟩∧lo≤g∧g<hi∧∀k u,(U4 L)[k]? =some u→w.cell? ⟨g,o+k,none⟩=some u)
theorem RdB.rd{w:World}{lo hi:Nat}{v:Value}{L:IdL}(h:RdB w lo hi v L):RdI w hi v L:=by
 obtain⟨A,c,hv,hc,hx⟩:=h
 exact⟨A,c,hv,z8n L,hc,fun h0=>by obtain⟨g,o,h1,_,h3,h4⟩:=hx h0;exact⟨g,o,h1,h3,h4⟩⟩
theorem RdB.of{w:World}{hi:Nat}{v:Value}{L:IdL}(h:RdI w hi v L):RdB w 0 hi v L:=by
 obtain⟨A,c,hv,_,hc,hx⟩:=h
 exact⟨A,c,hv,hc,fun h0=>by obtain⟨g,o,h1,h3,h4⟩:=hx h0;exact⟨g,o,h1,Nat.zero_le _,h3,h4⟩⟩
theorem RdB.keep{w w':World}{lo hi lo' hi':Nat}{v:Value}{L:IdL}(h:RdB w lo hi v L)(hk:∀p:Addr,lo≤p.block→p.block<hi→w'.cell? p=w.cell? p)(h1:lo'≤lo)(h2:hi≤hi'):RdB w' lo' hi' v L:=by
 obtain⟨A,c,hv,hc,hx⟩:=h
 exact⟨A,c,hv,hc,fun h0=>by obtain⟨g,o,e1,e2,e3,e4⟩:=hx h0;exact⟨g,o,e1,by omega,by omega,fun k u hu=>(hk ⟨g,o+k,none⟩ e2 e3).trans (e4 k u hu)⟩⟩
theorem RdB.wide{w:World}{lo hi lo' hi':Nat}{v:Value}{L:IdL}(h:RdB w lo hi v L)(h1:lo'≤lo)(h2:hi≤hi'):RdB w lo' hi' v L:=h.keep (fun _ _ _=>rfl) h1 h2
theorem RdB.below{w w':World}{lo hi B:Nat}{v:Value}{L:IdL}(h:RdB w lo hi v L)(hb:Below B w w')(hB:hi≤B):RdB w' lo hi v L:=
 h.keep (fun _ _ hp=>hb.cell (Nat.lt_of_lt_of_le hp hB)) (zl _) (zl _)
theorem RdB.own{w:World}{base n:Nat}{v:Value}{L:IdL}(h:w.ownsRow base 25 2 v n (U4 L))(hn:n=L.length):RdB w base w.heap.size v L:=by
 subst hn
 rcases h.2 with⟨rfl,h0⟩|⟨g,cap,cur,hv,hge,hh,hnc,_⟩
 ·exact⟨none,0,by rw[h0],by rw[h0];exact zl _,fun h=>absurd h (by omega)⟩
 ·refine⟨_,cap,hv,hnc,fun _=>⟨g,0,rfl,hge,(Array.getElem?_eq_some_iff.1 hh).1,fun k u hu=> ?_⟩⟩
  subst hv
  have hk:k<L.length*2:=by rw[←h.1];exact(List.getElem?_eq_some_iff.1 hu).1
  rw[Nat.zero_add,h.cellAt k hk];exact hu
theorem RdB.nil(w:World)(lo hi:Nat):RdB w lo hi (.slice none 0 0) []:=⟨none,0,rfl,zl _,fun h=>absurd h (by simp)⟩
def RcpW(w:World)(lo hi:Nat)(v:Value)(r:Rcp):Prop:=∃sl,v= .agg #[VT r.name,.int .i64 r.len,.int .u32 (r.print:Int),sl]∧RdB w lo hi sl r.ids
theorem RcpW.v{w:World}{lo hi:Nat}{v:Value}{r:Rcp}(h:RcpW w lo hi v r):RcpV w hi v r:=by obtain⟨sl,hv,h⟩:=h;exact⟨sl,hv,h.rd⟩
theorem RcpW.of{w:World}{hi:Nat}{v:Value}{r:Rcp}(h:RcpV w hi v r):RcpW w 0 hi v r:=by obtain⟨sl,hv,h⟩:=h;exact⟨sl,hv,RdB.of h⟩
theorem RcpW.keep{w w':World}{lo hi lo' hi':Nat}{v:Value}{r:Rcp}(h:RcpW w lo hi v r)(hk:∀p:Addr,lo≤p.block→p.block<hi→w'.cell? p=w.cell? p)(h1:lo'≤lo)(h2:hi≤hi'):RcpW w' lo' hi' v r:=by
 obtain⟨sl,hv,h⟩:=h;exact⟨sl,hv,h.keep hk h1 h2⟩
theorem RcpW.wide{w:World}{lo hi lo' hi':Nat}{v:Value}{r:Rcp}(h:RcpW w lo hi v r)(h1:lo'≤lo)(h2:hi≤hi'):RcpW w lo' hi' v r:=h.keep (fun _ _ _=>rfl) h1 h2
theorem RcpW.below{w w':World}{lo hi B:Nat}{v:Value}{r:Rcp}(h:RcpW w lo hi v r)(hb:Below B w w')(hB:hi≤B):RcpW w' lo hi v r:=
 h.keep (fun _ _ hp=>hb.cell (Nat.lt_of_lt_of_le hp hB)) (zl _) (zl _)
theorem RcpW.zero(w:World)(lo hi:Nat):RcpW w lo hi R9 R8:=⟨_,rfl,RdB.nil w lo hi⟩
theorem z9e(w:World){b:Nat}(x y z u:Value){p:Addr}(h:p.block≠b):((((w.setCell ⟨b,0,none⟩ x).setCell ⟨b,1,none⟩ y).setCell ⟨b,2,none⟩ z).setCell ⟨b,3,none⟩ u).cell? p=w.cell? p:=by
 rw[World.cell?_setCell_other _ _ _ _ (by intro e;subst e;exact h rfl),World.cell?_setCell_other _ _ _ _ (by intro e;subst e;exact h rfl),World.cell?_setCell_other _ _ _ _ (by intro e;subst e;exact h rfl),World.cell?_setCell_other _ _ _ _ (by intro e;subst e;exact h rfl)]
theorem z9f{a:Nat→Addr}{v:Value}{c t:Int}{w:World}(h:EV a v c t w){b:Nat}{s0:ByteArray}{i j:Int}{A:Option Addr}{n m:Nat}(hb:Box4 b (.string s0) (.int .i64 i) (.int .u32 j) (.slice A n m) w)(x y z u:Value) :
  EV a v c t ((((w.setCell ⟨b,0,none⟩ x).setCell ⟨b,1,none⟩ y).setCell ⟨b,2,none⟩ z).setCell ⟨b,3,none⟩ u):=by
 rcases h with h|h|⟨k,g,o,hk,h1,h2,h3,h4⟩
 ·exact .inl h
 ·exact .inr (.inl h)
 ·have far:∀(p:Addr),p≠⟨b,0,none⟩→p≠⟨b,1,none⟩→p≠⟨b,2,none⟩→p≠⟨b,3,none⟩→((((w.setCell ⟨b,0,none⟩ x).setCell ⟨b,1,none⟩ y).setCell ⟨b,2,none⟩ z).setCell ⟨b,3,none⟩ u).cell? p=w.cell? p:=fun p p0 p1 p2 p3=>by
   rw[World.cell?_setCell_other _ _ _ _ (Ne.symm p3),World.cell?_setCell_other _ _ _ _ (Ne.symm p2),World.cell?_setCell_other _ _ _ _ (Ne.symm p1),World.cell?_setCell_other _ _ _ _ (Ne.symm p0)]
  refine .inr (.inr ⟨k,g,o,hk,h1,h2,(far _ ?_ ?_ ?_ ?_).trans h3,(far _ ?_ ?_ ?_ ?_).trans h4⟩)
  ·intro e;rw[e,hb.c0]at h3;cases h3
  ·intro e
   injection e with e1 e2
   subst e1;subst e2
   rw[hb.c2]at h4;cases h4
  ·intro e;rw[e,hb.c2]at h3;cases h3
  ·intro e;rw[e,hb.c3]at h3;cases h3
  ·intro e;rw[e,hb.c0]at h4;cases h4
  ·intro e;rw[e,hb.c1]at h4;cases h4
  ·intro e;rw[e,hb.c2]at h4;cases h4
  ·intro e;rw[e,hb.c3]at h4;cases h4
end Go.Proofs.YtdmlghfggninbaaGreatDoor
namespace Go.Proofs.YtdmlghfggninbaaGreatDoor
open Go.RowKit Go.Lib Go.Maps Go.WideMaps
theorem z9g:laidOutB Tryz.prog=true:=by kernel_rfl
theorem lawI:Keyed Tryz.prog 25:=Keyed.of_law (deep_law_laid z9g (m:=2) (by omega) (of_decide_eq_true (by kernel_rfl)) (by kernel_rfl) (by rw[Tryz.underlying25]))
theorem keyI{x:Idn}(h:IdOk x):keyOf Tryz.prog 25 (idV x)=some (Z6 x):=by
 have h1:Tryz.prog.keyType 25=true:=by kernel_rfl
 have h2:(idV x).formed Tryz.prog 25=true:=by
  unfold idV Value.formed
  rw[Tryz.underlying25]
  simp[show Tryz.prog.cellsOf 25=2 by kernel_rfl]
 obtain⟨m,hm⟩:∃m,Tryz.prog.types.size+1=m+2:=⟨Tryz.prog.types.size-1,by have:0<Tryz.prog.types.size:=of_decide_eq_true (by kernel_rfl);omega⟩
 have w1:(Lit.int .u32 (x.1:Int)).wf=true:=by
  have:=h.1
  simp[Lit.wf,IntKind.min,IntKind.max,IntKind.bits,IntKind.signed]
  omega
 have w2:(Lit.int .i64 x.2).wf=true:=by
  have:=h.2
  simp[Lit.wf,IntKind.min,IntKind.max,IntKind.bits,IntKind.signed]
  omega
 have h3:Tryz.prog.keyLits (Tryz.prog.types.size+1) 25 [.int .u32 (x.1:Int),.int .i64 x.2]=some [.int .u32 (x.1:Int),.int .i64 x.2]:=by
  rw[hm]
  simp[Program.keyLits,Tryz.underlying25,Tryz.underlying23,Tryz.underlying3,show Tryz.prog.cellsOf 25=2 by kernel_rfl,show Tryz.prog.cellsOf 23=1 by kernel_rfl,show Tryz.prog.cellsOf 3=1 by kernel_rfl,w1,w2]
 unfold keyOf
 rw[Tryz.underlying25]
 simp only[h1,h2,Bool.and_self,if_true]
 show(Tryz.prog.keyLits (Tryz.prog.types.size+1) 25 [.int .u32 (x.1:Int),.int .i64 x.2]).map _=_
 rw[h3];rfl
def hldC(h:Hld):List Value:= [.int .u32 (h.id.1:Int),.int .i64 h.id.2,.int .i64 h.uses,.string (bs h.text)]
abbrev hldV(h:Hld):Value:= .agg #[.int .u32 (h.id.1:Int),.int .i64 h.id.2,.int .i64 h.uses,.string (bs h.text)]
def HldW(h:Hld):Prop:=IdOk h.id∧ -9223372036854775808≤h.uses∧h.uses≤9223372036854775807
instance (h:Hld):Decidable (HldW h):=by unfold HldW IdOk;infer_instance
def K6:Value→Option (DataW Unit×List MemPlace)
 | .agg cs=>match cs.toList with
  | [.int .u32 p,.int .i64 l,.int .i64 u,.string s]=>if 0≤p∧HldW ⟨(p.toNat,l),u,s.data.toList⟩then some (hldU ⟨(p.toNat,l),u,s.data.toList⟩,[])else none
  | _=>none
 | _=>none
theorem z9h{h:Hld}(hw:HldW h):K6 (hldV h)=some (hldU h,[]):=by
 show(if 0≤(h.id.1:Int)∧HldW ⟨(((h.id.1:Int)).toNat,h.id.2),h.uses,(bs h.text).data.toList⟩then some (hldU ⟨(((h.id.1:Int)).toNat,h.id.2),h.uses,(bs h.text).data.toList⟩,[])else none)=_
 rw[show((h.id.1:Int)).toNat=h.id.1 by omega,Q3]
 exact if_pos ⟨by omega,hw⟩
theorem z9i{v:Value}{z:DataW Unit×List MemPlace}(hz:K6 v=some z):∃h,v=hldV h∧z=(hldU h,[])∧HldW h:=by
 unfold K6 at hz
 split at hz
 ·next cs=>
  split at hz
  ·next p l u s hcs=>
   split at hz
   ·next hw=>
    injection hz with hz
    refine⟨⟨(p.toNat,l),u,s.data.toList⟩,?_,hz.symm,hw.2⟩
    have e:cs= #[.int .u32 p,.int .i64 l,.int .i64 u,.string s]:=by rw[←Array.toArray_toList (xs:=cs),hcs]
    rw[e]
    show _=Value.agg #[.int .u32 ((p.toNat:Nat):Int),.int .i64 l,.int .i64 u,.string (bs s.data.toList)]
    rw[q0s,show((p.toNat:Nat):Int)=p by have:=hw.1;omega]
   ·cases hz
  ·cases hz
 ·cases hz
theorem z9j{h k:Hld}(e:hldU h=hldU k):h=k:=by
 unfold hldU at e
 injection e with e
 injection e with e1 e
 injection e with e2 e
 injection e with e3 e
 injection e with e4 _
 injection e1 with e1
 injection e2 with e2
 injection e3 with e3
 injection e4 with e4
 injection e1 with _ e1
 injection e2 with _ e2
 injection e3 with _ e3
 injection e4 with e4
 obtain⟨⟨p,l⟩,u,s⟩:=h
 obtain⟨⟨p',l'⟩,u',s'⟩:=k
 simp only at e1 e2 e3 e4
 have e1':p=p':=by omega
 subst e1';subst e2;subst e3;subst e4
 rfl
theorem z9k(w:World):(zeroValue 150).run Tryz.prog w= .ok (.agg #[.int .u32 0,.int .i64 0,.int .i64 0,.string ByteArray.empty]) w:=by kernel_rfl
theorem z9l:HldW hldZ:=by decide
theorem z9m:K6 (.agg #[.int .u32 0,.int .i64 0,.int .i64 0,.string ByteArray.empty])=some (hldU hldZ,[]):=z9h z9l
structure OBin(b mb:Nat)(L:HldL)(w:World):Prop where
 row:w.heap[b]? =some (.cells #[.map (some mb)] 157 (0,0))
 map:w.ownsMap Tryz.prog 25 K6 mb L.length (V5 L)
 ne:b≠mb
theorem OBin.lt{b mb:Nat}{L:HldL}{w:World}(h:OBin b mb L w):b<w.heap.size:=(Array.getElem?_eq_some_iff.1 h.row).1
theorem OBin.cell{b mb:Nat}{L:HldL}{w:World}(h:OBin b mb L w):w.cell? ⟨b,0,none⟩=some (.map (some mb)):=by rw[cell_of_row w b 0 _ _ _ h.row];rfl
theorem OBin.keep{b mb:Nat}{L:HldL}{w w':World}(h:OBin b mb L w)(h1:w'.heap[b]? =w.heap[b]?)(h2:w'.heap[mb]? =w.heap[mb]?):OBin b mb L w':=by
 refine⟨h1.trans h.row,?_,h.ne⟩
 obtain⟨es,clock,e1,e2⟩:=h.map
 exact⟨es,clock,h2.trans e1,e2⟩
theorem OBin.below{b mb:Nat}{L:HldL}{w w':World}(h:OBin b mb L w)(hb:Below w.heap.size w w'):OBin b mb L w':=
 h.keep (hb.block b h.lt) (hb.block mb h.map.lt)
theorem OBin.grown{b mb:Nat}{L:HldL}{w w':World}{r:Option Nat}(h:OBin b mb L w)(hg:w.grownBy w' r)(h1:some b≠r)(h2:some mb≠r):OBin b mb L w':=
 h.keep (hg.block b h.lt h1) (hg.block mb h.map.lt h2)
theorem z9n{w:World}{mb n:Nat}{L:HldL}(h:w.ownsMap Tryz.prog 25 K6 mb n (V5 L)):w.ownsMap Tryz.prog 25 K6 mb L.length (V5 L):=by
 obtain⟨es,clock,hb,F,_,hD⟩:=h
 refine⟨es,clock,hb,F,?_,hD⟩
 have e:Maps.size (V5 L)=es.size:=by rw[hD];simp[Maps.size,length_sorted]
 rw[z2z]at e
 omega
def atB(L:HldL)(x:Idn):Hld:=(getB L x).getD hldZ
theorem OBin.look{b mb:Nat}{L:HldL}{w:World}(h:OBin b mb L w)(hL:∀y∈L,IdOk y.id){x:Idn}(hx:IdOk x) :
  (Instr.lookup 155 (.map (some mb)) (idV x) true).run Tryz.prog w= .ok (.tuple #[hldV (atB L x),.bool (getB L x).isSome]) w∧HldW (atB L x):=by
 obtain⟨v,ps,hr,hv⟩:=h.map.look_ok lawI Tryz.underlying155 (z9k w) z9m (keyI hx)
 obtain⟨y,rfl,e,hw⟩:=z9i hv
 injection e with e _
 rw[z2y hL hx]at e
 obtain rfl:=z9j e
 exact⟨by rw[hr,z2x hL hx];rfl,hw⟩
theorem OBin.look_some{b mb:Nat}{L:HldL}{w:World}(h:OBin b mb L w)(hL:∀y∈L,IdOk y.id){x:Idn}(hx:IdOk x){o:Hld}(hg:getB L x=some o) :
  (Instr.lookup 155 (.map (some mb)) (idV x) true).run Tryz.prog w= .ok (.tuple #[hldV o,.bool true]) w:=by
 have:=(h.look hL hx).1
 unfold atB at this
 rw[hg]at this
 exact this
theorem OBin.look_none{b mb:Nat}{L:HldL}{w:World}(h:OBin b mb L w)(hL:∀y∈L,IdOk y.id){x:Idn}(hx:IdOk x)(hg:getB L x=none) :
  (Instr.lookup 155 (.map (some mb)) (idV x) true).run Tryz.prog w= .ok (.tuple #[hldV hldZ,.bool false]) w:=by
 have:=(h.look hL hx).1
 unfold atB at this
 rw[hg]at this
 exact this
theorem OBin.len{b mb:Nat}{L:HldL}{w:World}(h:OBin b mb L w):(Builtin.len_ #[155] 3 #[.map (some mb)]).run Tryz.prog w= .ok (.int .i64 (L.length:Int)) w:=by
 have:=h.map.len Tryz.underlying155 3
 rw[z2z]at this
 exact this
theorem X7{w w':World}{r:Option Nat}(h:Below w.heap.size w w'):w.grownBy w' r:=⟨h.os,h.tape,h.output,h.size,fun k hk _=>h.block k hk⟩
theorem OBin.put{b mb:Nat}{L:HldL}{w w':World}(h:OBin b mb L w)(hs:SrtB L)(hL:∀y∈L,IdOk y.id∧0≤y.id.2)(o:Hld)(ho:IdOk o.id∧0≤o.id.2){n:Nat}
  (hm:w'.ownsMap Tryz.prog 25 K6 mb n ((V5 L).put (Z6 o.id) (hldU o))) (hg:w.grownBy w' (some mb)):OBin b mb (setB o L) w':=by
 refine⟨(hg.block b h.lt (fun e=>h.ne (Option.some.inj e))).trans h.row,?_,h.ne⟩
 rw[z3d hs hL o ho]at hm
 exact z9n hm
theorem z9o(w:World):Calls Tryz.prog 69 #[] w fun e w'=>∃b mb,e= .returned (.pointer (some ⟨b,0,none⟩))∧OBin b mb [] w'∧w.heap.size≤b∧w.heap.size≤mb∧Below w.heap.size w w':=by
 have hmm:= @run_makeMap Tryz.prog
 go_enter Tryz.func69,Tryz.ntmps69
 go_wp2
 go_ret
 have h1:=World.ownsMap_made w Tryz.prog 25 K6
 refine⟨_,w.heap.size,rfl,⟨by have:=heap_alloc_new (w.alloc (.map #[] 0)) (.cells #[.map (some w.heap.size)] 157);simpa using this,h1.alloc _,by simp⟩,by simp,zl _,((zb _ _).alloc (zl _) _).alloc (by simp) _⟩
theorem z9p(s:ByteArray)(hs:s.size≤1000000000)(w:World):Calls Tryz.prog 133 #[.string s] w fun e w'=>e= .returned (.bool (q0m s.data.toList))∧w=w':=by
 have hz:=Z4 s
 by_cases h1:1≤s.size
 ·have h1i:(s.size:Int)≥1:=by omega
  by_cases h2:s.size≤64
  ·have h2i:(s.size:Int)≤64:=by omega
   have HR:Hid (q0m s.data.toList=true):=zh (M4.2 (by omega))
   clear h1 h2 hz
   go_enter Tryz.func133,Tryz.ntmps133
   go_wp2
   go_ret
   exact⟨by rw[HR.out];rfl,rfl⟩
  ·have h2i:¬(s.size:Int)≤64:=by omega
   have HR:Hid (q0m s.data.toList=false):=zh (by rw[Bool.eq_false_iff];intro e;have:=M4.1 e;omega)
   clear h1 h2 hz
   go_enter Tryz.func133,Tryz.ntmps133
   go_wp2
   go_ret
   exact⟨by rw[HR.out];rfl,rfl⟩
 ·have h1i:¬(s.size:Int)≥1:=by omega
  have HR:Hid (q0m s.data.toList=false):=zh (by rw[Bool.eq_false_iff];intro e;have:=M4.1 e;omega)
  clear h1 hz
  go_enter Tryz.func133,Tryz.ntmps133
  go_wp2
  go_ret
  exact⟨by rw[HR.out];rfl,rfl⟩
def z9q(L:HldL)(x:Idn):Bytes×Int:=match getB L x with
 | some h=>(h.text,0)
 | none=>([],5)
set_option maxHeartbeats 1000000 in
theorem z9r(a:Nat→Addr)(b mb:Nat)(L:HldL)(hL:∀y∈L,IdOk y.id)(x:Idn)(hx:IdOk x)(w:World)(hB:OBin b mb L w)(hs:SomeS [4] a w) :
  Calls Tryz.prog 83 #[.pointer (some ⟨b,0,none⟩),idV x] w fun e w'=>∃r,e= .returned (.tuple #[VT (z9q L x).1,r])∧EV a r (z9q L x).2 (-1) w'∧Below w.heap.size w w':=by
 have hb0:Below w.heap.size w (w.alloc (.cells #[.int .u32 (x.1:Int),.int .i64 x.2] 25)):=(zb _ w).alloc (zl _) _
 have HB0:=zh hb0
 have HBB:=zh (hB.below hb0)
 have HX:=zh (Box2.mk' w (.int .u32 (x.1:Int)) (.int .i64 x.2) 25)
 have HS:=zh (hs.below hb0)
 cases hg:getB L x with
 | some o=>
  have LK:=zh (fun w' (h:OBin b mb L w')=>h.look_some hL hx hg)
  have HR:Hid (z9q L x=(o.text,0)):=zh (by unfold z9q;rw[hg])
  clear hb0 hs hB hg hL hx
  go_enter Tryz.func83,Tryz.ntmps83
  go_wp2_with fail
  generalize w.alloc (.cells #[.int .u32 (x.1:Int),.int .i64 x.2] 25)=w0 at *
  go_wp2
  have hS0:Below w0.heap.size w0 w0.drew:=(zb _ _).drew
  refine kR (fun w'=>Below w0.heap.size w0 w') 11 ?_
  refine kT 0 hS0 ?_
  refine kT 1 hS0 ?_
  refine kT 2 hS0 ?_
  refine kS 3 rfl hS0 (fun w' hS=>by have A0:=(HBB.out.below hS).cell;go_simp;rfl) ?_
  refine kS 4 rfl hS0 (fun w' hS=>by have A0:=(HX.out.below hS HX.out.lt).c0;have A1:=(HX.out.below hS HX.out.lt).c1;go_simp;rfl) ?_
  refine kS 5 rfl hS0 (fun w' hS=>by have A0:=LK.out w' (HBB.out.below hS);go_simp;rfl) ?_
  refine kT 6 hS0 ?_
  refine kT 7 hS0 ?_
  refine kT 8 hS0 ?_
  refine kC 9 (fun K hK=> ?_)
  go_simp
  have hS5:Below w0.heap.size w0 ((w0.alloc (.cells #[.int .u32 0,.int .i64 0,.int .i64 0,.string ⟨#[]⟩] 150)).drew):=((zb _ w0).alloc (zl _) _).drew
  have hbh:Box4 w0.heap.size (.int .u32 0) (.int .i64 0) (.int .i64 0) (.string ⟨#[]⟩) ((w0.alloc (.cells #[.int .u32 0,.int .i64 0,.int .i64 0,.string ⟨#[]⟩] 150)).drew):=Box4.mk' w0.drew _ _ _ _ _
  refine hK _ _ hS5 ?_
  clear hK K
  try simp only[Act.put,zM]
  generalize(w0.alloc (.cells #[.int .u32 0,.int .i64 0,.int .i64 0,.string ⟨#[]⟩] 150)).drew=w6a at *
  have HBH0:=zh hbh
  obtain⟨b0,b1,b2,b3,hf⟩:=hbh
  have f0:=hf 0
  have f1:=hf 1
  have f2:=hf 2
  have f3:=hf 3
  refine kC 10 (fun K hK=> ?_)
  go_simp
  have hS6:=Z7 hS5 (zl _) (.int .u32 (o.id.1:Int)) (.int .i64 o.id.2) (.int .i64 o.uses) (.string (bs o.text))
  refine hK _ _ hS6 (kF ?_)
  clear hK K
  try simp only[Act.put,zM]
  simp only[List.drop_succ_cons,List.drop_zero]
  have HBH:=zh (HBH0.out.set (.int .u32 (o.id.1:Int)) (.int .i64 o.id.2) (.int .i64 o.uses) (.string (bs o.text)))
  generalize((((w6a.setCell ⟨w0.heap.size,0,none⟩ (.int .u32 (o.id.1:Int))).setCell ⟨w0.heap.size,1,none⟩ (.int .i64 o.id.2)).setCell ⟨w0.heap.size,2,none⟩ (.int .i64 o.uses)).setCell ⟨w0.heap.size,3,none⟩ (.string (bs o.text)))=w6 at *
  clear hS5 hS0 HBH0 b0 b1 b2 b3 hf f0 f1 f2 f3
  obtain⟨h0,h1,h2,h3,_⟩:=HBH.out
  have HR9:=zh hS6
  go_wp2
  go_ret2
  exact⟨_,by rw[HR.out];rfl,by rw[HR.out];exact EV.none a _,HB0.out.trans (HR9.out.mono HB0.out.size)⟩
 | none=>
  have LK:=zh (fun w' (h:OBin b mb L w')=>h.look_none hL hx hg)
  have HR:Hid (z9q L x=([],5)):=zh (by unfold z9q;rw[hg])
  clear hb0 hs hB hg hL hx
  go_enter Tryz.func83,Tryz.ntmps83
  go_wp2_with fail
  generalize w.alloc (.cells #[.int .u32 (x.1:Int),.int .i64 x.2] 25)=w0 at *
  go_wp2
  have hS0:Below w0.heap.size w0 w0.drew:=(zb _ _).drew
  refine kR (fun w'=>Below w0.heap.size w0 w') 11 ?_
  refine kT 0 hS0 ?_
  refine kT 1 hS0 ?_
  refine kT 2 hS0 ?_
  refine kS 3 rfl hS0 (fun w' hS=>by have A0:=(HBB.out.below hS).cell;go_simp;rfl) ?_
  refine kS 4 rfl hS0 (fun w' hS=>by have A0:=(HX.out.below hS HX.out.lt).c0;have A1:=(HX.out.below hS HX.out.lt).c1;go_simp;rfl) ?_
  refine kS 5 rfl hS0 (fun w' hS=>by have A0:=LK.out w' (HBB.out.below hS);go_simp;rfl) ?_
  refine kT 6 hS0 ?_
  refine kT 7 hS0 ?_
  refine kT 8 hS0 ?_
  refine kC 9 (fun K hK=> ?_)
  go_simp
  have hS5:Below w0.heap.size w0 ((w0.alloc (.cells #[.int .u32 0,.int .i64 0,.int .i64 0,.string ⟨#[]⟩] 150)).drew):=((zb _ w0).alloc (zl _) _).drew
  have hbh:Box4 w0.heap.size (.int .u32 0) (.int .i64 0) (.int .i64 0) (.string ⟨#[]⟩) ((w0.alloc (.cells #[.int .u32 0,.int .i64 0,.int .i64 0,.string ⟨#[]⟩] 150)).drew):=Box4.mk' w0.drew _ _ _ _ _
  refine hK _ _ hS5 ?_
  clear hK K
  try simp only[Act.put,zM]
  generalize(w0.alloc (.cells #[.int .u32 0,.int .i64 0,.int .i64 0,.string ⟨#[]⟩] 150)).drew=w6a at *
  have HBH0:=zh hbh
  obtain⟨b0,b1,b2,b3,hf⟩:=hbh
  have f0:=hf 0
  have f1:=hf 1
  have f2:=hf 2
  have f3:=hf 3
  refine kC 10 (fun K hK=> ?_)
  go_simp
  have hS6:=Z7 hS5 (zl _) (.int .u32 (hldZ.id.1:Int)) (.int .i64 hldZ.id.2) (.int .i64 hldZ.uses) (.string (bs hldZ.text))
  refine hK _ _ hS6 (kF ?_)
  clear hK K
  try simp only[Act.put,zM]
  simp only[List.drop_succ_cons,List.drop_zero]
  have HBH:=zh (HBH0.out.set (.int .u32 (hldZ.id.1:Int)) (.int .i64 hldZ.id.2) (.int .i64 hldZ.uses) (.string (bs hldZ.text)))
  generalize((((w6a.setCell ⟨w0.heap.size,0,none⟩ (.int .u32 (hldZ.id.1:Int))).setCell ⟨w0.heap.size,1,none⟩ (.int .i64 hldZ.id.2)).setCell ⟨w0.heap.size,2,none⟩ (.int .i64 hldZ.uses)).setCell ⟨w0.heap.size,3,none⟩ (.string (bs hldZ.text)))=w6 at *
  clear hS5 hS0 HBH0 b0 b1 b2 b3 hf f0 f1 f2 f3
  obtain⟨h0,h1,h2,h3,_⟩:=HBH.out
  have HR9:=zh hS6
  have s4:w6.cell? ⟨0,0,none⟩=some (sval a 4):=(HS.out.below hS6) 4 (by simp)
  unfold sval at s4
  clear hS6
  go_wp2
  go_quiet (fail)
  go_wp2
  go_ret2
  exact⟨_,by rw[HR.out];rfl,by rw[HR.out];exact EV.sent a _ 4 (by decide),V3 (HB0.out.trans (HR9.out.mono HB0.out.size)) _⟩
end Go.Proofs.YtdmlghfggninbaaGreatDoor
