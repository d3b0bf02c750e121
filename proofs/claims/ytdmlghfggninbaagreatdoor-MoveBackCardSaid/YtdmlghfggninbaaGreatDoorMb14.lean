/- NdM, NdE, NdV, NdW in one text. Conditions: as each part says. -/
import Derived.Test.YtdmlghfggninbaaGreatDoorMb10
import Derived.Test.YtdmlghfggninbaaGreatDoorMb4
import Derived.Test.YtdmlghfggninbaaGreatDoorMb5
import Derived.Test.YtdmlghfggninbaaGreatDoorMb7
import Derived.Sort.MapsRangeIn
import Derived.WideKeyEntry
import Derived.Test.YtdmlghfggninbaaGreatDoorMb17
import Derived.RangeFuncKeeps
import Derived.RangeFuncMany
import Derived.RangeFuncLeaves
import Derived.Sort.KeysCollected
import Derived.OwnWalkIn
import Derived.TacticsInMore
import Derived.RegionIn
import Derived.LoopNIn
import Derived.LoopIn
import Derived.Test.YtdmlghfggninbaaGreatDoorBnM
import Derived.Shelf.SlSortCmp.WholeK
import Derived.Shelf.SlSortCmp.NoneTotal
import Derived.Lib.OwnBridge
import Derived.RangeFuncNested
import Derived.RangeFuncBox
import Derived.Shelf.Abstract
import Derived.WalkKit
set_option linter.unusedVariables false
set_option linter.unusedSimpArgs false
set_option maxHeartbeats 2000000
set_option maxRecDepth 100000
namespace Go.Proofs.YtdmlghfggninbaaGreatDoor
open Go.RowKit Go.Lib Go.Maps Go.WideMaps
abbrev strV(b:Bytes):Value:= .string (bs b)
theorem j2c:Keyed Tryz.prog 9:=Keyed.of_law (string_law Tryz.underlying9)
theorem j2d{x:Bytes}(h:X6 x):keyOf Tryz.prog 9 (strV x)=some (C9 x):=by
 have:=keyOf_string_mk (P:=Tryz.prog) Tryz.underlying9 (s:=bs x) (by rw[Q8];exact h)
 rw[this,Q3];rfl
theorem j2e{v:Value}{kl:Lit}(h:keyOf Tryz.prog 9 v=some kl):∃x,X6 x∧v=strV x∧kl=C9 x:=by
 obtain⟨s,rfl⟩:=Maps.keyOf_string_inv Tryz.underlying9 h
 have hz:s.size≤maxLen:=by
  rcases Nat.lt_or_ge maxLen s.size with hlt|hge
  ·exfalso
   rw[keyOf_string Tryz.underlying9]at h
   simp[mapKey,Lit.wf]at h
   omega
  ·exact hge
 have h2:=keyOf_string_mk (P:=Tryz.prog) Tryz.underlying9 hz
 rw[h2]at h
 injection h with h
 exact⟨s.data.toList,by unfold X6;rw[←Z4];exact hz,by show _=Value.string (bs s.data.toList);rw[q0s],h.symm⟩
theorem j2f:KeyRd Tryz.prog 9 C9 bytesBefore X6 X6 strV where
 emb:=U3
 law:=j2c
 key:=j2d
 inv:=j2e
 kinj:=fun {x y} h=>by
  injection h with h
  have:=congrArg (fun b=>b.data.toList) h
  simpa[Q3]using this
 lit:=fun _=>trivial
theorem idRd:KeyRd Tryz.prog 25 Z6 Q2 R5 IdOk idV where
 emb:=M0
 law:=lawI
 key:=keyI
 inv:=j0y
 kinj:=j1b
 lit:=fun _=>trivial
structure FE where
 r:Rcp
 sl:Value
structure BE where
 L:HldL
 b:Nat
 mb:Nat
def feV(e:FE):Value:= .agg #[VT e.r.name,.int .i64 e.r.len,.int .u32 (e.r.print:Int),e.sl]
def beV(e:BE):Value:= .pointer (some ⟨e.b,0,none⟩)
theorem j2g(w:World):(zeroValue 40).run Tryz.prog w= .ok (.agg #[.string ByteArray.empty,.int .i64 0,.int .u32 0,.slice none 0 0]) w:=by kernel_rfl
theorem j2h(w:World):(zeroValue 47).run Tryz.prog w= .ok (.pointer none) w:=by kernel_rfl
abbrev FL:=List (Bytes×FE)
abbrev BL:=List (Idn×BE)
structure ONode(n fm bm:Nat)(F:FL)(B:BL)(w:World):Prop where
 row:w.heap[n]? =some (.cells #[.map (some fm),.map (some bm)] 81 (0,0))
 files:AlMap Tryz.prog 9 C9 feV fm F w
 bins:AlMap Tryz.prog 25 Z6 beV bm B w
 rd:∀q∈F,RdI w w.heap.size q.2.sl q.2.r.ids
 bin:∀q∈B,OBin q.2.b q.2.mb q.2.L w
 nd:(fm::bm::B.map (fun q=>q.2.mb)).Nodup
def Q0(F:FL)(B:BL):PNode:=⟨K7 FE.r F,K7 BE.L B⟩
def J5(n fm bm:Nat)(F:FL)(B:BL):Foot:=
 ⟨fun k=>k=fm∨k=bm∨∃q∈B,q.2.mb=k,fun k=>k=n∨(∃q∈B,q.2.b=k)∨∃q∈F,q.2.sl.ownBlock=some k∧q.2.r.ids≠ []⟩
def j2i(n:Nat)(P:PNode)(f:Foot)(w:World):Prop:=∃fm bm F B,ONode n fm bm F B w∧Q0 F B=P∧J5 n fm bm F B=f
theorem ONode.nlt{n fm bm:Nat}{F:FL}{B:BL}{w:World}(h:ONode n fm bm F B w):n<w.heap.size:=(Array.getElem?_eq_some_iff.1 h.row).1
theorem ONode.c0{n fm bm:Nat}{F:FL}{B:BL}{w:World}(h:ONode n fm bm F B w):w.cell? ⟨n,0,none⟩=some (.map (some fm)):=by rw[cell_of_row w n 0 _ _ _ h.row];rfl
theorem ONode.c1{n fm bm:Nat}{F:FL}{B:BL}{w:World}(h:ONode n fm bm F B w):w.cell? ⟨n,1,none⟩=some (.map (some bm)):=by rw[cell_of_row w n 1 _ _ _ h.row];rfl
theorem RdI.keepF{w w':World}{v:Value}{L:IdL}(h:RdI w w.heap.size v L)(hz:w.heap.size≤w'.heap.size)(hk:∀k,v.ownBlock=some k→L≠ []→k<w.heap.size→w'.heap[k]? =w.heap[k]?):RdI w' w'.heap.size v L:=by
 obtain⟨A,c,hv,hl,hc,hx⟩:=h
 refine⟨A,c,hv,hl,hc,fun h0=> ?_⟩
 obtain⟨g,o,hA,hg,hcell⟩:=hx h0
 subst hA;subst hv
 exact⟨g,o,rfl,by omega,fun k u hu=>(World.cell?_of_block (a:=⟨g,o+k,none⟩) (hk g rfl (fun e=>by rw[e]at h0;exact absurd h0 (by simp[U4])) hg)).trans (hcell k u hu)⟩
theorem ONode.lt{n fm bm:Nat}{F:FL}{B:BL}{w:World}(h:ONode n fm bm F B w):∀k,(J5 n fm bm F B).S k→k<w.heap.size:=fun k hk=>by
 rcases hk with rfl|rfl|⟨q,hq,rfl⟩
 ·exact h.files.blt
 ·exact h.bins.blt
 ·exact(h.bin q hq).map.lt
theorem ONode.ltB{n fm bm:Nat}{F:FL}{B:BL}{w:World}(h:ONode n fm bm F B w):∀q∈B,q.2.b<w.heap.size:=fun q hq=>(h.bin q hq).lt
theorem ONode.keepH{n fm bm:Nat}{F:FL}{B:BL}{w w':World}(h:ONode n fm bm F B w)(hz:w.heap.size≤w'.heap.size)(hk:∀k,k<w.heap.size→((J5 n fm bm F B).S k∨(J5 n fm bm F B).R k)→w'.heap[k]? =w.heap[k]?):ONode n fm bm F B w' where
 row:=(hk n h.nlt (.inr (.inl rfl))).trans h.row
 files:=h.files.keep (hk fm h.files.blt (.inl (.inl rfl)))
 bins:=h.bins.keep (hk bm h.bins.blt (.inl (.inr (.inl rfl))))
 rd:=fun q hq=>(h.rd q hq).keepF hz fun k e hne hlt=>hk k hlt (.inr (.inr (.inr ⟨q,hq,e,hne⟩)))
 bin:=fun q hq=>(h.bin q hq).keep (hk q.2.b (h.bin q hq).lt (.inr (.inr (.inl ⟨q,hq,rfl⟩)))) (hk q.2.mb (h.bin q hq).map.lt (.inl (.inr (.inr ⟨q,hq,rfl⟩))))
 nd:=h.nd
theorem ONode.below{n fm bm:Nat}{F:FL}{B:BL}{w w':World}(h:ONode n fm bm F B w)(hb:Below w.heap.size w w'):ONode n fm bm F B w':=h.keepH hb.size fun k hk _=>hb.block k hk
end Go.Proofs.YtdmlghfggninbaaGreatDoor
namespace Go.Proofs.YtdmlghfggninbaaGreatDoor
open Go.RowKit Go.Lib Go.Maps Go.WideMaps Go.ChangeMaps
def Stay(w w':World):Prop:=∀p v,w.cell? p=some v→w'.cell? p=some v
theorem Stay.refl(w:World):Stay w w:=fun _ _ h=>h
theorem Stay.trans{a b c:World}(h:Stay a b)(k:Stay b c):Stay a c:=fun p v hv=>k p v (h p v hv)
theorem Stay.drew{a b:World}(h:Stay a b):Stay a b.drew:=h
theorem j2j{w:World}{b:Nat}{es:Array MapEntry}{clock:Nat}{o:Obj}(hb:w.heap[b]? =some (.map es clock)):Stay w (setBlock w b o):=by
 intro p v hv
 by_cases e:p.block=b
 ·exfalso
  unfold World.cell? at hv
  rw[e,hb]at hv
  simp at hv
 ·rw[←hv]
  exact World.cell?_of_block (by unfold setBlock;simp[Array.getElem?_setIfInBounds,Ne.symm e])
section
variable {K V:Type} {P:Program} {k:TypeId} {lit:K→Lit} {lt:K→K→Bool} {ok okw:K→Prop} {kv:K→Value} [DecidableEq K]
theorem AlMap.entry(R:KeyRd P k lit lt ok okw kv)(KL:KeyLaw P k){f:V→Value}{mb:Nat}{L:List (K×V)}{w:World}(h:AlMap P k lit f mb L w)(hs:K1 lt L)(hL:∀p∈L,ok p.1){t e:TypeId}(ht:P.underlying t=some (.map k e)){z:Value}(hz:∀u:World,(zeroValue e).run P u= .ok z u)(hn:L.length<maxLen)(x:K)(v:V)(hx:ok x) :
  ∃v0 st w1 w2,(Instr.mapEntry t (.map (some mb)) (kv x)).run P w= .ok (.tuple #[v0,goInt st]) w1∧Stay w w1∧(Instr.entryStore t (.map (some mb)) (goInt st) (f v)).run P w1= .ok () w2∧AlMap P k lit f mb (Q9 lt x v L) w2∧Stay w w2∧w.grownBy w2 (some mb)∧w2.heap.size=w.heap.size:=by
 have h0:=h
 obtain⟨es,clock,hb,F,hsz,hD⟩:=h
 obtain⟨v0,st,es1,clock1,h1,_,h3⟩:=Go.WideElems.entry_then_store KL ht hz hb F (R.key (R.emb.wide hx))
 obtain⟨es2,clock2,h4,h5⟩:=h3 (setBlock w mb (.map es1 clock1)) (f v) (heap_setBlock_same hb _)
 obtain⟨w',h6,h7,h8⟩:=World.ownsMap.store h0 R.law ht hn (R.key (R.emb.wide hx)) (show rawE (f v)=some (.held (f v),[])from rfl)
 rw[h5]at h6
 injection h6 with _ h6
 have e2:setBlock (setBlock w mb (.map es1 clock1)) mb (.map es2 clock2)=setBlock w mb (.map es2 clock2):=by unfold setBlock;simp
 rw[e2]at h4
 refine⟨v0,st,_,_,h1,j2j hb,h4,?_,j2j hb,?_,?_⟩
 ·rw[h6];exact AlMap.put R hs hL x v hx h7
 ·rw[h6];exact h8.grown
 ·simp[setBlock]
end
theorem j2k:KeyLaw Tryz.prog 9:=string_law Tryz.underlying9
theorem klId:KeyLaw Tryz.prog 25:=deep_law_laid z9g (m:=2) (by omega) (of_decide_eq_true (by kernel_rfl)) (by kernel_rfl) (by rw[Tryz.underlying25])
end Go.Proofs.YtdmlghfggninbaaGreatDoor
namespace Go.Proofs.YtdmlghfggninbaaGreatDoor
open Go.RowKit Go.Lib Go.Maps Go.WideMaps Go.Sort Go.Shelf
def R3(os:BL):IdL:=os.map (·.1)
theorem j2l(n:Nat)(hn:1≤n)(Bm mb:Nat)(L:BL)(hS:K1 Q2 L)(hL:∀p∈L,R5 p.1)(w:World)(hBm:Bm<w.heap.size)(hm:w.cell? ⟨Bm,0,none⟩=some (.map (some mb)))(hown:AlMap Tryz.prog 25 Z6 beV mb L w) :
  SeqStopsK Fence.wide n Tryz.prog 147 #[.pointer (some ⟨Bm,0,none⟩)] (fun o:Idn=> #[idV o]) KeepsWalks (fun os=>os.Perm (R3 L)) (fun _=>True) L.length w:=by
 intro l J Jx W hW hJ hJx hY h0
 have hown':W.ownsMap Tryz.prog 25 rawE mb L.length (alD Z6 beV L):=by
  have hbl:=hown.blt
  obtain⟨es,clock,hb,Ft,hs,hD⟩:=hown
  exact⟨es,clock,(hW.block mb hbl).trans hb,Ft,hs,hD⟩
 have c0:W.cell? ⟨Bm,0,none⟩=some (.map (some mb)):=(hW.cell (p:=⟨Bm,0,none⟩) hBm).trans hm
 have HS:=zh hS
 have HOK:=zh hL
 have hsz:Maps.size (alD Z6 beV L)=L.length:=z5b Z6 beV L
 clear hown hm hL hS
 refine callsIn_of_wp Tryz.func147 rfl trivial ?_ rfl
 simp only[Tryz.ntmps147,List.size_toArray,List.length_cons,List.length_nil,Nat.reduceAdd,Nat.reduceSub,Array.replicate_succ,Array.replicate_zero,List.push_toArray,List.append_toArray,List.nil_append,List.cons_append]
 gi_wp2_with (first
  | (gi_at_range;refine wpListIn_range_own _ rfl _ 79 rfl 25 47 lawI Tryz.underlying79 rawE mb L.length (alD Z6 beV L) rfl hown' ?_;intro w0 hrg0 hg0 hs0)
  | gi_in)
 try go_frame
 gi_loopw [3] (fun _ wr=>∃(left:Lit→Bool) (cnt:Nat) (os:BL),wr.ranges Tryz.prog 25 rawE mb W.heap.size L.length (alD Z6 beV L) left cnt∧os.length+cnt≤L.length∧AlCame Z6 L left os∧J (R3 os) wr)
  (fun _ wr=>wr.rangeLeft mb W.heap.size)
 case atStart=>
  exact⟨_,_,[],hrg0,by rw[hsz];simp,AlCame.start M0 beV HOK.out,hJ [] W w0 none h0 hg0 (fun r e=>by cases e)⟩
 case round=>
  obtain⟨left,cnt,os,hrg,hcs,hC,hJs⟩:=hrel
  gi_wp2_with (first
   | (gi_at_next;refine wpListIn_next_ranges _ rfl _ rfl 25 lawI rawE idV id idRd.mk_inv z5q mb W.heap.size L.length (alD Z6 beV L) left _ rfl hrg ?_ ?_)
   | gi_in)
  ·intro _ hl0
   have HP:=zh ((hC.perm M0 HS.out hl0).map (·.1))
   clear hl0
   gi_wp2
   go_end0
   exact⟨⟨_,rfl⟩,.inl ⟨R3 os,HP.out,hJs⟩⟩
  ·intro x1 x2 c kl yd yp w2 cnt2 hkey hlk hv hat hrg2 hlt hg2 hs2 hen
   obtain⟨rfl,hx,be,hmem,rfl⟩:=z5r (x:=(x1,x2)) idRd HOK.out hkey hv hat
   have hJ2:J (R3 os) w2:=hJ (R3 os) wr w2 (some W.heap.size) hJs hg2 (fun r e=>by cases e;exact⟨zl _,hrg.iter_walk⟩)
   have hJ3:J (R3 os) (w2.alloc (.cells #[.int .u32 (x1:Int),.int .i64 x2] 25)):=hJ (R3 os) w2 _ none hJ2 (World.grownBy_alloc _ _ none) (fun r e=>by cases e)
   have hC2:=zh (hC.step M0 HS.out HOK.out (o:=((x1,x2),be)) hmem hlk)
   have HRG2:=zh (hrg2.alloc (.cells #[.int .u32 (x1:Int),.int .i64 x2] 25))
   obtain⟨fn,tmps,assign,body,hy,hR⟩:=hY (R3 os) (x1,x2) _ hJ3 (by unfold R3;rw[List.length_map];omega)
   have HLT:=zh hlt
   clear hkey hlk hv hat hg2 hs2 hx hmem hC hJ2 hJ3
   gi_wp2
   refine hR.mono ?_
   rintro e W3 (⟨rfl,hJ3,hk3⟩|⟨rfl,hJx3⟩)
   ·gi_wp2
    have hrg3:=HRG2.out.of_walks hk3
    go_roundw
    case rel=>exact⟨_,cnt2,os++ [((x1,x2),be)],hrg3,by simp;omega,hC2.out,by unfold R3 at hJ3 ⊢;rw[List.map_append];exact hJ3⟩
    case measure=>rw[hrg3.left_eq,hrg.left_eq];exact HLT.out
   ·gi_wp2
    refine bodyPost_ret (results_none rfl _ _ _) rfl ?_
    exact⟨⟨_,rfl⟩,.inr ⟨R3 os++ [(x1,x2)],trivial,hJx3⟩⟩
attribute [local go_sem] Oper.semAt_some
def IdBox(W:World)(b:Nat)(x:Idn):Prop:=W.heap[b]? =some (.cells #[.int .u32 (x.1:Int),.int .i64 x.2] 25 (0,0))
theorem IdBox.own{x:Idn}{b:Nat}{X Y:World}{row:Option Nat}(h:IdBox X b x)(hg:X.grownBy Y row)(hr:∀r,row=some r→∃o:Obj,X.heap[r]? =some o∧o.isCells=false):IdBox Y b x:=by
 refine(hg.block b (Array.getElem?_eq_some_iff.1 h).1 (fun e=> ?_)).trans h
 obtain⟨o,ho,hc⟩:=hr b e.symm
 rw[show X.heap[b]? =_ from h]at ho;cases ho;cases hc
theorem IdBox.cells{x:Idn}{b:Nat}{W:World}(h:IdBox W b x):W.cell? ⟨b,0,none⟩=some (.int .u32 (x.1:Int))∧W.cell? ⟨b,1,none⟩=some (.int .i64 x.2):=by
 refine⟨?_,?_⟩<;>rw[cell_of_row W b _ _ _ _ h]<;>rfl
theorem j2m(n:Nat)(hn:2≤n)(Bm mb:Nat)(L:BL)(hS:K1 Q2 L)(hK:∀p∈L,R5 p.1)(hl:L.length≤1000000)(w:World)(hBm:Bm<w.heap.size)(hm:w.cell? ⟨Bm,0,none⟩=some (.map (some mb)))(hown:AlMap Tryz.prog 25 Z6 beV mb L w) :
  CallsIn Fence.wide n Tryz.prog 192 #[.slice none 0 0,.func (.func 147) #[] #[.pointer (some ⟨Bm,0,none⟩)]] w fun e W'=>∃v os,e= .returned v∧os.Perm (R3 L)∧W'.ownsRow w.heap.size 25 2 v os.length (U4 os)∧Below w.heap.size w W':=by
 obtain⟨i0,hi,hz0,hz1,hz2⟩:=info_parts z8t
 have h1:1≤n:=by omega
 refine callsIn_of_wp_marks Tryz.func192 rfl trivial ?_ rfl
 simp only[Tryz.ntmps192,List.size_toArray,List.length_cons,List.length_nil,Nat.reduceAdd,Nat.reduceSub,Array.replicate_succ,Array.replicate_zero,List.push_toArray,List.append_toArray,List.nil_append,List.cons_append]
 gi_wp2
 have bO:=Boxed.new w 38 (.slice none 0 0)
 have hB0:Below w.heap.size w (w.alloc (.cells #[.slice none 0 0] 38)):=(zb _ w).alloc (zl _) _
 have hst:=j2l (n-1) (by omega) Bm mb L hS hK (w.alloc (.cells #[.slice none 0 0] 38)) (by simp;omega) ((hB0.cell (p:=⟨Bm,0,none⟩) hBm).trans hm) (hown.below hB0)
 refine wpIn_rangeFunc_ownH q3z h1 (gf:=147) (lb:= #[.pointer (some ⟨Bm,0,none⟩)]) rfl trivial (enters_of Tryz.func147 (by kernel_rfl) rfl)
  hst walksK_t walksK_b (zb _ _) (fun _=>rfl)
  (fun(pre:IdL) W=>(∃v,Boxed W w.heap.size 38 v∧W.ownsRow w.heap.size 25 2 v pre.length (U4 pre)∧True)∧Below w.heap.size w W)
  (fun _ _ _=>False)
  (OwnFrom.and (Own.from (holdsRow_own w.heap.size w.heap.size 38 25 2 (fun pre:IdL=>pre.length) U4 (fun(_:IdL) _=>True)) _) (ownFrom_below (zl _) (by simp)))
  (fun _ _ _ _ _ hs _ _=>hs)
  ⟨⟨_,bO,World.ownsRow_nil _ _ _ _,trivial⟩,hB0⟩
  (fun x a' W=>∃Bx,w.heap.size<Bx∧IdBox W Bx x∧a'= {tmps:= #[.slice none 0 0,.func (.func 147) #[] #[.pointer (some ⟨Bm,0,none⟩)],.pointer (some ⟨w.heap.size,0,none⟩),undef,.slice none 0 0,.pointer (some ⟨Bx,0,none⟩),.func (.func 147) #[] #[.pointer (some ⟨Bm,0,none⟩)],idV x,undef,undef,undef,undef,undef],defers:= []})
  (fun x a' _ X Y row hs hg hr=>by obtain⟨Bx,h1,h2,h3⟩:=hs;exact⟨Bx,h1,h2.own hg (fun r e=>(hr r e).2),h3⟩)
  ?assign ?body ?done ?stop
 case assign=>
  rintro l pre x W K ⟨⟨v,hv,hrow,_⟩,hB⟩ hKK
  have hlt:=hv.lt
  have hnew:IdBox (W.alloc (.cells #[.int .u32 (x.1:Int),.int .i64 x.2] 25)) W.heap.size x:=World.alloc_heap_new W _
  gi_wp2
  exact hKK _ _ ((KeepsOthers.alloc _ _).from _) (KeepsWalks.alloc _ _) ⟨⟨_,hv.alloc _,hrow.alloc _,trivial⟩,hB.alloc hB.size _⟩ ⟨W.heap.size,hlt,hnew,rfl⟩
 case body=>
  rintro l pre x a' W hl' _ ⟨⟨v,hv,hrow,_⟩,hB⟩ ⟨Bx,hBx,hX,rfl⟩ hlt
  have hc:=hv.cell
  obtain⟨c0,c1⟩:=hX.cells
  gi_wp2_with (gi_at_builtin;refine wpListIn_append_own _ rfl _ _ 38 rfl w.heap.size 25 i0 (.agg #[.int .u32 0,.int .i64 0]) 2 16 Tryz.underlying38 hi hz0 hz1 hz2 rfl (by decide) _ _ _ rfl (hrow.alloc _) ⟨W.heap.size,0,none⟩ 1 1 (W7 x) rfl rfl (z8s _ _ _ _) (by simp[W7,Value.oneCell']) (by unfold maxLen;omega) (by omega) (by have:=hB.size;simp;omega) ?_;intro v' w1 hown' hgrow _;obtain⟨g',cap',rfl⟩:=ownsRow_succ hown';obtain⟨hv1,hv2,hr2,hk2,hb2⟩:=hv.appended (by decide) hrow hB.size (zl _) hown' hgrow;have hc1:=hv1.cell;have hf1:=hv1.frozen)
  exact⟨hk2.from _,hk2.walks,⟨_,hv2,by rw[z8p,List.length_append];exact hr2,trivial⟩,hB.trans hb2⟩
 case done=>
  rintro D ys W hD hys ⟨⟨v,hv,hrow,_⟩,hB⟩ hK
  have hc:=hv.cell
  gi_wp2
  refine⟨by simp,.inl ⟨_,_,rfl,run_takeDeferred hK,?_⟩⟩
  refine⟨_,results_tmp rfl _ _ _,v,ys,rfl,hys,?_,hB.trans (belowK_b (w:=w) (zl _) W D _ _ (by simp at hD;omega) hK rfl rfl)⟩
  exact ownsRow_putObj hrow (.deferred none) hK rfl
 case stop=>
  rintro D c pre W _ _ h _
  exact h.elim
theorem j2n(os:IdL):flatK W7 2 os.toArray=(U4 os).toArray:=by
 refine ext_get! (by simp[z8n]) fun t ht=> ?_
 have ht':t<os.length*2:=by simpa using ht
 have hd:t/2<os.length:=by omega
 rw[get_flatK _ _ _ t (by simpa using ht')]
 have h1:=z8q os (t/2) hd (t%2) (Nat.mod_lt _ (by decide))
 rw[show t/2*2+t%2=t by omega]at h1
 have h2:(U4 os).toArray[t]! =((U4 os)[t]?).getD default:=by simp[Array.getElem!_eq_getD,Array.getD_eq_getD_getElem?]
 rw[h2,h1]
 simp[List.getElem!_eq_getElem?_getD,getElem!_pos,hd]
theorem j2o{w:World}{base g n cap:Nat}{os:IdL}(h:w.ownsRow base 25 2 (.slice (some ⟨g,0,none⟩) n cap) n (U4 os)):HoldsK W7 2 w g 0 os.toArray:=by
 show Holds id w g 0 (flatK W7 2 os.toArray)
 rw[j2n]
 intro j hj
 have hj':j<(U4 os).length:=by simpa using hj
 have hl:=h.1
 rw[Nat.zero_add]
 refine⟨?_,h.frozenAt j⟩
 rw[h.cellAt j (by omega),List.getElem?_eq_getElem hj']
 simp[getElem!_pos,hj']
theorem j2p{w:World}{base g n cap q:Nat}{zs:List Value}{ys:IdL}(h:w.ownsRow base 25 2 (.slice (some ⟨g,0,none⟩) n cap) n zs)(hy:ys.length=n) :
  (putRowK W7 2 (Sort.ahead w q) g 0 ys.toArray).ownsRow base 25 2 (.slice (some ⟨g,0,none⟩) n cap) n (U4 ys):=by
 unfold putRowK
 rw[j2n]
 rcases h.2 with⟨e0,_⟩|⟨g',cap',cur,e0,hb,hg,hn,hm,hs,ht⟩
 ·cases e0
 ·injection e0 with e1 _ e3
  injection e1 with e1
  injection e1 with e1
  subst e1;subst e3
  have hz:=z8n ys
  refine⟨by rw[hz,hy],.inr ⟨g,cap,putCells id 0 (U4 ys).toArray cur,rfl,hb,?_,hn,hm,by simpa[putCells]using hs,?_⟩⟩
  ·simp[putRow,mapBlock,Sort.ahead,Array.getElem?_modify,hg,onCells]
  ·apply List.ext_getElem?
   intro j
   rw[List.getElem?_take,Array.getElem?_toList]
   by_cases hj:j<n*2
   ·have hjc:j<cur.size:=by omega
    have hjz:j<(U4 ys).length:=by omega
    simp only[if_pos hj,putCells,Array.getElem?_mapIdx,Array.getElem?_eq_getElem hjc,Option.map_some]
    rw[if_pos (by simp;omega),List.getElem?_eq_getElem hjz]
    simp[getElem!_pos,hjz]
   ·rw[if_neg hj,List.getElem?_eq_none (by omega)]
theorem j2q:∀ {L M:IdL},L.Pairwise (fun a b=>Q2 a b=true)→M.Perm L→M.Pairwise (fun a b=>Q2 b a=false)→M=L
 | [],M,_,hp,_=>List.Perm.eq_nil hp
 | x::r,[],_,hp,_=>absurd hp.symm.eq_nil (by simp)
 | x::r,y::m,hs,hp,hm=>by
  obtain⟨h1,h2⟩:=List.pairwise_cons.1 hs
  obtain⟨m1,m2⟩:=List.pairwise_cons.1 hm
  have hxy:y=x:=by
   have hx:x∈y::m:=hp.symm.subset List.mem_cons_self
   have hy:y∈x::r:=hp.subset List.mem_cons_self
   rcases List.mem_cons.1 hx with e|hx
   ·exact e.symm
   ·rcases List.mem_cons.1 hy with e|hy
    ·exact e
    ·have a1:=h1 y hy
     have a2:=m1 x hx
     rw[a1]at a2;cases a2
  subst hxy
  rw[j2q h2 (List.Perm.cons_inv hp) m2]
def cfI(x y:Idn):Int:=z0m x.1 y.1 x.2 y.2
theorem j2r(x y:Idn):ltOf cfI x y=Q2 x y:=z0n _ _ _ _
theorem j2s:SWO (ltOf cfI):=⟨fun x=>by rw[j2r,R1],fun x y z h1 h2=>by rw[j2r]at *;exact D9 h1 h2,fun x y z h1 h2=>by
 rw[j2r]at *
 have h3:¬Q2 x y=true:=by rw[h1];simp
 have h4:¬Q2 y z=true:=by rw[h2];simp
 rw[q0a]at h3 h4
 rw[Bool.eq_false_iff,Ne,q0a]
 omega⟩
theorem j2t(base g cap:Nat)(L os:IdL)(hS:L.Pairwise (fun a b=>Q2 a b=true))(hp:os.Perm L)(hl:L.length≤1000000)(w0 w:World)(ho:w.ownsRow base 25 2 (.slice (some ⟨g,0,none⟩) os.length cap) os.length (U4 os))(hB:Below base w0 w)(hbase:base≤w.heap.size) :
  Calls Tryz.prog 146 #[.slice (some ⟨g,0,none⟩) os.length cap,.func (.func 80) #[] #[]] w fun e w'=>e= .returned (.tuple #[])∧w'.ownsRow base 25 2 (.slice (some ⟨g,0,none⟩) os.length cap) L.length (U4 L)∧Below base w0 w':=by
 have hlen:os.length=L.length:=hp.length_eq
 have hgl:g<w.heap.size∧base≤g:=by
  rcases ho.2 with⟨e0,_⟩|⟨g',cap',cur,e0,hb,hg,_⟩
  ·cases e0
  ·injection e0 with e1 _ _
   injection e1 with e1
   injection e1 with e1
   subst e1
   exact⟨(Array.getElem?_eq_some_iff.1 hg).1,hb⟩
 refine(AnyQ.slices_SortFunc (P:=Tryz.prog) Tryz.sortf146 2 Tryz.isAgg25 Tryz.sizeOf25 W7 (fun _=>rfl) (fun x v hv=>by simp only[W7,List.mem_cons,List.not_mem_nil,or_false]at hv;rcases hv with rfl|rfl<;>rfl) cfI j2s 80 #[] g 0 cap os.toArray w
  (enters_of Tryz.func80 (by kernel_rfl) rfl) (fun m os' dk _ x y=>k2b x.1 y.1 x.2 y.2 _) (j2o ho) hgl.1 (by simp;omega)).mono ?_
 rintro e w' ⟨rfl,d',n,os',hpm,hst,rfl⟩
 obtain⟨hsz,_,hpe⟩:=hpm
 have hsz':d'.toList.length=os.length:=by simpa using hsz
 have hpe':d'.toList.Perm os:=by
  have e1:d'.extract 0 os.toArray.size=d':=by rw[←hsz];simp
  have e2:os.toArray.extract 0 os.toArray.size=os.toArray:=by simp
  rw[e1,e2]at hpe
  simpa using hpe
 have hso:d'.toList.Pairwise (fun a b=>Q2 b a=false):=by
  rw[List.pairwise_iff_getElem]
  intro i j hi hj hij
  have:=hst i j (Nat.zero_le _) hij (by have:=hsz';rw[List.size_toArray];omega)
  rw[j2r]at this
  simpa[getElem!_pos,show i<d'.size by simpa using hi,show j<d'.size by simpa using hj]using this
 have hd:d'.toList=L:=j2q hS (hpe'.trans hp) hso
 have hda:d'=L.toArray:=by rw[←hd]
 subst hda
 have h1:=j2p (q:=n) ho (ys:=L) (by omega)
 have h2:(sortWorldK W7 2 w g 0 n L.toArray os').ownsRow base 25 2 (.slice (some ⟨g,0,none⟩) os.length cap) os.length (U4 L):=Q4 h1 (Lib.below_grow _ _ (zl _) 0 os')
 refine⟨rfl,by rw[←hlen];exact h2,?_⟩
 have hbp:=below_putRow (enc:=id) (q:=n) (d:=flatK W7 2 L.toArray) hB hgl.2
 exact hbp.trans ((Lib.below_grow _ _ (zl _) 0 os').mono (Nat.le_trans hbase (by simp[putRow,mapBlock,Sort.ahead])))
theorem j2u(Bm mb:Nat)(L:BL)(hS:K1 Q2 L)(hK:∀p∈L,R5 p.1)(hl:L.length≤1000000)(w:World)(hBm:Bm<w.heap.size)(hm:w.cell? ⟨Bm,0,none⟩=some (.map (some mb)))(hown:AlMap Tryz.prog 25 Z6 beV mb L w) :
  Calls Tryz.prog 192 #[.slice none 0 0,.func (.func 147) #[] #[.pointer (some ⟨Bm,0,none⟩)]] w fun e W'=>∃v os,e= .returned v∧os.Perm (R3 L)∧W'.ownsRow w.heap.size 25 2 v os.length (U4 os)∧Below w.heap.size w W':=
 callsIn_wide.1 (j2m 2 (zl _) Bm mb L hS hK hl w hBm hm hown)
theorem j2v(Bm mb:Nat)(L:BL)(hS:K1 Q2 L)(hK:∀p∈L,R5 p.1)(hl:L.length≤1000000)(w:World)(hBm:Bm<w.heap.size)(hm:w.cell? ⟨Bm,0,none⟩=some (.map (some mb)))(hown:AlMap Tryz.prog 25 Z6 beV mb L w) :
  Calls Tryz.prog 145 #[.func (.func 147) #[] #[.pointer (some ⟨Bm,0,none⟩)]] w fun e W'=>∃v os,e= .returned v∧os.Perm (R3 L)∧W'.ownsRow w.heap.size 25 2 v os.length (U4 os)∧Below w.heap.size w W':=by
 have AP:=zh (j2u Bm mb L hS hK hl w hBm hm hown)
 clear hS hK hm hown
 go_enter Tryz.func145,Tryz.ntmps145
 go_wp2_with fail
 refine AP.out.mono ?_
 rintro e w1 ⟨v,os,rfl,hp,ho,hb⟩
 obtain⟨A,c,hv⟩:=J0 ho
 subst hv
 have HP:=zh hp
 have HO:=zh ho
 have HB:=zh hb
 clear hp ho hb
 go_wp2
 go_ret
 exact⟨_,os,rfl,HP.out,HO.out,HB.out⟩
def j2w(L:IdL)(w:World)(e:Ending)(W':World):Prop:=∃v,e= .returned v∧W'.ownsRow w.heap.size 25 2 v L.length (U4 L)∧Below w.heap.size w W'
theorem j2x(Bm mb:Nat)(L:BL)(hS:K1 Q2 L)(hK:∀p∈L,R5 p.1)(hl:L.length≤1000000)(w:World)(hBm:Bm<w.heap.size)(hm:w.cell? ⟨Bm,0,none⟩=some (.map (some mb)))(hown:AlMap Tryz.prog 25 Z6 beV mb L w) :
  Calls Tryz.prog 78 #[.func (.func 147) #[] #[.pointer (some ⟨Bm,0,none⟩)],.func (.func 80) #[] #[]] w (j2w (R3 L) w):=by
 have AP:=zh (j2v Bm mb L hS hK hl w hBm hm hown)
 have HOK:Hid ((R3 L).Pairwise (fun a b=>Q2 a b=true)):=zh (List.pairwise_map.2 hS)
 have hkl:(R3 L).length=L.length:=List.length_map _
 clear hS hK hm hown
 go_enter Tryz.func78,Tryz.ntmps78
 go_wp2_with fail
 refine AP.out.mono ?_
 rintro e w1 ⟨v,os,rfl,hp,ho,hb⟩
 have hlen:=hp.length_eq
 have HP:=zh hp
 have HO:=zh ho
 have HB:=zh hb
 rcases ho.2 with⟨rfl,h0⟩|⟨g,cap,cur,rfl,_⟩
 ·have hL0:R3 L= []:=List.eq_nil_of_length_eq_zero (by omega)
  have ho0:os= []:=List.eq_nil_of_length_eq_zero h0
  have NO:Hid (Calls Tryz.prog 146 #[.slice none 0 0,.func (.func 80) #[] #[]] w1 fun e w'=>e= .returned (.tuple #[])∧w'=w1):=zh (AnyF.slices_SortFunc_none (P:=Tryz.prog) Tryz.sortf146 none 0 (.func (.func 80) #[] #[]) w1)
  have HQ:Hid (j2w (R3 L) w (.returned (.slice none 0 0)) w1):=zh ⟨_,rfl,by rw[hL0];exact World.ownsRow_nil _ _ _ _,HB.out⟩
  clear hp ho hb hL0 ho0 h0 hlen hkl
  go_wp2_with fail
  have NO':=NO.out
  clear NO
  refine Calls.mono NO' (fun e w2 h=> ?_)
  obtain⟨he,hw⟩:=h
  subst he
  subst hw
  go_wp2
  go_ret
  exact HQ.out
 ·have SO:=zh (j2t w.heap.size g cap (R3 L) os HOK.out hp (by omega) w w1 ho hb hb.size)
  clear hp ho hb hlen hkl
  go_wp2_with fail
  refine SO.out.mono ?_
  rintro e w2 ⟨rfl,ho2,hb2⟩
  have HQ:Hid (j2w (R3 L) w (.returned (.slice (some ⟨g,0,none⟩) os.length cap)) w2):=zh ⟨_,rfl,ho2,hb2⟩
  clear ho2 hb2
  go_wp2
  go_ret
  exact HQ.out
theorem j2y(mb:Nat)(w:World):Calls Tryz.prog 79 #[.map (some mb)] w fun e w'=>e= .returned (.func (.func 147) #[] #[.pointer (some ⟨w.heap.size,0,none⟩)])∧w'=w.alloc (.cells #[.map (some mb)] 79):=by
 go_enter Tryz.func79,Tryz.ntmps79
 go_wp2
 go_ret
 exact⟨rfl,rfl⟩
theorem j2z(n fm bm:Nat)(F:FL)(B:BL)(hS:K1 Q2 B)(hK:∀p∈B,R5 p.1)(hl:B.length≤1000000)(w:World)(hN:ONode n fm bm F B w) :
  Calls Tryz.prog 26 #[.pointer (some ⟨n,0,none⟩)] w (j2w (R3 B) w):=by
 have c1:=hN.c1
 have hb1:Below w.heap.size w (w.alloc (.cells #[.map (some bm)] 79)):=(zb _ w).alloc (zl _) _
 have SO:=zh (j2x w.heap.size bm B hS hK hl (w.alloc (.cells #[.map (some bm)] 79)) (by simp) (by rw[World.cell?_alloc_at _ _ _ _ rfl];rfl) (hN.bins.below hb1))
 have HB1:=zh hb1
 clear hb1 hN hS hK
 go_enter Tryz.func26,Tryz.ntmps26
 go_wp2_with fail
 refine(j2y bm w).mono ?_
 rintro e w1 ⟨rfl,rfl⟩
 go_wp2_with fail
 refine SO.out.mono ?_
 rintro e w2 ⟨v,rfl,ho,hb⟩
 obtain⟨A,c,hv⟩:=J0 ho
 subst hv
 have HQ:Hid (j2w (R3 B) w (.returned (.slice A (R3 B).length c)) w2):=zh ⟨_,rfl,M2 ho (by simp),HB1.out.trans (hb.mono HB1.out.size)⟩
 clear ho hb
 go_wp2
 go_ret
 exact HQ.out
end Go.Proofs.YtdmlghfggninbaaGreatDoor
