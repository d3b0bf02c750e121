/- PrP, PrQ, Tabs, Round, Held, Sents, Ev, CutW, RefY in one text. Conditions: as each part says. -/
import Derived.Test.YtdmlghfggninbaaGreatDoorMb30
import Derived.Test.YtdmlghfggninbaaGreatDoorShelf
import Derived.Lib.SmallJoins
import Derived.Lib.AppendIntMem
import Derived.Below
import Derived.RangeFuncNested
import Derived.RangeFuncBound
import Derived.RangeFuncCalls
import Derived.RangeFuncLeaves
import Derived.RangeFuncBox
import Derived.WalkKit
import Derived.WalkSpells
import Derived.WalkLawsBesides
import Derived.OwnWalkIn
import Derived.TacticsInMore
import Derived.LoopNIn
import Derived.LoopIn
import Derived.Handy
import Derived.Lib.Hide
import Derived.StillTailTactics
import Derived.Maps.AppendAt
import Derived.OrdersHeld
import Derived.Test.YtdmlghfggninbaaGreatDoorChecked
import Derived.Shelf.Abstract
import Derived.Shelf.RegionOpen
import Derived.Lib.LazyBuf
import Derived.Deep.RegionLaw
set_option linter.unusedVariables false
set_option linter.unusedSimpArgs false
set_option maxHeartbeats 1000000
set_option maxRecDepth 100000
namespace Go.Proofs.YtdmlghfggninbaaGreatDoor
open Go.RowKit Go.Lib
theorem q3e(a b:Nat)(ha:a<4294967296)(hb:b<4294967296)(h:a*16777619%4294967296=b*16777619%4294967296):a=b:=by
 have e:∀c:Nat,c<4294967296→c*16777619%4294967296*899433627%4294967296=c:=fun c hc=>by
  rw[Nat.mul_mod,Nat.mod_mod,←Nat.mul_mod,Nat.mul_assoc,show 16777619*899433627=3513497*4294967296+1 from by decide,Nat.mul_add,Nat.mul_one,←Nat.mul_assoc,Nat.mul_add_mod_self_right]
  exact Nat.mod_eq_of_lt hc
 rw[←e a ha,←e b hb,h]
theorem q3f(x a b:Nat)(h:x ^^^ a=x ^^^ b):a=b:=by
 have:x ^^^ (x ^^^ a)=x ^^^ (x ^^^ b):=by rw[h]
 simpa[←Nat.xor_assoc]using this
theorem q3g(x y a:Nat)(h:x ^^^ a=y ^^^ a):x=y:=by
 rw[Nat.xor_comm x,Nat.xor_comm y]at h
 exact q3f a x y h
theorem q3h(x:Nat)(c:UInt8)(hx:x<4294967296):x ^^^ c.toNat<4294967296:=
 Nat.xor_lt_two_pow (n:=32) hx (Nat.lt_of_lt_of_le c.toNat_lt (by decide))
theorem q3i(x y:Nat)(c:UInt8)(hx:x<4294967296)(hy:y<4294967296)(h:q1q x c=q1q y c):x=y:=
 q3g x y c.toNat (q3e _ _ (q3h x c hx) (q3h y c hy) h)
theorem q3j(x:Nat)(c d:UInt8)(hx:x<4294967296)(h:q1q x c=q1q x d):c=d:=
 UInt8.toNat_inj.1 (q3f x _ _ (q3e _ _ (q3h x c hx) (q3h x d hx) h))
theorem q3k(l:Bytes):∀(x y:Nat),x<4294967296→y<4294967296→q0r x l=q0r y l→x=y:=by
 induction l with
 | nil=>intro x y _ _ h;exact h
 | cons c l ih=>
  intro x y hx hy h
  exact q3i x y c hx hy (ih _ _ (q1s x c) (q1s y c) h)
theorem q3l(p q:Bytes)(c d:UInt8)(h:c≠d):prOf (p++c::q)≠prOf (p++d::q):=by
 intro e
 unfold prOf at e
 rw[q1r,q1r]at e
 have hl:=q1t 2166136261 p (by omega)
 exact h (q3j _ c d hl (q3k q _ _ (q1s _ c) (q1s _ d) e))
def hexc(d:Nat):UInt8:=if d<10 then UInt8.ofNat (48+d)else UInt8.ofNat (87+d)
def q3m(n j:Nat):UInt8:=hexc (n/16^j%16)
def hexL(n L:Nat):Bytes:=(List.range L).map fun p=>q3m n (L-1-p)
def hex8(n:Nat):Bytes:=hexL n 8
theorem X8(n L:Nat):(hexL n L).length=L:=by unfold hexL;simp
theorem q3n(n L:Nat):hexL n (L+1)=q3m n L::hexL n L:=by
 unfold hexL
 rw[List.range_succ_eq_map,List.map_cons,List.map_map]
 congr 1
 refine List.map_congr_left fun p hp=> ?_
 have:p<L:=List.mem_range.1 hp
 show q3m n (L+1-1-(p+1))=q3m n (L-1-p)
 rw[show L+1-1-(p+1)=L-1-p by omega]
theorem q3o(n L j:Nat)(h:n<16^L)(hj:L≤j):q3m n j=48:=by
 have:n<16^j:=Nat.lt_of_lt_of_le h (Nat.pow_le_pow_right (by decide) hj)
 unfold q3m
 rw[Nat.div_eq_of_lt this];rfl
theorem q3p(n L:Nat)(h:n<16^L):∀k,hexL n (L+k)=List.replicate k 48++hexL n L
 | 0=>rfl
 | k+1=>by rw[←Nat.add_assoc,q3n,q3o n L _ h (by omega),q3p n L h k];rfl
theorem q3q(n L:Nat)(h:n<16^L)(hL:L≤8):List.replicate (8-L) 48++hexL n L=hex8 n:=by
 unfold hex8
 rw[←q3p n L h (8-L),show L+(8-L)=8 by omega]
def q3r(c:UInt8):Option Nat:=
 if 48≤c.toNat∧c.toNat≤57 then some (c.toNat-48)
 else if 97≤c.toNat ||| 32∧c.toNat ||| 32≤122 then some ((c.toNat ||| 32)-87)else none
def U7(acc:Nat):Bytes→Except Bool Nat
 | []=> .ok acc
 | c::r=>match q3r c with
  | none=> .error false
  | some d=>if 16≤d then .error false else if 4294967296≤acc*16+d then .error true else U7 (acc*16+d) r
def B5(l:Bytes):Except Bool Nat:=if l= []then .error false else U7 0 l
theorem q3s(d:Nat)(h:d<16):q3r (hexc d)=some d:=
 (show ∀e:Fin 16,q3r (hexc e.1)=some e.1 by decide+kernel) ⟨d,h⟩
theorem q3t(n:Nat)(hn:n<4294967296):∀L,L≤8→U7 (n/16^L) (hexL n L)= .ok n
 | 0,_=>by simp[hexL,U7]
 | L+1,h=>by
  rw[q3n]
  simp only[U7,q3m,q3s (n/16^L%16) (Nat.mod_lt _ (by decide))]
  have e:n/16^(L+1)*16+n/16^L%16=n/16^L:=by
   rw[Nat.pow_succ,←Nat.div_div_eq_div_mul];omega
  have hle:n/16^L≤n:=Nat.div_le_self _ _
  rw[if_neg (by omega),e,if_neg (by omega)]
  exact q3t n hn L (by omega)
theorem q3u(n:Nat)(hn:n<4294967296):B5 (hex8 n)= .ok n:=by
 unfold B5
 rw[if_neg (fun e=>by have:=X8 n 8;unfold hex8 at e;rw[e]at this;simp at this)]
 have:=q3t n hn 8 (zl _)
 rw[Nat.div_eq_of_lt (by omega)]at this
 exact this
theorem q3v(l:Bytes):∀acc n,acc<4294967296→U7 acc l= .ok n→n<4294967296:=by
 induction l with
 | nil=>intro acc n h e;simp only[U7,Except.ok.injEq]at e;omega
 | cons c l ih=>
  intro acc n h e
  simp only[U7]at e
  split at e
  ·cases e
  ·split at e
   ·cases e
   ·split at e
    ·cases e
    ·exact ih _ _ (by omega) e
theorem q3w{l:Bytes}{n:Nat}(h:B5 l= .ok n):n<4294967296:=by
 unfold B5 at h
 split at h
 ·cases h
 ·exact q3v l 0 n (by decide) h
def K9(l:Bytes):Option Nat:=match B5 l with
 | .ok n=>if hex8 n=l then some n else none
 | _=>none
theorem q3x(n:Nat)(hn:n<4294967296):K9 (hex8 n)=some n:=by
 unfold K9
 rw[q3u n hn];simp
theorem q3y{l:Bytes}{n:Nat}(h:K9 l=some n):n<4294967296∧l=hex8 n:=by
 unfold K9 at h
 split at h
 ·next m hm=>
  split at h
  ·next he=>
   injection h with h
   subst h
   exact⟨q3w hm,he.symm⟩
  ·cases h
 ·cases h
end Go.Proofs.YtdmlghfggninbaaGreatDoor
namespace Go.Proofs.YtdmlghfggninbaaGreatDoor
open Go.RowKit Go.Lib Go.Sort
structure Tabs(w:World):Prop where
 tab:TabIs Tryz.prog w "internal/strconv.uint64pow10" .u64 pow10Tab
 db:w.cell? ⟨18,15,none⟩=some (.int .u8 4)
theorem Tabs.below{w w':World}(h:Tabs w)(hb:Below w.heap.size w w'):Tabs w' where
 tab:=Go.Joins.tab_stays (g:=13) (by kernel_rfl) h.tab hb (zl _)
 db:=(hb.cell (p:=⟨18,15,none⟩) (World.block_lt_of_cell? w _ h.db)).trans h.db
def MaxL(w:World):Prop:=∃m,w.cell? ⟨14,0,none⟩=some (.int .i64 m)
theorem MaxL.below{w w':World}(h:MaxL w)(hb:Below w.heap.size w w'):MaxL w':=by
 obtain⟨m,hm⟩:=h
 exact⟨m,(hb.cell (p:=⟨14,0,none⟩) (World.block_lt_of_cell? w _ hm)).trans hm⟩
end Go.Proofs.YtdmlghfggninbaaGreatDoor
namespace Go.Proofs.YtdmlghfggninbaaGreatDoor
open Go.RowKit
variable {P:Program} {ops:Array Oper} {Q:Exit→Act→World→Prop} {r n:Nat}
theorem q3z:Fence.wide.round=none:=rfl
theorem q4a{n:Nat}:Fence.wide.depth.isSome=true→1≤n:=fun h=>by cases h
theorem q4b{F:Fence}(hd:F.depth=none)(k:Nat):F.room k:=fun d h=>by rw[hd]at h;cases h
theorem q4c{F:Fence}(hd:F.depth=none){m m':Nat}{P:Program}{l:Nat}{f:FuncId}{tmps:Array Value}{assign body:Code}{w:World}{R:Ending→World→Prop}
  (h:RoundIn F m P l f tmps assign body w R):RoundIn F m' P l f tmps assign body w R:=⟨h.1,fun c cs _=>h.2 c cs (q4b hd _)⟩
theorem q4d{F:Fence}(hd:F.depth=none){m:Nat}(m':Nat){P:Program}{l:Nat}{args:Array Value}{W:World}{R:Ending→World→Prop}(h:YieldAt F m P l args W R):YieldAt F m' P l args W R:=by
 obtain⟨fn,tmps,assign,body,hy,hR⟩:=h
 exact⟨fn,tmps,assign,body,hy,q4c hd hR⟩
theorem M3{a w:World}(h:Below a.heap.size a w):a.grownBy w none:=⟨h.os,h.tape,h.output,h.size,fun i hi _=>h.block i hi⟩
theorem q4e{row:String}{args:Array Value}{w:World}{R:Value→World→Prop}(h:Rows P row args w R):RowsIn (Fence.wide.inRound r) n P row args w R:=
 fun c cs _=>let⟨v,w',hR,hs⟩:=h c cs;⟨v,w',hR,stepsIn_wide.2 hs⟩
theorem opIn{o:Oper}{a:Act}{w:World}{K:Act→World→Prop}(hnd:∀c,o.op≠ .defer c)(h:o.wp P a w K Q):o.wpIn (Fence.wide.inRound r) n P a w K Q:=by
 refine⟨fun _ _=>trivial,?_⟩
 rw[Oper.semAt_eq _ _ _ hnd]
 unfold Oper.wp at h
 generalize(execOp a.eval o).run P w=res at h
 cases res with
 | ok nx w'=>
  cases nx with
  | enter f args=>
   rw[Oper.uponIn_enter]
   rw[Oper.upon_enter]at h
   exact⟨q4a,(callsIn_wide (n:=n-1)).2 h⟩
  | row row args=>
   rw[Oper.uponIn_row]
   rw[Oper.upon_row]at h
   exact⟨q4a,q4e h⟩
  | _=>first|exact h|exact h.elim
 | halt hh w'=>cases hh<;>first|exact h|exact h.elim
theorem q4f{i:Nat}{a:Act}{w:World}{K K':Act→World→Prop}(hout:∀a w,¬Q .outgrown a w)(hnd:∀o,ops[i]? =some o→∀c,o.op≠ .defer c)
  (hk:∀a w,K a w→K' a w) (h:wpOp P ops Q i K a w):wpOpIn (Fence.wide.inRound r) n P ops Q i K' a w:=by
 unfold wpOp at h
 unfold wpOpIn
 split
 ·rename_i ho;simp only[ho]at h;exact hk _ _ h
 ·rename_i o ho
  simp only[ho]at h
  split
  ·rename_i hw
   rw[if_pos hw]at h
   rcases h with h|⟨_,a',w',h⟩
   ·exact opIn (hnd o ho) (Oper.wp_mono hk h)
   ·exact absurd h (hout a' w')
  ·rename_i hw
   rw[if_neg hw]at h
   exact⟨fun _ _=>trivial,hk _ _ h⟩
theorem q4g{md:Region.Mode}(hout:∀a w,¬Q .outgrown a w)(hnd:∀(i:Nat) (o:Oper),ops[i]? =some o→∀c,o.op≠ .defer c) :
  ∀(f:Nat) (listed:Array Bool) (a:Act) (w:World),wpAny P md ops Q f listed a w→wpAnyIn (Fence.wide.inRound r) n P md ops Q f listed a w
 | 0,_,_,_,h=>h
 | f+1,_,_,_,h=>⟨h.1,fun i hi=>q4f hout (hnd i) (fun a' w' h'=>q4g hout hnd f _ a' w' h') (h.2 i hi)⟩
theorem q4h{id:Nat}{a:Act}{w:World}(hm:P.follows .mixedOrders=true)(hout:∀a w,¬Q .outgrown a w)(hnd:∀(i:Nat) (o:Oper),ops[i]? =some o→∀c,o.op≠ .defer c)
  (h:wpAny P .any ops Q ops.size (Array.replicate ops.size false) a {w with drawn:=w.drawn+1}):(Code.region id ops true).wpIn (Fence.wide.inRound r) n P Q a w:=
 wpIn_region_any hm (q4g hout hnd _ _ _ _ h)
theorem q4i{l:List Oper}(h:(l.all fun o=>match o.op with| .defer _=>false|_=>true)=true):∀(i:Nat) (o:Oper),l.toArray[i]? =some o→∀c,o.op≠ .defer c:=by
 intro i o ho c hc
 have hm:o∈l:=by
  have:=Array.mem_of_getElem? ho
  simpa using this
 have:=List.all_eq_true.1 h o hm
 rw[hc]at this
 cases this
theorem Y7{w:World}{base n size b:Nat}{e:TypeId}{v:Value}{xs:List Value}(h:w.ownsRow base e size v n xs)(he:v.ownBlock=some b):base≤b:=by
 rcases h.2 with⟨rfl,_⟩|⟨g,cap,cur,rfl,hb,_⟩
 ·cases he
 ·cases he;exact hb
theorem X5{w wr w1:World}{base n size:Nat}{e:TypeId}{v:Value}{xs:List Value}{o:Obj}(hB:Below base w wr)(hb:base≤wr.heap.size)(h:wr.ownsRow base e size v n xs)(hg:(wr.alloc o).grownBy w1 v.ownBlock):Below base w w1:=
 (hB.alloc hb o).grown hg (by simp;omega) (fun b he=>Y7 h he)
section
variable {P:Program} {ops:Array Oper} {md:Region.Mode} {S:World→Prop} {n:Nat} {L:Array Bool→Act→World→Prop}
abbrev bot:Exit→Act→World→Prop:=fun _ _ _=>False
def wpS(P:Program)(md:Region.Mode)(ops:Array Oper)(S:World→Prop)(n:Nat)(L:Array Bool→Act→World→Prop):Nat→Array Bool→Act→World→Prop
 | 0,listed,a,w=>L listed a w
 | f+1,listed,a,w=>
  Region.ready md ops listed≠ []∧∀i∈Region.ready md ops listed,i<n∧wpOp P ops bot i (fun a' w'=>S w'∧wpS P md ops S n L f (listed.setIfInBounds i true) a' w') a w
theorem q4j{Q:Exit→Act→World→Prop}{o:Oper}{a:Act}{w:World}{K K':Act→World→Prop}(hk:∀a w,K a w→K' a w)(h:o.wp P a w K bot):o.wp P a w K' Q:=by
 unfold Oper.wp at h ⊢
 generalize(execOp a.eval o).run P w=res at h ⊢
 cases res with
 | ok nx w'=>
  cases nx with
  | enter f args=>
   rw[Oper.upon_enter]at h ⊢
   refine h.mono ?_
   intro e w2 h2
   cases e with
   | returned v=>exact hk _ _ h2
   | panicked c=>exact h2.elim
   | outgrown=>obtain⟨_,_,h3⟩:=h2;exact h3.elim
  | row row args=>
   rw[Oper.upon_row]at h ⊢
   exact h.mono fun v w2 h2=>hk _ _ h2
  | _=>first|exact hk _ _ h|exact h.elim
 | halt hh w'=>cases hh<;>exact h.elim
theorem q4k{Q:Exit→Act→World→Prop}{i:Nat}{a:Act}{w:World}{K K':Act→World→Prop}(hk:∀a w,K a w→K' a w)(h:wpOp P ops bot i K a w):wpOp P ops Q i K' a w:=by
 unfold wpOp at h ⊢
 split
 ·rename_i ho;simp only[ho]at h;exact hk _ _ h
 ·rename_i o ho
  simp only[ho]at h
  split
  ·rename_i hw
   rw[if_pos hw]at h
   rcases h with h|⟨_,_,_,h⟩
   ·exact .inl (q4j hk h)
   ·exact h.elim
  ·rename_i hw
   rw[if_neg hw]at h
   exact hk _ _ h
theorem q4l{Q:Exit→Act→World→Prop}{g:Nat}(hL:∀listed a w,L listed a w→wpAny P md ops Q g listed a w) :
  ∀(f:Nat) (listed:Array Bool) (a:Act) (w:World),wpS P md ops S n L f listed a w→wpAny P md ops Q (f+g) listed a w
 | 0,_,_,_,h=>by rw[Nat.zero_add];exact hL _ _ _ h
 | f+1,listed,a,w,h=>by
  rw[show f+1+g=(f+g)+1 by omega]
  exact⟨fun h0=>absurd h0 h.1,fun i hi=>q4k (fun a' w' h'=>q4l hL f _ a' w' h'.2) (h.2 i hi).2⟩
theorem q4m{i:Nat}{oi:Oper}{v:Value}(hi:ops[i]? =some oi)(hsel:∀(j:Nat) (o:Oper) cs b,ops[j]? =some o→o.op≠ .select cs b)
  (hs:Region.sinkB md ops n=true) (hc:Region.chainB md ops n=true) (hn:n<ops.size) (hin:i<n)
  (hdone:∀listed a w,L listed a w→∀j∈Region.ready md ops listed,n≤j) :
  ∀(f:Nat) (listed:Array Bool) (a:Act) (w:World),HeadInv md ops n listed →
   (∀j oj,ops[j]? =some oj→j≠i→listed.getD j true=false→(∀e∈oj.after,Region.binds md e=true→e.on≠i)→oi.apart ops oj=true) →
   i∈Region.ready md ops listed→YieldsIf P ops S oi v a→S w →
   wpS P md ops S n L f (listed.setIfInBounds i true) (a.put oi.dst v) w→wpS P md ops S n L (f+1) listed a w:=by
 intro f
 induction f with
 | zero=>
  intro listed a w inv _ hr hy hS H
  have hun:=(mem_ready.1 hr).1
  refine⟨fun h=>(by rw[h]at hr;cases hr),fun j hj=> ?_⟩
  have hjn:j<n:=by
   rcases Nat.lt_or_ge j n with h|h
   ·exact h
   ·exact absurd hj (tail_waits hs hc hn inv _ i rfl hin hun j h)
  refine⟨hjn,?_⟩
  by_cases hji:j=i
  ·subst hji;exact hy.wpOp hi hS ⟨hS,H⟩
  ·have:=hdone _ _ _ H j (ready_mono hj hji)
   omega
 | succ f ih=>
  intro listed a w inv hfree hr hy hS H
  have hun:=(mem_ready.1 hr).1
  refine⟨fun h=>(by rw[h]at hr;cases hr),fun j hj=> ?_⟩
  have hjn:j<n:=by
   rcases Nat.lt_or_ge j n with h|h
   ·exact h
   ·exact absurd hj (tail_waits hs hc hn inv _ i rfl hin hun j h)
  refine⟨hjn,?_⟩
  by_cases hji:j=i
  ·subst hji;exact hy.wpOp hi hS ⟨hS,H⟩
  ·have h1:=(H.2 j (ready_mono hj hji)).2
   obtain⟨hjun,oj,hoj,hall⟩:=mem_ready.1 hj
   have hnot:∀e∈oj.after,Region.binds md e=true→e.on≠i:=fun e he hb heq=>by
    have h1:=hall e he hb
    rw[heq,getD_both hun]at h1
    cases h1
   have h2:=wpOp_putIf (Q:=bot) hoj (hfree j oj hoj hji hjun hnot) (fun cs b=>hsel i oi cs b hi) (fun cs b=>hsel j oj cs b hoj) (fun _ _ _ h=>h) hy h1
   have hfree':∀k ok,ops[k]? =some ok→k≠i→(listed.setIfInBounds j true).getD k true=false →
     (∀e∈ok.after,Region.binds md e=true→e.on≠i)→oi.apart ops ok=true:=fun k ok hk hki hun hno=>by
    refine hfree k ok hk hki ?_ hno
    by_cases hjk:j=k
    ·subst hjk;exact hjun
    ·rw[getD_set_ne true hjk]at hun;exact hun
   refine wpOp_mono (fun a' w' h3=>⟨h3.2.1,ih (listed.setIfInBounds j true) a' w' (inv.set hj hjn) hfree' (ready_mono hr (Ne.symm hji)) h3.1 h3.2.1 ?_⟩) h2
   rw[Array.setIfInBounds_comm _ _ hji]
   exact h3.2.2
def q4n(md:Region.Mode)(ops:Array Oper)(n:Nat)(listed:Array Bool):Bool:=
 listed.size==ops.size&&(List.range ops.size).all (fun j=> !(listed.getD j false)||match ops[j]? with|some oj=>oj.after.all (fun e=> !Region.binds md e||listed.getD e.on false)|none=>true) &&
  (List.range ops.size).all (fun t=>decide (t<n)|| !(listed.getD t true))
theorem q4o{listed:Array Bool}(h:q4n md ops n listed=true):HeadInv md ops n listed:=by
 simp only[q4n,Bool.and_eq_true,beq_iff_eq,List.all_eq_true,List.mem_range,Bool.or_eq_true,Bool.not_eq_true',decide_eq_true_eq]at h
 obtain⟨⟨h1,h2⟩,h3⟩:=h
 refine⟨h1,fun j oj hj hl e he hb=> ?_,fun t ht htl=> ?_⟩
 ·have hjl:j<ops.size:=(Array.getElem?_eq_some_iff.1 hj).1
  rcases h2 j hjl with h|h
  ·rw[hl]at h;cases h
  ·rw[hj]at h
   have:=Array.all_eq_true'.1 h e he
   simp only[Bool.or_eq_true,Bool.not_eq_true']at this
   rcases this with h|h
   ·rw[hb]at h;cases h
   ·exact h
 ·rcases h3 t htl with h|h
  ·omega
  ·exact h
def q4p(md:Region.Mode)(ops:Array Oper)(n i:Nat)(listed:Array Bool):Bool:=
 q4n md ops n listed&&Region.noSelect ops&&decide (n<ops.size)&&decide (i<n)&&Region.sinkB md ops n&&Region.chainB md ops n&&Region.free md ops listed i&&(Region.ready md ops listed).contains i
def LS(P:Program)(md:Region.Mode)(ops:Array Oper)(Q:Exit→Act→World→Prop)(n:Nat)(listed:Array Bool)(a:Act)(w:World):Prop:=
 Region.seqB md ops (ops.toList.drop n).length n listed=true∧wpList P ops Q (ops.toList.drop n) a w
theorem q4q{Q:Exit→Act→World→Prop}{listed:Array Bool}{a:Act}{w:World}(h:LS P md ops Q n listed a w):wpAny P md ops Q (ops.toList.drop n).length listed a w:=
 wpAny_of_seq (ops.toList.drop n) n listed a w (fun j=>by simp[List.getElem?_drop]) h.1 h.2
variable {Q:Exit→Act→World→Prop} {f:Nat} {listed:Array Bool} {a:Act} {w:World}
theorem q4r(i:Nat){oi:Oper}{v:Value}(hi:ops[i]? =some oi)(hB:q4p md ops n i listed=true)(hw:Region.wanted oi (yielded ops a.tmps)=true)(hS:S w)
  (hy:∀w,S w→(execOp a.eval oi).run P w= .ok (.value v) w) (h:wpS P md ops S n (LS P md ops Q n) f (listed.setIfInBounds i true) (a.put oi.dst v) w) :
  wpS P md ops S n (LS P md ops Q n) (f+1) listed a w:=by
 simp only[q4p,Bool.and_eq_true,decide_eq_true_eq]at hB
 obtain⟨⟨⟨⟨⟨⟨⟨h1,h2⟩,h3⟩,h4⟩,h5⟩,h6⟩,h7⟩,h8⟩:=hB
 exact q4m hi (Region.noSelect_spec h2) h5 h6 h3 h4 (fun listed a w hL=>seqB_ready hL.1) f listed a w (q4o h1) (Region.free_spec hi h7) (by simpa using h8)
  (.inl ⟨hw,hy⟩) hS h
theorem q4s(i:Nat){oi:Oper}(hi:ops[i]? =some oi)(hr:Region.ready md ops listed= [i])(hin:i<n)(hw:Region.wanted oi (yielded ops a.tmps)=true)
  (h:∀K:Act→World→Prop,(∀a' w',S w'→wpS P md ops S n (LS P md ops Q n) f (listed.setIfInBounds i true) a' w'→K a' w')→oi.wp P a w K bot) :
  wpS P md ops S n (LS P md ops Q n) (f+1) listed a w:=by
 refine⟨by rw[hr];simp,fun j hj=> ?_⟩
 rw[hr,List.mem_singleton]at hj
 subst hj
 refine⟨hin,?_⟩
 unfold wpOp
 simp only[hi]
 rw[if_pos hw]
 exact .inl (h _ (fun a' w' h1 h2=>⟨h1,h2⟩))
theorem q4t(hB:Region.seqB md ops (ops.toList.drop n).length n listed=true)(h:wpList P ops Q (ops.toList.drop n) a w):wpS P md ops S n (LS P md ops Q n) 0 listed a w:=⟨hB,h⟩
theorem q4u{r m id:Nat}(S:World→Prop)(n:Nat)(hm:P.follows .mixedOrders=true)(hn:decide (n≤ops.size)=true)
  (hnd:(ops.toList.all fun o=>match o.op with| .defer _=>false|_=>true)=true) (hout:∀a w,¬Q .outgrown a w)
  (h:wpS P .any ops S n (LS P .any ops Q n) n (Array.replicate ops.size false) a w.drew):(Code.region id ops true).wpIn (Fence.wide.inRound r) m P Q a w:=by
 have hn':=of_decide_eq_true hn
 refine q4h hm hout (by have:=q4i hnd;simpa using this) ?_
 have:=q4l (fun _ _ _=>q4q) _ _ _ _ h
 have hd:(ops.toList.drop n).length=ops.size-n:=by simp
 rw[hd,show n+(ops.size-n)=ops.size by omega]at this
 exact this
theorem q4v{id:Nat}(S:World→Prop)(n:Nat)(hm:P.follows .mixedOrders=true)(hn:decide (n≤ops.size)=true)
  (h:wpS P .any ops S n (LS P .any ops Q n) n (Array.replicate ops.size false) a w.drew):(Code.region id ops true).wp P Q a w:=by
 have hn':=of_decide_eq_true hn
 refine wp_region_any hm ?_
 have:=q4l (fun _ _ _=>q4q) _ _ _ _ h
 have hd:(ops.toList.drop n).length=ops.size-n:=by simp
 rw[hd,show n+(ops.size-n)=ops.size by omega]at this
 exact this
theorem kS(i:Nat){oi:Oper}{v:Value}(hi:ops[i]? =some oi)(hS:S w)(hy:∀w,S w→(execOp a.eval oi).run P w= .ok (.value v) w)
  (h:wpS P md ops S n (LS P md ops Q n) f (listed.setIfInBounds i true) (a.put oi.dst v) w)
  (hB:q4p md ops n i listed=true:=by kernel_rfl) (hw:Region.wanted oi (yielded ops a.tmps)=true:=by kernel_rfl) :
  wpS P md ops S n (LS P md ops Q n) (f+1) listed a w:=q4r i hi hB hw hS hy h
theorem kT(i:Nat){oi:Oper}{v:Value}(hS:S w)
  (h:wpS P md ops S n (LS P md ops Q n) f (listed.setIfInBounds i true) (a.put oi.dst v) w)
  (hi:ops[i]? =some oi:=by exact rfl) (hB:q4p md ops n i listed=true:=by kernel_rfl) (hw:Region.wanted oi (yielded ops a.tmps)=true:=by kernel_rfl)
  (hy:∀w,S w→(execOp a.eval oi).run P w= .ok (.value v) w:=by intro w' hS;go_simp;rfl) :
  wpS P md ops S n (LS P md ops Q n) (f+1) listed a w:=q4r i hi hB hw hS hy h
theorem kC(i:Nat){oi:Oper}
  (h:∀K:Act→World→Prop,(∀a' w',S w'→wpS P md ops S n (LS P md ops Q n) f (listed.setIfInBounds i true) a' w'→K a' w')→oi.wp P a w K bot)
  (hi:ops[i]? =some oi:=by exact rfl) (hr:Region.ready md ops listed= [i]:=by kernel_rfl) (hin:i<n:=by decide) (hw:Region.wanted oi (yielded ops a.tmps)=true:=by kernel_rfl) :
  wpS P md ops S n (LS P md ops Q n) (f+1) listed a w:=q4s i hi hr hin hw h
theorem kF(h:wpList P ops Q (ops.toList.drop n) a w)(hB:Region.seqB md ops (ops.toList.drop n).length n listed=true:=by kernel_rfl) :
  wpS P md ops S n (LS P md ops Q n) 0 listed a w:=q4t hB h
theorem kR{id:Nat}(S:World→Prop)(n:Nat)
  (h:wpS P .any ops S n (LS P .any ops Q n) n (Array.replicate ops.size false) a w.drew) (hm:P.follows .mixedOrders=true:=by kernel_rfl) (hn:decide (n≤ops.size)=true:=by kernel_rfl) :
  (Code.region id ops true).wp P Q a w:=q4v S n hm hn h
end
def sv(k:Nat):Nat:= [4,5,1,6,0,2,3,7,8,9,10,11].getD k 0
def sval(a:Nat→Addr)(k:Nat):Value:= .iface 376 (.pointer (some (a k)))
structure Sents(a:Nat→Addr)(w:World):Prop where
 cell:∀k,k<12→w.cell? ⟨sv k,0,none⟩=some (sval a k)
 row:∀k,k<12→∃c t,w.heap[(a k).block]? =some (.cells c t (0,0))
 inj:∀i j,i<12→j<12→i≠j→a i≠a j
 ety:w.cell? ⟨12,0,none⟩=some (.iface 288 (.agg #[.pointer (some ⟨21,42,none⟩)]))
theorem q4w{w:World}{k:Nat}{o:Obj}(h:w.heap[k]? =some o):k<w.heap.size:=by
 rcases Nat.lt_or_ge k w.heap.size with h'|h'
 ·exact h'
 ·simp[Array.getElem?_eq_none h']at h
theorem Sents.below{a:Nat→Addr}{w w':World}(h:Sents a w)(hb:Below w.heap.size w w'):Sents a w' where
 cell k hk:=(hb.cell (p:=⟨sv k,0,none⟩) (World.block_lt_of_cell? w _ (h.cell k hk))).trans (h.cell k hk)
 row k hk:=by
  obtain⟨c,t,hr⟩:=h.row k hk
  exact⟨c,t,(hb.block _ (q4w hr)).trans hr⟩
 inj:=h.inj
 ety:=(hb.cell (p:=⟨12,0,none⟩) (World.block_lt_of_cell? w _ h.ety)).trans h.ety
def SomeS(ks:List Nat)(a:Nat→Addr)(w:World):Prop:=∀k∈ks,w.cell? ⟨sv k,0,none⟩=some (sval a k)
theorem SomeS.below{ks:List Nat}{a:Nat→Addr}{w w':World}(h:SomeS ks a w)(hb:Below w.heap.size w w'):SomeS ks a w':=fun k hk=>
 (hb.cell (p:=⟨sv k,0,none⟩) (World.block_lt_of_cell? w _ (h k hk))).trans (h k hk)
theorem Sents.someS{a:Nat→Addr}{w:World}(h:Sents a w)(ks:List Nat)(hk:∀k∈ks,k<12):SomeS ks a w:=fun k hm=>h.cell k (hk k hm)
def EV(a:Nat→Addr)(v:Value)(c t:Int)(w:World):Prop:=
 (v= .nilIface∧c=0∧t= -1)∨(∃k:Nat,k<12∧v=sval a k∧c=(k:Int)+1∧t= -1) ∨
  ∃k b o:Nat,k<12∧v= .iface 170 (.pointer (some ⟨b,o,none⟩))∧c=(k:Int)+1∧w.cell? ⟨b,o,none⟩=some (.int .i64 t)∧w.cell? ⟨b,o+1,none⟩=some (sval a k)
theorem EV.none(a:Nat→Addr)(w:World):EV a .nilIface 0 (-1) w:= .inl ⟨rfl,rfl,rfl⟩
theorem EV.sent(a:Nat→Addr)(w:World)(k:Nat)(hk:k<12):EV a (sval a k) ((k:Int)+1) (-1) w:= .inr (.inl ⟨k,hk,rfl,rfl,rfl⟩)
theorem EV.fault{a:Nat→Addr}{w:World}(k:Nat)(hk:k<12){b o:Nat}{t:Int}(h0:w.cell? ⟨b,o,.none⟩=some (.int .i64 t))(h1:w.cell? ⟨b,o+1,.none⟩=some (sval a k)) :
  EV a (.iface 170 (.pointer (some ⟨b,o,.none⟩))) ((k:Int)+1) t w:= .inr (.inr ⟨k,b,o,hk,rfl,rfl,h0,h1⟩)
theorem EV.nil{a:Nat→Addr}{v:Value}{c t:Int}{w:World}(h:EV a v c t w)(hc:c=0):v= .nilIface∧t= -1:=by
 rcases h with⟨h,_,h2⟩|⟨k,_,_,h,_⟩|⟨k,b,o,_,_,h,_⟩
 ·exact⟨h,h2⟩
 ·omega
 ·omega
theorem EV.some{a:Nat→Addr}{v:Value}{c t:Int}{w:World}(h:EV a v c t w)(hc:c≠0):∃T p,v= .iface T p:=by
 rcases h with⟨_,h,_⟩|⟨k,_,h,_⟩|⟨k,b,o,_,h,_⟩
 ·exact absurd h hc
 ·exact⟨_,_,h⟩
 ·exact⟨_,_,h⟩
theorem EV.below{a:Nat→Addr}{v:Value}{c t:Int}{w w':World}(h:EV a v c t w)(hb:Below w.heap.size w w'):EV a v c t w':=by
 rcases h with h|h|⟨k,b,o,hk,h1,h2,h3,h4⟩
 ·exact .inl h
 ·exact .inr (.inl h)
 ·exact .inr (.inr ⟨k,b,o,hk,h1,h2,(hb.cell (p:=⟨b,o,.none⟩) (World.block_lt_of_cell? w _ h3)).trans h3,(hb.cell (p:=⟨b,o+1,.none⟩) (World.block_lt_of_cell? w _ h4)).trans h4⟩)
theorem q4x(a:Nat→Addr)(w:World)(k:Nat)(hk:k<12)(t:Int)(tg:TypeId):EV a (.iface 170 (.pointer (some ⟨w.heap.size,0,none⟩))) ((k:Int)+1) t (w.alloc (.cells #[.int .i64 t,.iface 376 (.pointer (some (a k)))] tg)):=
 EV.fault k hk (by rw[World.cell?_alloc_at _ _ _ _ rfl];rfl) (by rw[World.cell?_alloc_at _ _ _ _ rfl];rfl)
def ES(a:Nat→Addr)(v:Value)(c:Int):Prop:=(v= .nilIface∧c=0)∨∃k:Nat,k<12∧v=sval a k∧c=(k:Int)+1
theorem ES.none(a:Nat→Addr):ES a .nilIface 0:= .inl ⟨rfl,rfl⟩
theorem ES.sent(a:Nat→Addr)(k:Nat)(hk:k<12):ES a (sval a k) ((k:Int)+1):= .inr ⟨k,hk,rfl,rfl⟩
theorem ES.ev{a:Nat→Addr}{v:Value}{c:Int}(h:ES a v c)(w:World):EV a v c (-1) w:=by
 rcases h with⟨rfl,rfl⟩|⟨k,hk,rfl,rfl⟩
 ·exact EV.none a w
 ·exact EV.sent a w k hk
theorem ES.nil{a:Nat→Addr}{v:Value}{c:Int}(h:ES a v c)(hc:c=0):v= .nilIface∧True:=by
 rcases h with⟨h,_⟩|⟨k,_,_,h⟩
 ·exact⟨h,trivial⟩
 ·omega
theorem ES.some{a:Nat→Addr}{v:Value}{c:Int}(h:ES a v c)(hc:c≠0):∃T p,v= .iface T p:=by
 rcases h with⟨_,h⟩|⟨k,_,h,_⟩
 ·exact absurd h hc
 ·exact⟨_,_,h⟩
end Go.Proofs.YtdmlghfggninbaaGreatDoor
namespace Go.Proofs.YtdmlghfggninbaaGreatDoor
open Go.RowKit Go.Lib Go.Shelf
attribute [local go_sem] Oper.semAt_some
theorem q4y:∀w,(Go.sizeOf 5).run Tryz.prog w= .ok 1 w:=fun _=>by kernel_rfl
abbrev B8(b:UInt8):Value:= .int .u8 (b.toNat:Int)
theorem q4z(w:World)(t:ByteArray)(b0 b1 b2 b3 b4 b5 b6 b7:UInt8)(ht:t.data.toList= [b0,b1,b2,b3,b4,b5,b6,b7]) :
  (Builtin.copy_ #[70,9] 3 #[.slice (some ⟨w.heap.size,0,none⟩) 8 8,.string t]).run Tryz.prog ((w.alloc (.cells #[.int .u8 0,.int .u8 0,.int .u8 0,.int .u8 0,.int .u8 0,.int .u8 0,.int .u8 0,.int .u8 0] 358)).drew) =
   .ok (.int .i64 8) ((w.alloc (.cells #[B8 b0,B8 b1,B8 b2,B8 b3,B8 b4,B8 b5,B8 b6,B8 b7] 358)).drew):=by
 have hz:t.size=8:=by rw[Lib.size_eq,ht];rfl
 rw[run_copy_string (P:=Tryz.prog) _ 70 9 3 5 w.heap.size 0 8 8 t Tryz.underlying70 q4y (by omega) ?_ ?_]
 ·rw[ht,hz]
  simp[World.setCells,go_sem,goInt,B8]
 ·intro j hj
  rw[hz]at hj
  simp[go_sem]
  match j,hj with
  | 0,_|1,_|2,_|3,_|4,_|5,_|6,_|7,_=>simp
 ·intro j hj
  simp[go_sem]
theorem q5a(t:ByteArray)(h:t.size=8):∃b0 b1 b2 b3 b4 b5 b6 b7,t.data.toList= [b0,b1,b2,b3,b4,b5,b6,b7]:=by
 rw[Lib.size_eq]at h
 match t.data.toList,h with
 | [b0,b1,b2,b3,b4,b5,b6,b7],_=>exact⟨b0,b1,b2,b3,b4,b5,b6,b7,rfl⟩
theorem q5b(n:Nat)(h:n<2048):(bits .and .i64 (n:Int) 15==15)=(n%16==15):=by
 have hb:(BitVec.ofInt 64 (n:Int)).toNat=n:=by
  rw[BitVec.ofInt_natCast,BitVec.toNat_ofNat];exact Nat.mod_eq_of_lt (by omega)
 have he:bits .and .i64 (n:Int) 15=((n%16:Nat):Int):=by
  show IntKind.i64.wrap ((BitVec.ofInt 64 (n:Int) &&& BitVec.ofInt 64 15).toNat:Int)=_
  rw[BitVec.toNat_and,hb,show(BitVec.ofInt 64 15).toNat=2^4-1 from rfl,Nat.and_two_pow_sub_one_eq_mod,IntKind.wrap_i64]
  omega
 rw[he,Bool.eq_iff_iff,beq_iff_eq,beq_iff_eq]
 omega
theorem q5c(s:ByteArray)(w:World)(hs:s.size≤2^62)(h:64≤s.size) :
  Calls Tryz.prog 251 #[.string s] w fun e w'=>e= .returned (.bool (W8 s.data.toList))∧Below w.heap.size w w':=by
 have hfin:W8 s.data.toList=true:=by unfold W8;rw[if_pos (by rw[←Z4];exact h)]
 rw[hfin]
 go_enter Tryz.func251,Tryz.ntmps251
 go_wp2
 go_ret
 exact⟨rfl,zb _ _⟩
theorem q5d(s:ByteArray)(w:World)(h:s.size<16) :
  Calls Tryz.prog 251 #[.string s] w fun e w'=>e= .returned (.bool (W8 s.data.toList))∧Below w.heap.size w w':=by
 have hfin:W8 s.data.toList=false:=by unfold W8;rw[if_neg (by rw[←Z4];omega),if_pos (by rw[←Z4];exact h)]
 rw[hfin]
 go_enter Tryz.func251,Tryz.ntmps251
 go_wp2
 go_ret
 exact⟨rfl,zb _ _⟩
theorem q5e(s:ByteArray)(w:World)(h:16≤s.size)(h2:s.size<64) :
  Calls Tryz.prog 251 #[.string s] w fun e w'=>e= .returned (.bool (W8 s.data.toList))∧Below w.heap.size w w':=by
 obtain⟨b0,b1,b2,b3,b4,b5,b6,b7,hl⟩:=q5a (s.extract (s.size-8) s.size) (by simp;omega)
 have hc:=q4z w _ b0 b1 b2 b3 b4 b5 b6 b7 hl
 have hfin:W8 s.data.toList=((b0.toNat+b1.toNat+b2.toNat+b3.toNat+b4.toNat+b5.toNat+b6.toNat+b7.toNat)%16==15):=by
  unfold W8
  rw[if_neg (by rw[←Z4];omega),if_neg (by rw[←Z4];omega)]
  have h8:s.data.toList.drop (s.data.toList.length-8)= [b0,b1,b2,b3,b4,b5,b6,b7]:=by
   rw[←hl,q0u,←Z4,List.take_of_length_le (by rw[←Z4];omega)]
  unfold sum8
  rw[h8]
  simp[Nat.add_assoc]
 have j0:(b0.toNat:Int)<256:=by have:=b0.toNat_lt;omega
 have j1:(b1.toNat:Int)<256:=by have:=b1.toNat_lt;omega
 have j2:(b2.toNat:Int)<256:=by have:=b2.toNat_lt;omega
 have j3:(b3.toNat:Int)<256:=by have:=b3.toNat_lt;omega
 have j4:(b4.toNat:Int)<256:=by have:=b4.toNat_lt;omega
 have j5:(b5.toNat:Int)<256:=by have:=b5.toNat_lt;omega
 have j6:(b6.toNat:Int)<256:=by have:=b6.toNat_lt;omega
 have j7:(b7.toNat:Int)<256:=by have:=b7.toNat_lt;omega
 have h15:=q5b (b0.toNat+b1.toNat+b2.toNat+b3.toNat+b4.toNat+b5.toNat+b6.toNat+b7.toNat) (by have:=b0.toNat_lt;have:=b1.toNat_lt;have:=b2.toNat_lt;have:=b3.toNat_lt;have:=b4.toNat_lt;have:=b5.toNat_lt;have:=b6.toNat_lt;have:=b7.toNat_lt;omega)
 have hx:=hfin.trans h15.symm
 refine Calls.mono (R:=fun e w'=>e= .returned (.bool (bits .and .i64 ((b0.toNat:Int)+b1.toNat+b2.toNat+b3.toNat+b4.toNat+b5.toNat+b6.toNat+b7.toNat) 15==15))∧Below w.heap.size w w') ?_ (fun e w' h=>⟨h.1.trans (congrArg (fun b=>Ending.returned (.bool b)) (by rw[hx];simp only[Int.natCast_add])),h.2⟩)
 clear hl hfin h15 hx
 go_enter Tryz.func251,Tryz.ntmps251
 go_wp2
 have k1:IntKind.i64.wrap ((s.size:Int)-8)=(s.size:Int)-8:=IntWalk.i64_in _ (by omega)
 have k2:(8:Int)≤(s.size:Int):=by omega
 have k4:(s.size:Int)-8≤s.size:=by omega
 have k3:((s.size:Int)-8).toNat=s.size-8:=by omega
 go_still_tail 6,(by kernel_rfl)
 change wpList _ _ _ _ _ (World.drew _)
 go_wp2
 have i0:∀w,(Instr.index 358 (.agg #[B8 b0,B8 b1,B8 b2,B8 b3,B8 b4,B8 b5,B8 b6,B8 b7]) (.int .i64 0)).run Tryz.prog w= .ok (B8 b0) w:=fun _=>by kernel_rfl
 have i1:∀w,(Instr.index 358 (.agg #[B8 b0,B8 b1,B8 b2,B8 b3,B8 b4,B8 b5,B8 b6,B8 b7]) (.int .i64 1)).run Tryz.prog w= .ok (B8 b1) w:=fun _=>by kernel_rfl
 have i2:∀w,(Instr.index 358 (.agg #[B8 b0,B8 b1,B8 b2,B8 b3,B8 b4,B8 b5,B8 b6,B8 b7]) (.int .i64 2)).run Tryz.prog w= .ok (B8 b2) w:=fun _=>by kernel_rfl
 have i3:∀w,(Instr.index 358 (.agg #[B8 b0,B8 b1,B8 b2,B8 b3,B8 b4,B8 b5,B8 b6,B8 b7]) (.int .i64 3)).run Tryz.prog w= .ok (B8 b3) w:=fun _=>by kernel_rfl
 have i4:∀w,(Instr.index 358 (.agg #[B8 b0,B8 b1,B8 b2,B8 b3,B8 b4,B8 b5,B8 b6,B8 b7]) (.int .i64 4)).run Tryz.prog w= .ok (B8 b4) w:=fun _=>by kernel_rfl
 have i5:∀w,(Instr.index 358 (.agg #[B8 b0,B8 b1,B8 b2,B8 b3,B8 b4,B8 b5,B8 b6,B8 b7]) (.int .i64 5)).run Tryz.prog w= .ok (B8 b5) w:=fun _=>by kernel_rfl
 have i6:∀w,(Instr.index 358 (.agg #[B8 b0,B8 b1,B8 b2,B8 b3,B8 b4,B8 b5,B8 b6,B8 b7]) (.int .i64 6)).run Tryz.prog w= .ok (B8 b6) w:=fun _=>by kernel_rfl
 have i7:∀w,(Instr.index 358 (.agg #[B8 b0,B8 b1,B8 b2,B8 b3,B8 b4,B8 b5,B8 b6,B8 b7]) (.int .i64 7)).run Tryz.prog w= .ok (B8 b7) w:=fun _=>by kernel_rfl
 go_rounds 9
 go_ret
 exact⟨rfl,((zb _ _).alloc (zl _) _).drew⟩
theorem q5f(s:ByteArray)(w:World)(hs:s.size≤2^62) :
  Calls Tryz.prog 251 #[.string s] w fun e w'=>e= .returned (.bool (W8 s.data.toList))∧Below w.heap.size w w':=by
 rcases Nat.lt_or_ge s.size 16 with h|h
 ·exact q5d s w h
 ·rcases Nat.lt_or_ge s.size 64 with h2|h2
  ·exact q5e s w h h2
  ·exact q5c s w hs h2
theorem q5g(s:ByteArray)(b:Bool)(w:World)(hs:s.size≤2^62)(hb:W8 s.data.toList=b) :
  Calls Tryz.prog 251 #[.string s] w fun e w'=>e= .returned (.bool b)∧Below w.heap.size w w':=by
 rw[←hb];exact q5f s w hs
theorem q5h(n l n₀:Nat)(s:ByteArray)(hs:s.size≤2^40)(J Jx:List (Nat×Nat)→World→Prop)
  (hJ:∀pre W W',J pre W→W.grownBy W' none→J pre W')
  (hY:∀pre x W,J pre W→pre.length<(q0y 0 (pieces s.data.toList)).length→(x:Nat×Nat).1≤x.2∧x.2≤s.size→YieldAt Fence.wide n Tryz.prog l #[.int .i64 (x:Nat×Nat).1,.int .i64 x.2] W fun e W'=>
   (e= .returned (.bool true)∧J (pre++ [x]) W'∧Below n₀ W W')∨(e= .returned (.bool false)∧Jx (pre++ [x]) W'))
  (W:World) (h0:J [] W) :
  CallsIn Fence.wide n Tryz.prog 201 #[.string s,.func (.yield l) #[] #[]] W fun e W'=>(∃v,e= .returned v) ∧
   ((∃ys,ys=q0y 0 (pieces s.data.toList)∧J ys W')∨(∃pre,pre <+: q0y 0 (pieces s.data.toList)∧Jx pre W')):=by
 have hz:=Z4 s
 generalize hL:s.data.toList=L at *
 have HL:=zh hL;clear hL
 have HZ:=zh hz;clear hz
 refine callsIn_of_wp Tryz.func201 rfl trivial ?_ rfl
 simp only[Tryz.ntmps201,List.size_toArray,List.length_cons,List.length_nil,Nat.reduceAdd,Nat.reduceSub,Array.replicate_succ,Array.replicate_zero,List.push_toArray,List.append_toArray,List.nil_append,List.cons_append]
 gi_wp2
 gi_loopw [4,8] (fun vf vi wr=>∃(f k:Nat) (pre:List (Nat×Nat)),vf= .int .i64 f∧vi= .int .i64 k∧f≤k∧k≤s.size∧pre++Left L f k=q0y 0 (pieces L)∧J pre wr)
  (fun _ vi _=>s.size-(RowKit.intOf vi).toNat)
 case atStart=>
  exact⟨0,0,[],rfl,rfl,zl _,Nat.zero_le _,rfl,h0⟩
 case round=>
  obtain⟨f,k,pre,rfl,rfl,hfk,hk,hl,hj⟩:=hrel
  have Hl:=zh hl;clear hl
  by_cases hlt:k<s.size
  ·have hkL:k<L.length:=by rw[←HZ.out];exact hlt
   have hex:(s.extract f (k+1)).data.toList=(L.take (k+1)).drop f:=by rw[q0u,HL.out]
   have hes:(s.extract f (k+1)).size≤2^62:=by simp;omega
   by_cases he:W8 ((L.take (k+1)).drop f)=true
   ·have hc:=fun(m:Nat) W=>(callsIn_wide (n:=m)).2 (q5g (s.extract f (k+1)) true W hes (by rw[hex];exact he))
    have hlen:pre.length<(q0y 0 (pieces L)).length:=by rw[←Hl.out,q1n L f k hfk hkL he];simp
    have hl':Hid (pre++ [(f,k+1)]++Left L (k+1) (k+1)=q0y 0 (pieces L)):=zh (by rw[←Hl.out,q1n L f k hfk hkL he];simp)
    have HC:=zh hc
    clear hc hex he
    gi_wp2_with (refine⟨trivial,q4a,?_⟩;gi_at_call 251;refine(HC.out _ _).mono ?_;rintro e W1 ⟨rfl,hb1⟩)
    obtain⟨fn,tmps,assign,body,hy,hR⟩:=q4d rfl (n-1) (hY pre (f,k+1) W1 (hJ pre _ _ hj (M3 hb1)) hlen ⟨by simp;omega,by simp;omega⟩)
    simp only[Int.natCast_add,Int.natCast_one]at hy
    rw[hy,Oper.uponIn_round]
    refine⟨q4a,hR.mono ?_⟩
    rintro e W2 (⟨rfl,hJ2,hk2⟩|⟨rfl,hJx2⟩)
    ·gi_wp2_with (refine⟨trivial,q4a,?_⟩;gi_at_call 251;refine(HC.out _ _).mono ?_;rintro e W3 ⟨rfl,hb3⟩)
     go_roundw
     case rel=>exact⟨k+1,k+1,pre++ [(f,k+1)],rfl,rfl,zl _,by omega,hl'.out,hJ _ _ _ hJ2 (M3 hb3)⟩
     case measure=>simp[RowKit.intOf];omega
    ·gi_wp2
     refine bodyPost_ret (results_none rfl _ _ _) rfl ?_
     exact⟨⟨_,rfl⟩,.inr ⟨pre++ [(f,k+1)],⟨Left L (k+1) (k+1),hl'.out⟩,hJx2⟩⟩
   ·have he':W8 ((L.take (k+1)).drop f)=false:=by simpa using he
    have hc:=fun(m:Nat) W=>(callsIn_wide (n:=m)).2 (q5g (s.extract f (k+1)) false W hes (by rw[hex];exact he'))
    have HC:=zh hc
    clear hc hex he
    by_cases hlast:k+1=s.size
    ·have hll:=q1o L f k hfk (by rw[←HZ.out];exact hlast) he'
     have hle:=q1j L f (k+1) (by rw[←HZ.out,hlast];exact zl _)
     have hlen:pre.length<(q0y 0 (pieces L)).length:=by rw[←Hl.out,hll];simp
     have hl':Hid (pre++ [(f,k+1)]++Left L f (k+1)=q0y 0 (pieces L)):=zh (by rw[←Hl.out,hll,hle];simp)
     have hq:((k:Int)+1==(s.size:Int))=true:=by rw[beq_iff_eq];omega
     have HL2:=zh hlast
     clear hll hle he' hlast
     gi_wp2_with (refine⟨trivial,q4a,?_⟩;gi_at_call 251;refine(HC.out _ _).mono ?_;rintro e W1 ⟨rfl,hb1⟩)
     obtain⟨fn,tmps,assign,body,hy,hR⟩:=q4d rfl (n-1) (hY pre (f,k+1) W1 (hJ pre _ _ hj (M3 hb1)) hlen ⟨by simp;omega,by simp;omega⟩)
     simp only[Int.natCast_add,Int.natCast_one]at hy
     rw[hy,Oper.uponIn_round]
     refine⟨q4a,hR.mono ?_⟩
     rintro e W2 (⟨rfl,hJ2,hk2⟩|⟨rfl,hJx2⟩)
     ·gi_wp2_with (refine⟨trivial,q4a,?_⟩;gi_at_call 251;refine(HC.out _ _).mono ?_;rintro e W3 ⟨rfl,hb3⟩)
      go_roundw
      case rel=>exact⟨f,k+1,pre++ [(f,k+1)],rfl,rfl,by omega,by omega,hl'.out,hJ _ _ _ hJ2 (M3 hb3)⟩
      case measure=>simp[RowKit.intOf];omega
     ·gi_wp2
      refine bodyPost_ret (results_none rfl _ _ _) rfl ?_
      exact⟨⟨_,rfl⟩,.inr ⟨pre++ [(f,k+1)],⟨Left L f (k+1),hl'.out⟩,hJx2⟩⟩
    ·have hl':Hid (pre++Left L f (k+1)=q0y 0 (pieces L)):=zh (by rw[←Hl.out,q1p L f k hfk (by rw[←HZ.out];omega) he'])
     have hq:((k:Int)+1==(s.size:Int))=false:=by rw[beq_eq_false_iff_ne];omega
     clear he'
     gi_wp2_with (refine⟨trivial,q4a,?_⟩;gi_at_call 251;refine(HC.out _ _).mono ?_;rintro e W1 ⟨rfl,hb1⟩;have hj:=hJ _ _ _ hj (M3 hb1);clear hb1)
     refine⟨fun _ h=>(by cases h),?_⟩
     gi_wp2_with (refine⟨trivial,q4a,?_⟩;gi_at_call 251;refine(HC.out _ _).mono ?_;rintro e W1 ⟨rfl,hb1⟩;have hj:=hJ _ _ _ hj (M3 hb1);clear hb1)
     go_roundw
     case rel=>exact⟨f,k+1,pre,rfl,rfl,by omega,by omega,hl'.out,hj⟩
     case measure=>simp[RowKit.intOf];omega
  ·have hle:=q1j L f k (by rw[←HZ.out];omega)
   have hfin:pre=q0y 0 (pieces L):=by rw[←Hl.out,hle];simp
   have HF:=zh hfin
   clear hle hfin
   gi_wp2
   go_end0
   exact⟨⟨_,rfl⟩,.inl ⟨pre,HF.out,hj⟩⟩
abbrev encSp{N:Nat}(x:Sp N):Array Value:= #[.int .i64 x.1.1,.int .i64 x.1.2]
theorem q5i(n:Nat)(s:ByteArray)(w:World) :
  CallsIn Fence.wide n Tryz.prog 155 #[.string s] w fun e w'=>e= .returned (.func (.func 200) #[] #[.pointer (some ⟨w.heap.size,0,none⟩)])∧w'=w.alloc (.cells #[.string s] 9):=by
 refine callsIn_of_wp Tryz.func155 rfl trivial ?_ rfl
 simp only[Tryz.ntmps155,List.size_toArray,List.length_cons,List.length_nil,Nat.reduceAdd,Nat.reduceSub,Array.replicate_succ,Array.replicate_zero,List.push_toArray,List.append_toArray,List.nil_append,List.cons_append]
 gi_wp2
 go_ret
 exact⟨rfl,rfl⟩
theorem q5j(n Bn n₀:Nat)(s:ByteArray)(hs:s.size≤2^40)(w:World)(hBn:Bn<w.heap.size)(hc:w.cell? ⟨Bn,0,none⟩=some (.string s)) :
  SeqStopsK Fence.wide n Tryz.prog 200 #[.pointer (some ⟨Bn,0,none⟩)] (encSp (N:=s.size)) (Below n₀) (fun ys=>ys.map (·.1)=q0y 0 (pieces s.data.toList)) (fun _=>True) (q0y 0 (pieces s.data.toList)).length w:=by
 intro l J Jx W hW hJ hJx hY h0
 have hcell:W.cell? ⟨Bn,0,none⟩=some (.string s):=(hW.cell (p:=⟨Bn,0,none⟩) hBn).trans hc
 have HC:=zh (q5h (n-1) l n₀ s hs (fun pre A=>∃q:List (Sp s.size),q.map (·.1)=pre∧J q A) (fun pre A=>∃q:List (Sp s.size),q.map (·.1)=pre∧Jx q A)
  (fun pre A B ⟨q,hq,hj⟩ hg=>⟨q,hq,hJ q A B none hj hg (fun r e=>by cases e)⟩)
  (fun pre x A ⟨q,hq,hj⟩ hl hb=>(q4d rfl (n-1) (hY q ⟨x,hb⟩ A hj (by rw[←hq,List.length_map]at hl;exact hl))).mono (fun e W' hr=>by
   rcases hr with⟨he,hj,hk⟩|⟨he,hj⟩
   ·exact .inl ⟨he,⟨_,by rw[List.map_append,hq];rfl,hj⟩,hk⟩
   ·exact .inr ⟨he,⟨_,by rw[List.map_append,hq];rfl,hj⟩⟩)) W ⟨[],rfl,h0⟩)
 clear hY h0 hJ hJx
 refine callsIn_of_wp Tryz.func200 rfl trivial ?_ rfl
 simp only[Tryz.ntmps200,List.size_toArray,List.length_cons,List.length_nil,Nat.reduceAdd,Nat.reduceSub,Array.replicate_succ,Array.replicate_zero,List.push_toArray,List.append_toArray,List.nil_append,List.cons_append]
 gi_wp2_with (refine⟨trivial,q4a,?_⟩;gi_at_call 201;refine HC.out.mono ?_;rintro e W1 ⟨⟨v,rfl⟩,hq⟩)
 go_end0
 refine⟨⟨_,rfl⟩,?_⟩
 rcases hq with⟨ys,hy,q,hq,hj⟩|⟨pre,hp,q,hq,hj⟩
 ·exact .inl ⟨q,hq.trans hy,hj⟩
 ·exact .inr ⟨q,trivial,hj⟩
end Go.Proofs.YtdmlghfggninbaaGreatDoor
namespace Go.Proofs.YtdmlghfggninbaaGreatDoor
open Go.RowKit Go.Lib
theorem q5k(c:UInt8):R6.contains c=(decide (97≤c.toNat∧c.toNat≤122)||decide (48≤c.toNat∧c.toNat≤57)||decide (c.toNat=46)||decide (c.toNat=45)):=by
 have h:∀i:Fin 256,R6.contains (UInt8.ofNat i.1)=(decide (97≤(UInt8.ofNat i.1).toNat∧(UInt8.ofNat i.1).toNat≤122)||decide (48≤(UInt8.ofNat i.1).toNat∧(UInt8.ofNat i.1).toNat≤57)||decide ((UInt8.ofNat i.1).toNat=46)||decide ((UInt8.ofNat i.1).toNat=45)):=by decide+kernel
 have:=h ⟨c.toNat,c.toNat_lt⟩
 rwa [show UInt8.ofNat (⟨c.toNat,c.toNat_lt⟩:Fin 256).1=c from UInt8.ofNat_toNat]at this
theorem q5l{c:UInt8}(h:(97≤c.toNat∧c.toNat≤122)∨(48≤c.toNat∧c.toNat≤57)∨c.toNat=46∨c.toNat=45):R6.contains c=true:=by
 rw[q5k]
 rcases h with h|h|h|h
 ·rw[decide_eq_true h];rfl
 ·rw[decide_eq_true h,Bool.or_true];rfl
 ·rw[decide_eq_true h,Bool.or_true];rfl
 ·rw[decide_eq_true h,Bool.or_true]
theorem q5m{c:UInt8}(h1:¬(97≤c.toNat∧c.toNat≤122))(h2:¬(48≤c.toNat∧c.toNat≤57))(h3:¬c.toNat=46)(h4:¬c.toNat=45):R6.contains c=false:=by
 rw[q5k,decide_eq_false h1,decide_eq_false h2,decide_eq_false h3,decide_eq_false h4];rfl
theorem q5n{l:List UInt8}{k:Nat}(hk:k<l.length)(h:(l.take k).all (R6.contains ·)=true)(h1:R6.contains l[k]=true):(l.take (k+1)).all (R6.contains ·)=true:=by
 rw[List.take_succ_eq_append_getElem hk,List.all_append,h];simp only[List.all_cons,List.all_nil,Bool.and_true,h1]
theorem q5o{l:List UInt8}{k:Nat}(hk:k<l.length)(h1:R6.contains l[k]=false):J7 l=false:=by
 unfold J7
 have:l.all (R6.contains ·)=false:=by
  rw[List.all_eq_false]
  exact⟨l[k],List.getElem_mem hk,by rw[h1];simp⟩
 rw[this,Bool.and_false]
theorem q5p(t:ByteArray)(ht:t.size≤9223372036854775807)(w:World) :
  Calls Tryz.prog 156 #[.string t] w fun e w'=>e= .returned (.bool (J7 t.data.toList))∧w=w':=by
 have HZ:=zh (Z4 t)
 go_enter Tryz.func156,Tryz.ntmps156
 go_wp2
 go_loop [3] (fun vi=>∃k:Nat,vi= .int .i64 k∧k≤t.size∧Hid ((t.data.toList.take k).all (R6.contains ·)=true)) (fun vi=>t.size-(RowKit.intOf vi).toNat)
 case atStart=>exact⟨0,rfl,Nat.zero_le _,rfl⟩
 case round=>
  obtain⟨k,rfl,hk,hall⟩:=hrel
  by_cases hkl:k<t.size
  ·have hkl':k<t.data.toList.length:=by rw[←HZ.out];exact hkl
   have b1:(0:Int)≤(k:Int):=by omega
   have b2:(k:Int)<(t.size:Int):=by omega
   have hc256:=t[k].toNat_lt
   have HG:Hid (t.data.toList[k]=t[k]):=zh rfl
   by_cases h1:97≤t[k].toNat
   ·have h1i:(97:Int)≤(t[k].toNat:Int):=by omega
    have h48:(48:Int)≤(t[k].toNat:Int):=by omega
    have h57:¬(t[k].toNat:Int)≤57:=by omega
    by_cases h2:t[k].toNat≤122
    ·have h2i:(t[k].toNat:Int)≤(122:Int):=by omega
     have HN:Hid ((t.data.toList.take (k+1)).all (R6.contains ·)=true):=zh (q5n hkl' hall.out (by rw[HG.out];exact q5l (by omega)))
     go_wp2
     go_round
     case rel=>exact⟨k+1,by go_num,hkl,HN⟩
     case measure=>simp[RowKit.intOf];omega
    ·have h2i:¬(t[k].toNat:Int)≤(122:Int):=by omega
     have q46:((t[k].toNat:Int) !=46)=true:=by simp;omega
     have q45:((t[k].toNat:Int) !=45)=true:=by simp;omega
     have HJ:Hid (J7 t.data.toList=false):=zh (q5o hkl' (by rw[HG.out];exact q5m (by omega) (by omega) (by omega) (by omega)))
     go_wp2
     go_ret
     exact⟨by rw[HJ.out];rfl,rfl⟩
   ·have h1i:¬(97:Int)≤(t[k].toNat:Int):=by omega
    by_cases h3:48≤t[k].toNat
    ·have h3i:(48:Int)≤(t[k].toNat:Int):=by omega
     by_cases h4:t[k].toNat≤57
     ·have h4i:(t[k].toNat:Int)≤(57:Int):=by omega
      have HN:Hid ((t.data.toList.take (k+1)).all (R6.contains ·)=true):=zh (q5n hkl' hall.out (by rw[HG.out];exact q5l (by omega)))
      go_wp2
      go_round
      case rel=>exact⟨k+1,by go_num,hkl,HN⟩
      case measure=>simp[RowKit.intOf];omega
     ·have h4i:¬(t[k].toNat:Int)≤(57:Int):=by omega
      have q46:((t[k].toNat:Int) !=46)=true:=by simp;omega
      have q45:((t[k].toNat:Int) !=45)=true:=by simp;omega
      have HJ:Hid (J7 t.data.toList=false):=zh (q5o hkl' (by rw[HG.out];exact q5m (by omega) (by omega) (by omega) (by omega)))
      go_wp2
      go_ret
      exact⟨by rw[HJ.out];rfl,rfl⟩
    ·have h3i:¬(48:Int)≤(t[k].toNat:Int):=by omega
     by_cases h5:t[k].toNat=46
     ·have h5i:((t[k].toNat:Int) !=46)=false:=by rw[h5];rfl
      have HN:Hid ((t.data.toList.take (k+1)).all (R6.contains ·)=true):=zh (q5n hkl' hall.out (by rw[HG.out];exact q5l (by omega)))
      go_wp2
      go_round
      case rel=>exact⟨k+1,by go_num,hkl,HN⟩
      case measure=>simp[RowKit.intOf];omega
     ·have h5i:((t[k].toNat:Int) !=46)=true:=by simp;omega
      by_cases h6:t[k].toNat=45
      ·have h6i:((t[k].toNat:Int) !=45)=false:=by rw[h6];rfl
       have HN:Hid ((t.data.toList.take (k+1)).all (R6.contains ·)=true):=zh (q5n hkl' hall.out (by rw[HG.out];exact q5l (by omega)))
       go_wp2
       go_round
       case rel=>exact⟨k+1,by go_num,hkl,HN⟩
       case measure=>simp[RowKit.intOf];omega
      ·have h6i:((t[k].toNat:Int) !=45)=true:=by simp;omega
       have HJ:Hid (J7 t.data.toList=false):=zh (q5o hkl' (by rw[HG.out];exact q5m (by omega) (by omega) (by omega) (by omega)))
       go_wp2
       go_ret
       exact⟨by rw[HJ.out];rfl,rfl⟩
  ·obtain rfl:k=t.size:=by omega
   have HA:Hid (t.data.toList.all (R6.contains ·)=true):=zh (by
    have h:=hall.out
    rwa [HZ.out,List.take_of_length_le (zl _)]at h)
   by_cases h1:1≤t.size
   ·have h1i:(1:Int)≤(t.size:Int):=by omega
    by_cases h12:t.size≤12
    ·have h12i:(t.size:Int)≤12:=by omega
     have HJ:Hid (J7 t.data.toList=true):=zh (by unfold J7;rw[HA.out,decide_eq_true (show 1≤t.data.toList.length by rw[←HZ.out];exact h1),decide_eq_true (show t.data.toList.length≤12 by rw[←HZ.out];exact h12)];rfl)
     go_wp2
     go_ret
     exact⟨by rw[HJ.out];rfl,rfl⟩
    ·have h12i:¬(t.size:Int)≤12:=by omega
     have HJ:Hid (J7 t.data.toList=false):=zh (by unfold J7;rw[decide_eq_false (show ¬t.data.toList.length≤12 by rw[←HZ.out];exact h12),Bool.and_false,Bool.false_and])
     go_wp2
     go_ret
     exact⟨by rw[HJ.out];rfl,rfl⟩
   ·have h1i:¬(1:Int)≤(t.size:Int):=by omega
    have HJ:Hid (J7 t.data.toList=false):=zh (by unfold J7;rw[decide_eq_false (show ¬ 1≤t.data.toList.length by rw[←HZ.out];exact h1),Bool.false_and,Bool.false_and])
    go_wp2
    go_ret
    exact⟨by rw[HJ.out];rfl,rfl⟩
end Go.Proofs.YtdmlghfggninbaaGreatDoor
