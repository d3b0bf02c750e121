/- BnV, BnW, BnX, BnY, BnZ, ScA, ScM, Row in one text. Conditions: as each part says. -/
import Derived.Test.YtdmlghfggninbaaGreatDoorMb7
import Derived.RangeFuncKeeps
import Derived.RangeFuncMany
import Derived.RangeFuncLeaves
import Derived.Sort.MapsRangeIn
import Derived.Sort.KeysCollected
import Derived.OwnWalkIn
import Derived.TacticsInMore
import Derived.RegionIn
import Derived.LoopNIn
import Derived.LoopIn
import Derived.Test.YtdmlghfggninbaaGreatDoorMb10
import Derived.RangeFuncNested
import Derived.RangeFuncBox
import Derived.Shelf.Abstract
import Derived.WalkKit
import Derived.Test.YtdmlghfggninbaaGreatDoorMb32
import Derived.Sort.Grow
import Derived.Test.YtdmlghfggninbaaGreatDoorBnM
import Derived.Shelf.SlSortCmp.WholeK
import Derived.Lib.OwnBridge
import Derived.Shelf.SlSortCmp.NoneTotal
import Derived.Test.YtdmlghfggninbaaGreatDoorMb5
set_option linter.unusedVariables false
set_option linter.unusedSimpArgs false
set_option maxHeartbeats 2000000
set_option maxRecDepth 100000
namespace Go.Proofs.YtdmlghfggninbaaGreatDoor
open Go.RowKit Go.Lib Go.Maps Go.WideMaps Go.Sort
def CameB(L:HldL)(left:Lit→Bool)(os:HldL):Prop:=os.Nodup∧∀o,o∈os↔o∈L∧left (Z6 o.id)=false
theorem CameB.start{L:HldL}(hL:∀y∈L,IdOk y.id):CameB L (Maps.has (V5 L)) []:=⟨List.nodup_nil,fun o=>⟨fun h=>absurd h List.not_mem_nil,fun⟨h,hl⟩=>by
 rw[z2x hL (hL o h)]at hl
 cases hg:getB L o.id with
 | some _=>rw[hg]at hl;cases hl
 | none=>exact absurd rfl (z2w.1 hg o h)⟩⟩
theorem k1x{L:HldL}(hs:SrtB L){x y:Hld}(hx:x∈L)(hy:y∈L)(h:x.id=y.id):x=y:=by
 induction L with
 | nil=>cases hx
 | cons z r ih=>
  obtain⟨h1,h2⟩:=G5.1 hs
  rcases List.mem_cons.1 hx with e1|hx'
  ·rcases List.mem_cons.1 hy with e2|hy'
   ·rw[e1,e2]
   ·rw[e1]at h;exact absurd h (q0j (h1 y hy'))
  ·rcases List.mem_cons.1 hy with e2|hy'
   ·rw[e2]at h;exact absurd h.symm (q0j (h1 x hx'))
   ·exact ih h2 hx' hy'
theorem k1y{L:HldL}(hs:SrtB L):L.Nodup:=hs.imp fun h e=>by subst e;exact q0j h rfl
theorem CameB.step{L:HldL}{left:Lit→Bool}{os:HldL}(h:CameB L left os)(hs:SrtB L)(hL:∀y∈L,IdOk y.id){o:Hld}(ho:o∈L)(hl:left (Z6 o.id)=true) :
  CameB L (fun z=>left z&& !z.sameKey (Z6 o.id)) (os++ [o]):=by
 have hno:o∉os:=fun hm=>by have:=((h.2 o).1 hm).2;rw[hl]at this;cases this
 refine⟨List.nodup_append.2 ⟨h.1,by simp,fun a ha b hb e=>by rw[List.mem_singleton.1 hb]at e;rw[e]at ha;exact hno ha⟩,fun y=> ?_⟩
 rw[List.mem_append,List.mem_singleton,h.2 y]
 constructor
 ·rintro(⟨h1,h2⟩|rfl)
  ·exact⟨h1,by show(left (Z6 y.id)&&_)=false;rw[h2];rfl⟩
  ·exact⟨ho,by show(left (Z6 y.id)&& !(Z6 y.id).sameKey (Z6 y.id))=false;rw[R7 (hL y ho) (hL y ho)];simp⟩
 ·rintro⟨h1,h2⟩
  cases hly:left (Z6 y.id)with
  | false=>exact .inl ⟨h1,rfl⟩
  | true=>
   right
   have h2:(left (Z6 y.id)&& !(Z6 y.id).sameKey (Z6 o.id))=false:=h2
   rw[hly,R7 (hL y h1) (hL o ho)]at h2
   exact k1x hs h1 ho (by simpa using h2)
theorem CameB.perm{L:HldL}{left:Lit→Bool}{os:HldL}(h:CameB L left os)(hs:SrtB L)(hl:∀kl,left kl=false):os.Perm L:=
 (List.perm_ext_iff_of_nodup h.1 (k1y hs)).2 fun o=>by rw[h.2 o,hl];simp
theorem k1z(n:Nat)(hn:1≤n)(Bm mb:Nat)(L:HldL)(m:Int)(hL:BinOk m L)(w:World)(hBm:Bm<w.heap.size)(hm:w.cell? ⟨Bm,0,none⟩=some (.map (some mb)))(hown:w.ownsMap Tryz.prog 25 K6 mb L.length (V5 L)) :
  SeqStopsK Fence.wide n Tryz.prog 161 #[.pointer (some ⟨Bm,0,none⟩)] (fun o=> #[hldV o]) KeepsWalks (fun os=>os.Perm L) (fun _=>True) L.length w:=by
 intro l J Jx W hW hJ hJx hY h0
 have hown':W.ownsMap Tryz.prog 25 K6 mb L.length (V5 L):=by
  have hbl:=hown.lt
  obtain⟨es,clock,hb,Ft,hs,hD⟩:=hown
  exact⟨es,clock,(hW.block mb hbl).trans hb,Ft,hs,hD⟩
 have c0:W.cell? ⟨Bm,0,none⟩=some (.map (some mb)):=(hW.cell (p:=⟨Bm,0,none⟩) hBm).trans hm
 have HOK:=zh hL
 have hsz:Maps.size (V5 L)=L.length:=z2z L
 clear hown hm hL
 refine callsIn_of_wp Tryz.func161 rfl trivial ?_ rfl
 simp only[Tryz.ntmps161,List.size_toArray,List.length_cons,List.length_nil,Nat.reduceAdd,Nat.reduceSub,Array.replicate_succ,Array.replicate_zero,List.push_toArray,List.append_toArray,List.nil_append,List.cons_append]
 gi_wp2_with (first
  | (gi_at_range;refine wpListIn_range_own _ rfl _ 155 rfl 25 150 lawI Tryz.underlying155 K6 mb L.length (V5 L) rfl hown' ?_;intro w0 hrg0 hg0 hs0)
  | gi_in)
 try go_frame
 gi_loopw [4] (fun _ wr=>∃(left:Lit→Bool) (cnt:Nat) (os:HldL),wr.ranges Tryz.prog 25 K6 mb W.heap.size L.length (V5 L) left cnt∧os.length+cnt≤L.length∧CameB L left os∧J os wr)
  (fun _ wr=>wr.rangeLeft mb W.heap.size)
 case atStart=>
  exact⟨_,_,[],hrg0,by rw[hsz];simp,CameB.start HOK.out.idok,hJ [] W w0 none h0 hg0 (fun r e=>by cases e)⟩
 case round=>
  obtain⟨left,cnt,os,hrg,hcs,hC,hJs⟩:=hrel
  gi_wp2_with (first
   | (gi_at_next;refine wpListIn_next_ranges _ rfl _ rfl 25 lawI K6 idV hldV j0z j1a mb W.heap.size L.length (V5 L) left _ rfl hrg ?_ ?_)
   | gi_in)
  ·intro _ hl0
   have HP:=zh (hC.perm HOK.out.srt hl0)
   clear hl0
   gi_wp2
   go_end0
   exact⟨⟨_,rfl⟩,.inl ⟨os,HP.out,hJs⟩⟩
  ·intro x1 x2 o kl yd yp w2 cnt2 hkey hlk hv hat hrg2 hlt hg2 hs2 hen
   obtain⟨hx,rfl,hmem,hox,rfl⟩:=came (x:=(x1,x2)) HOK.out.idok hkey hv hat
   rw[←hox]at hx hkey hlk hat hrg2 hen ⊢
   clear hox
   have hJ2:J os w2:=hJ os wr w2 (some W.heap.size) hJs hg2 (fun r e=>by cases e;exact⟨zl _,hrg.iter_walk⟩)
   have hJ3:J os (w2.alloc (.cells #[.int .u32 (o.id.1:Int),.int .i64 o.id.2,.int .i64 o.uses,.string (bs o.text)] 150)):=hJ os w2 _ none hJ2 (World.grownBy_alloc _ _ none) (fun r e=>by cases e)
   have hC2:=zh (hC.step HOK.out.srt HOK.out.idok hmem hlk)
   have HRG2:=zh (hrg2.alloc (.cells #[.int .u32 (o.id.1:Int),.int .i64 o.id.2,.int .i64 o.uses,.string (bs o.text)] 150))
   obtain⟨fn,tmps,assign,body,hy,hR⟩:=hY os o _ hJ3 (by omega)
   have HLT:=zh hlt
   clear hkey hlk hv hat hg2 hs2 hx hmem hC hJ2 hJ3
   gi_wp2
   refine hR.mono ?_
   rintro e W3 (⟨rfl,hJ3,hk3⟩|⟨rfl,hJx3⟩)
   ·gi_wp2
    have hrg3:=HRG2.out.of_walks hk3
    go_roundw
    case rel=>exact⟨_,cnt2,os++ [o],hrg3,by simp;omega,hC2.out,hJ3⟩
    case measure=>rw[hrg3.left_eq,hrg.left_eq];exact HLT.out
   ·gi_wp2
    refine bodyPost_ret (results_none rfl _ _ _) rfl ?_
    exact⟨⟨_,rfl⟩,.inr ⟨os++ [o],trivial,hJx3⟩⟩
end Go.Proofs.YtdmlghfggninbaaGreatDoor
namespace Go.Proofs.YtdmlghfggninbaaGreatDoor
open Go.RowKit Go.Lib Go.Maps Go.WideMaps Go.Sort Go.Shelf
attribute [local go_sem] Oper.semAt_some
def HldBox(W:World)(b:Nat)(x:Hld):Prop:=W.heap[b]? =some (.cells #[.int .u32 (x.id.1:Int),.int .i64 x.id.2,.int .i64 x.uses,.string (bs x.text)] 150 (0,0))
theorem HldBox.own{x:Hld}{b:Nat}{X Y:World}{row:Option Nat}(h:HldBox X b x)(hg:X.grownBy Y row)(hr:∀r,row=some r→∃o:Obj,X.heap[r]? =some o∧o.isCells=false):HldBox Y b x:=by
 refine(hg.block b (Array.getElem?_eq_some_iff.1 h).1 (fun e=> ?_)).trans h
 obtain⟨o,ho,hc⟩:=hr b e.symm
 rw[show X.heap[b]? =_ from h]at ho;cases ho;cases hc
theorem HldBox.cells{x:Hld}{b:Nat}{W:World}(h:HldBox W b x):W.cell? ⟨b,0,none⟩=some (.int .u32 (x.id.1:Int))∧W.cell? ⟨b,1,none⟩=some (.int .i64 x.id.2)∧W.cell? ⟨b,2,none⟩=some (.int .i64 x.uses)∧W.cell? ⟨b,3,none⟩=some (.string (bs x.text)):=by
 refine⟨?_,?_,?_,?_⟩<;>rw[cell_of_row W b _ _ _ _ h]<;>rfl
theorem k2a(n:Nat)(hn:2≤n)(Bm mb:Nat)(L:HldL)(m:Int)(hL:BinOk m L)(hl:L.length≤1000000)(w:World)(hBm:Bm<w.heap.size)(hm:w.cell? ⟨Bm,0,none⟩=some (.map (some mb)))(hown:w.ownsMap Tryz.prog 25 K6 mb L.length (V5 L)) :
  CallsIn Fence.wide n Tryz.prog 202 #[.slice none 0 0,.func (.func 161) #[] #[.pointer (some ⟨Bm,0,none⟩)]] w fun e W'=>∃v os,e= .returned v∧os.Perm L∧W'.ownsRow w.heap.size 150 4 v os.length (Q6 os)∧Below w.heap.size w W':=by
 obtain⟨i0,hi,hz0,hz1,hz2⟩:=info_parts j0d
 have h1:1≤n:=by omega
 refine callsIn_of_wp_marks Tryz.func202 rfl trivial ?_ rfl
 simp only[Tryz.ntmps202,List.size_toArray,List.length_cons,List.length_nil,Nat.reduceAdd,Nat.reduceSub,Array.replicate_succ,Array.replicate_zero,List.push_toArray,List.append_toArray,List.nil_append,List.cons_append]
 gi_wp2
 have bO:=Boxed.new w 91 (.slice none 0 0)
 have hB0:Below w.heap.size w (w.alloc (.cells #[.slice none 0 0] 91)):=(zb _ w).alloc (zl _) _
 have hst:=k1z (n-1) (by omega) Bm mb L m hL (w.alloc (.cells #[.slice none 0 0] 91)) (by simp;omega) ((hB0.cell (p:=⟨Bm,0,none⟩) hBm).trans hm) (by
  have hbl:=hown.lt
  obtain⟨es,clock,hb,Ft,hs,hD⟩:=hown
  exact⟨es,clock,(hB0.block mb hbl).trans hb,Ft,hs,hD⟩)
 refine wpIn_rangeFunc_ownH q3z h1 (gf:=161) (lb:= #[.pointer (some ⟨Bm,0,none⟩)]) rfl trivial (enters_of Tryz.func161 (by kernel_rfl) rfl)
  hst walksK_t walksK_b (zb _ _) (fun _=>rfl)
  (fun(pre:HldL) W=>(∃v,Boxed W w.heap.size 91 v∧W.ownsRow w.heap.size 150 4 v pre.length (Q6 pre)∧True)∧Below w.heap.size w W)
  (fun _ _ _=>False)
  (OwnFrom.and (Own.from (holdsRow_own w.heap.size w.heap.size 91 150 4 (fun pre:HldL=>pre.length) Q6 (fun(_:HldL) _=>True)) _) (ownFrom_below (zl _) (by simp)))
  (fun _ _ _ _ _ hs _ _=>hs)
  ⟨⟨_,bO,World.ownsRow_nil _ _ _ _,trivial⟩,hB0⟩
  (fun x a' W=>∃Bx,w.heap.size<Bx∧HldBox W Bx x∧a'= {tmps:= #[.slice none 0 0,.func (.func 161) #[] #[.pointer (some ⟨Bm,0,none⟩)],.pointer (some ⟨w.heap.size,0,none⟩),undef,.slice none 0 0,.pointer (some ⟨Bx,0,none⟩),.func (.func 161) #[] #[.pointer (some ⟨Bm,0,none⟩)],hldV x,undef,undef,undef,undef,undef],defers:= []})
  (fun x a' _ X Y row hs hg hr=>by obtain⟨Bx,h1,h2,h3⟩:=hs;exact⟨Bx,h1,h2.own hg (fun r e=>(hr r e).2),h3⟩)
  ?assign ?body ?done ?stop
 case assign=>
  rintro l pre x W K ⟨⟨v,hv,hrow,_⟩,hB⟩ hK
  have hlt:=hv.lt
  have hnew:HldBox (W.alloc (.cells #[.int .u32 (x.id.1:Int),.int .i64 x.id.2,.int .i64 x.uses,.string (bs x.text)] 150)) W.heap.size x:=World.alloc_heap_new W _
  gi_wp2
  exact hK _ _ ((KeepsOthers.alloc _ _).from _) (KeepsWalks.alloc _ _) ⟨⟨_,hv.alloc _,hrow.alloc _,trivial⟩,hB.alloc hB.size _⟩ ⟨W.heap.size,hlt,hnew,rfl⟩
 case body=>
  rintro l pre x a' W hl' _ ⟨⟨v,hv,hrow,_⟩,hB⟩ ⟨Bx,hBx,hX,rfl⟩ hlt
  have hc:=hv.cell
  obtain⟨c0,c1,c2,c3⟩:=hX.cells
  gi_wp2_with (gi_at_builtin;refine wpListIn_append_own _ rfl _ _ 91 rfl w.heap.size 150 i0 (.agg #[.int .u32 0,.int .i64 0,.int .i64 0,.string ByteArray.empty]) 4 40 Tryz.underlying91 hi hz0 hz1 hz2 rfl (by decide) _ _ _ rfl (hrow.alloc _) ⟨W.heap.size,0,none⟩ 1 1 (hldC x) rfl rfl (j0c _ _ _ _ _ _) (by simp[hldC,Value.oneCell']) (by unfold maxLen;omega) (by omega) (by have:=hB.size;simp;omega) ?_;intro v' w1 hown' hgrow _;obtain⟨g',cap',rfl⟩:=ownsRow_succ hown';obtain⟨hv1,hv2,hr2,hk2,hb2⟩:=hv.appended (by decide) hrow hB.size (zl _) hown' hgrow;have hc1:=hv1.cell;have hf1:=hv1.frozen)
  exact⟨hk2.from _,hk2.walks,⟨_,hv2,by rw[j0g,List.length_append];exact hr2,trivial⟩,hB.trans hb2⟩
 case done=>
  rintro D ys W hD hys ⟨⟨v,hv,hrow,_⟩,hB⟩ hK
  have hc:=hv.cell
  gi_wp2
  refine⟨by simp,.inl ⟨_,_,rfl,run_takeDeferred hK,?_⟩⟩
  refine⟨_,results_tmp rfl _ _ _,v,ys,rfl,hys,?_,hB.trans (belowK_b (w:=w) (zl _) W D _ _ (by simp at hD;omega) hK rfl rfl)⟩
  exact ownsRow_putObj hrow (.deferred none) hK rfl
 case stop=>
  rintro D c pre W _ _ h _
  exact h.elim
end Go.Proofs.YtdmlghfggninbaaGreatDoor
namespace Go.Proofs.YtdmlghfggninbaaGreatDoor
open Go.RowKit Go.Lib Go.Sort
def Grows(w w':World):Prop:=∃q os,w'=grow (w.drewN q) os
theorem Grows.refl(w:World):Grows w w:=⟨0,#[],by rw[grow_empty];rfl⟩
theorem Grows.alloc{w w':World}(h:Grows w w')(o:Obj):Grows w (w'.alloc o):=by
 obtain⟨q,os,rfl⟩:=h
 exact⟨q,os++ #[o],by rw[alloc_eq_grow,grow_grow]⟩
theorem Grows.drew{w w':World}(h:Grows w w'):Grows w w'.drew:=by
 obtain⟨q,os,rfl⟩:=h
 exact⟨q+1,os,rfl⟩
theorem Grows.trans{a b c:World}(h:Grows a b)(k:Grows b c):Grows a c:=by
 obtain⟨q,os,rfl⟩:=h
 obtain⟨q',os',rfl⟩:=k
 refine⟨q+q',os++os',?_⟩
 rw[←grow_grow]
 congr 1
 show grow ((a.drewN q).drewN q') os=_
 rw[World.drewN_drewN]
theorem Grows.below{w w':World}(h:Grows w w'):Below w.heap.size w w':=by
 obtain⟨q,os,rfl⟩:=h
 exact⟨rfl,rfl,rfl,by show w.heap.size≤(w.heap++os).size;simp,fun k hk=>by show(w.heap++os)[k]? =w.heap[k]?;exact Array.getElem?_append_left hk⟩
theorem k2b(p q:Nat)(m n:Int)(w:World) :
  Calls Tryz.prog 80 #[.agg #[.int .u32 (p:Int),.int .i64 m],.agg #[.int .u32 (q:Int),.int .i64 n]] w fun e w'=>e= .returned (.int .i64 (z0m p q m n))∧Grows w w':=by
 have ha:Box2 w.heap.size (.int .u32 (p:Int)) (.int .i64 m) ((w.alloc (.cells #[.int .u32 (p:Int),.int .i64 m] 25)).alloc (.cells #[.int .u32 (q:Int),.int .i64 n] 25)):=(Box2.mk' w _ _ _).alloc _
 have hb:Box2 (w.heap.size+1) (.int .u32 (q:Int)) (.int .i64 n) ((w.alloc (.cells #[.int .u32 (p:Int),.int .i64 m] 25)).alloc (.cells #[.int .u32 (q:Int),.int .i64 n] 25)):=by
  have:=Box2.mk' (w.alloc (.cells #[.int .u32 (p:Int),.int .i64 m] 25)) (.int .u32 (q:Int)) (.int .i64 n) 25
  simpa using this
 have HA:=zh ha
 have HB:=zh hb
 have HB0:Hid (Grows w ((w.alloc (.cells #[.int .u32 (p:Int),.int .i64 m] 25)).alloc (.cells #[.int .u32 (q:Int),.int .i64 n] 25))):=zh (((Grows.refl w).alloc _).alloc _)
 clear ha hb
 go_enter Tryz.func80,Tryz.ntmps80
 go_wp2_with fail
 generalize(w.alloc (.cells #[.int .u32 (p:Int),.int .i64 m] 25)).alloc (.cells #[.int .u32 (q:Int),.int .i64 n] 25)=w2 at *
 have hS0:Grows w2 w2.drew:=(Grows.refl _).drew
 refine kR (fun w'=>Grows w2 w') 12 ?_
 refine kT 0 hS0 ?_
 refine kS 1 rfl hS0 (fun w' hS=>by have A0:=(HA.out.below hS.below HA.out.lt).c0;have A1:=(HA.out.below hS.below HA.out.lt).c1;go_simp;rfl) ?_
 refine kT 2 hS0 ?_
 refine kS 3 rfl hS0 (fun w' hS=>by have B0:=(HB.out.below hS.below HB.out.lt).c0;have B1:=(HB.out.below hS.below HB.out.lt).c1;go_simp;rfl) ?_
 refine kT 5 hS0 ?_
 refine kS 6 rfl hS0 (fun w' hS=>by have A0:=(HA.out.below hS.below HA.out.lt).c0;have A1:=(HA.out.below hS.below HA.out.lt).c1;go_simp;rfl) ?_
 refine kT 7 hS0 ?_
 refine kS 8 rfl hS0 (fun w' hS=>by have B0:=(HB.out.below hS.below HB.out.lt).c0;have B1:=(HB.out.below hS.below HB.out.lt).c1;go_simp;rfl) ?_
 refine kC 4 (fun K hK=> ?_)
 go_simp
 refine(z0j p q _).mono ?_
 rintro e w3 ⟨rfl,rfl⟩
 refine hK _ _ hS0 ?_
 clear hK K
 try simp only[Act.put,zM]
 refine kC 9 (fun K hK=> ?_)
 go_simp
 refine(z0k m n _).mono ?_
 rintro e w3 ⟨rfl,rfl⟩
 refine hK _ _ hS0 ?_
 clear hK K
 try simp only[Act.put,zM]
 refine kC 10 (fun K hK=> ?_)
 go_simp
 have hS1:=hS0.alloc (.cells #[.int .i64 (ordZ p q),.int .i64 (ordZ m n)] 3)
 refine hK _ _ hS1 ?_
 clear hK K
 try simp only[Act.put,zM]
 refine kC 11 (fun K hK=> ?_)
 go_simp
 refine(z0l (ordZ p q) (ordZ m n) w2.heap.size _ (by show(w2.alloc _).cell? ⟨w2.heap.size,0,none⟩=_;rw[World.cell?_alloc_at _ _ _ _ rfl];rfl) (by show(w2.alloc _).cell? ⟨w2.heap.size,1,none⟩=_;rw[World.cell?_alloc_at _ _ _ _ rfl];rfl)).mono ?_
 rintro e w3 ⟨rfl,rfl⟩
 refine hK _ _ hS1 (kF ?_)
 clear hK K
 try simp only[Act.put,zM]
 simp only[List.drop_succ_cons,List.drop_zero]
 have hB9:=HB0.out.trans hS1
 go_wp2
 go_ret
 exact⟨rfl,hB9⟩
theorem k2c(x y:Hld)(w:World):Calls Tryz.prog 102 #[hldV x,hldV y] w fun e w'=>e= .returned (.int .i64 (z0m x.id.1 y.id.1 x.id.2 y.id.2))∧Grows w w':=by
 have HG:Hid (Grows w ((w.alloc (.cells #[.int .u32 (x.id.1:Int),.int .i64 x.id.2,.int .i64 x.uses,.string (bs x.text)] 150)).alloc (.cells #[.int .u32 (y.id.1:Int),.int .i64 y.id.2,.int .i64 y.uses,.string (bs y.text)] 150))):=zh (((Grows.refl w).alloc _).alloc _)
 have hx:Box4 w.heap.size (.int .u32 (x.id.1:Int)) (.int .i64 x.id.2) (.int .i64 x.uses) (.string (bs x.text)) ((w.alloc (.cells #[.int .u32 (x.id.1:Int),.int .i64 x.id.2,.int .i64 x.uses,.string (bs x.text)] 150)).alloc (.cells #[.int .u32 (y.id.1:Int),.int .i64 y.id.2,.int .i64 y.uses,.string (bs y.text)] 150)):=(Box4.mk' w _ _ _ _ _).below ((zb (w.alloc _).heap.size (w.alloc _)).alloc (zl _) _) (by simp)
 have hy:Box4 (w.heap.size+1) (.int .u32 (y.id.1:Int)) (.int .i64 y.id.2) (.int .i64 y.uses) (.string (bs y.text)) ((w.alloc (.cells #[.int .u32 (x.id.1:Int),.int .i64 x.id.2,.int .i64 x.uses,.string (bs x.text)] 150)).alloc (.cells #[.int .u32 (y.id.1:Int),.int .i64 y.id.2,.int .i64 y.uses,.string (bs y.text)] 150)):=by
  have:=Box4.mk' (w.alloc (.cells #[.int .u32 (x.id.1:Int),.int .i64 x.id.2,.int .i64 x.uses,.string (bs x.text)] 150)) (.int .u32 (y.id.1:Int)) (.int .i64 y.id.2) (.int .i64 y.uses) (.string (bs y.text)) 150
  simpa using this
 obtain⟨c0,c1,_,_,_⟩:=hx
 obtain⟨d0,d1,_,_,_⟩:=hy
 go_enter Tryz.func102,Tryz.ntmps102
 go_wp2_with fail
 refine(k2b x.id.1 y.id.1 x.id.2 y.id.2 _).mono ?_
 rintro e w3 ⟨rfl,hg⟩
 have HG3:=zh (HG.out.trans hg)
 clear hg c0 c1 d0 d1
 go_wp2
 go_ret
 exact⟨rfl,HG3.out⟩
theorem k2d(os:HldL):flatK hldC 4 os.toArray=(Q6 os).toArray:=by
 refine ext_get! (by simp[j0e]) fun t ht=> ?_
 have ht':t<os.length*4:=by simpa using ht
 have hd:t/4<os.length:=by omega
 rw[get_flatK _ _ _ t (by simpa using ht')]
 have h1:=j0f os (t/4) hd (t%4) (Nat.mod_lt _ (by decide))
 rw[show t/4*4+t%4=t by omega]at h1
 have h2:(Q6 os).toArray[t]! =((Q6 os)[t]?).getD default:=by simp[Array.getElem!_eq_getD,Array.getD_eq_getD_getElem?]
 rw[h2,h1]
 simp[List.getElem!_eq_getElem?_getD,getElem!_pos,hd]
theorem k2e{w:World}{base g n cap:Nat}{os:HldL}(h:w.ownsRow base 150 4 (.slice (some ⟨g,0,none⟩) n cap) n (Q6 os)):HoldsK hldC 4 w g 0 os.toArray:=by
 show Holds id w g 0 (flatK hldC 4 os.toArray)
 rw[k2d]
 intro j hj
 have hj':j<(Q6 os).length:=by simpa using hj
 have hl:=h.1
 rw[Nat.zero_add]
 refine⟨?_,h.frozenAt j⟩
 rw[h.cellAt j (by omega),List.getElem?_eq_getElem hj']
 simp[getElem!_pos,hj']
theorem k2f{w:World}{base g n cap q:Nat}{zs:List Value}{ys:HldL}(h:w.ownsRow base 150 4 (.slice (some ⟨g,0,none⟩) n cap) n zs)(hy:ys.length=n) :
  (putRowK hldC 4 (Sort.ahead w q) g 0 ys.toArray).ownsRow base 150 4 (.slice (some ⟨g,0,none⟩) n cap) n (Q6 ys):=by
 unfold putRowK
 rw[k2d]
 rcases h.2 with⟨e0,_⟩|⟨g',cap',cur,e0,hb,hg,hn,hm,hs,ht⟩
 ·cases e0
 ·injection e0 with e1 _ e3
  injection e1 with e1
  injection e1 with e1
  subst e1;subst e3
  have hz:=j0e ys
  refine⟨by rw[hz,hy],.inr ⟨g,cap,putCells id 0 (Q6 ys).toArray cur,rfl,hb,?_,hn,hm,by simpa[putCells]using hs,?_⟩⟩
  ·simp[putRow,mapBlock,Sort.ahead,Array.getElem?_modify,hg,onCells]
  ·apply List.ext_getElem?
   intro j
   rw[List.getElem?_take,Array.getElem?_toList]
   by_cases hj:j<n*4
   ·have hjc:j<cur.size:=by omega
    have hjz:j<(Q6 ys).length:=by omega
    simp only[if_pos hj,putCells,Array.getElem?_mapIdx,Array.getElem?_eq_getElem hjc,Option.map_some]
    rw[if_pos (by simp;omega),List.getElem?_eq_getElem hjz]
    simp[getElem!_pos,hjz]
   ·rw[if_neg hj,List.getElem?_eq_none (by omega)]
theorem k2g:∀ {L M:HldL},SrtB L→M.Perm L→M.Pairwise (fun a b=>Q2 b.id a.id=false)→M=L
 | [],M,_,hp,_=>List.Perm.eq_nil hp
 | x::r,[],_,hp,_=>absurd hp.symm.eq_nil (by simp)
 | x::r,y::m,hs,hp,hm=>by
  obtain⟨h1,h2⟩:=G5.1 hs
  obtain⟨m1,m2⟩:=List.pairwise_cons.1 hm
  have hxy:y=x:=by
   have hx:x∈y::m:=hp.symm.subset List.mem_cons_self
   have hy:y∈x::r:=hp.subset List.mem_cons_self
   rcases List.mem_cons.1 hx with e|hx
   ·exact e.symm
   ·rcases List.mem_cons.1 hy with e|hy
    ·exact e
    ·have a1:=h1 y hy
     have a2:=m1 x hx
     rw[a1]at a2;cases a2
  subst hxy
  rw[k2g h2 (List.Perm.cons_inv hp) m2]
def cfH(x y:Hld):Int:=z0m x.id.1 y.id.1 x.id.2 y.id.2
theorem k2h(x y:Hld):ltOf cfH x y=Q2 x.id y.id:=z0n _ _ _ _
theorem k2j:SWO (ltOf cfH):=⟨fun x=>by rw[k2h,R1],fun x y z h1 h2=>by rw[k2h]at *;exact D9 h1 h2,fun x y z h1 h2=>by
 rw[k2h]at *
 have h3:¬Q2 x.id y.id=true:=by rw[h1];simp
 have h4:¬Q2 y.id z.id=true:=by rw[h2];simp
 rw[q0a]at h3 h4
 rw[Bool.eq_false_iff,Ne,q0a]
 omega⟩
theorem k2k(base g cap:Nat)(L os:HldL)(hS:SrtB L)(hp:os.Perm L)(hl:L.length≤1000000)(w0 w:World)(ho:w.ownsRow base 150 4 (.slice (some ⟨g,0,none⟩) os.length cap) os.length (Q6 os))(hB:Below base w0 w)(hbase:base≤w.heap.size) :
  Calls Tryz.prog 160 #[.slice (some ⟨g,0,none⟩) os.length cap,.func (.func 102) #[] #[]] w fun e w'=>e= .returned (.tuple #[])∧w'.ownsRow base 150 4 (.slice (some ⟨g,0,none⟩) os.length cap) L.length (Q6 L)∧Below base w0 w':=by
 have hlen:os.length=L.length:=hp.length_eq
 have hgl:g<w.heap.size∧base≤g:=by
  rcases ho.2 with⟨e0,_⟩|⟨g',cap',cur,e0,hb,hg,_⟩
  ·cases e0
  ·injection e0 with e1 _ _
   injection e1 with e1
   injection e1 with e1
   subst e1
   exact⟨(Array.getElem?_eq_some_iff.1 hg).1,hb⟩
 refine(AnyQ.slices_SortFunc (P:=Tryz.prog) Tryz.sortf160 4 Tryz.isAgg150 Tryz.sizeOf150 hldC (fun _=>rfl) (fun x v hv=>by simp only[hldC,List.mem_cons,List.not_mem_nil,or_false]at hv;rcases hv with rfl|rfl|rfl|rfl<;>rfl) cfH k2j 102 #[] g 0 cap os.toArray w
  (enters_of Tryz.func102 (by kernel_rfl) rfl) (fun m os' dk _ x y=>k2c x y _) (k2e ho) hgl.1 (by simp;omega)).mono ?_
 rintro e w' ⟨rfl,d',n,os',hpm,hst,rfl⟩
 obtain⟨hsz,_,hpe⟩:=hpm
 have hsz':d'.toList.length=os.length:=by simpa using hsz
 have hpe':d'.toList.Perm os:=by
  have e1:d'.extract 0 os.toArray.size=d':=by rw[←hsz];simp
  have e2:os.toArray.extract 0 os.toArray.size=os.toArray:=by simp
  rw[e1,e2]at hpe
  simpa using hpe
 have hso:d'.toList.Pairwise (fun a b=>Q2 b.id a.id=false):=by
  rw[List.pairwise_iff_getElem]
  intro i j hi hj hij
  have:=hst i j (Nat.zero_le _) hij (by have:=hsz';rw[List.size_toArray];omega)
  rw[k2h]at this
  simpa[getElem!_pos,show i<d'.size by simpa using hi,show j<d'.size by simpa using hj]using this
 have hd:d'.toList=L:=k2g hS (hpe'.trans hp) hso
 have hda:d'=L.toArray:=by rw[←hd]
 subst hda
 have h1:=k2f (q:=n) ho (ys:=L) (by omega)
 have h2:(sortWorldK hldC 4 w g 0 n L.toArray os').ownsRow base 150 4 (.slice (some ⟨g,0,none⟩) os.length cap) os.length (Q6 L):=Q4 h1 (Lib.below_grow _ _ (zl _) 0 os')
 refine⟨rfl,by rw[←hlen];exact h2,?_⟩
 have hbp:=below_putRow (enc:=id) (q:=n) (d:=flatK hldC 4 L.toArray) hB hgl.2
 exact hbp.trans ((Lib.below_grow _ _ (zl _) 0 os').mono (Nat.le_trans hbase (by simp[putRow,mapBlock,Sort.ahead])))
theorem k2l(Bm mb:Nat)(L:HldL)(m:Int)(hL:BinOk m L)(hl:L.length≤1000000)(w:World)(hBm:Bm<w.heap.size)(hm:w.cell? ⟨Bm,0,none⟩=some (.map (some mb)))(hown:w.ownsMap Tryz.prog 25 K6 mb L.length (V5 L)) :
  Calls Tryz.prog 202 #[.slice none 0 0,.func (.func 161) #[] #[.pointer (some ⟨Bm,0,none⟩)]] w fun e W'=>∃v os,e= .returned v∧os.Perm L∧W'.ownsRow w.heap.size 150 4 v os.length (Q6 os)∧Below w.heap.size w W':=
 callsIn_wide.1 (k2a 2 (zl _) Bm mb L m hL hl w hBm hm hown)
theorem k2m(Bm mb:Nat)(L:HldL)(m:Int)(hL:BinOk m L)(hl:L.length≤1000000)(w:World)(hBm:Bm<w.heap.size)(hm:w.cell? ⟨Bm,0,none⟩=some (.map (some mb)))(hown:w.ownsMap Tryz.prog 25 K6 mb L.length (V5 L)) :
  Calls Tryz.prog 159 #[.func (.func 161) #[] #[.pointer (some ⟨Bm,0,none⟩)]] w fun e W'=>∃v os,e= .returned v∧os.Perm L∧W'.ownsRow w.heap.size 150 4 v os.length (Q6 os)∧Below w.heap.size w W':=by
 have AP:=zh (k2l Bm mb L m hL hl w hBm hm hown)
 clear hL hm hown
 go_enter Tryz.func159,Tryz.ntmps159
 go_wp2_with fail
 refine AP.out.mono ?_
 rintro e w1 ⟨v,os,rfl,hp,ho,hb⟩
 obtain⟨A,c,hv⟩:=J0 ho
 subst hv
 have HP:=zh hp
 have HO:=zh ho
 have HB:=zh hb
 clear hp ho hb
 go_wp2
 go_ret
 exact⟨_,os,rfl,HP.out,HO.out,HB.out⟩
def k2n(L:HldL)(w:World)(e:Ending)(W':World):Prop:=∃v,e= .returned v∧W'.ownsRow w.heap.size 150 4 v L.length (Q6 L)∧Below w.heap.size w W'
theorem k2o(Bm mb:Nat)(L:HldL)(m:Int)(hL:BinOk m L)(hl:L.length≤1000000)(w:World)(hBm:Bm<w.heap.size)(hm:w.cell? ⟨Bm,0,none⟩=some (.map (some mb)))(hown:w.ownsMap Tryz.prog 25 K6 mb L.length (V5 L)) :
  Calls Tryz.prog 100 #[.func (.func 161) #[] #[.pointer (some ⟨Bm,0,none⟩)],.func (.func 102) #[] #[]] w (k2n L w):=by
 have AP:=zh (k2m Bm mb L m hL hl w hBm hm hown)
 have HOK:=zh hL
 clear hL hm hown
 go_enter Tryz.func100,Tryz.ntmps100
 go_wp2_with fail
 refine AP.out.mono ?_
 rintro e w1 ⟨v,os,rfl,hp,ho,hb⟩
 have hlen:=hp.length_eq
 have HP:=zh hp
 have HO:=zh ho
 have HB:=zh hb
 rcases ho.2 with⟨rfl,h0⟩|⟨g,cap,cur,rfl,_⟩
 ·have hL0:L= []:=List.eq_nil_of_length_eq_zero (by omega)
  have ho0:os= []:=List.eq_nil_of_length_eq_zero h0
  have NO:Hid (Calls Tryz.prog 160 #[.slice none 0 0,.func (.func 102) #[] #[]] w1 fun e w'=>e= .returned (.tuple #[])∧w'=w1):=zh (AnyF.slices_SortFunc_none (P:=Tryz.prog) Tryz.sortf160 none 0 (.func (.func 102) #[] #[]) w1)
  have HQ:Hid (k2n L w (.returned (.slice none 0 0)) w1):=zh ⟨_,rfl,by rw[hL0];exact World.ownsRow_nil _ _ _ _,HB.out⟩
  clear hp ho hb hL0 ho0 h0 hlen
  go_wp2_with fail
  have NO':=NO.out
  clear NO
  refine Calls.mono NO' (fun e w2 h=> ?_)
  obtain⟨he,hw⟩:=h
  subst he
  subst hw
  go_wp2
  go_ret
  exact HQ.out
 ·have SO:=zh (k2k w.heap.size g cap L os HOK.out.srt hp hl w w1 ho hb hb.size)
  clear hp ho hb hlen
  go_wp2_with fail
  refine SO.out.mono ?_
  rintro e w2 ⟨rfl,ho2,hb2⟩
  have HQ:Hid (k2n L w (.returned (.slice (some ⟨g,0,none⟩) os.length cap)) w2):=zh ⟨_,rfl,ho2,hb2⟩
  clear ho2 hb2
  go_wp2
  go_ret
  exact HQ.out
theorem k2p(mb:Nat)(w:World):Calls Tryz.prog 101 #[.map (some mb)] w fun e w'=>e= .returned (.func (.func 161) #[] #[.pointer (some ⟨w.heap.size,0,none⟩)])∧w'=w.alloc (.cells #[.map (some mb)] 155):=by
 go_enter Tryz.func101,Tryz.ntmps101
 go_wp2
 go_ret
 exact⟨rfl,rfl⟩
theorem k2q(b mb:Nat)(L:HldL)(m:Int)(hL:BinOk m L)(hl:L.length≤1000000)(w:World)(hB:OBin b mb L w) :
  Calls Tryz.prog 45 #[.pointer (some ⟨b,0,none⟩)] w (k2n L w):=by
 have c0:=hB.cell
 have hb1:Below w.heap.size w (w.alloc (.cells #[.map (some mb)] 155)):=(zb _ w).alloc (zl _) _
 have SO:=zh (k2o w.heap.size mb L m hL hl (w.alloc (.cells #[.map (some mb)] 155)) (by simp) (by rw[World.cell?_alloc_at _ _ _ _ rfl];rfl) (hB.below hb1).map)
 have HB1:=zh hb1
 clear hb1 hL hB
 go_enter Tryz.func45,Tryz.ntmps45
 go_wp2_with fail
 refine(k2p mb w).mono ?_
 rintro e w1 ⟨rfl,rfl⟩
 go_wp2_with fail
 refine SO.out.mono ?_
 rintro e w2 ⟨v,rfl,ho,hb⟩
 obtain⟨A,c,hv⟩:=J0 ho
 subst hv
 have HQ:Hid (k2n L w (.returned (.slice A L.length c)) w2):=zh ⟨_,rfl,M2 ho (by simp),HB1.out.trans (hb.mono HB1.out.size)⟩
 clear ho hb
 go_wp2
 go_ret
 exact HQ.out
end Go.Proofs.YtdmlghfggninbaaGreatDoor
namespace Go.Proofs.YtdmlghfggninbaaGreatDoor
open Go.RowKit Go.Lib
def ixP{α:Type}(p:α→Bool)(L:List α):Int:=if L.findIdx p<L.length then(L.findIdx p:Int)else-1
theorem k2r{α:Type}{p:α→Bool}{L:List α}{k:Nat}(hk:k<L.length)(h:∀j (hj:j<k),p (L[j]'(by omega))=false)(hp:p L[k]=true):ixP p L=(k:Int):=by
 have e:L.findIdx p=k:=(List.findIdx_eq hk).2 ⟨hp,h⟩
 unfold ixP
 rw[e,if_pos hk]
theorem k2s{α:Type}{p:α→Bool}{L:List α}(h:∀j (hj:j<L.length),p L[j]=false):ixP p L= -1:=by
 unfold ixP
 rw[if_neg]
 rw[List.findIdx_lt_length]
 rintro⟨x,hx,hp⟩
 obtain⟨j,hj,rfl⟩:=List.mem_iff_getElem.1 hx
 rw[h j hj]at hp;cases hp
theorem k2t{α:Type}(p:α→Bool)(L:List α):decide (ixP p L≥0)=L.any p:=by
 unfold ixP
 by_cases h:L.findIdx p<L.length
 ·rw[if_pos h]
  obtain⟨x,hx,hp⟩:=List.findIdx_lt_length.1 h
  rw[List.any_eq_true.2 ⟨x,hx,hp⟩]
  exact decide_eq_true (by omega)
 ·rw[if_neg h]
  have:L.any p=false:=by
   rw[Bool.eq_false_iff]
   intro ha
   obtain⟨x,hx,hp⟩:=List.any_eq_true.1 ha
   exact h (List.findIdx_lt_length.2 ⟨x,hx,hp⟩)
  rw[this];rfl
theorem k2u(p:Hld→Bool)(b:Nat)(v:Value)(L:HldL)(hl:L.length≤1000000)(w:World)(hv:RdL w w.heap.size v L)(hF:∀x∈L,∀w',Below w.heap.size w w'→Calls Tryz.prog 224 #[hldV x,.pointer (some ⟨b,0,none⟩)] w' fun e w''=>e= .returned (.bool (p x))∧Below w'.heap.size w' w'') :
  Calls Tryz.prog 279 #[v,.func (.func 224) #[] #[.pointer (some ⟨b,0,none⟩)]] w fun e w'=>e= .returned (.int .i64 (ixP p L))∧Below w.heap.size w w':=by
 obtain⟨A,c,rfl,hcap,hcells⟩:=hv.form
 have HX:=zh hcells
 have HF:=zh hF
 clear hcells hv hF
 go_enter Tryz.func279,Tryz.ntmps279
 go_wp2
 go_loopg [8] L.length (fun gh vi wr=>∃(k:Nat),vi= .int .i64 k∧k≤L.length∧gh=L.length-k∧Hid (∀j (hj:j<k) (hl:j<L.length),p L[j]=false)∧Hid (Below w.heap.size w wr))
 case atStart=>exact⟨0,rfl,Nat.zero_le _,rfl,zh (fun j hj=>absurd hj (Nat.not_lt_zero _)),zh (zb _ _)⟩
 case round=>
  obtain⟨k,rfl,hk,hgm,HI,HB⟩:=hrel
  by_cases hkl:k<L.length
  ·obtain⟨g,o,rfl,hg,hx⟩:=HX.out (by omega)
   obtain⟨x0,x1,x2,x3⟩:=hx k hkl
   have y0:=(HB.out.cell (p:=⟨g,o+k*4,none⟩) hg).trans x0
   have y1:=(HB.out.cell (p:=⟨g,o+k*4+1,none⟩) hg).trans x1
   have y2:=(HB.out.cell (p:=⟨g,o+k*4+2,none⟩) hg).trans x2
   have y3:=(HB.out.cell (p:=⟨g,o+k*4+3,none⟩) hg).trans x3
   clear x0 x1 x2 x3
   have b1:(0:Int)≤(k:Int):=by omega
   have b2:(k:Int)<(L.length:Int):=by omega
   have HC:=zh (HF.out L[k] (List.getElem_mem hkl) wr HB.out)
   have hmem:=hkl
   clear hx
   go_wp2_with fail
   refine HC.out.mono ?_
   rintro e w2 ⟨rfl,hb2⟩
   have HB2:=zh (HB.out.trans (hb2.mono HB.out.size))
   clear hb2 HC
   cases hp:p L[k]with
   | true=>
    have HQ:=zh (k2r hkl (fun j hj=>HI.out j hj (by omega)) hp)
    clear hp
    go_wp2
    go_ret
    exact⟨by rw[HQ.out];rfl,HB2.out⟩
   | false=>
    have HI2:Hid (∀j (hj:j<k+1) (hl:j<L.length),p L[j]=false):=zh (fun j hj hl=>by
     by_cases e:j=k
     ·subst e;exact hp
     ·exact HI.out j (by omega) hl)
    clear hp
    go_wp2
    go_roundg (L.length-(k+1))
    case measure=>omega
    case rel=>exact⟨k+1,by go_num,hkl,rfl,HI2,HB2⟩
  ·obtain rfl:k=L.length:=by omega
   have HQ:=zh (k2s (fun j hj=>HI.out j hj hj))
   go_wp2
   go_ret
   exact⟨by rw[HQ.out];rfl,HB.out⟩
theorem k2v(p:Hld→Bool)(b:Nat)(v:Value)(L:HldL)(hl:L.length≤1000000)(w:World)(hv:RdL w w.heap.size v L)(hF:∀x∈L,∀w',Below w.heap.size w w'→Calls Tryz.prog 224 #[hldV x,.pointer (some ⟨b,0,none⟩)] w' fun e w''=>e= .returned (.bool (p x))∧Below w'.heap.size w' w'') :
  Calls Tryz.prog 223 #[v,.func (.func 224) #[] #[.pointer (some ⟨b,0,none⟩)]] w fun e w'=>e= .returned (.bool (L.any p))∧Below w.heap.size w w':=by
 have HC:=zh (k2u p b v L hl w hv hF)
 have HQ:=zh (k2t p L)
 obtain⟨A,c,rfl,_⟩:=hv.form
 clear hv hF
 go_enter Tryz.func223,Tryz.ntmps223
 go_wp2_with fail
 refine HC.out.mono ?_
 rintro e w2 ⟨rfl,hb2⟩
 have HB2:=zh hb2
 clear hb2 HC
 go_wp2
 go_ret
 exact⟨by rw[←HQ.out];rfl,HB2.out⟩
theorem k2w(h:Hld)(x:Idn)(b:Nat)(w:World)(hb:Box2 b (.int .u32 (x.1:Int)) (.int .i64 x.2) w) :
  Calls Tryz.prog 224 #[hldV h,.pointer (some ⟨b,0,none⟩)] w fun e w'=>e= .returned (.bool (decide (h.id=x)))∧Below w.heap.size w w':=by
 obtain⟨⟨i1,i2⟩,us,tx⟩:=h
 obtain⟨x1,x2⟩:=x
 have hb1:Below w.heap.size w (w.alloc (.cells #[.int .u32 (i1:Int),.int .i64 i2,.int .i64 us,.string (bs tx)] 150)):=(zb _ _).alloc (zl _) _
 obtain⟨c0,c1,_⟩:=Box4.mk' w (.int .u32 (i1:Int)) (.int .i64 i2) (.int .i64 us) (.string (bs tx)) 150
 obtain⟨d0,d1,_,_⟩:=hb.below hb1 hb.lt
 have HB1:=zh hb1
 show Calls Tryz.prog 224 #[hldV ⟨(i1,i2),us,tx⟩,.pointer (some ⟨b,0,none⟩)] w fun e w'=>e= .returned (.bool (decide ((i1,i2)=(x1,x2))))∧Below w.heap.size w w'
 simp only at d0 d1
 clear hb1 hb
 by_cases h1:i1=x1
 ·subst h1
  by_cases h2:i2=x2
  ·subst h2
   rw[decide_eq_true rfl]
   go_enter Tryz.func224,Tryz.ntmps224
   go_wp2
   go_ret
   exact⟨rfl,HB1.out⟩
  ·rw[decide_eq_false (fun e=>h2 (congrArg Prod.snd e))]
   go_enter Tryz.func224,Tryz.ntmps224
   go_wp2
   go_ret
   exact⟨rfl,HB1.out⟩
 ·have h1i:¬((i1:Int)=(x1:Int)):=by omega
  rw[decide_eq_false (fun e=>h1 (congrArg Prod.fst e))]
  go_enter Tryz.func224,Tryz.ntmps224
  go_wp2
  go_ret
  exact⟨rfl,HB1.out⟩
theorem k2x(v:Value)(L:HldL)(hl:L.length≤1000000)(x:Idn)(w:World)(hv:RdL w w.heap.size v L) :
  Calls Tryz.prog 186 #[v,idV x] w fun e w'=>e= .returned (.bool (L.any fun h=>decide (h.id=x)))∧Below w.heap.size w w':=by
 have hb1:Below w.heap.size w (w.alloc (.cells #[.int .u32 (x.1:Int),.int .i64 x.2] 25)):=(zb _ _).alloc (zl _) _
 have hx:=Box2.mk' w (.int .u32 (x.1:Int)) (.int .i64 x.2) 25
 have HC:=zh (k2v (fun h=>decide (h.id=x)) w.heap.size v L hl _ ((hv.below hb1).more hb1.size) (fun h _ w' hb=>k2w h x w.heap.size w' (hx.below hb hx.lt)))
 obtain⟨A,c,rfl,_⟩:=hv.form
 have HB1:=zh hb1
 clear hb1 hx hv
 go_enter Tryz.func186,Tryz.ntmps186
 go_wp2_with fail
 refine HC.out.mono ?_
 rintro e w2 ⟨rfl,hb2⟩
 have HB2:=zh (HB1.out.trans (hb2.mono HB1.out.size))
 clear hb2 HC HB1
 go_wp2
 go_ret
 exact⟨rfl,HB2.out⟩
theorem RdL.keep{w w':World}{B B':Nat}{v:Value}{L:HldL}(h:RdL w B v L)(hb:Below B' w w')(h1:B≤B'):RdL w' B v L:=by
 obtain⟨A,c,hv,hl,hc,hx⟩:=h
 refine⟨A,c,hv,hl,hc,fun h0=> ?_⟩
 obtain⟨g,o,hA,hg,hcell⟩:=hx h0
 exact⟨g,o,hA,hg,fun k u hu=>(hb.cell (p:=⟨g,o+k,none⟩) (Nat.lt_of_lt_of_le hg h1)).trans (hcell k u hu)⟩
def RsRd(w:World)(B:Nat)(v:Value)(rs:List Rcp):Prop:=∃A c,v= .slice A rs.length c∧rs.length≤c∧(0<rs.length→∃g o,A=some ⟨g,o,none⟩∧g<B∧∀k (hk:k<rs.length),∃sl,RdI w B sl rs[k].ids ∧
  w.cell? ⟨g,o+k*4,none⟩=some (VT rs[k].name)∧w.cell? ⟨g,o+k*4+1,none⟩=some (.int .i64 rs[k].len)∧w.cell? ⟨g,o+k*4+2,none⟩=some (.int .u32 (rs[k].print:Int))∧w.cell? ⟨g,o+k*4+3,none⟩=some sl)
theorem RsRd.keep{w w':World}{B B':Nat}{v:Value}{rs:List Rcp}(h:RsRd w B v rs)(hb:Below B' w w')(h1:B≤B'):RsRd w' B v rs:=by
 obtain⟨A,c,hv,hc,hx⟩:=h
 refine⟨A,c,hv,hc,fun h0=> ?_⟩
 obtain⟨g,o,hA,hg,hcell⟩:=hx h0
 have hg':g<B':=by omega
 exact⟨g,o,hA,hg,fun k hk=>by
  obtain⟨sl,hr,c0,c1,c2,c3⟩:=hcell k hk
  exact⟨sl,hr.keep hb h1,(hb.cell (p:=⟨g,o+k*4,none⟩) hg').trans c0,(hb.cell (p:=⟨g,o+k*4+1,none⟩) hg').trans c1,(hb.cell (p:=⟨g,o+k*4+2,none⟩) hg').trans c2,(hb.cell (p:=⟨g,o+k*4+3,none⟩) hg').trans c3⟩⟩
theorem RsRd.more{w:World}{B B':Nat}{v:Value}{rs:List Rcp}(h:RsRd w B v rs)(hB:B≤B'):RsRd w B' v rs:=by
 obtain⟨A,c,hv,hc,hx⟩:=h
 refine⟨A,c,hv,hc,fun h0=> ?_⟩
 obtain⟨g,o,hA,hg,hcell⟩:=hx h0
 exact⟨g,o,hA,by omega,fun k hk=>by
  obtain⟨sl,hr,h2⟩:=hcell k hk
  exact⟨sl,hr.more hB,h2⟩⟩
theorem RsRd.below{w w':World}{v:Value}{rs:List Rcp}(h:RsRd w w.heap.size v rs)(hb:Below w.heap.size w w'):RsRd w' w'.heap.size v rs:=(h.keep hb (zl _)).more hb.size
theorem RsRd.nil(w:World)(B:Nat):RsRd w B (.slice none 0 0) []:=⟨none,0,rfl,zl _,fun h=>absurd h (by simp)⟩
def LdRd(w:World)(B:Nat)(v:Value)(ls:List Load):Prop:=∃A c,v= .slice A ls.length c∧ls.length≤c∧(0<ls.length→∃g o,A=some ⟨g,o,none⟩∧g<B∧∀k (hk:k<ls.length),∃sl,RdL w B sl ls[k].l ∧
  w.cell? ⟨g,o+k*3,none⟩=some (.int .u32 (ls[k].rep.1:Int))∧w.cell? ⟨g,o+k*3+1,none⟩=some (.int .i64 ls[k].rep.2)∧w.cell? ⟨g,o+k*3+2,none⟩=some sl)
theorem LdRd.keep{w w':World}{B B':Nat}{v:Value}{ls:List Load}(h:LdRd w B v ls)(hb:Below B' w w')(h1:B≤B'):LdRd w' B v ls:=by
 obtain⟨A,c,hv,hc,hx⟩:=h
 refine⟨A,c,hv,hc,fun h0=> ?_⟩
 obtain⟨g,o,hA,hg,hcell⟩:=hx h0
 have hg':g<B':=by omega
 exact⟨g,o,hA,hg,fun k hk=>by
  obtain⟨sl,hr,c0,c1,c2⟩:=hcell k hk
  exact⟨sl,hr.keep hb h1,(hb.cell (p:=⟨g,o+k*3,none⟩) hg').trans c0,(hb.cell (p:=⟨g,o+k*3+1,none⟩) hg').trans c1,(hb.cell (p:=⟨g,o+k*3+2,none⟩) hg').trans c2⟩⟩
theorem LdRd.more{w:World}{B B':Nat}{v:Value}{ls:List Load}(h:LdRd w B v ls)(hB:B≤B'):LdRd w B' v ls:=by
 obtain⟨A,c,hv,hc,hx⟩:=h
 refine⟨A,c,hv,hc,fun h0=> ?_⟩
 obtain⟨g,o,hA,hg,hcell⟩:=hx h0
 exact⟨g,o,hA,by omega,fun k hk=>by
  obtain⟨sl,hr,h2⟩:=hcell k hk
  exact⟨sl,hr.more hB,h2⟩⟩
theorem LdRd.below{w w':World}{v:Value}{ls:List Load}(h:LdRd w w.heap.size v ls)(hb:Below w.heap.size w w'):LdRd w' w'.heap.size v ls:=(h.keep hb (zl _)).more hb.size
theorem LdRd.nil(w:World)(B:Nat):LdRd w B (.slice none 0 0) []:=⟨none,0,rfl,zl _,fun h=>absurd h (by simp)⟩
structure RowK(α:Type) where
 n:Nat
 cells:α→Value→List Value
 len:∀a v,(cells a v).length=n
 m:α→Nat
 rd:World→Nat→α→Value→Prop
 one:∀ {w B a v},rd w B a v→∀u∈cells a v,u.oneCell'=true
 keep:∀ {w w' B B' a v},rd w B a v→Below B' w w'→B≤B'→rd w' B a v
 more:∀ {w B B' a v},rd w B a v→B≤B'→rd w B' a v
 far:∀ {w w' r B a v},rd w B a v→w.grownBy w' r→B≤w.heap.size→(∀g,r=some g→0<m a→v.ownBlock≠some g)→rd w' B a v
 lt:∀ {w B g a v},rd w B a v→0<m a→v.ownBlock=some g→g<B
theorem RdC.farR{w w':World}{r:Option Nat}{B size m:Nat}{v:Value}{xs:List Value}(h:RdC w B size v m xs)(hg:w.grownBy w' r)(hB:B≤w.heap.size)(hf:∀g,r=some g→0<m→v.ownBlock≠some g):RdC w' B size v m xs:=by
 obtain⟨A,c,hv,hl,hc,hx⟩:=h
 refine⟨A,c,hv,hl,hc,fun h0=> ?_⟩
 obtain⟨g,o,hA,hgB,hcell⟩:=hx h0
 refine⟨g,o,hA,hgB,fun k u hu=>(hg.cell_far ⟨g,o+k,none⟩ (Nat.lt_of_lt_of_le hgB hB) (fun e=> ?_)).trans (hcell k u hu)⟩
 exact hf g e.symm h0 (by rw[hv,hA];rfl)
theorem RdC.ltR{w:World}{B g size m:Nat}{v:Value}{xs:List Value}(h:RdC w B size v m xs)(h0:0<m)(e:v.ownBlock=some g):g<B:=by
 obtain⟨A,c,hv,hl,hc,hx⟩:=h
 obtain⟨b,o,hA,hg,_⟩:=hx h0
 rw[hv,hA]at e
 have:b=g:=by simpa[Value.ownBlock]using e
 omega
theorem RdC.oneR{w:World}{B size m:Nat}{v:Value}{xs:List Value}(h:RdC w B size v m xs):v.oneCell'=true:=by
 obtain⟨A,c,rfl,_⟩:=h;rfl
def rcK:RowK Rcp where
 n:=4
 cells:=fun r sl=> [VT r.name,.int .i64 r.len,.int .u32 (r.print:Int),sl]
 len:=fun _ _=>rfl
 m:=fun r=>r.ids.length
 rd:=fun w B r sl=>RdI w B sl r.ids
 one:=fun {w B a v} h u hu=>by
  simp only[List.mem_cons,List.not_mem_nil,or_false]at hu
  rcases hu with rfl|rfl|rfl|rfl
  ·rfl
  ·rfl
  ·rfl
  ·exact RdC.oneR h
 keep:=fun h hb h1=>RdI.keep h hb h1
 more:=fun h hB=>RdI.more h hB
 far:=fun h hg hB hf=>RdC.farR h hg hB hf
 lt:=fun h h0 e=>RdC.ltR h h0 e
def ldK:RowK Load where
 n:=3
 cells:=fun y sl=> [.int .u32 (y.rep.1:Int),.int .i64 y.rep.2,sl]
 len:=fun _ _=>rfl
 m:=fun y=>y.l.length
 rd:=fun w B y sl=>RdL w B sl y.l
 one:=fun {w B a v} h u hu=>by
  simp only[List.mem_cons,List.not_mem_nil,or_false]at hu
  rcases hu with rfl|rfl|rfl
  ·rfl
  ·rfl
  ·exact RdC.oneR h
 keep:=fun h hb h1=>RdL.keep h hb h1
 more:=fun h hB=>RdL.more h hB
 far:=fun h hg hB hf=>RdC.farR h hg hB hf
 lt:=fun h h0 e=>RdC.ltR h h0 e
section
variable {α:Type} (K:RowK α)
def RowK.row(E:List (α×Value)):List Value:=E.flatMap fun x=>K.cells x.1 x.2
theorem RowK.row_length(E:List (α×Value)):(K.row E).length=E.length*K.n:=by
 induction E with
 | nil=>simp[RowK.row]
 | cons o l ih=>rw[show K.row (o::l)=K.cells o.1 o.2++K.row l from rfl,List.length_append,ih,K.len,List.length_cons,Nat.succ_mul];omega
theorem RowK.row_append(a b:List (α×Value)):K.row (a++b)=K.row a++K.row b:=List.flatMap_append
theorem RowK.row_snoc(a:List (α×Value))(x:α×Value):K.row (a++ [x])=K.row a++K.cells x.1 x.2:=by rw[RowK.row_append];simp[RowK.row]
theorem RowK.row_at(l:List (α×Value))(k:Nat)(h:k<l.length)(j:Nat)(hj:j<K.n):(K.row l)[k*K.n+j]? =(K.cells l[k].1 l[k].2)[j]? :=by
 conv=>lhs;rw[←List.take_append_drop k l,List.drop_eq_getElem_cons h,RowK.row_append]
 have hl:(K.row (l.take k)).length=k*K.n:=by rw[RowK.row_length,List.length_take,Nat.min_eq_left (by omega)]
 rw[List.getElem?_append_right (by omega),hl,Nat.add_sub_cancel_left]
 rw[show K.row (l[k]::l.drop (k+1))=K.cells l[k].1 l[k].2++K.row (l.drop (k+1))from rfl,List.getElem?_append_left (by rw[K.len];exact hj)]
def OwX(w:World)(base:Nat)(T:TypeId)(v:Value)(l:List α):Prop:=
 ∃E:List (α×Value),E.map (·.1)=l∧w.ownsRow base T K.n v E.length (K.row E)∧∀x∈E,K.rd w w.heap.size x.1 x.2∧∀g,v.ownBlock=some g→0<K.m x.1→x.2.ownBlock≠some g
variable {K}
theorem OwX.nil(w:World)(base:Nat)(T:TypeId):OwX K w base T (.slice none 0 0) []:=⟨[],rfl,World.ownsRow_nil _ _ _ _,fun _ h=>absurd h List.not_mem_nil⟩
theorem OwX.below{w w':World}{base:Nat}{T:TypeId}{v:Value}{l:List α}(h:OwX K w base T v l)(hb:Below w.heap.size w w'):OwX K w' base T v l:=by
 obtain⟨E,he,ho,hx⟩:=h
 exact⟨E,he,Q4 ho hb,fun x hm=>⟨K.more (K.keep (hx x hm).1 hb (zl _)) hb.size,(hx x hm).2⟩⟩
theorem OwX.slice{w:World}{base:Nat}{T:TypeId}{v:Value}{l:List α}(h:OwX K w base T v l):∃A c,v= .slice A l.length c:=by
 obtain⟨E,rfl,ho,_⟩:=h
 have:=J0 ho
 simpa using this
theorem OwX.ge{w:World}{base g:Nat}{T:TypeId}{v:Value}{l:List α}(h:OwX K w base T v l)(e:v.ownBlock=some g):base≤g:=by
 obtain⟨E,rfl,ho,_⟩:=h
 exact Y7 ho e
theorem OwX.ltX{w:World}{base g:Nat}{T:TypeId}{v:Value}{l:List α}(h:OwX K w base T v l)(e:v.ownBlock=some g):g<w.heap.size:=by
 obtain⟨E,rfl,ho,_⟩:=h
 rcases ho.2 with⟨rfl,_⟩|⟨b,cap,cur,rfl,_,hh,_⟩
 ·cases e
 ·cases e;exact(Array.getElem?_eq_some_iff.1 hh).1
theorem OwX.own{w:World}{base:Nat}{T:TypeId}{v:Value}{l:List α}(h:OwX K w base T v l):∃xs,w.ownsRow base T K.n v l.length xs:=by
 obtain⟨E,rfl,ho,_⟩:=h
 exact⟨_,by rw[List.length_map];exact ho⟩
theorem OwX.snoc{w w':World}{base:Nat}{T:TypeId}{v v':Value}{l:List α}{E:List (α×Value)}(he:E.map (·.1)=l)(ho:w.ownsRow base T K.n v E.length (K.row E))(hx:∀x∈E,K.rd w w.heap.size x.1 x.2∧∀g,v.ownBlock=some g→0<K.m x.1→x.2.ownBlock≠some g)
  {a:α} {sl:Value} (hy:K.rd w w.heap.size a sl) (hyf:∀g,v.ownBlock=some g→0<K.m a→sl.ownBlock≠some g) (ho':w'.ownsRow base T K.n v' (E.length+1) (K.row E++K.cells a sl)) (hg:w.grownBy w' v.ownBlock)
  (hv':v'.ownBlock=v.ownBlock∨v'.ownBlock=some w.heap.size):OwX K w' base T v' (l++ [a]):=by
 refine⟨E++ [(a,sl)],by rw[List.map_append,he];rfl,by rw[List.length_append,RowK.row_snoc];exact ho',fun x hm=> ?_⟩
 have hz:K.rd w w.heap.size x.1 x.2∧∀g,v.ownBlock=some g→0<K.m x.1→x.2.ownBlock≠some g:=by
  rcases List.mem_append.1 hm with h|h
  ·exact hx x h
  ·rw[List.mem_singleton.1 h];exact⟨hy,hyf⟩
 refine⟨K.more (K.far hz.1 hg (zl _) hz.2) hg.size,fun g e=> ?_⟩
 rcases hv' with h1|h1
 ·exact hz.2 g (by rw[←h1];exact e)
 ·intro h0 e2
  have:=K.lt hz.1 h0 e2
  rw[h1]at e
  injection e with e
  omega
theorem OwX.form{w:World}{base:Nat}{T:TypeId}{v:Value}{l:List α}(h:OwX K w base T v l):∃A c,v= .slice A l.length c∧l.length≤c∧(0<l.length→∃g,A=some ⟨g,0,none⟩∧base≤g∧g<w.heap.size∧∀k (hk:k<l.length),∃sl,K.rd w w.heap.size l[k] sl ∧
  ∀j u,j<K.n→(K.cells l[k] sl)[j]? =some u→w.cell? ⟨g,k*K.n+j,none⟩=some u):=by
 obtain⟨E,rfl,ho,hx⟩:=h
 rcases ho.2 with⟨rfl,h0⟩|⟨g,cap,cur,hv,hge,hh,hnc,_⟩
 ·exact⟨none,0,by rw[List.length_map,h0],by rw[List.length_map];omega,fun h=>absurd h (by rw[List.length_map];omega)⟩
 ·refine⟨_,cap,by rw[List.length_map];exact hv,by rw[List.length_map];exact hnc,fun _=>⟨g,rfl,hge,(Array.getElem?_eq_some_iff.1 hh).1,fun k hk=> ?_⟩⟩
  have hk':k<E.length:=by simpa using hk
  refine⟨E[k].2,by rw[List.getElem_map];exact(hx _ (List.getElem_mem hk')).1,fun j u hj hu=> ?_⟩
  rw[List.getElem_map]at hu
  have hkn:k*K.n+j<E.length*K.n:=by
   have:=Nat.mul_le_mul_right K.n (show k+1≤E.length from hk')
   rw[Nat.succ_mul]at this
   omega
  subst hv
  rw[ho.cellAt (k*K.n+j) hkn,K.row_at E k hk' j hj];exact hu
end
theorem OwX.rs{w:World}{base:Nat}{T:TypeId}{v:Value}{l:List Rcp}(h:OwX rcK w base T v l):RsRd w w.heap.size v l:=by
 obtain⟨A,c,hv,hc,hx⟩:=h.form
 refine⟨A,c,hv,hc,fun h0=> ?_⟩
 obtain⟨g,hA,_,hg,hcell⟩:=hx h0
 refine⟨g,0,hA,hg,fun k hk=> ?_⟩
 obtain⟨sl,hsl,hcs⟩:=hcell k hk
 refine⟨sl,hsl,?_,?_,?_,?_⟩
 ·have:=hcs 0 _ (by decide) rfl
  simpa[rcK]using this
 ·have:=hcs 1 _ (by decide) rfl
  simpa[rcK]using this
 ·have:=hcs 2 _ (by decide) rfl
  simpa[rcK]using this
 ·have:=hcs 3 _ (by decide) rfl
  simpa[rcK]using this
theorem OwX.ls{w:World}{base:Nat}{T:TypeId}{v:Value}{l:List Load}(h:OwX ldK w base T v l):LdRd w w.heap.size v l:=by
 obtain⟨A,c,hv,hc,hx⟩:=h.form
 refine⟨A,c,hv,hc,fun h0=> ?_⟩
 obtain⟨g,hA,_,hg,hcell⟩:=hx h0
 refine⟨g,0,hA,hg,fun k hk=> ?_⟩
 obtain⟨sl,hsl,hcs⟩:=hcell k hk
 refine⟨sl,hsl,?_,?_,?_⟩
 ·have:=hcs 0 _ (by decide) rfl
  simpa[ldK]using this
 ·have:=hcs 1 _ (by decide) rfl
  simpa[ldK]using this
 ·have:=hcs 2 _ (by decide) rfl
  simpa[ldK]using this
theorem k2y:(Tryz.prog.info? 40).map (fun i=>(i.zero,i.size,i.bytes))=some (some (.agg #[.string ByteArray.empty,.int .i64 0,.int .u32 0,.slice none 0 0]),4,56):=by kernel_rfl
theorem k2z:(Tryz.prog.info? 113).map (fun i=>(i.zero,i.size,i.bytes))=some (some (.agg #[.int .u32 0,.int .i64 0,.slice none 0 0]),3,40):=by kernel_rfl
theorem k3a(w:World)(a b c d:Value)(t:TypeId):∀j u,[a,b,c,d][j]? =some u→(w.alloc (.cells #[a,b,c,d] t)).cell? ((⟨w.heap.size,0,none⟩:Addr).add j)=some u:=by
 intro j u h
 rw[q0n,Nat.zero_add,World.cell?_alloc_at _ _ _ _ rfl]
 match j,h with
 | 0,h=>exact h
 | 1,h=>exact h
 | 2,h=>exact h
 | 3,h=>exact h
theorem k3b(w:World)(a b c:Value)(t:TypeId):∀j u,[a,b,c][j]? =some u→(w.alloc (.cells #[a,b,c] t)).cell? ((⟨w.heap.size,0,none⟩:Addr).add j)=some u:=by
 intro j u h
 rw[q0n,Nat.zero_add,World.cell?_alloc_at _ _ _ _ rfl]
 match j,h with
 | 0,h=>exact h
 | 1,h=>exact h
 | 2,h=>exact h
end Go.Proofs.YtdmlghfggninbaaGreatDoor
