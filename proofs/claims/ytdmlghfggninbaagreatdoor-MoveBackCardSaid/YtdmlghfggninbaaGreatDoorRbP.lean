/- The reference's Bin: walk of Put. No conditions but bounds. -/
import Derived.Test.YtdmlghfggninbaaGreatDoorMb16
import Derived.Test.YtdmlghfggninbaaGreatDoorMb31
import Derived.Test.YtdmlghfggninbaaGreatDoorMb1
set_option linter.unusedVariables false
set_option linter.unusedSimpArgs false
set_option maxRecDepth 100000
namespace Go.Proofs.YtdmlghfggninbaaGreatDoor
open Go.RowKit Go.Lib
theorem Box2.setF{b d j:Nat}{x y:Value}{w:World}(h:Box2 b x y w)(hd:b≠d)(v:Value):Box2 b x y (w.setCell ⟨d,j,none⟩ v):=
 have hne:∀i,(⟨d,j,none⟩:Addr)≠⟨b,i,none⟩:=fun i e=>by injection e with e _;exact hd e.symm
 ⟨(World.cell?_setCell_other _ _ _ _ (hne 0)).trans h.c0,(World.cell?_setCell_other _ _ _ _ (hne 1)).trans h.c1,by rw[World.frozen?_setCell];exact h.f0,by rw[World.frozen?_setCell];exact h.f1⟩
theorem RBin.own_lt{rb base b:Nat}{v:Value}{L:HldL}{w:World}(h:RBin rb base v L w)(hb:v.ownBlock=some b):b<w.heap.size:=by
 rcases h.own.2 with⟨h1,_⟩|⟨g,cap,cur,h1,_,hh,_⟩
 ·rw[h1]at hb;cases hb
 ·rw[h1]at hb
  injection hb with hb
  subst hb
  exact(Array.getElem?_eq_some_iff.1 hh).1
theorem RBin.other{rb base b:Nat}{v:Value}{L:HldL}{w w':World}(h:RBin rb base v L w)(h1:rb≠b)(h2:v.ownBlock≠some b)(hw:∀k,k≠b→w'.heap[k]? =w.heap[k]?):RBin rb base v L w':=by
 refine⟨(hw rb h1).trans h.row,⟨h.own.1,?_⟩,h.ne⟩
 rcases h.own.2 with h3|⟨g,cap,cur,hv,hg,hh,h4⟩
 ·exact .inl h3
 ·refine .inr ⟨g,cap,cur,hv,hg,(hw g fun e=>h2 ?_).trans hh,h4⟩
  rw[hv,e];rfl
def q0h(rb base:Nat)(v:Value)(L:HldL)(t:Bytes)(w:World)(e:Ending)(w':World):Prop:=
 ∃v',e= .returned (.tuple #[idV (putB t L).2.1,.bool (putB t L).2.2.1,.int .i64 (putB t L).2.2.2])∧RBin rb base v' (putB t L).1 w'∧(v'=v∨∀b,v'.ownBlock=some b→w.heap.size≤b)∧BFrame rb v w w'
theorem k9h{w:World}{b k:Nat}{x y:Value}(h:k≠b):((w.setCell ⟨b,0,none⟩ x).setCell ⟨b,1,none⟩ y).heap[k]? =w.heap[k]? :=(G6 h).trans (G6 h)
theorem k9i{rb base:Nat}{v:Value}{L:HldL}{t:Bytes}{w W:World}{c:Int}(h:RBin rb base v L w)(e:putB t L=(L,(0,0),false,c))(hb:Below w.heap.size w W) :
  q0h rb base v L t w (.returned (.tuple #[.agg #[.int .u32 0,.int .i64 0],.bool false,.int .i64 c])) ((W.setCell ⟨w.heap.size,0,none⟩ (.int .u32 0)).setCell ⟨w.heap.size,1,none⟩ (.int .i64 0)):=by
 refine⟨v,by rw[e];rfl,by rw[e];exact(h.below hb).other (Nat.ne_of_lt h.lt) (fun e=>Nat.lt_irrefl _ (h.own_lt e)) fun k hk=>k9h hk,.inl rfl,hb.os,hb.tape,hb.output,by have:=hb.size;simpa[World.setCell]using this,fun k hk _ _=>(k9h (by omega)).trans (hb.block k hk)⟩
theorem k9j{rb base:Nat}{v:Value}{L:HldL}{t:Bytes}{w W:World}{c:Int}(h:RBin rb base v L w)(e:putB t L=(L,(0,0),false,c))(hb:Below w.heap.size w W) :
  q0h rb base v L t w (.returned (.tuple #[.agg #[.int .u32 0,.int .i64 0],.bool false,.int .i64 c])) W:=
 ⟨v,by rw[e];rfl,by rw[e];exact h.below hb,.inl rfl,.of_below hb⟩
theorem k9k{rb base g c k:Nat}{L:HldL}(hS:SrtB L){t:Bytes}(hr:q0m t=true)(hs:k4p L (idOf t) k)(ht:(L[k]'hs.1).text=t){w W:World}(h:RBin rb base (.slice (some ⟨g,0,none⟩) L.length c) L w)(hb:Below w.heap.size w W) :
  q0h rb base (.slice (some ⟨g,0,none⟩) L.length c) L t w (.returned (.tuple #[idV (idOf t),.bool false,.int .i64 0])) (((W.setCell ⟨g,k*4+2,none⟩ (.int .i64 ((L[k]'hs.1).uses+1))).setCell ⟨w.heap.size,0,none⟩ (.int .u32 ((idOf t).1:Int))).setCell ⟨w.heap.size,1,none⟩ (.int .i64 (idOf t).2)):=by
 have hk:=hs.1
 have he:L[k].id=idOf t:=hs.2.1
 have e:putB t L=(L.set k ⟨L[k].id,L[k].uses+1,L[k].text⟩,idOf t,false,0):=by
  unfold putB
  rw[if_neg (by rw[hr];simp),k4v hs]
  show(if L[k].text≠t then _ else _)=_
  rw[if_neg (not_not_intro ht),k4x hS ⟨idOf t,L[k].uses+1,t⟩ k hs,he,ht]
 have hgr:g≠rb:=h.ne g rfl
 have hgl:g<w.heap.size:=h.own_lt rfl
 have hW:=h.below hb
 obtain⟨o1,_⟩:=hW.own.stored (k*4+2) (.int .i64 (L[k].uses+1))
 have h1:RBin rb base (.slice (some ⟨g,0,none⟩) L.length c) (L.set k ⟨L[k].id,L[k].uses+1,L[k].text⟩) (W.setCell ⟨g,k*4+2,none⟩ (.int .i64 (L[k].uses+1))):=
  ⟨(G6 (Ne.symm hgr)).trans hW.row,by rw[k4y L k hk,List.length_set];exact o1,h.ne⟩
 refine⟨_,by rw[e],by rw[e];exact h1.other (Nat.ne_of_lt h.lt) (fun e=>Nat.lt_irrefl _ (h.own_lt e)) fun k hk=>k9h hk,.inl rfl,hb.os,hb.tape,hb.output,by have:=hb.size;simpa[World.setCell]using this,fun j hj _ h2=> ?_⟩
 have hjg:j≠g:=fun e=>h2 (by rw[e];rfl)
 exact(k9h (by omega)).trans ((G6 hjg).trans (hb.block j hj))
theorem k9l:∀ {L:HldL} (_:SrtB L) (y:Hld) (k:Nat) (_:k≤L.length) (_:∀j (hj:j<L.length),j<k→Q2 L[j].id y.id=true) (_:∀(hk:k<L.length),Q2 L[k].id y.id=false) (_:k4q L y.id),
  setB y L=L.take k++y::L.drop k
 | [],_,y,k,_,_,_,_=>by simp[setB]
 | a::r,hs,y,0,_,_,h2,hno=>by
  have hne:a.id≠y.id:=hno 0 (by simp)
  have hl:Q2 a.id y.id=false:=h2 (by simp)
  have h3:Q2 y.id a.id=true:=by
   rcases z2v hne with h|h
   ·rw[h]at hl;cases hl
   ·exact h
  unfold setB
  rw[if_neg hne,if_pos h3];rfl
 | a::r,hs,y,k+1,hk,h1,h2,hno=>by
  obtain⟨s1,s2⟩:=G5.1 hs
  have hne:a.id≠y.id:=hno 0 (by simp)
  have hl:Q2 a.id y.id=true:=h1 0 (by simp) (by omega)
  have hnl:¬Q2 y.id a.id=true:=fun e=>by
   have:=D9 hl e
   rw[R1]at this;cases this
  unfold setB
  rw[if_neg hne,if_neg hnl,k9l s2 y k (by simpa using hk) (fun j hj hjk=>h1 (j+1) (by simpa using hj) (by omega)) (fun hk'=>h2 (by simpa using hk')) (fun j hj=>hno (j+1) (by simpa using hj))]
  rfl
theorem k9m{rb base:Nat}{v v':Value}{L PL:HldL}{t:Bytes}{w wL W:World}(h:RBin rb base v L w)(hbase:base≤w.heap.size)(e:putB t L=(PL,idOf t,true,0))(hL:Below w.heap.size w wL)(hlt:w.heap.size<wL.heap.size)(ho:W.ownsRow wL.heap.size 150 4 v' PL.length (Q6 PL))(hb:Below wL.heap.size wL W) :
  q0h rb base v L t w (.returned (.tuple #[idV (idOf t),.bool true,.int .i64 0])) (((W.setCell ⟨rb,0,none⟩ v').setCell ⟨w.heap.size,0,none⟩ (.int .u32 ((idOf t).1:Int))).setCell ⟨w.heap.size,1,none⟩ (.int .i64 (idOf t).2)):=by
 have hrl:=h.lt
 have hbW:=hL.trans (hb.mono hL.size)
 have hrow:(W.setCell ⟨rb,0,none⟩ v').heap[rb]? =some (.cells #[v'] 94 (0,0)):=by
  have:=(hbW.block rb hrl).trans h.row
  simp[World.setCell,Array.getElem?_modify,this]
 have h1:RBin rb base v' PL (W.setCell ⟨rb,0,none⟩ v'):=⟨hrow,M2 (z9b ho (by omega)) (by omega),fun b hbk e=>by have:=Y7 ho hbk;omega⟩
 refine⟨v',by rw[e],by rw[e];exact h1.other (Nat.ne_of_lt hrl) (fun e=>by have:=Y7 ho e;omega) fun k hk=>k9h hk,.inr fun b hbk=>by have:=Y7 ho hbk;omega,hbW.os,hbW.tape,hbW.output,by have:=hbW.size;simpa[World.setCell]using this,fun j hj h1 _=>(k9h (by omega)).trans ((G6 h1).trans (hbW.block j hj))⟩
theorem k9n(rb base:Nat)(v:Value)(L:HldL)(n:Int)(hn:n≤4611686018427387904)(hL:BinOk n L)(hl:L.length≤1000000)(t:Bytes)(hr:q0m t=false)(w:World)(hbase:base≤w.heap.size)(h:RBin rb base v L w) :
  Calls Tryz.prog 92 #[.pointer (some ⟨rb,0,none⟩),VT t] w (q0h rb base v L t w):=by
 have hb0:Below w.heap.size w (w.alloc (.cells #[.int .u32 0,.int .i64 0] 25)):=(zb _ w).alloc (zl _) _
 have hx0:Box2 w.heap.size (.int .u32 0) (.int .i64 0) (w.alloc (.cells #[.int .u32 0,.int .i64 0] 25)):=Box2.mk' _ _ _ _
 have HBIN:=zh h
 have HR0:=zh (h.below hb0)
 have HB0:=zh hb0
 have HX0:=zh hx0
 have HZ:=zh (Q8 t)
 have HP:=zh (k9j (t:=t) (c:=2) HBIN.out (by unfold putB;exact if_pos hr) hb0)
 obtain⟨z0,z1,f0,f1⟩:=hx0
 have hr':t.length<1∨64<t.length:=by unfold q0m at hr;simp at hr;omega
 clear h hb0 hL hr hbase
 by_cases h1:t.length<1
 ·have h1i:((bs t).size:Int)<1:=by rw[HZ.out];omega
  clear hr' h1
  go_enter Tryz.func92,Tryz.ntmps92
  go_wp2
  refine bodyPost_ret (v:= .tuple #[.agg #[.int .u32 0,.int .i64 0],.bool false,.int .i64 2]) (by simp[results,Tryz.results92,go_sem,z0,z1]) rfl ?_
  exact HP.out
 ·have h1i:¬((bs t).size:Int)<1:=by rw[HZ.out];omega
  have h2i:((bs t).size:Int)>64:=by rw[HZ.out];omega
  clear hr' h1
  go_enter Tryz.func92,Tryz.ntmps92
  go_wp2
  refine bodyPost_ret (v:= .tuple #[.agg #[.int .u32 0,.int .i64 0],.bool false,.int .i64 2]) (by simp[results,Tryz.results92,go_sem,z0,z1]) rfl ?_
  exact HP.out
set_option maxHeartbeats 8000000 in
theorem k9o(rb base:Nat)(v:Value)(L:HldL)(n:Int)(hn:n≤4611686018427387904)(hL:BinOk n L)(hl:L.length≤1000000)(t:Bytes)(hr:q0m t=true)(w:World)(hbase:base≤w.heap.size)(h:RBin rb base v L w) :
  Calls Tryz.prog 92 #[.pointer (some ⟨rb,0,none⟩),VT t] w (q0h rb base v L t w):=by
 have hb0:Below w.heap.size w (w.alloc (.cells #[.int .u32 0,.int .i64 0] 25)):=(zb _ w).alloc (zl _) _
 have hx0:Box2 w.heap.size (.int .u32 0) (.int .i64 0) (w.alloc (.cells #[.int .u32 0,.int .i64 0] 25)):=Box2.mk' _ _ _ _
 have HBIN:=zh h
 have HR0:=zh (h.below hb0)
 have HB0:=zh hb0
 have HX0:=zh hx0
 have HZ:=zh (Q8 t)
 have hrr:=M4.1 hr
 have h1i:¬((bs t).size:Int)<1:=by rw[HZ.out];omega
 have h2i:¬((bs t).size:Int)>64:=by rw[HZ.out];omega
 have htm:(bs t).size≤maxLen:=by rw[HZ.out];unfold maxLen;omega
 have HRT:=zh hr
 have HOK:=zh hL
 have HBASE:=zh hbase
 have HLEN:=zh hl
 have HBT:=zh (Q3 t)
 clear h hb0 hx0 hL hr hbase hrr hl
 go_enter Tryz.func92,Tryz.ntmps92
 go_wp2_with fail
 refine(q7p (bs t) _ htm).mono ?_
 rintro e w1 ⟨rfl,hb1⟩
 rw[HBT.out,HZ.out]
 have hb01:=HB0.out.trans (hb1.mono HB0.out.size)
 have ha2:=(zb w1.heap.size w1).alloc (zl _) (.cells #[.int .u32 ((prOf t:Nat):Int),.int .i64 (t.length:Int)] 25)
 have hx2:Box2 w1.heap.size (.int .u32 ((prOf t:Nat):Int)) (.int .i64 (t.length:Int)) (w1.alloc (.cells #[.int .u32 ((prOf t:Nat):Int),.int .i64 (t.length:Int)] 25)):=Box2.mk' _ _ _ _
 have HX7:=zh hx2
 have hx4:=(HX0.out.below hb1 HX0.out.lt).below ha2 (Nat.lt_of_lt_of_le HX0.out.lt hb1.size)
 have HX4:=zh hx4
 have HB2:=zh (hb01.trans (ha2.mono hb01.size))
 have HM:=zh (show w.heap.size<w1.heap.size from Nat.lt_of_lt_of_le HX0.out.lt hb1.size)
 have HR2:=zh (HBIN.out.below HB2.out)
 have FIND:=zh (k4s rb base v L (by have:=HLEN.out;omega) (prOf t,(t.length:Int)) _ HR2.out)
 obtain⟨x0,x1,_,_⟩:=hx2
 clear hb1 hb01 ha2 hx4
 go_wp2_with fail
 refine FIND.out.mono ?_
 clear x0 x1
 rintro e w3 ⟨hb3,hcase⟩
 have HX7_3:=zh (HX7.out.below hb3 HX7.out.lt)
 have HX4_3:=zh (HX4.out.below hb3 HX4.out.lt)
 have HB3:=zh (HB2.out.trans (hb3.mono HB2.out.size))
 have HR3:=zh (HR2.out.below hb3)
 clear hb3 HX7 HX4 HB2 HR2 FIND HR0 HB0 HX0
 have hc0:=HR3.out.cell
 obtain⟨A,c,rfl,hr⟩:=j0k HR3.out.own
 have HRD:=zh hr
 obtain⟨x0,x1,f0,f1⟩:=HX4_3.out
 obtain⟨y0,y1,_,_⟩:=HX7_3.out
 clear hr
 rcases hcase with⟨k,hs,rfl⟩|⟨hno,rfl⟩
 ·have HS:=zh hs
  have hk:=hs.1
  obtain⟨g,rfl,hg,hcells⟩:=HRD.out (by omega)
  obtain⟨_,_,c2,c3⟩:=hcells k hk
  have b1:(0:Int)≤(k:Int):=by omega
  have b2:(k:Int)<(L.length:Int):=by omega
  have fz:=HR3.out.own.frozenAt (k*4+2)
  have hus:=(HOK.out.all L[k] (List.getElem_mem hk)).uses
  have hws:IntKind.i64.wrap (L[k].uses+1)=L[k].uses+1:=IntWalk.i64_in _ (by omega)
  have hcmp:((bs L[k].text).toList==(bs t).toList)=decide (L[k].text=t):=by rw[←q0x]
  clear hcells hs
  by_cases ht:L[k].text=t
  ·have hP:=k9k HOK.out.srt HRT.out HS.out ht HBIN.out HB3.out
   have hti:((bs L[k].text).toList==(bs t).toList)=true:=by rw[hcmp];exact decide_eq_true ht
   have hgw:g<w.heap.size:=HBIN.out.own_lt rfl
   have hm:=HM.out
   have hy7:=(HX7_3.out.setF (d:=g) (j:=k*4+2) (by omega) (.int .i64 (L[k].uses+1)))
   have hy4:=(HX4_3.out.setF (d:=g) (j:=k*4+2) (by omega) (.int .i64 (L[k].uses+1)))
   have HY4:=zh hy4
   obtain⟨y0,y1,_,_⟩:=hy7
   obtain⟨x0,x1,f0,f1⟩:=hy4
   obtain⟨z0,z1,_⟩:=HY4.out.rd (.int .u32 ((prOf t:Nat):Int)) (.int .i64 (t.length:Int))
   have HP:=zh hP
   have HWS:=zh hws
   clear hP hcmp ht hus hm
   go_wp2
   refine bodyPost_ret (v:= .tuple #[.agg #[.int .u32 ((prOf t:Nat):Int),.int .i64 (t.length:Int)],.bool false,.int .i64 0]) (by simp[results,Tryz.results92,go_sem,z0,z1]) rfl ?_
   exact HP.out
  ·have hti:((bs L[k].text).toList==(bs t).toList)=false:=by rw[hcmp];exact decide_eq_false ht
   have HP:=zh (k9i (t:=t) (c:=10) HBIN.out (by unfold putB;rw[if_neg (by rw[HRT.out];simp),show getB L (idOf t)=_ from k4v HS.out];exact if_pos ht) HB3.out)
   obtain⟨z0,z1,_⟩:=HX4_3.out.rd (.int .u32 0) (.int .i64 0)
   clear hcmp ht hus hws
   go_wp2
   refine bodyPost_ret (v:= .tuple #[.agg #[.int .u32 0,.int .i64 0],.bool false,.int .i64 10]) (by simp[results,Tryz.results92,go_sem,z0,z1]) rfl ?_
   exact HP.out
 ·have HNO:=zh hno
  clear hno
  by_cases h250:250≤L.length
  ·have h250i:(L.length:Int)≥250:=by omega
   have HP:=zh (k9i (t:=t) (c:=7) HBIN.out (by unfold putB;rw[if_neg (by rw[HRT.out];simp),show getB L (idOf t)=_ from k4w HNO.out];exact if_pos h250) HB3.out)
   obtain⟨z0,z1,_⟩:=HX4_3.out.rd (.int .u32 0) (.int .i64 0)
   go_wp2
   refine bodyPost_ret (v:= .tuple #[.agg #[.int .u32 0,.int .i64 0],.bool false,.int .i64 7]) (by simp[results,Tryz.results92,go_sem,z0,z1]) rfl ?_
   exact HP.out
  ·have h250i:¬(L.length:Int)≥250:=by omega
   go_wp2
   go_loopg [9] L.length (fun gh vi wr=>∃j:Nat,vi= .int .i64 j∧j≤L.length∧gh=L.length-j∧Hid (∀i (hi:i<L.length),i<j→Q2 L[i].id (idOf t)=true)∧Below w3.heap.size w3 wr)
   case atStart=>exact⟨0,rfl,Nat.zero_le _,rfl,zh (fun i _ h=>absurd h (Nat.not_lt_zero _)),zb _ _⟩
   case round=>
    obtain⟨j,rfl,hj,hgm,hless,hB⟩:=hrel
    have HX4r:=zh (HX4_3.out.below hB HX4_3.out.lt)
    have HX7r:=zh (HX7_3.out.below hB HX7_3.out.lt)
    have HBr:=zh (HB3.out.trans (hB.mono HB3.out.size))
    have HRr:=zh (HR3.out.below hB)
    have c0:=HRr.out.cell
    clear x0 x1 f0 f1 y0 y1 hc0
    by_cases hjl:j<L.length
    ·obtain⟨g,rfl,hg,hcells⟩:=HRD.out (by omega)
     obtain⟨c1,c2,_,_⟩:=hcells j hjl
     have Y1:=zh ((hB.cell (p:=⟨g,j*4,none⟩) hg).trans c1)
     have Y2:=zh ((hB.cell (p:=⟨g,j*4+1,none⟩) hg).trans c2)
     have hgr:g<wr.heap.size:=Nat.lt_of_lt_of_le hg hB.size
     have hrbr:rb<wr.heap.size:=HRr.out.lt
     have C0:=zh c0
     have b1:(0:Int)≤(j:Int):=by omega
     have b2:(j:Int)<(L.length:Int):=by omega
     clear c1 c2 hcells
     go_wp2
     have hS0:Below wr.heap.size wr wr.drew:=(zb _ _).drew
     refine kR (fun w'=>Below wr.heap.size wr w') 10 ?_
     refine kT 0 hS0 ?_
     refine kT 1 hS0 ?_
     refine kT 2 hS0 ?_
     refine kS 3 rfl hS0 (fun w' hS=>by have k0:=(hS.cell (p:=⟨rb,0,none⟩) hrbr).trans C0.out;go_simp;rfl) ?_
     refine kT 4 hS0 ?_
     refine kT 5 hS0 ?_
     refine kT 6 hS0 ?_
     refine kS 7 rfl hS0 (fun w' hS=>by have k0:=(hS.cell (p:=⟨g,j*4,none⟩) hgr).trans Y1.out;have k1:=(hS.cell (p:=⟨g,j*4+1,none⟩) hgr).trans Y2.out;go_simp;rfl) ?_
     refine kS 8 rfl hS0 (fun w' hS=>by obtain⟨k0,k1,_,_⟩:=HX7r.out.below hS HX7r.out.lt;go_simp;rfl) ?_
     refine kC 9 (fun K hK=> ?_)
     go_simp
     refine(z0q L[j].id.1 (prOf t) L[j].id.2 (t.length:Int) _).mono ?_
     rintro e w4 ⟨rfl,hb4⟩
     have hS4:Below wr.heap.size wr w4:=hS0.trans hb4
     refine hK _ _ hS4 (kF ?_)
     clear hK K
     try simp only[Act.put,zM]
     simp only[List.drop_succ_cons,List.drop_zero]
     have HB4:=zh (HBr.out.trans (hS4.mono HBr.out.size))
     have HX44:=zh (HX4r.out.below hS4 HX4r.out.lt)
     have HX74:=zh (HX7r.out.below hS4 HX7r.out.lt)
     have HR4:=zh (HRr.out.below hS4)
     have HB34:=zh (hB.trans (hS4.mono hB.size))
     have c04:=HR4.out.cell
     clear hS0 hS4 hb4 hB c0
     cases hlt:C5 L[j].id.1 (prOf t) L[j].id.2 (t.length:Int)with
     | true=>
      have HN2:Hid (∀i (hi:i<L.length),i<j+1→Q2 L[i].id (idOf t)=true):=zh fun i hi h=>by
       rcases Nat.lt_or_ge i j with h1|h1
       ·exact hless.out i hi h1
       ·obtain rfl:i=j:=by omega
        exact hlt
      clear hless hlt
      go_wp2
      go_roundg (L.length-(j+1))
      case measure=>omega
      case rel=>exact⟨j+1,by go_num,hjl,rfl,HN2,HB34.out⟩
     | false=>
      have h2:∀(hk:j<L.length),Q2 L[j].id (idOf t)=false:=fun _=>hlt
      clear hlt
      obtain⟨i0,hi,hz0,hz1,hz2⟩:=info_parts j0d
      have hput:=k9l HOK.out.srt ⟨idOf t,1,t⟩ j hj hless.out h2 HNO.out
      have hrb0:=HR4.out.cell
      have hrl:rb<w4.heap.size:=HR4.out.lt
      have HRC:Hid (RdC w4 w4.heap.size 4 (.slice (some ⟨g,0,none⟩) L.length c) L.length (Q6 L)):=zh (RdC.ownP HR4.out.own)
      have hcap:L.length≤c:=by
       obtain⟨_,_,hv0,_,h1,_⟩:=HRC.out
       injection hv0 with _ _ h3
       omega
      have HT1:Hid (RdC w4 w4.heap.size 4 (.slice (some ⟨g,0,none⟩) j c) j ((Q6 L).take (j*4))):=zh (HRC.out.takeM j hj)
      have HT3:Hid (RdC w4 w4.heap.size 4 (.slice (some ⟨g,j*4,none⟩) (L.length-j) (c-j)) (L.length-j) ((Q6 L).drop (j*4))):=zh (by have h:=HRC.out.cutM j hj;rw[if_neg (by omega),Option.map_some,q0n,Nat.zero_add]at h;exact h)
      have HO1:Hid (∀u∈(Q6 L).take (j*4),u.oneCell'=true):=zh (fun u hu=>j0j L u (List.mem_of_mem_take hu))
      have HO3:Hid (∀u∈(((Q6 L).drop (j*4)):List Value),u.oneCell'=true):=zh (fun u hu=>j0j L u (List.mem_of_mem_drop hu))
      obtain⟨PL,hPL⟩:∃PL,PL=setB ⟨idOf t,1,t⟩ L:=⟨_,rfl⟩
      have hpe:putB t L=(PL,idOf t,true,0):=by
       unfold putB
       rw[if_neg (by rw[HRT.out];simp),show getB L (idOf t)=_ from k4w HNO.out,hPL]
       exact if_neg h250
      have hpl:PL.length=0+j+1+(L.length-j):=by rw[hPL,hput,List.length_append,List.length_take,List.length_cons,List.length_drop];omega
      have HPR:Hid (∀(w7:World) (v7:Value),w7.ownsRow w4.heap.size 150 4 v7 (0+j+1+(L.length-j)) (([]++(Q6 L).take (j*4))++ [.int .u32 ((prOf t:Nat):Int),.int .i64 (t.length:Int),.int .i64 1,.string (bs t)]++((Q6 L).drop (j*4)))→w7.ownsRow w4.heap.size 150 4 v7 PL.length (Q6 PL)):=zh (fun w7 v7 ho=>by
       have hl:Q6 PL=([]++(Q6 L).take (j*4))++ [.int .u32 ((prOf t:Nat):Int),.int .i64 (t.length:Int),.int .i64 1,.string (bs t)]++((Q6 L).drop (j*4)):=by
        rw[hPL,hput,q0l,j0h,j0i]
        show Q6 (L.take j)++(hldC ⟨idOf t,1,t⟩++Q6 (L.drop j))=_
        unfold hldC
        simp[show Q6 []= []from rfl,idOf]
       rw[hpl,hl];exact ho)
      have HP:Hid (∀(w7:World) (v7:Value),w7.ownsRow w4.heap.size 150 4 v7 PL.length (Q6 PL)→Below w4.heap.size w4 w7→q0h rb base (.slice (some ⟨g,0,none⟩) L.length c) L t w (.returned (.tuple #[idV (idOf t),.bool true,.int .i64 0])) (((w7.setCell ⟨rb,0,none⟩ v7).setCell ⟨w.heap.size,0,none⟩ (.int .u32 ((idOf t).1:Int))).setCell ⟨w.heap.size,1,none⟩ (.int .i64 (idOf t).2))):=zh (fun w7 v7 ho hb=>k9m HBIN.out HBASE.out hpe HB4.out (by have:=HX44.out.lt;omega) ho hb)
      have q1:(0:Int)≤(j:Int):=by omega
      have q2:(j:Int)≤(L.length:Int):=by omega
      have q3:(j:Int)≤(c:Int):=by omega
      have hne7:w1.heap.size≠rb:=by have:=HBIN.out.lt;have:=HM.out;omega
      have hne4:w.heap.size≠rb:=by have:=HBIN.out.lt;omega
      clear hput hpl hPL h2 hless hpe
      go_wp2_with(first|(at_builtin;refine Q5 rfl (.tmp 79) (.tmp 85) 91 rfl w4.heap.size 150 i0 (.agg #[.int .u32 0,.int .i64 0,.int .i64 0,.string ByteArray.empty]) 4 40 Tryz.underlying91 hi hz0 hz1 hz2 rfl (by decide) _ 0 [] rfl (World.ownsRow_nil _ _ _ _) w4.heap.size _ j ((Q6 L).take (j*4)) rfl HT1.out HO1.out (by unfold maxLen;omega) (by omega) (zl _) ?_;intro v5 w5 ho5 hg5;have hS5:Below w4.heap.size w4 w5:=Z3 (zb _ _) (zl _) (World.ownsRow_nil w4 w4.heap.size 150 4) hg5;obtain⟨m0,m1,_,_⟩:=HX74.out.below hS5 HX74.out.lt;have c05:=(hS5.cell (p:=⟨rb,0,none⟩) hrl).trans hrb0)|(at_builtin;refine wpList_append_own _ rfl (.tmp 87) (.tmp 91) 91 rfl w4.heap.size 150 i0 (.agg #[.int .u32 0,.int .i64 0,.int .i64 0,.string ByteArray.empty]) 4 40 Tryz.underlying91 hi hz0 hz1 hz2 rfl (by decide) _ _ _ rfl (ho5.alloc _) ⟨w5.heap.size,0,none⟩ 1 1 [.int .u32 ((prOf t:Nat):Int),.int .i64 (t.length:Int),.int .i64 1,.string (bs t)] rfl rfl (j0c _ _ _ _ _ _) (by simp[Value.oneCell']) (by unfold maxLen;omega) (by omega) (by have:=hS5.size;simp;omega) ?_;intro v6 w6 ho6 hg6 _;have hS6:Below w4.heap.size w4 w6:=X5 hS5 hS5.size ho5 hg6;have c06:=(hS6.cell (p:=⟨rb,0,none⟩) hrl).trans hrb0)|(at_builtin;refine Q5 rfl (.tmp 94) (.tmp 100) 91 rfl w4.heap.size 150 i0 (.agg #[.int .u32 0,.int .i64 0,.int .i64 0,.string ByteArray.empty]) 4 40 Tryz.underlying91 hi hz0 hz1 hz2 rfl (by decide) _ _ _ rfl ho6 w4.heap.size _ (L.length-j) ((Q6 L).drop (j*4)) rfl (HT3.out.below hS6) HO3.out (by unfold maxLen;omega) (by omega) hS6.size ?_;intro v7 w7 ho7 hg7;have hS7:Below w4.heap.size w4 w7:=Z3 hS6 hS6.size ho6 hg7;have ho8:=HPR.out w7 v7 ho7;obtain⟨A7,c7,hv7⟩:=J0 ho8;subst hv7;have hrow7:=(hS7.block rb hrl).trans HR4.out.row;have d0:=cell_of_row w7 rb 0 _ _ _ hrow7;have e0:=frozen_of_row w7 rb 0 _ _ hrow7;obtain⟨y0,y1,_,_⟩:=(HX74.out.below hS7 HX74.out.lt).setF (d:=rb) (j:=0) hne7 (.slice A7 PL.length c7);have HY4:=zh ((HX44.out.below hS7 HX44.out.lt).setF (d:=rb) (j:=0) hne4 (.slice A7 PL.length c7));obtain⟨x0,x1,f0,f1⟩:=HY4.out;obtain⟨z0,z1,_⟩:=HY4.out.rd (.int .u32 ((prOf t:Nat):Int)) (.int .i64 (t.length:Int)))|fail)
      refine bodyPost_ret (v:= .tuple #[.agg #[.int .u32 ((prOf t:Nat):Int),.int .i64 (t.length:Int)],.bool true,.int .i64 0]) (by simp[results,Tryz.results92,go_sem,z0,z1]) rfl ?_
      exact HP.out _ _ ho8 hS7
    ·obtain rfl:j=L.length:=by omega
     have h2:∀(hk:L.length<L.length),Q2 L[L.length].id (idOf t)=false:=fun hk=>absurd hk (Nat.lt_irrefl _)
     by_cases hcl:c=L.length
     ·subst hcl
      obtain⟨i0,hi,hz0,hz1,hz2⟩:=info_parts j0d
      have hput:=k9l HOK.out.srt ⟨idOf t,1,t⟩ L.length hj hless.out h2 HNO.out
      have hrb0:=HRr.out.cell
      have hrl:rb<wr.heap.size:=HRr.out.lt
      have HRC:Hid (RdC wr wr.heap.size 4 (.slice A L.length L.length) L.length (Q6 L)):=zh (RdC.ownP HRr.out.own)
      have hcap:L.length≤L.length:=zl _
      have HT1:Hid (RdC wr wr.heap.size 4 (.slice A L.length L.length) L.length ((Q6 L).take (L.length*4))):=zh (HRC.out.takeM L.length hj)
      have HT3:=zh trivial
      have HO1:Hid (∀u∈(Q6 L).take (L.length*4),u.oneCell'=true):=zh (fun u hu=>j0j L u (List.mem_of_mem_take hu))
      have HO3:Hid (∀u∈([]:List Value),u.oneCell'=true):=zh (fun u hu=>absurd hu List.not_mem_nil)
      obtain⟨PL,hPL⟩:∃PL,PL=setB ⟨idOf t,1,t⟩ L:=⟨_,rfl⟩
      have hpe:putB t L=(PL,idOf t,true,0):=by
       unfold putB
       rw[if_neg (by rw[HRT.out];simp),show getB L (idOf t)=_ from k4w HNO.out,hPL]
       exact if_neg h250
      have hpl:PL.length=0+L.length+1+0:=by rw[hPL,hput,List.length_append,List.length_take,List.length_cons,List.length_drop];omega
      have HPR:Hid (∀(w7:World) (v7:Value),w7.ownsRow wr.heap.size 150 4 v7 (0+L.length+1+0) (([]++(Q6 L).take (L.length*4))++ [.int .u32 ((prOf t:Nat):Int),.int .i64 (t.length:Int),.int .i64 1,.string (bs t)]++ [])→w7.ownsRow wr.heap.size 150 4 v7 PL.length (Q6 PL)):=zh (fun w7 v7 ho=>by
       have hl:Q6 PL=([]++(Q6 L).take (L.length*4))++ [.int .u32 ((prOf t:Nat):Int),.int .i64 (t.length:Int),.int .i64 1,.string (bs t)]++ []:=by
        rw[hPL,hput,q0l,j0h,List.drop_of_length_le (zl _)]
        show Q6 (L.take L.length)++(hldC ⟨idOf t,1,t⟩++Q6 [])=_
        unfold hldC
        simp[show Q6 []= []from rfl,idOf]
       rw[hpl,hl];exact ho)
      have HP:Hid (∀(w7:World) (v7:Value),w7.ownsRow wr.heap.size 150 4 v7 PL.length (Q6 PL)→Below wr.heap.size wr w7→q0h rb base (.slice A L.length L.length) L t w (.returned (.tuple #[idV (idOf t),.bool true,.int .i64 0])) (((w7.setCell ⟨rb,0,none⟩ v7).setCell ⟨w.heap.size,0,none⟩ (.int .u32 ((idOf t).1:Int))).setCell ⟨w.heap.size,1,none⟩ (.int .i64 (idOf t).2))):=zh (fun w7 v7 ho hb=>k9m HBIN.out HBASE.out hpe HBr.out (by have:=HX4r.out.lt;omega) ho hb)
      have q1:(0:Int)≤(L.length:Int):=by omega
      have q2:(L.length:Int)≤(L.length:Int):=by omega
      have q3:(L.length:Int)≤(L.length:Int):=by omega
      have hne7:w1.heap.size≠rb:=by have:=HBIN.out.lt;have:=HM.out;omega
      have hne4:w.heap.size≠rb:=by have:=HBIN.out.lt;omega
      clear hput hpl hPL h2 hless hpe
      go_wp2_with(first|(at_builtin;refine Q5 rfl (.tmp 79) (.tmp 85) 91 rfl wr.heap.size 150 i0 (.agg #[.int .u32 0,.int .i64 0,.int .i64 0,.string ByteArray.empty]) 4 40 Tryz.underlying91 hi hz0 hz1 hz2 rfl (by decide) _ 0 [] rfl (World.ownsRow_nil _ _ _ _) wr.heap.size _ L.length ((Q6 L).take (L.length*4)) rfl HT1.out HO1.out (by unfold maxLen;omega) (by omega) (zl _) ?_;intro v5 w5 ho5 hg5;have hS5:Below wr.heap.size wr w5:=Z3 (zb _ _) (zl _) (World.ownsRow_nil wr wr.heap.size 150 4) hg5;obtain⟨m0,m1,_,_⟩:=HX7r.out.below hS5 HX7r.out.lt;have c05:=(hS5.cell (p:=⟨rb,0,none⟩) hrl).trans hrb0)|(at_builtin;refine wpList_append_own _ rfl (.tmp 87) (.tmp 91) 91 rfl wr.heap.size 150 i0 (.agg #[.int .u32 0,.int .i64 0,.int .i64 0,.string ByteArray.empty]) 4 40 Tryz.underlying91 hi hz0 hz1 hz2 rfl (by decide) _ _ _ rfl (ho5.alloc _) ⟨w5.heap.size,0,none⟩ 1 1 [.int .u32 ((prOf t:Nat):Int),.int .i64 (t.length:Int),.int .i64 1,.string (bs t)] rfl rfl (j0c _ _ _ _ _ _) (by simp[Value.oneCell']) (by unfold maxLen;omega) (by omega) (by have:=hS5.size;simp;omega) ?_;intro v6 w6 ho6 hg6 _;have hS6:Below wr.heap.size wr w6:=X5 hS5 hS5.size ho5 hg6;have c06:=(hS6.cell (p:=⟨rb,0,none⟩) hrl).trans hrb0)|(at_builtin;refine Q5 rfl (.tmp 94) (.tmp 100) 91 rfl wr.heap.size 150 i0 (.agg #[.int .u32 0,.int .i64 0,.int .i64 0,.string ByteArray.empty]) 4 40 Tryz.underlying91 hi hz0 hz1 hz2 rfl (by decide) _ _ _ rfl ho6 wr.heap.size _ 0 [] rfl (RdC.nilP _ _ _ _ _) HO3.out (by unfold maxLen;omega) (by omega) hS6.size ?_;intro v7 w7 ho7 hg7;have hS7:Below wr.heap.size wr w7:=Z3 hS6 hS6.size ho6 hg7;have ho8:=HPR.out w7 v7 ho7;obtain⟨A7,c7,hv7⟩:=J0 ho8;subst hv7;have hrow7:=(hS7.block rb hrl).trans HRr.out.row;have d0:=cell_of_row w7 rb 0 _ _ _ hrow7;have e0:=frozen_of_row w7 rb 0 _ _ hrow7;obtain⟨y0,y1,_,_⟩:=(HX7r.out.below hS7 HX7r.out.lt).setF (d:=rb) (j:=0) hne7 (.slice A7 PL.length c7);have HY4:=zh ((HX4r.out.below hS7 HX4r.out.lt).setF (d:=rb) (j:=0) hne4 (.slice A7 PL.length c7));obtain⟨x0,x1,f0,f1⟩:=HY4.out;obtain⟨z0,z1,_⟩:=HY4.out.rd (.int .u32 ((prOf t:Nat):Int)) (.int .i64 (t.length:Int)))|fail)
      refine bodyPost_ret (v:= .tuple #[.agg #[.int .u32 ((prOf t:Nat):Int),.int .i64 (t.length:Int)],.bool true,.int .i64 0]) (by simp[results,Tryz.results92,go_sem,z0,z1]) rfl ?_
      exact HP.out _ _ ho8 hS7
     ·have hcl2:¬L.length=c:=fun h=>hcl h.symm
      obtain⟨i0,hi,hz0,hz1,hz2⟩:=info_parts j0d
      have hput:=k9l HOK.out.srt ⟨idOf t,1,t⟩ L.length hj hless.out h2 HNO.out
      have hrb0:=HRr.out.cell
      have hrl:rb<wr.heap.size:=HRr.out.lt
      have HRC:Hid (RdC wr wr.heap.size 4 (.slice A L.length c) L.length (Q6 L)):=zh (RdC.ownP HRr.out.own)
      have hcap:L.length≤c:=by
       obtain⟨_,_,hv0,_,h1,_⟩:=HRC.out
       injection hv0 with _ _ h3
       omega
      have HT1:Hid (RdC wr wr.heap.size 4 (.slice A L.length c) L.length ((Q6 L).take (L.length*4))):=zh (HRC.out.takeM L.length hj)
      have HT3:=zh trivial
      have HO1:Hid (∀u∈(Q6 L).take (L.length*4),u.oneCell'=true):=zh (fun u hu=>j0j L u (List.mem_of_mem_take hu))
      have HO3:Hid (∀u∈([]:List Value),u.oneCell'=true):=zh (fun u hu=>absurd hu List.not_mem_nil)
      obtain⟨PL,hPL⟩:∃PL,PL=setB ⟨idOf t,1,t⟩ L:=⟨_,rfl⟩
      have hpe:putB t L=(PL,idOf t,true,0):=by
       unfold putB
       rw[if_neg (by rw[HRT.out];simp),show getB L (idOf t)=_ from k4w HNO.out,hPL]
       exact if_neg h250
      have hpl:PL.length=0+L.length+1+0:=by rw[hPL,hput,List.length_append,List.length_take,List.length_cons,List.length_drop];omega
      have HPR:Hid (∀(w7:World) (v7:Value),w7.ownsRow wr.heap.size 150 4 v7 (0+L.length+1+0) (([]++(Q6 L).take (L.length*4))++ [.int .u32 ((prOf t:Nat):Int),.int .i64 (t.length:Int),.int .i64 1,.string (bs t)]++ [])→w7.ownsRow wr.heap.size 150 4 v7 PL.length (Q6 PL)):=zh (fun w7 v7 ho=>by
       have hl:Q6 PL=([]++(Q6 L).take (L.length*4))++ [.int .u32 ((prOf t:Nat):Int),.int .i64 (t.length:Int),.int .i64 1,.string (bs t)]++ []:=by
        rw[hPL,hput,q0l,j0h,List.drop_of_length_le (zl _)]
        show Q6 (L.take L.length)++(hldC ⟨idOf t,1,t⟩++Q6 [])=_
        unfold hldC
        simp[show Q6 []= []from rfl,idOf]
       rw[hpl,hl];exact ho)
      have HP:Hid (∀(w7:World) (v7:Value),w7.ownsRow wr.heap.size 150 4 v7 PL.length (Q6 PL)→Below wr.heap.size wr w7→q0h rb base (.slice A L.length c) L t w (.returned (.tuple #[idV (idOf t),.bool true,.int .i64 0])) (((w7.setCell ⟨rb,0,none⟩ v7).setCell ⟨w.heap.size,0,none⟩ (.int .u32 ((idOf t).1:Int))).setCell ⟨w.heap.size,1,none⟩ (.int .i64 (idOf t).2))):=zh (fun w7 v7 ho hb=>k9m HBIN.out HBASE.out hpe HBr.out (by have:=HX4r.out.lt;omega) ho hb)
      have q1:(0:Int)≤(L.length:Int):=by omega
      have q2:(L.length:Int)≤(L.length:Int):=by omega
      have q3:(L.length:Int)≤(c:Int):=by omega
      have hne7:w1.heap.size≠rb:=by have:=HBIN.out.lt;have:=HM.out;omega
      have hne4:w.heap.size≠rb:=by have:=HBIN.out.lt;omega
      clear hput hpl hPL h2 hless hpe
      go_wp2_with(first|(at_builtin;refine Q5 rfl (.tmp 79) (.tmp 85) 91 rfl wr.heap.size 150 i0 (.agg #[.int .u32 0,.int .i64 0,.int .i64 0,.string ByteArray.empty]) 4 40 Tryz.underlying91 hi hz0 hz1 hz2 rfl (by decide) _ 0 [] rfl (World.ownsRow_nil _ _ _ _) wr.heap.size _ L.length ((Q6 L).take (L.length*4)) rfl HT1.out HO1.out (by unfold maxLen;omega) (by omega) (zl _) ?_;intro v5 w5 ho5 hg5;have hS5:Below wr.heap.size wr w5:=Z3 (zb _ _) (zl _) (World.ownsRow_nil wr wr.heap.size 150 4) hg5;obtain⟨m0,m1,_,_⟩:=HX7r.out.below hS5 HX7r.out.lt;have c05:=(hS5.cell (p:=⟨rb,0,none⟩) hrl).trans hrb0)|(at_builtin;refine wpList_append_own _ rfl (.tmp 87) (.tmp 91) 91 rfl wr.heap.size 150 i0 (.agg #[.int .u32 0,.int .i64 0,.int .i64 0,.string ByteArray.empty]) 4 40 Tryz.underlying91 hi hz0 hz1 hz2 rfl (by decide) _ _ _ rfl (ho5.alloc _) ⟨w5.heap.size,0,none⟩ 1 1 [.int .u32 ((prOf t:Nat):Int),.int .i64 (t.length:Int),.int .i64 1,.string (bs t)] rfl rfl (j0c _ _ _ _ _ _) (by simp[Value.oneCell']) (by unfold maxLen;omega) (by omega) (by have:=hS5.size;simp;omega) ?_;intro v6 w6 ho6 hg6 _;have hS6:Below wr.heap.size wr w6:=X5 hS5 hS5.size ho5 hg6;have c06:=(hS6.cell (p:=⟨rb,0,none⟩) hrl).trans hrb0)|(at_builtin;refine Q5 rfl (.tmp 94) (.tmp 100) 91 rfl wr.heap.size 150 i0 (.agg #[.int .u32 0,.int .i64 0,.int .i64 0,.string ByteArray.empty]) 4 40 Tryz.underlying91 hi hz0 hz1 hz2 rfl (by decide) _ _ _ rfl ho6 wr.heap.size _ 0 [] rfl (RdC.nilP _ _ _ _ _) HO3.out (by unfold maxLen;omega) (by omega) hS6.size ?_;intro v7 w7 ho7 hg7;have hS7:Below wr.heap.size wr w7:=Z3 hS6 hS6.size ho6 hg7;have ho8:=HPR.out w7 v7 ho7;obtain⟨A7,c7,hv7⟩:=J0 ho8;subst hv7;have hrow7:=(hS7.block rb hrl).trans HRr.out.row;have d0:=cell_of_row w7 rb 0 _ _ _ hrow7;have e0:=frozen_of_row w7 rb 0 _ _ hrow7;obtain⟨y0,y1,_,_⟩:=(HX7r.out.below hS7 HX7r.out.lt).setF (d:=rb) (j:=0) hne7 (.slice A7 PL.length c7);have HY4:=zh ((HX4r.out.below hS7 HX4r.out.lt).setF (d:=rb) (j:=0) hne4 (.slice A7 PL.length c7));obtain⟨x0,x1,f0,f1⟩:=HY4.out;obtain⟨z0,z1,_⟩:=HY4.out.rd (.int .u32 ((prOf t:Nat):Int)) (.int .i64 (t.length:Int)))|fail)
      refine bodyPost_ret (v:= .tuple #[.agg #[.int .u32 ((prOf t:Nat):Int),.int .i64 (t.length:Int)],.bool true,.int .i64 0]) (by simp[results,Tryz.results92,go_sem,z0,z1]) rfl ?_
      exact HP.out _ _ ho8 hS7
theorem k9p(rb base:Nat)(v:Value)(L:HldL)(n:Int)(hn:n≤4611686018427387904)(hL:BinOk n L)(hl:L.length≤1000000)(t:Bytes)(w:World)(hbase:base≤w.heap.size)(h:RBin rb base v L w) :
  Calls Tryz.prog 92 #[.pointer (some ⟨rb,0,none⟩),VT t] w (q0h rb base v L t w):=by
 cases hr:q0m t with
 | false=>exact k9n rb base v L n hn hL hl t hr w hbase h
 | true=>exact k9o rb base v L n hn hL hl t hr w hbase h
end Go.Proofs.YtdmlghfggninbaaGreatDoor
