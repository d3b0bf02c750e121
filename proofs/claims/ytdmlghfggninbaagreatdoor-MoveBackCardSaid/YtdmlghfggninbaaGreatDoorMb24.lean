/- RcB, RrM, RcA in one text. Conditions: as each part says. -/
import Derived.Test.YtdmlghfggninbaaGreatDoorMb10
import Derived.Test.YtdmlghfggninbaaGreatDoorMb31
import Derived.Test.YtdmlghfggninbaaGreatDoorMb27
import Derived.OwnWalk
import Derived.Test.YtdmlghfggninbaaGreatDoorMb12
set_option linter.unusedVariables false
set_option linter.unusedSimpArgs false
set_option maxHeartbeats 2000000
set_option maxRecDepth 100000
namespace Go.Proofs.YtdmlghfggninbaaGreatDoor
open Go.RowKit Go.Lib
theorem j7c(n s:ByteArray)(hn:n.size≤maxLen)(hN:J7 n.data.toList=true)(hs:s.size≤4000)(w:World) :
  Calls Tryz.prog 85 #[.string n,.string s] w fun e w'=>∃v,e= .returned (.tuple #[v,.nilIface])∧RcpW w' w.heap.size w'.heap.size v (Q7 n.data.toList s.data.toList)∧Below w.heap.size w w':=by
 obtain⟨i0,hi,hz0,hz1,hz2⟩:=info_parts z8t
 have b1:¬(s.size:Int)>4000:=by omega
 have HL:Hid ((pieces s.data.toList).length≤4000):=zh (by have:=B2 s.data.toList;have:=Z4 s;omega)
 have HS:=zh (Z4 s)
 have HNN:=zh hN
 clear hN
 go_enter Tryz.func85,Tryz.ntmps85
 go_wp2_with fail
 refine(q3c n hn _).mono ?_
 rintro e w1 ⟨rfl,hb1⟩
 rw[HNN.out]
 go_wp2_with fail
 refine(q2b s _ (by unfold maxLen;omega)).mono ?_
 rintro e w2 ⟨rfl,rfl⟩
 go_wp2_with fail
 refine(q6l s (by omega) _).mono ?_
 rintro e w3 ⟨v1,rfl,ho1,hb3⟩
 have hwr:Box4 w.heap.size (.string ⟨#[]⟩) (.int .i64 0) (.int .u32 0) (.slice none 0 0) (w.alloc (.cells #[.string ⟨#[]⟩,.int .i64 0,.int .u32 0,.slice none 0 0] 40)):=Box4.mk' _ _ _ _ _ _
 have hres1:=hwr.below hb1 (by simp)
 have hbx2:Box4 w1.heap.size (.string n) (.int .i64 (s.size:Int)) (.int .u32 ((prOf s.data.toList:Nat):Int)) (.slice none 0 0) (w1.alloc (.cells #[.string n,.int .i64 (s.size:Int),.int .u32 ((prOf s.data.toList:Nat):Int),.slice none 0 0] 40)):=Box4.mk' _ _ _ _ _ _
 have hb13:Below w1.heap.size w1 w3:=((zb w1.heap.size w1).alloc (zl _) _).trans (hb3.mono (by simp))
 have hrx3:=hbx2.below hb3 (by simp)
 have hres3:=hres1.below hb13 hres1.lt
 have hb03:Below w.heap.size w w3:=(((zb _ w).alloc (zl _) _).trans (hb1.mono (by simp))).trans (hb13.mono (Nat.le_of_lt hres1.lt))
 have hlt1:w.heap.size<w1.heap.size:=hres1.lt
 have hne:w.heap.size≠w1.heap.size:=Nat.ne_of_lt hlt1
 have hlt3:=hrx3.lt
 obtain⟨A1,c1,rfl,hc1,hrd⟩:=V7 ho1
 have HRD:=zh hrd
 have HBB:=zh hb03
 have HRES:=zh hres3
 generalize hps:pieces s.data.toList=ps at *
 have hl:=HL.out
 clear hrd hwr hres1 hbx2 hb13 ho1 hb3 hb1 hb03 hres3
 go_wp2
 go_loopg [30] ps.length (fun gh vi wr=>∃(k:Nat) (vs:Value),vi= .int .i64 k∧k≤ps.length∧gh=ps.length-k∧wr.ownsRow w3.heap.size 25 2 vs k (U4 ((ps.take k).map idOf))∧w3.grownBy wr (some w1.heap.size)∧Box4 w1.heap.size (.string n) (.int .i64 (s.size:Int)) (.int .u32 ((prOf s.data.toList:Nat):Int)) vs wr)
 case atStart=>exact⟨0,_,rfl,Nat.zero_le _,rfl,World.ownsRow_nil _ _ _ _,⟨rfl,rfl,rfl,zl _,fun _ _ _=>rfl⟩,hrx3⟩
 case round=>
  obtain⟨k,vs,rfl,hk,hgm,hrow,hg,hbx⟩:=hrel
  obtain⟨A,c,rfl⟩:=J0 hrow
  by_cases hkl:k<ps.length
  ·obtain⟨g,rfl,hg1,hg2,hcell⟩:=HRD.out (by omega)
   have hgne:some g≠some w1.heap.size:=by intro e;injection e with e;simp at hg1;omega
   have hd1:w3.cell? ⟨g,k,none⟩=some (.string (bs ps[k])):=hcell k _ (by simp[hkl])
   have d1:wr.cell? ⟨g,k,none⟩=some (.string (bs ps[k])):=(hg.cell_far ⟨g,k,none⟩ hg2 hgne).trans hd1
   have b1:(0:Int)≤(k:Int):=by omega
   have b2:(k:Int)<(ps.length:Int):=by omega
   have HT:=zh (j0l hkl)
   have hpz:(bs ps[k]).size≤4000:=by
    rw[Q8]
    have hm:ps[k]∈pieces s.data.toList:=by rw[hps];exact List.getElem_mem hkl
    have:=W9 _ _ hm
    omega
   have HBT:=zh (Q3 ps[k])
   have HBZ:=zh (Q8 ps[k])
   have HBX:=zh hbx
   have HROW:=zh hrow
   have HG:=zh hg
   clear hd1 hcell hbx hrow hg
   go_wp2
   have hS0:Below wr.heap.size wr wr.drew:=(zb _ _).drew
   refine kR (fun w'=>Below wr.heap.size wr w') 5 ?_
   refine kT 0 hS0 ?_
   refine kS 1 rfl hS0 (fun w' hS=>by have A3:=(HBX.out.below hS HBX.out.lt).c3;go_simp;rfl) ?_
   refine kT 2 hS0 ?_
   refine kC 3 (fun K hK=> ?_)
   go_simp
   refine(q7e (bs ps[k]) _ (by unfold maxLen;omega)).mono ?_
   rintro e w4 ⟨rfl,hb4⟩
   have hS4:Below wr.heap.size wr w4:=hS0.trans hb4
   rw[HBT.out,HBZ.out]
   refine hK _ _ hS4 ?_
   clear hK K
   try simp only[Act.put,zM]
   refine kC 4 (fun K hK=> ?_)
   go_simp
   have hS5:=hS4.alloc hS4.size (.cells #[.int .u32 ((prOf ps[k]:Nat):Int),.int .i64 (ps[k].length:Int)] 25)
   refine hK _ _ hS5 (kF ?_)
   clear hK K
   try simp only[Act.put,zM]
   simp only[List.drop_succ_cons,List.drop_zero]
   have hS5':=HBX.out.below hS5 HBX.out.lt
   have ho5:=Q4 HROW.out hS5
   have HBX5:=zh hS5'
   have hG5:=z8u HG.out hS5
   generalize hw5:w4.alloc (.cells #[.int .u32 ((prOf ps[k]:Nat):Int),.int .i64 (ps[k].length:Int)] 25)=w5 at *
   go_wp2_with(at_builtin;refine wpList_append_own _ rfl _ _ 38 rfl w3.heap.size 25 i0 (.agg #[.int .u32 0,.int .i64 0]) 2 16 Tryz.underlying38 hi hz0 hz1 hz2 rfl (by decide) _ _ _ rfl ho5 ⟨w4.heap.size,0,none⟩ 1 1 [.int .u32 ((prOf ps[k]:Nat):Int),.int .i64 (ps[k].length:Int)] rfl rfl (by rw[←hw5];exact z8s w4 _ _ _) (by simp[Value.oneCell']) (by unfold maxLen;omega) (by omega) (by have:=hG5.size;omega) ?_;intro v6 w6 ho6 hg6 _;obtain⟨A6,c6,rfl⟩:=J0 ho6;have HBX6:=zh (z8z hg6 (z9a ho5 hlt3) HBX5.out);have c36:=HBX6.out.c3;have f36:=HBX6.out.f 3)
   go_roundg (ps.length-(k+1))
   case measure=>omega
   case rel=>exact⟨k+1,_,by go_num,hkl,rfl,z9b (by rw[HT.out];exact ho6) hlt3,z8w (z8x hG5 (zl _) ho5 hg6) _ _,HBX6.out.set3 _⟩
  ·obtain rfl:k=ps.length:=by omega
   have hres:=z8z hg (by intro e;injection e with e;exact hne e) HRES.out
   have HRESR:=zh hres
   obtain⟨r0,r1,r2,r3,rf⟩:=hres
   obtain⟨c0,c1x,c2,c3,_⟩:=hbx
   have f0:=rf 0
   have f1:=rf 1
   have f2:=rf 2
   have f3:=rf 3
   obtain⟨d0,d1,d2,d3,_⟩:=HRESR.out.set (.string n) (.int .i64 (s.size:Int)) (.int .u32 ((prOf s.data.toList:Nat):Int)) (.slice A ps.length c)
   have hgb:=C4 HBB.out (by omega) (by omega) hg
   have HP:Hid (RcpW ((((wr.setCell ⟨w.heap.size,0,none⟩ (.string n)).setCell ⟨w.heap.size,1,none⟩ (.int .i64 (s.size:Int))).setCell ⟨w.heap.size,2,none⟩ (.int .u32 ((prOf s.data.toList:Nat):Int))).setCell ⟨w.heap.size,3,none⟩ (.slice A ps.length c)) w.heap.size ((((wr.setCell ⟨w.heap.size,0,none⟩ (.string n)).setCell ⟨w.heap.size,1,none⟩ (.int .i64 (s.size:Int))).setCell ⟨w.heap.size,2,none⟩ (.int .u32 ((prOf s.data.toList:Nat):Int))).setCell ⟨w.heap.size,3,none⟩ (.slice A ps.length c)).heap.size
     (.agg #[.string n,.int .i64 (s.size:Int),.int .u32 ((prOf s.data.toList:Nat):Int),.slice A ps.length c]) (Q7 n.data.toList s.data.toList)):=zh (by
    rw[List.take_of_length_le (zl _)]at hrow
    have e1:(Q7 n.data.toList s.data.toList).ids=ps.map idOf:=by show V8 _=_;unfold V8;rw[hps]
    refine⟨_,?_,by rw[e1];exact(RdB.own (z9d hrow HRES.out.lt _ _ _ _) (by rw[List.length_map])).wide (by omega) (zl _)⟩
    rw[show VT (Q7 n.data.toList s.data.toList).name= .string n by show Value.string (bs n.data.toList)=_;rw[q0s]]
    rw[show(Q7 n.data.toList s.data.toList).len=(s.size:Int) by rw[HS.out];rfl]
    rfl)
   have HB9:=zh (Z7 hgb (zl _) (.string n) (.int .i64 (s.size:Int)) (.int .u32 ((prOf s.data.toList:Nat):Int)) (.slice A ps.length c))
   clear rf hrow hgb hg
   go_wp2
   refine bodyPost_ret (v:= .tuple #[.agg #[.string n,.int .i64 (s.size:Int),.int .u32 ((prOf s.data.toList:Nat):Int),.slice A ps.length c],.nilIface]) (by simp[results,Tryz.results85,go_sem,d0,d1,d2,d3]) rfl ?_
   exact⟨_,rfl,HP.out,HB9.out⟩
theorem j7d(a:Nat→Addr)(n s:ByteArray)(hn:n.size≤maxLen)(w:World)(hs:SomeS [1,3] a w) :
  Calls Tryz.prog 85 #[.string n,.string s] w fun e w'=>∃v r,e= .returned (.tuple #[v,r])∧ES a r (M8 n.data.toList s.data.toList).1∧RcpW w' w.heap.size w'.heap.size v (M8 n.data.toList s.data.toList).2∧Below w.heap.size w w':=by
 have hz:=Z4 s
 have hb0:Below w.heap.size w (w.alloc (.cells #[.string ⟨#[]⟩,.int .i64 0,.int .u32 0,.slice none 0 0] 40)):=(zb _ w).alloc (zl _) _
 have hwr:Box4 w.heap.size (.string ⟨#[]⟩) (.int .i64 0) (.int .u32 0) (.slice none 0 0) (w.alloc (.cells #[.string ⟨#[]⟩,.int .i64 0,.int .u32 0,.slice none 0 0] 40)):=Box4.mk' _ _ _ _ _ _
 have hs0:=hs.below hb0
 have HB0:=zh hb0
 have HWR:=zh hwr
 have HS0:=zh hs0
 have hg1:5<w.heap.size:=World.block_lt_of_cell? w _ (hs 1 (by simp))
 have hg3:6<w.heap.size:=World.block_lt_of_cell? w _ (hs 3 (by simp))
 clear hb0 hwr hs0 hs
 cases hN:J7 n.data.toList with
 | false=>
  have HE:Hid (M8 n.data.toList s.data.toList=(4,R8)):=zh (if_pos hN)
  have HN:=zh hN
  clear hN hz
  go_enter Tryz.func85,Tryz.ntmps85
  go_wp2_with fail
  refine(q3c n hn _).mono ?_
  rintro e w1 ⟨rfl,hb1⟩
  rw[HN.out]
  have hbr:=HWR.out.below hb1 HWR.out.lt
  have HBR:=zh hbr
  obtain⟨c0,c1,c2,c3,hf⟩:=hbr
  have f0:=hf 0
  have f1:=hf 1
  have f2:=hf 2
  have f3:=hf 3
  have hs3:w1.cell? ⟨6,0,none⟩=some (sval a 3):=(HS0.out.below hb1) 3 (by simp)
  unfold sval at hs3
  obtain⟨d0,d1,d2,d3,_⟩:=HBR.out.set (.string ⟨#[]⟩) (.int .i64 0) (.int .u32 0) (.slice none 0 0)
  have hne:¬(6=w.heap.size):=by omega
  have HB9:=zh (Z7 (HB0.out.trans (hb1.mono HB0.out.size)) (zl _) (.string ⟨#[]⟩) (.int .i64 0) (.int .u32 0) (.slice none 0 0)).drew
  clear hf hb1
  go_wp2
  go_region
  go_wp2
  refine bodyPost_ret (v:= .tuple #[R9,.iface 376 (.pointer (some (a 3)))]) (by simp[results,Tryz.results85,go_sem,d0,d1,d2,d3,R9]) rfl ?_
  exact⟨R9,_,rfl,by rw[HE.out];exact ES.sent a 3 (by decide),by rw[HE.out];exact RcpW.zero _ _ _,HB9.out⟩
 | true=>
  by_cases h4:s.size≤4000
  ·have e1:M8 n.data.toList s.data.toList=(0,Q7 n.data.toList s.data.toList):=by unfold M8;rw[if_neg (by rw[hN];simp),if_neg (by omega)]
   rw[e1]
   exact(j7c n s hn hN h4 w).mono fun e w' ⟨v,he,hv,hb⟩=>⟨v,_,he,ES.none a,hv,hb⟩
  ·have h4i:(s.size:Int)>4000:=by omega
   have HE:Hid (M8 n.data.toList s.data.toList=(2,R8)):=zh (by unfold M8;rw[if_neg (by rw[hN];simp),if_pos (by omega)])
   have HN:=zh hN
   clear hN hz h4
   go_enter Tryz.func85,Tryz.ntmps85
   go_wp2_with fail
   refine(q3c n hn _).mono ?_
   rintro e w1 ⟨rfl,hb1⟩
   rw[HN.out]
   have hbr:=HWR.out.below hb1 HWR.out.lt
   have HBR:=zh hbr
   obtain⟨c0,c1,c2,c3,hf⟩:=hbr
   have f0:=hf 0
   have f1:=hf 1
   have f2:=hf 2
   have f3:=hf 3
   have hs3:w1.cell? ⟨5,0,none⟩=some (sval a 1):=(HS0.out.below hb1) 1 (by simp)
   unfold sval at hs3
   obtain⟨d0,d1,d2,d3,_⟩:=HBR.out.set (.string ⟨#[]⟩) (.int .i64 0) (.int .u32 0) (.slice none 0 0)
   have hne:¬(5=w.heap.size):=by omega
   have HB9:=zh (Z7 (HB0.out.trans (hb1.mono HB0.out.size)) (zl _) (.string ⟨#[]⟩) (.int .i64 0) (.int .u32 0) (.slice none 0 0)).drew
   clear hf hb1
   go_wp2
   go_region
   go_wp2
   refine bodyPost_ret (v:= .tuple #[R9,.iface 376 (.pointer (some (a 1)))]) (by simp[results,Tryz.results85,go_sem,d0,d1,d2,d3,R9]) rfl ?_
   exact⟨R9,_,rfl,by rw[HE.out];exact ES.sent a 1 (by decide),by rw[HE.out];exact RcpW.zero _ _ _,HB9.out⟩
theorem j7e(v:Value)(r:Rcp)(hc:r.ids.length≤1000000)(w:World)(hv:RcpV w w.heap.size v r) :
  Calls Tryz.prog 73 #[v] w fun e w'=>e= .returned (idV (Z8 r.ids))∧Below w.heap.size w w':=by
 obtain⟨sl,rfl,hrd⟩:=hv
 have hb0:Below w.heap.size w ((w.alloc (.cells #[VT r.name,.int .i64 r.len,.int .u32 (r.print:Int),sl] 40)).alloc (.cells #[.int .u32 0,.int .i64 0] 25)):=((zb _ w).alloc (zl _) _).alloc (by simp) _
 have hbx:Box4 w.heap.size (VT r.name) (.int .i64 r.len) (.int .u32 (r.print:Int)) sl ((w.alloc (.cells #[VT r.name,.int .i64 r.len,.int .u32 (r.print:Int),sl] 40)).alloc (.cells #[.int .u32 0,.int .i64 0] 25)):=(Box4.mk' w _ _ _ _ _).below ((zb (w.alloc _).heap.size (w.alloc _)).alloc (zl _) _) (by simp)
 have hbr:Box2 (w.heap.size+1) (.int .u32 0) (.int .i64 0) ((w.alloc (.cells #[VT r.name,.int .i64 r.len,.int .u32 (r.print:Int),sl] 40)).alloc (.cells #[.int .u32 0,.int .i64 0] 25)):=by
  have:=Box2.mk' (w.alloc (.cells #[VT r.name,.int .i64 r.len,.int .u32 (r.print:Int),sl] 40)) (.int .u32 0) (.int .i64 0) 25
  simpa using this
 have hrd0:=(hrd.keep hb0 (zl _))
 obtain⟨A,c,rfl,hcap,_⟩:=hrd.form
 have HB0:=zh hb0
 have HBR:=zh hbr
 have HBX:=zh hbx
 obtain⟨_,_,hv1,_,hcells⟩:=hrd0.form
 injection hv1 with e1 e2 e3
 subst e1
 have HC:=zh hcells
 obtain⟨c0,c1,c2,c3,_⟩:=hbx
 have ID0:∀w,Calls Tryz.prog 17 #[.string ⟨#[]⟩] w fun e w'=>e= .returned (idV (idOf []))∧Below w.heap.size w w':=fun w=>q7p ⟨#[]⟩ w (by decide)
 have HID:=zh ID0
 have hsz0:((w.alloc (.cells #[VT r.name,.int .i64 r.len,.int .u32 (r.print:Int),.slice A r.ids.length c] 40)).alloc (.cells #[.int .u32 0,.int .i64 0] 25)).heap.size=w.heap.size+2:=by simp
 clear hb0 hbr hrd hrd0 ID0 hcells e2 e3
 by_cases hz:r.ids= []
 ·have HR:Hid (Z8 r.ids=idOf []):=zh (by rw[hz];rfl)
  have hl:r.ids.length=0:=by rw[hz];rfl
  have hli:((r.ids.length:Int)==0)=true:=by rw[hl];rfl
  clear hz hl hsz0
  go_enter Tryz.func73,Tryz.ntmps73
  go_wp2_with fail
  refine(HID.out _).mono ?_
  rintro e w1 ⟨rfl,hb1⟩
  have hbr1:=HBR.out.below hb1 HBR.out.lt
  have HBR1:=zh hbr1
  obtain⟨r0,r1,f0,f1⟩:=hbr1
  obtain⟨t0,t1,t2⟩:=HBR1.out.rd (.int .u32 ((idOf []).1:Int)) (.int .i64 (idOf []).2)
  have HB9:=zh (q0c (HB0.out.trans (hb1.mono HB0.out.size)) (Nat.le_succ _) (.int .u32 ((idOf []).1:Int)) (.int .i64 (idOf []).2))
  clear hb1
  go_wp2
  refine bodyPost_ret (v:=idV (idOf [])) (by simp[results,Tryz.results73,go_sem,t0,t1]) rfl ?_
  exact⟨by rw[HR.out],HB9.out⟩
 ·have hl:0<r.ids.length:=List.length_pos_iff.2 hz
  have hli:((r.ids.length:Int)==0)=false:=by rw[beq_eq_false_iff_ne];omega
  obtain⟨g,o,rfl,hg,hx⟩:=HC.out hl
  obtain⟨x0,x1⟩:=hx 0 hl
  simp only[Nat.zero_mul,Nat.add_zero]at x0 x1
  have h0j:0<(r.ids.length:Int):=by omega
  have HREP:Hid (Z8 r.ids=M6 r.ids[0] (r.ids.drop 1)):=zh (by
   conv=>lhs;rw[←List.drop_zero (l:=r.ids),List.drop_eq_getElem_cons hl]
   rfl)
  have HX:=zh hx
  clear hz hx
  go_enter Tryz.func73,Tryz.ntmps73
  go_wp2
  generalize(w.alloc (.cells #[VT r.name,.int .i64 r.len,.int .u32 (r.print:Int),.slice (some ⟨g,o,none⟩) r.ids.length c] 40)).alloc (.cells #[.int .u32 0,.int .i64 0] 25)=w0 at *
  have hb1:Below w0.heap.size w0 (w0.alloc (.cells #[.int .u32 (r.ids[0].1:Int),.int .i64 r.ids[0].2] 25)):=(zb _ w0).alloc (zl _) _
  have hm0:Box2 w0.heap.size (.int .u32 (r.ids[0].1:Int)) (.int .i64 r.ids[0].2) (w0.alloc (.cells #[.int .u32 (r.ids[0].1:Int),.int .i64 r.ids[0].2] 25)):=Box2.mk' _ _ _ _
  generalize w0.alloc (.cells #[.int .u32 (r.ids[0].1:Int),.int .i64 r.ids[0].2] 25)=w1 at *
  have HB01:=zh hb1
  rw[hsz0]at hm0
  have hlt0:=hm0.lt
  clear hb1 x0 x1
  go_loopg [4] (r.ids.length-1) (fun gh vi wr=>∃(k:Nat) (m:Idn),vi= .int .i64 k∧1≤k∧k≤r.ids.length∧gh=r.ids.length-k∧Hid (Z8 r.ids=M6 m (r.ids.drop k))∧w1.grownBy wr (some (w.heap.size+2))∧Box2 (w.heap.size+2) (.int .u32 (m.1:Int)) (.int .i64 m.2) wr)
  case atStart=>exact⟨1,r.ids[0],rfl,by omega,hl,rfl,HREP,⟨rfl,rfl,rfl,zl _,fun _ _ _=>rfl⟩,hm0⟩
  case round=>
   obtain⟨k,m,rfl,hk1,hk,hgm,hI,hg9,hbm⟩:=hrel
   have hnew:∀b,b≠w.heap.size+2→some b≠some (w.heap.size+2):=fun b hb e=>hb (Option.some.inj e)
   have hbx9:=z8z hg9 (hnew _ (by omega)) (HBX.out.below HB01.out (by omega))
   have HBX9:=zh hbx9
   have er3:=hbx9.c3
   by_cases hkl:k<r.ids.length
   ·obtain⟨x0,x1⟩:=HX.out k hkl
    have hg0:g<w0.heap.size:=by omega
    have hg1:g<w1.heap.size:=by omega
    have hgr:g<wr.heap.size:=by have:=hg9.size;omega
    have y0:=(hg9.cell_far ⟨g,o+k*2,none⟩ hg1 (hnew _ (by show g≠_;omega))).trans ((HB01.out.cell (p:=⟨g,o+k*2,none⟩) hg0).trans x0)
    have y1:=(hg9.cell_far ⟨g,o+k*2+1,none⟩ hg1 (hnew _ (by show g≠_;omega))).trans ((HB01.out.cell (p:=⟨g,o+k*2+1,none⟩) hg0).trans x1)
    have b1:(0:Int)≤(k:Int):=by omega
    have b2:(k:Int)<(r.ids.length:Int):=by omega
    have Y0:=zh y0
    have Y1:=zh y1
    have HBM:=zh hbm
    have HG:=zh hg9
    clear x0 x1 y0 y1 hbm hg9 hbx9
    go_wp2
    have hS0:Below wr.heap.size wr wr.drew:=(zb _ _).drew
    refine kR (fun w'=>Below wr.heap.size wr w') 7 ?_
    refine kT 0 hS0 ?_
    refine kS 1 rfl hS0 (fun w' hS=>by have A3:=(HBX9.out.below hS HBX9.out.lt).c3;go_simp;rfl) ?_
    refine kT 2 hS0 ?_
    refine kT 3 hS0 ?_
    refine kS 4 rfl hS0 (fun w' hS=>by have B0:=(hS.cell (p:=⟨g,o+k*2,none⟩) hgr).trans Y0.out;have B1:=(hS.cell (p:=⟨g,o+k*2+1,none⟩) hgr).trans Y1.out;go_simp;rfl) ?_
    refine kS 5 rfl hS0 (fun w' hS=>by have B0:=(HBM.out.below hS HBM.out.lt).c0;have B1:=(HBM.out.below hS HBM.out.lt).c1;go_simp;rfl) ?_
    refine kC 6 (fun K hK=> ?_)
    go_simp
    refine(z0q r.ids[k].1 m.1 r.ids[k].2 m.2 _).mono ?_
    rintro e w4 ⟨rfl,hb4⟩
    have hS4:Below wr.heap.size wr w4:=hS0.trans hb4
    refine hK _ _ hS4 (kF ?_)
    clear hK K
    try simp only[Act.put,zM]
    simp only[List.drop_succ_cons,List.drop_zero]
    have HB4:=zh (z8u HG.out hS4)
    have hbm4:=HBM.out.below hS4 HBM.out.lt
    have HBM4:=zh hbm4
    have er4:=(HBX9.out.below hS4 HBX9.out.lt).c3
    have y0:=(hS4.cell (p:=⟨g,o+k*2,none⟩) hgr).trans Y0.out
    have y1:=(hS4.cell (p:=⟨g,o+k*2+1,none⟩) hgr).trans Y1.out
    obtain⟨m0,m1,f0,f1⟩:=hbm4
    cases hcc:Q2 r.ids[k] m with
    | true=>
     have hci:C5 r.ids[k].1 m.1 r.ids[k].2 m.2=true:=hcc
     have HN:=zh (hI.out.trans (z9u hkl hcc))
     rw[hci]
     clear hcc hci hI
     go_wp2
     go_roundg (r.ids.length-(k+1))
     case measure=>omega
     case rel=>exact⟨k+1,r.ids[k],by go_num,by omega,hkl,rfl,HN,z8w (z8w HB4.out _ _) _ _,HBM4.out.set _ _⟩
    | false=>
     have hci:C5 r.ids[k].1 m.1 r.ids[k].2 m.2=false:=hcc
     have HN:=zh (hI.out.trans (z9v hkl hcc))
     rw[hci]
     clear hcc hci hI
     go_wp2
     go_roundg (r.ids.length-(k+1))
     case measure=>omega
     case rel=>exact⟨k+1,m,by go_num,by omega,hkl,rfl,HN,HB4.out,HBM4.out⟩
   ·obtain rfl:k=r.ids.length:=by omega
    have hI2:Z8 r.ids=m:=by rw[hI.out,List.drop_eq_nil_of_le (zl _)];rfl
    have HI:=zh hI2
    have hrr:=z8y hg9 (by omega) (HBR.out.below HB01.out (by omega))
    have HRR:=zh hrr
    obtain⟨r0,r1,f0,f1⟩:=hrr
    obtain⟨m0,m1,_,_⟩:=hbm
    obtain⟨t0,t1,t2⟩:=HRR.out.rd (.int .u32 (m.1:Int)) (.int .i64 m.2)
    have HB9:=zh (q0c (C4 (HB0.out.trans (HB01.out.mono HB0.out.size)) (by omega) (by omega) hg9) (Nat.le_succ _) (.int .u32 (m.1:Int)) (.int .i64 m.2))
    clear hI hI2 hg9
    go_wp2
    refine bodyPost_ret (v:=idV m) (by simp[results,Tryz.results73,go_sem,t0,t1]) rfl ?_
    exact⟨by rw[HI.out],HB9.out⟩
theorem j7f(n s:ByteArray)(hn:n.size≤maxLen)(hN:J7 n.data.toList=true)(hs:s.size≤4000)(w:World) :
  Calls Tryz.prog 89 #[.string n,.string s] w fun e w'=>∃v,e= .returned (.tuple #[v,.int .i64 0])∧RcpW w' w.heap.size w'.heap.size v (Q7 n.data.toList s.data.toList)∧Below w.heap.size w w':=by
 obtain⟨i0,hi,hz0,hz1,hz2⟩:=info_parts z8t
 have b1:¬(s.size:Int)>4000:=by omega
 have HL:Hid ((pieces s.data.toList).length≤4000):=zh (by have:=B2 s.data.toList;have:=Z4 s;omega)
 have HS:=zh (Z4 s)
 have HNN:=zh hN
 clear hN
 go_enter Tryz.func89,Tryz.ntmps89
 go_wp2_with fail
 refine(q5p n hn _).mono ?_
 rintro e w1 ⟨rfl,rfl⟩
 rw[HNN.out]
 go_wp2_with fail
 refine(q6x s (by omega) _).mono ?_
 rintro e w1 ⟨v1,rfl,ho1,hb1⟩
 have hw0:Box4 w.heap.size (.string ⟨#[]⟩) (.int .i64 0) (.int .u32 0) (.slice none 0 0) (w.alloc (.cells #[.string ⟨#[]⟩,.int .i64 0,.int .u32 0,.slice none 0 0] 40)):=Box4.mk' _ _ _ _ _ _
 have hbb:Below w.heap.size w w1:=((zb _ w).alloc (zl _) _).trans (hb1.mono (by simp))
 have hbx:=hw0.below hb1 (by simp)
 obtain⟨A1,c1,rfl,hc1,hrd⟩:=V7 ho1
 have HRD:=zh hrd
 have HBB:=zh hbb
 have hsz:w.heap.size<w1.heap.size:=by have:=hb1.size;simp at this;omega
 generalize hps:pieces s.data.toList=ps at *
 have hl:=HL.out
 clear hrd hbb hw0 ho1 hb1
 go_wp2
 go_loopg [7,9] ps.length (fun gh vs vi wr=>∃k:Nat,vi= .int .i64 k∧k≤ps.length∧gh=ps.length-k∧wr.ownsRow w1.heap.size 25 2 vs k (U4 ((ps.take k).map idOf))∧Below w1.heap.size w1 wr)
 case atStart=>exact⟨0,rfl,Nat.zero_le _,rfl,World.ownsRow_nil _ _ _ _,zb _ _⟩
 case round=>
  obtain⟨k,rfl,hk,hgm,hrow,hB⟩:=hrel
  by_cases hkl:k<ps.length
  ·obtain⟨g,rfl,hg1,hg2,hcell⟩:=HRD.out (by omega)
   have hd1:w1.cell? ⟨g,k,none⟩=some (.string (bs ps[k])):=hcell k _ (by simp[hkl])
   have d1:wr.cell? ⟨g,k,none⟩=some (.string (bs ps[k])):=(hB.cell (p:=⟨g,k,none⟩) hg2).trans hd1
   have b1:(0:Int)≤(k:Int):=by omega
   have b2:(k:Int)<(ps.length:Int):=by omega
   have HT:=zh (j0l hkl)
   have hpz:(bs ps[k]).size≤4000:=by
    rw[Q8]
    have hm:ps[k]∈pieces s.data.toList:=by rw[hps];exact List.getElem_mem hkl
    have:=W9 _ _ hm
    omega
   have HBT:=zh (Q3 ps[k])
   have HBZ:=zh (Q8 ps[k])
   clear hd1 hcell
   go_wp2_with fail
   refine(q7p (bs ps[k]) _ (by unfold maxLen;omega)).mono ?_
   rintro e w2 ⟨rfl,hb2⟩
   have ho2:=Q4 hrow hb2
   have hB2:=hB.trans (hb2.mono hB.size)
   rw[HBT.out,HBZ.out]
   go_wp2_with(at_builtin;refine wpList_append_own _ rfl _ _ 38 rfl w1.heap.size 25 i0 (.agg #[.int .u32 0,.int .i64 0]) 2 16 Tryz.underlying38 hi hz0 hz1 hz2 rfl (by decide) _ _ _ rfl (Q4 (Q4 ho2 ((zb _ _).alloc (zl _) _)) ((zb _ _).alloc (zl _) _)) ⟨w2.heap.size+1,0,none⟩ 1 1 [.int .u32 ((prOf ps[k]:Nat):Int),.int .i64 (ps[k].length:Int)] rfl rfl (by have:=z8s (w2.alloc (.cells #[.int .u32 ((prOf ps[k]:Nat):Int),.int .i64 (ps[k].length:Int)] 25)) (.int .u32 ((prOf ps[k]:Nat):Int)) (.int .i64 (ps[k].length:Int)) 25;simpa using this) (by simp[Value.oneCell']) (by unfold maxLen;omega) (by omega) (by have:=hB2.size;simp;omega) ?_;intro v5 w5 ho5 hg5 _)
   go_roundg (ps.length-(k+1))
   case measure=>omega
   case rel=>exact⟨k+1,by go_num,hkl,rfl,by rw[HT.out];exact ho5,(((hB2.alloc hB2.size _).alloc (by have:=hB2.size;simp;omega) _)).grown hg5 (by have:=hB2.size;simp;omega) (fun b he=>Y7 ho2 he)⟩
  ·obtain rfl:k=ps.length:=by omega
   have hbxr:=hbx.below hB hsz
   have HBX:=zh hbxr
   obtain⟨c0,c1x,c2,c3,hfz⟩:=hbxr
   have f0:=hfz 0
   have f1:=hfz 1
   have f2:=hfz 2
   have f3:=hfz 3
   obtain⟨A,c,rfl⟩:=J0 hrow
   obtain⟨d0,d1,d2,d3,_⟩:=HBX.out.set (.string n) (.int .i64 (s.size:Int)) (.int .u32 ((prOf s.data.toList:Nat):Int)) (.slice A ps.length c)
   have HP:Hid (RcpW ((((wr.setCell ⟨w.heap.size,0,none⟩ (.string n)).setCell ⟨w.heap.size,1,none⟩ (.int .i64 (s.size:Int))).setCell ⟨w.heap.size,2,none⟩ (.int .u32 ((prOf s.data.toList:Nat):Int))).setCell ⟨w.heap.size,3,none⟩ (.slice A ps.length c)) w.heap.size ((((wr.setCell ⟨w.heap.size,0,none⟩ (.string n)).setCell ⟨w.heap.size,1,none⟩ (.int .i64 (s.size:Int))).setCell ⟨w.heap.size,2,none⟩ (.int .u32 ((prOf s.data.toList:Nat):Int))).setCell ⟨w.heap.size,3,none⟩ (.slice A ps.length c)).heap.size
     (.agg #[.string n,.int .i64 (s.size:Int),.int .u32 ((prOf s.data.toList:Nat):Int),.slice A ps.length c]) (Q7 n.data.toList s.data.toList)):=zh (by
    rw[List.take_of_length_le (zl _)]at hrow
    have e1:(Q7 n.data.toList s.data.toList).ids=ps.map idOf:=by show V8 _=_;unfold V8;rw[hps]
    refine⟨_,?_,by rw[e1];exact(RdB.own (z9d hrow hsz _ _ _ _) (by rw[List.length_map])).wide (by omega) (zl _)⟩
    rw[show VT (Q7 n.data.toList s.data.toList).name= .string n by show Value.string (bs n.data.toList)=_;rw[q0s]]
    rw[show(Q7 n.data.toList s.data.toList).len=(s.size:Int) by rw[HS.out];rfl]
    rfl)
   have HB9:=zh (Z7 (HBB.out.trans (hB.mono (Nat.le_of_lt hsz))) (zl _) (.string n) (.int .i64 (s.size:Int)) (.int .u32 ((prOf s.data.toList:Nat):Int)) (.slice A ps.length c))
   clear hfz hrow
   go_wp2_with fail
   refine(q7o s _ (by unfold maxLen;omega)).mono ?_
   rintro e w2 ⟨rfl,rfl⟩
   go_wp2
   refine bodyPost_ret (v:= .tuple #[.agg #[.string n,.int .i64 (s.size:Int),.int .u32 ((prOf s.data.toList:Nat):Int),.slice A ps.length c],.int .i64 0]) (by simp[results,Tryz.results89,go_sem,d0,d1,d2,d3]) rfl ?_
   exact⟨_,rfl,HP.out,HB9.out⟩
theorem j7g(n s:ByteArray)(hn:n.size≤maxLen)(w:World) :
  Calls Tryz.prog 89 #[.string n,.string s] w fun e w'=>∃v,e= .returned (.tuple #[v,.int .i64 (M8 n.data.toList s.data.toList).1])∧RcpW w' w.heap.size w'.heap.size v (M8 n.data.toList s.data.toList).2∧Below w.heap.size w w':=by
 have hz:=Z4 s
 have hb0:Below w.heap.size w (w.alloc (.cells #[.string ⟨#[]⟩,.int .i64 0,.int .u32 0,.slice none 0 0] 40)):=(zb _ w).alloc (zl _) _
 cases hN:J7 n.data.toList with
 | false=>
  have HE:Hid (M8 n.data.toList s.data.toList=(4,R8)):=zh (if_pos hN)
  have HN:=zh hN
  clear hN hz
  go_enter Tryz.func89,Tryz.ntmps89
  go_wp2_with fail
  refine(q5p n hn _).mono ?_
  rintro e w1 ⟨rfl,rfl⟩
  rw[HN.out]
  go_wp2
  refine bodyPost_ret (v:= .tuple #[R9,.int .i64 4]) (by simp[results,Tryz.results89,go_sem,R9]) rfl ?_
  exact⟨R9,by rw[HE.out],by rw[HE.out];exact RcpW.zero _ _ _,hb0⟩
 | true=>
  by_cases h4:s.size≤4000
  ·have e1:M8 n.data.toList s.data.toList=(0,Q7 n.data.toList s.data.toList):=by unfold M8;rw[if_neg (by rw[hN];simp),if_neg (by omega)]
   rw[e1]
   exact j7f n s hn hN h4 w
  ·have h4i:(s.size:Int)>4000:=by omega
   have HE:Hid (M8 n.data.toList s.data.toList=(2,R8)):=zh (by unfold M8;rw[if_neg (by rw[hN];simp),if_pos (by omega)])
   have HN:=zh hN
   clear hN hz h4
   go_enter Tryz.func89,Tryz.ntmps89
   go_wp2_with fail
   refine(q5p n hn _).mono ?_
   rintro e w1 ⟨rfl,rfl⟩
   rw[HN.out]
   go_wp2
   refine bodyPost_ret (v:= .tuple #[R9,.int .i64 2]) (by simp[results,Tryz.results89,go_sem,R9]) rfl ?_
   exact⟨R9,by rw[HE.out],by rw[HE.out];exact RcpW.zero _ _ _,hb0⟩
end Go.Proofs.YtdmlghfggninbaaGreatDoor
