/- bins in memory: walk of Put. Condition: the sentinels that are read lie as named (SomeS). -/
import Derived.Test.YtdmlghfggninbaaGreatDoorMb6
import Derived.Test.YtdmlghfggninbaaGreatDoorMb31
set_option linter.unusedVariables false
set_option linter.unusedSimpArgs false
namespace Go.Proofs.YtdmlghfggninbaaGreatDoor
open Go.RowKit Go.Lib Go.Maps Go.WideMaps
theorem j0q{w w1:World}{r:Option Nat}{b:Nat}(h:w.grownBy w1 r)(hb:w.heap.size≤b)(j:Nat)(v:Value):w.grownBy (w1.setCell ⟨b,j,none⟩ v) r:=
 ⟨h.os,h.tape,h.output,by have:=h.size;simpa[World.setCell]using this,fun i hi hne=>(z8v (by omega)).trans (h.block i hi hne)⟩
theorem OBin.drew{b mb:Nat}{L:HldL}{w:World}(h:OBin b mb L w):OBin b mb L w.drew:=h.keep rfl rfl
theorem OBin.set{b mb d:Nat}{L:HldL}{w:World}(h:OBin b mb L w)(h1:b≠d)(h2:mb≠d)(j:Nat)(v:Value):OBin b mb L (w.setCell ⟨d,j,none⟩ v):=
 h.keep (z8v h1) (z8v h2)
def j0r(a:Nat→Addr)(b mb:Nat)(L:HldL)(t:Bytes)(w:World)(e:Ending)(w':World):Prop:=
 ∃r,e= .returned (.tuple #[idV (putB t L).2.1,.bool (putB t L).2.2.1,r])∧ES a r (putB t L).2.2.2∧OBin b mb (putB t L).1 w'∧w.grownBy w' (some mb)
theorem j0s{a:Nat→Addr}{b mb:Nat}{L:HldL}{t:Bytes}{w w':World}{c:Int}{r:Value}(h:putB t L=(L,(0,0),false,c))(hr:ES a r c)(hB:OBin b mb L w')(hb:Below w.heap.size w w') :
  j0r a b mb L t w (.returned (.tuple #[idV (0,0),.bool false,r])) w':=⟨r,by rw[h],by rw[h];exact hr,by rw[h];exact hB,X7 hb⟩
theorem j0t{a:Nat→Addr}{b mb:Nat}{L L':HldL}{t:Bytes}{w w':World}{x:Idn}{q:Bool}{r:Value}(h:putB t L=(L',x,q,0))(hr:ES a r 0)(hB:OBin b mb L' w')(hg:w.grownBy w' (some mb)) :
  j0r a b mb L t w (.returned (.tuple #[idV x,.bool q,r])) w':=⟨r,by rw[h],by rw[h];exact hr,by rw[h];exact hB,hg⟩
set_option maxRecDepth 100000 in
set_option maxHeartbeats 2000000 in
theorem j0u(a:Nat→Addr)(b mb:Nat)(L:HldL)(n:Int)(hn:n≤4611686018427387904)(hL:BinOk n L)(hl:L.length≤1000000)(t:Bytes)(ht:t.length≤1000000)(w:World)(hB:OBin b mb L w)(hs:SomeS [1,6,9] a w) :
  Calls Tryz.prog 87 #[.pointer (some ⟨b,0,none⟩),VT t] w (j0r a b mb L t w):=by
 have hb0:Below w.heap.size w (w.alloc (.cells #[.int .u32 0,.int .i64 0] 25)):=(zb _ w).alloc (zl _) _
 have HB0:=zh hb0
 have HBIN:=zh hB
 have HB0B:=zh (hB.below hb0)
 have HBR:=zh (Box2.mk' w (.int .u32 0) (.int .i64 0) 25)
 have HS:Hid (∀w',Below w.heap.size w w'→SomeS [1,6,9] a w'):=zh (fun w' h=>hs.below h)
 have hg1:5<w.heap.size:=World.block_lt_of_cell? w _ (hs 1 (by simp))
 have hg6:3<w.heap.size:=World.block_lt_of_cell? w _ (hs 6 (by simp))
 have hg9:9<w.heap.size:=World.block_lt_of_cell? w _ (hs 9 (by simp))
 have hbl:=hB.lt
 have hml:=hB.map.lt
 have hsz:(bs t).size≤maxLen:=by rw[Q8];unfold maxLen;omega
 have HLEN:Hid (L.length<maxLen):=zh (by unfold maxLen;omega)
 have HOK:=zh hL
 obtain⟨x,hx⟩:∃x,idOf t=x:=⟨_,rfl⟩
 have hix:IdOk x∧0≤x.2:=by
  rw[←hx]
  exact⟨⟨q1u _,by show(-9223372036854775808:Int)≤((t.length:Nat):Int);omega,by show((t.length:Nat):Int)≤_;omega⟩,by show(0:Int)≤((t.length:Nat):Int);omega⟩
 have HIX:=zh hix
 have HKEY:=zh (keyI hix.1)
 have HID:Hid (∀w,Calls Tryz.prog 126 #[.string (bs t)] w fun e w'=>e= .returned (.agg #[.int .u32 (x.1:Int),.int .i64 x.2])∧Below w.heap.size w w'):=zh (fun w=>by
  have:=q7e (bs t) w hsz
  rw[Q3,Q8]at this
  rw[←hx];exact this)
 have hrt:∀y,q0m t=y→∀w,Calls Tryz.prog 133 #[.string (bs t)] w fun e w'=>e= .returned (.bool y)∧w=w':=fun y hy w=>by
  have:=z9p (bs t) (by rw[Q8];omega) w
  rw[Q3,hy]at this
  exact this
 have HRTa:=zh hrt
 clear hb0 hs hB hL hrt hix hsz
 cases hr:q0m t with
 | false=>
  have HR:Hid (putB t L=(L,(0,0),false,2)):=zh (if_pos hr)
  have HRT:=zh (HRTa.out false hr)
  cases hg:getB L x with
  | some o=>
   have LK:=zh (fun w' (h:OBin b mb L w')=>h.look_some HOK.out.idok HIX.out.1 hg)
   clear hr hg hx
   go_enter Tryz.func87,Tryz.ntmps87
   go_wp2_with fail
   generalize w.alloc (.cells #[.int .u32 0,.int .i64 0] 25)=w0 at *
   refine(HID.out w0).mono ?_
   rintro e w1 ⟨rfl,hb1⟩
   have hX1:Box2 w1.heap.size (.int .u32 (x.1:Int)) (.int .i64 x.2) (w1.alloc (.cells #[.int .u32 (x.1:Int),.int .i64 x.2] 25)):=Box2.mk' _ _ _ _
   have hb2:=hb1.alloc hb1.size (.cells #[.int .u32 (x.1:Int),.int .i64 x.2] 25)
   have hlt1:w.heap.size<w1.heap.size:=Nat.lt_of_lt_of_le HBR.out.lt hb1.size
   go_wp2_with fail
   generalize w1.alloc (.cells #[.int .u32 (x.1:Int),.int .i64 x.2] 25)=w2 at *
   have HX:=zh hX1
   have HBB:=zh (HB0B.out.below hb2)
   have HB2:=zh (HB0.out.trans (hb2.mono HB0.out.size))
   have HBR2:=zh (HBR.out.below hb2 HBR.out.lt)
   clear hX1 hb1 hb2
   go_wp2
   have hS0:Below w2.heap.size w2 w2.drew:=(zb _ _).drew
   refine kR (fun w'=>Below w2.heap.size w2 w') 11 ?_
   refine kT 0 hS0 ?_
   refine kT 1 hS0 ?_
   refine kT 2 hS0 ?_
   refine kS 3 rfl hS0 (fun w' hS=>by have A0:=(HBB.out.below hS).cell;go_simp;rfl) ?_
   refine kS 4 rfl hS0 (fun w' hS=>by have A0:=(HX.out.below hS HX.out.lt).c0;have A1:=(HX.out.below hS HX.out.lt).c1;go_simp;rfl) ?_
   refine kS 5 rfl hS0 (fun w' hS=>by have A0:=LK.out w' (HBB.out.below hS);go_simp;rfl) ?_
   refine kT 6 hS0 ?_
   refine kT 7 hS0 ?_
   refine kT 8 hS0 ?_
   refine kC 9 (fun K hK=> ?_)
   go_simp
   have hS5:Below w2.heap.size w2 ((w2.alloc (.cells #[.int .u32 0,.int .i64 0,.int .i64 0,.string ⟨#[]⟩] 150)).drew):=((zb _ w2).alloc (zl _) _).drew
   have hbh:Box4 w2.heap.size (.int .u32 0) (.int .i64 0) (.int .i64 0) (.string ⟨#[]⟩) ((w2.alloc (.cells #[.int .u32 0,.int .i64 0,.int .i64 0,.string ⟨#[]⟩] 150)).drew):=Box4.mk' w2.drew _ _ _ _ _
   refine hK _ _ hS5 ?_
   clear hK K
   try simp only[Act.put,zM]
   generalize(w2.alloc (.cells #[.int .u32 0,.int .i64 0,.int .i64 0,.string ⟨#[]⟩] 150)).drew=w6a at *
   have HBH0:=zh hbh
   obtain⟨b0,b1,b2,b3,hf⟩:=hbh
   have f0:=hf 0
   have f1:=hf 1
   have f2:=hf 2
   have f3:=hf 3
   refine kC 10 (fun K hK=> ?_)
   go_simp
   have hS6:=Z7 hS5 (zl _) (.int .u32 (o.id.1:Int)) (.int .i64 o.id.2) (.int .i64 o.uses) (.string (bs o.text))
   refine hK _ _ hS6 (kF ?_)
   clear hK K
   try simp only[Act.put,zM]
   simp only[List.drop_succ_cons,List.drop_zero]
   have HBH:=zh (HBH0.out.set (.int .u32 (o.id.1:Int)) (.int .i64 o.id.2) (.int .i64 o.uses) (.string (bs o.text)))
   generalize((((w6a.setCell ⟨w2.heap.size,0,none⟩ (.int .u32 (o.id.1:Int))).setCell ⟨w2.heap.size,1,none⟩ (.int .i64 o.id.2)).setCell ⟨w2.heap.size,2,none⟩ (.int .i64 o.uses)).setCell ⟨w2.heap.size,3,none⟩ (.string (bs o.text)))=w6 at *
   clear hS5 hS0 HBH0 b0 b1 b2 b3 hf f0 f1 f2 f3
   obtain⟨h0,h1,h2,h3,_⟩:=HBH.out
   have HB6:=zh (HB2.out.trans (hS6.mono HB2.out.size))
   have HBB6:=zh (HBB.out.below hS6)
   have HX6:=zh (HX.out.below hS6 HX.out.lt)
   have HBR6:=zh (HBR2.out.below hS6 HBR2.out.lt)
   clear hS6
   go_wp2_with fail
   refine(HRT.out _).mono ?_
   rintro e w7 ⟨rfl,rfl⟩
   obtain⟨r0,r1,g0,g1⟩:=HBR6.out
   obtain⟨t0,t1,_⟩:=HBR6.out.rd (.int .u32 0) (.int .i64 0)
   have s0:w6.cell? ⟨5,0,none⟩=some (sval a 1):=(HS.out w6 HB6.out) 1 (by simp)
   unfold sval at s0
   have hne:¬(5=w.heap.size):=by have:=hg1;omega
   have HB9:=zh (q0c HB6.out (zl _) (.int .u32 0) (.int .i64 0)).drew
   go_wp2
   go_region
   go_wp2
   refine bodyPost_ret (v:= .tuple #[idV (0,0),.bool false,.iface 376 (.pointer (some (a 1)))]) (by simp[results,Tryz.results87,go_sem,t0,t1]) rfl ?_
   exact j0s HR.out (ES.sent a 1 (by decide)) (HBIN.out.below HB9.out) HB9.out
  | none=>
   have LK:=zh (fun w' (h:OBin b mb L w')=>h.look_none HOK.out.idok HIX.out.1 hg)
   clear hr hg hx
   go_enter Tryz.func87,Tryz.ntmps87
   go_wp2_with fail
   generalize w.alloc (.cells #[.int .u32 0,.int .i64 0] 25)=w0 at *
   refine(HID.out w0).mono ?_
   rintro e w1 ⟨rfl,hb1⟩
   have hX1:Box2 w1.heap.size (.int .u32 (x.1:Int)) (.int .i64 x.2) (w1.alloc (.cells #[.int .u32 (x.1:Int),.int .i64 x.2] 25)):=Box2.mk' _ _ _ _
   have hb2:=hb1.alloc hb1.size (.cells #[.int .u32 (x.1:Int),.int .i64 x.2] 25)
   have hlt1:w.heap.size<w1.heap.size:=Nat.lt_of_lt_of_le HBR.out.lt hb1.size
   go_wp2_with fail
   generalize w1.alloc (.cells #[.int .u32 (x.1:Int),.int .i64 x.2] 25)=w2 at *
   have HX:=zh hX1
   have HBB:=zh (HB0B.out.below hb2)
   have HB2:=zh (HB0.out.trans (hb2.mono HB0.out.size))
   have HBR2:=zh (HBR.out.below hb2 HBR.out.lt)
   clear hX1 hb1 hb2
   go_wp2
   have hS0:Below w2.heap.size w2 w2.drew:=(zb _ _).drew
   refine kR (fun w'=>Below w2.heap.size w2 w') 11 ?_
   refine kT 0 hS0 ?_
   refine kT 1 hS0 ?_
   refine kT 2 hS0 ?_
   refine kS 3 rfl hS0 (fun w' hS=>by have A0:=(HBB.out.below hS).cell;go_simp;rfl) ?_
   refine kS 4 rfl hS0 (fun w' hS=>by have A0:=(HX.out.below hS HX.out.lt).c0;have A1:=(HX.out.below hS HX.out.lt).c1;go_simp;rfl) ?_
   refine kS 5 rfl hS0 (fun w' hS=>by have A0:=LK.out w' (HBB.out.below hS);go_simp;rfl) ?_
   refine kT 6 hS0 ?_
   refine kT 7 hS0 ?_
   refine kT 8 hS0 ?_
   refine kC 9 (fun K hK=> ?_)
   go_simp
   have hS5:Below w2.heap.size w2 ((w2.alloc (.cells #[.int .u32 0,.int .i64 0,.int .i64 0,.string ⟨#[]⟩] 150)).drew):=((zb _ w2).alloc (zl _) _).drew
   have hbh:Box4 w2.heap.size (.int .u32 0) (.int .i64 0) (.int .i64 0) (.string ⟨#[]⟩) ((w2.alloc (.cells #[.int .u32 0,.int .i64 0,.int .i64 0,.string ⟨#[]⟩] 150)).drew):=Box4.mk' w2.drew _ _ _ _ _
   refine hK _ _ hS5 ?_
   clear hK K
   try simp only[Act.put,zM]
   generalize(w2.alloc (.cells #[.int .u32 0,.int .i64 0,.int .i64 0,.string ⟨#[]⟩] 150)).drew=w6a at *
   have HBH0:=zh hbh
   obtain⟨b0,b1,b2,b3,hf⟩:=hbh
   have f0:=hf 0
   have f1:=hf 1
   have f2:=hf 2
   have f3:=hf 3
   refine kC 10 (fun K hK=> ?_)
   go_simp
   have hS6:=Z7 hS5 (zl _) (.int .u32 (hldZ.id.1:Int)) (.int .i64 hldZ.id.2) (.int .i64 hldZ.uses) (.string (bs hldZ.text))
   refine hK _ _ hS6 (kF ?_)
   clear hK K
   try simp only[Act.put,zM]
   simp only[List.drop_succ_cons,List.drop_zero]
   have HBH:=zh (HBH0.out.set (.int .u32 (hldZ.id.1:Int)) (.int .i64 hldZ.id.2) (.int .i64 hldZ.uses) (.string (bs hldZ.text)))
   generalize((((w6a.setCell ⟨w2.heap.size,0,none⟩ (.int .u32 (hldZ.id.1:Int))).setCell ⟨w2.heap.size,1,none⟩ (.int .i64 hldZ.id.2)).setCell ⟨w2.heap.size,2,none⟩ (.int .i64 hldZ.uses)).setCell ⟨w2.heap.size,3,none⟩ (.string (bs hldZ.text)))=w6 at *
   clear hS5 hS0 HBH0 b0 b1 b2 b3 hf f0 f1 f2 f3
   obtain⟨h0,h1,h2,h3,_⟩:=HBH.out
   have HB6:=zh (HB2.out.trans (hS6.mono HB2.out.size))
   have HBB6:=zh (HBB.out.below hS6)
   have HX6:=zh (HX.out.below hS6 HX.out.lt)
   have HBR6:=zh (HBR2.out.below hS6 HBR2.out.lt)
   clear hS6
   go_wp2_with fail
   refine(HRT.out _).mono ?_
   rintro e w7 ⟨rfl,rfl⟩
   obtain⟨r0,r1,g0,g1⟩:=HBR6.out
   obtain⟨t0,t1,_⟩:=HBR6.out.rd (.int .u32 0) (.int .i64 0)
   have s0:w6.cell? ⟨5,0,none⟩=some (sval a 1):=(HS.out w6 HB6.out) 1 (by simp)
   unfold sval at s0
   have hne:¬(5=w.heap.size):=by have:=hg1;omega
   have HB9:=zh (q0c HB6.out (zl _) (.int .u32 0) (.int .i64 0)).drew
   go_wp2
   go_region
   go_wp2
   refine bodyPost_ret (v:= .tuple #[idV (0,0),.bool false,.iface 376 (.pointer (some (a 1)))]) (by simp[results,Tryz.results87,go_sem,t0,t1]) rfl ?_
   exact j0s HR.out (ES.sent a 1 (by decide)) (HBIN.out.below HB9.out) HB9.out
 | true=>
  have HRT:=zh (HRTa.out true hr)
  have hr':¬q0m t=false:=by rw[hr];simp
  cases hg:getB L x with
  | some o=>
   have LK:=zh (fun w' (h:OBin b mb L w')=>h.look_some HOK.out.idok HIX.out.1 hg)
   have hou:=(HOK.out.all o (q0i hg).1).uses
   by_cases he:o.text=t
   ·have e1:((bs o.text).toList==(bs t).toList)=true:=by rw[he];simp
    have e2:((bs o.text).toList !=(bs t).toList)=false:=by rw[he];simp
    have HR:Hid (putB t L=(setB ⟨x,o.uses+1,t⟩ L,x,false,0)):=zh (by unfold putB;rw[if_neg hr',hx,hg];simp only;rw[if_neg (not_not_intro he)])
    have HWR:Hid (IntKind.i64.wrap (o.uses+1)=o.uses+1):=zh (IntWalk.i64_in _ (by omega))
    have HHW:Hid (HldW ⟨x,o.uses+1,t⟩):=zh ⟨HIX.out.1,by show-9223372036854775808≤o.uses+1;omega,by show o.uses+1≤9223372036854775807;omega⟩
    have u0:=hou.1
    have u1:o.uses≤4611686018427387904:=by omega
    clear hr hr' hg hx he hou
    go_enter Tryz.func87,Tryz.ntmps87
    go_wp2_with fail
    generalize w.alloc (.cells #[.int .u32 0,.int .i64 0] 25)=w0 at *
    refine(HID.out w0).mono ?_
    rintro e w1 ⟨rfl,hb1⟩
    have hX1:Box2 w1.heap.size (.int .u32 (x.1:Int)) (.int .i64 x.2) (w1.alloc (.cells #[.int .u32 (x.1:Int),.int .i64 x.2] 25)):=Box2.mk' _ _ _ _
    have hb2:=hb1.alloc hb1.size (.cells #[.int .u32 (x.1:Int),.int .i64 x.2] 25)
    have hlt1:w.heap.size<w1.heap.size:=Nat.lt_of_lt_of_le HBR.out.lt hb1.size
    go_wp2_with fail
    generalize w1.alloc (.cells #[.int .u32 (x.1:Int),.int .i64 x.2] 25)=w2 at *
    have HX:=zh hX1
    have HBB:=zh (HB0B.out.below hb2)
    have HB2:=zh (HB0.out.trans (hb2.mono HB0.out.size))
    have HBR2:=zh (HBR.out.below hb2 HBR.out.lt)
    clear hX1 hb1 hb2
    go_wp2
    have hS0:Below w2.heap.size w2 w2.drew:=(zb _ _).drew
    refine kR (fun w'=>Below w2.heap.size w2 w') 11 ?_
    refine kT 0 hS0 ?_
    refine kT 1 hS0 ?_
    refine kT 2 hS0 ?_
    refine kS 3 rfl hS0 (fun w' hS=>by have A0:=(HBB.out.below hS).cell;go_simp;rfl) ?_
    refine kS 4 rfl hS0 (fun w' hS=>by have A0:=(HX.out.below hS HX.out.lt).c0;have A1:=(HX.out.below hS HX.out.lt).c1;go_simp;rfl) ?_
    refine kS 5 rfl hS0 (fun w' hS=>by have A0:=LK.out w' (HBB.out.below hS);go_simp;rfl) ?_
    refine kT 6 hS0 ?_
    refine kT 7 hS0 ?_
    refine kT 8 hS0 ?_
    refine kC 9 (fun K hK=> ?_)
    go_simp
    have hS5:Below w2.heap.size w2 ((w2.alloc (.cells #[.int .u32 0,.int .i64 0,.int .i64 0,.string ⟨#[]⟩] 150)).drew):=((zb _ w2).alloc (zl _) _).drew
    have hbh:Box4 w2.heap.size (.int .u32 0) (.int .i64 0) (.int .i64 0) (.string ⟨#[]⟩) ((w2.alloc (.cells #[.int .u32 0,.int .i64 0,.int .i64 0,.string ⟨#[]⟩] 150)).drew):=Box4.mk' w2.drew _ _ _ _ _
    refine hK _ _ hS5 ?_
    clear hK K
    try simp only[Act.put,zM]
    generalize(w2.alloc (.cells #[.int .u32 0,.int .i64 0,.int .i64 0,.string ⟨#[]⟩] 150)).drew=w6a at *
    have HBH0:=zh hbh
    obtain⟨b0,b1,b2,b3,hf⟩:=hbh
    have f0:=hf 0
    have f1:=hf 1
    have f2:=hf 2
    have f3:=hf 3
    refine kC 10 (fun K hK=> ?_)
    go_simp
    have hS6:=Z7 hS5 (zl _) (.int .u32 (o.id.1:Int)) (.int .i64 o.id.2) (.int .i64 o.uses) (.string (bs o.text))
    refine hK _ _ hS6 (kF ?_)
    clear hK K
    try simp only[Act.put,zM]
    simp only[List.drop_succ_cons,List.drop_zero]
    have HBH:=zh (HBH0.out.set (.int .u32 (o.id.1:Int)) (.int .i64 o.id.2) (.int .i64 o.uses) (.string (bs o.text)))
    generalize((((w6a.setCell ⟨w2.heap.size,0,none⟩ (.int .u32 (o.id.1:Int))).setCell ⟨w2.heap.size,1,none⟩ (.int .i64 o.id.2)).setCell ⟨w2.heap.size,2,none⟩ (.int .i64 o.uses)).setCell ⟨w2.heap.size,3,none⟩ (.string (bs o.text)))=w6 at *
    clear hS5 hS0 HBH0 b0 b1 b2 b3 hf f0 f1 f2 f3
    obtain⟨h0,h1,h2,h3,_⟩:=HBH.out
    have HB6:=zh (HB2.out.trans (hS6.mono HB2.out.size))
    have HBB6:=zh (HBB.out.below hS6)
    have HX6:=zh (HX.out.below hS6 HX.out.lt)
    have HBR6:=zh (HBR2.out.below hS6 HBR2.out.lt)
    clear hS6
    go_wp2_with fail
    refine(HRT.out _).mono ?_
    rintro e w7 ⟨rfl,rfl⟩
    go_wp2
    have hS0:Below w6.heap.size w6 w6.drew:=(zb _ _).drew
    refine kR (fun w'=>Below w6.heap.size w6 w') 11 ?_
    refine kT 0 hS0 ?_
    refine kT 1 hS0 ?_
    refine kT 2 hS0 ?_
    refine kS 3 rfl hS0 (fun w' hS=>by have A0:=(HBB6.out.below hS).cell;go_simp;rfl) ?_
    refine kS 4 rfl hS0 (fun w' hS=>by have A0:=(HX6.out.below hS HX6.out.lt).c0;have A1:=(HX6.out.below hS HX6.out.lt).c1;go_simp;rfl) ?_
    refine kS 5 rfl hS0 (fun w' hS=>by have A0:=(HX6.out.below hS HX6.out.lt).c0;have A1:=(HX6.out.below hS HX6.out.lt).c1;go_simp;rfl) ?_
    refine kT 6 hS0 ?_
    refine kS 7 rfl hS0 (fun w' hS=>by have A2:=(HBH.out.below hS HBH.out.lt).c2;go_simp;rfl) ?_
    refine kS 8 (v:= .int .i64 (o.uses+1)) rfl hS0 (fun w' hS=>by have W1:=HWR.out;go_simp) ?_
    refine kT 9 hS0 ?_
    refine kT 10 hS0 (kF ?_)
    try simp only[Act.put,zM]
    simp only[List.drop_succ_cons,List.drop_zero]
    have HT:=zh (HBB6.out.drew)
    go_wp2_with(first|(at_mapUpdate;refine wpList_mapUpdate_in _ rfl _ _ _ 155 rfl 25 150 lawI Tryz.underlying155 K6 mb L.length (V5 L) rfl HT.out.map HLEN.out (idV x) (hldV ⟨x,o.uses+1,t⟩) _ rfl rfl HKEY.out (hldU ⟨x,o.uses+1,t⟩) [] (z9h HHW.out) ?_;intro w8 hown8 hturn8;have hg8:=hturn8.grown;have HG8:=zh hg8;have HOWN8:=zh hown8;have HX8:=zh (z8y hg8 (by omega) (Box2.drewN HX6.out 1));have HBR8:=zh (z8y hg8 (by omega) (Box2.drewN HBR6.out 1));clear hown8 hturn8 hg8;obtain⟨x0,x1,_,_⟩:=HX8.out;obtain⟨r0,r1,g0,g1⟩:=HBR8.out)|fail)
    obtain⟨t0,t1,_⟩:=HBR8.out.rd (.int .u32 (x.1:Int)) (.int .i64 x.2)
    have HG9:=zh (j0q (j0q ((X7 HB6.out.drew).trans HG8.out) (zl _) 0 (.int .u32 (x.1:Int))) (zl _) 1 (.int .i64 x.2))
    have HB9:=zh (((HT.out.put HOK.out.srt HOK.out.idok0 ⟨x,o.uses+1,t⟩ HIX.out HOWN8.out HG8.out).set (Nat.ne_of_lt hbl) (Nat.ne_of_lt hml) 0 (.int .u32 (x.1:Int))).set (Nat.ne_of_lt hbl) (Nat.ne_of_lt hml) 1 (.int .i64 x.2))
    refine bodyPost_ret (v:= .tuple #[idV x,.bool false,.nilIface]) (by simp[results,Tryz.results87,go_sem,t0,t1]) rfl ?_
    exact j0t HR.out (ES.none a) HB9.out HG9.out
   ·have e1:((bs o.text).toList==(bs t).toList)=false:=by
     rw[ByteArray.toList_eq,ByteArray.toList_eq,Q3,Q3,beq_eq_false_iff_ne];exact he
    have e2:((bs o.text).toList !=(bs t).toList)=true:=by rw[bne,e1];rfl
    have HR:Hid (putB t L=(L,(0,0),false,10)):=zh (by unfold putB;rw[if_neg hr',hx,hg];simp only;rw[if_pos he])
    clear hr hr' hg hx he hou
    go_enter Tryz.func87,Tryz.ntmps87
    go_wp2_with fail
    generalize w.alloc (.cells #[.int .u32 0,.int .i64 0] 25)=w0 at *
    refine(HID.out w0).mono ?_
    rintro e w1 ⟨rfl,hb1⟩
    have hX1:Box2 w1.heap.size (.int .u32 (x.1:Int)) (.int .i64 x.2) (w1.alloc (.cells #[.int .u32 (x.1:Int),.int .i64 x.2] 25)):=Box2.mk' _ _ _ _
    have hb2:=hb1.alloc hb1.size (.cells #[.int .u32 (x.1:Int),.int .i64 x.2] 25)
    have hlt1:w.heap.size<w1.heap.size:=Nat.lt_of_lt_of_le HBR.out.lt hb1.size
    go_wp2_with fail
    generalize w1.alloc (.cells #[.int .u32 (x.1:Int),.int .i64 x.2] 25)=w2 at *
    have HX:=zh hX1
    have HBB:=zh (HB0B.out.below hb2)
    have HB2:=zh (HB0.out.trans (hb2.mono HB0.out.size))
    have HBR2:=zh (HBR.out.below hb2 HBR.out.lt)
    clear hX1 hb1 hb2
    go_wp2
    have hS0:Below w2.heap.size w2 w2.drew:=(zb _ _).drew
    refine kR (fun w'=>Below w2.heap.size w2 w') 11 ?_
    refine kT 0 hS0 ?_
    refine kT 1 hS0 ?_
    refine kT 2 hS0 ?_
    refine kS 3 rfl hS0 (fun w' hS=>by have A0:=(HBB.out.below hS).cell;go_simp;rfl) ?_
    refine kS 4 rfl hS0 (fun w' hS=>by have A0:=(HX.out.below hS HX.out.lt).c0;have A1:=(HX.out.below hS HX.out.lt).c1;go_simp;rfl) ?_
    refine kS 5 rfl hS0 (fun w' hS=>by have A0:=LK.out w' (HBB.out.below hS);go_simp;rfl) ?_
    refine kT 6 hS0 ?_
    refine kT 7 hS0 ?_
    refine kT 8 hS0 ?_
    refine kC 9 (fun K hK=> ?_)
    go_simp
    have hS5:Below w2.heap.size w2 ((w2.alloc (.cells #[.int .u32 0,.int .i64 0,.int .i64 0,.string ⟨#[]⟩] 150)).drew):=((zb _ w2).alloc (zl _) _).drew
    have hbh:Box4 w2.heap.size (.int .u32 0) (.int .i64 0) (.int .i64 0) (.string ⟨#[]⟩) ((w2.alloc (.cells #[.int .u32 0,.int .i64 0,.int .i64 0,.string ⟨#[]⟩] 150)).drew):=Box4.mk' w2.drew _ _ _ _ _
    refine hK _ _ hS5 ?_
    clear hK K
    try simp only[Act.put,zM]
    generalize(w2.alloc (.cells #[.int .u32 0,.int .i64 0,.int .i64 0,.string ⟨#[]⟩] 150)).drew=w6a at *
    have HBH0:=zh hbh
    obtain⟨b0,b1,b2,b3,hf⟩:=hbh
    have f0:=hf 0
    have f1:=hf 1
    have f2:=hf 2
    have f3:=hf 3
    refine kC 10 (fun K hK=> ?_)
    go_simp
    have hS6:=Z7 hS5 (zl _) (.int .u32 (o.id.1:Int)) (.int .i64 o.id.2) (.int .i64 o.uses) (.string (bs o.text))
    refine hK _ _ hS6 (kF ?_)
    clear hK K
    try simp only[Act.put,zM]
    simp only[List.drop_succ_cons,List.drop_zero]
    have HBH:=zh (HBH0.out.set (.int .u32 (o.id.1:Int)) (.int .i64 o.id.2) (.int .i64 o.uses) (.string (bs o.text)))
    generalize((((w6a.setCell ⟨w2.heap.size,0,none⟩ (.int .u32 (o.id.1:Int))).setCell ⟨w2.heap.size,1,none⟩ (.int .i64 o.id.2)).setCell ⟨w2.heap.size,2,none⟩ (.int .i64 o.uses)).setCell ⟨w2.heap.size,3,none⟩ (.string (bs o.text)))=w6 at *
    clear hS5 hS0 HBH0 b0 b1 b2 b3 hf f0 f1 f2 f3
    obtain⟨h0,h1,h2,h3,_⟩:=HBH.out
    have HB6:=zh (HB2.out.trans (hS6.mono HB2.out.size))
    have HBB6:=zh (HBB.out.below hS6)
    have HX6:=zh (HX.out.below hS6 HX.out.lt)
    have HBR6:=zh (HBR2.out.below hS6 HBR2.out.lt)
    clear hS6
    go_wp2_with fail
    refine(HRT.out _).mono ?_
    rintro e w7 ⟨rfl,rfl⟩
    obtain⟨r0,r1,g0,g1⟩:=HBR6.out
    obtain⟨t0,t1,_⟩:=HBR6.out.rd (.int .u32 0) (.int .i64 0)
    have s0:w6.cell? ⟨9,0,none⟩=some (sval a 9):=(HS.out w6 HB6.out) 9 (by simp)
    unfold sval at s0
    have hne:¬(9=w.heap.size):=by have:=hg9;omega
    have HB9:=zh (q0c HB6.out (zl _) (.int .u32 0) (.int .i64 0)).drew
    go_wp2
    go_region
    go_wp2
    refine bodyPost_ret (v:= .tuple #[idV (0,0),.bool false,.iface 376 (.pointer (some (a 9)))]) (by simp[results,Tryz.results87,go_sem,t0,t1]) rfl ?_
    exact j0s HR.out (ES.sent a 9 (by decide)) (HBIN.out.below HB9.out) HB9.out
  | none=>
   have LK:=zh (fun w' (h:OBin b mb L w')=>h.look_none HOK.out.idok HIX.out.1 hg)
   have HLN:=zh (fun w' (h:OBin b mb L w')=>h.len)
   by_cases hf:250≤L.length
   ·have hfi:(L.length:Int)≥250:=by omega
    have HR:Hid (putB t L=(L,(0,0),false,7)):=zh (by unfold putB;rw[if_neg hr',hx,hg];exact if_pos hf)
    clear hr hr' hg hx hf
    go_enter Tryz.func87,Tryz.ntmps87
    go_wp2_with fail
    generalize w.alloc (.cells #[.int .u32 0,.int .i64 0] 25)=w0 at *
    refine(HID.out w0).mono ?_
    rintro e w1 ⟨rfl,hb1⟩
    have hX1:Box2 w1.heap.size (.int .u32 (x.1:Int)) (.int .i64 x.2) (w1.alloc (.cells #[.int .u32 (x.1:Int),.int .i64 x.2] 25)):=Box2.mk' _ _ _ _
    have hb2:=hb1.alloc hb1.size (.cells #[.int .u32 (x.1:Int),.int .i64 x.2] 25)
    have hlt1:w.heap.size<w1.heap.size:=Nat.lt_of_lt_of_le HBR.out.lt hb1.size
    go_wp2_with fail
    generalize w1.alloc (.cells #[.int .u32 (x.1:Int),.int .i64 x.2] 25)=w2 at *
    have HX:=zh hX1
    have HBB:=zh (HB0B.out.below hb2)
    have HB2:=zh (HB0.out.trans (hb2.mono HB0.out.size))
    have HBR2:=zh (HBR.out.below hb2 HBR.out.lt)
    clear hX1 hb1 hb2
    go_wp2
    have hS0:Below w2.heap.size w2 w2.drew:=(zb _ _).drew
    refine kR (fun w'=>Below w2.heap.size w2 w') 11 ?_
    refine kT 0 hS0 ?_
    refine kT 1 hS0 ?_
    refine kT 2 hS0 ?_
    refine kS 3 rfl hS0 (fun w' hS=>by have A0:=(HBB.out.below hS).cell;go_simp;rfl) ?_
    refine kS 4 rfl hS0 (fun w' hS=>by have A0:=(HX.out.below hS HX.out.lt).c0;have A1:=(HX.out.below hS HX.out.lt).c1;go_simp;rfl) ?_
    refine kS 5 rfl hS0 (fun w' hS=>by have A0:=LK.out w' (HBB.out.below hS);go_simp;rfl) ?_
    refine kT 6 hS0 ?_
    refine kT 7 hS0 ?_
    refine kT 8 hS0 ?_
    refine kC 9 (fun K hK=> ?_)
    go_simp
    have hS5:Below w2.heap.size w2 ((w2.alloc (.cells #[.int .u32 0,.int .i64 0,.int .i64 0,.string ⟨#[]⟩] 150)).drew):=((zb _ w2).alloc (zl _) _).drew
    have hbh:Box4 w2.heap.size (.int .u32 0) (.int .i64 0) (.int .i64 0) (.string ⟨#[]⟩) ((w2.alloc (.cells #[.int .u32 0,.int .i64 0,.int .i64 0,.string ⟨#[]⟩] 150)).drew):=Box4.mk' w2.drew _ _ _ _ _
    refine hK _ _ hS5 ?_
    clear hK K
    try simp only[Act.put,zM]
    generalize(w2.alloc (.cells #[.int .u32 0,.int .i64 0,.int .i64 0,.string ⟨#[]⟩] 150)).drew=w6a at *
    have HBH0:=zh hbh
    obtain⟨b0,b1,b2,b3,hf⟩:=hbh
    have f0:=hf 0
    have f1:=hf 1
    have f2:=hf 2
    have f3:=hf 3
    refine kC 10 (fun K hK=> ?_)
    go_simp
    have hS6:=Z7 hS5 (zl _) (.int .u32 (hldZ.id.1:Int)) (.int .i64 hldZ.id.2) (.int .i64 hldZ.uses) (.string (bs hldZ.text))
    refine hK _ _ hS6 (kF ?_)
    clear hK K
    try simp only[Act.put,zM]
    simp only[List.drop_succ_cons,List.drop_zero]
    have HBH:=zh (HBH0.out.set (.int .u32 (hldZ.id.1:Int)) (.int .i64 hldZ.id.2) (.int .i64 hldZ.uses) (.string (bs hldZ.text)))
    generalize((((w6a.setCell ⟨w2.heap.size,0,none⟩ (.int .u32 (hldZ.id.1:Int))).setCell ⟨w2.heap.size,1,none⟩ (.int .i64 hldZ.id.2)).setCell ⟨w2.heap.size,2,none⟩ (.int .i64 hldZ.uses)).setCell ⟨w2.heap.size,3,none⟩ (.string (bs hldZ.text)))=w6 at *
    clear hS5 hS0 HBH0 b0 b1 b2 b3 hf f0 f1 f2 f3
    obtain⟨h0,h1,h2,h3,_⟩:=HBH.out
    have HB6:=zh (HB2.out.trans (hS6.mono HB2.out.size))
    have HBB6:=zh (HBB.out.below hS6)
    have HX6:=zh (HX.out.below hS6 HX.out.lt)
    have HBR6:=zh (HBR2.out.below hS6 HBR2.out.lt)
    clear hS6
    go_wp2_with fail
    refine(HRT.out _).mono ?_
    rintro e w7 ⟨rfl,rfl⟩
    have hln:=HLN.out w6 HBB6.out
    have m0:=HBB6.out.cell
    obtain⟨r0,r1,g0,g1⟩:=HBR6.out
    obtain⟨t0,t1,_⟩:=HBR6.out.rd (.int .u32 0) (.int .i64 0)
    have s0:w6.cell? ⟨3,0,none⟩=some (sval a 6):=(HS.out w6 HB6.out) 6 (by simp)
    unfold sval at s0
    have hne:¬(3=w.heap.size):=by have:=hg6;omega
    have HB9:=zh (q0c HB6.out (zl _) (.int .u32 0) (.int .i64 0)).drew
    go_wp2
    go_region
    go_wp2
    refine bodyPost_ret (v:= .tuple #[idV (0,0),.bool false,.iface 376 (.pointer (some (a 6)))]) (by simp[results,Tryz.results87,go_sem,t0,t1]) rfl ?_
    exact j0s HR.out (ES.sent a 6 (by decide)) (HBIN.out.below HB9.out) HB9.out
   ·have hfi:¬(L.length:Int)≥250:=by omega
    have HR:Hid (putB t L=(setB ⟨x,hldZ.uses+1,t⟩ L,x,true,0)):=zh (by unfold putB;rw[if_neg hr',hx,hg];exact if_neg hf)
    have HWR:Hid (IntKind.i64.wrap (hldZ.uses+1)=hldZ.uses+1):=zh (by decide)
    have HHW:Hid (HldW ⟨x,hldZ.uses+1,t⟩):=zh ⟨HIX.out.1,by show-9223372036854775808≤hldZ.uses+1;decide,by show hldZ.uses+1≤9223372036854775807;decide⟩
    clear hr hr' hg hx hf
    go_enter Tryz.func87,Tryz.ntmps87
    go_wp2_with fail
    generalize w.alloc (.cells #[.int .u32 0,.int .i64 0] 25)=w0 at *
    refine(HID.out w0).mono ?_
    rintro e w1 ⟨rfl,hb1⟩
    have hX1:Box2 w1.heap.size (.int .u32 (x.1:Int)) (.int .i64 x.2) (w1.alloc (.cells #[.int .u32 (x.1:Int),.int .i64 x.2] 25)):=Box2.mk' _ _ _ _
    have hb2:=hb1.alloc hb1.size (.cells #[.int .u32 (x.1:Int),.int .i64 x.2] 25)
    have hlt1:w.heap.size<w1.heap.size:=Nat.lt_of_lt_of_le HBR.out.lt hb1.size
    go_wp2_with fail
    generalize w1.alloc (.cells #[.int .u32 (x.1:Int),.int .i64 x.2] 25)=w2 at *
    have HX:=zh hX1
    have HBB:=zh (HB0B.out.below hb2)
    have HB2:=zh (HB0.out.trans (hb2.mono HB0.out.size))
    have HBR2:=zh (HBR.out.below hb2 HBR.out.lt)
    clear hX1 hb1 hb2
    go_wp2
    have hS0:Below w2.heap.size w2 w2.drew:=(zb _ _).drew
    refine kR (fun w'=>Below w2.heap.size w2 w') 11 ?_
    refine kT 0 hS0 ?_
    refine kT 1 hS0 ?_
    refine kT 2 hS0 ?_
    refine kS 3 rfl hS0 (fun w' hS=>by have A0:=(HBB.out.below hS).cell;go_simp;rfl) ?_
    refine kS 4 rfl hS0 (fun w' hS=>by have A0:=(HX.out.below hS HX.out.lt).c0;have A1:=(HX.out.below hS HX.out.lt).c1;go_simp;rfl) ?_
    refine kS 5 rfl hS0 (fun w' hS=>by have A0:=LK.out w' (HBB.out.below hS);go_simp;rfl) ?_
    refine kT 6 hS0 ?_
    refine kT 7 hS0 ?_
    refine kT 8 hS0 ?_
    refine kC 9 (fun K hK=> ?_)
    go_simp
    have hS5:Below w2.heap.size w2 ((w2.alloc (.cells #[.int .u32 0,.int .i64 0,.int .i64 0,.string ⟨#[]⟩] 150)).drew):=((zb _ w2).alloc (zl _) _).drew
    have hbh:Box4 w2.heap.size (.int .u32 0) (.int .i64 0) (.int .i64 0) (.string ⟨#[]⟩) ((w2.alloc (.cells #[.int .u32 0,.int .i64 0,.int .i64 0,.string ⟨#[]⟩] 150)).drew):=Box4.mk' w2.drew _ _ _ _ _
    refine hK _ _ hS5 ?_
    clear hK K
    try simp only[Act.put,zM]
    generalize(w2.alloc (.cells #[.int .u32 0,.int .i64 0,.int .i64 0,.string ⟨#[]⟩] 150)).drew=w6a at *
    have HBH0:=zh hbh
    obtain⟨b0,b1,b2,b3,hf⟩:=hbh
    have f0:=hf 0
    have f1:=hf 1
    have f2:=hf 2
    have f3:=hf 3
    refine kC 10 (fun K hK=> ?_)
    go_simp
    have hS6:=Z7 hS5 (zl _) (.int .u32 (hldZ.id.1:Int)) (.int .i64 hldZ.id.2) (.int .i64 hldZ.uses) (.string (bs hldZ.text))
    refine hK _ _ hS6 (kF ?_)
    clear hK K
    try simp only[Act.put,zM]
    simp only[List.drop_succ_cons,List.drop_zero]
    have HBH:=zh (HBH0.out.set (.int .u32 (hldZ.id.1:Int)) (.int .i64 hldZ.id.2) (.int .i64 hldZ.uses) (.string (bs hldZ.text)))
    generalize((((w6a.setCell ⟨w2.heap.size,0,none⟩ (.int .u32 (hldZ.id.1:Int))).setCell ⟨w2.heap.size,1,none⟩ (.int .i64 hldZ.id.2)).setCell ⟨w2.heap.size,2,none⟩ (.int .i64 hldZ.uses)).setCell ⟨w2.heap.size,3,none⟩ (.string (bs hldZ.text)))=w6 at *
    clear hS5 hS0 HBH0 b0 b1 b2 b3 hf f0 f1 f2 f3
    obtain⟨h0,h1,h2,h3,_⟩:=HBH.out
    have HB6:=zh (HB2.out.trans (hS6.mono HB2.out.size))
    have HBB6:=zh (HBB.out.below hS6)
    have HX6:=zh (HX.out.below hS6 HX.out.lt)
    have HBR6:=zh (HBR2.out.below hS6 HBR2.out.lt)
    clear hS6
    go_wp2_with fail
    refine(HRT.out _).mono ?_
    rintro e w7 ⟨rfl,rfl⟩
    have hln:=HLN.out w6 HBB6.out
    have m0:=HBB6.out.cell
    go_wp2
    have hS0:Below w6.heap.size w6 w6.drew:=(zb _ _).drew
    refine kR (fun w'=>Below w6.heap.size w6 w') 11 ?_
    refine kT 0 hS0 ?_
    refine kT 1 hS0 ?_
    refine kT 2 hS0 ?_
    refine kS 3 rfl hS0 (fun w' hS=>by have A0:=(HBB6.out.below hS).cell;go_simp;rfl) ?_
    refine kS 4 rfl hS0 (fun w' hS=>by have A0:=(HX6.out.below hS HX6.out.lt).c0;have A1:=(HX6.out.below hS HX6.out.lt).c1;go_simp;rfl) ?_
    refine kS 5 rfl hS0 (fun w' hS=>by have A0:=(HX6.out.below hS HX6.out.lt).c0;have A1:=(HX6.out.below hS HX6.out.lt).c1;go_simp;rfl) ?_
    refine kT 6 hS0 ?_
    refine kS 7 rfl hS0 (fun w' hS=>by have A2:=(HBH.out.below hS HBH.out.lt).c2;go_simp;rfl) ?_
    refine kS 8 (v:= .int .i64 (hldZ.uses+1)) rfl hS0 (fun w' hS=>by have W1:=HWR.out;go_simp) ?_
    refine kT 9 hS0 ?_
    refine kT 10 hS0 (kF ?_)
    try simp only[Act.put,zM]
    simp only[List.drop_succ_cons,List.drop_zero]
    have HT:=zh (HBB6.out.drew)
    go_wp2_with(first|(at_mapUpdate;refine wpList_mapUpdate_in _ rfl _ _ _ 155 rfl 25 150 lawI Tryz.underlying155 K6 mb L.length (V5 L) rfl HT.out.map HLEN.out (idV x) (hldV ⟨x,hldZ.uses+1,t⟩) _ rfl rfl HKEY.out (hldU ⟨x,hldZ.uses+1,t⟩) [] (z9h HHW.out) ?_;intro w8 hown8 hturn8;have hg8:=hturn8.grown;have HG8:=zh hg8;have HOWN8:=zh hown8;have HX8:=zh (z8y hg8 (by omega) (Box2.drewN HX6.out 1));have HBR8:=zh (z8y hg8 (by omega) (Box2.drewN HBR6.out 1));clear hown8 hturn8 hg8;obtain⟨x0,x1,_,_⟩:=HX8.out;obtain⟨r0,r1,g0,g1⟩:=HBR8.out)|fail)
    obtain⟨t0,t1,_⟩:=HBR8.out.rd (.int .u32 (x.1:Int)) (.int .i64 x.2)
    have HG9:=zh (j0q (j0q ((X7 HB6.out.drew).trans HG8.out) (zl _) 0 (.int .u32 (x.1:Int))) (zl _) 1 (.int .i64 x.2))
    have HB9:=zh (((HT.out.put HOK.out.srt HOK.out.idok0 ⟨x,hldZ.uses+1,t⟩ HIX.out HOWN8.out HG8.out).set (Nat.ne_of_lt hbl) (Nat.ne_of_lt hml) 0 (.int .u32 (x.1:Int))).set (Nat.ne_of_lt hbl) (Nat.ne_of_lt hml) 1 (.int .i64 x.2))
    refine bodyPost_ret (v:= .tuple #[idV x,.bool true,.nilIface]) (by simp[results,Tryz.results87,go_sem,t0,t1]) rfl ?_
    exact j0t HR.out (ES.none a) HB9.out HG9.out
end Go.Proofs.YtdmlghfggninbaaGreatDoor
