/- BnD, BnS, BnT, BfR in one text. Conditions: as each part says. -/
import Derived.Test.YtdmlghfggninbaaGreatDoorBnP
import Derived.Test.YtdmlghfggninbaaGreatDoorBnL
import Derived.Maps.RangeWalk
import Derived.Deep.LoopGhost
import Derived.Lib.SmallJoins
import Derived.Shelf.SlMaps.Clone
import Derived.Test.YtdmlghfggninbaaGreatDoorMb16
import Derived.Test.YtdmlghfggninbaaGreatDoorBfM
set_option linter.unusedVariables false
set_option linter.unusedSimpArgs false
set_option maxHeartbeats 4000000
set_option maxRecDepth 100000
namespace Go.Proofs.YtdmlghfggninbaaGreatDoor
open Go.RowKit Go.Lib Go.Maps Go.WideMaps
theorem Box4.set2'{b:Nat}{x y z u:Value}{w:World}(h:Box4 b x y z u w)(v:Value):Box4 b x y v u (w.setCell ⟨b,2,none⟩ v):=
 ⟨by rw[D4 (by decide)];exact h.c0,by rw[D4 (by decide)];exact h.c1,World.cell?_setCell_same _ _ _ h.c2,by rw[D4 (by decide)];exact h.c3,fun j=>by rw[World.frozen?_setCell];exact h.f j⟩
def j0v(a:Nat→Addr)(b mb:Nat)(L:HldL)(x:Idn)(w:World)(e:Ending)(w':World):Prop:=
 ∃r,e= .returned r∧ES a r (G0 x L).2∧OBin b mb (G0 x L).1 w'∧w.grownBy w' (some mb)
theorem j0w{a:Nat→Addr}{b mb:Nat}{L:HldL}{x:Idn}{w w':World}{c:Int}{r:Value}(h:G0 x L=(L,c))(hr:ES a r c)(hB:OBin b mb L w')(hb:Below w.heap.size w w') :
  j0v a b mb L x w (.returned r) w':=⟨r,rfl,by rw[h];exact hr,by rw[h];exact hB,X7 hb⟩
theorem j0x(a:Nat→Addr)(b mb:Nat)(L:HldL)(n:Int)(hn:n≤4611686018427387904)(hL:BinOk n L)(hl:L.length≤1000000)(x:Idn)(hx:IdOk x)(w:World)(hB:OBin b mb L w)(hs:SomeS [4,10] a w) :
  Calls Tryz.prog 93 #[.pointer (some ⟨b,0,none⟩),idV x] w (j0v a b mb L x w):=by
 have hb0:Below w.heap.size w (w.alloc (.cells #[.int .u32 (x.1:Int),.int .i64 x.2] 25)):=(zb _ w).alloc (zl _) _
 have HB0:=zh hb0
 have HBIN:=zh hB
 have HBB:=zh (hB.below hb0)
 have HX:=zh (Box2.mk' w (.int .u32 (x.1:Int)) (.int .i64 x.2) 25)
 have HS:Hid (∀w',Below w.heap.size w w'→SomeS [4,10] a w'):=zh (fun w' h=>hs.below h)
 have hbl:=hB.lt
 have hml:=hB.map.lt
 have HLEN:Hid (L.length<maxLen):=zh (by unfold maxLen;omega)
 have HOK:=zh hL
 have HIX:=zh hx
 have HKEY:=zh (keyI hx)
 clear hb0 hs hB hL hx
 cases hg:getB L x with
 | some o=>
  have LK:=zh (fun w' (h:OBin b mb L w')=>h.look_some HOK.out.idok HIX.out hg)
  have hou:=(HOK.out.all o (q0i hg).1).uses
  have HOX:=zh (q0i hg).2
  have HIO:=zh (HOK.out.idok0 o (q0i hg).1)
  by_cases h0:o.uses=0
  ·have hui:(o.uses==0)=true:=by rw[h0];rfl
   have HR:Hid (G0 x L=(L,11)):=zh (by unfold G0;rw[hg];exact if_pos h0)
   clear hg hou h0
   go_enter Tryz.func93,Tryz.ntmps93
   go_wp2_with fail
   generalize w.alloc (.cells #[.int .u32 (x.1:Int),.int .i64 x.2] 25)=w0 at *
   go_wp2
   have hS0:Below w0.heap.size w0 w0.drew:=(zb _ _).drew
   refine kR (fun w'=>Below w0.heap.size w0 w') 11 ?_
   refine kT 0 hS0 ?_
   refine kT 1 hS0 ?_
   refine kT 2 hS0 ?_
   refine kS 3 rfl hS0 (fun w' hS=>by have A0:=(HBB.out.below hS).cell;go_simp;rfl) ?_
   refine kS 4 rfl hS0 (fun w' hS=>by have A0:=(HX.out.below hS HX.out.lt).c0;have A1:=(HX.out.below hS HX.out.lt).c1;go_simp;rfl) ?_
   refine kS 5 rfl hS0 (fun w' hS=>by have A0:=LK.out w' (HBB.out.below hS);go_simp;rfl) ?_
   refine kT 6 hS0 ?_
   refine kT 7 hS0 ?_
   refine kT 8 hS0 ?_
   refine kC 9 (fun K hK=> ?_)
   go_simp
   have hS5:Below w0.heap.size w0 ((w0.alloc (.cells #[.int .u32 0,.int .i64 0,.int .i64 0,.string ⟨#[]⟩] 150)).drew):=((zb _ w0).alloc (zl _) _).drew
   have hbh:Box4 w0.heap.size (.int .u32 0) (.int .i64 0) (.int .i64 0) (.string ⟨#[]⟩) ((w0.alloc (.cells #[.int .u32 0,.int .i64 0,.int .i64 0,.string ⟨#[]⟩] 150)).drew):=Box4.mk' w0.drew _ _ _ _ _
   refine hK _ _ hS5 ?_
   clear hK K
   try simp only[Act.put,zM]
   generalize(w0.alloc (.cells #[.int .u32 0,.int .i64 0,.int .i64 0,.string ⟨#[]⟩] 150)).drew=w6a at *
   have HBH0:=zh hbh
   obtain⟨b0,b1,b2,b3,hf⟩:=hbh
   have f0:=hf 0
   have f1:=hf 1
   have f2:=hf 2
   have f3:=hf 3
   refine kC 10 (fun K hK=> ?_)
   go_simp
   have hS6:=Z7 hS5 (zl _) (.int .u32 (o.id.1:Int)) (.int .i64 o.id.2) (.int .i64 o.uses) (.string (bs o.text))
   refine hK _ _ hS6 (kF ?_)
   clear hK K
   try simp only[Act.put,zM]
   simp only[List.drop_succ_cons,List.drop_zero]
   have HBH:=zh (HBH0.out.set (.int .u32 (o.id.1:Int)) (.int .i64 o.id.2) (.int .i64 o.uses) (.string (bs o.text)))
   generalize((((w6a.setCell ⟨w0.heap.size,0,none⟩ (.int .u32 (o.id.1:Int))).setCell ⟨w0.heap.size,1,none⟩ (.int .i64 o.id.2)).setCell ⟨w0.heap.size,2,none⟩ (.int .i64 o.uses)).setCell ⟨w0.heap.size,3,none⟩ (.string (bs o.text)))=w6 at *
   clear hS5 hS0 HBH0 b0 b1 b2 b3 hf f0 f1 f2 f3
   obtain⟨h0,h1,h2,h3,_⟩:=HBH.out
   have HB6:=zh (HB0.out.trans (hS6.mono HB0.out.size))
   have HBB6:=zh (HBB.out.below hS6)
   have HX6:=zh (HX.out.below hS6 HX.out.lt)
   have s0:w6.cell? ⟨10,0,none⟩=some (sval a 10):=(HS.out w6 HB6.out) 10 (by simp)
   unfold sval at s0
   clear hS6
   go_wp2
   go_ret
   exact j0w HR.out (ES.sent a 10 (by decide)) HBB6.out HB6.out
  ·have hui:(o.uses==0)=false:=by rw[beq_eq_false_iff_ne];exact h0
   have HR:Hid (G0 x L=(setB ⟨o.id,o.uses-1,o.text⟩ L,0)):=zh (by unfold G0;rw[hg];exact if_neg h0)
   have HWR:Hid (IntKind.i64.wrap (o.uses-1)=o.uses-1):=zh (IntWalk.i64_in _ (by omega))
   have HHW:Hid (HldW ⟨o.id,o.uses-1,o.text⟩):=zh ⟨HIO.out.1,by show-9223372036854775808≤o.uses-1;omega,by show o.uses-1≤9223372036854775807;omega⟩
   have u0:1≤o.uses:=by omega
   have u1:o.uses≤4611686018427387904:=by omega
   clear hg hou h0
   go_enter Tryz.func93,Tryz.ntmps93
   go_wp2_with fail
   generalize w.alloc (.cells #[.int .u32 (x.1:Int),.int .i64 x.2] 25)=w0 at *
   go_wp2
   have hS0:Below w0.heap.size w0 w0.drew:=(zb _ _).drew
   refine kR (fun w'=>Below w0.heap.size w0 w') 11 ?_
   refine kT 0 hS0 ?_
   refine kT 1 hS0 ?_
   refine kT 2 hS0 ?_
   refine kS 3 rfl hS0 (fun w' hS=>by have A0:=(HBB.out.below hS).cell;go_simp;rfl) ?_
   refine kS 4 rfl hS0 (fun w' hS=>by have A0:=(HX.out.below hS HX.out.lt).c0;have A1:=(HX.out.below hS HX.out.lt).c1;go_simp;rfl) ?_
   refine kS 5 rfl hS0 (fun w' hS=>by have A0:=LK.out w' (HBB.out.below hS);go_simp;rfl) ?_
   refine kT 6 hS0 ?_
   refine kT 7 hS0 ?_
   refine kT 8 hS0 ?_
   refine kC 9 (fun K hK=> ?_)
   go_simp
   have hS5:Below w0.heap.size w0 ((w0.alloc (.cells #[.int .u32 0,.int .i64 0,.int .i64 0,.string ⟨#[]⟩] 150)).drew):=((zb _ w0).alloc (zl _) _).drew
   have hbh:Box4 w0.heap.size (.int .u32 0) (.int .i64 0) (.int .i64 0) (.string ⟨#[]⟩) ((w0.alloc (.cells #[.int .u32 0,.int .i64 0,.int .i64 0,.string ⟨#[]⟩] 150)).drew):=Box4.mk' w0.drew _ _ _ _ _
   refine hK _ _ hS5 ?_
   clear hK K
   try simp only[Act.put,zM]
   generalize(w0.alloc (.cells #[.int .u32 0,.int .i64 0,.int .i64 0,.string ⟨#[]⟩] 150)).drew=w6a at *
   have HBH0:=zh hbh
   obtain⟨b0,b1,b2,b3,hf⟩:=hbh
   have f0:=hf 0
   have f1:=hf 1
   have f2:=hf 2
   have f3:=hf 3
   refine kC 10 (fun K hK=> ?_)
   go_simp
   have hS6:=Z7 hS5 (zl _) (.int .u32 (o.id.1:Int)) (.int .i64 o.id.2) (.int .i64 o.uses) (.string (bs o.text))
   refine hK _ _ hS6 (kF ?_)
   clear hK K
   try simp only[Act.put,zM]
   simp only[List.drop_succ_cons,List.drop_zero]
   have HBH:=zh (HBH0.out.set (.int .u32 (o.id.1:Int)) (.int .i64 o.id.2) (.int .i64 o.uses) (.string (bs o.text)))
   generalize((((w6a.setCell ⟨w0.heap.size,0,none⟩ (.int .u32 (o.id.1:Int))).setCell ⟨w0.heap.size,1,none⟩ (.int .i64 o.id.2)).setCell ⟨w0.heap.size,2,none⟩ (.int .i64 o.uses)).setCell ⟨w0.heap.size,3,none⟩ (.string (bs o.text)))=w6 at *
   clear hS5 hS0 HBH0 b0 b1 b2 b3 hf f0 f1 f2 f3
   obtain⟨h0,h1,h2,h3,_⟩:=HBH.out
   have HB6:=zh (HB0.out.trans (hS6.mono HB0.out.size))
   have HBB6:=zh (HBB.out.below hS6)
   have HX6:=zh (HX.out.below hS6 HX.out.lt)
   have hf2:=HBH.out.f 2
   have HS6:=zh hS6
   have hS7:Below w0.heap.size w0 (w6.setCell ⟨w0.heap.size,2,none⟩ (.int .i64 (o.uses-1))):=hS6.setCell (p:=⟨w0.heap.size,2,none⟩) (zl _) _
   have HBH7:=zh (Box4.set2' HBH.out (.int .i64 (o.uses-1)))
   have HB7:=zh (HB0.out.trans (hS7.mono HB0.out.size))
   have HBB7:=zh (HBB.out.below hS7)
   have HX7:=zh (HX.out.below hS7 HX.out.lt)
   clear hS6 hS7
   go_wp2
   generalize w6.setCell ⟨w0.heap.size,2,none⟩ (.int .i64 (o.uses-1))=w7 at *
   have hS0:Below w7.heap.size w7 w7.drew:=(zb _ _).drew
   refine kR (fun w'=>Below w7.heap.size w7 w') 6 ?_
   refine kT 0 hS0 ?_
   refine kT 1 hS0 ?_
   refine kT 2 hS0 ?_
   refine kS 3 rfl hS0 (fun w' hS=>by have A0:=(HBB7.out.below hS).cell;go_simp;rfl) ?_
   refine kS 4 rfl hS0 (fun w' hS=>by have A0:=(HX7.out.below hS HX7.out.lt).c0;have A1:=(HX7.out.below hS HX7.out.lt).c1;go_simp;rfl) ?_
   refine kS 5 rfl hS0 (fun w' hS=>by have A0:=(HBH7.out.below hS HBH7.out.lt).c0;have A1:=(HBH7.out.below hS HBH7.out.lt).c1;have A2:=(HBH7.out.below hS HBH7.out.lt).c2;have A3:=(HBH7.out.below hS HBH7.out.lt).c3;go_simp;rfl) (kF ?_)
   try simp only[Act.put,zM]
   simp only[List.drop_succ_cons,List.drop_zero]
   have HT:=zh (HBB7.out.drew)
   go_wp2_with(first|(at_mapUpdate;refine wpList_mapUpdate_in _ rfl _ _ _ 155 rfl 25 150 lawI Tryz.underlying155 K6 mb L.length (V5 L) rfl HT.out.map HLEN.out (idV x) (hldV ⟨o.id,o.uses-1,o.text⟩) _ rfl rfl HKEY.out (hldU ⟨o.id,o.uses-1,o.text⟩) [] (z9h HHW.out) ?_;intro w8 hown8 hturn8;have hg8:=hturn8.grown;have HG8:=zh hg8;have HOWN8:=zh hown8;clear hown8 hturn8 hg8)|fail)
   go_ret
   have hown:=HOWN8.out
   rw[←HOX.out]at hown
   exact⟨_,rfl,by rw[HR.out];exact ES.none a,by rw[HR.out];exact HT.out.put HOK.out.srt HOK.out.idok0 ⟨o.id,o.uses-1,o.text⟩ HIO.out hown HG8.out,(X7 HB7.out.drew).trans HG8.out⟩
 | none=>
  have LK:=zh (fun w' (h:OBin b mb L w')=>h.look_none HOK.out.idok HIX.out hg)
  have HR:Hid (G0 x L=(L,5)):=zh (by unfold G0;rw[hg])
  clear hg
  go_enter Tryz.func93,Tryz.ntmps93
  go_wp2_with fail
  generalize w.alloc (.cells #[.int .u32 (x.1:Int),.int .i64 x.2] 25)=w0 at *
  go_wp2
  have hS0:Below w0.heap.size w0 w0.drew:=(zb _ _).drew
  refine kR (fun w'=>Below w0.heap.size w0 w') 11 ?_
  refine kT 0 hS0 ?_
  refine kT 1 hS0 ?_
  refine kT 2 hS0 ?_
  refine kS 3 rfl hS0 (fun w' hS=>by have A0:=(HBB.out.below hS).cell;go_simp;rfl) ?_
  refine kS 4 rfl hS0 (fun w' hS=>by have A0:=(HX.out.below hS HX.out.lt).c0;have A1:=(HX.out.below hS HX.out.lt).c1;go_simp;rfl) ?_
  refine kS 5 rfl hS0 (fun w' hS=>by have A0:=LK.out w' (HBB.out.below hS);go_simp;rfl) ?_
  refine kT 6 hS0 ?_
  refine kT 7 hS0 ?_
  refine kT 8 hS0 ?_
  refine kC 9 (fun K hK=> ?_)
  go_simp
  have hS5:Below w0.heap.size w0 ((w0.alloc (.cells #[.int .u32 0,.int .i64 0,.int .i64 0,.string ⟨#[]⟩] 150)).drew):=((zb _ w0).alloc (zl _) _).drew
  have hbh:Box4 w0.heap.size (.int .u32 0) (.int .i64 0) (.int .i64 0) (.string ⟨#[]⟩) ((w0.alloc (.cells #[.int .u32 0,.int .i64 0,.int .i64 0,.string ⟨#[]⟩] 150)).drew):=Box4.mk' w0.drew _ _ _ _ _
  refine hK _ _ hS5 ?_
  clear hK K
  try simp only[Act.put,zM]
  generalize(w0.alloc (.cells #[.int .u32 0,.int .i64 0,.int .i64 0,.string ⟨#[]⟩] 150)).drew=w6a at *
  have HBH0:=zh hbh
  obtain⟨b0,b1,b2,b3,hf⟩:=hbh
  have f0:=hf 0
  have f1:=hf 1
  have f2:=hf 2
  have f3:=hf 3
  refine kC 10 (fun K hK=> ?_)
  go_simp
  have hS6:=Z7 hS5 (zl _) (.int .u32 (hldZ.id.1:Int)) (.int .i64 hldZ.id.2) (.int .i64 hldZ.uses) (.string (bs hldZ.text))
  refine hK _ _ hS6 (kF ?_)
  clear hK K
  try simp only[Act.put,zM]
  simp only[List.drop_succ_cons,List.drop_zero]
  have HBH:=zh (HBH0.out.set (.int .u32 (hldZ.id.1:Int)) (.int .i64 hldZ.id.2) (.int .i64 hldZ.uses) (.string (bs hldZ.text)))
  generalize((((w6a.setCell ⟨w0.heap.size,0,none⟩ (.int .u32 (hldZ.id.1:Int))).setCell ⟨w0.heap.size,1,none⟩ (.int .i64 hldZ.id.2)).setCell ⟨w0.heap.size,2,none⟩ (.int .i64 hldZ.uses)).setCell ⟨w0.heap.size,3,none⟩ (.string (bs hldZ.text)))=w6 at *
  clear hS5 hS0 HBH0 b0 b1 b2 b3 hf f0 f1 f2 f3
  obtain⟨h0,h1,h2,h3,_⟩:=HBH.out
  have HB6:=zh (HB0.out.trans (hS6.mono HB0.out.size))
  have HBB6:=zh (HBB.out.below hS6)
  have HX6:=zh (HX.out.below hS6 HX.out.lt)
  have s0:w6.cell? ⟨0,0,none⟩=some (sval a 4):=(HS.out w6 HB6.out) 4 (by simp)
  unfold sval at s0
  clear hS6
  go_wp2
  go_ret
  exact j0w HR.out (ES.sent a 4 (by decide)) HBB6.out HB6.out
theorem j0y{v:Value}{kl:Lit}(h:keyOf Tryz.prog 25 v=some kl):∃x,IdOk x∧v=idV x∧kl=Z6 x:=by
 have h1:Tryz.prog.keyType 25=true:=by kernel_rfl
 have hc:Tryz.prog.cellsOf 25=2:=by kernel_rfl
 obtain⟨m,hm⟩:∃m,Tryz.prog.types.size+1=m+2:=⟨Tryz.prog.types.size-1,by have:0<Tryz.prog.types.size:=of_decide_eq_true (by kernel_rfl);omega⟩
 unfold keyOf at h
 rw[Tryz.underlying25]at h
 simp only[h1,Bool.true_and]at h
 split at h
 ·next hf=>
  cases v with
  | agg cs=>
   have hsz:cs.size=2:=by
    have:=hf
    unfold Value.formed at this
    rw[Tryz.underlying25]at this
    simpa[hc]using this
   obtain⟨c0,c1,rfl⟩:∃c0 c1,cs= #[c0,c1]:=by
    obtain⟨l⟩:=cs
    match l,hsz with
    | [a,b],_=>exact⟨a,b,rfl⟩
   simp only[Value.cells]at h
   rw[hm]at h
   have hk:∃p n,c0= .int .u32 p∧c1= .int .i64 n∧(Lit.int .u32 p).wf=true∧(Lit.int .i64 n).wf=true:=by
    have hc1:Tryz.prog.cellsOf 23=1:=by kernel_rfl
    have hc2:Tryz.prog.cellsOf 3=1:=by kernel_rfl
    cases c0 with
    | int q a=>
     by_cases h0:q= .u32∧(Lit.int .u32 a).wf=true
     ·cases c1 with
      | int q1 a1=>
       by_cases h2:q1= .i64∧(Lit.int .i64 a1).wf=true
       ·exact⟨a,a1,by rw[h0.1],by rw[h2.1],h0.2,h2.2⟩
       ·exfalso
        simp[Program.keyLits,Tryz.underlying25,Tryz.underlying23,Tryz.underlying3,hc,hc1,hc2,h0,h2]at h
      | _=>
       exfalso
       simp[Program.keyLits,Tryz.underlying25,Tryz.underlying23,Tryz.underlying3,hc,hc1,hc2,h0]at h
     ·exfalso
      simp[Program.keyLits,Tryz.underlying25,Tryz.underlying23,Tryz.underlying3,hc,hc1,hc2,h0]at h
    | _=>
     exfalso
     simp[Program.keyLits,Tryz.underlying25,Tryz.underlying23,Tryz.underlying3,hc,hc1,hc2]at h
   obtain⟨p,n,rfl,rfl,w1,w2⟩:=hk
   simp[Lit.wf,IntKind.min,IntKind.max,IntKind.bits,IntKind.signed]at w1 w2
   have hix:IdOk (p.toNat,n):=⟨by show p.toNat<_;omega,by show _≤n;omega,by show n≤_;omega⟩
   have hv:Value.agg #[.int .u32 p,.int .i64 n]=idV (p.toNat,n):=by show _=Value.agg #[.int .u32 ((p.toNat:Nat):Int),.int .i64 n];rw[show((p.toNat:Nat):Int)=p by omega]
   refine⟨(p.toNat,n),hix,hv,?_⟩
   have:=keyI hix
   rw[←hv]at this
   unfold keyOf at this
   rw[Tryz.underlying25]at this
   simp only[h1,Bool.true_and,hf,if_true,Value.cells,hm]at this
   rw[this]at h
   exact(Option.some.inj h).symm
  | _=>simp[Value.formed,Tryz.underlying25]at hf
 ·cases h
theorem j0z:∀key kl,keyOf Tryz.prog 25 key=some kl→∃x:Idn,key=idV x:=fun _ _ h=>by obtain⟨x,_,hv,_⟩:=j0y h;exact⟨x,hv⟩
theorem j1a:∀(v:Value) (y:DataW Unit×List MemPlace),K6 v=some y→∃h:Hld,v=hldV h:=fun _ _ h=>by obtain⟨o,hv,_⟩:=z9i h;exact⟨o,hv⟩
theorem j1b{x y:Idn}(h:idV x=idV y):x=y:=by
 injection h with h
 injection h with h
 injection h with h1 h
 injection h with h2 _
 injection h1 with _ h1
 injection h2 with _ h2
 exact Prod.ext (by omega) h2
theorem j1c{x y:Hld}(h:hldV x=hldV y):x=y:=by
 injection h with h
 injection h with h
 injection h with h1 h
 injection h with h2 h
 injection h with h3 h
 injection h with h4 _
 injection h1 with _ h1
 injection h2 with _ h2
 injection h3 with _ h3
 injection h4 with h4
 obtain⟨⟨p,l⟩,u,s⟩:=x
 obtain⟨⟨p',l'⟩,u',s'⟩:=y
 simp only at h1 h2 h3 h4
 have e1:p=p':=by omega
 have e4:s=s':=by have:=congrArg (fun b:ByteArray=>b.data.toList) h4;simpa[Q3]using this
 subst e1;subst h2;subst h3;subst e4
 rfl
theorem came{L:HldL}(hL:∀y∈L,IdOk y.id){x:Idn}{o:Hld}{kl:Lit}{yd:DataW Unit}{yp:List MemPlace}(hkey:keyOf Tryz.prog 25 (idV x)=some kl)(hv:K6 (hldV o)=some (yd,yp))(hat:∀zd,(V5 L).atKey kl zd=yd) :
  IdOk x∧kl=Z6 x∧o∈L∧o.id=x∧yd=hldU o:=by
 obtain⟨x',hx,e,rfl⟩:=j0y hkey
 obtain rfl:=j1b e
 obtain⟨o',e2,e3,_⟩:=z9i hv
 obtain rfl:=j1c e2
 injection e3 with e3 _
 subst e3
 have h1:=hat (hldU hldZ)
 rw[z2y hL hx]at h1
 have h2:=hat .nil
 cases hg:getB L x with
 | some p=>
  rw[hg]at h1
  obtain rfl:=z9j h1
  obtain⟨m1,m2⟩:=q0i hg
  exact⟨hx,rfl,m1,m2,rfl⟩
 | none=>
  exfalso
  have hh:=z2x hL hx
  rw[hg]at hh
  rw[Maps.atKey_of_not_has hh]at h2
  cases h2
def sumL(left:Lit→Bool)(L:HldL):Int:=((L.filter fun h=> !left (Z6 h.id)).map fun h=>h.id.2).sum
theorem j1d(left:Lit→Bool)(y:Hld)(r:HldL):sumL left (y::r)=(if left (Z6 y.id)=true then 0 else y.id.2)+sumL left r:=by
 unfold sumL
 rw[List.filter_cons]
 cases left (Z6 y.id)<;>simp
theorem j1e{L:HldL}(hL:∀y∈L,IdOk y.id):sumL (Maps.has (V5 L)) L=0:=by
 have:(L.filter fun h=> !Maps.has (V5 L) (Z6 h.id))= []:=by
  rw[List.filter_eq_nil_iff]
  intro h hh
  rw[z2x hL (hL h hh)]
  cases hg:getB L h.id with
  | some _=>simp
  | none=>exact absurd rfl (z2w.1 hg h hh)
 unfold sumL
 rw[this];rfl
theorem j1f{left:Lit→Bool}{o:Hld}(ho:IdOk o.id)(hl:left (Z6 o.id)=true):∀ {M:HldL},SrtB M→(∀y∈M,IdOk y.id) →
  sumL (fun z=>left z&& !z.sameKey (Z6 o.id)) M=sumL left M+(if(getB M o.id).isSome=true then o.id.2 else 0)
 | [],_,_=>by simp[sumL,getB]
 | y::r,hs,hM=>by
  obtain⟨h1,h2⟩:=G5.1 hs
  have ih:=j1f ho hl h2 (fun z hz=>hM z (List.mem_cons_of_mem _ hz))
  rw[j1d,j1d,ih,R7 (hM y List.mem_cons_self) ho]
  by_cases e:y.id=o.id
  ·have hn:getB r o.id=none:=z2w.2 fun z hz e2=>q0j (h1 z hz) (e.trans e2.symm)
   have hg:(getB (y::r) o.id).isSome=true:=by unfold getB;simp[e]
   rw[hg,hn,e,hl];simp;omega
  ·have hg:getB (y::r) o.id=getB r o.id:=by unfold getB;simp[e]
   rw[hg]
   simp[e]
   split<;>omega
theorem j1g{left:Lit→Bool}{L:HldL}(hl:∀kl,left kl=false):sumL left L=J8 L:=by
 unfold sumL J8
 rw[List.filter_eq_self.2 (fun h _=>by simp[hl])]
theorem j1h{left:Lit→Bool}{L:HldL}(h:∀x∈L,0≤x.id.2∧x.id.2≤64):0≤sumL left L∧sumL left L≤64*L.length:=by
 induction L with
 | nil=>simp[sumL]
 | cons y r ih=>
  have h1:=ih (fun x hx=>h x (List.mem_cons_of_mem _ hx))
  have h2:=h y List.mem_cons_self
  rw[j1d,List.length_cons]
  split<;>omega
theorem BinOk.lens{n:Int}{L:HldL}(h:BinOk n L):∀x∈L,0≤x.id.2∧x.id.2≤64:=fun x hx=>by
 have h1:=h.all x hx
 have h2:=h1.len
 rw[h1.id]
 show(0:Int)≤((x.text.length:Nat):Int)∧((x.text.length:Nat):Int)≤64
 omega
theorem j1i(b mb:Nat)(L:HldL)(n:Int)(hL:BinOk n L)(hl:L.length≤1000000)(w:World)(hB:OBin b mb L w) :
  Calls Tryz.prog 88 #[.pointer (some ⟨b,0,none⟩)] w fun e w'=>e= .returned (.int .i64 (J8 L))∧Below w.heap.size w w':=by
 have HB:=zh hB
 have HOK:=zh hL
 have c0:=hB.cell
 have hbl:=hB.lt
 have hml:=hB.map.lt
 clear hB hL
 go_enter Tryz.func88,Tryz.ntmps88
 go_wp2_with(first|(at_range;refine wpList_range_own _ rfl _ 155 rfl 25 150 lawI Tryz.underlying155 K6 mb L.length (V5 L) rfl HB.out.map ?_;intro w0 hrg0 hg0 hs0)|fail)
 go_frame
 have HRG0:=zh hrg0
 have HG0:=zh hg0
 have HS0:=zh hs0
 clear hrg0 hg0 hs0
 go_loopg [3] (Maps.size (V5 L)) (fun gh v3 wr=>∃(left:Lit→Bool) (z:Int),wr.ranges Tryz.prog 25 K6 mb w.heap.size L.length (V5 L) left gh∧v3= .int .i64 z∧Hid (z=sumL left L)∧0≤z∧z≤64*(L.length:Int)∧Below w.heap.size w wr)
 case atStart=>exact⟨_,0,HRG0.out,rfl,zh (j1e HOK.out.idok).symm,by omega,by omega,(zb _ _).grown HG0.out (zl _) (fun j hj=>by cases hj)⟩
 case round=>
  obtain⟨left,z,hrg,rfl,hz,hz0,hz1,hB⟩:=hrel
  go_wp2_with(first|(at_next;refine wpList_next_ranges _ rfl _ rfl 25 lawI K6 idV hldV j0z j1a mb w.heap.size L.length (V5 L) left _ rfl hrg ?_ ?_)|fail)
  ·intro _ hl0
   have HZ:Hid (z=J8 L):=zh (hz.out.trans (j1g hl0))
   clear hl0
   go_wp2
   go_ret
   exact⟨by rw[HZ.out];rfl,hB⟩
  ·intro x1 x2 o kl yd yp w2 cnt2 hkey hlk hv hat hrg2 hlt hg2 hs2 hen
   obtain⟨hx,rfl,hm,hox,rfl⟩:=came (x:=(x1,x2)) HOK.out.idok hkey hv hat
   rw[←hox]at hx hkey hlk hat hrg2 hen ⊢
   clear hox
   have hl1:=HOK.out.lens o hm
   have hsome:(getB L o.id).isSome=true:=by
    cases hg:getB L o.id with
    | some _=>rfl
    | none=>exact absurd rfl (z2w.1 hg o hm)
   have hst:=j1f hx hlk HOK.out.srt HOK.out.idok
   rw[hsome,if_pos rfl,←hz.out]at hst
   have HST:=zh hst
   have hbd:=j1h (left:=fun z=>left z&& !z.sameKey (Z6 o.id)) HOK.out.lens
   rw[hst]at hbd
   have hb2:Below w.heap.size w w2:=hB.grown hg2 hB.size (fun j hj=>by cases hj;exact zl _)
   have HB2:=zh (hb2.alloc hb2.size (.cells #[.int .u32 (o.id.1:Int),.int .i64 o.id.2] 25))
   have HRG2:=zh (hrg2.alloc (.cells #[.int .u32 (o.id.1:Int),.int .i64 o.id.2] 25))
   clear hkey hlk hv hat hrg2 hg2 hs2 hst hsome hz hB hb2 hx hm hrg
   go_wp2
   go_roundg cnt2
   case measure=>exact hlt
   case rel=>exact⟨_,z+o.id.2,HRG2.out,rfl,zh HST.out.symm,hbd.1,hbd.2,HB2.out⟩
theorem j1j(x:Idn)(o:Hld)(w:World):Calls Tryz.prog 158 #[idV x,hldV o] w fun e w'=>e= .returned (.bool (o.uses==0))∧Below w.heap.size w w':=by
 have hb:Below w.heap.size w ((w.alloc (.cells #[.int .u32 (x.1:Int),.int .i64 x.2] 25)).alloc (.cells #[.int .u32 (o.id.1:Int),.int .i64 o.id.2,.int .i64 o.uses,.string (bs o.text)] 150)):=((zb _ w).alloc (zl _) _).alloc (by simp) _
 go_enter Tryz.func158,Tryz.ntmps158
 go_wp2
 go_ret
 exact⟨rfl,hb⟩
def pdB:Lit→DataW Unit→Bool
 | _,.agg [_,_,.lit (.int _ u),_]=>u==0
 | _,_=>false
theorem j1k(kl:Lit)(o:Hld):pdB kl (hldU o)=(o.uses==0):=rfl
theorem j1l(L:HldL):Lib.deleteFuncD pdB (V5 L)=V5 (J6 L):=by
 unfold J6
 refine z3e C6 pdB L (fun x _=> ?_)
 rw[j1k]
 unfold C6
 by_cases h:x.uses=0<;>simp[h]
theorem mkL{L:HldL}{p:Lit×DataW Unit}(h:p∈L.map fun h=>(Z6 h.id,hldU h)):∃o∈L,p=(Z6 o.id,hldU o):=by
 obtain⟨o,ho,e⟩:=List.mem_map.1 h
 exact⟨o,ho,e.symm⟩
theorem j1m{L:HldL}(hs:SrtB L)(hL:∀y∈L,IdOk y.id):(L.map fun h=>(Z6 h.id,hldU h)).Pairwise (fun p q=>p.1≠q.1):=by
 induction L with
 | nil=>exact List.Pairwise.nil
 | cons y r ih=>
  obtain⟨h1,h2⟩:=G5.1 hs
  rw[List.map_cons]
  refine List.pairwise_cons.2 ⟨fun q hq=> ?_,ih h2 (fun z hz=>hL z (List.mem_cons_of_mem _ hz))⟩
  obtain⟨o,ho,rfl⟩:=mkL hq
  intro e
  have:=R7 (hL y List.mem_cons_self) (hL o (List.mem_cons_of_mem _ ho))
  rw[show Z6 y.id=Z6 o.id from e]at this
  rw[WideAt.sameKey_self (by rw[z2q (hL o (List.mem_cons_of_mem _ ho))];trivial)]at this
  exact q0j (h1 o ho) (by simpa using this.symm)
theorem j1n{L:HldL}(hs:SrtB L)(hL:∀y∈L,IdOk y.id){left:Lit→Bool}{x:Idn}{o:Hld}{kl:Lit}{yd:DataW Unit}{yp:List MemPlace}(hkey:keyOf Tryz.prog 25 (idV x)=some kl)(hlk:left kl=true)(hv:K6 (hldV o)=some (yd,yp))
  (hat:∀zd,(Fk pdB (L.map fun h=>(Z6 h.id,hldU h)) left).atKey kl zd=yd):IdOk x∧kl=Z6 x∧o∈L∧o.id=x∧yd=hldU o:=by
 obtain⟨x',hx,e,rfl⟩:=j0y hkey
 obtain rfl:=j1b e
 obtain⟨o',e2,e3,_⟩:=z9i hv
 obtain rfl:=j1c e2
 injection e3 with e3 _
 subst e3
 have hk:WideAt.IsKeyLit (Z6 x):=by rw[z2q hx];trivial
 have hh:=Maps.has_true_of_atKey hat
 unfold Fk at hh
 rw[Maps.has_eq,List.any_eq_true]at hh
 obtain⟨q,hq,hsk⟩:=hh
 have hq':=(List.mem_filter.1 hq).1
 obtain⟨o2,ho2,rfl⟩:=mkL hq'
 have hid:o2.id=x:=by
  have:=R7 (hL o2 ho2) hx
  rw[show(Z6 o2.id).sameKey (Z6 x)=true from hsk]at this
  simpa using this.symm
 have:=at_cameK (j1m hs hL) hk hlk hat (Z6 o2.id,hldU o2) hq' (by rw[hid])
 have h3:=z9j this
 subst h3
 exact⟨hx,rfl,ho2,hid,rfl⟩
theorem j1o(mb:Nat)(L:HldL)(n:Int)(hL:BinOk n L)(w:World)(hM:w.ownsMap Tryz.prog 25 K6 mb L.length (V5 L)) :
  Calls Tryz.prog 157 #[.map (some mb),.func (.func 158) #[] #[]] w fun e w'=>e= .returned (.tuple #[])∧w'.ownsMap Tryz.prog 25 K6 mb L.length (V5 (J6 L))∧w.grownBy w' (some mb):=by
 have HM:=zh hM
 have HOK:=zh hL
 have hml:=hM.lt
 have HAP:=zh (j1m hL.srt hL.idok)
 have HKY:Hid (∀p∈L.map (fun h=>(Z6 h.id,hldU h)),WideAt.IsKeyLit p.1):=zh (fun p hp=>by
  obtain⟨o,ho,rfl⟩:=mkL hp
  show WideAt.IsKeyLit (Z6 o.id)
  rw[z2q (hL.idok o ho)];trivial)
 clear hM hL
 go_enter Tryz.func157,Tryz.ntmps157
 go_wp2_with(first|(at_range;refine wpList_range_own _ rfl _ 155 rfl 25 150 lawI Tryz.underlying155 K6 mb L.length (V5 L) rfl HM.out ?_;intro w0 hrg0 hg0 hs0)|fail)
 go_frame
 have HRG0:=zh hrg0
 have HG0:=zh hg0
 clear hrg0 hg0 hs0
 go_loopg [] (Maps.size (V5 L)) (fun gh wr=>∃left:Lit→Bool,wr.ranges Tryz.prog 25 K6 mb w.heap.size L.length (Fk pdB (L.map fun h=>(Z6 h.id,hldU h)) left) left gh∧w.grownBy wr (some mb))
 case atStart=>exact⟨Maps.has (V5 L),by rw[show Fk pdB (L.map fun h=>(Z6 h.id,hldU h)) (Maps.has (V5 L))=V5 L from Fk_start HKY.out];exact HRG0.out,HG0.out.but _⟩
 case round=>
  obtain⟨left,hrg,hgw⟩:=hrel
  go_wp2_with(first|(at_next;refine wpList_next_ranges _ rfl _ rfl 25 lawI K6 idV hldV j0z j1a mb w.heap.size L.length _ left _ rfl hrg ?_ ?_)|fail)
  ·intro _ hl0
   have HZ:Hid (Fk pdB (L.map fun h=>(Z6 h.id,hldU h)) left=V5 (J6 L)):=zh ((Fk_end hl0).trans (j1l L))
   have HOW:=zh hrg.owns
   have HGW:=zh hgw
   clear hl0 hrg hgw
   go_wp2
   go_end0
   exact⟨rfl,by rw[←HZ.out];exact HOW.out,HGW.out⟩
  ·intro x1 x2 o kl yd yp w2 cnt2 hkey hlk hv hat hrg2 hlt hg2 hs2 hen
   obtain⟨hx,rfl,hm,hox,rfl⟩:=j1n (x:=(x1,x2)) HOK.out.srt HOK.out.idok hkey hlk hv hat
   rw[←hox]at hx hkey hlk hat hrg2 hen ⊢
   clear hox
   have hgw2:=hgw.andThen hg2 (fun j hj=>by cases hj;exact Or.inl (zl _))
   have hb3:Below w2.heap.size w2 ((w2.alloc (.cells #[.int .u32 (o.id.1:Int),.int .i64 o.id.2] 25)).alloc (.cells #[.int .u32 (o.id.1:Int),.int .i64 o.id.2,.int .i64 o.uses,.string (bs o.text)] 150)):=((zb _ w2).alloc (zl _) _).alloc (by simp) _
   have hx3:Box2 w2.heap.size (.int .u32 (o.id.1:Int)) (.int .i64 o.id.2) ((w2.alloc (.cells #[.int .u32 (o.id.1:Int),.int .i64 o.id.2] 25)).alloc (.cells #[.int .u32 (o.id.1:Int),.int .i64 o.id.2,.int .i64 o.uses,.string (bs o.text)] 150)):=(Box2.mk' w2 _ _ _).alloc _
   have HX:=zh hx
   have HLK:=zh hlk
   have HAT:=zh hat
   have HRG2:=zh hrg2
   have HGW2:=zh hgw2
   have HB3:=zh hb3
   have HX3:=zh hx3
   clear hkey hlk hv hat hrg2 hg2 hs2 hm hrg hgw hgw2 hb3 hx3 hx
   go_wp2_with fail
   refine(j1j o.id o _).mono ?_
   rintro e w4 ⟨rfl,hb4⟩
   have hx4:=HX3.out.below hb4 HX3.out.lt
   have hb24:=HB3.out.trans (hb4.mono HB3.out.size)
   have HRG4:=zh (HRG2.out.kept (X7 (r:=none) hb24) (by simp) (by simp))
   have HGW4:=zh (HGW2.out.andThen (X7 (r:=none) hb24) (fun j hj=>by cases hj))
   obtain⟨x0,y0,_,_⟩:=hx4
   clear hb4 hb24
   cases hu:(o.uses==0)with
   | true=>
    have HU:=zh hu
    clear hu
    go_wp2_with(first|(at_delete;refine wpList_delete_ranges _ rfl _ _ 155 25 rfl 150 lawI Tryz.underlying155 K6 mb w.heap.size L.length _ _ _ rfl HRG4.out _ _ rfl (keyI HX.out) ?_;intro w5 cnt5 hrg5 hle hturn;go_frame)|fail)
    have hgw5:=HGW4.out.andThen hturn.grown (fun j hj=>by cases hj;exact Or.inr rfl)
    rw[Maps.strike_twice]at hrg5
    have hst:=Fk_struck HAP.out (show WideAt.IsKeyLit (Z6 o.id) by rw[z2q HX.out];trivial) HLK.out (show pdB (Z6 o.id) (hldU o)=true from HU.out) HAT.out
    rw[hst]at hrg5
    have HRG5:=zh hrg5
    have HGW5:=zh hgw5
    clear hrg5 hgw5 hst hturn
    go_roundg cnt5
    case measure=>omega
    case rel=>exact⟨_,HRG5.out,HGW5.out⟩
   | false=>
    have HU:=zh hu
    clear hu
    have hst:=Fk_stays HAP.out (show WideAt.IsKeyLit (Z6 o.id) by rw[z2q HX.out];trivial) HLK.out (show pdB (Z6 o.id) (hldU o)=false from HU.out) HAT.out
    have hrg4:=HRG4.out
    rw[hst]at hrg4
    have HRG5:=zh hrg4
    clear hst hrg4
    go_wp2
    go_roundg cnt2
    case measure=>exact hlt
    case rel=>exact⟨_,HRG5.out,HGW4.out⟩
theorem j1p(L:HldL):J8 L-J8 (J6 L)=J8 (L.filter fun h=> !C6 h):=by
 have:=z3j C6 L
 unfold J6;omega
theorem j1q(b mb:Nat)(L:HldL)(n:Int)(hL:BinOk n L)(hl:L.length≤1000000)(w:World)(hB:OBin b mb L w) :
  Calls Tryz.prog 96 #[.pointer (some ⟨b,0,none⟩)] w fun e w'=>e= .returned (.int .i64 (J8 (L.filter fun h=> !C6 h)))∧OBin b mb (J6 L) w'∧w.grownBy w' (some mb):=by
 have HB:=zh hB
 have HOK:=zh hL
 have hbl:=hB.lt
 have hml:=hB.map.lt
 have hsz:=hL.size
 have hL2:BinOk n (J6 L):=z3o hL C6
 have hl2:(J6 L).length≤L.length:=List.length_filter_le _ _
 have hsz2:=hL2.size
 have HOK2:=zh hL2
 have HSS:=zh (j1p L)
 have HSL:Hid ((J6 L).length≤1000000):=zh (by omega)
 have q1:0≤J8 (J6 L):=hsz2.1
 have q2:J8 (J6 L)≤64000000:=by omega
 have q3:0≤J8 L:=hsz.1
 have q4:J8 L≤64000000:=by omega
 clear hB hL hL2 hsz hsz2 hl2
 go_enter Tryz.func96,Tryz.ntmps96
 go_wp2_with fail
 refine(j1i b mb L n HOK.out hl w HB.out).mono ?_
 rintro e w1 ⟨rfl,hb1⟩
 have HB1:=zh (HB.out.below hb1)
 have HBW:=zh hb1
 have c0:=HB1.out.cell
 clear hb1
 go_wp2_with fail
 refine(j1o mb L n HOK.out w1 HB1.out.map).mono ?_
 rintro e w2 ⟨rfl,hm2,hg2⟩
 have hB2:OBin b mb (J6 L) w2:=⟨(hg2.block b HB1.out.lt (fun e=>HB1.out.ne (Option.some.inj e))).trans HB1.out.row,z9n hm2,HB1.out.ne⟩
 have HB2:=zh hB2
 have HG2:=zh ((X7 (r:=some mb) HBW.out).trans hg2)
 clear hm2 hg2 hB2
 go_wp2_with fail
 refine(j1i b mb (J6 L) n HOK2.out HSL.out w2 HB2.out).mono ?_
 rintro e w3 ⟨rfl,hb3⟩
 have HB3:=zh (HB2.out.below hb3)
 have HG3:=zh (HG2.out.trans (X7 (r:=some mb) hb3))
 clear hb3
 go_wp2
 go_ret
 exact⟨by rw[←HSS.out];rfl,HB3.out,HG3.out⟩
theorem j1r(b mb:Nat)(L:HldL)(w:World)(hB:OBin b mb L w) :
  Calls Tryz.prog 46 #[.pointer (some ⟨b,0,none⟩)] w fun e w'=>∃b2 mb2,e= .returned (.pointer (some ⟨b2,0,none⟩))∧OBin b2 mb2 L w'∧w.heap.size≤b2∧w.heap.size≤mb2∧Below w.heap.size w w':=by
 have HB:=zh hB
 have c0:=hB.cell
 have CL:=zh (AnyW.maps_Clone_owns Tryz.clone103 25 K6 mb L.length (V5 L) w hB.map)
 clear hB
 go_enter Tryz.func46,Tryz.ntmps46
 go_wp2_with fail
 refine CL.out.mono ?_
 rintro e w1 ⟨rfl,ho1,_,hb1⟩
 have HO1:=zh ho1
 have HB1:=zh hb1
 have hlt:=ho1.lt
 clear ho1 hb1
 go_wp2
 go_ret
 refine⟨w1.heap.size,w.heap.size,rfl,⟨heap_alloc_new w1 _,HO1.out.alloc _,by omega⟩,HB1.out.size,zl _,HB1.out.alloc HB1.out.size _⟩
end Go.Proofs.YtdmlghfggninbaaGreatDoor
namespace Go.Proofs.YtdmlghfggninbaaGreatDoor
open Go.RowKit Go.Lib
theorem j1s{s:Bytes}{x:Hld}{r:Bytes}(h:oneF s=some (x,r)):x.text.length≤s.length:=by
 obtain⟨head,rest,i,u,p,n,k,h1,_,_,_,_,rfl,_⟩:=z3r h
 obtain⟨rfl,_⟩:=D8 _ _ _ _ h1
 show(rest.take n).length≤_
 simp only[List.length_append,List.length_cons,List.length_take];omega
theorem j1t(acc:HldL)(x:Hld)(h:acc.length<(acc++ [x]).length):D3 (acc++ [x]) acc.length (acc++ [x])[acc.length]=B7 acc.getLast? x:=by
 unfold D3
 rw[List.getElem_append_right (zl _)]
 simp only[Nat.sub_self,List.getElem_cons_zero]
 by_cases h0:acc.length=0
 ·have:acc= []:=List.eq_nil_of_length_eq_zero h0
  subst this
  rfl
 ·rw[if_neg h0,List.getElem?_append_left (by omega),List.getLast?_eq_getElem?]
theorem j1u(w:World)(o:Obj)(x y z u:Value)(t:TypeId):∀j q,[x,y,z,u][j]? =some q→((w.alloc o).alloc (.cells #[x,y,z,u] t)).cell? ((⟨w.heap.size+1,0,none⟩:Addr).add j)=some q:=by
 have:=j0c (w.alloc o) x y z u t
 rwa [show(w.alloc o).heap.size=w.heap.size+1 by simp]at this
theorem j1v(l:Bytes):(bs l).toList=l:=by rw[ByteArray.toList_eq,Q3]
theorem SomeS.partR{ks js:List Nat}{a:Nat→Addr}{w:World}(h:SomeS ks a w)(hj:∀k∈js,k∈ks):SomeS js a w:=fun k hk=>h k (hj k hk)
def j1w(a:Nat→Addr)(s:Bytes)(w:World)(e:Ending)(w':World):Prop:=∃v r,e= .returned (.tuple #[v,r])∧EV a r (Y5 s).2.1 (Y5 s).2.2 w'∧w'.ownsRow w.heap.size 150 4 v (Y5 s).1.length (Q6 (Y5 s).1)∧Below w.heap.size w w'
theorem j1x{a:Nat→Addr}{s:Bytes}{w w':World}{r:Value}{c t:Int}(h:Y5 s=([],c,t))(hr:EV a r c t w')(hb:Below w.heap.size w w'):j1w a s w (.returned (.tuple #[.slice none 0 0,r])) w':=by
 unfold j1w
 rw[h]
 exact⟨_,_,rfl,hr,World.ownsRow_nil _ _ _ _,hb⟩
theorem j1y{a:Nat→Addr}{s:Bytes}{w w':World}{v:Value}{L:HldL}(h:Y5 s=(L,0,-1))(hv:w'.ownsRow w.heap.size 150 4 v L.length (Q6 L))(hb:Below w.heap.size w w'):j1w a s w (.returned (.tuple #[v,.nilIface])) w':=by
 unfold j1w
 rw[h]
 exact⟨_,_,rfl,EV.none a w',hv,hb⟩
theorem j1z{w:World}{base:Nat}{v:Value}{L:HldL}{x:Hld}(h:w.ownsRow base 150 4 v (L.length+1) (Q6 L++hldC x)):w.ownsRow base 150 4 v (L++ [x]).length (Q6 (L++ [x])):=by
 rw[j0g,List.length_append];exact h
theorem j2a{s:Bytes}(h:¬ 40000<s.length):Y5 s=z4c [] s:=by unfold Y5;rw[if_neg h]
theorem j2b(a:Nat→Addr)(s:Bytes)(hs:s.length≤2^40)(w:World)(htab:Tabs w)(hm:MaxL w)(hp:Perrs w)(hs0:SomeS [0,1,7,8] a w) :
  Calls Tryz.prog 124 #[.string (bs s)] w (j1w a s w):=by
 have hsz:(bs s).size=s.length:=Q8 s
 have HS:=zh hs0
 by_cases h4:40000<s.length
 ·have h4i:(s.length:Int)>40000:=by omega
  have HR:Hid (Y5 s=([],2,-1)):=zh (by unfold Y5;rw[if_pos h4])
  have s1:w.cell? ⟨5,0,none⟩=some (sval a 1):=hs0 1 (by simp)
  unfold sval at s1
  clear htab hm hp hs0 h4
  go_enter Tryz.func124,Tryz.ntmps124
  go_wp2
  go_quiet (fail)
  go_wp2
  go_ret2
  exact j1x HR.out (EV.sent a _ 1 (by decide)) (V3 (zb _ _) _)
 ·have h4i:¬(s.length:Int)>40000:=by omega
  have HR:=zh (j2a h4)
  have HT:=zh htab
  have HM:=zh hm
  have HP:=zh hp
  obtain⟨i0,hi,hz0,hz1,hz2⟩:=info_parts j0d
  clear htab hm hp hs0
  go_enter Tryz.func124,Tryz.ntmps124
  go_wp2
  go_loopg [0,4] s.length (fun gh v0 v4 wr=>∃(s':Bytes) (acc:HldL),v0=VT s'∧gh=s'.length∧Hid (Y5 s=z4c acc s')∧acc.length+s'.length≤s.length∧Hid (∀x∈acc,x.text.length≤s.length)∧wr.ownsRow w.heap.size 150 4 v4 acc.length (Q6 acc)∧Below w.heap.size w wr)
  case atStart=>exact⟨s,[],rfl,rfl,HR,by simp,zh (fun x hx=>by cases hx),World.ownsRow_nil _ _ _ _,zb _ _⟩
  case round=>
   obtain⟨s',acc,rfl,hgm,hrd,hal,hax,hrow,hB⟩:=hrel
   have HROW:=zh hrow
   have HB:=zh hB
   by_cases hn:s'= []
   ·subst hn
    have HG:Hid (Y5 s=(acc,0,-1)):=zh (by rw[hrd.out,z4d])
    obtain⟨A,c,rfl⟩:=J0 hrow
    clear hrd hax hrow hB
    have q1:(bs ([]:Bytes)).toList.isEmpty=true:=by rw[j1v];rfl
    go_wp2
    go_ret2
    exact j1y HG.out HROW.out HB.out
   ·have q1:(bs s').toList.isEmpty=false:=by rw[j1v];simpa using hn
    have hs'30:s'.length≤2^30:=by omega
    have ONE:=zh (k4o a s' hs'30 wr (HT.out.below hB) (HM.out.below hB) (HP.out.below hB) ((HS.out.below hB).partR (by decide)))
    clear hrow hB
    cases ho:oneF s' with
    | none=>
     have HG:Hid (Y5 s=([],1,(acc.length:Int))):=zh (by rw[hrd.out,z4e hn ho])
     have HO:=zh ho
     clear hrd hax ho
     go_wp2_with fail
     refine ONE.out.mono ?_
     rintro e w1 ⟨he,hb1⟩
     rw[HO.out]at he
     subst he
     have hB1:=HB.out.trans (hb1.mono HB.out.size)
     have hB2:=hB1.alloc hB1.size (.cells #[.int .u32 (hldZ.id.1:Int),.int .i64 hldZ.id.2,.int .i64 hldZ.uses,.string (bs hldZ.text)] 150)
     have HX4:=zh (Box4.mk' w1 (.int .u32 (hldZ.id.1:Int)) (.int .i64 hldZ.id.2) (.int .i64 hldZ.uses) (.string (bs hldZ.text)) 150)
     have HBW:=zh hB2
     have HROW2:=zh (Q4 (Q4 HROW.out hb1) ((zb w1.heap.size w1).alloc (zl _) (.cells #[.int .u32 (hldZ.id.1:Int),.int .i64 hldZ.id.2,.int .i64 hldZ.uses,.string (bs hldZ.text)] 150)))
     have s0:(w1.alloc (.cells #[.int .u32 (hldZ.id.1:Int),.int .i64 hldZ.id.2,.int .i64 hldZ.uses,.string (bs hldZ.text)] 150)).cell? ⟨4,0,none⟩=some (sval a 0):=(HS.out.below hB2) 0 (by simp)
     unfold sval at s0
     have hwz:w.heap.size≤w1.heap.size:=hB1.size
     clear hb1 hB1 hB2 q1
     go_wp2_with(at_builtin;refine wpList_append_own _ rfl _ _ 91 rfl w.heap.size 150 i0 (.agg #[.int .u32 0,.int .i64 0,.int .i64 0,.string ByteArray.empty]) 4 40 Tryz.underlying91 hi hz0 hz1 hz2 rfl (by decide) _ _ _ rfl (HROW2.out.alloc _) ⟨w1.heap.size+1,0,none⟩ 1 1 [.int .u32 0,.int .i64 0,.int .i64 0,.string ⟨#[]⟩] rfl rfl (j1u _ _ _ _ _ _ _) (by simp[Value.oneCell']) (by unfold maxLen;omega) (by omega) (by simp;omega) ?_;intro v8 w8 ho8 hg8 _;obtain⟨A8,c8,rfl⟩:=J0 ho8)
     have HB8:=zh (Z3 (HBW.out.alloc HBW.out.size _) (by simp;omega) (HROW2.out.alloc _) hg8)
     have W1:IntKind.i64.wrap (acc.length:Int)=(acc.length:Int):=IntWalk.i64_in _ (by omega)
     clear ho8 hg8
     go_wp2
     go_ret2
     exact j1x HG.out (q4x a w8 0 (by decide) (acc.length:Int) 173) (HB8.out.alloc HB8.out.size _)
    | some q=>
     obtain⟨x,r⟩:=q
     have HO:=zh ho
     have hsh:=z3s ho
     have htx:=j1s ho
     have HAX2:Hid (∀y∈acc++ [x],y.text.length≤s.length):=zh (fun y hy=>by
      rcases List.mem_append.1 hy with hy|hy
      ·exact hax.out y hy
      ·rw[List.mem_singleton.1 hy];omega)
     have HRD:=zh (z4f (acc:=acc) hn ho)
     have HRM:=zh (z4g (acc:=acc) hn ho)
     have HMK:=zh (j1t acc x)
     clear hax ho htx
     go_wp2_with fail
     refine ONE.out.mono ?_
     rintro e w1 ⟨he,hb1⟩
     rw[HO.out]at he
     subst he
     have hB1:=HB.out.trans (hb1.mono HB.out.size)
     have hB2:=hB1.alloc hB1.size (.cells #[.int .u32 (x.id.1:Int),.int .i64 x.id.2,.int .i64 x.uses,.string (bs x.text)] 150)
     have HX4:=zh (Box4.mk' w1 (.int .u32 (x.id.1:Int)) (.int .i64 x.id.2) (.int .i64 x.uses) (.string (bs x.text)) 150)
     have HBW:=zh hB2
     have HROW2:=zh (Q4 (Q4 HROW.out hb1) ((zb w1.heap.size w1).alloc (zl _) (.cells #[.int .u32 (x.id.1:Int),.int .i64 x.id.2,.int .i64 x.uses,.string (bs x.text)] 150)))
     have s0:(w1.alloc (.cells #[.int .u32 (x.id.1:Int),.int .i64 x.id.2,.int .i64 x.uses,.string (bs x.text)] 150)).cell? ⟨4,0,none⟩=some (sval a 0):=(HS.out.below hB2) 0 (by simp)
     unfold sval at s0
     have hwz:w.heap.size≤w1.heap.size:=hB1.size
     clear hb1 hB1 hB2 q1
     obtain⟨x0,x1,x2,x3,_⟩:=HX4.out
     go_wp2_with(at_builtin;refine wpList_append_own _ rfl _ _ 91 rfl w.heap.size 150 i0 (.agg #[.int .u32 0,.int .i64 0,.int .i64 0,.string ByteArray.empty]) 4 40 Tryz.underlying91 hi hz0 hz1 hz2 rfl (by decide) _ _ _ rfl (HROW2.out.alloc _) ⟨w1.heap.size+1,0,none⟩ 1 1 [.int .u32 (x.id.1:Int),.int .i64 x.id.2,.int .i64 x.uses,.string (bs x.text)] rfl rfl (j1u _ _ _ _ _ _ _) (by simp[Value.oneCell']) (by unfold maxLen;omega) (by omega) (by simp;omega) ?_;intro v8 w8 ho8 hg8 _;obtain⟨A8,c8,rfl⟩:=J0 ho8)
     have HROW8:=zh (j1z ho8)
     have HB8:=zh (Z3 (HBW.out.alloc HBW.out.size _) (by simp;omega) (HROW2.out.alloc _) hg8)
     have W1:IntKind.i64.wrap (acc.length:Int)=(acc.length:Int):=IntWalk.i64_in _ (by omega)
     have hl8:(acc++ [x]).length=acc.length+1:=by simp
     have HMA:=zh (k6a a (.slice A8 (acc.length+1) c8) (acc++ [x]) (by rw[hl8];omega) (fun y hy=>by have:=HAX2.out y hy;omega) acc.length (by rw[hl8];omega) w8.heap.size w8 (by have:=RdL.own HROW8.out;exact this) (zl _) ((HS.out.below HB8.out).partR (by decide)))
     clear ho8 hg8 x0 x1 x2 x3
     go_wp2_with fail
     refine HMA.out.mono ?_
     rintro e w9 ⟨r8,rfl,hes,hb9⟩
     rw[HMK.out (by simp)]at hes
     have HB9:=zh (HB8.out.trans (hb9.mono HB8.out.size))
     have HROW9:=zh (Q4 HROW8.out hb9)
     clear hb9
     by_cases hmk:B7 acc.getLast? x=0
     ·have HG:Hid (Y5 s=z4c (acc++ [x]) r):=zh (by rw[hrd.out,HRD.out hmk])
      obtain⟨rfl,_⟩:=hes.nil hmk
      clear hes hmk hrd
      go_wp2
      go_roundg r.length
      case measure=>omega
      case rel=>exact⟨r,acc++ [x],rfl,rfl,HG,by rw[List.length_append];simp;omega,HAX2,HROW9.out,HB9.out⟩
     ·have HG:Hid (Y5 s=([],B7 acc.getLast? x,(acc.length:Int))):=zh (by rw[hrd.out,HRM.out hmk])
      rcases hes with⟨_,h0⟩|⟨k9,hk9,rfl,hcd⟩
      ·exact absurd h0 hmk
      ·have HK9:=zh hk9
       have HCD:=zh hcd
       unfold sval
       clear hmk hrd hk9 hcd
       go_wp2
       go_ret2
       refine j1x HG.out ?_ (HB9.out.alloc HB9.out.size _)
       rw[HCD.out]
       exact q4x a w9 k9 HK9.out (acc.length:Int) 173
end Go.Proofs.YtdmlghfggninbaaGreatDoor
