/- CmpT, OpenI, OpenN, ErrV in one text. Conditions: as each part says. -/
import Derived.Test.YtdmlghfggninbaaGreatDoorMb30
import Derived.Test.YtdmlghfggninbaaGreatDoorMb12
import Derived.Test.YtdmlghfggninbaaGreatDoorMb1
import Derived.Deep.QuietTactic
import Derived.BigQuiet
import Derived.Deep.LoopGhost
import Derived.Test.YtdmlghfggninbaaGreatDoorMb4
import Derived.Lib.SmallJoins
import Derived.Lib.LaidTab
import Derived.ChangeSlices
import Derived.Test.YtdmlghfggninbaaGreatDoorChecked
import Derived.ChangeArms
import Derived.Test.YtdmlghfggninbaaGreatDoorMb31
set_option linter.unusedVariables false
set_option linter.unusedSimpArgs false
set_option maxRecDepth 100000
namespace Go.Proofs.YtdmlghfggninbaaGreatDoor
open Go.RowKit Go.Lib
def ordZ(x y:Int):Int:=if x<y then-1 else if y<x then 1 else 0
theorem z0h(x:Int)(w:World):Calls Tryz.prog 195 #[.int .u32 x] w fun e w'=>e= .returned (.bool false)∧w=w':=by
 have h:(x==x)=true:=by simp
 go_enter Tryz.func195,Tryz.ntmps195
 go_wp2
 go_ret
 exact⟨rfl,rfl⟩
theorem z0i(x:Int)(w:World):Calls Tryz.prog 196 #[.int .i64 x] w fun e w'=>e= .returned (.bool false)∧w=w':=by
 have h:(x==x)=true:=by simp
 go_enter Tryz.func196,Tryz.ntmps196
 go_wp2
 go_ret
 exact⟨rfl,rfl⟩
theorem z0j(x y:Int)(w:World):Calls Tryz.prog 149 #[.int .u32 x,.int .u32 y] w fun e w'=>e= .returned (.int .i64 (ordZ x y))∧w=w':=by
 by_cases h1:x<y
 ·have HJ:Hid (ordZ x y= -1):=zh (by unfold ordZ;rw[if_pos h1])
  go_enter Tryz.func149,Tryz.ntmps149
  go_wp2_with(go_at_call 195;refine(z0h _ _).mono ?_;rintro e w1 ⟨rfl,rfl⟩)
  go_ret
  exact⟨by rw[HJ.out];rfl,rfl⟩
 ·by_cases h2:y<x
  ·have HJ:Hid (ordZ x y=1):=zh (by unfold ordZ;rw[if_neg h1,if_pos h2])
   go_enter Tryz.func149,Tryz.ntmps149
   go_wp2_with(go_at_call 195;refine(z0h _ _).mono ?_;rintro e w1 ⟨rfl,rfl⟩)
   go_ret
   exact⟨by rw[HJ.out];rfl,rfl⟩
  ·have HJ:Hid (ordZ x y=0):=zh (by unfold ordZ;rw[if_neg h1,if_neg h2])
   go_enter Tryz.func149,Tryz.ntmps149
   go_wp2_with(go_at_call 195;refine(z0h _ _).mono ?_;rintro e w1 ⟨rfl,rfl⟩)
   go_ret
   exact⟨by rw[HJ.out];rfl,rfl⟩
theorem z0k(x y:Int)(w:World):Calls Tryz.prog 150 #[.int .i64 x,.int .i64 y] w fun e w'=>e= .returned (.int .i64 (ordZ x y))∧w=w':=by
 by_cases h1:x<y
 ·have HJ:Hid (ordZ x y= -1):=zh (by unfold ordZ;rw[if_pos h1])
  go_enter Tryz.func150,Tryz.ntmps150
  go_wp2_with(go_at_call 196;refine(z0i _ _).mono ?_;rintro e w1 ⟨rfl,rfl⟩)
  go_ret
  exact⟨by rw[HJ.out];rfl,rfl⟩
 ·by_cases h2:y<x
  ·have HJ:Hid (ordZ x y=1):=zh (by unfold ordZ;rw[if_neg h1,if_pos h2])
   go_enter Tryz.func150,Tryz.ntmps150
   go_wp2_with(go_at_call 196;refine(z0i _ _).mono ?_;rintro e w1 ⟨rfl,rfl⟩)
   go_ret
   exact⟨by rw[HJ.out];rfl,rfl⟩
  ·have HJ:Hid (ordZ x y=0):=zh (by unfold ordZ;rw[if_neg h1,if_neg h2])
   go_enter Tryz.func150,Tryz.ntmps150
   go_wp2_with(go_at_call 196;refine(z0i _ _).mono ?_;rintro e w1 ⟨rfl,rfl⟩)
   go_ret
   exact⟨by rw[HJ.out];rfl,rfl⟩
def orZ(x y:Int):Int:=if x≠0 then x else y
theorem z0l(x y:Int)(g:Nat)(w:World)(h0:w.cell? ⟨g,0,none⟩=some (.int .i64 x))(h1:w.cell? ⟨g,1,none⟩=some (.int .i64 y)) :
  Calls Tryz.prog 148 #[.slice (some ⟨g,0,none⟩) 2 2] w fun e w'=>e= .returned (.int .i64 (orZ x y))∧w=w':=by
 by_cases hx:x=0
 ·have HJ:Hid (orZ x y=y):=zh (by unfold orZ;rw[if_neg (by simpa using hx)])
  have hxi:(x==0)=true:=by simpa using hx
  by_cases hy:y=0
  ·have hyi:(y==0)=true:=by simpa using hy
   have HY:=zh hy
   clear hx hy
   go_enter Tryz.func148,Tryz.ntmps148
   go_wp2
   refine wp_loop_rounds 3 ?_
   rw[rounds_succ]
   go_wp2
   rw[rounds_succ]
   go_wp2
   rw[rounds_succ]
   go_wp2
   go_ret
   exact⟨by rw[HJ.out,HY.out];rfl,rfl⟩
  ·have hyi:(y==0)=false:=by simpa using hy
   clear hx hy
   go_enter Tryz.func148,Tryz.ntmps148
   go_wp2
   refine wp_loop_rounds 2 ?_
   rw[rounds_succ]
   go_wp2
   rw[rounds_succ]
   go_wp2
   go_ret
   exact⟨by rw[HJ.out];rfl,rfl⟩
 ·have HJ:Hid (orZ x y=x):=zh (by unfold orZ;rw[if_pos (by simpa using hx)])
  have hxi:(x==0)=false:=by simpa using hx
  clear hx
  go_enter Tryz.func148,Tryz.ntmps148
  go_wp2
  refine wp_loop_rounds 1 ?_
  rw[rounds_succ]
  go_wp2
  go_ret
  exact⟨by rw[HJ.out];rfl,rfl⟩
def z0m(p q:Nat)(m n:Int):Int:=orZ (ordZ p q) (ordZ m n)
def C5(p q:Nat)(m n:Int):Bool:=if p≠q then decide (p<q)else decide (m<n)
theorem z0n(p q:Nat)(m n:Int):decide (z0m p q m n<0)=C5 p q m n:=by
 unfold z0m C5 orZ ordZ
 by_cases h:p=q
 ·subst h
  simp
  by_cases h1:m<n
  ·simp[h1]
  ·rw[if_neg h1]
   split<;>simp[h1]
 ·rw[if_pos h]
  rcases Nat.lt_or_gt_of_ne h with h1|h1
  ·rw[if_pos (show(p:Int)<q by omega)];simp[h1]
  ·rw[if_neg (show ¬(p:Int)<q by omega),if_pos (show(q:Int)<p by omega)];simp;omega
set_option maxHeartbeats 1000000 in
theorem z0o(p q:Nat)(m n:Int)(w:World) :
  Calls Tryz.prog 80 #[.agg #[.int .u32 (p:Int),.int .i64 m],.agg #[.int .u32 (q:Int),.int .i64 n]] w fun e w'=>e= .returned (.int .i64 (z0m p q m n))∧Below w.heap.size w w':=by
 have hb0:Below w.heap.size w ((w.alloc (.cells #[.int .u32 (p:Int),.int .i64 m] 25)).alloc (.cells #[.int .u32 (q:Int),.int .i64 n] 25)):=((zb _ w).alloc (zl _) _).alloc (by simp) _
 have ha:Box2 w.heap.size (.int .u32 (p:Int)) (.int .i64 m) ((w.alloc (.cells #[.int .u32 (p:Int),.int .i64 m] 25)).alloc (.cells #[.int .u32 (q:Int),.int .i64 n] 25)):=(Box2.mk' w _ _ _).alloc _
 have hb:Box2 (w.heap.size+1) (.int .u32 (q:Int)) (.int .i64 n) ((w.alloc (.cells #[.int .u32 (p:Int),.int .i64 m] 25)).alloc (.cells #[.int .u32 (q:Int),.int .i64 n] 25)):=by
  have:=Box2.mk' (w.alloc (.cells #[.int .u32 (p:Int),.int .i64 m] 25)) (.int .u32 (q:Int)) (.int .i64 n) 25
  simpa using this
 have HA:=zh ha
 have HB:=zh hb
 have HB0:=zh hb0
 clear ha hb hb0
 go_enter Tryz.func80,Tryz.ntmps80
 go_wp2_with fail
 generalize(w.alloc (.cells #[.int .u32 (p:Int),.int .i64 m] 25)).alloc (.cells #[.int .u32 (q:Int),.int .i64 n] 25)=w2 at *
 have hS0:Below w2.heap.size w2 w2.drew:=(zb _ _).drew
 refine kR (fun w'=>Below w2.heap.size w2 w') 12 ?_
 refine kT 0 hS0 ?_
 refine kS 1 rfl hS0 (fun w' hS=>by have A0:=(HA.out.below hS HA.out.lt).c0;have A1:=(HA.out.below hS HA.out.lt).c1;go_simp;rfl) ?_
 refine kT 2 hS0 ?_
 refine kS 3 rfl hS0 (fun w' hS=>by have B0:=(HB.out.below hS HB.out.lt).c0;have B1:=(HB.out.below hS HB.out.lt).c1;go_simp;rfl) ?_
 refine kT 5 hS0 ?_
 refine kS 6 rfl hS0 (fun w' hS=>by have A0:=(HA.out.below hS HA.out.lt).c0;have A1:=(HA.out.below hS HA.out.lt).c1;go_simp;rfl) ?_
 refine kT 7 hS0 ?_
 refine kS 8 rfl hS0 (fun w' hS=>by have B0:=(HB.out.below hS HB.out.lt).c0;have B1:=(HB.out.below hS HB.out.lt).c1;go_simp;rfl) ?_
 refine kC 4 (fun K hK=> ?_)
 go_simp
 refine(z0j p q _).mono ?_
 rintro e w3 ⟨rfl,rfl⟩
 refine hK _ _ hS0 ?_
 clear hK K
 try simp only[Act.put,zM]
 refine kC 9 (fun K hK=> ?_)
 go_simp
 refine(z0k m n _).mono ?_
 rintro e w3 ⟨rfl,rfl⟩
 refine hK _ _ hS0 ?_
 clear hK K
 try simp only[Act.put,zM]
 refine kC 10 (fun K hK=> ?_)
 go_simp
 have hS1:=hS0.alloc hS0.size (.cells #[.int .i64 (ordZ p q),.int .i64 (ordZ m n)] 3)
 refine hK _ _ hS1 ?_
 clear hK K
 try simp only[Act.put,zM]
 refine kC 11 (fun K hK=> ?_)
 go_simp
 refine(z0l (ordZ p q) (ordZ m n) w2.heap.size _ (by show(w2.alloc _).cell? ⟨w2.heap.size,0,none⟩=_;rw[World.cell?_alloc_at _ _ _ _ rfl];rfl) (by show(w2.alloc _).cell? ⟨w2.heap.size,1,none⟩=_;rw[World.cell?_alloc_at _ _ _ _ rfl];rfl)).mono ?_
 rintro e w3 ⟨rfl,rfl⟩
 refine hK _ _ hS1 (kF ?_)
 clear hK K
 try simp only[Act.put,zM]
 simp only[List.drop_succ_cons,List.drop_zero]
 have hB9:=HB0.out.trans (hS1.mono HB0.out.size)
 go_wp2
 go_ret
 exact⟨rfl,hB9⟩
theorem z0p(p q:Nat)(m n:Int)(w:World) :
  Calls Tryz.prog 130 #[.agg #[.int .u32 (p:Int),.int .i64 m],.agg #[.int .u32 (q:Int),.int .i64 n]] w fun e w'=>e= .returned (.bool (C5 p q m n))∧Below w.heap.size w w':=by
 have hb0:Below w.heap.size w ((w.alloc (.cells #[.int .u32 (p:Int),.int .i64 m] 25)).alloc (.cells #[.int .u32 (q:Int),.int .i64 n] 25)):=((zb _ w).alloc (zl _) _).alloc (by simp) _
 rw[←z0n]
 go_enter Tryz.func130,Tryz.ntmps130
 go_wp2_with fail
 generalize(w.alloc (.cells #[.int .u32 (p:Int),.int .i64 m] 25)).alloc (.cells #[.int .u32 (q:Int),.int .i64 n] 25)=w2 at *
 refine(z0o p q m n _).mono ?_
 rintro e w3 ⟨rfl,hb⟩
 have hB9:=hb0.trans (hb.mono hb0.size)
 go_wp2
 go_ret
 exact⟨rfl,hB9⟩
theorem z0q(p q:Nat)(m n:Int)(w:World) :
  Calls Tryz.prog 139 #[.agg #[.int .u32 (p:Int),.int .i64 m],.agg #[.int .u32 (q:Int),.int .i64 n]] w fun e w'=>e= .returned (.bool (C5 p q m n))∧Below w.heap.size w w':=by
 have hb0:Below w.heap.size w ((w.alloc (.cells #[.int .u32 (p:Int),.int .i64 m] 25)).alloc (.cells #[.int .u32 (q:Int),.int .i64 n] 25)):=((zb _ w).alloc (zl _) _).alloc (by simp) _
 by_cases h:p=q
 ·have HJ:Hid (C5 p q m n=decide (m<n)):=zh (by unfold C5;rw[if_neg (by simpa using h)])
  have hi:((p:Int)==(q:Int))=true:=by rw[h];simp
  clear h
  go_enter Tryz.func139,Tryz.ntmps139
  go_wp2
  go_ret
  exact⟨by rw[HJ.out];rfl,hb0⟩
 ·have HJ:Hid (C5 p q m n=decide (p<q)):=zh (by unfold C5;rw[if_pos h])
  have hi:((p:Int)==(q:Int))=false:=by rw[beq_eq_false_iff_ne];omega
  clear h
  go_enter Tryz.func139,Tryz.ntmps139
  go_wp2
  go_ret
  exact⟨by rw[HJ.out];rfl,hb0⟩
end Go.Proofs.YtdmlghfggninbaaGreatDoor
namespace Go.Proofs.YtdmlghfggninbaaGreatDoor
open Go.RowKit Go.ChangeShapes Go.WideShapes Go.Deep
theorem i64_bounds{z:Int}(h:(Lit.int .i64 z).wf=true): -9223372036854775808≤z∧z≤9223372036854775807:=by
 simp[Lit.wf,IntKind.min,IntKind.max,IntKind.bits,IntKind.signed]at h
 omega
theorem u8_bounds{z:Int}(h:(Lit.int .u8 z).wf=true):0≤z∧z<256:=by
 simp[Lit.wf,IntKind.min,IntKind.max,IntKind.bits,IntKind.signed]at h
 omega
structure ActN where
 kind:Bytes
 nm:Bytes
 s:Bytes
def ActNRd(w:World)(B:Nat)(v:Value)(l:List ActN):Prop:=
 ∃A c,v= .slice A l.length c∧l.length≤c∧(0<l.length→∃g o,A=some ⟨g,o,none⟩∧g<B∧∀k (hk:k<l.length),
  w.cell? ⟨g,o+k*3,none⟩=some (.string (bs l[k].kind))∧w.cell? ⟨g,o+k*3+1,none⟩=some (.string (bs l[k].nm))∧w.cell? ⟨g,o+k*3+2,none⟩=some (.string (bs l[k].s)))
theorem ActNRd.below{w w':World}{B:Nat}{v:Value}{l:List ActN}(h:ActNRd w B v l)(hb:Below B w w'):ActNRd w' B v l:=by
 obtain⟨A,c,hv,hc,hx⟩:=h
 refine⟨A,c,hv,hc,fun h0=> ?_⟩
 obtain⟨g,o,hA,hg,hcell⟩:=hx h0
 exact⟨g,o,hA,hg,fun k hk=>by
  obtain⟨c0,c1,c2⟩:=hcell k hk
  exact⟨(hb.cell (p:=⟨g,o+k*3,none⟩) hg).trans c0,(hb.cell (p:=⟨g,o+k*3+1,none⟩) hg).trans c1,(hb.cell (p:=⟨g,o+k*3+2,none⟩) hg).trans c2⟩⟩
theorem z0r:∃f0 f1 f2,Tryz.prog.underlying 37=some (.struct #[f0,f1,f2])∧f0.type=9∧f1.type=9∧f2.type=9∧f0.offset=0∧f1.offset=1∧f2.offset=2:=⟨_,_,_,Tryz.underlying37,by kernel_rfl,by kernel_rfl,by kernel_rfl,by kernel_rfl,by kernel_rfl,by kernel_rfl⟩
theorem z0s:Tryz.prog.cellsOf 37=3∧Tryz.prog.cellsOf 9=1:=⟨by kernel_rfl,by kernel_rfl⟩
theorem open_actNs{H:Type}{enc:TypeId×Value→H}{W:World}{base b0:Nat}{spare:Nat→Bool}{held:Bool}{r:Reach}{v:Value}{d:DataW H}{ps:List MemPlace}
  (hv:Value.okWide Tryz.prog W r b0 22 v) (h:DataW.Trod enc Tryz.prog W base spare held 22 v d ps) :
  ∃l:List ActN,ActNRd W W.heap.size v l∧(∀x∈l,x.kind.length≤maxLen∧x.nm.length≤maxLen∧x.s.length≤maxLen)∧l.length≤maxLen:=by
 obtain⟨f0,f1,f2,hu,t0,t1,t2,o0,o1,o2⟩:=z0r
 obtain⟨k4,k1⟩:=z0s
 obtain⟨A,len,cap,rfl⟩:=okWide_slice Tryz.underlying22 hv
 obtain⟨fuel,hf⟩:=h
 have hf':DataW.trod enc Tryz.prog W base spare held fuel 22 [.slice A len cap]=some (d,ps):=by simpa[Value.cells]using hf
 rcases open_slice Tryz.underlying22 hf' with⟨h1,_⟩|⟨a,len',cap',m,n,D,Pl,h1,_,hl,hm,hmm,_,hi⟩
 ·simp only[List.cons.injEq,Value.slice.injEq,and_true]at h1
  obtain⟨rfl,rfl,rfl⟩:=h1
  exact⟨[],⟨none,0,rfl,zl _,fun h=>absurd h (Nat.lt_irrefl 0)⟩,fun o h=>absurd h List.not_mem_nil,Nat.zero_le maxLen⟩
 ·simp only[List.cons.injEq,Value.slice.injEq,and_true]at h1
  obtain⟨rfl,rfl,rfl⟩:=h1
  have hlm:len≤m:=by rw[hmm];split<;>omega
  rcases Nat.eq_zero_or_pos len with h0|h0
  ·subst h0
   exact⟨[],⟨some a,cap,rfl,hl,fun h=>absurd h (Nat.lt_irrefl 0)⟩,fun o h=>absurd h List.not_mem_nil,Nat.zero_le maxLen⟩
  ·have each:∀i,i<len→∃q:Bytes×Bytes×Bytes,W.cell? (a.add (i*3+0))=some (.string (bs q.1))∧W.cell? (a.add (i*3+1))=some (.string (bs q.2.1))∧W.cell? (a.add (i*3+2))=some (.string (bs q.2.2)) ∧
     q.1.length≤maxLen∧q.2.1.length≤maxLen∧q.2.2.length≤maxLen:=fun i hi'=>by
    obtain⟨cs,hc,ht⟩:=hi i (by omega)
    rw[k4]at hc
    obtain⟨_,hcl,hat⟩:=World.cells?_some hc
    obtain⟨x0,x1,x2,rfl⟩:∃a b c,cs= [a,b,c]:=by
     match cs,hcl with
     | [a,b,c],_=>exact⟨a,b,c,rfl⟩
    obtain⟨ys,n',_,_,_,_,hf⟩:=DataW.trod_struct hu ht
    have g0:=hf 0 f0 rfl
    have g1:=hf 1 f1 rfl
    have g2:=hf 2 f2 rfl
    rw[o0,t0,k1]at g0
    rw[o1,t1,k1]at g1
    rw[o2,t2,k1]at g2
    have hys:ys.length=3:=by assumption
    obtain⟨y0,y1,y2,rfl⟩:∃a b c,ys= [a,b,c]:=by
     match ys,hys with
     | [a,b,c],_=>exact⟨a,b,c,rfl⟩
    obtain⟨u0,q0,_,w0⟩:=DataW.trod_string Tryz.underlying9 (show DataW.trod enc Tryz.prog W base spare held n' 9 [x0]=some y0 from g0)
    obtain⟨u1,q1,_,w1⟩:=DataW.trod_string Tryz.underlying9 (show DataW.trod enc Tryz.prog W base spare held n' 9 [x1]=some y1 from g1)
    obtain⟨u2,q2,_,w2⟩:=DataW.trod_string Tryz.underlying9 (show DataW.trod enc Tryz.prog W base spare held n' 9 [x2]=some y2 from g2)
    simp only[List.cons.injEq,and_true]at q0 q1 q2
    subst q0;subst q1;subst q2
    have a0:=hat 0 (by omega)
    have a1:=hat 1 (by omega)
    have a2:=hat 2 (by omega)
    rw[Go.Deep.add_add]at a0 a1 a2
    refine⟨(u0.data.toList,u1.data.toList,u2.data.toList),?_,?_,?_,by rw[←Z4];exact w0,by rw[←Z4];exact w1,by rw[←Z4];exact w2⟩
    ·rw[a0];show some (Value.string u0)=some (.string (bs u0.data.toList));rw[q0s]
    ·rw[a1];show some (Value.string u1)=some (.string (bs u1.data.toList));rw[q0s]
    ·rw[a2];show some (Value.string u2)=some (.string (bs u2.data.toList));rw[q0s]
   obtain⟨F,hF⟩:=choose_lt each
   have hsp:=z5v (hF 0 h0).1
   have hll:((List.range len).map fun i=>(⟨(F i).1,(F i).2.1,(F i).2.2⟩:ActN)).length=len:=by simp
   obtain⟨g,o,sp⟩:=a
   have hsp':sp=none:=by
    have:=hsp
    unfold Addr.add at this
    split at this<;>simp_all
   subst hsp'
   refine⟨(List.range len).map fun i=>⟨(F i).1,(F i).2.1,(F i).2.2⟩,⟨_,cap,by rw[hll],by rw[hll];exact hl,fun _=>⟨g,o,rfl,?_,fun k hk=> ?_⟩⟩,fun q hq=> ?_,by rw[hll];omega⟩
   ·have:=(hF 0 h0).1
    rw[Addr.add_lit]at this
    exact World.block_lt_of_cell? W _ this
   ·have hk':k<len:=by rw[hll]at hk;exact hk
    obtain⟨c0,c1,c2,_⟩:=hF k hk'
    rw[Addr.add_lit]at c0 c1 c2
    simp only[List.getElem_map,List.getElem_range]
    exact⟨c0,c1,c2⟩
   ·simp only[List.mem_map,List.mem_range]at hq
    obtain⟨i,hi',rfl⟩:=hq
    obtain⟨_,_,_,h1,h2,h3⟩:=hF i hi'
    exact⟨h1,h2,h3⟩
end Go.Proofs.YtdmlghfggninbaaGreatDoor
namespace Go.Proofs.YtdmlghfggninbaaGreatDoor
open Go.RowKit
def ErrV(a:Nat→Addr)(v:Value)(c t:Int)(w:World):Prop:=
 (v= .nilIface∧c=0∧t= -1)∨(∃p m,v= .iface 376 (.pointer (some p))∧PErr a p m w∧c=q7y m∧t= -1) ∨
  ∃b o p m,v= .iface 170 (.pointer (some ⟨b,o,none⟩))∧PErr a p m w∧c=q7y m∧w.cell? ⟨b,o,none⟩=some (.int .i64 t)∧w.cell? ⟨b,o+1,none⟩=some (.iface 376 (.pointer (some p)))
theorem ErrV.none(a:Nat→Addr)(w:World):ErrV a .nilIface 0 (-1) w:= .inl ⟨rfl,rfl,rfl⟩
theorem ErrV.sent{a:Nat→Addr}{w:World}(h:Sents a w)(k:Nat)(hk:k<12):ErrV a (sval a k) ((k:Int)+1) (-1) w:= .inr (.inl ⟨_,_,rfl,h.perr hk,rfl,rfl⟩)
theorem ErrV.fault{a:Nat→Addr}{w:World}(h:Sents a w)(k:Nat)(hk:k<12){b o:Nat}{t:Int}(h0:w.cell? ⟨b,o,.none⟩=some (.int .i64 t))(h1:w.cell? ⟨b,o+1,.none⟩=some (sval a k)) :
  ErrV a (.iface 170 (.pointer (some ⟨b,o,.none⟩))) ((k:Int)+1) t w:= .inr (.inr ⟨_,_,_,_,rfl,h.perr hk,rfl,h0,h1⟩)
theorem ErrV.below{a:Nat→Addr}{v:Value}{c t:Int}{w w':World}(h:ErrV a v c t w)(hb:Below w.heap.size w w'):ErrV a v c t w':=by
 rcases h with h|⟨p,m,h1,h2,h3⟩|⟨b,o,p,m,h1,h2,h3,h4,h5⟩
 ·exact .inl h
 ·exact .inr (.inl ⟨p,m,h1,h2.below hb,h3⟩)
 ·exact .inr (.inr ⟨b,o,p,m,h1,h2.below hb,h3,(hb.cell (p:=⟨b,o,.none⟩) (World.block_lt_of_cell? w _ h4)).trans h4,(hb.cell (p:=⟨b,o+1,.none⟩) (World.block_lt_of_cell? w _ h5)).trans h5⟩)
theorem z0t(a:Nat→Addr)(v:Value)(c t:Int)(w:World)(h:Sents a w)(he:ErrV a v c t w) :
  Calls Tryz.prog 61 #[v] w fun e w'=>e= .returned (.tuple #[.int .i64 c,.int .i64 t])∧Below w.heap.size w w':=by
 rcases he with⟨rfl,rfl,rfl⟩|⟨p,m,rfl,h2,rfl,rfl⟩|⟨b,o,p,m,rfl,h2,rfl,h4,h5⟩
 ·exact(q8b w).mono fun _ _ ⟨h1,h2⟩=>⟨h1,by rw[←h2];exact zb _ _⟩
 ·exact q8c a p m w h h2
 ·exact q8d a b o t p m w h h2 h4 h5
def z0u(code c t:Int):Bool:=decide (c=code∧t= -1)
theorem z0v(a:Nat→Addr)(v:Value)(code c t:Int)(w:World)(h:Sents a w)(he:ErrV a v c t w) :
  Calls Tryz.prog 20 #[v,.int .i64 code] w fun e w'=>e= .returned (.bool (z0u code c t))∧Below w.heap.size w w':=by
 have HS:=zh h
 have HE:=zh he
 clear h he
 by_cases h1:c=code
 ·by_cases h2:t= -1
  ·have q1:(c==code)=true:=by simpa using h1
   have q2:(t== -1)=true:=by simpa using h2
   have HQ:Hid (z0u code c t=true):=zh (by unfold z0u;simp[h1,h2])
   clear h1 h2
   go_enter Tryz.func20,Tryz.ntmps20
   go_wp2_with(go_at_call 61;refine(z0t a v c t _ HS.out HE.out).mono ?_;rintro e w1 ⟨rfl,hb⟩)
   go_ret
   exact⟨by rw[HQ.out];rfl,hb⟩
  ·have q1:(c==code)=true:=by simpa using h1
   have q2:(t== -1)=false:=by simpa using h2
   have HQ:Hid (z0u code c t=false):=zh (by unfold z0u;simp[h2])
   clear h1 h2
   go_enter Tryz.func20,Tryz.ntmps20
   go_wp2_with(go_at_call 61;refine(z0t a v c t _ HS.out HE.out).mono ?_;rintro e w1 ⟨rfl,hb⟩)
   go_ret
   exact⟨by rw[HQ.out];rfl,hb⟩
 ·have q1:(c==code)=false:=by simpa using h1
  have HQ:Hid (z0u code c t=false):=zh (by unfold z0u;simp[h1])
  clear h1
  go_enter Tryz.func20,Tryz.ntmps20
  go_wp2_with(go_at_call 61;refine(z0t a v c t _ HS.out HE.out).mono ?_;rintro e w1 ⟨rfl,hb⟩)
  go_ret
  exact⟨by rw[HQ.out];rfl,hb⟩
end Go.Proofs.YtdmlghfggninbaaGreatDoor
