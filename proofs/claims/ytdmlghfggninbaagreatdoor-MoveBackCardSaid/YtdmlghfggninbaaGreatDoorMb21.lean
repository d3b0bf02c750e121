/- ScD, ScE in one text. Conditions: as each part says. -/
import Derived.Test.YtdmlghfggninbaaGreatDoorMb20
import Derived.Test.YtdmlghfggninbaaGreatDoorMb9
import Derived.Test.YtdmlghfggninbaaGreatDoorMb10
import Derived.Test.YtdmlghfggninbaaGreatDoorMb11
import Derived.Test.YtdmlghfggninbaaGreatDoorMb1
import Derived.Test.YtdmlghfggninbaaGreatDoorMb14
set_option linter.unusedVariables false
set_option linter.unusedSimpArgs false
set_option maxHeartbeats 8000000
set_option maxRecDepth 100000
namespace Go.Proofs.YtdmlghfggninbaaGreatDoor
open Go.RowKit Go.Lib
theorem k7g{α:Type}(p:α→Bool)(L:List α):(ixP p L= -1∧L.find? p=none)∨∃k,∃hk:k<L.length,ixP p L=(k:Int)∧L.find? p=some L[k]:=by
 by_cases h:L.findIdx p<L.length
 ·refine .inr ⟨L.findIdx p,h,if_pos h,?_⟩
  rw[List.find?_eq_some_iff_getElem]
  exact⟨List.findIdx_getElem (w:=h),L.findIdx p,h,rfl,fun j hj=>by simpa using List.not_of_lt_findIdx hj⟩
 ·refine .inl ⟨if_neg h,?_⟩
  rw[List.find?_eq_none]
  intro x hx hp
  exact h (List.findIdx_lt_length.2 ⟨x,hx,hp⟩)
theorem k7h(l:Bytes):(bs l).toList=l:=by rw[ByteArray.toList_eq,Q3]
theorem k7i(a:Nat→Addr)(vf vb:Value)(fs:List Rcp)(ls:List Load)(hfl:fs.length≤1000000)(hll:ls.length≤1000000)(hlb:∀y∈ls,y.l.length≤1000000)(i:Nat)(hi:i<fs.length)(hr:RcpB fs[i])(hi0:i=0)(w:World)(hf:RsRd w w.heap.size vf fs)(hl:LdRd w w.heap.size vb ls)(hs:SomeS [1,2,3,4,6,7,8] a w) :
  Calls Tryz.prog 128 #[vf,.int .i64 (i:Int),vb] w fun e w'=>∃x,e= .returned x∧ES a x (M7 (M5 fs i) fs[i] ls)∧Below w.heap.size w w':=by
 have b1:(0:Int)≤(i:Int):=by omega
 have b2:(i:Int)<(fs.length:Int):=by omega
 have hfp:0<fs.length:=by omega
 have b7:¬((i:Int)>0):=by omega
 have hpr:M5 fs i=none:=if_pos hi0
 have HI0:=zh hi0
 clear hi0
 obtain⟨A,c,rfl,hcap,hcells⟩:=hf
 obtain⟨g,o,rfl,hg,hx⟩:=hcells hfp
 obtain⟨BA,bc,hvb,_⟩:=id hl
 subst hvb
 obtain⟨sl,hsl,x0,x1,x2,x3⟩:=hx i hi
 obtain⟨SA,sc,hsv,_⟩:=hsl.form
 subst hsv
 generalize hri:fs[i]=r at *
 have hb0:Below w.heap.size w (w.alloc (.cells #[.slice BA ls.length bc] 114)):=(zb _ _).alloc (zl _) _
 have hb1:Below w.heap.size w ((w.alloc (.cells #[.slice BA ls.length bc] 114)).alloc (.cells #[VT r.name,.int .i64 r.len,.int .u32 (r.print:Int),.slice SA r.ids.length sc] 40)):=hb0.alloc hb0.size _
 have y0:=(hb0.cell (p:=⟨g,o+i*4,none⟩) hg).trans x0
 have y1:=(hb0.cell (p:=⟨g,o+i*4+1,none⟩) hg).trans x1
 have y2:=(hb0.cell (p:=⟨g,o+i*4+2,none⟩) hg).trans x2
 have y3:=(hb0.cell (p:=⟨g,o+i*4+3,none⟩) hg).trans x3
 have hbb:((w.alloc (.cells #[.slice BA ls.length bc] 114)).alloc (.cells #[VT r.name,.int .i64 r.len,.int .u32 (r.print:Int),.slice SA r.ids.length sc] 40)).cell? ⟨w.heap.size,0,none⟩=some (.slice BA ls.length bc):=
  (((zb (w.alloc (.cells #[.slice BA ls.length bc] 114)).heap.size (w.alloc (.cells #[.slice BA ls.length bc] 114))).alloc (zl _) _).cell (p:=⟨w.heap.size,0,none⟩) (by simp)).trans (by rw[World.cell?_alloc_at _ _ _ _ rfl];rfl)
 have hbr:Box4 (w.heap.size+1) (VT r.name) (.int .i64 r.len) (.int .u32 (r.print:Int)) (.slice SA r.ids.length sc) ((w.alloc (.cells #[.slice BA ls.length bc] 114)).alloc (.cells #[VT r.name,.int .i64 r.len,.int .u32 (r.print:Int),.slice SA r.ids.length sc] 40)):=by
  have:=Box4.mk' (w.alloc (.cells #[.slice BA ls.length bc] 114)) (VT r.name) (.int .i64 r.len) (.int .u32 (r.print:Int)) (.slice SA r.ids.length sc) 40
  simpa using this
 have HBB:=zh hbb
 have HBR:=zh hbr
 have HB1:=zh hb1
 have HS:=zh hs
 have HLD:=zh hl
 have HSL:=zh hsl
 have hrc:=hr.c
 have HCK:=zh (j4j a (.agg #[VT r.name,.int .i64 r.len,.int .u32 (r.print:Int),.slice SA r.ids.length sc]) r hr _ ⟨_,rfl,(hsl.keep hb1 (zl _)).more hb1.size⟩ ((hs.below hb1).sub (js:= [1,2,3,6,8]) (by decide)))
 have hz1:w.heap.size+1<((w.alloc (.cells #[.slice BA ls.length bc] 114)).alloc (.cells #[VT r.name,.int .i64 r.len,.int .u32 (r.print:Int),.slice SA r.ids.length sc] 40)).heap.size:=by simp
 clear hcells hx x0 x1 x2 x3 hb0 hb1 hs hl hsl hbb hr hri
 obtain⟨z0,z1,z2,z3,_⟩:=hbr
 go_enter Tryz.func128,Tryz.ntmps128
 go_wp2_with fail
 generalize(w.alloc (.cells #[.slice BA ls.length bc] 114)).alloc (.cells #[VT r.name,.int .i64 r.len,.int .u32 (r.print:Int),.slice SA r.ids.length sc] 40)=w2 at *
 unfold j4f at HCK
 refine HCK.out.mono ?_
 rintro e w3 ⟨xe,rfl,hev,hb3⟩
 have HB3:=zh (HB1.out.trans (hb3.mono HB1.out.size))
 have BB3:=zh (hb3.cell (p:=⟨w.heap.size,0,none⟩) (by show w.heap.size<_;omega) |>.trans HBB.out)
 have BR3:=zh (HBR.out.below hb3 HBR.out.lt)
 have hz3:w.heap.size+1<w3.heap.size:=Nat.lt_of_lt_of_le hz1 hb3.size
 clear z0 z1 z2 z3 y0 y1 y2 y3 hb3 HCK HBB HBR HB1 hz1
 by_cases hc0:(Z9 r).1=0
 ·obtain⟨rfl,_⟩:=hev.nil hc0
  have HF:=zh (z7n (prev:=M5 fs i) (ls:=ls) hc0 (fun p hp=>by rw[hpr]at hp;cases hp))
  clear hev hc0 hpr
  obtain⟨z0,z1,z2,z3,_⟩:=BR3.out
  go_wp2
  have hS0:Below w3.heap.size w3 w3.drew:=(zb _ _).drew
  refine kR (fun w'=>Below w3.heap.size w3 w') 12 ?_
  refine kT 0 hS0 ?_
  refine kS 1 (v:= .bool false) rfl hS0 (fun w' hS=>by have W3:=HI0.out;go_simp) ?_
  refine kT 2 hS0 ?_
  refine kK 3 hS0 ?_
  refine kK 4 hS0 ?_
  refine kK 5 hS0 ?_
  refine kK 6 hS0 ?_
  refine kK 7 hS0 ?_
  refine kK 8 hS0 ?_
  refine kK 9 hS0 ?_
  refine kK 10 hS0 ?_
  refine kK 11 hS0 (kF ?_)
  try simp only[Act.put,zM]
  simp only[List.drop_succ_cons,List.drop_zero]
  clear z0 z1 z2 z3
  have hbd:=hS0
  have HBd:=zh (HB3.out.trans (hbd.mono HB3.out.size))
  have BBd:=zh ((hbd.cell (p:=⟨w.heap.size,0,none⟩) (by show w.heap.size<_;omega)).trans BB3.out)
  have BRd:=zh (BR3.out.below hbd BR3.out.lt)
  have hzd:w.heap.size+1<(w3.drew).heap.size:=Nat.lt_of_lt_of_le hz3 hbd.size
  clear hS0 hbd HB3 BB3 BR3 hz3
  generalize w3.drew=wd at *
  have HRP:=zh (W0 (.agg #[VT r.name,.int .i64 r.len,.int .u32 (r.print:Int),.slice SA r.ids.length sc]) r hrc wd ⟨_,rfl,(HSL.out.keep HBd.out (zl _)).more HBd.out.size⟩)
  obtain⟨z0,z1,z2,z3,_⟩:=BRd.out
  go_wp2_with fail
  refine HRP.out.mono ?_
  rintro e w5 ⟨rfl,hb5⟩
  have hb6:Below wd.heap.size wd (w5.alloc (.cells #[.int .u32 ((Z8 r.ids).1:Int),.int .i64 (Z8 r.ids).2] 25)):=hb5.alloc hb5.size _
  have hbx:=Box2.mk' w5 (.int .u32 ((Z8 r.ids).1:Int)) (.int .i64 (Z8 r.ids).2) 25
  have HBX:=zh hbx
  have HB6:=zh (HBd.out.trans (hb6.mono HBd.out.size))
  have hbb6:=(hb6.cell (p:=⟨w.heap.size,0,none⟩) (by show w.heap.size<_;omega)).trans BBd.out
  have BB6:=zh hbb6
  have BR6:=zh (BRd.out.below hb6 BRd.out.lt)
  have hz5:w.heap.size+1<w5.heap.size:=Nat.lt_of_lt_of_le hzd hb5.size
  have HLD6:=zh ((HLD.out.keep HB6.out (zl _)).more HB6.out.size)
  have HIX:=zh (j8s (fun b=>decide (b.rep=Z8 r.ids)) w5.heap.size (.slice BA ls.length bc) ls hll _ HLD6.out (fun x _ A n c w' hb=>j8t x A n c (Z8 r.ids) w5.heap.size w' (HBX.out.below hb HBX.out.lt)))
  clear z0 z1 z2 z3 hb5 hb6 hbx HRP HBd BBd BRd hzd
  generalize hrp:Z8 r.ids=rp at *
  have hz6:w5.heap.size<(w5.alloc (.cells #[.int .u32 (rp.1:Int),.int .i64 rp.2] 25)).heap.size:=by simp
  go_wp2_with fail
  generalize w5.alloc (.cells #[.int .u32 (rp.1:Int),.int .i64 rp.2] 25)=w6 at *
  refine HIX.out.mono ?_
  rintro e w7 ⟨rfl,hb7⟩
  have hb8:Below w6.heap.size w6 (w7.alloc (.cells #[.int .i64 (ixP (fun b=>decide (b.rep=rp)) ls)] 3)):=hb7.alloc hb7.size _
  have HB8:=zh (HB6.out.trans (hb8.mono HB6.out.size))
  have BB8:=zh ((hb8.cell (p:=⟨w.heap.size,0,none⟩) (by show w.heap.size<_;omega)).trans BB6.out)
  have BR8:=zh (BR6.out.below hb8 BR6.out.lt)
  have HLD8:=zh ((HLD.out.keep HB8.out (zl _)).more HB8.out.size)
  have HSL8:=zh ((HSL.out.keep HB8.out (zl _)).more HB8.out.size)
  have hz7:w6.heap.size≤w7.heap.size:=hb7.size
  clear hb7 hb8 hbb6 HIX BB6 BR6 HLD6 HB6 HBX
  rcases k7g (fun b:Load=>decide (b.rep=rp)) ls with⟨hx1,hx2⟩|⟨k,hk,hx1,hx2⟩
  ·rw[hx1]at HB8 BB8 BR8 HLD8 HSL8 ⊢
   have HF2:=zh (HF.out.trans (z7l (hrp▸hx2)))
   have K8:Hid ((w7.alloc (.cells #[.int .i64 (-1)] 3)).cell? ⟨w7.heap.size,0,none⟩=some (.int .i64 (-1))):=zh (by rw[World.cell?_alloc_at _ _ _ _ rfl];rfl)
   have hz8:w7.heap.size<(w7.alloc (.cells #[.int .i64 (-1)] 3)).heap.size:=by simp
   have k8:=K8.out
   have s4:(w7.alloc (.cells #[.int .i64 (-1)] 3)).cell? ⟨0,0,none⟩=some (sval a 4):=(HS.out.below HB8.out) 4 (by simp)
   unfold sval at s4
   clear hx1 hx2
   go_wp2_with fail
   generalize w7.alloc (.cells #[.int .i64 (-1)] 3)=w8 at *
   have HQ:Hid (∃x,Ending.returned (.iface 376 (.pointer (some (a 4))))= .returned x∧ES a x (M7 (M5 fs i) r ls)∧Below w.heap.size w w8):=zh ⟨_,rfl,by rw[HF2.out];exact ES.sent a 4 (by decide),HB8.out⟩
   go_ret
   exact HQ.out
  ·rw[hx1]at HB8 BB8 BR8 HLD8 HSL8 ⊢
   have HF2:=zh (HF.out.trans (z7m (hrp▸hx2)))
   have K8:Hid ((w7.alloc (.cells #[.int .i64 (k:Int)] 3)).cell? ⟨w7.heap.size,0,none⟩=some (.int .i64 (k:Int))):=zh (by rw[World.cell?_alloc_at _ _ _ _ rfl];rfl)
   have hz8:w7.heap.size<(w7.alloc (.cells #[.int .i64 (k:Int)] 3)).heap.size:=by simp
   have hkn:¬((k:Int)<0):=by omega
   have k8:=K8.out
   obtain⟨_,_,_,q3,_⟩:=BR8.out
   have HCT:Hid (∀w8,w8=w7.alloc (.cells #[.int .i64 (k:Int)] 3)→Calls Tryz.prog 184 #[.slice SA r.ids.length sc,.func (.func 185) #[] #[.pointer (some ⟨w.heap.size,0,none⟩),.pointer (some ⟨w7.heap.size,0,none⟩)]] w8 fun e w'=>e= .returned (.bool (r.ids.any fun x=>z7h x ls[k].l))∧Below w8.heap.size w8 w'):=zh (fun w8 e=>by
    rw[←e]at HLD8 HSL8 BB8 K8 hz8
    have hzb:w.heap.size<w8.heap.size:=by omega
    exact j8v (fun x=>z7h x ls[k].l) w.heap.size w7.heap.size (.slice SA r.ids.length sc) r.ids hrc w8 HSL8.out (fun x _ w' hbb=>j8w x (.slice BA ls.length bc) ls hlb k hk w.heap.size w7.heap.size w' (HLD8.out.below hbb) ((hbb.cell (p:=⟨w.heap.size,0,none⟩) hzb).trans BB8.out) ((hbb.cell (p:=⟨w7.heap.size,0,none⟩) hz8).trans K8.out)))
   clear hx1 hx2
   go_wp2_with fail
   have hct:=HCT.out _ rfl
   generalize w7.alloc (.cells #[.int .i64 (k:Int)] 3)=w8 at *
   refine hct.mono ?_
   rintro e w9 ⟨rfl,hbw9⟩
   have HB9:=zh (HB8.out.trans (hbw9.mono HB8.out.size))
   have s4:w9.cell? ⟨0,0,none⟩=some (sval a 4):=(HS.out.below HB9.out) 4 (by simp)
   unfold sval at s4
   clear hbw9 hct HCT q3 k8
   cases hany:r.ids.any (fun x=>z7h x ls[k].l)with
   | true=>
    have HQ:Hid (∃x,Ending.returned (.iface 376 (.pointer (some (a 4))))= .returned x∧ES a x (M7 (M5 fs i) r ls)∧Below w.heap.size w w9):=zh ⟨_,rfl,by rw[HF2.out];simp only[hany,if_true];exact ES.sent a 4 (by decide),HB9.out⟩
    clear hany
    go_wp2
    go_ret
    exact HQ.out
   | false=>
    have HQ:Hid (∃x,Ending.returned .nilIface= .returned x∧ES a x (M7 (M5 fs i) r ls)∧Below w.heap.size w w9):=zh ⟨_,rfl,by rw[HF2.out];simp only[hany];exact ES.none a,HB9.out⟩
    clear hany
    go_wp2
    go_ret
    exact HQ.out
 ·have HEV:=zh hev
  obtain⟨ty,pv,rfl⟩:=hev.some hc0
  have HF:=zh (z7i (prev:=M5 fs i) (ls:=ls) hc0)
  clear hev hc0
  go_wp2_with fail
  refine(z9z a _ _ _ w3 HEV.out).mono ?_
  rintro e w4 ⟨x4,rfl,hes,hb4⟩
  have HQ:Hid (∃x,Ending.returned x4= .returned x∧ES a x (M7 (M5 fs i) r ls)∧Below w.heap.size w w4):=zh ⟨_,rfl,by rw[HF.out];exact hes,HB3.out.trans (hb4.mono HB3.out.size)⟩
  clear hes hb4
  go_wp2
  go_ret
  exact HQ.out
theorem k7j(a:Nat→Addr)(vf vb:Value)(fs:List Rcp)(ls:List Load)(hfl:fs.length≤1000000)(hll:ls.length≤1000000)(hlb:∀y∈ls,y.l.length≤1000000)(i:Nat)(hi:i<fs.length)(hr:RcpB fs[i])(hi0:i≠0)(w:World)(hf:RsRd w w.heap.size vf fs)(hl:LdRd w w.heap.size vb ls)(hs:SomeS [1,2,3,4,6,7,8] a w) :
  Calls Tryz.prog 128 #[vf,.int .i64 (i:Int),vb] w fun e w'=>∃x,e= .returned x∧ES a x (M7 (M5 fs i) fs[i] ls)∧Below w.heap.size w w':=by
 have b1:(0:Int)≤(i:Int):=by omega
 have b2:(i:Int)<(fs.length:Int):=by omega
 have hfp:0<fs.length:=by omega
 have hi0':0<i:=Nat.pos_of_ne_zero hi0
 have hi1:i-1<fs.length:=by omega
 have b5:(0:Int)≤(i:Int)-1:=by omega
 have b6:(i:Int)-1<(fs.length:Int):=by omega
 have b7:(i:Int)>0:=by omega
 have b8:(((i-1:Nat)):Int)=(i:Int)-1:=by omega
 have hpr:M5 fs i=some fs[i-1]:=by unfold M5;rw[if_neg hi0,List.getElem?_eq_getElem hi1]
 obtain⟨A,c,rfl,hcap,hcells⟩:=hf
 obtain⟨g,o,rfl,hg,hx⟩:=hcells hfp
 obtain⟨BA,bc,hvb,_⟩:=id hl
 subst hvb
 obtain⟨sl,hsl,x0,x1,x2,x3⟩:=hx i hi
 obtain⟨SA,sc,hsv,_⟩:=hsl.form
 subst hsv
 obtain⟨psl,_,p0,_,_,_⟩:=hx (i-1) hi1
 generalize fs[i-1]=p at *
 have P0:=zh p0
 clear p0
 generalize hri:fs[i]=r at *
 have hb0:Below w.heap.size w (w.alloc (.cells #[.slice BA ls.length bc] 114)):=(zb _ _).alloc (zl _) _
 have hb1:Below w.heap.size w ((w.alloc (.cells #[.slice BA ls.length bc] 114)).alloc (.cells #[VT r.name,.int .i64 r.len,.int .u32 (r.print:Int),.slice SA r.ids.length sc] 40)):=hb0.alloc hb0.size _
 have y0:=(hb0.cell (p:=⟨g,o+i*4,none⟩) hg).trans x0
 have y1:=(hb0.cell (p:=⟨g,o+i*4+1,none⟩) hg).trans x1
 have y2:=(hb0.cell (p:=⟨g,o+i*4+2,none⟩) hg).trans x2
 have y3:=(hb0.cell (p:=⟨g,o+i*4+3,none⟩) hg).trans x3
 have hbb:((w.alloc (.cells #[.slice BA ls.length bc] 114)).alloc (.cells #[VT r.name,.int .i64 r.len,.int .u32 (r.print:Int),.slice SA r.ids.length sc] 40)).cell? ⟨w.heap.size,0,none⟩=some (.slice BA ls.length bc):=
  (((zb (w.alloc (.cells #[.slice BA ls.length bc] 114)).heap.size (w.alloc (.cells #[.slice BA ls.length bc] 114))).alloc (zl _) _).cell (p:=⟨w.heap.size,0,none⟩) (by simp)).trans (by rw[World.cell?_alloc_at _ _ _ _ rfl];rfl)
 have hbr:Box4 (w.heap.size+1) (VT r.name) (.int .i64 r.len) (.int .u32 (r.print:Int)) (.slice SA r.ids.length sc) ((w.alloc (.cells #[.slice BA ls.length bc] 114)).alloc (.cells #[VT r.name,.int .i64 r.len,.int .u32 (r.print:Int),.slice SA r.ids.length sc] 40)):=by
  have:=Box4.mk' (w.alloc (.cells #[.slice BA ls.length bc] 114)) (VT r.name) (.int .i64 r.len) (.int .u32 (r.print:Int)) (.slice SA r.ids.length sc) 40
  simpa using this
 have HBB:=zh hbb
 have HBR:=zh hbr
 have HB1:=zh hb1
 have HS:=zh hs
 have HLD:=zh hl
 have HSL:=zh hsl
 have hrc:=hr.c
 have HCK:=zh (j4j a (.agg #[VT r.name,.int .i64 r.len,.int .u32 (r.print:Int),.slice SA r.ids.length sc]) r hr _ ⟨_,rfl,(hsl.keep hb1 (zl _)).more hb1.size⟩ ((hs.below hb1).sub (js:= [1,2,3,6,8]) (by decide)))
 have hz1:w.heap.size+1<((w.alloc (.cells #[.slice BA ls.length bc] 114)).alloc (.cells #[VT r.name,.int .i64 r.len,.int .u32 (r.print:Int),.slice SA r.ids.length sc] 40)).heap.size:=by simp
 clear hcells hx x0 x1 x2 x3 hb0 hb1 hs hl hsl hbb hr hri
 obtain⟨z0,z1,z2,z3,_⟩:=hbr
 go_enter Tryz.func128,Tryz.ntmps128
 go_wp2_with fail
 generalize(w.alloc (.cells #[.slice BA ls.length bc] 114)).alloc (.cells #[VT r.name,.int .i64 r.len,.int .u32 (r.print:Int),.slice SA r.ids.length sc] 40)=w2 at *
 unfold j4f at HCK
 refine HCK.out.mono ?_
 rintro e w3 ⟨xe,rfl,hev,hb3⟩
 have HB3:=zh (HB1.out.trans (hb3.mono HB1.out.size))
 have BB3:=zh (hb3.cell (p:=⟨w.heap.size,0,none⟩) (by show w.heap.size<_;omega) |>.trans HBB.out)
 have BR3:=zh (HBR.out.below hb3 HBR.out.lt)
 have hz3:w.heap.size+1<w3.heap.size:=Nat.lt_of_lt_of_le hz1 hb3.size
 clear z0 z1 z2 z3 y0 y1 y2 y3 hb3 HCK HBB HBR HB1 hz1
 by_cases hc0:(Z9 r).1=0
 ·obtain⟨rfl,_⟩:=hev.nil hc0
  have d1:=(HB3.out.cell (p:=⟨g,o+(i-1)*4,none⟩) hg).trans P0.out
  by_cases hne:r.name=p.name
  ·have hlq:((bs r.name).toList==(bs p.name).toList)=true:=by rw[hne];exact beq_self_eq_true _
   have hlb:Op.bytesLess (bs r.name).toList (bs p.name).toList=false:=by rw[hne,←q0b];exact W4 _
   have HF:Hid (M7 (M5 fs i) r ls=8):=zh (by rw[hpr];exact z7j hc0 (by rw[hne];exact W4 _))
   clear hne
   clear hev hc0 hpr
   obtain⟨z0,z1,z2,z3,_⟩:=BR3.out
   go_wp2
   go_quiet (fail)
   have hbd:=V3 (zb w3.heap.size w3) nq
   have HBd:=zh (HB3.out.trans (hbd.mono HB3.out.size))
   have s7:(w3.drewN nq).cell? ⟨7,0,none⟩=some (sval a 7):=(HS.out.below HBd.out) 7 (by simp)
   unfold sval at s7
   have HQ:Hid (∃x,Ending.returned (.iface 376 (.pointer (some (a 7))))= .returned x∧ES a x (M7 (M5 fs i) r ls)∧Below w.heap.size w (w3.drewN nq)):=zh ⟨_,rfl,by rw[HF.out];exact ES.sent a 7 (by decide),HBd.out⟩
   clear hbd z0 z1 z2 z3
   go_wp2
   go_ret
   exact HQ.out
  ·have hlq:((bs r.name).toList==(bs p.name).toList)=false:=by rw[k7h,k7h];exact beq_eq_false_iff_ne.2 hne
   rcases z6m hne with hbf|hbf
   ·have hlb:Op.bytesLess (bs r.name).toList (bs p.name).toList=true:=by rw[k7h,k7h,←q0b];exact hbf
    have hbn:bytesBefore p.name r.name=false:=by
     rw[Bool.eq_false_iff]
     intro h
     have:=q0q hbf h
     rw[W4]at this;cases this
    have HF:Hid (M7 (M5 fs i) r ls=8):=zh (by rw[hpr];exact z7j hc0 hbn)
    clear hne hbf hbn
    clear hev hc0 hpr
    obtain⟨z0,z1,z2,z3,_⟩:=BR3.out
    go_wp2
    go_quiet (fail)
    have hbd:=V3 (zb w3.heap.size w3) nq
    have HBd:=zh (HB3.out.trans (hbd.mono HB3.out.size))
    have s7:(w3.drewN nq).cell? ⟨7,0,none⟩=some (sval a 7):=(HS.out.below HBd.out) 7 (by simp)
    unfold sval at s7
    have HQ:Hid (∃x,Ending.returned (.iface 376 (.pointer (some (a 7))))= .returned x∧ES a x (M7 (M5 fs i) r ls)∧Below w.heap.size w (w3.drewN nq)):=zh ⟨_,rfl,by rw[HF.out];exact ES.sent a 7 (by decide),HBd.out⟩
    clear hbd z0 z1 z2 z3
    go_wp2
    go_ret
    exact HQ.out
   ·have hlb:Op.bytesLess (bs r.name).toList (bs p.name).toList=false:=by
     rw[k7h,k7h,←q0b,Bool.eq_false_iff]
     intro h
     have:=q0q hbf h
     rw[W4]at this;cases this
    have HF:=zh (z7n (prev:=M5 fs i) (ls:=ls) hc0 (fun q hq=>by rw[hpr]at hq;injection hq with hq;rw[←hq];exact hbf))
    clear hev hc0 hpr hne hbf
    obtain⟨z0,z1,z2,z3,_⟩:=BR3.out
    go_wp2
    go_quiet (fail)
    clear z0 z1 z2 z3 d1 hlq hlb
    have hbd:=V3 (zb w3.heap.size w3) nq
    have HBd:=zh (HB3.out.trans (hbd.mono HB3.out.size))
    have BBd:=zh ((hbd.cell (p:=⟨w.heap.size,0,none⟩) (by show w.heap.size<_;omega)).trans BB3.out)
    have BRd:=zh (BR3.out.below hbd BR3.out.lt)
    have hzd:w.heap.size+1<(w3.drewN nq).heap.size:=Nat.lt_of_lt_of_le hz3 hbd.size
    clear hbd HB3 BB3 BR3 hz3
    generalize w3.drewN nq=wd at *
    have HRP:=zh (W0 (.agg #[VT r.name,.int .i64 r.len,.int .u32 (r.print:Int),.slice SA r.ids.length sc]) r hrc wd ⟨_,rfl,(HSL.out.keep HBd.out (zl _)).more HBd.out.size⟩)
    obtain⟨z0,z1,z2,z3,_⟩:=BRd.out
    go_wp2_with fail
    refine HRP.out.mono ?_
    rintro e w5 ⟨rfl,hb5⟩
    have hb6:Below wd.heap.size wd (w5.alloc (.cells #[.int .u32 ((Z8 r.ids).1:Int),.int .i64 (Z8 r.ids).2] 25)):=hb5.alloc hb5.size _
    have hbx:=Box2.mk' w5 (.int .u32 ((Z8 r.ids).1:Int)) (.int .i64 (Z8 r.ids).2) 25
    have HBX:=zh hbx
    have HB6:=zh (HBd.out.trans (hb6.mono HBd.out.size))
    have hbb6:=(hb6.cell (p:=⟨w.heap.size,0,none⟩) (by show w.heap.size<_;omega)).trans BBd.out
    have BB6:=zh hbb6
    have BR6:=zh (BRd.out.below hb6 BRd.out.lt)
    have hz5:w.heap.size+1<w5.heap.size:=Nat.lt_of_lt_of_le hzd hb5.size
    have HLD6:=zh ((HLD.out.keep HB6.out (zl _)).more HB6.out.size)
    have HIX:=zh (j8s (fun b=>decide (b.rep=Z8 r.ids)) w5.heap.size (.slice BA ls.length bc) ls hll _ HLD6.out (fun x _ A n c w' hb=>j8t x A n c (Z8 r.ids) w5.heap.size w' (HBX.out.below hb HBX.out.lt)))
    clear z0 z1 z2 z3 hb5 hb6 hbx HRP HBd BBd BRd hzd
    generalize hrp:Z8 r.ids=rp at *
    have hz6:w5.heap.size<(w5.alloc (.cells #[.int .u32 (rp.1:Int),.int .i64 rp.2] 25)).heap.size:=by simp
    go_wp2_with fail
    generalize w5.alloc (.cells #[.int .u32 (rp.1:Int),.int .i64 rp.2] 25)=w6 at *
    refine HIX.out.mono ?_
    rintro e w7 ⟨rfl,hb7⟩
    have hb8:Below w6.heap.size w6 (w7.alloc (.cells #[.int .i64 (ixP (fun b=>decide (b.rep=rp)) ls)] 3)):=hb7.alloc hb7.size _
    have HB8:=zh (HB6.out.trans (hb8.mono HB6.out.size))
    have BB8:=zh ((hb8.cell (p:=⟨w.heap.size,0,none⟩) (by show w.heap.size<_;omega)).trans BB6.out)
    have BR8:=zh (BR6.out.below hb8 BR6.out.lt)
    have HLD8:=zh ((HLD.out.keep HB8.out (zl _)).more HB8.out.size)
    have HSL8:=zh ((HSL.out.keep HB8.out (zl _)).more HB8.out.size)
    have hz7:w6.heap.size≤w7.heap.size:=hb7.size
    clear hb7 hb8 hbb6 HIX BB6 BR6 HLD6 HB6 HBX
    rcases k7g (fun b:Load=>decide (b.rep=rp)) ls with⟨hx1,hx2⟩|⟨k,hk,hx1,hx2⟩
    ·rw[hx1]at HB8 BB8 BR8 HLD8 HSL8 ⊢
     have HF2:=zh (HF.out.trans (z7l (hrp▸hx2)))
     have K8:Hid ((w7.alloc (.cells #[.int .i64 (-1)] 3)).cell? ⟨w7.heap.size,0,none⟩=some (.int .i64 (-1))):=zh (by rw[World.cell?_alloc_at _ _ _ _ rfl];rfl)
     have hz8:w7.heap.size<(w7.alloc (.cells #[.int .i64 (-1)] 3)).heap.size:=by simp
     have k8:=K8.out
     have s4:(w7.alloc (.cells #[.int .i64 (-1)] 3)).cell? ⟨0,0,none⟩=some (sval a 4):=(HS.out.below HB8.out) 4 (by simp)
     unfold sval at s4
     clear hx1 hx2
     go_wp2_with fail
     generalize w7.alloc (.cells #[.int .i64 (-1)] 3)=w8 at *
     have HQ:Hid (∃x,Ending.returned (.iface 376 (.pointer (some (a 4))))= .returned x∧ES a x (M7 (M5 fs i) r ls)∧Below w.heap.size w w8):=zh ⟨_,rfl,by rw[HF2.out];exact ES.sent a 4 (by decide),HB8.out⟩
     go_ret
     exact HQ.out
    ·rw[hx1]at HB8 BB8 BR8 HLD8 HSL8 ⊢
     have HF2:=zh (HF.out.trans (z7m (hrp▸hx2)))
     have K8:Hid ((w7.alloc (.cells #[.int .i64 (k:Int)] 3)).cell? ⟨w7.heap.size,0,none⟩=some (.int .i64 (k:Int))):=zh (by rw[World.cell?_alloc_at _ _ _ _ rfl];rfl)
     have hz8:w7.heap.size<(w7.alloc (.cells #[.int .i64 (k:Int)] 3)).heap.size:=by simp
     have hkn:¬((k:Int)<0):=by omega
     have k8:=K8.out
     obtain⟨_,_,_,q3,_⟩:=BR8.out
     have HCT:Hid (∀w8,w8=w7.alloc (.cells #[.int .i64 (k:Int)] 3)→Calls Tryz.prog 184 #[.slice SA r.ids.length sc,.func (.func 185) #[] #[.pointer (some ⟨w.heap.size,0,none⟩),.pointer (some ⟨w7.heap.size,0,none⟩)]] w8 fun e w'=>e= .returned (.bool (r.ids.any fun x=>z7h x ls[k].l))∧Below w8.heap.size w8 w'):=zh (fun w8 e=>by
      rw[←e]at HLD8 HSL8 BB8 K8 hz8
      have hzb:w.heap.size<w8.heap.size:=by omega
      exact j8v (fun x=>z7h x ls[k].l) w.heap.size w7.heap.size (.slice SA r.ids.length sc) r.ids hrc w8 HSL8.out (fun x _ w' hbb=>j8w x (.slice BA ls.length bc) ls hlb k hk w.heap.size w7.heap.size w' (HLD8.out.below hbb) ((hbb.cell (p:=⟨w.heap.size,0,none⟩) hzb).trans BB8.out) ((hbb.cell (p:=⟨w7.heap.size,0,none⟩) hz8).trans K8.out)))
     clear hx1 hx2
     go_wp2_with fail
     have hct:=HCT.out _ rfl
     generalize w7.alloc (.cells #[.int .i64 (k:Int)] 3)=w8 at *
     refine hct.mono ?_
     rintro e w9 ⟨rfl,hbw9⟩
     have HB9:=zh (HB8.out.trans (hbw9.mono HB8.out.size))
     have s4:w9.cell? ⟨0,0,none⟩=some (sval a 4):=(HS.out.below HB9.out) 4 (by simp)
     unfold sval at s4
     clear hbw9 hct HCT q3 k8
     cases hany:r.ids.any (fun x=>z7h x ls[k].l)with
     | true=>
      have HQ:Hid (∃x,Ending.returned (.iface 376 (.pointer (some (a 4))))= .returned x∧ES a x (M7 (M5 fs i) r ls)∧Below w.heap.size w w9):=zh ⟨_,rfl,by rw[HF2.out];simp only[hany,if_true];exact ES.sent a 4 (by decide),HB9.out⟩
      clear hany
      go_wp2
      go_ret
      exact HQ.out
     | false=>
      have HQ:Hid (∃x,Ending.returned .nilIface= .returned x∧ES a x (M7 (M5 fs i) r ls)∧Below w.heap.size w w9):=zh ⟨_,rfl,by rw[HF2.out];simp only[hany];exact ES.none a,HB9.out⟩
      clear hany
      go_wp2
      go_ret
      exact HQ.out
 ·have HEV:=zh hev
  obtain⟨ty,pv,rfl⟩:=hev.some hc0
  have HF:=zh (z7i (prev:=M5 fs i) (ls:=ls) hc0)
  clear hev hc0
  go_wp2_with fail
  refine(z9z a _ _ _ w3 HEV.out).mono ?_
  rintro e w4 ⟨x4,rfl,hes,hb4⟩
  have HQ:Hid (∃x,Ending.returned x4= .returned x∧ES a x (M7 (M5 fs i) r ls)∧Below w.heap.size w w4):=zh ⟨_,rfl,by rw[HF.out];exact hes,HB3.out.trans (hb4.mono HB3.out.size)⟩
  clear hes hb4
  go_wp2
  go_ret
  exact HQ.out
theorem k7k(a:Nat→Addr)(vf vb:Value)(fs:List Rcp)(ls:List Load)(hfl:fs.length≤1000000)(hll:ls.length≤1000000)(hlb:∀y∈ls,y.l.length≤1000000)(i:Nat)(hi:i<fs.length)(hr:RcpB fs[i])(w:World)(hf:RsRd w w.heap.size vf fs)(hl:LdRd w w.heap.size vb ls)(hs:SomeS [1,2,3,4,6,7,8] a w) :
  Calls Tryz.prog 128 #[vf,.int .i64 (i:Int),vb] w fun e w'=>∃x,e= .returned x∧ES a x (M7 (M5 fs i) fs[i] ls)∧Below w.heap.size w w':=by
 by_cases hi0:i=0
 ·exact k7i a vf vb fs ls hfl hll hlb i hi hr hi0 w hf hl hs
 ·exact k7j a vf vb fs ls hfl hll hlb i hi hr hi0 w hf hl hs
end Go.Proofs.YtdmlghfggninbaaGreatDoor
namespace Go.Proofs.YtdmlghfggninbaaGreatDoor
open Go.RowKit Go.Lib Go.Maps Go.WideMaps Go.ChangeMaps
section
open Go.WideElems Go.ChangeShapes Go.WideShapes Go.MapKept
variable {H:Type} {P:Program} {w:World} {t k e:TypeId} {R:Value→Option (DataW H×List MemPlace)} {b:Nat} {es:Array MapEntry} {clock:Nat}
theorem k7l(K:KeyLaw P k)(ht:P.underlying t=some (.map k e)){z:Value}(hz:∀u:World,(zeroValue e).run P u= .ok z u)(hb:w.heap[b]? =some (.map es clock))(F:Fit P k R es clock)
  {key:Value} {kl:Lit} (hkey:keyOf P k key=some kl) :
  ∃(v0:Value) (st:Nat) (es1:Array MapEntry) (clock1:Nat),(Instr.mapEntry t (.map (some b)) key).run P w= .ok (.tuple #[v0,goInt st]) (setBlock w b (.map es1 clock1)) ∧
   (Instr.mapUpdate t (.map (some b)) key v0).run P w= .ok () (setBlock w b (.map es1 clock1))∧(Instr.lookup t (.map (some b)) key false).run P w= .ok v0 w:=by
 rcases K.find w hkey es.toList F.keys with⟨h1,h2⟩|⟨j,e0,h1,h2,h3⟩
 ·refine⟨z,clock,es.push ⟨key,z,clock⟩,clock+1,?_,?_,?_⟩
  ·simp[Instr.mapEntry,run_underlying ht,MapKept.run_getObj_map hb,K.check w false hkey,h1,hz,MapKept.run_setObj_map _ hb,Result.andThen,setBlock]
  ·simp[Instr.mapUpdate,run_underlying ht,MapKept.run_getObj_map hb,K.check w false hkey,h1,MapKept.run_setObj_map _ hb,Result.andThen,setBlock]
  ·simp[Instr.lookup,run_underlying ht,MapKept.run_getObj_map hb,K.check w _ hkey,h1,hz,Result.andThen]
 ·have hj:es[j]? =some e0:=by simpa using h2
  have hsame:es.modify j (fun e=> {e with key:=key})=es:=by
   apply Array.ext'
   rw[Array.toList_modify,modify_eq_set _ _ _ _ h2]
   have:({e0 with key:=key}:MapEntry)=e0:=by rw[←h3]
   rw[this]
   exact set_self _ _ _ h2
  have hsame2:es.modify j (fun e=> {e with key:=key,val:=e0.val})=es:=by
   apply Array.ext'
   rw[Array.toList_modify,modify_eq_set _ _ _ _ h2]
   have:({e0 with key:=key,val:=e0.val}:MapEntry)=e0:=by rw[←h3]
   rw[this]
   exact set_self _ _ _ h2
  refine⟨e0.val,e0.born,es,clock,?_,?_,?_⟩
  ·simp[Instr.mapEntry,run_underlying ht,MapKept.run_getObj_map hb,K.check w false hkey,h1,hj,h3,K.stays w hkey,hsame,MapKept.run_setObj_map _ hb,Result.andThen,setBlock]
  ·simp[Instr.mapUpdate,run_underlying ht,MapKept.run_getObj_map hb,K.check w false hkey,h1,hj,h3,K.stays w hkey,hsame2,MapKept.run_setObj_map _ hb,Result.andThen,setBlock]
  ·simp[Instr.lookup,run_underlying ht,MapKept.run_getObj_map hb,K.check w _ hkey,h1,Result.andThen]
end
section
variable {K V:Type} {P:Program} {k:TypeId} {lit:K→Lit} {lt:K→K→Bool} {ok okw:K→Prop} {kv:K→Value} [DecidableEq K]
theorem AlMap.entryL(R:KeyRd P k lit lt ok okw kv)(KL:KeyLaw P k){f:V→Value}{mb:Nat}{L:List (K×V)}{w:World}(h:AlMap P k lit f mb L w)(hs:K1 lt L)(hL:∀p∈L,ok p.1){t e:TypeId}(ht:P.underlying t=some (.map k e)){z:Value}(hz:∀u:World,(zeroValue e).run P u= .ok z u){d0:V}(hd0:f d0=z)(hn:L.length<maxLen)(x:K)(v:V)(hx:ok x) :
  ∃st w1 w2,(Instr.mapEntry t (.map (some mb)) (kv x)).run P w= .ok (.tuple #[f ((Q1 L x).getD d0),goInt st]) w1∧Stay w w1∧(Instr.lookup t (.map (some mb)) (kv x) false).run P w= .ok (f ((Q1 L x).getD d0)) w∧(Instr.lookup t (.map (some mb)) (kv x) false).run P w1= .ok (f ((Q1 L x).getD d0)) w1 ∧
   (Instr.entryStore t (.map (some mb)) (goInt st) (f v)).run P w1= .ok () w2∧AlMap P k lit f mb (Q9 lt x v L) w2∧Stay w w2∧w.grownBy w2 (some mb)∧w2.heap.size=w.heap.size:=by
 have hfd:∀o:Option V,(o.map f).getD z=f (o.getD d0):=fun o=>by cases o<;>simp[hd0]
 have hlk:=h.at R hL ht (hz w) (R.emb.wide hx)
 rw[hfd]at hlk
 obtain⟨v0,st,w1,w2,h1,h2,h3,h4,h5,h6,h7⟩:=AlMap.entry R KL h hs hL ht hz hn x v hx
 have h0:=h
 obtain⟨es,clock,hb,F,hsz,hD⟩:=h
 obtain⟨u0,st',es1,clock1,k1,k2,k3⟩:=k7l KL ht hz hb F (R.key (R.emb.wide hx))
 rw[hlk]at k3
 injection k3 with k3 _
 subst k3
 rw[h1]at k1
 injection k1 with k1 k1w
 injection k1 with k1
 have k1a:v0=f ((Q1 L x).getD d0):=by
  injection k1 with k1
  injection k1 with k1
 subst k1a
 obtain⟨w',h8,h9,h10⟩:=World.ownsMap.store h0 R.law ht hn (R.key (R.emb.wide hx)) (show rawE (f ((Q1 L x).getD d0))=some (.held (f ((Q1 L x).getD d0)),[])from rfl)
 rw[k2]at h8
 injection h8 with _ h8
 rw[←h8,←k1w]at h9
 have hA:=AlMap.put R hs hL x ((Q1 L x).getD d0) hx h9
 have hA2:=hA.at R (fun p hp=>by
  rcases V9 hp with rfl|hp
  ·exact hx
  ·exact hL p hp) ht (hz w1) (R.emb.wide hx)
 rw[hfd,q0k,if_pos rfl]at hA2
 exact⟨st,w1,w2,h1,h2,hlk,hA2,h3,h4,h5,h6,h7⟩
end
abbrev UL:=List (Idn×Int)
def intV(v:Int):Value:= .int .i64 v
theorem k7m(w:World):(zeroValue 3).run Tryz.prog w= .ok (.int .i64 0) w:=by kernel_rfl
structure UseM(U:UL)(g:Idn→Int):Prop where
 srt:K1 Q2 U
 keys:∀p∈U,R5 p.1
 val:∀y,(Q1 U y).getD 0=g y
theorem UseM.nil:UseM [] (fun _=>0):=⟨z5a,fun p hp=>absurd hp List.not_mem_nil,fun _=>rfl⟩
theorem UseM.put{U:UL}{g g':Idn→Int}(h:UseM U g){x:Idn}(hx:R5 x)(hg:∀y,g' y=g y+if x=y then 1 else 0):UseM (Q9 Q2 x ((Q1 U x).getD 0+1) U) g':=by
 refine⟨z5j M0 h.srt _ _,fun p hp=> ?_,fun y=> ?_⟩
 ·rcases V9 hp with rfl|hp
  ·exact hx
  ·exact h.keys p hp
 ·rw[q0k,hg]
  by_cases e:x=y
  ·subst e;simp[h.val]
  ·simp[e,h.val]
theorem UseM.to{U:UL}{g g':Idn→Int}(h:UseM U g)(hg:∀y,g' y=g y):UseM U g':=⟨h.srt,h.keys,fun y=>(h.val y).trans (hg y).symm⟩
structure UsIn(mb:Nat)(U:UL)(g:Idn→Int)(w0 w:World):Prop where
 map:AlMap Tryz.prog 25 Z6 intV mb U w
 um:UseM U g
 bel:Below w0.heap.size w0 w
 ge:w0.heap.size≤mb
theorem UsIn.below{mb:Nat}{U:UL}{g:Idn→Int}{w0 w w':World}(h:UsIn mb U g w0 w)(hb:Below w.heap.size w w'):UsIn mb U g w0 w':=⟨h.map.below hb,h.um,h.bel.trans (hb.mono h.bel.size),h.ge⟩
def k7n(fs:List Rcp)(rep:Idn)(w:World)(e:Ending)(w':World):Prop:=
 ∃mb U,e= .returned (.tuple #[.map (some mb),.int .i64 (nS fs rep:Int)])∧AlMap Tryz.prog 25 Z6 intV mb U w'∧UseM U (useS fs rep)∧Below w.heap.size w w'
theorem k7o(vf:Value)(fs:List Rcp)(hfl:fs.length≤30)(hok:∀r∈fs,r.ids.length≤250∧∀x∈r.ids,R5 x)(rep:Idn)(w:World)(hf:RsRd w w.heap.size vf fs) :
  Calls Tryz.prog 187 #[vf,idV rep] w (k7n fs rep w):=by
 obtain⟨A,c,rfl,hcap,hcells⟩:=hf
 have hb1:Below w.heap.size w (w.alloc (.cells #[.int .u32 (rep.1:Int),.int .i64 rep.2] 25)):=(zb _ _).alloc (zl _) _
 have HX:=zh hcells
 have HB1:=zh hb1
 have HOK:=zh hok
 have HRP:=zh (Box2.mk' w (.int .u32 (rep.1:Int)) (.int .i64 rep.2) 25)
 have hz1:(w.alloc (.cells #[.int .u32 (rep.1:Int),.int .i64 rep.2] 25)).heap.size=w.heap.size+1:=by simp
 have HM0:Hid (UsIn (w.heap.size+1) [] (useS (fs.take 0) rep) (w.alloc (.cells #[.int .u32 (rep.1:Int),.int .i64 rep.2] 25)) ((w.alloc (.cells #[.int .u32 (rep.1:Int),.int .i64 rep.2] 25)).alloc (.map #[] 0))):=zh (by
  refine⟨?_,UseM.nil.to (fun y=>rfl),(zb _ _).alloc (zl _) _,by rw[hz1];exact zl _⟩
  have:=AlMap.made (P:=Tryz.prog) (k:=25) (lit:=Z6) (w.alloc (.cells #[.int .u32 (rep.1:Int),.int .i64 rep.2] 25)) intV
  rw[hz1]at this
  exact this)
 have hmm:= @run_makeMap Tryz.prog
 have HFL:=zh hfl
 clear hcells hb1 hok
 go_enter Tryz.func187,Tryz.ntmps187
 go_wp2
 generalize hmb:w.heap.size+1=mb at *
 generalize(w.alloc (.cells #[.int .u32 (rep.1:Int),.int .i64 rep.2] 25))=w1 at *
 generalize w1.alloc (.map #[] 0)=w2 at *
 clear hmm hmb hz1
 go_loopg [7,15] fs.length (fun gh v7 v15 wr=>∃(k:Nat) (U:UL),v15= .int .i64 k∧v7= .int .i64 (nS (fs.take k) rep:Int)∧k≤fs.length∧gh=fs.length-k∧U.length≤250*k∧Hid (UsIn mb U (useS (fs.take k) rep) w1 wr))
 case atStart=>exact⟨0,[],rfl,rfl,Nat.zero_le _,rfl,zl _,HM0⟩
 case round=>
  obtain⟨k,U,rfl,rfl,hk,hgm,hul,H⟩:=hrel
  by_cases hkl:k<fs.length
  ·obtain⟨g,o,rfl,hg,hx⟩:=HX.out (by omega)
   obtain⟨sl,hsl,x0,x1,x2,x3⟩:=hx k hkl
   obtain⟨SA,sc,hsv,_,hic⟩:=hsl.form
   subst hsv
   have HIC:=zh hic
   have hg1:g<w1.heap.size:=Nat.lt_of_lt_of_le hg HB1.out.size
   have y0:=(H.out.bel.cell (p:=⟨g,o+k*4,none⟩) hg1).trans ((HB1.out.cell (p:=⟨g,o+k*4,none⟩) hg).trans x0)
   have y1:=(H.out.bel.cell (p:=⟨g,o+k*4+1,none⟩) hg1).trans ((HB1.out.cell (p:=⟨g,o+k*4+1,none⟩) hg).trans x1)
   have y2:=(H.out.bel.cell (p:=⟨g,o+k*4+2,none⟩) hg1).trans ((HB1.out.cell (p:=⟨g,o+k*4+2,none⟩) hg).trans x2)
   have y3:=(H.out.bel.cell (p:=⟨g,o+k*4+3,none⟩) hg1).trans ((HB1.out.cell (p:=⟨g,o+k*4+3,none⟩) hg).trans x3)
   have HSLr:=zh ((hsl.keep (HB1.out.trans (H.out.bel.mono HB1.out.size)) (zl _)).more (Nat.le_trans HB1.out.size H.out.bel.size))
   obtain⟨hrc0,hrk⟩:=HOK.out fs[k] (List.getElem_mem hkl)
   have HUS:=zh (fun y=>z8a hkl rep y)
   have HNY:=zh (fun h=>z8b hkl (x:=rep) h)
   have HNN:=zh (fun h=>z8c hkl (x:=rep) h)
   have hnb:nS (fs.take k) rep≤k:=Nat.le_trans (z8d _ _) (by rw[List.length_take];omega)
   have hub:∀y,0≤useS (fs.take k) rep y∧useS (fs.take k) rep y≤250*k:=fun y=>by
    have:=z8f (fs:=fs.take k) (by rw[List.length_take];omega) (fun r hr=>(HOK.out r (List.mem_of_mem_take hr)).1) rep y
    rw[List.length_take]at this
    omega
   have HUB:=zh hub
   generalize hfk:fs[k]=r at *
   have hrc:r.ids.length≤1000000:=by omega
   have HRK:=zh hrk
   have b1:(0:Int)≤(k:Int):=by omega
   have b2:(k:Int)<(fs.length:Int):=by omega
   have hb3:Below wr.heap.size wr (wr.alloc (.cells #[VT r.name,.int .i64 r.len,.int .u32 (r.print:Int),.slice SA r.ids.length sc] 40)):=(zb _ _).alloc (zl _) _
   have H3:=zh (H.out.below hb3)
   have HSL3:=zh ((HSLr.out.keep hb3 (zl _)).more hb3.size)
   have BR3:=zh (Box4.mk' wr (VT r.name) (.int .i64 r.len) (.int .u32 (r.print:Int)) (.slice SA r.ids.length sc) 40)
   have RP3:=zh (HRP.out.below H3.out.bel HRP.out.lt)
   clear hx x0 x1 x2 x3 hsl hb3 hrk hub hfk hic
   by_cases he:Z8 r.ids=rep
   ·obtain⟨t1,t2⟩:=j0a he
    have HN:=zh (HNY.out he)
    have HUY:Hid (∀y,useS (fs.take (k+1)) rep y=useS (fs.take k) rep y+(r.ids.count y:Int)):=zh (fun y=>by rw[HUS.out,if_pos he])
    clear he
    go_wp2
    generalize wr.alloc (.cells #[VT r.name,.int .i64 r.len,.int .u32 (r.print:Int),.slice SA r.ids.length sc] 40)=w3 at *
    have hS0:Below w3.heap.size w3 w3.drew:=(zb _ _).drew
    refine kR (fun w'=>Below w3.heap.size w3 w') 3 ?_
    refine kS 0 rfl hS0 (fun w' hS=>by obtain⟨A0,A1,A2,A3,_⟩:=BR3.out.below hS BR3.out.lt;go_simp;rfl) ?_
    refine kS 2 rfl hS0 (fun w' hS=>by obtain⟨A0,A1,_,_⟩:=RP3.out.below hS RP3.out.lt;go_simp;rfl) ?_
    refine kC 1 (fun K hK=> ?_)
    go_simp
    refine(W0 (.agg #[VT r.name,.int .i64 r.len,.int .u32 (r.print:Int),.slice SA r.ids.length sc]) r hrc _ ⟨_,rfl,(HSL3.out.keep hS0 (zl _)).more hS0.size⟩).mono ?_
    rintro e w4 ⟨rfl,hbw4⟩
    have hS1:Below w3.heap.size w3 w4:=hS0.trans (hbw4.mono hS0.size)
    refine hK _ _ hS1 (kF ?_)
    clear hK K
    try simp only[Act.put,zM]
    try simp only[Act.put,zM]
    simp only[List.drop_succ_cons,List.drop_zero]
    have HB4:=zh hS1
    have H4:=zh (H3.out.below hS1)
    have BR4:=zh (BR3.out.below hS1 BR3.out.lt)
    clear hS0 hS1 hbw4
    have r3:=BR4.out.c3
    have H4':Hid (UsIn mb U (fun y=>useS (fs.take k) rep y+((r.ids.take 0).count y:Int)) w1 w4):=zh ⟨H4.out.map,H4.out.um.to (fun y=>by simp),H4.out.bel,H4.out.ge⟩
    have hnw:((nS (fs.take k) rep:Int))+1=((nS (fs.take (k+1)) rep:Nat):Int):=by rw[HN.out];omega
    have HNW:=zh hnw
    clear hnw H4
    go_wp2
    go_loopg [28] r.ids.length (fun gh v28 wj=>∃(j:Nat) (V:UL),v28= .int .i64 j∧j≤r.ids.length∧gh=r.ids.length-j∧V.length≤250*k+j∧Hid (UsIn mb V (fun y=>useS (fs.take k) rep y+((r.ids.take j).count y:Int)) w1 wj))
    case atStart=>exact⟨0,U,rfl,Nat.zero_le _,rfl,by omega,H4'⟩
    case round=>
     obtain⟨j,V,rfl,hj,hgj,hvl,Hj⟩:=hrel
     by_cases hjl:j<r.ids.length
     ·obtain⟨ig,io,hia,hig,hicell⟩:=HIC.out (by omega)
      subst hia
      obtain⟨i0,i1⟩:=hicell j hjl
      have hig1:ig<w1.heap.size:=Nat.lt_of_lt_of_le hig HB1.out.size
      have e0:=(Hj.out.bel.cell (p:=⟨ig,io+j*2,none⟩) hig1).trans ((HB1.out.cell (p:=⟨ig,io+j*2,none⟩) hig).trans i0)
      have e1:=(Hj.out.bel.cell (p:=⟨ig,io+j*2+1,none⟩) hig1).trans ((HB1.out.cell (p:=⟨ig,io+j*2+1,none⟩) hig).trans i1)
      have b3:(0:Int)≤(j:Int):=by omega
      have b4:(j:Int)<(r.ids.length:Int):=by omega
      have hxo:=HRK.out r.ids[j] (List.getElem_mem hjl)
      have HCT:=zh (fun y=>z8e hjl y)
      generalize r.ids[j]=x at *
      have hb6:Below wr.heap.size wr (wr.alloc (.cells #[.int .u32 (x.1:Int),.int .i64 x.2] 25)):=(zb _ _).alloc (zl _) _
      have H6:=zh (Hj.out.below hb6)
      obtain⟨x0,x1,_,_⟩:=Box2.mk' wr (.int .u32 (x.1:Int)) (.int .i64 x.2) 25
      clear i0 i1 hicell hb6
      go_wp2
      generalize wr.alloc (.cells #[.int .u32 (x.1:Int),.int .i64 x.2] 25)=w6 at *
      have hfl:=HFL.out
      obtain⟨st,wa,wb,q1,q2,q3,q4,q5,q6,q7,q8,q9⟩:=AlMap.entryL (w:=w6.drew) idRd klId (H6.out.map.below (zb _ _).drew) H6.out.um.srt H6.out.um.keys Tryz.underlying256 k7m (d0:=0) rfl (by unfold maxLen;omega) x ((Q1 V x).getD 0+1) hxo
      have hum:=H6.out.um.put (g':=fun y=>useS (fs.take k) rep y+((r.ids.take (j+1)).count y:Int)) hxo (fun y=>by show useS (fs.take k) rep y+((r.ids.take (j+1)).count y:Int)=useS (fs.take k) rep y+((r.ids.take j).count y:Int)+_;rw[HCT.out,Int.add_assoc])
      have hcv:=H6.out.um.val x
      have hcnt:(r.ids.take j).count x≤j:=Nat.le_trans List.count_le_length (by rw[List.length_take];omega)
      have hcb:=HUB.out x
      have hlen:(Q9 Q2 x ((Q1 V x).getD 0+1) V).length≤V.length+1:=q0g
      generalize Q9 Q2 x ((Q1 V x).getD 0+1) V=V' at *
      generalize(Q1 V x).getD 0=c at *
      replace hcv:c=useS (fs.take k) rep x+((r.ids.take j).count x:Int):=hcv
      have hc0:0≤c:=by omega
      have hc1:c≤100000:=by omega
      have HWR:Hid (IntKind.i64.wrap (c+1)=c+1):=zh (IntWalk.i64_in _ (by omega))
      have HJ':Hid (UsIn mb V' (fun y=>useS (fs.take k) rep y+((r.ids.take (j+1)).count y:Int)) w1 wb):=zh ⟨q6,hum,(H6.out.bel.trans ((zb w6.heap.size w6).drew.mono H6.out.bel.size)).grown q8 (Nat.le_trans H6.out.bel.size (zl _)) (fun b e=>by injection e with e;subst e;exact H6.out.ge),H6.out.ge⟩
      have hgi:∀z:Int,goInt z= .int .i64 z:=fun _=>rfl
      rw[hgi]at q1 q5
      unfold intV at q1 q3 q4 q5
      clear hgi hum hcv hcnt hcb q6 q7 q8 q9
      have hS0:Stay w6 w6.drew∧(Instr.lookup 256 (.map (some mb)) (idV x) false).run Tryz.prog w6.drew= .ok (.int .i64 c) w6.drew:=⟨Stay.refl _,q3⟩
      have hS1:Stay w6 wa∧(Instr.lookup 256 (.map (some mb)) (idV x) false).run Tryz.prog wa= .ok (.int .i64 c) wa:=⟨q2,q4⟩
      refine q4v (fun w'=>Stay w6 w'∧(Instr.lookup 256 (.map (some mb)) (idV x) false).run Tryz.prog w'= .ok (.int .i64 c) w') 6 (by kernel_rfl) (by kernel_rfl) ?_
      refine kT 0 hS0 ?_
      refine kS 1 rfl hS0 (fun w' hS=>by have A0:=hS.1 _ _ x0;have A1:=hS.1 _ _ x1;go_simp;rfl) ?_
      refine kS 2 rfl hS0 (fun w' hS=>by have A0:=hS.2;go_simp;rfl) ?_
      refine kS 3 (v:= .int .i64 (c+1)) rfl hS0 (fun w' hS=>by have W:=HWR.out;go_simp) ?_
      refine kC 4 (fun K hK=> ?_)
      go_simp
      refine hK _ _ hS1 ?_
      clear hK K
      try simp only[Act.put,zM]
      refine kS 5 (v:= .int .i64 (st:Int)) rfl hS1 (fun w' hS=>by go_simp) (kF ?_)
      try simp only[Act.put,zM]
      simp only[List.drop_succ_cons,List.drop_zero]
      go_wp2
      go_roundg (r.ids.length-(j+1))
      case measure=>omega
      case rel=>exact⟨j+1,V',by go_num,hjl,rfl,by omega,HJ'⟩
     ·obtain rfl:j=r.ids.length:=by omega
      have H5:Hid (UsIn mb V (useS (fs.take (k+1)) rep) w1 wr):=zh ⟨Hj.out.map,Hj.out.um.to (fun y=>by rw[HUY.out,List.take_length]),Hj.out.bel,Hj.out.ge⟩
      go_wp2
      go_roundg (fs.length-(k+1))
      case measure=>omega
      case rel=>exact⟨k+1,V,by go_num,by rw[←HNW.out],hkl,rfl,by omega,H5⟩
   ·have HN:=zh (HNN.out he)
    have HUN:Hid (∀y,useS (fs.take (k+1)) rep y=useS (fs.take k) rep y):=zh (fun y=>by rw[HUS.out,if_neg he,Int.add_zero])
    have hne:=j0b he
    clear he
    rcases hne with t1|⟨t1,t2⟩
    ·go_wp2
     generalize wr.alloc (.cells #[VT r.name,.int .i64 r.len,.int .u32 (r.print:Int),.slice SA r.ids.length sc] 40)=w3 at *
     have hS0:Below w3.heap.size w3 w3.drew:=(zb _ _).drew
     refine kR (fun w'=>Below w3.heap.size w3 w') 3 ?_
     refine kS 0 rfl hS0 (fun w' hS=>by obtain⟨A0,A1,A2,A3,_⟩:=BR3.out.below hS BR3.out.lt;go_simp;rfl) ?_
     refine kS 2 rfl hS0 (fun w' hS=>by obtain⟨A0,A1,_,_⟩:=RP3.out.below hS RP3.out.lt;go_simp;rfl) ?_
     refine kC 1 (fun K hK=> ?_)
     go_simp
     refine(W0 (.agg #[VT r.name,.int .i64 r.len,.int .u32 (r.print:Int),.slice SA r.ids.length sc]) r hrc _ ⟨_,rfl,(HSL3.out.keep hS0 (zl _)).more hS0.size⟩).mono ?_
     rintro e w4 ⟨rfl,hbw4⟩
     have hS1:Below w3.heap.size w3 w4:=hS0.trans (hbw4.mono hS0.size)
     refine hK _ _ hS1 (kF ?_)
     clear hK K
     try simp only[Act.put,zM]
     try simp only[Act.put,zM]
     simp only[List.drop_succ_cons,List.drop_zero]
     have HB4:=zh hS1
     have H4:=zh (H3.out.below hS1)
     have BR4:=zh (BR3.out.below hS1 BR3.out.lt)
     clear hS0 hS1 hbw4
     have H5:Hid (UsIn mb U (useS (fs.take (k+1)) rep) w1 w4):=zh ⟨H4.out.map,H4.out.um.to HUN.out,H4.out.bel,H4.out.ge⟩
     go_wp2
     go_roundg (fs.length-(k+1))
     case measure=>omega
     case rel=>exact⟨k+1,U,by go_num,by rw[HN.out],hkl,rfl,by omega,H5⟩
    ·go_wp2
     generalize wr.alloc (.cells #[VT r.name,.int .i64 r.len,.int .u32 (r.print:Int),.slice SA r.ids.length sc] 40)=w3 at *
     have hS0:Below w3.heap.size w3 w3.drew:=(zb _ _).drew
     refine kR (fun w'=>Below w3.heap.size w3 w') 3 ?_
     refine kS 0 rfl hS0 (fun w' hS=>by obtain⟨A0,A1,A2,A3,_⟩:=BR3.out.below hS BR3.out.lt;go_simp;rfl) ?_
     refine kS 2 rfl hS0 (fun w' hS=>by obtain⟨A0,A1,_,_⟩:=RP3.out.below hS RP3.out.lt;go_simp;rfl) ?_
     refine kC 1 (fun K hK=> ?_)
     go_simp
     refine(W0 (.agg #[VT r.name,.int .i64 r.len,.int .u32 (r.print:Int),.slice SA r.ids.length sc]) r hrc _ ⟨_,rfl,(HSL3.out.keep hS0 (zl _)).more hS0.size⟩).mono ?_
     rintro e w4 ⟨rfl,hbw4⟩
     have hS1:Below w3.heap.size w3 w4:=hS0.trans (hbw4.mono hS0.size)
     refine hK _ _ hS1 (kF ?_)
     clear hK K
     try simp only[Act.put,zM]
     try simp only[Act.put,zM]
     simp only[List.drop_succ_cons,List.drop_zero]
     have HB4:=zh hS1
     have H4:=zh (H3.out.below hS1)
     have BR4:=zh (BR3.out.below hS1 BR3.out.lt)
     clear hS0 hS1 hbw4
     have H5:Hid (UsIn mb U (useS (fs.take (k+1)) rep) w1 w4):=zh ⟨H4.out.map,H4.out.um.to HUN.out,H4.out.bel,H4.out.ge⟩
     go_wp2
     go_roundg (fs.length-(k+1))
     case measure=>omega
     case rel=>exact⟨k+1,U,by go_num,by rw[HN.out],hkl,rfl,by omega,H5⟩
  ·obtain rfl:k=fs.length:=by omega
   have HQ:Hid (k7n fs rep w (.returned (.tuple #[.map (some mb),.int .i64 (nS (fs.take fs.length) rep:Int)])) wr):=zh ⟨mb,U,by rw[List.take_length],H.out.map,by have:=H.out.um;rw[List.take_length]at this;exact this,HB1.out.trans (H.out.bel.mono HB1.out.size)⟩
   go_wp2
   go_ret2
   exact HQ.out
end Go.Proofs.YtdmlghfggninbaaGreatDoor
