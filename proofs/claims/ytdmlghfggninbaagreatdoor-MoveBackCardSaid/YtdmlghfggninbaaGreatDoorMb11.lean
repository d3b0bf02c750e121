/- NdB, NdO, PlainM, PlainQ in one text. Conditions: as each part says. -/
import Derived.Test.YtdmlghfggninbaaGreatDoorMb8
import Derived.Test.YtdmlghfggninbaaGreatDoorMb10
import Derived.Test.YtdmlghfggninbaaGreatDoorMb9
import Derived.Test.YtdmlghfggninbaaGreatDoorIterC
import Derived.Lib.OwnBridge
import Derived.Test.YtdmlghfggninbaaGreatDoorMb2
import Derived.Test.YtdmlghfggninbaaGreatDoorMb3
import Derived.Test.YtdmlghfggninbaaGreatDoorMb5
set_option linter.unusedVariables false
set_option linter.unusedSimpArgs false
set_option maxHeartbeats 4000000
set_option maxRecDepth 100000
namespace Go.Proofs.YtdmlghfggninbaaGreatDoor
open Go.RowKit Go.Lib Go.Maps Go.WideMaps
def recN(nm:Bytes)(P:PNode):Int×Rcp:=match Q1 P.files nm with|none=>(5,R8)|some r=>(0,r)
theorem j4y(w:World)(x:Value)(t:TypeId):∀j q,[x][j]? =some q→(w.alloc (.cells #[x] t)).cell? ((⟨w.heap.size,0,none⟩:Addr).add j)=some q:=by
 intro j q hj
 rw[q0n,Nat.zero_add,World.cell?_alloc_at _ _ _ _ rfl]
 match j,hj with
 | 0,hj=>exact hj
 | j+1,hj=>simp at hj
theorem j4z:(Tryz.prog.info? 9).map (fun i=>(i.zero,i.size,i.bytes))=some (some (.string ByteArray.empty),1,16):=by kernel_rfl
theorem Box4.setF{b d j:Nat}{x y z u:Value}{w:World}(h:Box4 b x y z u w)(hd:b≠d)(v:Value):Box4 b x y z u (w.setCell ⟨d,j,none⟩ v):=
 have far:∀i,(⟨d,j,none⟩:Addr)≠⟨b,i,none⟩:=fun i e=>by injection e with e;exact hd e.symm
 ⟨(World.cell?_setCell_other _ _ _ _ (far 0)).trans h.c0,(World.cell?_setCell_other _ _ _ _ (far 1)).trans h.c1,(World.cell?_setCell_other _ _ _ _ (far 2)).trans h.c2,(World.cell?_setCell_other _ _ _ _ (far 3)).trans h.c3,fun i=>by rw[World.frozen?_setCell];exact h.f i⟩
theorem ONode.fileW{n fm bm:Nat}{F:FL}{B:BL}{w:World}(h:ONode n fm bm F B w)(hP:NodeW (Q0 F B)){nm:Bytes}{fe:FE}(hg:Q1 F nm=some fe):RdI w w.heap.size fe.sl fe.r.ids∧fe.r.ids.length≤250∧Q1 (Q0 F B).files nm=some fe.r:=by
 have h1:Q1 (Q0 F B).files nm=some fe.r:=by
  show Q1 (K7 FE.r F) nm=_
  rw[G9,hg];rfl
 exact⟨h.rd _ (Y4 hg),(hP.fk _ (Y4 h1)).2,h1⟩
theorem ONode.file{n fm bm:Nat}{F:FL}{B:BL}{w:World}(h:ONode n fm bm F B w)(hP:NodeOk (Q0 F B)){nm:Bytes}{fe:FE}(hg:Q1 F nm=some fe):RdI w w.heap.size fe.sl fe.r.ids∧fe.r.ids.length≤250∧Q1 (Q0 F B).files nm=some fe.r:=by
 have h1:Q1 (Q0 F B).files nm=some fe.r:=by
  show Q1 (K7 FE.r F) nm=_
  rw[G9,hg];rfl
 exact⟨h.rd _ (Y4 hg),hP.ids _ (Y4 h1),h1⟩
theorem j5a(a:Nat→Addr)(n fm bm:Nat)(F:FL)(B:BL)(hP:NodeW (Q0 F B))(nm:Bytes)(hn:X6 nm)(w:World)(h:ONode n fm bm F B w)(hs:SomeS [4] a w) :
  Calls Tryz.prog 10 #[.pointer (some ⟨n,0,none⟩),.string (bs nm)] w fun e w'=>∃v r,e= .returned (.tuple #[v,r])∧EV a r (recN nm (Q0 F B)).1 (-1) w'∧RcpW w' w.heap.size w'.heap.size v (recN nm (Q0 F B)).2∧Below w.heap.size w w':=by
 have hb0:Below w.heap.size w (w.alloc (.cells #[.string ⟨#[]⟩,.int .i64 0,.int .u32 0,.slice none 0 0] 40)):=(zb _ w).alloc (zl _) _
 have HWR:=zh (Box4.mk' w (.string ⟨#[]⟩) (.int .i64 0) (.int .u32 0) (.slice none 0 0) 40)
 have HB0:=zh hb0
 have HN:=zh (h.below hb0)
 have HS:=zh (hs.below hb0)
 have hg4:0<w.heap.size:=World.block_lt_of_cell? w _ (hs 4 (by simp))
 have LK:=fun w' (h':ONode n fm bm F B w')=>h'.files.look j2f (ONode.keysFW hP) Tryz.underlying78 (j2g w') hn
 cases hgf:Q1 F nm with
 | none=>
  have HE:Hid (recN nm (Q0 F B)=(5,R8)):=zh (by unfold recN;rw[show Q1 (Q0 F B).files nm=none by show Q1 (K7 FE.r F) nm=_;rw[G9,hgf];rfl])
  rw[hgf]at LK
  simp only[Option.map_none,Option.getD_none,Option.isSome_none]at LK
  have HLK:=zh LK
  clear LK hgf h hP hn hb0 hs
  have c0:=HN.out.c0
  have lk:=HLK.out _ HN.out
  have hz:=HB0.out.size
  go_enter Tryz.func10,Tryz.ntmps10
  go_wp2_with fail
  generalize w.alloc (.cells #[.string ⟨#[]⟩,.int .i64 0,.int .u32 0,.slice none 0 0] 40)=w1 at *
  have hb1:Below w1.heap.size w1 (w1.alloc (.cells #[.string ByteArray.empty,.int .i64 0,.int .u32 0,.slice none 0 0] 40)):=(zb _ w1).alloc (zl _) _
  have hbr:=HWR.out.below hb1 HWR.out.lt
  have HBR:=zh hbr
  obtain⟨c0',c1,c2,c3,hf⟩:=hbr
  have f0:=hf 0
  have f1:=hf 1
  have f2:=hf 2
  have f3:=hf 3
  have hs3:(w1.alloc (.cells #[.string ByteArray.empty,.int .i64 0,.int .u32 0,.slice none 0 0] 40)).cell? ⟨0,0,none⟩=some (sval a 4):=(HS.out.below hb1) 4 (by simp)
  unfold sval at hs3
  obtain⟨d0,d1,d2,d3,_⟩:=HBR.out.set (.string ⟨#[]⟩) (.int .i64 0) (.int .u32 0) (.slice none 0 0)
  have hne:¬(0=w.heap.size):=by omega
  have HB9:=zh (Z7 (HB0.out.trans (hb1.mono HB0.out.size)) (zl _) (.string ⟨#[]⟩) (.int .i64 0) (.int .u32 0) (.slice none 0 0)).drew
  generalize w1.alloc (.cells #[.string ByteArray.empty,.int .i64 0,.int .u32 0,.slice none 0 0] 40)=w2 at *
  clear hf hb1 lk c0 hz
  go_region
  go_wp2
  refine bodyPost_ret (v:= .tuple #[R9,.iface 376 (.pointer (some (a 4)))]) (by simp[results,Tryz.results10,go_sem,d0,d1,d2,d3,R9]) rfl ?_
  exact⟨R9,_,rfl,by rw[HE.out];exact EV.sent a _ 4 (by decide),by rw[HE.out];exact RcpW.zero _ _ _,HB9.out⟩
 | some fe=>
  obtain⟨hrd,hil,hgp⟩:=h.fileW hP hgf
  have HE:Hid (recN nm (Q0 F B)=(0,fe.r)):=zh (by unfold recN;rw[hgp])
  rw[hgf]at LK
  simp only[Option.map_some,Option.getD_some,Option.isSome_some]at LK
  unfold feV at LK
  have HLK:=zh LK
  have HRD:=zh (hrd.keep hb0 (zl _))
  obtain⟨SA,sc,hsl⟩:∃A c,fe.sl= .slice A fe.r.ids.length c:=by obtain⟨A,c,h,_⟩:=hrd;exact⟨A,c,h⟩
  rw[hsl]at HLK HRD
  clear LK hgf h hP hn hb0 hs hrd hgp
  have c0:=HN.out.c0
  have lk:=HLK.out _ HN.out
  have hz:=HB0.out.size
  go_enter Tryz.func10,Tryz.ntmps10
  go_wp2_with fail
  have HZ1:Hid ((w.alloc (.cells #[.string ⟨#[]⟩,.int .i64 0,.int .u32 0,.slice none 0 0] 40)).heap.size=w.heap.size+1):=zh (by simp)
  generalize w.alloc (.cells #[.string ⟨#[]⟩,.int .i64 0,.int .u32 0,.slice none 0 0] 40)=w1 at *
  have hb1:Below w1.heap.size w1 (w1.alloc (.cells #[VT fe.r.name,.int .i64 fe.r.len,.int .u32 (fe.r.print:Int),.slice SA fe.r.ids.length sc] 40)):=(zb _ w1).alloc (zl _) _
  have HX2:=zh (Box4.mk' w1 (VT fe.r.name) (.int .i64 fe.r.len) (.int .u32 (fe.r.print:Int)) (.slice SA fe.r.ids.length sc) 40)
  have HWR2:=zh (HWR.out.below hb1 HWR.out.lt)
  have HB2:=zh (HB0.out.trans (hb1.mono HB0.out.size))
  have HCL:=zh (z9t (.slice SA fe.r.ids.length sc) fe.r.ids (by omega) (w1.alloc (.cells #[VT fe.r.name,.int .i64 fe.r.len,.int .u32 (fe.r.print:Int),.slice SA fe.r.ids.length sc] 40)) ((HRD.out.keep (hb1.mono hz) (zl _)).more (Nat.le_trans hz hb1.size)))
  have hz1:w1.heap.size=w.heap.size+1:=HZ1.out
  rw[hz1]at HX2
  have hz2:(w1.alloc (.cells #[VT fe.r.name,.int .i64 fe.r.len,.int .u32 (fe.r.print:Int),.slice SA fe.r.ids.length sc] 40)).heap.size=w.heap.size+2:=by simp[hz1]
  generalize w1.alloc (.cells #[VT fe.r.name,.int .i64 fe.r.len,.int .u32 (fe.r.print:Int),.slice SA fe.r.ids.length sc] 40)=w2 at *
  obtain⟨e0,e1,e2,e3,_⟩:=HX2.out
  clear hb1 lk c0
  go_wp2_with fail
  refine HCL.out.mono ?_
  rintro e w3 ⟨v3,rfl,hrd3,hb3⟩
  obtain⟨A3,c3',hv3⟩:∃A c,v3= .slice A fe.r.ids.length c:=by obtain⟨A,c,h,_⟩:=hrd3;exact⟨A,c,h⟩
  subst hv3
  have HX3:=zh (HX2.out.below hb3 HX2.out.lt)
  have HW3:=zh (HWR2.out.below hb3 HWR2.out.lt)
  have HB3:=zh (HB2.out.trans (hb3.mono HB2.out.size))
  have HX4:=zh (HX3.out.set3 (.slice A3 fe.r.ids.length c3'))
  have HW4:=zh (HW3.out.setF (j:=3) (show w.heap.size≠w.heap.size+1 by omega) (.slice A3 fe.r.ids.length c3'))
  have HP:Hid (RcpW ((((((w3.setCell ⟨w.heap.size+1,3,none⟩ (.slice A3 fe.r.ids.length c3')).setCell ⟨w.heap.size,0,none⟩ (VT fe.r.name)).setCell ⟨w.heap.size,1,none⟩ (.int .i64 fe.r.len)).setCell ⟨w.heap.size,2,none⟩ (.int .u32 (fe.r.print:Int))).setCell ⟨w.heap.size,3,none⟩ (.slice A3 fe.r.ids.length c3'))) w.heap.size w3.heap.size (.agg #[VT fe.r.name,.int .i64 fe.r.len,.int .u32 (fe.r.print:Int),(.slice A3 fe.r.ids.length c3')]) fe.r):=zh
   ⟨_,rfl,hrd3.keep (fun p h1 h2=>(z9e _ _ _ _ _ (by omega)).trans (World.cell?_setCell_other _ _ _ _ (by intro e;rw[←e]at h1;simp only at h1;omega))) (by omega) (zl _)⟩
  have hz9:=z9c (w3.setCell ⟨w.heap.size+1,3,none⟩ (.slice A3 fe.r.ids.length c3')) w.heap.size (VT fe.r.name) (.int .i64 fe.r.len) (.int .u32 (fe.r.print:Int)) (.slice A3 fe.r.ids.length c3')
  have hz9':(w3.setCell ⟨w.heap.size+1,3,none⟩ (.slice A3 fe.r.ids.length c3')).heap.size=w3.heap.size:=by simp[World.setCell]
  rw[hz9']at hz9
  have HZ9:=zh hz9
  have HB9:=zh (Z7 (HB3.out.setCell (p:=⟨w.heap.size+1,3,none⟩) (Nat.le_succ _) (.slice A3 fe.r.ids.length c3')) (zl _) (VT fe.r.name) (.int .i64 fe.r.len) (.int .u32 (fe.r.print:Int)) (.slice A3 fe.r.ids.length c3'))
  obtain⟨d0,d1,d2,d3,_⟩:=HW4.out.set (VT fe.r.name) (.int .i64 fe.r.len) (.int .u32 (fe.r.print:Int)) (.slice A3 fe.r.ids.length c3')
  obtain⟨g0,g1,g2,g3,gf⟩:=HX3.out
  have gf3:=gf 3
  obtain⟨k0,k1,k2,k3,kf⟩:=HX4.out
  obtain⟨m0,m1,m2,m3,mf⟩:=HW4.out
  have f0:=mf 0
  have f1:=mf 1
  have f2:=mf 2
  have f3:=mf 3
  clear gf kf mf hrd3 hb3 e0 e1 e2 e3 hz9 hz9'
  go_wp2
  refine bodyPost_ret (v:= .tuple #[.agg #[VT fe.r.name,.int .i64 fe.r.len,.int .u32 (fe.r.print:Int),(.slice A3 fe.r.ids.length c3')],.nilIface]) (by simp[results,Tryz.results10,go_sem,d0,d1,d2,d3]) rfl ?_
  exact⟨_,_,rfl,by rw[HE.out];exact EV.none a _,by rw[HE.out,HZ9.out];exact HP.out,HB9.out⟩
theorem j5b{nm s:Bytes}(hn:J7 nm=true)(hs:s.length≤4000):RcpB (Q7 nm s) where
 n:=by have:=z1w hn;show nm.length≤_;omega
 l0:=by show(-9223372036854775808:Int)≤((s.length:Nat):Int);omega
 l1:=by show((s.length:Nat):Int)≤_;omega
 p:=q1u _
 c:=by have:=z6x hs;show(V8 s).length≤_;omega
 i:=fun x hx=>by
  obtain⟨p,hp,rfl⟩:=List.mem_map.1 hx
  have:=(z6y (W9 s p hp)).1
  exact⟨this.1,this.2.1,this.2.2⟩
def j5c(a:Nat→Addr)(q:Bytes×Int)(w:World)(e:Ending)(w':World):Prop:=∃r,e= .returned (.tuple #[VT q.1,r])∧ES a r q.2∧Below w.heap.size w w'
theorem j5d{L:HldL}{x:Idn}(h:(getB L x).isSome=true):z9q L x=(z6q L x,0):=by
 obtain⟨o,ho⟩:=Option.isSome_iff_exists.1 h
 unfold z9q z6q
 rw[ho];rfl
theorem j5e(a:Nat→Addr)(n fm bm:Nat)(F:FL)(B:BL)(hP:NodeOk (Q0 F B))(nm:Bytes)(hn:X6 nm)(w:World)(h:ONode n fm bm F B w)(hs:SomeS [1,2,3,4,6,8] a w) :
  Calls Tryz.prog 29 #[.pointer (some ⟨n,0,none⟩),.string (bs nm)] w (j5c a (getN nm (Q0 F B)) w):=by
 have LK:=fun w' (h':ONode n fm bm F B w')=>h'.files.look j2f (h.keysF hP) Tryz.underlying78 (j2g w') hn
 have c0:=h.c0
 cases hgf:Q1 F nm with
 | none=>
  have HE:Hid (getN nm (Q0 F B)=([],5)):=zh (by unfold getN;rw[show Q1 (Q0 F B).files nm=none by show Q1 (K7 FE.r F) nm=_;rw[G9,hgf];rfl])
  rw[hgf]at LK
  simp only[Option.map_none,Option.getD_none,Option.isSome_none]at LK
  have lk:=LK w h
  have hb1:Below w.heap.size w (w.alloc (.cells #[.string ByteArray.empty,.int .i64 0,.int .u32 0,.slice none 0 0] 40)):=(zb _ w).alloc (zl _) _
  have HB1:=zh hb1
  have s4:(w.alloc (.cells #[.string ByteArray.empty,.int .i64 0,.int .u32 0,.slice none 0 0] 40)).cell? ⟨0,0,none⟩=some (sval a 4):=(hs.below hb1) 4 (by simp)
  unfold sval at s4
  unfold j5c
  clear LK hgf h hP hn hb1 hs
  go_enter Tryz.func29,Tryz.ntmps29
  go_wp2
  go_quiet (fail)
  go_wp2
  go_ret2
  exact⟨_,by rw[HE.out];rfl,by rw[HE.out];exact ES.sent a 4 (by decide),V3 HB1.out _⟩
 | some fe=>
  obtain⟨hrd,hil,hgp⟩:=h.file hP hgf
  obtain⟨s,hnm,hsz,hr,hgn,L,hgL,hmp,hall⟩:=hP.get hgp
  have HE:Hid (getN nm (Q0 F B)=(s,0)):=zh hgn
  obtain⟨be,hgb,hbL⟩:∃be,Q1 B (repR fe.r)=some be∧be.L=L:=by
   have:Q1 (K7 BE.L B) (repR fe.r)=some L:=hgL
   rw[G9]at this
   cases hb:Q1 B (repR fe.r)with
   | none=>rw[hb]at this;cases this
   | some be=>rw[hb]at this;injection this with this;exact⟨be,rfl,this⟩
  have hrix:IdOk (repR fe.r):=(hP.bin _ _ hgL).1.1
  have LKB:=fun w' (h':ONode n fm bm F B w')=>h'.bins.at idRd (h.keysB hP) Tryz.underlying79 (j2h w') hrix
  rw[hgb]at LKB
  simp only[Option.map_some,Option.getD_some]at LKB
  unfold beV at LKB
  have HLB:=zh LKB
  rw[hgf]at LK
  simp only[Option.map_some,Option.getD_some,Option.isSome_some]at LK
  unfold feV at LK
  have HOB:Hid (∀w',ONode n fm bm F B w'→OBin be.b be.mb L w'):=zh (fun w' h'=>hbL▸h'.bin (_,be) (Y4 hgb))
  have HLI:Hid (∀y∈L,IdOk y.id):=zh (hP.bin7 hgL).idok
  have hri:fe.r.ids=V8 s:=by rw[hr];rfl
  have HRI:=zh hri
  have HALL:Hid (∀x∈fe.r.ids,z9q L x=(z6q L x,0)∧IdOk x):=zh (fun x hx=>by
   rw[hri]at hx
   refine⟨j5d (hall x hx),?_⟩
   obtain⟨p,hp,rfl⟩:=List.mem_map.1 hx
   exact(z6y (W9 s p hp)).1)
  have HMP:Hid (fe.r.ids.map (z6q L)=pieces s):=zh (by rw[hri];exact hmp)
  have HJ:Hid (q0p fe.r (pieces s)=(s,0,-1)):=zh (by rw[hr];exact z1i hnm hsz)
  have HRB:Hid (RcpB fe.r):=zh (by rw[hr];exact j5b hnm hsz)
  have HPM:Hid (∀p∈pieces s,p.length≤64):=zh (fun p hp=>W9 s p hp)
  obtain⟨SA,sc,hsl⟩:∃A c,fe.sl= .slice A fe.r.ids.length c:=by obtain⟨A,c,h,_⟩:=hrd;exact⟨A,c,h⟩
  rw[hsl]at LK hrd
  have lk:=LK w h
  have HN:=zh h
  have HRD:=zh hrd
  have HS:=zh hs
  have hrep:repR fe.r=Z8 fe.r.ids:=rfl
  rw[hrep]at HLB
  obtain⟨i0,hi,hz0,hz1',hz2'⟩:=info_parts j4z
  unfold j5c
  clear LK LKB hgf h hP hn hs hrd hgp hgn hgL hmp hall hr hri hgb hbL hrix hrep
  have hb1:Below w.heap.size w (w.alloc (.cells #[VT fe.r.name,.int .i64 fe.r.len,.int .u32 (fe.r.print:Int),.slice SA fe.r.ids.length sc] 40)):=(zb _ w).alloc (zl _) _
  have HX1:=zh (Box4.mk' w (VT fe.r.name) (.int .i64 fe.r.len) (.int .u32 (fe.r.print:Int)) (.slice SA fe.r.ids.length sc) 40)
  have HB1:=zh hb1
  have HN1:=zh (HN.out.below hb1)
  have hz1:=hb1.size
  go_enter Tryz.func29,Tryz.ntmps29
  go_wp2
  generalize w.alloc (.cells #[VT fe.r.name,.int .i64 fe.r.len,.int .u32 (fe.r.print:Int),.slice SA fe.r.ids.length sc] 40)=w1 at *
  clear hb1 lk c0
  have hS0:Below w1.heap.size w1 w1.drew:=(zb _ _).drew
  refine kR (fun w'=>Below w1.heap.size w1 w') 7 ?_
  refine kT 0 hS0 ?_
  refine kT 1 hS0 ?_
  refine kT 2 hS0 ?_
  refine kS 3 rfl hS0 (fun w' hS=>by have A0:=(HN1.out.below hS).c1;go_simp;rfl) ?_
  refine kS 4 rfl hS0 (fun w' hS=>by obtain⟨e0,e1,e2,e3,_⟩:=HX1.out.below hS HX1.out.lt;go_simp;rfl) ?_
  refine kC 5 (fun K hK=> ?_)
  go_simp
  refine(W0 (.agg #[VT fe.r.name,.int .i64 fe.r.len,.int .u32 (fe.r.print:Int),.slice SA fe.r.ids.length sc]) fe.r (by omega) _ ⟨_,rfl,(HRD.out.keep (HB1.out.trans (hS0.mono hz1)) (zl _)).more (Nat.le_trans hz1 hS0.size)⟩).mono ?_
  rintro e w2 ⟨rfl,hbw2⟩
  have hS1:Below w1.heap.size w1 w2:=hS0.trans (hbw2.mono hS0.size)
  refine hK _ _ hS1 ?_
  clear hK K
  try simp only[Act.put,zM]
  refine kS 6 rfl hS1 (fun w' hS=>by have A0:=HLB.out w' (HN1.out.below hS);go_simp;rfl) (kF ?_)
  try simp only[Act.put,zM]
  simp only[List.drop_succ_cons,List.drop_zero]
  have HX2:=zh (HX1.out.below hS1 HX1.out.lt)
  have HB2:=zh (HB1.out.trans (hS1.mono hz1))
  have HO2:=zh (HOB.out w2 (HN1.out.below hS1))
  have hz2:=HB2.out.size
  have hlt2:=HX2.out.lt
  have HRF:=zh (HRD.out.form)
  obtain⟨e0,e1,e2,e3,_⟩:=HX2.out
  clear hS0 hS1 hbw2 HN1 HN HB1 HX1 HLB HOB
  go_wp2
  clear e0 e1 e2 e3
  go_loopg [9,38] fe.r.ids.length (fun gh v9 v38 wr=>∃k:Nat,v38= .int .i64 k∧k≤fe.r.ids.length∧gh=fe.r.ids.length-k∧wr.ownsRow w2.heap.size 9 1 v9 k (((fe.r.ids.take k).map (z6q L)).map VT)∧Below w2.heap.size w2 wr)
  case atStart=>exact⟨0,rfl,Nat.zero_le _,rfl,World.ownsRow_nil _ _ _ _,zb _ _⟩
  case round=>
   obtain⟨k,rfl,hk,hgm,hrow,hB⟩:=hrel
   have HRW:=zh hrow
   have HBR:=zh hB
   have hzr:=hB.size
   clear hrow hB
   by_cases hkl:k<fe.r.ids.length
   ·obtain⟨A',c',hvv,_,hx⟩:=HRF.out
    obtain⟨g,o,hA,hg,hcell⟩:=hx (by omega)
    injection hvv with hv1 _ hv3
    subst hv1
    subst hv3
    subst hA
    have hbb:=HB2.out.trans (HBR.out.mono hz2)
    obtain⟨x0,x1⟩:=hcell k hkl
    have y0:=(hbb.cell (p:=⟨g,o+k*2,none⟩) hg).trans x0
    have y1:=(hbb.cell (p:=⟨g,o+k*2+1,none⟩) hg).trans x1
    obtain⟨hgr,hidx⟩:=HALL.out fe.r.ids[k] (List.getElem_mem hkl)
    have b1:(0:Int)≤(k:Int):=by omega
    have b2:(k:Int)<(fe.r.ids.length:Int):=by omega
    have hpl:(z6q L fe.r.ids[k]).length≤64:=HPM.out _ (by rw[←HMP.out];exact List.mem_map_of_mem (List.getElem_mem hkl))
    have HT:Hid (((fe.r.ids.take (k+1)).map (z6q L)).map VT=((fe.r.ids.take k).map (z6q L)).map VT++ [VT (z6q L fe.r.ids[k])]):=zh (by rw[List.take_succ_eq_append_getElem hkl,List.map_append,List.map_append];rfl)
    have hb3:Below wr.heap.size wr (wr.alloc (.cells #[.int .u32 (fe.r.ids[k].1:Int),.int .i64 fe.r.ids[k].2] 25)):=(zb _ _).alloc (zl _) _
    have HGET:=zh (z9r a be.b be.mb L HLI.out fe.r.ids[k] hidx _ (HO2.out.below (HBR.out.trans (hb3.mono hzr))) ((HS.out.below (hbb.trans (hb3.mono (Nat.le_trans hz2 hzr)))).sub (js:= [4]) (by decide)))
    rw[hgr]at HGET
    generalize fe.r.ids[k]=x at *
    generalize z6q L x=t at *
    have HB3:=zh hb3
    clear hcell hx x0 x1 hbb hgr hidx hb3
    go_wp2_with fail
    refine HGET.out.mono ?_
    rintro e w4 ⟨r4,rfl,hev,hb4⟩
    obtain⟨rfl,_⟩:=hev.nil rfl
    have HB4:=zh (HB3.out.trans (hb4.mono HB3.out.size))
    have HO4:=zh (Q4 HRW.out HB4.out)
    have hz4:=HB4.out.size
    clear hev hb4 y0 y1
    go_wp2_with(at_builtin;refine wpList_append_own _ rfl _ _ 60 rfl w2.heap.size 9 i0 (.string ByteArray.empty) 1 16 Tryz.underlying60 hi hz0 hz1' hz2' rfl (by decide) _ _ _ rfl (HO4.out.alloc _) ⟨w4.heap.size,0,none⟩ 1 1 [.string (bs t)] rfl rfl (j4y _ _ _) (by simp[Value.oneCell']) (by unfold maxLen;omega) (by omega) (by simp;omega) ?_;intro v5 w5 ho5 hg5 _)
    go_roundg (fe.r.ids.length-(k+1))
    case measure=>omega
    case rel=>exact⟨k+1,by go_num,hkl,rfl,by rw[HT.out];exact ho5,((HBR.out.trans (HB4.out.mono hzr)).alloc (Nat.le_trans hzr hz4) _).grown hg5 (by simp;omega) (fun j hj=>Y7 HRW.out hj)⟩
   ·obtain rfl:k=fe.r.ids.length:=by omega
    have hrw:=HRW.out
    rw[List.take_of_length_le (zl _),HMP.out]at hrw
    have hpn:(pieces s).length=fe.r.ids.length:=by rw[←HMP.out,List.length_map]
    have hX:=HX2.out.below HBR.out hlt2
    obtain⟨A9,c9,rfl⟩:=J0 hrw
    have HJN:=zh (j4t a (.agg #[VT fe.r.name,.int .i64 fe.r.len,.int .u32 (fe.r.print:Int),.slice SA fe.r.ids.length sc]) (.slice A9 fe.r.ids.length c9) fe.r HRB.out (pieces s) (by omega) (fun p hp=>by have:=HPM.out p hp;omega) wr ⟨_,rfl,(HRD.out.keep (HB2.out.trans (HBR.out.mono hz2)) (zl _)).more (Nat.le_trans hz2 hzr)⟩ (Rd.own hrw) ((HS.out.below (HB2.out.trans (HBR.out.mono hz2))).sub (js:= [1,2,3,6,8]) (by decide)))
    unfold j4r at HJN
    rw[HJ.out]at HJN
    obtain⟨e0,e1,e2,e3,_⟩:=hX
    clear hrw hpn
    go_wp2_with fail
    refine HJN.out.mono ?_
    rintro e w4 ⟨x4,rfl,hev,hb4⟩
    obtain⟨rfl,_⟩:=hev.nil rfl
    have HB4:=zh ((HB2.out.trans (HBR.out.mono hz2)).trans (hb4.mono (Nat.le_trans hz2 hzr)))
    clear hb4 e0 e1 e2 e3
    go_wp2_with fail
    refine(z9z a .nilIface 0 (-1) w4 hev).mono ?_
    rintro e w5 ⟨x5,rfl,hes,hb5⟩
    have HB5:=zh (HB4.out.trans (hb5.mono HB4.out.size))
    have HES:=zh hes
    clear hb5 hes hev
    go_wp2
    go_ret2
    exact⟨_,by rw[HE.out];rfl,by rw[HE.out];exact HES.out,HB5.out⟩
end Go.Proofs.YtdmlghfggninbaaGreatDoor
namespace Go.Proofs.YtdmlghfggninbaaGreatDoor
open Go.RowKit Go.Lib Go.Maps Go.WideMaps Go.Sort Go.Shelf
theorem q0b:∀(a b:Bytes),bytesBefore a b=Op.bytesLess a b
 | [],[]=>rfl
 | [],_::_=>rfl
 | _::_,[]=>rfl
 | a::r,b::s=>by
  show(decide (a<b)||(a==b&&bytesBefore r s))=(decide (a<b)||(a==b&&Op.bytesLess r s))
  rw[q0b r s]
theorem j5f(a b:Bytes):bytesBefore a b=decide (a<b):=(q0b a b).trans (bytesLess_eq a b)
theorem j5g{K ss:List Bytes}(hs:K.Pairwise fun a b=>bytesBefore a b=true)(h:ss.Perm K):ss.mergeSort (fun x y=>decide (x≤y))=K:=by
 refine(mergeSort_of_perm h).trans (List.mergeSort_of_pairwise ?_)
 refine List.Pairwise.imp (fun {a b} hab=> ?_) hs
 rw[j5f]at hab
 exact decide_eq_true (List.le_of_lt (of_decide_eq_true hab))
theorem j5h:(encStr:Bytes→Value)=VT:=rfl
def J4(P:PNode):List Bytes:=P.files.map (·.1)
def ofN(P:PNode)(x:Idn):List Bytes:=(P.files.filter fun q=>decide (repR q.2=x)).map (·.1)
theorem NodeW.names_srtW{P:PNode}(h:NodeW P):(J4 P).Pairwise fun a b=>bytesBefore a b=true:=by
 unfold J4
 rw[List.pairwise_map]
 exact h.fsrt
theorem NodeOk.of_srt{P:PNode}(h:NodeOk P)(x:Idn):(ofN P x).Pairwise fun a b=>bytesBefore a b=true:=by
 unfold ofN
 rw[List.pairwise_map]
 exact h.fsrt.filter _
theorem j5i(F:FL):strKeys (alD C9 feV F)=J4 (Q0 F []):=by
 unfold J4 Q0 K7 strKeys alD
 simp only[List.map_map]
 rfl
theorem j5j(n fm bm:Nat)(F:FL)(B:BL)(hP:NodeW (Q0 F B))(w:World)(h:ONode n fm bm F B w) :
  Calls Tryz.prog 27 #[.pointer (some ⟨n,0,none⟩)] w fun e w'=>∃v,e= .returned v∧w'.ownsRow w.heap.size 9 1 v (J4 (Q0 F B)).length ((J4 (Q0 F B)).map VT)∧Below w.heap.size w w':=by
 refine(callsIn_wide (n:=6)).1 ?_
 have hfK:Fence.wide.fn 82:=trivial
 have hfS:Fence.wide.fn 81:=trivial
 have c0:=h.c0
 have hmap:=h.files
 have hfl:=hP.flen
 have hfl':F.length≤30:=by simpa[Q0,W5]using hfl
 have hsz:Maps.size (alD C9 feV F)=F.length:=z5b _ _ _
 have h1:Maps.size (alD C9 feV F)≤maxLen:=by rw[hsz];unfold maxLen;omega
 have h2:Maps.size (alD C9 feV F)*16≤140737488355328:=by rw[hsz];omega
 have HNS:=zh hP.names_srtW
 have hkk:strKeys (alD C9 feV F)=J4 (Q0 F B):=j5i F
 unfold AlMap at hmap
 have HKK:=zh hkk
 clear h hP hkk hfl hfl' hsz
 refine callsIn_of_wp Tryz.func27 rfl trivial ?_ rfl
 simp only[Tryz.ntmps27,List.size_toArray,List.length_cons,List.length_nil,Nat.reduceAdd,Nat.reduceSub,Array.replicate_succ,Array.replicate_zero,List.push_toArray,List.append_toArray,List.nil_append,List.cons_append]
 gi_wp2_with (first
  | (gi_at_call 82;refine(Tryz.maps_Keys_82 _ _).mono ?_;rintro e w' ⟨rfl,rfl⟩)
  | (gi_at_call 81;refine(Tryz.slices_Sorted_keys_81_82 fm F.length (alD C9 feV F) rawE w hmap h1 h2).mono ?_;rintro e w' ⟨v,ss,rfl,hS,hrow,hnil,hb⟩))
 go_ret
 rw[HKK.out]at hS
 rw[j5g HNS.out hS,j5h,hS.length_eq]at hrow
 exact⟨v,rfl,ownsRow_base_a hrow (by simp),((zb _ w).alloc (zl _) _).trans (hb.mono (by simp))⟩
theorem j5k(base:Nat)(v:Value)(K ss:List Bytes)(hs:K.Pairwise fun a b=>bytesBefore a b=true)(hp:ss.Perm K)(hl:ss.length≤1000000)(w0 w:World)(hB:Below base w0 w)(hbase:base≤w.heap.size)(ho:w.ownsRow base 9 1 v ss.length (ss.map VT)) :
  Calls Tryz.prog 152 #[v] w fun e w'=>e= .returned (.tuple #[])∧w'.ownsRow base 9 1 v K.length (K.map VT)∧Below base w0 w':=by
 have hlen:ss.length=K.length:=hp.length_eq
 by_cases hv:v= .slice none 0 0
 ·subst hv
  have h0:ss.length=0:=by
   rcases ho.2 with⟨_,h⟩|⟨g,cap,cur,e,_⟩
   ·exact h
   ·cases e
  have hk:K= []:=List.length_eq_zero_iff.1 (by omega)
  subst hk
  exact(Tryz.slices_Sort_string_none none 0 w).mono fun e w' ⟨he,hw⟩=>⟨he,by rw[hw];exact World.ownsRow_nil _ _ _ _,by rw[hw];exact hB⟩
 ·obtain⟨g,cap,rfl,hbg,hgl,hnc,hcm,hz,hH⟩:=holds_of_ownsRow (enc:=encStr) ho hv
  refine(Tryz.slices_Sort_string g 0 cap ss w hH hgl (by omega)).mono ?_
  rintro e w' ⟨rfl,q,os,rfl⟩
  rw[j5g hs hp]
  have h1:=ownsRow_putRow (enc:=encStr) (q:=q) (k:=ss.length) (ys:=K) ho hlen.symm (zl _)
  rw[List.take_of_length_le (by omega)]at h1
  have h2:=Q4 h1 (Lib.below_grow _ _ (zl _) 0 os)
  refine⟨rfl,by rw[←hlen];exact h2,?_⟩
  have hbp:=Lib.below_putRow (enc:=encStr) (q:=q) (d:=K.toArray) hB hbg
  exact hbp.trans ((Lib.below_grow _ _ (zl _) 0 os).mono (Nat.le_trans hbase (by simp[putRow,mapBlock,Sort.ahead])))
theorem j5l{w w':World}{base n size:Nat}{r:Option Nat}{e:TypeId}{v:Value}{xs:List Value}(h:w.ownsRow base e size v n xs)(hg:w.grownBy w' r)(hne:∀g,v.ownBlock=some g→r≠some g):w'.ownsRow base e size v n xs:=by
 refine⟨h.1,?_⟩
 rcases h.2 with h1|⟨g,cap,cur,hv,hgb,hh,h3⟩
 ·exact .inl h1
 ·exact .inr ⟨g,cap,cur,hv,hgb,(hg.block g (Array.getElem?_eq_some_iff.1 hh).1 (fun e=>hne g (by rw[hv];rfl) e.symm)).trans hh,h3⟩
theorem j5m{w w':World}{d:Nat}{x y:Value}{r:Option Nat}(h:w.grownBy w' r)(hne:some d≠r)(hx:Box2 d x y w):Box2 d x y w':=
 ⟨(h.cell_far ⟨d,0,none⟩ hx.lt hne).trans hx.c0,(h.cell_far ⟨d,1,none⟩ hx.lt hne).trans hx.c1,(h.frozen_far ⟨d,0,none⟩ hx.lt hne).trans hx.f0,(h.frozen_far ⟨d,1,none⟩ hx.lt hne).trans hx.f1⟩
def q0o(x:Idn)(os:FL):List Bytes:=(os.filter fun q=>decide (repR q.2.r=x)).map (·.1)
theorem j5n{x:Idn}{os:FL}{o:Bytes×FE}(h:repR o.2.r=x):q0o x (os++ [o])=q0o x os++ [o.1]:=by
 unfold q0o
 rw[List.filter_append,List.map_append,List.filter_cons,if_pos (by simp[h])];rfl
theorem j5o{x:Idn}{os:FL}{o:Bytes×FE}(h:repR o.2.r≠x):q0o x (os++ [o])=q0o x os:=by
 unfold q0o
 rw[List.filter_append,List.map_append,List.filter_cons,if_neg (by simp[h])];simp
theorem j5p(x:Idn)(os:FL):(q0o x os).length≤os.length:=by
 unfold q0o
 rw[List.length_map]
 exact List.length_filter_le _ _
theorem j5q{x:Idn}{os F:FL}(h:os.Perm F)(B:BL):(q0o x os).Perm (ofN (Q0 F B) x):=by
 have e:ofN (Q0 F B) x=q0o x F:=by
  unfold ofN Q0 K7 q0o
  rw[List.filter_map,List.map_map]
  rfl
 rw[e]
 exact(h.filter _).map _
theorem AlCame.len{K V:Type}[DecidableEq K]{lit:K→Lit}{lt:K→K→Bool}{ok okw:K→Prop}(E:KeyEmb lit lt ok okw){L:List (K×V)}{left:Lit→Bool}{os:List (K×V)}(h:AlCame lit L left os)(hs:K1 lt L):os.length≤L.length:=by
 have h1:(os.map (·.1)).length≤(L.map (·.1)).length:=z7f h.1 (fun a ha=>by
  obtain⟨o,ho,rfl⟩:=List.mem_map.1 ha
  exact List.mem_map_of_mem (h.sub o ho))
 simpa using h1
theorem j5r(n fm bm:Nat)(F:FL)(B:BL)(hsf:K1 bytesBefore F)(hkf:∀p∈F,X6 p.1)(hfl:F.length≤30)(hif:∀q∈F,q.2.r.ids.length≤250)(x:Idn)(w:World)(h:ONode n fm bm F B w) :
  Calls Tryz.prog 94 #[.pointer (some ⟨n,0,none⟩),idV x] w fun e w'=>∃v,e= .returned v∧w'.ownsRow w.heap.size 9 1 v (ofN (Q0 F B) x).length ((ofN (Q0 F B) x).map VT)∧Below w.heap.size w w':=by
 obtain⟨i0,hi,hz0,hz1,hz2⟩:=info_parts j4z
 have hb0:Below w.heap.size w (w.alloc (.cells #[.int .u32 (x.1:Int),.int .i64 x.2] 25)):=(zb _ w).alloc (zl _) _
 have HX0:=zh (Box2.mk' w (.int .u32 (x.1:Int)) (.int .i64 x.2) 25)
 have HB0:=zh hb0
 have HN:=zh (h.below hb0)
 have HIF:=zh hif
 have HKF:=zh hkf
 have HSF:=zh hsf
 have HOS:Hid ((ofN (Q0 F B) x).Pairwise fun a b=>bytesBefore a b=true):=zh (by
  unfold ofN Q0
  rw[List.pairwise_map]
  exact List.Pairwise.filter _ (z4z.2 hsf))
 have hz0':(w.alloc (.cells #[.int .u32 (x.1:Int),.int .i64 x.2] 25)).heap.size=w.heap.size+1:=by simp
 have c0:=(h.below hb0).c0
 clear h hb0 hif hkf hsf
 go_enter Tryz.func94,Tryz.ntmps94
 go_wp2_with(first|(at_range;refine wpList_range_own _ rfl _ 78 rfl 9 40 j2c Tryz.underlying78 rawE fm F.length (alD C9 feV F) rfl HN.out.files ?_;intro w0 hrg0 hg0 hs0)|fail)
 generalize w.alloc (.cells #[.int .u32 (x.1:Int),.int .i64 x.2] 25)=w1 at *
 have hmlt:=HN.out.files.blt
 go_frame
 have hb1:Below w1.heap.size w1 w0:=(zb _ _).grown hg0 (zl _) (fun j hj=>by cases hj)
 have HRG0:=zh hrg0
 have HN0:=zh (HN.out.below hb1)
 have HX1:=zh (HX0.out.below hb1 HX0.out.lt)
 have HB1:=zh (HB0.out.trans (hb1.mono HB0.out.size))
 have HB01:=zh hb1
 have hw01:=hb1.size
 have hrlt:=hrg0.lt
 have HZ0:=zh hz0'
 clear hrg0 hg0 hs0 hb1 c0 hz0'
 go_loopg [5] (Maps.size (alD C9 feV F)) (fun gh v5 wr=>∃(left:Lit→Bool) (os:FL),wr.ranges Tryz.prog 9 rawE fm w1.heap.size F.length (alD C9 feV F) left gh∧Hid (AlCame C9 F left os)∧Hid (wr.ownsRow w0.heap.size 9 1 v5 (q0o x os).length ((q0o x os).map VT))∧Hid (Below w1.heap.size w1 wr)∧w0.heap.size≤wr.heap.size∧Hid (Box2 w.heap.size (.int .u32 (x.1:Int)) (.int .i64 x.2) wr))
 case atStart=>exact⟨_,[],HRG0.out,zh (AlCame.start U3 feV HKF.out),zh (World.ownsRow_nil _ _ _ _),HB01,zl _,HX1⟩
 case round=>
  obtain⟨left,os,hrg,hcm,HRW,HBR,hzr,HXR⟩:=hrel
  have hosl:os.length≤30:=by have:=hcm.out.len U3 HSF.out;omega
  have hcl:(q0o x os).length≤30:=Nat.le_trans (j5p x os) hosl
  have HSTP:=zh (fun o ho hl=>hcm.out.step (o:=o) U3 HSF.out HKF.out ho hl)
  go_wp2_with(first|(at_next;refine wpList_next_ranges _ rfl _ rfl 9 j2c rawE strV id j2f.mk_inv z5q fm w1.heap.size F.length (alD C9 feV F) left _ rfl hrg ?_ ?_)|fail)
  ·intro _ hl0
   have HPM:=zh (j5q (x:=x) (hcm.out.perm U3 HSF.out hl0) B)
   have hlen:(q0o x os).length≤1000000:=by omega
   have HST:=zh (j5k w0.heap.size u5 (ofN (Q0 F B) x) (q0o x os) HOS.out HPM.out hlen wr wr (zb _ _) hzr HRW.out)
   clear hl0 hrg hcm HSTP
   go_wp2_with fail
   refine HST.out.mono ?_
   rintro e w2 ⟨rfl,ho2,hb2⟩
   have HO2:=zh ho2
   have HB2:=zh (HB0.out.trans ((HBR.out.trans (hb2.mono hw01)).mono HB0.out.size))
   clear ho2 hb2
   go_wp2
   go_ret
   exact⟨_,rfl,ownsRow_base_a HO2.out HB1.out.size,HB2.out⟩
  ·intro nm c kl yd yp w2 cnt2 hkey hlk hv hat hrg2 hlt hg2 hs2 hen
   obtain⟨rfl,hx,fe,hm,rfl⟩:=z5r j2f HKF.out hkey hv hat
   have HB2:=zh (HBR.out.grown hg2 (Nat.le_trans hw01 hzr) (fun j hj=>by cases hj;omega))
   have HCM:=zh (HSTP.out (nm,fe) hm hlk)
   have HRW2:=zh (j5l HRW.out hg2 (fun g e1 e2=>by injection e2 with e2;have:=Y7 HRW.out e1;omega))
   have hsz2:w0.heap.size≤w2.heap.size:=Nat.le_trans hzr hg2.size
   have HX2:=zh (z8y hg2 (by have:=HZ0.out;omega) HXR.out)
   have HN2:=zh (HN.out.below HB2.out)
   obtain⟨SA,sc,hsl⟩:∃A c,fe.sl= .slice A fe.r.ids.length c:=by obtain⟨A,c,h,_⟩:=HN2.out.rd _ hm;exact⟨A,c,h⟩
   have hrd:=HN2.out.rd _ hm
   have hil:fe.r.ids.length≤250:=HIF.out _ hm
   simp only at hrd
   unfold feV at hen hrg2
   rw[hsl]at hrd hen
   have hb3:Below w2.heap.size w2 (w2.alloc (.cells #[VT fe.r.name,.int .i64 fe.r.len,.int .u32 (fe.r.print:Int),.slice SA fe.r.ids.length sc] 40)):=(zb _ _).alloc (zl _) _
   have HY3:=zh (Box4.mk' w2 (VT fe.r.name) (.int .i64 fe.r.len) (.int .u32 (fe.r.print:Int)) (.slice SA fe.r.ids.length sc) 40)
   have HRD3:=zh ((hrd.keep hb3 (zl _)).more hb3.size)
   have HX3:=zh (HX2.out.below hb3 HX2.out.lt)
   have HB3:=zh (HB2.out.trans (hb3.mono (Nat.le_trans hw01 hsz2)))
   have HRW3:=zh (Q4 HRW2.out hb3)
   have HRG3:=zh (World.ranges.kept hrg2 (X7 (r:=none) hb3) (by simp) (by simp))
   have hsz3:w0.heap.size≤(w2.alloc (.cells #[VT fe.r.name,.int .i64 fe.r.len,.int .u32 (fe.r.print:Int),.slice SA fe.r.ids.length sc] 40)).heap.size:=Nat.le_trans hsz2 hb3.size
   have HKN:Hid (nm.length≤maxLen):=zh hx
   clear hkey hlk hv hat hrg2 hg2 hs2 hx hm hrg hcm hsl hrd hb3 HSTP HN2 HX2 HRW2 HRW HBR HXR HB2
   unfold feV
   go_wp2
   generalize w2.alloc (.cells #[VT fe.r.name,.int .i64 fe.r.len,.int .u32 (fe.r.print:Int),.slice SA fe.r.ids.length sc] 40)=w3 at *
   have hS0:Below w3.heap.size w3 w3.drew:=(zb _ _).drew
   refine kR (fun w'=>Below w3.heap.size w3 w') 3 ?_
   refine kS 0 rfl hS0 (fun w' hS=>by obtain⟨e0,e1,e2,e3,_⟩:=HY3.out.below hS HY3.out.lt;go_simp;rfl) ?_
   refine kS 2 rfl hS0 (fun w' hS=>by have A0:=(HX3.out.below hS HX3.out.lt).c0;have A1:=(HX3.out.below hS HX3.out.lt).c1;go_simp;rfl) ?_
   refine kC 1 (fun K hK=> ?_)
   go_simp
   refine(W0 (.agg #[VT fe.r.name,.int .i64 fe.r.len,.int .u32 (fe.r.print:Int),.slice SA fe.r.ids.length sc]) fe.r (by omega) _ ⟨_,rfl,(HRD3.out.keep hS0 (zl _)).more hS0.size⟩).mono ?_
   rintro e w4 ⟨rfl,hbw4⟩
   have hS1:Below w3.heap.size w3 w4:=hS0.trans (hbw4.mono hS0.size)
   refine hK _ _ hS1 (kF ?_)
   clear hK K
   try simp only[Act.put,zM]
   try simp only[Act.put,zM]
   simp only[List.drop_succ_cons,List.drop_zero]
   have HB4:=zh (HB3.out.trans (hS1.mono (Nat.le_trans hw01 hsz3)))
   have HRW4:=zh (Q4 HRW3.out hS1)
   have HRG4:=zh (World.ranges.kept HRG3.out (X7 (r:=none) hS1) (by simp) (by simp))
   have HX4:=zh (HX3.out.below hS1 HX3.out.lt)
   have hsz4:w0.heap.size≤w4.heap.size:=Nat.le_trans hsz3 hS1.size
   clear hS0 hS1 hbw4 HB3 HRW3 HRG3 HX3 HY3 HRD3 hen
   by_cases hr:repR fe.r=x
   ·obtain⟨t1,t2⟩:=j0a (show Z8 fe.r.ids=x from hr)
    have HC2:Hid (q0o x (os++ [(nm,fe)])=q0o x os++ [nm]):=zh (j5n (o:=(nm,fe)) hr)
    have hnl:nm.length≤maxLen:=HKN.out
    clear hr
    obtain⟨A5,c5,hv5⟩:=J0 HRW4.out
    subst hv5
    go_wp2_with(at_builtin;refine wpList_append_own _ rfl _ _ 60 rfl w0.heap.size 9 i0 (.string ByteArray.empty) 1 16 Tryz.underlying60 hi hz0 hz1 hz2 rfl (by decide) _ _ _ rfl (HRW4.out.alloc _) ⟨w4.heap.size,0,none⟩ 1 1 [.string (bs nm)] rfl rfl (j4y _ _ _) (by simp[Value.oneCell']) (by unfold maxLen;omega) (by omega) (by simp;omega) ?_;intro v6 w6 ho6 hg6 _)
    have HBA:Hid (Below w4.heap.size w4 (w4.alloc (.cells #[.string (bs nm)] 9))):=zh ((zb _ _).alloc (zl _) _)
    have hrwa:=Q4 HRW4.out HBA.out
    have hz4:w1.heap.size≤w4.heap.size:=Nat.le_trans hw01 hsz4
    have HB6:=zh ((HB4.out.trans (HBA.out.mono hz4)).grown hg6 (Nat.le_trans hz4 HBA.out.size) (fun j hj=>Nat.le_trans hw01 (Y7 hrwa hj)))
    have HRG6:=zh (World.ranges.kept (World.ranges.kept HRG4.out (X7 (r:=none) HBA.out) (by simp) (by simp)) hg6 (fun e=>by have:=Y7 hrwa e.symm;omega) (fun e=>by have:=Y7 hrwa e.symm;omega))
    have HX6:=zh (j5m hg6 (fun e=>by have:=Y7 hrwa e.symm;have:=HX0.out.lt;omega) (HX4.out.below HBA.out HX4.out.lt))
    have hsz6:w0.heap.size≤w6.heap.size:=Nat.le_trans (Nat.le_trans hsz4 HBA.out.size) hg6.size
    have HRW6:Hid (w6.ownsRow w0.heap.size 9 1 v6 (q0o x (os++ [(nm,fe)])).length ((q0o x (os++ [(nm,fe)])).map VT)):=zh (by rw[HC2.out,List.length_append,List.map_append];exact ho6)
    clear hrwa ho6 hg6 HBA
    go_roundg cnt2
    case measure=>exact hlt
    case rel=>exact⟨_,os++ [(nm,fe)],HRG6.out,HCM,HRW6,HB6,hsz6,HX6⟩
   ·have HC2:Hid (q0o x (os++ [(nm,fe)])=q0o x os):=zh (j5o (o:=(nm,fe)) hr)
    have HRW6:Hid (w4.ownsRow w0.heap.size 9 1 u5 (q0o x (os++ [(nm,fe)])).length ((q0o x (os++ [(nm,fe)])).map VT)):=zh (by rw[HC2.out];exact HRW4.out)
    rcases j0b (show ¬Z8 fe.r.ids=x from hr)with t1|⟨t1,t2⟩
    ·clear hr
     go_wp2
     go_roundg cnt2
     case measure=>exact hlt
     case rel=>exact⟨_,os++ [(nm,fe)],HRG4.out,HCM,HRW6,HB4,hsz4,HX4⟩
    ·clear hr
     go_wp2
     go_roundg cnt2
     case measure=>exact hlt
     case rel=>exact⟨_,os++ [(nm,fe)],HRG4.out,HCM,HRW6,HB4,hsz4,HX4⟩
end Go.Proofs.YtdmlghfggninbaaGreatDoor
namespace Go.Proofs.YtdmlghfggninbaaGreatDoor
open Go.RowKit Go.Lib Go.Maps
def j5s:Bytes:= [108,111,97,100]
def j5t(k n:Nat):Bytes:=j5s++32::(itoa (k:Int)++32::(itoa (n:Int)++ [10]))
def j5u(P:PNode)(nm:Bytes):Bytes:=X4 (recN nm P).2++ [10]
def V0(P:PNode)(x:Idn)(L:HldL):Bytes:=j5t (ofN P x).length (Y9 L).length++(((ofN P x).map (j5u P)).flatten++Y9 L)
def outN(P:PNode)(x:Idn):Bytes×Int:=match Q1 P.bins x with
 | none=>([],5)
 | some L=>(V0 P x L++hex8 (prOf (V0 P x L)),0)
def U9(s:Bytes):Option (List Rcp):=
 if s= []then some []else
 match _h:J1 10 s with
 | none=>none
 | some (l,r)=>match Y6 l with
  | .error _=>none
  | .ok x=>(U9 r).map (x:: ·)
termination_by s.length
decreasing_by
 obtain⟨rfl,_⟩:=D8 _ _ _ _ _h
 simp only[List.length_append,List.length_cons]
 omega
theorem j5v:U9 []=some []:=by rw[U9];simp
theorem j5w{s:Bytes}(hs:s≠ [])(h:J1 10 s=none):U9 s=none:=by
 rw[U9,if_neg hs]
 split
 ·rfl
 ·next l r h2=>rw[h]at h2;cases h2
theorem j5x{s l r:Bytes}{f:Int×Int}(hs:s≠ [])(h:J1 10 s=some (l,r))(hr:Y6 l= .error f):U9 s=none:=by
 rw[U9,if_neg hs]
 split
 ·rfl
 ·next l' r' h2=>
  rw[h]at h2
  injection h2 with h2
  injection h2 with e1 e2
  subst e1;subst e2
  rw[hr]
theorem j5y{s l r:Bytes}{x:Rcp}(hs:s≠ [])(h:J1 10 s=some (l,r))(hr:Y6 l= .ok x):U9 s=(U9 r).map (x:: ·):=by
 rw[U9,if_neg hs]
 split
 ·next h2=>rw[h]at h2;cases h2
 ·next l' r' h2=>
  rw[h]at h2
  injection h2 with h2
  injection h2 with e1 e2
  subst e1;subst e2
  rw[hr]
def j5z:List Bytes→Option (List Rcp)
 | []=>some []
 | l::t=>match Y6 l with
  | .error _=>none
  | .ok x=>(j5z t).map (x:: ·)
theorem j6a:∀(n:Nat) (s:Bytes),s.length≤n→U9 s=if(K5 10 s).getLast? =some []then j5z (K5 10 s).dropLast else none:=by
 intro n
 induction n with
 | zero=>
  intro s hs
  have:s= []:=List.length_eq_zero_iff.1 (by omega)
  subst this
  rw[j5v];rfl
 | succ n ih=>
  intro s hs
  by_cases h0:s= []
  ·subst h0;rw[j5v];rfl
  ·cases hc:J1 10 s with
   | none=>
    rw[j5w h0 hc]
    have hn:=(q2l _ _).1 hc
    unfold K5
    rw[q9r _ _ _ hn,List.nil_append]
    simp[h0]
   | some q=>
    obtain⟨l,r⟩:=q
    obtain⟨rfl,hn⟩:=D8 _ _ _ _ hc
    have hr:=ih r (by simp only[List.length_append,List.length_cons]at hs;omega)
    have hcut:K5 10 (l++10::r)=l::K5 10 r:=by
     unfold K5
     rw[q9s _ _ _ _ hn,List.nil_append]
    have hne:K5 10 r≠ []:=q9t _ _ _
    rw[hcut,List.getLast?_cons,List.dropLast_cons_of_ne_nil hne]
    have hg:(K5 10 r).getLast?.getD l=((K5 10 r).getLast hne):=by rw[List.getLast?_eq_some_getLast hne];rfl
    rw[List.getLast?_eq_some_getLast hne]at hr ⊢
    simp only[Option.getD_some]
    cases hx:Y6 l with
    | error f=>
     rw[j5x h0 hc hx]
     unfold j5z
     rw[hx]
     simp
    | ok x=>
     rw[j5y h0 hc hx,hr]
     conv=>rhs;unfold j5z
     rw[hx]
     by_cases he:(K5 10 r).getLast hne= []
     ·simp[he]
     ·simp[he]
def R4(s:Bytes):Except Int (List Rcp×HldL):=
 if 40000<s.length then .error 2 else if s.length<8 then .error 1 else
 match J1 10 (s.take (s.length-8)),K9 (s.drop (s.length-8))with
 | some (h,rest),some mark=>match K5 32 h with
  | [a,b,c]=>if a=j5s then match V1 b 6,V1 c 6 with
    | some n,some m=>if rest.length<m then .error 1 else match U9 (rest.take (rest.length-m))with
     | none=> .error 1
     | some fs=>if(Y5 (rest.drop (rest.length-m))).2.1=0∧fs.length=n then
       if mark=prOf (s.take (s.length-8))then .ok (fs,(Y5 (rest.drop (rest.length-m))).1)else .error 9
      else .error 1
    | _,_=> .error 1
   else .error 1
  | _=> .error 1
 | _,_=> .error 1
def j6b(fs:List Rcp)(x:Idn)(L:HldL)(P:PNode):PNode:=⟨fs.foldl (fun F r=>Q9 bytesBefore r.name r F) P.files,Q9 Q2 x L P.bins⟩
def inFL(fs:List Rcp)(L:HldL)(P:PNode):PNode×List Bytes×Int:=match fs with
 | []=>(P,[],3)
 | r0::t=>if t.any (fun r=> !decide (repR r=repR r0))=true then(P,[],3)
  else if(G7 (r0::t) [⟨repR r0,L⟩]).1≠0 then(P,[],(G7 (r0::t) [⟨repR r0,L⟩]).1)
  else if((Q1 P.bins (repR r0)).isSome||(r0::t).any (fun r=>(Q1 P.files r.name).isSome))=true then(P,[],6)
  else if 30<P.files.length+(r0::t).length then(P,[],7)
  else if(q0f L).1≠0 then(P,[],(q0f L).1)
  else(j6b (r0::t) (repR r0) L P,ofN (j6b (r0::t) (repR r0) L P) (repR r0),0)
def inN(s:Bytes)(P:PNode):PNode×List Bytes×Int:=match R4 s with
 | .error c=>(P,[],c)
 | .ok (fs,L)=>inFL fs L P
def j6c(x:Idn)(P:PNode):PNode×List Bytes×Int:=match Q1 P.bins x with
 | none=>(P,[],5)
 | some _=>((ofN P x).foldl (fun Q nm=>(M1 nm Q).1) P,ofN P x,0)
theorem j6d{x:Bytes}{n k:Nat}(h:G4 x=some (n,k)):n<4294967296:=by
 unfold G4 at h
 split at h
 ·cases h
 ·split at h
  ·next x y hx hy=>
   simp only[Option.some.injEq,Prod.mk.injEq]at h
   obtain⟨rfl,rfl⟩:=h
   exact(q3y hx).1
  ·cases h
theorem j6e:∀ {ws:List Bytes} {L:IdL},V6 ws=some L→∀x∈L,x.1<4294967296
 | [],L,h,x,hx=>by
  unfold V6 at h
  injection h with h
  subst h
  cases hx
 | a::r,L,h,x,hx=>by
  unfold V6 at h
  split at h
  ·next n k hn=>
   split at h
   ·next l hl=>
    injection h with h
    subst h
    rcases List.mem_cons.1 hx with rfl|hx
    ·exact j6d hn
    ·exact j6e hl x hx
   ·cases h
  ·cases h
structure RcpK(r:Rcp):Prop where
 ok:(Z9 r).1=0
 p:r.print<4294967296
 i:∀x∈r.ids,x.1<4294967296
theorem j6f{t:Bytes}{r:Rcp}(h:Y6 t= .ok r):RcpK r:=by
 unfold Y6 at h
 split at h
 ·cases h
 ·unfold z0z at h
  split at h
  ·next a b c ws _=>
   split at h
   ·next n p hn hp=>
    unfold z0y at h
    split at h
    ·next ids hids=>
     split at h
     ·next h0=>
      injection h with h
      subst h
      exact⟨h0,(q3y hp).1,j6e hids⟩
     ·cases h
    ·cases h
   ·cases h
  ·cases h
theorem RcpK.name{r:Rcp}(h:RcpK r):r.name.length≤12:=z1w (R0 h.ok).1
theorem RcpK.ids{r:Rcp}(h:RcpK r):r.ids.length≤250:=(R0 h.ok).2.2.2.1
theorem RcpK.id0{r:Rcp}(h:RcpK r):∀x∈r.ids,R5 x:=fun x hx=>by
 have h1:=z1c _ _ 0 0 (show(X9 r.len 0 0 r.ids).1=0 by rw[(R0 h.ok).2.2.2.2]) x hx
 exact⟨⟨h.i x hx,by omega,by omega⟩,by omega⟩
theorem RcpK.rcpB{r:Rcp}(h:RcpK r):RcpB r:=by
 obtain⟨_,h2,h3,h4,_⟩:=R0 h.ok
 have:=h.name
 exact⟨by omega,by omega,by omega,h.p,by omega,fun x hx=>(h.id0 x hx).1⟩
theorem j6g{r:Rcp}(h:RcpK r):R5 (repR r):=by
 by_cases hn:r.ids= []
 ·have:repR r=idOf []:=by unfold repR;rw[hn];rfl
  rw[this]
  exact⟨⟨q1u _,by decide,by decide⟩,by decide⟩
 ·exact h.id0 _ (z1k hn)
theorem j6h:∀ {ls:List Bytes} {fs:List Rcp},j5z ls=some fs→(∀r∈fs,RcpK r)∧fs.length=ls.length
 | [],fs,h=>by
  unfold j5z at h
  injection h with h
  subst h
  exact⟨fun r hr=>(by cases hr),rfl⟩
 | l::t,fs,h=>by
  unfold j5z at h
  split at h
  ·cases h
  ·next x hx=>
   cases hr:j5z t with
   | none=>rw[hr]at h;cases h
   | some gs=>
    rw[hr]at h
    injection h with h
    subst h
    obtain⟨h1,h2⟩:=j6h hr
    refine⟨fun r hr=> ?_,by rw[List.length_cons,List.length_cons,h2]⟩
    rcases List.mem_cons.1 hr with rfl|hr
    ·exact j6f hx
    ·exact h1 r hr
theorem j6i{s:Bytes}{fs:List Rcp}(h:U9 s=some fs):(∀r∈fs,RcpK r)∧fs.length≤s.length:=by
 rw[j6a s.length s (zl _)]at h
 split at h
 ·obtain⟨h1,h2⟩:=j6h h
  refine⟨h1,?_⟩
  have:=q9u 10 s []
  rw[h2,List.length_dropLast]
  unfold K5
  omega
 ·cases h
theorem j6j{ls:List Load}:∀ {fs:List Rcp} {q:Option Rcp} {i:Nat},(z7p ls q i fs).1=0→∀r∈fs,(Z9 r).1=0
 | [],_,_,_,_,hr=>by cases hr
 | x::t,q,i,h,r,hr=>by
  unfold z7p at h
  by_cases h0:M7 q x ls=0
  ·rw[if_neg (by simp[h0])]at h
   rcases List.mem_cons.1 hr with rfl|hr
   ·refine Decidable.byContradiction fun hne=> ?_
    rw[z7i hne]at h0
    exact hne h0
   ·exact j6j h r hr
  ·rw[if_pos h0]at h
   exact absurd h h0
theorem j6k{fs:List Rcp}{x:Idn}:∀ {l:HldL} {q:Option Hld},oneL fs x q l=0→∀h∈l,h.uses=useS fs x h.id
 | [],_,_,h,hh=>by cases hh
 | y::t,q,he,h,hh=>by
  unfold oneL at he
  split at he
  ·next hne=>exact absurd he hne
  ·split at he
   ·exact absurd he (by decide)
   ·next hu=>
    rcases List.mem_cons.1 hh with rfl|hh
    ·exact Decidable.not_not.1 hu
    ·exact j6k he h hh
theorem j6l{fs:List Rcp}(h:∀r∈fs,r.ids.length≤250)(x y:Idn):useS fs x y≤250*(fs.length:Int):=by
 unfold useS
 induction fs with
 | nil=>simp
 | cons r t ih=>
  have h1:=ih (fun r hr=>h r (List.mem_cons_of_mem _ hr))
  have h2:=h r List.mem_cons_self
  have h3:=List.count_le_length (a:=y) (l:=r.ids)
  rw[List.map_cons,List.sum_cons,List.length_cons]
  split<;>omega
theorem j6m{fs:List Rcp}{b:Load}(h:(G7 fs [b]).1=0):fs.length≤30∧(∀r∈fs,(Z9 r).1=0)∧∀y∈b.l,y.uses=useS fs b.rep y.id:=by
 unfold G7 at h
 split at h
 ·exact absurd h (by decide)
 ·next h30=>
  split at h
  ·next hne=>exact absurd h hne
  ·next hz=>
   refine⟨by omega,j6j (Decidable.not_not.1 hz),?_⟩
   unfold z7q at h
   split at h
   ·next hne=>exact absurd h hne
   ·next hl=>
    have h0:=Decidable.not_not.1 hl
    unfold z7o at h0
    simp only at h0
    rw[if_neg (by decide)]at h0
    unfold oneS at h0
    split at h0
    ·exact absurd h0 (by decide)
    ·exact j6k h0
theorem j6n{L:HldL}{n:Int}(h:(q0f L).1=0)(hn:∀y∈L,y.uses≤n):L.length≤250∧BinOk n L:=by
 unfold q0f at h
 split at h
 ·exact absurd h (by decide)
 ·next hl=>
  refine⟨by omega,?_⟩
  have key:∀(t:HldL) (i:Nat),i+t.length=L.length→t=L.drop i→(B4 L i t).1=0→FillSt L i→FillSt L L.length:=by
   intro t
   induction t with
   | nil=>
    intro i hi _ _ hs;have:i=L.length:=by simpa using hi
    subst this;exact hs
   | cons y t ih=>
    intro i hi ht hf hs
    have hil:i<L.length:=by rw[List.length_cons]at hi;omega
    have he:y=L[i]∧t=L.drop (i+1):=by
     rw[List.drop_eq_getElem_cons hil]at ht
     injection ht with h1 h2
     exact⟨h1,h2⟩
    unfold B4 at hf
    split at hf
    ·next h0=>exact ih (i+1) (by rw[List.length_cons]at hi;omega) he.2 hf (hs.next hil (by rw[←he.1];exact h0))
    ·next h0=>exact absurd hf h0
  have:=(key L 0 (by omega) rfl h (FillSt.start L)).taken (zl _) n hn
  rwa [List.take_length]at this
def j6o(fs:List Rcp)(F:List (Bytes×Rcp)):List (Bytes×Rcp):=fs.foldl (fun F r=>Q9 bytesBefore r.name r F) F
theorem j6p:∀(fs:List Rcp) (F:List (Bytes×Rcp)),K1 bytesBefore F→K1 bytesBefore (j6o fs F)
 | [],_,h=>h
 | r::t,F,h=>j6p t _ (z5j U3 h _ _)
theorem j6q:∀(fs:List Rcp) (F:List (Bytes×Rcp)) (q:Bytes×Rcp),q∈j6o fs F→q∈F∨∃r∈fs,q=(r.name,r)
 | [],_,_,h=> .inl h
 | r::t,F,q,h=>by
  rcases j6q t _ q h with h|⟨x,hx,e⟩
  ·rcases V9 h with e|h
   ·exact .inr ⟨r,List.mem_cons_self,e⟩
   ·exact .inl h
  ·exact .inr ⟨x,List.mem_cons_of_mem _ hx,e⟩
theorem j6r:∀(fs:List Rcp) (F:List (Bytes×Rcp)),(j6o fs F).length≤F.length+fs.length
 | [],_=>zl _
 | r::t,F=>by
  have h1:=j6r t (Q9 bytesBefore r.name r F)
  have h2:=q0g (lt:=bytesBefore) (k:=r.name) (v:=r) (L:=F)
  show(j6o t (Q9 bytesBefore r.name r F)).length≤_
  rw[List.length_cons];omega
theorem j6s{fs:List Rcp}{x:Idn}{L:HldL}{P:PNode}(hP:NodeW P)(hfs:∀r∈fs,RcpK r)(hx:R5 x)(h30:P.files.length+fs.length≤30)(hb:P.bins.length<30)(hL:BinOk 7500 L∧L.length≤250):NodeW (j6b fs x L P):=by
 refine⟨j6p fs _ hP.fsrt,z5j M0 hP.bsrt _ _,?_,?_,fun q hq=> ?_,fun q hq=> ?_⟩
 ·have:=j6r fs P.files
  show(j6o fs P.files).length≤30
  omega
 ·have:=q0g (lt:=Q2) (k:=x) (v:=L) (L:=P.bins)
  show(Q9 Q2 x L P.bins).length≤30
  omega
 ·rcases j6q fs P.files q hq with h|⟨r,hr,rfl⟩
  ·exact hP.fk q h
  ·have h1:=(hfs r hr).name
   exact⟨by show r.name.length≤30;omega,(hfs r hr).ids⟩
 ·rcases V9 hq with rfl|h
  ·exact⟨hx,hL⟩
  ·exact hP.bk q h
structure InOk(fs:List Rcp)(L:HldL)(P:PNode)(r0:Rcp)(t:List Rcp):Prop where
 e:fs=r0::t
 rep:∀r∈t,repR r=repR r0
 chk:(G7 fs [⟨repR r0,L⟩]).1=0
 nob:Q1 P.bins (repR r0)=none
 nof:∀r∈fs,Q1 P.files r.name=none
 len:P.files.length+fs.length≤30
 fill:(q0f L).1=0
 out:inFL fs L P=(j6b fs (repR r0) L P,ofN (j6b fs (repR r0) L P) (repR r0),0)
theorem InOk.w{fs:List Rcp}{L:HldL}{P:PNode}{r0:Rcp}{t:List Rcp}(h:InOk fs L P r0 t)(hP:NodeOk P)(hk:∀r∈fs,RcpK r):NodeW (j6b fs (repR r0) L P):=by
 obtain⟨h1,_,h3⟩:=j6m h.chk
 have hu:∀y∈L,y.uses≤7500:=fun y hy=>by
  have:=h3 y hy
  have h4:=j6l (fun r hr=>(hk r hr).ids) (repR r0) y.id
  simp only at this
  omega
 obtain⟨h5,h6⟩:=j6n h.fill hu
 have hl:=h.len
 have hb:=hP.blen
 have he:0<fs.length:=by rw[h.e];simp
 exact j6s hP.w hk (j6g (hk r0 (by rw[h.e];exact List.mem_cons_self))) hl (by omega) ⟨h6,h5⟩
theorem j6t{s:Bytes}{fs:List Rcp}{L:HldL}(h:R4 s= .ok (fs,L)):(∀r∈fs,RcpK r)∧fs.length≤40000∧∃u,u.length≤40000∧L=(Y5 u).1:=by
 unfold R4 at h
 split at h
 ·cases h
 ·next h4=>
  split at h
  ·cases h
  ·split at h
   ·next hd rest mark hc hm=>
    have hrl:rest.length≤40000:=by
     obtain⟨e,_⟩:=D8 _ _ _ _ hc
     have:=congrArg List.length e
     simp only[List.length_append,List.length_cons,List.length_take]at this
     omega
    split at h
    ·split at h
     ·split at h
      ·split at h
       ·cases h
       ·split at h
        ·cases h
        ·next fs' hf=>
         split at h
         ·split at h
          ·injection h with h
           injection h with e1 e2
           subst e1;subst e2
           obtain⟨h5,h6⟩:=j6i hf
           refine⟨h5,?_,_,?_,rfl⟩
           ·rw[List.length_take]at h6;omega
           ·rw[List.length_drop];omega
          ·cases h
         ·cases h
      ·cases h
     ·cases h
    ·cases h
   ·cases h
def awayK(x:Idn)(P:PNode)(k:Nat):PNode:=((ofN P x).take k).foldl (fun Q nm=>(M1 nm Q).1) P
theorem j6u(x:Idn)(P:PNode)(k:Nat)(hk:k<(ofN P x).length):awayK x P (k+1)=(M1 (ofN P x)[k] (awayK x P k)).1:=by
 unfold awayK
 rw[List.take_succ_eq_append_getElem hk,List.foldl_append];rfl
theorem j6v(x:Idn)(P:PNode):awayK x P (ofN P x).length=(ofN P x).foldl (fun Q nm=>(M1 nm Q).1) P:=by
 unfold awayK
 rw[List.take_length]
theorem NodeOk.awayK{P:PNode}(h:NodeOk P)(x:Idn)(k:Nat):NodeOk (awayK x P k):=by
 induction k with
 | zero=>exact h
 | succ k ih=>
  by_cases hk:k<(ofN P x).length
  ·rw[j6u x P k hk];exact ih.drop _
  ·have:Go.Proofs.YtdmlghfggninbaaGreatDoor.awayK x P (k+1)=Go.Proofs.YtdmlghfggninbaaGreatDoor.awayK x P k:=by
    unfold Go.Proofs.YtdmlghfggninbaaGreatDoor.awayK
    rw[List.take_of_length_le (by omega),List.take_of_length_le (by omega)]
   rw[this];exact ih
theorem NodeOk.away{P:PNode}(h:NodeOk P)(x:Idn):NodeOk (j6c x P).1:=by
 unfold j6c
 split
 ·exact h
 ·have:=h.awayK x (ofN P x).length
  rw[j6v]at this
  exact this
theorem j6w(nm:Bytes)(Q:PNode)(k:Bytes):Q1 (M1 nm Q).1.files k=if k=nm then none else Q1 Q.files k:=by
 unfold M1
 split
 ·next h=>
  by_cases e:k=nm
  ·rw[if_pos e,e];exact h
  ·rw[if_neg e]
 ·exact z5h _ _ _
theorem j6x(x:Idn)(P:PNode)(k:Nat)(hk:k≤(ofN P x).length)(nm:Bytes):Q1 (awayK x P k).files nm=if nm∈(ofN P x).take k then none else Q1 P.files nm:=by
 induction k with
 | zero=>simp[awayK]
 | succ k ih=>
  rw[j6u x P k (by omega),j6w,ih (by omega),List.take_succ_eq_append_getElem (by omega:k<(ofN P x).length)]
  by_cases e:nm=(ofN P x)[k]
  ·rw[if_pos e,if_pos (List.mem_append_right _ (List.mem_singleton.2 e))]
  ·rw[if_neg e]
   by_cases h2:nm∈(ofN P x).take k
   ·rw[if_pos h2,if_pos (List.mem_append_left _ h2)]
   ·rw[if_neg h2,if_neg (fun h=>(List.mem_append.1 h).elim h2 (fun h=>e (List.mem_singleton.1 h)))]
theorem j6y{P:PNode}{x:Idn}{nm:Bytes}(hs:K1 bytesBefore P.files)(h:nm∈ofN P x):∃r,Q1 P.files nm=some r∧repR r=x:=by
 unfold ofN at h
 obtain⟨q,hq,rfl⟩:=List.mem_map.1 h
 obtain⟨h1,h2⟩:=List.mem_filter.1 hq
 exact⟨q.2,Z5 U3 hs h1,by simpa using h2⟩
theorem j6z{P:PNode}(h:NodeOk P)(x:Idn):(ofN P x).Nodup:=(h.of_srt x).imp fun hab=>U3.ne hab
theorem j7a{P:PNode}(h:NodeOk P)(x:Idn)(k:Nat)(hk:k<(ofN P x).length):(M1 (ofN P x)[k] (awayK x P k)).2=0:=by
 have hf:=j6x x P k (by omega) (ofN P x)[k]
 have hn:(ofN P x)[k]∉(ofN P x).take k:=fun hm=>by
  have:=j6z h x
  rw[←List.take_append_drop k (ofN P x),List.drop_eq_getElem_cons hk]at this
  exact(List.nodup_append.1 this).2.2 _ hm _ List.mem_cons_self rfl
 rw[if_neg hn]at hf
 obtain⟨r,hr,_⟩:=j6y h.fsrt (List.getElem_mem hk)
 rw[hr]at hf
 unfold M1
 rw[hf]
theorem j7b{P:PNode}(h:NodeOk P){x:Idn}{nm:Bytes}(hm:nm∈ofN P x):nm.length≤12:=by
 obtain⟨r,hr,_⟩:=j6y h.fsrt hm
 obtain⟨s,h1,_⟩:=h.file nm r hr
 exact z1w h1
end Go.Proofs.YtdmlghfggninbaaGreatDoor
