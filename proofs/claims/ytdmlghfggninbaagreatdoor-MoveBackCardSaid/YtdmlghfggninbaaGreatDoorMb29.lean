/- RnK, RnL, RnM, DoA in one text. Conditions: as each part says. -/
import Derived.Test.YtdmlghfggninbaaGreatDoorMb28
import Derived.Test.YtdmlghfggninbaaGreatDoorMb32
import Derived.Test.YtdmlghfggninbaaGreatDoorMb20
set_option linter.unusedVariables false
set_option linter.unusedSimpArgs false
set_option maxHeartbeats 4000000
set_option maxRecDepth 100000
namespace Go.Proofs.YtdmlghfggninbaaGreatDoor
open Go.RowKit Go.Lib Go.Maps
theorem v2u(n:Nat)(vf vb:Value)(E:REL)(G:List RBE)(hP:NodeOk (J9 E G))(nm:Bytes)(w:World)(h:ORN n vf vb E G w) :
  Calls Tryz.prog 34 #[.pointer (some ⟨n,0,none⟩),VT nm] w (v2t n vf vb nm E G w):=by
 obtain⟨i0,hi,hz0,hz1,hz2⟩:=info_parts k2y
 obtain⟨j0,hj,hy0,hy1,hy2⟩:=info_parts v0i
 have hE30:E.length≤30:=by have:=hP.flen;rw[Y8,List.length_map]at this;exact this
 have hG30:G.length≤30:=by have:=hP.blen;rw[Y8,List.length_map,List.length_map]at this;omega
 have HPK:=zh hP
 have HIDS:Hid (∀q∈E,q.1.ids.length≤1000000):=zh (fun q hq=>by have:=hP.ids (fxE q) (List.mem_map_of_mem (f:=fxE) hq);have h2:(fxE q).2.ids=q.1.ids:=rfl;rw[h2]at this;omega)
 have HN:=zh h
 have hn:=h.nlt
 have HFIND:=zh (j9g n vf vb E G (by omega) nm w h)
 have c0:=h.c0
 obtain⟨A,c,hvf,hcap,hx⟩:=h.vff
 subst hvf
 have HX:=zh hx
 obtain⟨BA,bc,hvb,hbcap,hbx⟩:=h.vbf
 subst hvb
 have HBX:=zh hbx
 clear hx h hP hbx
 go_enter Tryz.func34,Tryz.ntmps34
 go_wp2_with fail
 refine HFIND.out.mono ?_
 rintro e w0 ⟨rfl,rfl⟩
 rcases v0j (fun x:Rcp×Value=>decide (x.1.name=nm)) E with⟨hix,hno⟩|⟨k,hk,hix,hy⟩
 ·rw[hix]
  have HG0:=zh (v0t (E:=E) (nm:=nm) (fun j hj=>of_decide_eq_false (hno j hj)))
  have HQ:Hid (M1 nm (J9 E G)=(J9 E G,5)):=zh (by unfold M1;rw[show Q1 (J9 E G).files nm=none from HG0.out])
  clear hix hno
  go_wp2
  refine bodyPost_ret (v:= .int .i64 5) (by simp[results,Tryz.results34,go_sem]) rfl ?_
  exact⟨by rw[HQ.out],by rw[HQ.out];exact RNTo.stay HN.out (zb _ _)⟩
 ·rw[hix]
  obtain⟨g,o,rfl,hg,hcells⟩:=HX.out (by omega)
  obtain⟨x0,x1,x2,x3⟩:=hcells k hk
  have hge:¬((k:Nat):Int)<0:=by omega
  have b1:(0:Int)≤(k:Int):=by omega
  have b2:(k:Int)<(E.length:Int):=by omega
  obtain⟨i,hi',hxi,hixg,hall,hbok,hblen,hbn,hil⟩:=HPK.out.binAt hk
  have hgf:=v0u HPK.out.fsrt hk (of_decide_eq_true hy)
  have HD0:=zh (HPK.out.drops hgf).1
  rw[show repR E[k].1=Z8 E[k].1.ids from rfl,hbn]at HD0
  have HDEL:Hid ((U2 k E).map fxE=K3 nm (E.map fxE)):=zh (by rw[v2j,v2m U3 (L:=E.map fxE) (k:=nm) HPK.out.fsrt (i:=k) (by rw[List.length_map];exact hk) (by simpa[fxE]using hy)])
  have HQ:Hid (M1 nm (J9 E G)=(⟨(U2 k E).map fxE,z6r ((U2 k E).map fxE) (Z8 E[k].1.ids) (U1 E[k].1.ids G[i].L).1 (G.map prG)⟩,0)):=zh (by
   rw[HDEL.out]
   unfold M1
   rw[show Q1 (J9 E G).files nm=some E[k].1 from hgf]
   simp only
   rw[show repR E[k].1=Z8 E[k].1.ids from rfl,hbn];rfl)
  have hsl:=HN.out.ids E[k] (List.getElem_mem hk)
  have HIL:=zh hil
  have HBOK:=zh hbok
  have HBL:=zh hblen
  have HRB:=zh (HN.out.bin G[i] (List.getElem_mem hi'))
  have HFB:Hid (∀w',Below w.heap.size w w'→Calls Tryz.prog 15 #[.pointer (some ⟨n,0,none⟩),idV (Z8 E[k].1.ids)] w' fun e w''=>e= .returned (.int .i64 (i:Int))∧Below w'.heap.size w' w''):=zh (fun w' hb=>by
   have:=j9h n _ _ E G (by omega) (Z8 E[k].1.ids) w' (HN.out.below hb)
   rwa [hixg]at this)
  obtain⟨bg,hbg,hbgl,hbcells⟩:=HBX.out (by omega)
  subst hbg
  obtain⟨_,_,z2⟩:=hbcells i hi'
  have Z2:=zh z2
  have HXI:=zh hxi
  have bi1:(0:Int)≤(i:Int):=by omega
  have bi2:(i:Int)<(G.length:Int):=by omega
  clear hix hy hcells hixg hall hbok hblen hbn hil hbcells z2 hxi hgf
  obtain⟨r,sl,hrq⟩:∃r sl,E[k]=(r,sl):=⟨_,_,rfl⟩
  rw[hrq]at x0 x1 x2 x3 hsl HIL HFB HQ HD0 HXI
  simp only at x0 x1 x2 x3 hsl HIL HFB HQ HD0 HXI
  obtain⟨SA,sc,hsv,hsc,hscells⟩:=hsl.form
  subst hsv
  have HSL:=zh hsl
  have HSC:=zh hscells
  have HREP:Hid (∀w',Below w.heap.size w w'→Calls Tryz.prog 73 #[.agg #[VT r.name,.int .i64 r.len,.int .u32 (r.print:Int),.slice SA r.ids.length sc]] w' fun e w''=>e= .returned (idV (Z8 r.ids))∧Below w'.heap.size w' w''):=zh (fun w' hb=>j7e _ r (by have:=HIL.out;omega) w' ⟨_,rfl,(HSL.out.keep hb (zl _)).more hb.size⟩)
  obtain⟨rep,hrep⟩:∃rep,rep=Z8 r.ids:=⟨_,rfl⟩
  rw[←hrep]at HREP HFB HQ HXI
  clear hsl hscells hrep
  obtain⟨L,hL⟩:∃L,L=G[i].L:=⟨_,rfl⟩
  obtain⟨rb,hrb⟩:∃rb,rb=G[i].rb:=⟨_,rfl⟩
  rw[←hL]at HBOK HBL HRB HD0 HQ
  rw[←hrb]at Z2 HRB
  have HGR:Hid (G[i].rb=rb):=zh hrb.symm
  clear hrb hL
  have hb1:Below w.heap.size w (w.alloc (.cells #[VT r.name,.int .i64 r.len,.int .u32 (r.print:Int),.slice SA r.ids.length sc] 40)):=(zb _ _).alloc (zl _) _
  have HB1:=zh hb1
  have BX1:=zh (Box4.mk' w (VT r.name) (.int .i64 r.len) (.int .u32 (r.print:Int)) (.slice SA r.ids.length sc) 40)
  obtain⟨a0,a1,a2,a3,_⟩:=BX1.out
  clear hb1
  go_wp2_with fail
  refine(HREP.out _ HB1.out).mono ?_
  rintro e w2 ⟨rfl,hb2⟩
  have HB2:=zh (HB1.out.trans (hb2.mono HB1.out.size))
  have BX12:=zh (BX1.out.below hb2 BX1.out.lt)
  have hb3:Below w2.heap.size w2 (w2.alloc (.cells #[.int .u32 (rep.1:Int),.int .i64 rep.2] 25)):=(zb _ _).alloc (zl _) _
  have HB3:=zh (HB2.out.trans (hb3.mono HB2.out.size))
  have BX13:=zh (BX12.out.below hb3 BX12.out.lt)
  have BX23:=zh (Box2.mk' w2 (.int .u32 (rep.1:Int)) (.int .i64 rep.2) 25)
  obtain⟨z0,z1,_,_⟩:=BX23.out
  have HM:Hid (w.heap.size<w2.heap.size):=zh (BX12.out.lt)
  clear hb2 hb3 a0 a1 a2 a3 c0 x0 x1 x2 x3
  go_wp2_with fail
  refine(HFB.out _ HB3.out).mono ?_
  rintro e w4 ⟨rfl,hb4⟩
  have HB4:=zh (HB3.out.trans (hb4.mono HB3.out.size))
  have BX14:=zh (BX13.out.below hb4 BX13.out.lt)
  have BX24:=zh (BX23.out.below hb4 BX23.out.lt)
  have hsz4:=BX24.out.lt
  have c1:=(HB4.out.cell (p:=⟨n,1,none⟩) hn).trans HN.out.c1
  have z2:=(HB4.out.cell (p:=⟨bg,i*3+2,none⟩) hbgl).trans Z2.out
  have HCP:=zh (v0h rb 0 _ L (by have:=HBL.out;omega) w4 (HRB.out.below HB4.out))
  clear hb4 z0 z1
  go_wp2_with fail
  refine HCP.out.mono ?_
  rintro e w7 ⟨b,v0,rfl,hR7,hbb7,hb7⟩
  have HR7:=zh hR7.low
  have HB7:=zh (HB4.out.trans (hb7.mono HB4.out.size))
  have BX17:=zh (BX14.out.below hb7 BX14.out.lt)
  have BX27:=zh (BX24.out.below hb7 BX24.out.lt)
  have HBB:Hid (w2.heap.size<b∧b<w7.heap.size):=zh ⟨by omega,hR7.lt⟩
  have HBV:Hid (∀j,v0.ownBlock=some j→w2.heap.size<j∧j<w7.heap.size):=zh (fun j e=>⟨by have:=Y7 hR7.own e;omega,C8 hR7.own e⟩)
  clear hR7 hbb7 hb7 z2 HCP c1 hsz4
  go_wp2
  go_loopg [10] r.ids.length (fun gh v10 wr=>∃(k:Nat) (L':HldL),v10= .int .i64 k∧k≤r.ids.length∧gh=r.ids.length-k∧Hid (U1 r.ids L=U1 (r.ids.drop k) L')∧Hid (RBin b 0 v0 L' wr)∧Hid (BFrame b v0 w7 wr)∧Hid (BinOk 7500 L'∧L'.length≤250))
  case atStart=>exact⟨0,L,rfl,Nat.zero_le _,rfl,zh (by rw[List.drop_zero]),HR7,zh ⟨rfl,rfl,rfl,zl _,fun _ _ _ _=>rfl⟩,zh ⟨HBOK.out,HBL.out⟩⟩
  case round=>
   obtain⟨d,L',rfl,hd,hgm,HDA,HBIN,HFR,HOK⟩:=hrel
   have HBr:Hid (Below w.heap.size w wr):=zh (HFR.out.below' HB7.out HB7.out.size (by have:=HBB.out;have:=HM.out;omega) (fun j e=>by have:=HBV.out j e;have:=HM.out;omega))
   have BX1r:=zh (v1j BX17.out (HFR.out.block _ BX17.out.lt (by have:=HBB.out;have:=HM.out;omega) (fun e=>by have:=HBV.out _ e;have:=HM.out;omega)))
   have BX2r:=zh (v1k BX27.out (HFR.out.block _ BX27.out.lt (by have:=HBB.out;omega) (fun e=>by have:=HBV.out _ e;omega)))
   have d3:=BX1r.out.c3
   have hil:=HIL.out
   by_cases hdl:d<r.ids.length
   ·obtain⟨sg,so,rfl,hsg,hscc⟩:=HSC.out (by omega)
    obtain⟨y0,y1⟩:=hscc d hdl
    have u0:=(HBr.out.cell (p:=⟨sg,so+d*2,none⟩) hsg).trans y0
    have u1:=(HBr.out.cell (p:=⟨sg,so+d*2+1,none⟩) hsg).trans y1
    have bd1:(0:Int)≤(d:Int):=by omega
    have bd2:(d:Int)<(r.ids.length:Int):=by omega
    have HBD:=zh (k5d b 0 v0 L' 7500 (by omega) HOK.out.1 (by have:=HOK.out.2;omega) r.ids[d] wr HBIN.out)
    have HD1:Hid ((G0 r.ids[d] L').2=0∧U1 r.ids L=U1 (r.ids.drop (d+1)) (G0 r.ids[d] L').1):=zh (by
     have e:=HDA.out.trans (v2o hdl L')
     by_cases h0:(G0 r.ids[d] L').2=0
     ·rw[if_pos h0]at e;exact⟨h0,e⟩
     ·rw[if_neg h0]at e
      have:=HD0.out
      rw[e]at this;exact absurd this h0)
    have HOK1:Hid (BinOk 7500 (G0 r.ids[d] L').1∧(G0 r.ids[d] L').1.length≤250):=zh ⟨z3n HOK.out.1 _,by rw[length_drop HOK.out.1.srt];exact HOK.out.2⟩
    generalize r.ids[d]=x at *
    clear y0 y1 hscc
    go_wp2_with fail
    refine HBD.out.mono ?_
    rintro e w9 ⟨rfl,hR9,hf9⟩
    have HR9:=zh hR9
    have HF9:=zh (BFrame.trans' HFR.out hf9 (.inl rfl))
    clear hR9 hf9 HBD u0 u1
    go_wp2
    go_roundg (r.ids.length-(d+1))
    case measure=>omega
    case rel=>exact⟨d+1,(G0 x L').1,by go_num,hdl,rfl,zh HD1.out.2,HR9,HF9,HOK1⟩
   ·obtain rfl:d=r.ids.length:=by omega
    have HDF:Hid (U1 r.ids L=(L',0)):=zh (by rw[HDA.out,List.drop_of_length_le (zl _),U1])
    have HNr:=zh (HN.out.below HBr.out)
    have HRC:Hid (RdC wr wr.heap.size 4 (.slice (some ⟨g,o,none⟩) E.length c) E.length (rcK.row E)):=zh HNr.out.files
    have HT1:Hid (RdC wr wr.heap.size 4 (.slice (some ⟨g,o,none⟩) k c) k ((rcK.row E).take (k*4))):=zh (HRC.out.takeM k (by omega))
    have HO1:Hid (∀u∈(rcK.row E).take (k*4),u.oneCell'=true):=zh (fun u hu=>k9t HNr.out.ids u (List.mem_of_mem_take hu))
    have HO3:Hid (∀u∈(rcK.row E).drop ((k+1)*4),u.oneCell'=true):=zh (fun u hu=>k9t HNr.out.ids u (List.mem_of_mem_drop hu))
    have q2:(k:Int)≤(E.length:Int):=by omega
    have q3:(k:Int)≤(c:Int):=by omega
    have q4:(0:Int)≤(k:Int)+1:=by omega
    have q5:(k:Int)+1≤(E.length:Int):=by omega
    have q6:(k:Int)+1≤(c:Int):=by omega
    have q7:IntKind.i64.wrap ((k:Int)+1)=(k:Int)+1:=IntWalk.i64_in _ (by omega)
    have hnl:n<wr.heap.size:=HNr.out.nlt
    have nc0:=HNr.out.c0
    clear HDA
    have HZ8:Hid (∀(w8:World) (v7:Value),ORN n v7 (.slice (some ⟨bg,0,none⟩) G.length bc) (U2 k E) G w8→w8.cell? ⟨bg,i*3+2,none⟩=some (.pointer (some ⟨rb,0,none⟩))∧w8.frozen? ⟨bg,i*3+2,none⟩=false):=zh (fun w8 v7 h8=>by
     obtain⟨_,_,hv,_,hx⟩:=h8.vbf
     injection hv with hA _ _
     obtain⟨g2,hA2,_,hcc⟩:=hx (by omega)
     rw[←hA]at hA2
     injection hA2 with hA2
     injection hA2 with hA2
     subst hA2
     exact⟨by rw[(hcc i hi').2.2,HGR.out],h8.bins.frozenAt (i*3+2)⟩)
    have HY9:Hid (∀(w7:World) (v7:Value),Below wr.heap.size wr w7→(w7.setCell ⟨n,0,none⟩ v7).cell? ⟨w2.heap.size,0,none⟩=some (.int .u32 (rep.1:Int))∧(w7.setCell ⟨n,0,none⟩ v7).cell? ⟨w2.heap.size,1,none⟩=some (.int .i64 rep.2)):=zh (fun w7 v7 hb=>by
     have hB:=v1k (w':=w7.setCell ⟨n,0,none⟩ v7) BX2r.out ((G6 (by have:=HM.out;omega)).trans (hb.block _ BX2r.out.lt))
     exact⟨hB.c0,hB.c1⟩)
    by_cases hc1:c=k+1
    ·subst hc1
     have hEl:E.length-(k+1)=0:=by omega
     have HO4:Hid (∀u∈([]:List Value),u.oneCell'=true):=zh (fun u hu=>absurd hu List.not_mem_nil)
     have HD8:Hid (∀(w7:World) (v7:Value),w7.ownsRow wr.heap.size 40 4 v7 k (([]++(rcK.row E).take (k*4))++ [])→Below wr.heap.size wr w7→_):=zh (fun w7 v7 ho hb=>HNr.out.delF (v7:=v7) hb hk (by rw[List.drop_of_length_le (show(rcK.row E).length≤(k+1)*4 by rw[rcK.row_length,show rcK.n=4 from rfl];omega),hEl,Nat.zero_add,Nat.add_zero];exact ho) (zl _))
     go_wp2_with(first|(at_builtin;refine Q5 rfl (.tmp 53) (.tmp 59) 31 rfl wr.heap.size 40 i0 (.agg #[.string ByteArray.empty,.int .i64 0,.int .u32 0,.slice none 0 0]) 4 56 Tryz.underlying31 hi hz0 hz1 hz2 rfl (by decide) _ 0 [] rfl (World.ownsRow_nil _ _ _ _) wr.heap.size _ k ((rcK.row E).take (k*4)) rfl HT1.out HO1.out (by unfold maxLen;omega) (by omega) (zl _) ?_;intro v5 w5 ho5 hg5;have hS5:Below wr.heap.size wr w5:=Z3 (zb _ _) (zl _) (World.ownsRow_nil wr wr.heap.size 40 4) hg5;have nc5:=(hS5.cell (p:=⟨n,0,none⟩) hnl).trans nc0)|(at_builtin;refine Q5 rfl (.tmp 62) (.tmp 69) 31 rfl wr.heap.size 40 i0 (.agg #[.string ByteArray.empty,.int .i64 0,.int .u32 0,.slice none 0 0]) 4 56 Tryz.underlying31 hi hz0 hz1 hz2 rfl (by decide) _ _ _ rfl ho5 wr.heap.size _ 0 [] rfl (RdC.nilP _ _ _ _ _) HO4.out (by unfold maxLen;omega) (by omega) hS5.size ?_;intro v7 w7 ho7 hg7;have hS7:Below wr.heap.size wr w7:=Z3 hS5 hS5.size ho5 hg7;have ho8:w7.ownsRow wr.heap.size 40 4 v7 k (([]++(rcK.row E).take (k*4))++ []):=(by simpa only[Nat.zero_add,Nat.add_zero]using ho7);obtain⟨A7,c7,hv7⟩:=J0 ho8;subst hv7;have hrow7:=(hS7.block n hnl).trans HNr.out.row;have d0:=cell_of_row w7 n 0 _ _ _ hrow7;have e0:=frozen_of_row w7 n 0 _ _ hrow7;have HX8:=HD8.out _ _ ho8 hS7;have n1:=HX8.1.c1;obtain⟨zc,zf⟩:=HZ8.out _ _ HX8.1;obtain⟨z0,z1⟩:=HY9.out w7 (.slice A7 k c7) hS7)|fail)
     have hMID:=v2q (x:=rep) (k:=k) HN.out HBr.out (Nat.le_of_lt HM.out) (Nat.le_of_lt HBB.out.1) HBIN.out (fun j e=>Nat.le_of_lt (HBV.out j e).1) HX8.2.1 HX8.2.2
     obtain⟨G',hDR,hGl⟩:=v2s (i:=i) HN.out HPK.out.bsrt HBr.out (by have:=HBB.out;have:=HM.out;omega) (fun j e=>by have:=HBV.out j e;have:=HM.out;omega) HX8.1 HX8.2.1 HX8.2.2 hi' HXI.out hMID.1 hMID.2
     have HDR:=zh hDR
     have HGL:=zh hGl
     have HOF:=zh (j9p n _ _ (U2 k E) G' (by have:=(v2l k E).length_le;omega) (fun q hq=>HIDS.out q ((v2l k E).mem hq)) rep _ hDR.node)
     clear hMID hDR hGl HX8 z0 z1 zc zf n1 d0 e0 hrow7 ho8
     generalize(w7.setCell ⟨n,0,none⟩ (.slice A7 k c7)).setCell ⟨bg,i*3+2,none⟩ (.pointer (some ⟨b,0,none⟩))=w9 at *
     refine HOF.out.mono ?_
     rintro e w10 ⟨vl,rfl,hol,hb10⟩
     obtain⟨lA,lc,hlf⟩:=J0 hol
     subst hlf
     have HB10:=zh hb10
     have HAN0:=zh (v2p (x:=rep) (E:=U2 k E))
     clear hol hb10 HOF
     generalize(ofE rep (U2 k E)).length=m at *
     by_cases hz:m=0
     ·subst hz
      have HAN:Hid (((U2 k E).map fxE).any (fun q=>decide (repR q.2=rep))=false):=zh (HAN0.out.1 rfl)
      have HN10:=zh (HDR.out.node.below HB10.out)
      have nc10:=HN10.out.c1
      have hnl10:=HN10.out.nlt
      have HRG:Hid (RdC w10 w10.heap.size 3 (.slice (some ⟨bg,0,none⟩) G.length bc) G.length (J2 G')):=zh (by have:=RdC.ownP HN10.out.bins;rwa [HGL.out]at this)
      have HT5:Hid (RdC w10 w10.heap.size 3 (.slice (some ⟨bg,0,none⟩) i bc) i ((J2 G').take (i*3))):=zh (HRG.out.takeM i (by omega))
      have HO5:Hid (∀u∈(J2 G').take (i*3),u.oneCell'=true):=zh (fun u hu=>j8z G' u (List.mem_of_mem_take hu))
      have g2:(i:Int)≤(G.length:Int):=by omega
      have g3:(i:Int)≤(bc:Int):=by omega
      have g4:(0:Int)≤(i:Int)+1:=by omega
      have g5:(i:Int)+1≤(G.length:Int):=by omega
      have g6:(i:Int)+1≤(bc:Int):=by omega
      have g7:IntKind.i64.wrap ((i:Int)+1)=(i:Int)+1:=IntWalk.i64_in _ (by omega)
      by_cases hd1:bc=i+1
      ·subst hd1
       have hGz:G.length-(i+1)=0:=by omega
       have HO6:Hid (∀u∈([]:List Value),u.oneCell'=true):=zh (fun u hu=>absurd hu List.not_mem_nil)
       have HP:Hid (∀(w7:World) (v8:Value),w7.ownsRow w10.heap.size 54 3 v8 (i) (([]++(J2 G').take (i*3))++ [])→Below w10.heap.size w10 w7→v2t n (.slice (some ⟨g,o,none⟩) E.length (k+1)) (.slice (some ⟨bg,0,none⟩) G.length (i+1)) nm E G w (.returned (.int .i64 0)) (w7.setCell ⟨n,1,none⟩ v8)):=zh (fun w7 v8 ho hb=>⟨by rw[HQ.out],by rw[HQ.out,HDF.out];exact HDR.out.delTo HPK.out.bsrt HGL.out hi' HXI.out HB10.out hb (by rw[List.drop_of_length_le (show(J2 G').length≤(i+1)*3 by rw[W6,HGL.out];omega),hGz,Nat.zero_add,Nat.add_zero];exact ho) (zl _) HAN.out⟩)
       go_wp2_with(first|(at_builtin;refine Q5 rfl (.tmp 86) (.tmp 92) 32 rfl w10.heap.size 54 j0 (.agg #[.int .u32 0,.int .i64 0,.pointer none]) 3 24 Tryz.underlying32 hj hy0 hy1 hy2 rfl (by decide) _ 0 [] rfl (World.ownsRow_nil _ _ _ _) w10.heap.size _ i ((J2 G').take (i*3)) rfl HT5.out HO5.out (by unfold maxLen;omega) (by omega) (zl _) ?_;intro v5 w5 ho5 hg5;have hS5:Below w10.heap.size w10 w5:=Z3 (zb _ _) (zl _) (World.ownsRow_nil w10 w10.heap.size 54 3) hg5;have nc6:=(hS5.cell (p:=⟨n,1,none⟩) hnl10).trans nc10)|(at_builtin;refine Q5 rfl (.tmp 95) (.tmp 102) 32 rfl w10.heap.size 54 j0 (.agg #[.int .u32 0,.int .i64 0,.pointer none]) 3 24 Tryz.underlying32 hj hy0 hy1 hy2 rfl (by decide) _ _ _ rfl ho5 w10.heap.size _ 0 [] rfl (RdC.nilP _ _ _ _ _) HO6.out (by unfold maxLen;omega) (by omega) hS5.size ?_;intro v7 w7 ho7 hg7;have hS7:Below w10.heap.size w10 w7:=Z3 hS5 hS5.size ho5 hg7;have ho8:w7.ownsRow w10.heap.size 54 3 v7 (i) (([]++(J2 G').take (i*3))++ []):=(by simpa only[Nat.zero_add,Nat.add_zero]using ho7);obtain⟨A8,c8,hv8⟩:=J0 ho8;subst hv8;have hrow7:=(hS7.block n hnl10).trans HN10.out.row;have d1:=cell_of_row w7 n 1 _ _ _ hrow7;have e1:=frozen_of_row w7 n 1 _ _ hrow7)|fail)
       refine bodyPost_ret (v:= .int .i64 0) (by simp[results,Tryz.results34,go_sem]) rfl ?_
       exact HP.out _ _ ho8 hS7
      ·have hd2:¬i+1=bc:=fun e=>hd1 e.symm
       have HT7:Hid (RdC w10 w10.heap.size 3 (.slice (some ⟨bg,(i+1)*3,none⟩) (G.length-(i+1)) (bc-(i+1))) (G.length-(i+1)) ((J2 G').drop ((i+1)*3))):=zh (by have h:=HRG.out.cutM (i+1) (by omega);rw[if_neg hd1,Option.map_some,q0n,Nat.zero_add]at h;exact h)
       have HO6:Hid (∀u∈(((J2 G').drop ((i+1)*3)):List Value),u.oneCell'=true):=zh (fun u hu=>j8z G' u (List.mem_of_mem_drop hu))
       have HP:Hid (∀(w7:World) (v8:Value),w7.ownsRow w10.heap.size 54 3 v8 (i+(G.length-(i+1))) (([]++(J2 G').take (i*3))++((J2 G').drop ((i+1)*3)))→Below w10.heap.size w10 w7→v2t n (.slice (some ⟨g,o,none⟩) E.length (k+1)) (.slice (some ⟨bg,0,none⟩) G.length bc) nm E G w (.returned (.int .i64 0)) (w7.setCell ⟨n,1,none⟩ v8)):=zh (fun w7 v8 ho hb=>⟨by rw[HQ.out],by rw[HQ.out,HDF.out];exact HDR.out.delTo HPK.out.bsrt HGL.out hi' HXI.out HB10.out hb (by rw[Nat.zero_add];exact ho) (zl _) HAN.out⟩)
       go_wp2_with(first|(at_builtin;refine Q5 rfl (.tmp 86) (.tmp 92) 32 rfl w10.heap.size 54 j0 (.agg #[.int .u32 0,.int .i64 0,.pointer none]) 3 24 Tryz.underlying32 hj hy0 hy1 hy2 rfl (by decide) _ 0 [] rfl (World.ownsRow_nil _ _ _ _) w10.heap.size _ i ((J2 G').take (i*3)) rfl HT5.out HO5.out (by unfold maxLen;omega) (by omega) (zl _) ?_;intro v5 w5 ho5 hg5;have hS5:Below w10.heap.size w10 w5:=Z3 (zb _ _) (zl _) (World.ownsRow_nil w10 w10.heap.size 54 3) hg5;have nc6:=(hS5.cell (p:=⟨n,1,none⟩) hnl10).trans nc10)|(at_builtin;refine Q5 rfl (.tmp 95) (.tmp 102) 32 rfl w10.heap.size 54 j0 (.agg #[.int .u32 0,.int .i64 0,.pointer none]) 3 24 Tryz.underlying32 hj hy0 hy1 hy2 rfl (by decide) _ _ _ rfl ho5 w10.heap.size _ (G.length-(i+1)) ((J2 G').drop ((i+1)*3)) rfl (HT7.out.below hS5) HO6.out (by unfold maxLen;omega) (by omega) hS5.size ?_;intro v7 w7 ho7 hg7;have hS7:Below w10.heap.size w10 w7:=Z3 hS5 hS5.size ho5 hg7;have ho8:w7.ownsRow w10.heap.size 54 3 v7 (i+(G.length-(i+1))) (([]++(J2 G').take (i*3))++((J2 G').drop ((i+1)*3))):=(by simpa only[Nat.zero_add,Nat.add_zero]using ho7);obtain⟨A8,c8,hv8⟩:=J0 ho8;subst hv8;have hrow7:=(hS7.block n hnl10).trans HN10.out.row;have d1:=cell_of_row w7 n 1 _ _ _ hrow7;have e1:=frozen_of_row w7 n 1 _ _ hrow7)|fail)
       refine bodyPost_ret (v:= .int .i64 0) (by simp[results,Tryz.results34,go_sem]) rfl ?_
       exact HP.out _ _ ho8 hS7
     ·have hmi:¬((m:Nat):Int)=0:=by omega
      have HAN:Hid (((U2 k E).map fxE).any (fun q=>decide (repR q.2=rep))=true):=zh (by
       cases h:((U2 k E).map fxE).any (fun q=>decide (repR q.2=rep))with
       | true=>rfl
       | false=>exact absurd (HAN0.out.2 h) hz)
      go_wp2
      refine bodyPost_ret (v:= .int .i64 0) (by simp[results,Tryz.results34,go_sem]) rfl ?_
      exact⟨by rw[HQ.out],by rw[HQ.out,HDF.out];exact HDR.out.keepTo HB10.out HAN.out⟩
    ·have hc2:¬k+1=c:=fun e=>hc1 e.symm
     have HT3:Hid (RdC wr wr.heap.size 4 (.slice (some ⟨g,o+(k+1)*4,none⟩) (E.length-(k+1)) (c-(k+1))) (E.length-(k+1)) ((rcK.row E).drop ((k+1)*4))):=zh (by have h:=HRC.out.cutM (k+1) (by omega);rw[if_neg hc1,Option.map_some,q0n]at h;exact h)
     have HO4:Hid (∀u∈(((rcK.row E).drop ((k+1)*4)):List Value),u.oneCell'=true):=HO3
     have HD8:Hid (∀(w7:World) (v7:Value),w7.ownsRow wr.heap.size 40 4 v7 (k+(E.length-(k+1))) (([]++(rcK.row E).take (k*4))++((rcK.row E).drop ((k+1)*4)))→Below wr.heap.size wr w7→_):=zh (fun w7 v7 ho hb=>HNr.out.delF (v7:=v7) hb hk (by rw[Nat.zero_add];exact ho) (zl _))
     go_wp2_with(first|(at_builtin;refine Q5 rfl (.tmp 53) (.tmp 59) 31 rfl wr.heap.size 40 i0 (.agg #[.string ByteArray.empty,.int .i64 0,.int .u32 0,.slice none 0 0]) 4 56 Tryz.underlying31 hi hz0 hz1 hz2 rfl (by decide) _ 0 [] rfl (World.ownsRow_nil _ _ _ _) wr.heap.size _ k ((rcK.row E).take (k*4)) rfl HT1.out HO1.out (by unfold maxLen;omega) (by omega) (zl _) ?_;intro v5 w5 ho5 hg5;have hS5:Below wr.heap.size wr w5:=Z3 (zb _ _) (zl _) (World.ownsRow_nil wr wr.heap.size 40 4) hg5;have nc5:=(hS5.cell (p:=⟨n,0,none⟩) hnl).trans nc0)|(at_builtin;refine Q5 rfl (.tmp 62) (.tmp 69) 31 rfl wr.heap.size 40 i0 (.agg #[.string ByteArray.empty,.int .i64 0,.int .u32 0,.slice none 0 0]) 4 56 Tryz.underlying31 hi hz0 hz1 hz2 rfl (by decide) _ _ _ rfl ho5 wr.heap.size _ (E.length-(k+1)) ((rcK.row E).drop ((k+1)*4)) rfl (HT3.out.below hS5) HO4.out (by unfold maxLen;omega) (by omega) hS5.size ?_;intro v7 w7 ho7 hg7;have hS7:Below wr.heap.size wr w7:=Z3 hS5 hS5.size ho5 hg7;have ho8:w7.ownsRow wr.heap.size 40 4 v7 (k+(E.length-(k+1))) (([]++(rcK.row E).take (k*4))++((rcK.row E).drop ((k+1)*4))):=(by simpa only[Nat.zero_add,Nat.add_zero]using ho7);obtain⟨A7,c7,hv7⟩:=J0 ho8;subst hv7;have hrow7:=(hS7.block n hnl).trans HNr.out.row;have d0:=cell_of_row w7 n 0 _ _ _ hrow7;have e0:=frozen_of_row w7 n 0 _ _ hrow7;have HX8:=HD8.out _ _ ho8 hS7;have n1:=HX8.1.c1;obtain⟨zc,zf⟩:=HZ8.out _ _ HX8.1;obtain⟨z0,z1⟩:=HY9.out w7 (.slice A7 (k+(E.length-(k+1))) c7) hS7)|fail)
     have hMID:=v2q (x:=rep) (k:=k) HN.out HBr.out (Nat.le_of_lt HM.out) (Nat.le_of_lt HBB.out.1) HBIN.out (fun j e=>Nat.le_of_lt (HBV.out j e).1) HX8.2.1 HX8.2.2
     obtain⟨G',hDR,hGl⟩:=v2s (i:=i) HN.out HPK.out.bsrt HBr.out (by have:=HBB.out;have:=HM.out;omega) (fun j e=>by have:=HBV.out j e;have:=HM.out;omega) HX8.1 HX8.2.1 HX8.2.2 hi' HXI.out hMID.1 hMID.2
     have HDR:=zh hDR
     have HGL:=zh hGl
     have HOF:=zh (j9p n _ _ (U2 k E) G' (by have:=(v2l k E).length_le;omega) (fun q hq=>HIDS.out q ((v2l k E).mem hq)) rep _ hDR.node)
     clear hMID hDR hGl HX8 z0 z1 zc zf n1 d0 e0 hrow7 ho8
     generalize(w7.setCell ⟨n,0,none⟩ (.slice A7 (k+(E.length-(k+1))) c7)).setCell ⟨bg,i*3+2,none⟩ (.pointer (some ⟨b,0,none⟩))=w9 at *
     refine HOF.out.mono ?_
     rintro e w10 ⟨vl,rfl,hol,hb10⟩
     obtain⟨lA,lc,hlf⟩:=J0 hol
     subst hlf
     have HB10:=zh hb10
     have HAN0:=zh (v2p (x:=rep) (E:=U2 k E))
     clear hol hb10 HOF
     generalize(ofE rep (U2 k E)).length=m at *
     by_cases hz:m=0
     ·subst hz
      have HAN:Hid (((U2 k E).map fxE).any (fun q=>decide (repR q.2=rep))=false):=zh (HAN0.out.1 rfl)
      have HN10:=zh (HDR.out.node.below HB10.out)
      have nc10:=HN10.out.c1
      have hnl10:=HN10.out.nlt
      have HRG:Hid (RdC w10 w10.heap.size 3 (.slice (some ⟨bg,0,none⟩) G.length bc) G.length (J2 G')):=zh (by have:=RdC.ownP HN10.out.bins;rwa [HGL.out]at this)
      have HT5:Hid (RdC w10 w10.heap.size 3 (.slice (some ⟨bg,0,none⟩) i bc) i ((J2 G').take (i*3))):=zh (HRG.out.takeM i (by omega))
      have HO5:Hid (∀u∈(J2 G').take (i*3),u.oneCell'=true):=zh (fun u hu=>j8z G' u (List.mem_of_mem_take hu))
      have g2:(i:Int)≤(G.length:Int):=by omega
      have g3:(i:Int)≤(bc:Int):=by omega
      have g4:(0:Int)≤(i:Int)+1:=by omega
      have g5:(i:Int)+1≤(G.length:Int):=by omega
      have g6:(i:Int)+1≤(bc:Int):=by omega
      have g7:IntKind.i64.wrap ((i:Int)+1)=(i:Int)+1:=IntWalk.i64_in _ (by omega)
      by_cases hd1:bc=i+1
      ·subst hd1
       have hGz:G.length-(i+1)=0:=by omega
       have HO6:Hid (∀u∈([]:List Value),u.oneCell'=true):=zh (fun u hu=>absurd hu List.not_mem_nil)
       have HP:Hid (∀(w7:World) (v8:Value),w7.ownsRow w10.heap.size 54 3 v8 (i) (([]++(J2 G').take (i*3))++ [])→Below w10.heap.size w10 w7→v2t n (.slice (some ⟨g,o,none⟩) E.length c) (.slice (some ⟨bg,0,none⟩) G.length (i+1)) nm E G w (.returned (.int .i64 0)) (w7.setCell ⟨n,1,none⟩ v8)):=zh (fun w7 v8 ho hb=>⟨by rw[HQ.out],by rw[HQ.out,HDF.out];exact HDR.out.delTo HPK.out.bsrt HGL.out hi' HXI.out HB10.out hb (by rw[List.drop_of_length_le (show(J2 G').length≤(i+1)*3 by rw[W6,HGL.out];omega),hGz,Nat.zero_add,Nat.add_zero];exact ho) (zl _) HAN.out⟩)
       go_wp2_with(first|(at_builtin;refine Q5 rfl (.tmp 86) (.tmp 92) 32 rfl w10.heap.size 54 j0 (.agg #[.int .u32 0,.int .i64 0,.pointer none]) 3 24 Tryz.underlying32 hj hy0 hy1 hy2 rfl (by decide) _ 0 [] rfl (World.ownsRow_nil _ _ _ _) w10.heap.size _ i ((J2 G').take (i*3)) rfl HT5.out HO5.out (by unfold maxLen;omega) (by omega) (zl _) ?_;intro v5 w5 ho5 hg5;have hS5:Below w10.heap.size w10 w5:=Z3 (zb _ _) (zl _) (World.ownsRow_nil w10 w10.heap.size 54 3) hg5;have nc6:=(hS5.cell (p:=⟨n,1,none⟩) hnl10).trans nc10)|(at_builtin;refine Q5 rfl (.tmp 95) (.tmp 102) 32 rfl w10.heap.size 54 j0 (.agg #[.int .u32 0,.int .i64 0,.pointer none]) 3 24 Tryz.underlying32 hj hy0 hy1 hy2 rfl (by decide) _ _ _ rfl ho5 w10.heap.size _ 0 [] rfl (RdC.nilP _ _ _ _ _) HO6.out (by unfold maxLen;omega) (by omega) hS5.size ?_;intro v7 w7 ho7 hg7;have hS7:Below w10.heap.size w10 w7:=Z3 hS5 hS5.size ho5 hg7;have ho8:w7.ownsRow w10.heap.size 54 3 v7 (i) (([]++(J2 G').take (i*3))++ []):=(by simpa only[Nat.zero_add,Nat.add_zero]using ho7);obtain⟨A8,c8,hv8⟩:=J0 ho8;subst hv8;have hrow7:=(hS7.block n hnl10).trans HN10.out.row;have d1:=cell_of_row w7 n 1 _ _ _ hrow7;have e1:=frozen_of_row w7 n 1 _ _ hrow7)|fail)
       refine bodyPost_ret (v:= .int .i64 0) (by simp[results,Tryz.results34,go_sem]) rfl ?_
       exact HP.out _ _ ho8 hS7
      ·have hd2:¬i+1=bc:=fun e=>hd1 e.symm
       have HT7:Hid (RdC w10 w10.heap.size 3 (.slice (some ⟨bg,(i+1)*3,none⟩) (G.length-(i+1)) (bc-(i+1))) (G.length-(i+1)) ((J2 G').drop ((i+1)*3))):=zh (by have h:=HRG.out.cutM (i+1) (by omega);rw[if_neg hd1,Option.map_some,q0n,Nat.zero_add]at h;exact h)
       have HO6:Hid (∀u∈(((J2 G').drop ((i+1)*3)):List Value),u.oneCell'=true):=zh (fun u hu=>j8z G' u (List.mem_of_mem_drop hu))
       have HP:Hid (∀(w7:World) (v8:Value),w7.ownsRow w10.heap.size 54 3 v8 (i+(G.length-(i+1))) (([]++(J2 G').take (i*3))++((J2 G').drop ((i+1)*3)))→Below w10.heap.size w10 w7→v2t n (.slice (some ⟨g,o,none⟩) E.length c) (.slice (some ⟨bg,0,none⟩) G.length bc) nm E G w (.returned (.int .i64 0)) (w7.setCell ⟨n,1,none⟩ v8)):=zh (fun w7 v8 ho hb=>⟨by rw[HQ.out],by rw[HQ.out,HDF.out];exact HDR.out.delTo HPK.out.bsrt HGL.out hi' HXI.out HB10.out hb (by rw[Nat.zero_add];exact ho) (zl _) HAN.out⟩)
       go_wp2_with(first|(at_builtin;refine Q5 rfl (.tmp 86) (.tmp 92) 32 rfl w10.heap.size 54 j0 (.agg #[.int .u32 0,.int .i64 0,.pointer none]) 3 24 Tryz.underlying32 hj hy0 hy1 hy2 rfl (by decide) _ 0 [] rfl (World.ownsRow_nil _ _ _ _) w10.heap.size _ i ((J2 G').take (i*3)) rfl HT5.out HO5.out (by unfold maxLen;omega) (by omega) (zl _) ?_;intro v5 w5 ho5 hg5;have hS5:Below w10.heap.size w10 w5:=Z3 (zb _ _) (zl _) (World.ownsRow_nil w10 w10.heap.size 54 3) hg5;have nc6:=(hS5.cell (p:=⟨n,1,none⟩) hnl10).trans nc10)|(at_builtin;refine Q5 rfl (.tmp 95) (.tmp 102) 32 rfl w10.heap.size 54 j0 (.agg #[.int .u32 0,.int .i64 0,.pointer none]) 3 24 Tryz.underlying32 hj hy0 hy1 hy2 rfl (by decide) _ _ _ rfl ho5 w10.heap.size _ (G.length-(i+1)) ((J2 G').drop ((i+1)*3)) rfl (HT7.out.below hS5) HO6.out (by unfold maxLen;omega) (by omega) hS5.size ?_;intro v7 w7 ho7 hg7;have hS7:Below w10.heap.size w10 w7:=Z3 hS5 hS5.size ho5 hg7;have ho8:w7.ownsRow w10.heap.size 54 3 v7 (i+(G.length-(i+1))) (([]++(J2 G').take (i*3))++((J2 G').drop ((i+1)*3))):=(by simpa only[Nat.zero_add,Nat.add_zero]using ho7);obtain⟨A8,c8,hv8⟩:=J0 ho8;subst hv8;have hrow7:=(hS7.block n hnl10).trans HN10.out.row;have d1:=cell_of_row w7 n 1 _ _ _ hrow7;have e1:=frozen_of_row w7 n 1 _ _ hrow7)|fail)
       refine bodyPost_ret (v:= .int .i64 0) (by simp[results,Tryz.results34,go_sem]) rfl ?_
       exact HP.out _ _ ho8 hS7
     ·have hmi:¬((m:Nat):Int)=0:=by omega
      have HAN:Hid (((U2 k E).map fxE).any (fun q=>decide (repR q.2=rep))=true):=zh (by
       cases h:((U2 k E).map fxE).any (fun q=>decide (repR q.2=rep))with
       | true=>rfl
       | false=>exact absurd (HAN0.out.2 h) hz)
      go_wp2
      refine bodyPost_ret (v:= .int .i64 0) (by simp[results,Tryz.results34,go_sem]) rfl ?_
      exact⟨by rw[HQ.out],by rw[HQ.out,HDF.out];exact HDR.out.keepTo HB10.out HAN.out⟩
theorem v2v(n:Nat)(vf vb:Value)(E:REL)(G:List RBE)(hP:NodeOk (J9 E G))(nm s:Bytes)(hn:nm.length≤maxLen)(w:World)(h:ORN n vf vb E G w) :
  Calls Tryz.prog 32 #[.pointer (some ⟨n,0,none⟩),VT nm,VT s] w (v1c n vf vb nm s E G w):=by
 rcases v1b nm s with⟨hc,hi⟩|⟨hc,hi,h4⟩|⟨_,hi,h4⟩
 ·exact v1i n vf vb E G nm s hn w h 4 (by decide) hc (v1d hi)
 ·exact v1i n vf vb E G nm s hn w h 2 (by decide) hc (v1e hi h4)
 ·exact v1p n vf vb E G hP nm s hn hi h4 w h
theorem v2w(L:HldL):v2b L=J8 L-J8 (J6 L):=by
 unfold v2b J6
 induction L with
 | nil=>rfl
 | cons y r ih=>
  rw[List.filter_cons,List.filter_cons]
  have e:∀(a:Hld) (l:HldL),J8 (a::l)=a.id.2+J8 l:=fun a l=>by unfold J8;simp
  cases hu:C6 y with
  | true=>simp only[Bool.not_true,Bool.false_eq_true,if_false,if_true,e];omega
  | false=>simp only[Bool.not_false,Bool.false_eq_true,if_false,if_true,e];omega
theorem v2x(E:REL)(G:List RBE):v2c G=D5 (J9 E G)-D5 (M9 (J9 E G)):=by
 have e1:D5 (J9 E G)=(G.map fun q=>J8 q.L).sum:=by unfold D5;rw[Y8,List.map_map];rfl
 have e2:D5 (M9 (J9 E G))=(G.map fun q=>J8 (J6 q.L)).sum:=by
  unfold D5 M9 K7
  rw[Y8,List.map_map,List.map_map];rfl
 rw[e1,e2]
 unfold v2c
 induction G with
 | nil=>rfl
 | cons q r ih=>
  have ih':=ih (by unfold D5;rw[Y8,List.map_map];rfl) (by unfold D5 M9 K7;rw[Y8,List.map_map,List.map_map];rfl)
  rw[List.map_cons,List.map_cons,List.map_cons,List.sum_cons,List.sum_cons,List.sum_cons,ih',v2w];omega
def RNode(n:Nat)(P:PNode)(f:Foot)(w:World):Prop:=Thing (j9b n P f) f w
def RNodeTo(n:Nat)(f:Foot)(P':PNode)(w w':World):Prop:=∃f',RNode n P' f' w'∧FrS f.S w w'∧f.new f' w.heap.size
section
variable {n m:Nat} {vf vb:Value} {E:REL} {G:List RBE} {P P' Q:PNode} {f g:Foot} {w w' w2:World}
theorem ORN.rnode(h:ORN n vf vb E G w):RNode n (J9 E G) (j9a n vf vb E G) w:=⟨h.foot,fun _ hz hk=>⟨vf,vb,E,G,h.keepH hz (fun k _ hm=>hk k hm),rfl,rfl⟩⟩
theorem RNode.at(h:RNode n P f w):∃vf vb E G,ORN n vf vb E G w∧J9 E G=P∧j9a n vf vb E G=f:=Thing.now h
theorem RNode.below(h:RNode n P f w)(hb:Below w.heap.size w w'):RNode n P f w':=Thing.below h hb
theorem RNTo.to(h:RNTo n f P' w w'):RNodeTo n f P' w w':=by
 obtain⟨vf,vb,E,G,h1,rfl,h3,h4⟩:=h
 exact⟨_,h1.rnode,h4,h3⟩
theorem RNodeTo.stay(h:RNode n P f w)(hb:Below w.heap.size w w'):RNodeTo n f P w w':=⟨f,h.below hb,FrS.of_below hb,Foot.new_refl _ _⟩
theorem RNodeTo.below(h:RNodeTo n f P' w w')(hb:Below w'.heap.size w' w2):RNodeTo n f P' w w2:=by
 obtain⟨f',h1,h2,h3⟩:=h
 exact⟨f',h1.below hb,h2.thenB hb,h3⟩
theorem NodeOk.lenE(hP:NodeOk (J9 E G)):E.length≤30:=by have:=hP.flen;rw[Y8,List.length_map]at this;exact this
theorem NodeOk.lenG(hP:NodeOk (J9 E G)):G.length≤30:=by have:=hP.blen;rw[Y8,List.length_map,List.length_map]at this;have:=hP.lenE;omega
theorem NodeOk.getG(hP:NodeOk (J9 E G)){q:RBE}(hq:q∈G):Q1 (J9 E G).bins q.x=some q.L:=
 Z5 M0 hP.bsrt (q:=(q.x,q.L)) (List.mem_map_of_mem (f:=fun q:RBE=>(q.x,q.L)) hq)
theorem NodeOk.binG(hP:NodeOk (J9 E G)){q:RBE}(hq:q∈G):BinOk 7500 q.L∧q.L.length≤250:=
 ⟨hP.bin7 (hP.getG hq),(hP.bin _ _ (hP.getG hq)).2.2.1⟩
theorem RNode.putC(hP:NodeOk P)(nm s:Bytes)(hn:X6 nm)(w:World)(h:RNode n P f w) :
  Calls Tryz.prog 32 #[.pointer (some ⟨n,0,none⟩),.string (bs nm),.string (bs s)] w fun e w'=>e= .returned (.tuple #[.int .i64 (putN nm s P).2.1,.int .i64 (putN nm s P).2.2])∧RNodeTo n f (putN nm s P).1 w w':=by
 obtain⟨vf,vb,E,G,ho,rfl,rfl⟩:=h.at
 exact(v2v n vf vb E G hP nm s hn w ho).mono fun e w' ⟨h1,h2⟩=>⟨h1,h2.to⟩
theorem RNode.dropC(hP:NodeOk P)(nm:Bytes)(w:World)(h:RNode n P f w) :
  Calls Tryz.prog 34 #[.pointer (some ⟨n,0,none⟩),.string (bs nm)] w fun e w'=>e= .returned (.int .i64 (M1 nm P).2)∧RNodeTo n f (M1 nm P).1 w w':=by
 obtain⟨vf,vb,E,G,ho,rfl,rfl⟩:=h.at
 exact(v2u n vf vb E G hP nm w ho).mono fun e w' ⟨h1,h2⟩=>⟨h1,h2.to⟩
theorem RNode.sweepC(hP:NodeOk P)(w:World)(h:RNode n P f w) :
  Calls Tryz.prog 36 #[.pointer (some ⟨n,0,none⟩)] w fun e w'=>e= .returned (.int .i64 (D5 P-D5 (M9 P)))∧RNodeTo n f (M9 P) w w':=by
 obtain⟨vf,vb,E,G,ho,rfl,rfl⟩:=h.at
 exact(v2i n vf vb E G (by have:=hP.lenG;omega) (fun q hq=>hP.binG hq) w ho).mono fun e w' ⟨h1,h2⟩=>⟨by rw[h1,v2x E G],h2.to⟩
theorem RNode.getC(hP:NodeOk P)(nm:Bytes)(w:World)(h:RNode n P f w) :
  Calls Tryz.prog 37 #[.pointer (some ⟨n,0,none⟩),.string (bs nm)] w fun e w'=>e= .returned (.tuple #[.string (bs (getN nm P).1),.int .i64 (getN nm P).2])∧Below w.heap.size w w':=by
 obtain⟨vf,vb,E,G,ho,rfl,rfl⟩:=h.at
 exact v1y n vf vb E G hP nm w ho
theorem v2y(E:REL)(G:List RBE):sumG G=D5 (J9 E G):=by
 unfold D5 sumG
 rw[Y8,List.map_map];rfl
theorem RNode.sizeC(hP:NodeOk P)(w:World)(h:RNode n P f w) :
  Calls Tryz.prog 38 #[.pointer (some ⟨n,0,none⟩)] w fun e w'=>e= .returned (.int .i64 (D5 P))∧Below w.heap.size w w':=by
 obtain⟨vf,vb,E,G,ho,rfl,rfl⟩:=h.at
 refine(j9o n vf vb E G (by have:=hP.lenG;omega) (fun q hq=> ?_) w ho).mono fun e w' ⟨h1,h2⟩=>⟨by rw[h1,v2y E G],h2⟩
 obtain⟨h1,h2⟩:=hP.binG hq
 have h3:=h1.size
 exact⟨h2,fun y hy=>by
  have h4:=(h1.all y hy).len
  rw[(h1.all y hy).id]
  show(0:Int)≤((y.text.length:Nat):Int)∧((y.text.length:Nat):Int)≤64
  omega,by omega⟩
end
structure ND(T:Foot)(n m:Nat)(P Q:PNode)(f g:Foot)(w0 w:World):Prop where
 node:Node n P f w
 mod:RNode m Q g w
 ap:f.ap g
 ge:T.new f w0.heap.size
 ge2:∀k,g.S k→T.S k∨w0.heap.size≤k
 bel:FrS T.S w0 w
section
variable {T:Foot} {n m:Nat} {P P' Q Q':PNode} {f g:Foot} {w0 w w':World}
theorem ND.below(h:ND T n m P Q f g w0 w)(hb:Below w.heap.size w w'):ND T n m P Q f g w0 w':=
 ⟨h.node.below hb,h.mod.below hb,h.ap,h.ge,h.ge2,h.bel.thenB hb⟩
theorem ND.toN(h:ND T n m P Q f g w0 w)(ht:NodeTo n f P' w w'):∃f',ND T n m P' Q f' g w0 w':=by
 obtain⟨f',h1,h2,h3⟩:=ht
 exact⟨f',h1,Thing.far h.mod h2 h.ap,h.ap.step h3 h.mod.lt,h.ge.trans h3 h.bel.size,h.ge2,h.bel.trans h2 fun i hi=>(h.ge i).1 hi⟩
theorem ND.toR(h:ND T n m P Q f g w0 w)(ht:RNodeTo m g Q' w w'):∃g',ND T n m P Q' f g' w0 w':=by
 obtain⟨g',h1,h2,h3⟩:=ht
 exact⟨g',Thing.far h.node h2 h.ap.symm,h1,(h.ap.symm.step h3 h.node.lt).symm,h.ge,fun k hk=>((h3 k).1 hk).elim (h.ge2 k) (fun hB=> .inr (Nat.le_trans h.bel.size hB)),h.bel.trans h2 h.ge2⟩
theorem ORN.nil(w:World):ORN w.heap.size (.slice none 0 0) (.slice none 0 0) [] [] (w.alloc (.cells #[.slice none 0 0,.slice none 0 0] 34)) where
 row:=heap_alloc_new w _
 files:=⟨none,0,rfl,rfl,zl _,fun h=>absurd h (Nat.lt_irrefl 0)⟩
 ids:=fun x hx=>absurd hx List.not_mem_nil
 bins:=World.ownsRow_nil _ _ _ _
 bin:=fun q hq=>absurd hq List.not_mem_nil
 nd:=by unfold blkN blkG;simp[Value.ownBlock]
 ap:=fun k hk=>by
  rcases hk with⟨_,h⟩|⟨x,hx,_⟩
  ·exact absurd rfl h
  ·exact absurd hx List.not_mem_nil
theorem ND.new{f:Foot}(hn:Node n ⟨[],[]⟩ f w)(hg:T.new f w0.heap.size)(hb:FrS T.S w0 w) :
  ∃g,ND T n w.heap.size ⟨[],[]⟩ ⟨[],[]⟩ f g w0 (w.alloc (.cells #[.slice none 0 0,.slice none 0 0] 34)):=by
 have hb1:Below w.heap.size w (w.alloc (.cells #[.slice none 0 0,.slice none 0 0] 34)):=(zb _ _).alloc (zl _) _
 have ho:=ORN.nil w
 have hge:(j9a w.heap.size (.slice none 0 0) (.slice none 0 0) [] []).ge w.heap.size:=fun k hk=>by
  rcases hk with hk|hk
  ·rcases U8.1 hk with rfl|e|⟨q,hq,_⟩
   ·exact zl _
   ·cases e
   ·exact absurd hq List.not_mem_nil
  ·rcases hk with⟨e,_⟩|⟨x,hx,_⟩
   ·cases e
   ·exact absurd hx List.not_mem_nil
 exact⟨_,hn.below hb1,ho.rnode,(Foot.ap_of_ge hge hn.lt).symm,hg,fun k hk=> .inr (Nat.le_trans hb.size (hge k (.inl hk))),hb.thenB hb1⟩
end
theorem v2z(l:Bytes):(bs l).toList=l:=by rw[ByteArray.toList_eq,Q3]
def doN(x:ActN)(P:PNode):PNode:=
 if x.kind= [112,117,116]then(putN x.nm x.s P).1 else if x.kind= [100,114,111,112]then(M1 x.nm P).1 else if x.kind= [115,119,101,101,112]then M9 P else P
theorem NodeOk.doN{P:PNode}(h:NodeOk P)(x:ActN):NodeOk (doN x P):=by
 unfold Go.Proofs.YtdmlghfggninbaaGreatDoor.doN
 split
 ·exact h.put _ _
 ·split
  ·exact h.drop _
  ·split
   ·exact h.sweep
   ·exact h
theorem ES.toE{a:Nat→Addr}{v:Value}{c:Int}{w:World}(h:ES a v c)(hs:Sents a w):ErrV a v c (-1) w:=by
 rcases h with⟨rfl,rfl⟩|⟨k,hk,rfl,rfl⟩
 ·exact ErrV.none a w
 ·exact ErrV.sent hs k hk
theorem v3a(a:Nat→Addr)(v:Value)(c:Int)(w:World)(hs:Sents a w)(h:ES a v c):Calls Tryz.prog 20 #[v,.int .i64 c] w fun e w'=>e= .returned (.bool true)∧Below w.heap.size w w':=by
 have:=z0v a v c c (-1) w hs (h.toE hs)
 rw[show z0u c c (-1)=true by unfold z0u;simp]at this
 exact this
theorem Box3.frs{b:Nat}{x y z:Value}{S:Nat→Prop}{w w':World}(h:Box3 b x y z w)(hF:FrS S w w')(hne:¬S b):Box3 b x y z w':=
 ⟨(hF.cell (p:=⟨b,0,none⟩) h.lt hne).trans h.c0,(hF.cell (p:=⟨b,1,none⟩) h.lt hne).trans h.c1,(hF.cell (p:=⟨b,2,none⟩) h.lt hne).trans h.c2⟩
def v3b(base:Foot)(n m:Nat)(P':PNode)(w0:World)(e:Ending)(w':World):Prop:=e= .returned (.int .i64 1)∧∃f' g',ND base n m P' P' f' g' w0 w'
theorem ND.notN{base:Foot}{n m b:Nat}{P Q:PNode}{f g:Foot}{w0 w:World}(h:ND base n m P Q f g w0 w)(hb:b=w.heap.size):¬f.S b∧¬g.S b:=by
 subst hb
 exact⟨fun hs=>Nat.lt_irrefl _ (h.node.lt _ (.inl hs)),fun hs=>Nat.lt_irrefl _ (h.mod.lt _ (.inl hs))⟩
theorem v3c(a:Nat→Addr){base:Foot}{n m:Nat}{P:PNode}{f g:Foot}{w0:World}(hP:NodeOk P)(x:ActN)(hx:x.nm.length≤30∧x.s.length≤4001)(w:World)(h:ND base n m P P f g w0 w)(hs:∀w',FrS base.S w0 w'→Sents a w') :
  Calls Tryz.prog 9 #[.pointer (some ⟨n,0,none⟩),.pointer (some ⟨m,0,none⟩),.agg #[.string (bs x.kind),.string (bs x.nm),.string (bs x.s)]] w (v3b base n m (doN x P) w0):=by
 obtain⟨KD,NM,SX⟩:=x
 simp only at hx ⊢
 obtain⟨hx30,hx40⟩:=hx
 have OK:=zh hP
 have HS:=zh hs
 have hb2:Below w.heap.size w (w.alloc (.cells #[.string (bs KD),.string (bs NM),.string (bs SX)] 37)):=(zb _ _).alloc (zl _) _
 have H2:=zh (h.below hb2)
 have HX2:Hid (Box3 w.heap.size (.string (bs KD)) (.string (bs NM)) (.string (bs SX)) (w.alloc (.cells #[.string (bs KD),.string (bs NM),.string (bs SX)] 37))):=zh (Box3.mk' w (.string (bs KD)) (.string (bs NM)) (.string (bs SX)) 37)
 have HNS:=zh (h.notN (b:=w.heap.size) rfl)
 obtain⟨x0,x1,x2⟩:=HX2.out
 clear h hb2 hP hs
 unfold v3b
 by_cases k1:KD= [112,117,116]
 ·have k1i:((bs KD).toList== [112,117,116])=true:=by rw[k1,v2z];rfl
  have HD:Hid (doN ⟨KD,NM,SX⟩ P=(putN NM SX P).1):=zh (by unfold doN;rw[if_pos k1])
  have HPUT:=zh (Node.putS a OK.out NM SX (by unfold X6 maxLen;omega) (w.alloc (.cells #[.string (bs KD),.string (bs NM),.string (bs SX)] 37)) H2.out.node ((HS.out (w.alloc (.cells #[.string (bs KD),.string (bs NM),.string (bs SX)] 37)) H2.out.bel).someS [1,3,5,6,9] (by decide)))
  have HPR:=zh (fun f' w3 (h3:ND base n m (putN NM SX P).1 P f' g w0 w3)=>RNode.putC OK.out NM SX (by unfold X6 maxLen;omega) w3 h3.mod)
  have OK':=zh (OK.out.put NM SX)
  rw[HD.out]
  generalize putN NM SX P=PN at *
  obtain⟨P',fr,cd⟩:=PN
  simp only at HPUT HPR OK' ⊢
  have qf:=beq_self_eq_true fr
  clear k1 HD
  go_enter Tryz.func9,Tryz.ntmps9
  go_wp2_with fail
  generalize w.alloc (.cells #[.string (bs KD),.string (bs NM),.string (bs SX)] 37)=w2 at *
  go_wp2_with fail
  refine HPUT.out.mono ?_
  rintro e w3 ⟨r3,rfl,hes,ht3⟩
  obtain⟨f3,h3⟩:=H2.out.toN ht3
  have H3:=zh h3
  have HES:=zh hes
  obtain⟨_,_,hF3,_⟩:=ht3
  obtain⟨y0,y1,y2⟩:=HX2.out.frs hF3 HNS.out.1
  clear h3 hes hF3 x0 x1 x2 HPUT
  go_wp2_with fail
  refine(HPR.out f3 w3 H3.out).mono ?_
  rintro e w4 ⟨rfl,ht4⟩
  obtain⟨g4,h4⟩:=H3.out.toR ht4
  have H4:=zh h4
  have HCD:=zh (v3a a r3 cd w4 (HS.out w4 h4.bel) HES.out)
  clear h4 ht4 y0 y1 y2 HPR
  go_wp2_with fail
  refine HCD.out.mono ?_
  rintro e w5 ⟨rfl,hb5⟩
  have H5:=zh (H4.out.below hb5)
  clear hb5 HCD
  have HZ1:=zh (Node.sizeC OK'.out w5 H5.out.node)
  go_wp2_with fail
  refine HZ1.out.mono ?_
  rintro e wy ⟨rfl,hby⟩
  have HY:=zh (H5.out.below hby)
  have HZ2:=zh (RNode.sizeC OK'.out wy HY.out.mod)
  have qz:=beq_self_eq_true (D5 P')
  clear hby HZ1
  go_wp2_with fail
  refine HZ2.out.mono ?_
  rintro e wx ⟨rfl,hbx⟩
  have HX:=zh (HY.out.below hbx)
  clear hbx HZ2
  go_wp2
  go_ret
  exact⟨rfl,_,_,HX.out⟩
 ·have k1i:((bs KD).toList== [112,117,116])=false:=by rw[v2z];exact beq_eq_false_iff_ne.2 k1
  by_cases k2:KD= [100,114,111,112]
  ·have k2i:((bs KD).toList== [100,114,111,112])=true:=by rw[k2,v2z];rfl
   have HD:Hid (doN ⟨KD,NM,SX⟩ P=(M1 NM P).1):=zh (by unfold doN;rw[if_neg k1,if_pos k2])
   rw[HD.out]
   have H2d:=zh (H2.out.below ((zb _ _).drew))
   have HDN:=zh (Node.dropC a OK.out NM (by unfold X6 maxLen;omega) (w.alloc (.cells #[.string (bs KD),.string (bs NM),.string (bs SX)] 37)).drew H2d.out.node ((HS.out (w.alloc (.cells #[.string (bs KD),.string (bs NM),.string (bs SX)] 37)).drew H2d.out.bel).someS [4,10] (by decide)))
   have HDR:=zh (fun f' w3 (h3:ND base n m (M1 NM P).1 P f' g w0 w3)=>RNode.dropC OK.out NM w3 h3.mod)
   have OK':=zh (OK.out.drop NM)
   generalize M1 NM P=PN at *
   obtain⟨P',cd⟩:=PN
   simp only at HDN HDR OK' ⊢
   clear k1 k2 HD
   go_enter Tryz.func9,Tryz.ntmps9
   go_wp2_with fail
   generalize w.alloc (.cells #[.string (bs KD),.string (bs NM),.string (bs SX)] 37)=w2 at *
   go_wp2
   have hS0:Box3 w.heap.size (.string (bs KD)) (.string (bs NM)) (.string (bs SX)) w2.drew:=⟨HX2.out.c0,HX2.out.c1,HX2.out.c2⟩
   refine kR (fun w'=>Box3 w.heap.size (.string (bs KD)) (.string (bs NM)) (.string (bs SX)) w') 9 ?_
   refine kT 0 hS0 ?_
   refine kT 1 hS0 ?_
   refine kS 2 rfl hS0 (fun w' hS=>by have A1:=hS.c1;go_simp;rfl) ?_
   refine kT 4 hS0 ?_
   refine kT 5 hS0 ?_
   refine kS 6 rfl hS0 (fun w' hS=>by have A1:=hS.c1;go_simp;rfl) ?_
   refine kC 3 (fun K hK=> ?_)
   go_simp
   refine HDN.out.mono ?_
   rintro e w3 ⟨r3,rfl,hes,ht3⟩
   obtain⟨f3,h3⟩:=H2d.out.toN ht3
   obtain⟨_,_,hF3,_⟩:=ht3
   have hS1:Box3 w.heap.size (.string (bs KD)) (.string (bs NM)) (.string (bs SX)) w3:=Box3.frs hS0 hF3 HNS.out.1
   refine hK _ _ hS1 ?_
   clear hK K
   try simp only[Act.put,zM]
   refine kC 7 (fun K hK=> ?_)
   go_simp
   refine(HDR.out f3 w3 h3).mono ?_
   rintro e w4 ⟨rfl,ht4⟩
   obtain⟨g4,h4⟩:=h3.toR ht4
   obtain⟨_,_,hF4,_⟩:=ht4
   have hS2:Box3 w.heap.size (.string (bs KD)) (.string (bs NM)) (.string (bs SX)) w4:=Box3.frs hS1 hF4 HNS.out.2
   refine hK _ _ hS2 ?_
   clear hK K
   try simp only[Act.put,zM]
   refine kC 8 (fun K hK=> ?_)
   go_simp
   refine(v3a a r3 cd w4 (HS.out w4 h4.bel) hes).mono ?_
   rintro e w5 ⟨rfl,hb5⟩
   have hS3:Box3 w.heap.size (.string (bs KD)) (.string (bs NM)) (.string (bs SX)) w5:=hS2.below hb5 hS2.lt
   refine hK _ _ hS3 (kF ?_)
   clear hK K
   try simp only[Act.put,zM]
   simp only[List.drop_succ_cons,List.drop_zero]
   have H5:=zh (h4.below hb5)
   clear hS0 hS1 hS2 hS3 hF3 hF4 h3 h4 hes hb5 HDN HDR
   have HZ1:=zh (Node.sizeC OK'.out w5 H5.out.node)
   go_wp2_with fail
   refine HZ1.out.mono ?_
   rintro e wy ⟨rfl,hby⟩
   have HY:=zh (H5.out.below hby)
   have HZ2:=zh (RNode.sizeC OK'.out wy HY.out.mod)
   have qz:=beq_self_eq_true (D5 P')
   clear hby HZ1
   go_wp2_with fail
   refine HZ2.out.mono ?_
   rintro e wx ⟨rfl,hbx⟩
   have HX:=zh (HY.out.below hbx)
   clear hbx HZ2
   go_wp2
   go_ret
   exact⟨rfl,_,_,HX.out⟩
  ·have k2i:((bs KD).toList== [100,114,111,112])=false:=by rw[v2z];exact beq_eq_false_iff_ne.2 k2
   by_cases k3:KD= [115,119,101,101,112]
   ·have k3i:((bs KD).toList== [115,119,101,101,112])=true:=by rw[k3,v2z];rfl
    have HD:Hid (doN ⟨KD,NM,SX⟩ P=M9 P):=zh (by unfold doN;rw[if_neg k1,if_neg k2,if_pos k3])
    rw[HD.out]
    have HSW:=zh (Node.sweepC OK.out (w.alloc (.cells #[.string (bs KD),.string (bs NM),.string (bs SX)] 37)) H2.out.node)
    have HSR:=zh (fun f' w3 (h3:ND base n m (M9 P) P f' g w0 w3)=>RNode.sweepC OK.out w3 h3.mod)
    have OK':=zh OK.out.sweep
    generalize M9 P=P' at *
    generalize hfr:D5 P-D5 P'=fr at *
    have qf:=beq_self_eq_true fr
    clear k1 k2 k3 HD hfr
    go_enter Tryz.func9,Tryz.ntmps9
    go_wp2_with fail
    generalize w.alloc (.cells #[.string (bs KD),.string (bs NM),.string (bs SX)] 37)=w2 at *
    go_wp2_with fail
    refine HSW.out.mono ?_
    rintro e w3 ⟨rfl,ht3⟩
    obtain⟨f3,h3⟩:=H2.out.toN ht3
    have H3:=zh h3
    clear h3 ht3 x0 x1 x2 HSW
    go_wp2_with fail
    refine(HSR.out f3 w3 H3.out).mono ?_
    rintro e w4 ⟨rfl,ht4⟩
    obtain⟨g4,h4⟩:=H3.out.toR ht4
    have H4:=zh h4
    clear h4 ht4 HSR
    have HZ1:=zh (Node.sizeC OK'.out w4 H4.out.node)
    go_wp2_with fail
    refine HZ1.out.mono ?_
    rintro e wy ⟨rfl,hby⟩
    have HY:=zh (H4.out.below hby)
    have HZ2:=zh (RNode.sizeC OK'.out wy HY.out.mod)
    have qz:=beq_self_eq_true (D5 P')
    clear hby HZ1
    go_wp2_with fail
    refine HZ2.out.mono ?_
    rintro e wx ⟨rfl,hbx⟩
    have HX:=zh (HY.out.below hbx)
    clear hbx HZ2
    go_wp2
    go_ret
    exact⟨rfl,_,_,HX.out⟩
   ·have k3i:((bs KD).toList== [115,119,101,101,112])=false:=by rw[v2z];exact beq_eq_false_iff_ne.2 k3
    have HD:Hid (doN ⟨KD,NM,SX⟩ P=P):=zh (by unfold doN;rw[if_neg k1,if_neg k2,if_neg k3])
    rw[HD.out]
    have HG:=zh (Node.getC a OK.out NM (by unfold X6 maxLen;omega) (w.alloc (.cells #[.string (bs KD),.string (bs NM),.string (bs SX)] 37)) H2.out.node ((HS.out (w.alloc (.cells #[.string (bs KD),.string (bs NM),.string (bs SX)] 37)) H2.out.bel).someS [1,2,3,4,6,8] (by decide)))
    have HGR:=zh (fun w3 (h3:ND base n m P P f g w0 w3)=>RNode.getC OK.out NM w3 h3.mod)
    unfold j5c at HG
    generalize getN NM P=PN at *
    obtain⟨gs,cd⟩:=PN
    simp only at HG HGR
    have qf:=beq_self_eq_true (bs gs).toList
    clear k1 k2 k3 HD
    go_enter Tryz.func9,Tryz.ntmps9
    go_wp2_with fail
    generalize w.alloc (.cells #[.string (bs KD),.string (bs NM),.string (bs SX)] 37)=w2 at *
    go_wp2_with fail
    refine HG.out.mono ?_
    rintro e w3 ⟨r3,rfl,hes,hb3⟩
    have H3:=zh (H2.out.below hb3)
    have HES:=zh hes
    obtain⟨y0,y1,y2⟩:=HX2.out.below hb3 HX2.out.lt
    clear hb3 hes x0 x1 x2 HG
    go_wp2_with fail
    refine(HGR.out w3 H3.out).mono ?_
    rintro e w4 ⟨rfl,hb4⟩
    have H4:=zh (H3.out.below hb4)
    have HCD:=zh (v3a a r3 cd w4 (HS.out w4 H4.out.bel) HES.out)
    clear hb4 y0 y1 y2 HGR
    go_wp2_with fail
    refine HCD.out.mono ?_
    rintro e w5 ⟨rfl,hb5⟩
    have H5:=zh (H4.out.below hb5)
    clear hb5 HCD
    have HZ1:=zh (Node.sizeC OK.out w5 H5.out.node)
    go_wp2_with fail
    refine HZ1.out.mono ?_
    rintro e wy ⟨rfl,hby⟩
    have HY:=zh (H5.out.below hby)
    have HZ2:=zh (RNode.sizeC OK.out wy HY.out.mod)
    have qz:=beq_self_eq_true (D5 P)
    clear hby HZ1
    go_wp2_with fail
    refine HZ2.out.mono ?_
    rintro e wx ⟨rfl,hbx⟩
    have HX:=zh (HY.out.below hbx)
    clear hbx HZ2
    go_wp2
    go_ret
    exact⟨rfl,_,_,HX.out⟩
end Go.Proofs.YtdmlghfggninbaaGreatDoor
