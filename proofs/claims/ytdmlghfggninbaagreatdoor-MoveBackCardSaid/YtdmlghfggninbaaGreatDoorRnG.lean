/- The reference's Node: walk of Put. No conditions but bounds. -/
import Derived.Test.YtdmlghfggninbaaGreatDoorMb26
import Derived.Test.YtdmlghfggninbaaGreatDoorMb24
import Derived.Test.YtdmlghfggninbaaGreatDoorMb27
set_option linter.unusedVariables false
set_option linter.unusedSimpArgs false
set_option maxHeartbeats 4000000
set_option maxRecDepth 100000
namespace Go.Proofs.YtdmlghfggninbaaGreatDoor
open Go.RowKit Go.Lib Go.Maps
theorem v1i(n:Nat)(vf vb:Value)(E:REL)(G:List RBE)(nm s:Bytes)(hn:nm.length≤maxLen)(w:World)(h:ORN n vf vb E G w)(c:Int)(hc:c>0)(he:(M8 nm s).1=c)(hp:putN nm s (J9 E G)=(J9 E G,0,c)) :
  Calls Tryz.prog 32 #[.pointer (some ⟨n,0,none⟩),VT nm,VT s] w (v1c n vf vb nm s E G w):=by
 have HP:Hid (∀w',Below w.heap.size w w'→v1c n vf vb nm s E G w (.returned (.tuple #[.int .i64 0,.int .i64 c])) w'):=zh (fun w' hb=>⟨by rw[hp],by rw[hp];exact RNTo.stay h hb⟩)
 have OF:=zh (j7g (bs nm) (bs s) (by rw[Q8];exact hn) w)
 rw[Q3,Q3,he]at OF
 clear h hp he
 go_enter Tryz.func32,Tryz.ntmps32
 go_wp2_with fail
 refine OF.out.mono ?_
 rintro e w1 ⟨v,rfl,hv,hb1⟩
 obtain⟨sl,rfl,hrd⟩:=hv
 obtain⟨A,k,hsl,_⟩:=hrd
 subst hsl
 have HB1:=zh hb1
 clear hb1
 go_wp2
 refine bodyPost_ret (v:= .tuple #[.int .i64 0,.int .i64 c]) (by simp[results,Tryz.results32,go_sem]) rfl ?_
 exact HP.out _ (HB1.out.alloc HB1.out.size _)
theorem v1j{d:Nat}{x y z u:Value}{w w':World}(h:Box4 d x y z u w)(hb:w'.heap[d]? =w.heap[d]?):Box4 d x y z u w':=
 ⟨(World.cell?_of_block (a:=⟨d,0,none⟩) hb).trans h.c0,(World.cell?_of_block (a:=⟨d,1,none⟩) hb).trans h.c1,(World.cell?_of_block (a:=⟨d,2,none⟩) hb).trans h.c2,(World.cell?_of_block (a:=⟨d,3,none⟩) hb).trans h.c3,fun i=>(World.frozen?_of_block (a:=⟨d,i,none⟩) hb).trans (h.f i)⟩
theorem v1k{d:Nat}{x y:Value}{w w':World}(h:Box2 d x y w)(hb:w'.heap[d]? =w.heap[d]?):Box2 d x y w':=
 ⟨(World.cell?_of_block (a:=⟨d,0,none⟩) hb).trans h.c0,(World.cell?_of_block (a:=⟨d,1,none⟩) hb).trans h.c1,(World.frozen?_of_block (a:=⟨d,0,none⟩) hb).trans h.f0,(World.frozen?_of_block (a:=⟨d,1,none⟩) hb).trans h.f1⟩
theorem v1l{b base n size:Nat}{e:TypeId}{v v0:Value}{xs:List Value}{w w':World}(h:w.ownsRow base e size v n xs)(hb:b<base)(hv:∀k,v0.ownBlock=some k→k<base)(hf:BFrame b v0 w w'):w'.ownsRow base e size v n xs:=by
 refine⟨h.1,?_⟩
 rcases h.2 with h3|⟨g,cap,cur,hvg,hg,hh,h4⟩
 ·exact .inl h3
 ·exact .inr ⟨g,cap,cur,hvg,hg,(hf.block g (Array.getElem?_eq_some_iff.1 hh).1 (by omega) (fun e=>by have:=hv g e;omega)).trans hh,h4⟩
theorem v1m{w:World}{base c:Nat}{ps:List Bytes}{A:Option Addr}(h:w.ownsRow base 9 1 (.slice A ps.length c) ps.length (ps.map VT)){k:Nat}(hk:k<ps.length):∃g,A=some ⟨g,0,none⟩∧w.cell? ⟨g,k,none⟩=some (VT ps[k]):=by
 rcases h.2 with⟨hv,h0⟩|⟨g,cap,cur,hv,_,hh,_⟩
 ·omega
 ·injection hv with hA _ hc
  subst hA;subst hc
  refine⟨g,rfl,?_⟩
  rw[h.cellAt k (by omega),List.getElem?_map,List.getElem?_eq_getElem hk];rfl
theorem v1n{n:Nat}{vf vb:Value}{nm s:Bytes}{E:REL}{G:List RBE}{w w':World}{cd:Int}(h:ORN n vf vb E G w)(e:putN nm s (J9 E G)=(J9 E G,0,cd))(hb:Below w.heap.size w w'):v1c n vf vb nm s E G w (.returned (.tuple #[.int .i64 0,.int .i64 cd])) w':=
 ⟨by rw[e],by rw[e];exact RNTo.stay h hb⟩
theorem v1o(w:World):RBin w.heap.size 0 (.slice none 0 0) [] (w.alloc (.cells #[.slice none 0 0] 94)):=⟨heap_alloc_new w _,World.ownsRow_nil _ _ _ _,fun _ e=>by cases e⟩
theorem RdB.own_in{w:World}{lo hi k:Nat}{v:Value}{L:IdL}(h:RdB w lo hi v L)(e:v.ownBlock=some k)(ne:L≠ []):lo≤k∧k<hi:=by
 obtain⟨A,c,hv,_,hx⟩:=h
 obtain⟨g,o,hA,h1,h2,_⟩:=hx (List.length_pos_iff.2 ne)
 rw[hv,hA]at e
 injection e with e
 subst e
 exact⟨h1,h2⟩
theorem v1p(n:Nat)(vf vb:Value)(E:REL)(G:List RBE)(hP:NodeOk (J9 E G))(nm s:Bytes)(hn:nm.length≤maxLen)(hi:J7 nm=true)(h4:s.length≤4000)(w:World)(h:ORN n vf vb E G w) :
  Calls Tryz.prog 32 #[.pointer (some ⟨n,0,none⟩),VT nm,VT s] w (v1c n vf vb nm s E G w):=by
 have hE30:E.length≤30:=by have:=hP.flen;rw[Y8,List.length_map]at this;exact this
 have hG30:G.length≤30:=by have:=hP.blen;rw[Y8,List.length_map,List.length_map]at this;omega
 have hPL:(pieces s).length≤4000:=by have:=B2 s;omega
 have HPL:=zh hPL
 have OF:=zh (j7g (bs nm) (bs s) (by rw[Q8];exact hn) w)
 have hof:M8 nm s=(0,Q7 nm s):=by unfold M8;rw[if_neg (by rw[hi];simp),if_neg (by omega)]
 rw[Q3,Q3,hof]at OF
 have OP:=zh (q6x (bs s) (by rw[Q8];omega))
 rw[Q3]at OP
 have HMX:Hid (∀p∈pieces s,p.length≤64):=zh (fun p hp=>W9 s p hp)
 have HTB:=zh (hP.theBin (Z8 (V8 s)))
 have HFS:Hid (K1 bytesBefore (E.map fxE)):=zh hP.fsrt
 have HGS:Hid (K1 Q2 (G.map prG)):=zh hP.bsrt
 have HIL:=zh (z6x h4)
 have HM0:=zh (fun hg hf L hL=>v1h (s:=s) (nm:=nm) (P:=J9 E G) (L:=L) hi h4 hg hf hL)
 have HHAS:=zh (fun r hg=>v1f (s:=s) (nm:=nm) (P:=J9 E G) (r:=r) hi h4 hg)
 have HFUL:=zh (fun hg hf=>v1g (s:=s) (nm:=nm) (P:=J9 E G) hi h4 hg hf)
 have HN:=zh h
 have hnl:=h.nlt
 obtain⟨A,c,hvf,hcap,_⟩:=h.vff
 subst hvf
 obtain⟨BA,bc,hvb,hbcap,hbx⟩:=h.vbf
 subst hvb
 have HBX:=zh hbx
 obtain⟨r,hr⟩:∃r,r=Q7 nm s:=⟨_,rfl⟩
 have hrn:r.name=nm:=by rw[hr];rfl
 have hri:r.ids=V8 s:=by rw[hr];rfl
 obtain⟨rep,hrep⟩:∃x,x=Z8 (V8 s):=⟨_,rfl⟩
 obtain⟨ps,hps⟩:∃x,x=pieces s:=⟨_,rfl⟩
 have HRN:=zh hrn
 have HRE:Hid (Z8 r.ids=rep):=zh (by rw[hri,hrep])
 have HRI:Hid (r.ids.length≤1000000):=zh (by rw[hri];have:=HIL.out;omega)
 rw[←hr]at OF
 rw[←hps]at OP HMX HPL
 rw[←hrep]at HTB
 rw[←hr,←hps,←hrep]at HM0
 clear hof hr hri hrn hps hrep hP h hbx hPL
 go_enter Tryz.func32,Tryz.ntmps32
 go_wp2_with fail
 refine OF.out.mono ?_
 rintro e w1 ⟨v,rfl,hv,hb1⟩
 obtain⟨sl,rfl,hrd⟩:=hv
 have HRD:=zh hrd
 obtain⟨SA,sc,hsl,_⟩:=hrd
 subst hsl
 have HSB:Hid (∀k,(Value.slice SA r.ids.length sc).ownBlock=some k→r.ids≠ []→w.heap.size≤k∧k<w1.heap.size):=zh (fun k e ne=>HRD.out.own_in e ne)
 have HAP:Hid (∀k,(Value.slice SA r.ids.length sc).ownBlock=some k→r.ids≠ []→k∉blkN n (.slice BA G.length bc) G):=zh (fun k e ne hm=>by have:=HN.out.blk_lt hm;have:=HSB.out k e ne;omega)
 have hb12:Below w1.heap.size w1 (w1.alloc (.cells #[VT r.name,.int .i64 r.len,.int .u32 (r.print:Int),.slice SA r.ids.length sc] 40)):=(zb _ _).alloc (zl _) _
 have HB12:=zh hb12
 have HB2:=zh (hb1.trans (hb12.mono hb1.size))
 have HM1:=zh hb1.size
 have HX42:=zh (Box4.mk' w1 (VT r.name) (.int .i64 r.len) (.int .u32 (r.print:Int)) (.slice SA r.ids.length sc) 40)
 have HFIND:=zh (j9g n _ _ E G (by omega) nm _ (HN.out.below HB2.out))
 have c0:=(HB2.out.cell (p:=⟨n,0,none⟩) hnl).trans HN.out.c0
 obtain⟨a0,a1,a2,a3,_⟩:=HX42.out
 clear hb1 hb12
 go_wp2_with fail
 refine HFIND.out.mono ?_
 rintro e w3 ⟨rfl,rfl⟩
 rcases v0j (fun x:Rcp×Value=>decide (x.1.name=nm)) E with⟨hix,hno⟩|⟨k,hk,hix,hy⟩
 rotate_left
 ·rw[hix]
  have hge:((k:Nat):Int)≥0:=by omega
  have HP:=zh (HHAS.out _ (v0u HFS.out hk (of_decide_eq_true hy)))
  clear hix hy
  go_wp2
  refine bodyPost_ret (v:= .tuple #[.int .i64 0,.int .i64 6]) (by simp[results,Tryz.results32,go_sem]) rfl ?_
  exact⟨by rw[HP.out],by rw[HP.out];exact RNTo.stay HN.out HB2.out⟩
 ·rw[hix]
  have HNO0:Hid (∀j (hj:j<E.length),E[j].1.name≠nm):=zh (fun j hj=>of_decide_eq_false (hno j hj))
  have HG0:=zh (v0t HNO0.out)
  clear hix hno HHAS
  by_cases h30:30≤E.length
  ·have h30i:(E.length:Int)≥30:=by omega
   have HP:=zh (HFUL.out HG0.out (by rw[Y8,List.length_map];exact h30))
   go_wp2
   refine bodyPost_ret (v:= .tuple #[.int .i64 0,.int .i64 7]) (by simp[results,Tryz.results32,go_sem]) rfl ?_
   exact⟨by rw[HP.out],by rw[HP.out];exact RNTo.stay HN.out HB2.out⟩
  ·have h30i:¬(E.length:Int)≥30:=by omega
   have HNO:Hid (∀j (hj:j<E.length),E[j].1.name≠r.name):=zh (by rw[HRN.out];exact HNO0.out)
   have HM1':=zh (HM0.out HG0.out (by rw[Y8,List.length_map];omega))
   have HREP:=zh (j7e (.agg #[VT r.name,.int .i64 r.len,.int .u32 (r.print:Int),.slice SA r.ids.length sc]) r HRI.out (w1.alloc (.cells #[VT r.name,.int .i64 r.len,.int .u32 (r.print:Int),.slice SA r.ids.length sc] 40)) ⟨_,rfl,(HRD.out.rd.keep HB12.out (zl _)).more HB12.out.size⟩)
   rw[HRE.out]at HREP
   clear HM0 HFUL h30 HNO0
   generalize w1.alloc (.cells #[VT r.name,.int .i64 r.len,.int .u32 (r.print:Int),.slice SA r.ids.length sc] 40)=w2 at *
   go_wp2_with fail
   refine HREP.out.mono ?_
   rintro e w4 ⟨rfl,hb4⟩
   have HB4:=zh (HB2.out.trans (hb4.mono HB2.out.size))
   have hb5:Below w4.heap.size w4 ((w4.alloc (.cells #[.int .u32 (rep.1:Int),.int .i64 rep.2] 25)).alloc (.cells #[.slice none 0 0] 94)):=((zb _ _).alloc (zl _) _).alloc (by simp) _
   have HB5:=zh (HB4.out.trans (hb5.mono HB4.out.size))
   have HX25:=zh ((Box2.mk' w4 (.int .u32 (rep.1:Int)) (.int .i64 rep.2) 25).below ((zb _ _).alloc (zl _) (.cells #[.slice none 0 0] 94)) (by simp))
   have HBZ:=zh (v1o (w4.alloc (.cells #[.int .u32 (rep.1:Int),.int .i64 rep.2] 25)))
   have HSZ5:Hid (w2.heap.size≤w4.heap.size):=zh hb4.size
   have HSZ2:Hid (w1.heap.size<w2.heap.size):=zh HX42.out.lt
   have HX45:=zh ((HX42.out.below hb4 HX42.out.lt).below hb5 (Nat.lt_of_lt_of_le HX42.out.lt hb4.size))
   have HFB:=zh (j9h n _ _ E G (by omega) rep _ (HN.out.below HB5.out))
   have HB15:=zh (HB12.out.trans ((hb4.trans (hb5.mono hb4.size)).mono HB12.out.size))
   obtain⟨z0,z1,_,_⟩:=HX25.out
   clear hb4 hb5 a0 a1 a2 a3 c0
   go_wp2_with fail
   have HBZ5:Hid (RBin (w4.heap.size+1) 0 (.slice none 0 0) [] ((w4.alloc (.cells #[.int .u32 (rep.1:Int),.int .i64 rep.2] 25)).alloc (.cells #[.slice none 0 0] 94))):=zh (by have h:=HBZ.out;simpa using h)
   generalize(w4.alloc (.cells #[.int .u32 (rep.1:Int),.int .i64 rep.2] 25)).alloc (.cells #[.slice none 0 0] 94)=w5 at *
   generalize hbq:w4.heap.size+1=b0 at *
   refine HFB.out.mono ?_
   rintro e w6 ⟨rfl,hb6⟩
   have HB6:=zh (HB5.out.trans (hb6.mono HB5.out.size))
   have HX26:=zh (HX25.out.below hb6 HX25.out.lt)
   have HX46:=zh (HX45.out.below hb6 HX45.out.lt)
   have HBZ6:=zh (HBZ5.out.below hb6)
   have HB16:=zh (HB15.out.trans (hb6.mono HB15.out.size))
   have HM:Hid (w.heap.size≤w1.heap.size∧w1.heap.size<w4.heap.size):=zh ⟨HM1.out,by have:=HSZ2.out;have:=HSZ5.out;omega⟩
   clear hb6 z0 z1 HBZ HBZ5
   rcases v0j (fun q:RBE=>decide (q.x=rep)) G with⟨hix,hno⟩|⟨k,hk,hix,hy⟩
   ·rw[hix]
    have hbn:binN (J9 E G) rep= []:=by
     unfold binN
     rw[show(J9 E G).bins=G.map prG from rfl,v0v (fun j hj=>of_decide_eq_false (hno j hj))];rfl
    have HL0:=HTB
    rw[hbn]at HL0
    have HMAIN:=zh (HM1'.out [] hbn.symm)
    have hbb0:=HBZ6.out.lt
    clear hix hno hbn
    go_wp2_with fail
    refine(OP.out _).mono ?_
    rintro e w8 ⟨vl,rfl,hol,hb8⟩
    have HB8:=zh (HB6.out.trans (hb8.mono HB6.out.size))
    have HB18:=zh (HB16.out.trans (hb8.mono HB16.out.size))
    have HX28:=zh (HX26.out.below hb8 HX26.out.lt)
    have HX48:=zh (HX46.out.below hb8 HX46.out.lt)
    have HBIN8:=zh (HBZ6.out.below hb8)
    have hbb:w4.heap.size<b0∧b0<w6.heap.size:=⟨by omega,hbb0⟩
    have hbv:∀j,(Value.slice none 0 0).ownBlock=some j→w4.heap.size<j∧j<w6.heap.size:=fun j e=>by cases e
    obtain⟨L0,hL0⟩:∃L0:HldL,L0= []:=⟨_,rfl⟩
    obtain⟨v0,hv0⟩:∃v0,v0=Value.slice none 0 0:=⟨_,rfl⟩
    rw[←hv0]at hbv
    rw[←hL0,←hv0]at HBIN8
    rw[←hL0]at HL0 HMAIN
    clear hbq hbb0 hb8 hL0 hv0
    generalize b0=b at *
    have HBB:=zh hbb
    have HBV:=zh hbv
    have HOL:=zh hol
    obtain⟨lA,lc,hlf⟩:=J0 hol
    subst hlf
    clear hol hbb hbv
    go_wp2
    go_loopg [13,15] ps.length (fun gh v13 v15 wr=>∃(k:Nat) (f:Int) (v':Value) (L':HldL),v15= .int .i64 k∧v13= .int .i64 f∧k≤ps.length∧gh=ps.length-k∧Hid (K4 ps L0 0=K4 (ps.drop k) L' f)∧Hid (RBin b 0 v' L' wr)∧Hid (BFrame b v0 w8 wr)∧Hid (v'.ownBlock=v0.ownBlock∨∀j,v'.ownBlock=some j→w8.heap.size≤j)∧Hid (BinOk (7500+k) L'∧L'.length≤250)∧0≤f∧f≤64*k)
    case atStart=>exact⟨0,0,v0,L0,rfl,rfl,Nat.zero_le _,rfl,zh (by rw[List.drop_zero]),HBIN8,zh ⟨rfl,rfl,rfl,zl _,fun _ _ _ _=>rfl⟩,zh (.inl rfl),zh (by have:=HL0.out;exact⟨this.1.mono (by omega),this.2.1⟩),by omega,by omega⟩
    case round=>
     obtain⟨k,f,v',L',rfl,rfl,hk,hgm,HPA,HBIN,HFR,HVV,HOK,hf0,hf1⟩:=hrel
     have HBr:Hid (Below w.heap.size w wr):=zh (HFR.out.below' HB8.out HB8.out.size (by have:=HBB.out;have:=HM.out;omega) (fun j e=>by have:=HBV.out j e;have:=HM.out;omega))
     have HX4r:=zh (v1j HX48.out (HFR.out.block _ HX48.out.lt (by have:=HBB.out;have:=HM.out;omega) (fun e=>by have:=HBV.out _ e;have:=HM.out;omega)))
     have HX2r:=zh (v1k HX28.out (HFR.out.block _ HX28.out.lt (by have:=HBB.out;omega) (fun e=>by have:=HBV.out _ e;omega)))
     have HOLr:=zh (v1l HOL.out (by have:=HBB.out;omega) (fun j e=>(HBV.out j e).2) HFR.out)
     by_cases hkl:k<ps.length
     ·obtain⟨lg,rfl,y0⟩:=v1m HOLr.out hkl
      have b1:(0:Int)≤(k:Int):=by omega
      have b2:(k:Int)<(ps.length:Int):=by omega
      have HPUT:=zh (k9p b 0 v' L' (7500+k) (by have:=HPL.out;omega) HOK.out.1 (by have:=HOK.out.2;omega) ps[k] wr (Nat.zero_le _) HBIN.out)
      have HPD:=zh (v0z hkl L' f)
      have HPC:=zh (v1a ps[k] L')
      have HPO:=zh (z3m (by omega) HOK.out.1 ps[k])
      have HPN:=zh (z3p (s:=ps[k]) HOK.out.1.srt HOK.out.2)
      have HPM:=zh (HMX.out ps[k] (List.getElem_mem hkl))
      have hbz:((bs ps[k]).size:Int)=(ps[k].length:Int):=by rw[Q8]
      have HKL:=zh hkl
      generalize hpk:ps[k]=p at *
      have HPK:=zh hpk
      clear hpk
      obtain⟨L9,hL9⟩:∃L9,L9=(putB p L').1:=⟨_,rfl⟩
      obtain⟨x9,hx9⟩:∃x9,x9=(putB p L').2.1:=⟨_,rfl⟩
      obtain⟨n9,hn9⟩:∃n9,n9=(putB p L').2.2.1:=⟨_,rfl⟩
      obtain⟨cd,hcd⟩:∃cd,cd=(putB p L').2.2.2:=⟨_,rfl⟩
      unfold q0h at HPUT
      rw[←hL9,←hx9,←hn9,←hcd]at HPUT
      rw[←hL9,←hn9,←hcd]at HPD
      rw[←hcd]at HPC
      rw[←hL9]at HPO HPN
      clear hL9 hx9 hn9 hcd
      obtain⟨xa,xb⟩:=x9
      go_wp2_with fail
      refine HPUT.out.mono ?_
      rintro e w9 ⟨v9,rfl,hR9,hvv9,hf9⟩
      have HFR9:=zh (BFrame.trans' HFR.out hf9 HVV.out)
      have HB9:Hid (Below w.heap.size w w9):=zh (HFR9.out.below' HB8.out HB8.out.size (by have:=HBB.out;have:=HM.out;omega) (fun j e=>by have:=HBV.out j e;have:=HM.out;omega))
      by_cases hc0:cd=0
      ·subst hc0
       have HPA9:Hid (K4 ps L0 0=K4 (ps.drop (k+1)) L9 (f+if n9 then(p.length:Int)else 0)):=zh (by rw[HPA.out,HPD.out,if_pos rfl])
       have hba:Below w9.heap.size w9 (w9.alloc (.cells #[.int .u32 (xa:Int),.int .i64 xb] 25)):=(zb _ _).alloc (zl _) _
       have HOLa:=zh (Q4 (v1l HOL.out (by have:=HBB.out;omega) (fun j e=>(HBV.out j e).2) HFR9.out) hba)
       have HBINa:=zh (hR9.below hba)
       have HFRa:=zh (BFrame.trans' HFR9.out (BFrame.of_below (rb:=b) (v:=v9) hba) (by
        rcases hvv9 with h1|h1
        ·rw[h1];exact HVV.out
        ·exact .inr fun j e=>Nat.le_trans HFR.out.size (h1 j e)))
       have HVVa:Hid (v9.ownBlock=v0.ownBlock∨∀j,v9.ownBlock=some j→w8.heap.size≤j):=zh (by
        rcases hvv9 with h1|h1
        ·rw[h1];exact HVV.out
        ·exact .inr fun j e=>Nat.le_trans HFR.out.size (h1 j e))
       obtain⟨lg2,hlg2,y9⟩:=v1m HOLa.out HKL.out
       obtain rfl:lg=lg2:=by injection hlg2 with h;injection h
       replace y9:=y9.trans (congrArg (fun z=>some (VT z)) HPK.out)
       clear hba hf9 hvv9 hR9 HPUT HPD HPC y0 hlg2
       have hkb:k<4000:=by have:=HPL.out;omega
       have hpm:=HPM.out
       have hfb:f≤256000:=by omega
       cases n9 with
       | true=>
        go_wp2
        go_roundg (ps.length-(k+1))
        case measure=>omega
        case rel=>exact⟨k+1,f+(p.length:Int),v9,L9,by go_num,by go_num,hkl,rfl,HPA9,HBINa,HFRa,HVVa,zh ⟨HPO.out.mono (by omega),HPN.out⟩,by omega,by have:=HPM.out;omega⟩
       | false=>
        go_wp2
        go_roundg (ps.length-(k+1))
        case measure=>omega
        case rel=>exact⟨k+1,f,v9,L9,by go_num,rfl,hkl,rfl,zh (by rw[HPA9.out];simp),HBINa,HFRa,HVVa,zh ⟨HPO.out.mono (by omega),HPN.out⟩,by omega,by omega⟩
      ·have hc1:cd>0:=by have:=HPC.out;omega
       have HE2:Hid (putN nm s (J9 E G)=(J9 E G,0,cd)):=zh (by
        have e1:(K4 ps L0 0).2.2=cd:=by rw[HPA.out,HPD.out,if_neg hc0]
        have e2:=HMAIN.out
        rw[e1,if_neg hc0]at e2
        exact e2)
       clear hf9 hvv9 hR9 HPUT HPD HPC y0
       go_wp2
       refine bodyPost_ret (v:= .tuple #[.int .i64 0,.int .i64 cd]) (by simp[results,Tryz.results32,go_sem]) rfl ?_
       exact v1n HN.out HE2.out (HB9.out.alloc HB9.out.size _)
     ·obtain rfl:k=ps.length:=by omega
      obtain⟨at_,hat,h1,h2⟩:=v0r (fun x:Rcp×Value=>bytesBefore x.1.name r.name) E
      have HPF:Hid (K4 ps L0 0=(L',f,0)):=zh (by rw[HPA.out,List.drop_of_length_le (zl _),K4])
      have HNr:=zh (HN.out.below HBr.out)
      have HSLr:=zh ((HRD.out.keep (lo':=w.heap.size) (hi':=wr.heap.size) (fun p h1 h2=>(World.cell?_of_block (HFR.out.block p.block (by have:=HB18.out.size;omega) (by have:=HBB.out;have:=HM.out;omega) (fun e=>by have:=HBV.out _ e;have:=HM.out;omega))).trans (HB18.out.cell h2)) (zl _) (by have:=HB18.out.size;have:=HFR.out.size;omega)).rd)
      have HADD:=zh (k9w n _ _ E G (by omega) r (.slice SA r.ids.length sc) at_ hat h1 h2 wr HNr.out HSLr.out HAP.out)
      have H1:=zh h1
      have H2:=zh h2
      clear h1 h2
      obtain⟨a0,a1,a2,a3,_⟩:=HX4r.out
      obtain⟨z0,z1,_,_⟩:=HX2r.out
      go_wp2_with fail
      refine HADD.out.mono ?_
      rintro e w9 ⟨rfl,v7,hN9,h79,hf9⟩
      have HX29:=zh (v1k HX2r.out (hf9.block _ HX2r.out.lt (by have:=HN.out.nlt;have:=HM.out;omega)))
      have HVL:∀j,v'.ownBlock=some j→w1.heap.size≤j:=fun j e=>by
       rcases HVV.out with h1|h1
       ·have:=HBV.out j (h1▸e);have:=HM.out;omega
       ·have:=h1 j e;have:=HB18.out.size;omega
      have HMID:=v0x (x:=rep) HN.out HBr.out HM.out.1 (by have:=HBB.out;have:=HM.out;omega) HBIN.out HVL HSB.out h79 hf9 (k:=at_) (E:=E)
      have HSET:=zh (v0q n v7 _ ⟨rep,L',b,v'⟩ (insE at_ (r,.slice SA r.ids.length sc) E) G (by omega) HGS.out w9 hN9 HMID.1 HMID.2)
      have HEND:Hid (∀e w',v0k n v7 _ ⟨rep,L',b,v'⟩ (insE at_ (r,.slice SA r.ids.length sc) E) G w9 e w'→_):=zh (fun e w' hS=>v0y HN.out HBr.out HM.out.1 (by have:=HBB.out;have:=HM.out;omega) HVL HSB.out h79 hf9 hat H1.out H2.out HNO.out hS)
      have HRES:Hid (putN nm s (J9 E G)=(⟨Q9 bytesBefore r.name r (E.map fxE),Q9 Q2 rep L' (G.map prG)⟩,f,0)):=zh (by have e2:=HMAIN.out;rw[HPF.out,if_pos rfl]at e2;rw[HRN.out];exact e2)
      obtain⟨z0,z1,_,_⟩:=HX29.out
      clear HMID HVL hN9 h79 hf9
      go_wp2_with fail
      refine HSET.out.mono ?_
      rintro e w10 hS
      have hT:=HEND.out _ _ hS
      obtain rfl:=hS.1
      have HT:=zh hT
      clear hS hT
      go_wp2
      refine bodyPost_ret (v:= .tuple #[.int .i64 f,.int .i64 0]) (by simp[results,Tryz.results32,go_sem]) rfl ?_
      exact⟨by rw[HRES.out],by rw[HRES.out];exact HT.out⟩
   ·rw[hix]
    obtain⟨g,rfl,hg,hcells⟩:=HBX.out (by omega)
    obtain⟨_,_,x2⟩:=hcells k hk
    have c1:=(HB6.out.cell (p:=⟨n,1,none⟩) hnl).trans HN.out.c1
    have y2:=(HB6.out.cell (p:=⟨g,k*3+2,none⟩) hg).trans x2
    have hge:((k:Nat):Int)≥0:=by omega
    have b1:(0:Int)≤(k:Int):=by omega
    have b2:(k:Int)<(G.length:Int):=by omega
    have hbn:binN (J9 E G) rep=G[k].L:=by
     unfold binN
     rw[show(J9 E G).bins=G.map prG from rfl,v0w HGS.out hk (of_decide_eq_true hy)];rfl
    have HL0:=HTB
    rw[hbn]at HL0
    have HMAIN:=zh (HM1'.out _ hbn.symm)
    have HCP:=zh (v0h G[k].rb 0 G[k].v G[k].L (by have:=HL0.out.2.1;omega) w6 ((HN.out.bin _ (List.getElem_mem hk)).below HB6.out))
    have hsz64:w4.heap.size<w6.heap.size:=by have:=HBZ6.out.lt;omega
    clear hix hy hbn x2 hcells
    generalize G[k].L=L0 at *
    generalize G[k].rb=rb at *
    go_wp2_with fail
    refine HCP.out.mono ?_
    rintro e w7 ⟨b,v0,rfl,hR7,hbb7,hb7⟩
    have HR7:=zh hR7
    have HB7:=zh (HB6.out.trans (hb7.mono HB6.out.size))
    have HB17:=zh (HB16.out.trans (hb7.mono HB16.out.size))
    have HX27:=zh (HX26.out.below hb7 HX26.out.lt)
    have HX47:=zh (HX46.out.below hb7 HX46.out.lt)
    have hbb:w4.heap.size<b∧b<w7.heap.size:=⟨by omega,hR7.lt⟩
    have hbv:∀j,v0.ownBlock=some j→w4.heap.size<j∧j<w7.heap.size:=fun j e=>⟨by have:=Y7 hR7.own e;omega,C8 hR7.own e⟩
    clear hR7 hbb7 hb7 y2 HCP hbq
    go_wp2_with fail
    refine(OP.out _).mono ?_
    rintro e w8 ⟨vl,rfl,hol,hb8⟩
    have HB8:=zh (HB7.out.trans (hb8.mono HB7.out.size))
    have HB18:=zh (HB17.out.trans (hb8.mono HB17.out.size))
    have HX28:=zh (HX27.out.below hb8 HX27.out.lt)
    have HX48:=zh (HX47.out.below hb8 HX47.out.lt)
    have HBIN8:=zh (HR7.out.low.below hb8)
    clear hb8
    have HBB:=zh hbb
    have HBV:=zh hbv
    have HOL:=zh hol
    obtain⟨lA,lc,hlf⟩:=J0 hol
    subst hlf
    clear hol hbb hbv
    go_wp2
    go_loopg [13,15] ps.length (fun gh v13 v15 wr=>∃(k:Nat) (f:Int) (v':Value) (L':HldL),v15= .int .i64 k∧v13= .int .i64 f∧k≤ps.length∧gh=ps.length-k∧Hid (K4 ps L0 0=K4 (ps.drop k) L' f)∧Hid (RBin b 0 v' L' wr)∧Hid (BFrame b v0 w8 wr)∧Hid (v'.ownBlock=v0.ownBlock∨∀j,v'.ownBlock=some j→w8.heap.size≤j)∧Hid (BinOk (7500+k) L'∧L'.length≤250)∧0≤f∧f≤64*k)
    case atStart=>exact⟨0,0,v0,L0,rfl,rfl,Nat.zero_le _,rfl,zh (by rw[List.drop_zero]),HBIN8,zh ⟨rfl,rfl,rfl,zl _,fun _ _ _ _=>rfl⟩,zh (.inl rfl),zh (by have:=HL0.out;exact⟨this.1.mono (by omega),this.2.1⟩),by omega,by omega⟩
    case round=>
     obtain⟨k,f,v',L',rfl,rfl,hk,hgm,HPA,HBIN,HFR,HVV,HOK,hf0,hf1⟩:=hrel
     have HBr:Hid (Below w.heap.size w wr):=zh (HFR.out.below' HB8.out HB8.out.size (by have:=HBB.out;have:=HM.out;omega) (fun j e=>by have:=HBV.out j e;have:=HM.out;omega))
     have HX4r:=zh (v1j HX48.out (HFR.out.block _ HX48.out.lt (by have:=HBB.out;have:=HM.out;omega) (fun e=>by have:=HBV.out _ e;have:=HM.out;omega)))
     have HX2r:=zh (v1k HX28.out (HFR.out.block _ HX28.out.lt (by have:=HBB.out;omega) (fun e=>by have:=HBV.out _ e;omega)))
     have HOLr:=zh (v1l HOL.out (by have:=HBB.out;omega) (fun j e=>(HBV.out j e).2) HFR.out)
     by_cases hkl:k<ps.length
     ·obtain⟨lg,rfl,y0⟩:=v1m HOLr.out hkl
      have b1:(0:Int)≤(k:Int):=by omega
      have b2:(k:Int)<(ps.length:Int):=by omega
      have HPUT:=zh (k9p b 0 v' L' (7500+k) (by have:=HPL.out;omega) HOK.out.1 (by have:=HOK.out.2;omega) ps[k] wr (Nat.zero_le _) HBIN.out)
      have HPD:=zh (v0z hkl L' f)
      have HPC:=zh (v1a ps[k] L')
      have HPO:=zh (z3m (by omega) HOK.out.1 ps[k])
      have HPN:=zh (z3p (s:=ps[k]) HOK.out.1.srt HOK.out.2)
      have HPM:=zh (HMX.out ps[k] (List.getElem_mem hkl))
      have hbz:((bs ps[k]).size:Int)=(ps[k].length:Int):=by rw[Q8]
      have HKL:=zh hkl
      generalize hpk:ps[k]=p at *
      have HPK:=zh hpk
      clear hpk
      obtain⟨L9,hL9⟩:∃L9,L9=(putB p L').1:=⟨_,rfl⟩
      obtain⟨x9,hx9⟩:∃x9,x9=(putB p L').2.1:=⟨_,rfl⟩
      obtain⟨n9,hn9⟩:∃n9,n9=(putB p L').2.2.1:=⟨_,rfl⟩
      obtain⟨cd,hcd⟩:∃cd,cd=(putB p L').2.2.2:=⟨_,rfl⟩
      unfold q0h at HPUT
      rw[←hL9,←hx9,←hn9,←hcd]at HPUT
      rw[←hL9,←hn9,←hcd]at HPD
      rw[←hcd]at HPC
      rw[←hL9]at HPO HPN
      clear hL9 hx9 hn9 hcd
      obtain⟨xa,xb⟩:=x9
      go_wp2_with fail
      refine HPUT.out.mono ?_
      rintro e w9 ⟨v9,rfl,hR9,hvv9,hf9⟩
      have HFR9:=zh (BFrame.trans' HFR.out hf9 HVV.out)
      have HB9:Hid (Below w.heap.size w w9):=zh (HFR9.out.below' HB8.out HB8.out.size (by have:=HBB.out;have:=HM.out;omega) (fun j e=>by have:=HBV.out j e;have:=HM.out;omega))
      by_cases hc0:cd=0
      ·subst hc0
       have HPA9:Hid (K4 ps L0 0=K4 (ps.drop (k+1)) L9 (f+if n9 then(p.length:Int)else 0)):=zh (by rw[HPA.out,HPD.out,if_pos rfl])
       have hba:Below w9.heap.size w9 (w9.alloc (.cells #[.int .u32 (xa:Int),.int .i64 xb] 25)):=(zb _ _).alloc (zl _) _
       have HOLa:=zh (Q4 (v1l HOL.out (by have:=HBB.out;omega) (fun j e=>(HBV.out j e).2) HFR9.out) hba)
       have HBINa:=zh (hR9.below hba)
       have HFRa:=zh (BFrame.trans' HFR9.out (BFrame.of_below (rb:=b) (v:=v9) hba) (by
        rcases hvv9 with h1|h1
        ·rw[h1];exact HVV.out
        ·exact .inr fun j e=>Nat.le_trans HFR.out.size (h1 j e)))
       have HVVa:Hid (v9.ownBlock=v0.ownBlock∨∀j,v9.ownBlock=some j→w8.heap.size≤j):=zh (by
        rcases hvv9 with h1|h1
        ·rw[h1];exact HVV.out
        ·exact .inr fun j e=>Nat.le_trans HFR.out.size (h1 j e))
       obtain⟨lg2,hlg2,y9⟩:=v1m HOLa.out HKL.out
       obtain rfl:lg=lg2:=by injection hlg2 with h;injection h
       replace y9:=y9.trans (congrArg (fun z=>some (VT z)) HPK.out)
       clear hba hf9 hvv9 hR9 HPUT HPD HPC y0 hlg2
       have hkb:k<4000:=by have:=HPL.out;omega
       have hpm:=HPM.out
       have hfb:f≤256000:=by omega
       cases n9 with
       | true=>
        go_wp2
        go_roundg (ps.length-(k+1))
        case measure=>omega
        case rel=>exact⟨k+1,f+(p.length:Int),v9,L9,by go_num,by go_num,hkl,rfl,HPA9,HBINa,HFRa,HVVa,zh ⟨HPO.out.mono (by omega),HPN.out⟩,by omega,by have:=HPM.out;omega⟩
       | false=>
        go_wp2
        go_roundg (ps.length-(k+1))
        case measure=>omega
        case rel=>exact⟨k+1,f,v9,L9,by go_num,rfl,hkl,rfl,zh (by rw[HPA9.out];simp),HBINa,HFRa,HVVa,zh ⟨HPO.out.mono (by omega),HPN.out⟩,by omega,by omega⟩
      ·have hc1:cd>0:=by have:=HPC.out;omega
       have HE2:Hid (putN nm s (J9 E G)=(J9 E G,0,cd)):=zh (by
        have e1:(K4 ps L0 0).2.2=cd:=by rw[HPA.out,HPD.out,if_neg hc0]
        have e2:=HMAIN.out
        rw[e1,if_neg hc0]at e2
        exact e2)
       clear hf9 hvv9 hR9 HPUT HPD HPC y0
       go_wp2
       refine bodyPost_ret (v:= .tuple #[.int .i64 0,.int .i64 cd]) (by simp[results,Tryz.results32,go_sem]) rfl ?_
       exact v1n HN.out HE2.out (HB9.out.alloc HB9.out.size _)
     ·obtain rfl:k=ps.length:=by omega
      obtain⟨at_,hat,h1,h2⟩:=v0r (fun x:Rcp×Value=>bytesBefore x.1.name r.name) E
      have HPF:Hid (K4 ps L0 0=(L',f,0)):=zh (by rw[HPA.out,List.drop_of_length_le (zl _),K4])
      have HNr:=zh (HN.out.below HBr.out)
      have HSLr:=zh ((HRD.out.keep (lo':=w.heap.size) (hi':=wr.heap.size) (fun p h1 h2=>(World.cell?_of_block (HFR.out.block p.block (by have:=HB18.out.size;omega) (by have:=HBB.out;have:=HM.out;omega) (fun e=>by have:=HBV.out _ e;have:=HM.out;omega))).trans (HB18.out.cell h2)) (zl _) (by have:=HB18.out.size;have:=HFR.out.size;omega)).rd)
      have HADD:=zh (k9w n _ _ E G (by omega) r (.slice SA r.ids.length sc) at_ hat h1 h2 wr HNr.out HSLr.out HAP.out)
      have H1:=zh h1
      have H2:=zh h2
      clear h1 h2
      obtain⟨a0,a1,a2,a3,_⟩:=HX4r.out
      obtain⟨z0,z1,_,_⟩:=HX2r.out
      go_wp2_with fail
      refine HADD.out.mono ?_
      rintro e w9 ⟨rfl,v7,hN9,h79,hf9⟩
      have HX29:=zh (v1k HX2r.out (hf9.block _ HX2r.out.lt (by have:=HN.out.nlt;have:=HM.out;omega)))
      have HVL:∀j,v'.ownBlock=some j→w1.heap.size≤j:=fun j e=>by
       rcases HVV.out with h1|h1
       ·have:=HBV.out j (h1▸e);have:=HM.out;omega
       ·have:=h1 j e;have:=HB18.out.size;omega
      have HMID:=v0x (x:=rep) HN.out HBr.out HM.out.1 (by have:=HBB.out;have:=HM.out;omega) HBIN.out HVL HSB.out h79 hf9 (k:=at_) (E:=E)
      have HSET:=zh (v0q n v7 _ ⟨rep,L',b,v'⟩ (insE at_ (r,.slice SA r.ids.length sc) E) G (by omega) HGS.out w9 hN9 HMID.1 HMID.2)
      have HEND:Hid (∀e w',v0k n v7 _ ⟨rep,L',b,v'⟩ (insE at_ (r,.slice SA r.ids.length sc) E) G w9 e w'→_):=zh (fun e w' hS=>v0y HN.out HBr.out HM.out.1 (by have:=HBB.out;have:=HM.out;omega) HVL HSB.out h79 hf9 hat H1.out H2.out HNO.out hS)
      have HRES:Hid (putN nm s (J9 E G)=(⟨Q9 bytesBefore r.name r (E.map fxE),Q9 Q2 rep L' (G.map prG)⟩,f,0)):=zh (by have e2:=HMAIN.out;rw[HPF.out,if_pos rfl]at e2;rw[HRN.out];exact e2)
      obtain⟨z0,z1,_,_⟩:=HX29.out
      clear HMID HVL hN9 h79 hf9
      go_wp2_with fail
      refine HSET.out.mono ?_
      rintro e w10 hS
      have hT:=HEND.out _ _ hS
      obtain rfl:=hS.1
      have HT:=zh hT
      clear hS hT
      go_wp2
      refine bodyPost_ret (v:= .tuple #[.int .i64 f,.int .i64 0]) (by simp[results,Tryz.results32,go_sem]) rfl ?_
      exact⟨by rw[HRES.out],by rw[HRES.out];exact HT.out⟩
end Go.Proofs.YtdmlghfggninbaaGreatDoor
