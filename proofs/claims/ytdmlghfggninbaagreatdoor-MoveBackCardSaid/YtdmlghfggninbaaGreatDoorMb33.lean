/- MvH, MvI in one text. Conditions: as each part says. -/
import Derived.Test.YtdmlghfggninbaaGreatDoorMb23
import Derived.Test.YtdmlghfggninbaaGreatDoorMb29
import Derived.Test.YtdmlghfggninbaaGreatDoorMb22
set_option linter.unusedVariables false
set_option linter.unusedSimpArgs false
set_option maxRecDepth 100000
namespace Go.Proofs.YtdmlghfggninbaaGreatDoor
open Go.RowKit Go.Lib Go.Maps Go.WideMaps
theorem ND.n2{base n m o:Nat}{P P' Q:PNode}{T f g r:Foot}{w w2 wr:World}(H:N2 base n o P Q T g w w2)(h:ND T n m P' P' f r w2 wr):N2 base n o P' Q f g w wr:=
 have hb:Below base w wr:=h.bel.below H.l.bel H.l.sz H.l.ge
 have hz:base≤wr.heap.size:=Nat.le_trans H.l.sz h.bel.size
 ⟨⟨h.node,fun k hk=>((h.ge k).1 hk).elim (H.l.ge k) (fun hB=>Nat.le_trans H.l.sz hB),hb,hz⟩,⟨Thing.far H.r.node h.bel H.ap,H.r.ge,hb,hz⟩,H.ap.step h.ge H.r.node.lt⟩
theorem MvW.of{a:Nat→Addr}{w:World}(h:Sents a w)(hr:RcW a w):MvW a w:=⟨hr,h.someS [0,1,2,3,4,5,6,7,8,10] (by decide)⟩
theorem v3d(w:World)(e:TypeId)(s:ByteArray)(j:Nat)(hj:j<s.size):(Lib.bytesWorld w e s).frozen? ⟨w.heap.size,j,none⟩=false:=by
 have h:=Lib.bytesWorld_at_new w e s
 have hc:=Lib.bytesWorld_cell w e s j hj
 have hs:j<(Lib.bytesCells w e s).size:=by
  unfold World.cell? at hc
  simp only[h]at hc
  rcases Nat.lt_or_ge j (Lib.bytesCells w e s).size with h1|h1
  ·exact h1
  ·simp[Array.getElem?_eq_none h1]at hc
 unfold World.frozen?
 rw[h]
 simp
 omega
theorem v3e{w:World}{base:Nat}{A:Option Addr}{c k:Nat}{L:List Bytes}{nm:Bytes}(h:w.ownsRow base 9 1 (.slice A L.length c) L.length (L.map VT))(hx:L[k]? =some nm):∃g,A=some ⟨g,0,none⟩∧w.cell? ⟨g,k,none⟩=some (VT nm):=by
 obtain⟨hk,_⟩:=List.getElem?_eq_some_iff.1 hx
 obtain⟨A',c',hv,_,hr⟩:=V7 h
 obtain⟨g,hA,_,_,hcell⟩:=hr (by omega)
 injection hv with e1
 exact⟨g,e1.trans hA,hcell k _ (by rw[List.getElem?_map,hx];rfl)⟩
theorem v3f{P:PNode}(h:NodeOk P){x:Idn}{L:HldL}(hg:Q1 P.bins x=some L)(hl:(outN P x).1.length≤40000):inN (outN P x).1 (subN P x L)=(subN P x L,[],6):=by
 rw[k9a hg]at hl ⊢
 have h8:(hex8 (prOf (V0 P x L))).length=8:=X8 _ _
 rw[List.length_append,h8]at hl
 unfold inN
 rw[k0d h hg hl]
 exact k1j h hg
theorem v3g{P:PNode}{x:Idn}{L:HldL}(hg:Q1 P.bins x=some L){i:Nat}(hi:i+8<(outN P x).1.length){c:UInt8}(hc:(outN P x).1[i]'(by omega)≠c)(Q:PNode):∃d,inN ((outN P x).1.set i c) Q=(Q,[],d)∧d≠0:=by
 have e:(outN P x).1=V0 P x L++hex8 (prOf (V0 P x L)):=by rw[k9a hg]
 have h8:(hex8 (prOf (V0 P x L))).length=8:=X8 _ _
 have hb:i<(V0 P x L).length:=by rw[e,List.length_append,h8]at hi;omega
 have hc2:(V0 P x L)[i]≠c:=fun h=>hc (by simp only[e];rw[List.getElem_append_left hb];exact h)
 rw[e]
 exact k1g hb hc2 Q
theorem v3h{P:PNode}(h:NodeOk P){j:Nat}(hj:j<(U0 P).length):∃x L,(U0 P)[j]? =some x∧Q1 P.bins x=some L:=by
 have hb:j<P.bins.length:=by
  have:(U0 P).length=P.bins.length:=List.length_map ..
  omega
 refine⟨P.bins[j].1,P.bins[j].2,?_,h.binK hb⟩
 unfold U0
 rw[List.getElem?_map,List.getElem?_eq_getElem hb];rfl
theorem v3i{w:World}{base:Nat}{A:Option Addr}{c j:Nat}{L:IdL}{x:Idn}(h:w.ownsRow base 25 2 (.slice A L.length c) L.length (U4 L))(hx:L[j]? =some x):∃g o,A=some ⟨g,o,none⟩∧w.cell? ⟨g,o+j*2,none⟩=some (.int .u32 (x.1:Int))∧w.cell? ⟨g,o+j*2+1,none⟩=some (.int .i64 x.2):=by
 obtain⟨hj,rfl⟩:=List.getElem?_eq_some_iff.1 hx
 obtain⟨A',c',hv,_,_,hr⟩:RdI w w.heap.size (.slice A L.length c) L:=RdI.own h rfl
 obtain⟨g,o,hA,_,hcell⟩:=hr (by omega)
 injection hv with e1
 refine⟨g,o,e1.trans hA,?_,?_⟩
 ·have:=hcell (j*2+0) _ (by rw[z8q L j hj 0 (by decide)];rfl)
  rwa [Nat.add_zero]at this
 ·have:=hcell (j*2+1) _ (by rw[z8q L j hj 1 (by decide)];rfl)
  rwa [←Nat.add_assoc]at this
theorem v3j(a:Nat→Addr)(v:Value)(l:List ActN)(hl:l.length≤maxLen)(hz:∀x∈l,x.kind.length≤maxLen∧x.nm.length≤maxLen∧x.s.length≤maxLen)(at_ spot:Int)(c:Nat)(hlong:j7w l 40=1)(w:World)(hv:ActNRd w w.heap.size v l)(h:Sents a w)(hr:RcW a w) :
  Calls Tryz.prog 5 #[v,.int .i64 at_,.int .i64 spot,.int .u8 c] w fun e w'=>e= .returned (.bool true)∧Below w.heap.size w w':=by
 have HB:=zh (k9g a w (MvW.of h hr) (h.someS [9] (by decide)))
 have HLA:=zh (fun w1 (hb:Below w.heap.size w w1)=>j8b v l hl hz 40 (by decide) _ w1 (hv.below hb))
 have HLG:=zh hlong
 clear h hr hv hlong
 go_enter Tryz.func5,Tryz.ntmps5
 go_wp2_with fail
 refine HB.out.mono ?_
 rintro e w1 ⟨rfl,hb1⟩
 have HB1:=zh hb1
 clear hb1
 go_wp2_with fail
 refine(HLA.out w1 HB1.out).mono ?_
 rintro e w2 ⟨rfl,rfl⟩
 rw[HLG.out]
 go_wp2
 go_ret
 exact⟨rfl,HB1.out⟩
set_option maxHeartbeats 16000000 in
theorem v3k(a:Nat→Addr)(v:Value)(l:List ActN)(hl:l.length≤maxLen)(hz:∀x∈l,x.kind.length≤maxLen∧x.nm.length≤maxLen∧x.s.length≤maxLen)(at_ spot:Int)(ha1: -9223372036854775808≤at_)(ha2:at_≤9223372036854775807)(hs1: -9223372036854775808≤spot)(hs2:spot≤9223372036854775807)(cx:UInt8)(hlong:j7w l 40=0)(w:World)(hv:ActNRd w w.heap.size v l)(h:Sents a w)(hr:RcW a w) :
  Calls Tryz.prog 5 #[v,.int .i64 at_,.int .i64 spot,.int .u8 (cx.toNat:Int)] w fun e w'=>e= .returned (.bool true)∧Below w.heap.size w w':=by
 obtain⟨hl40,hx40⟩:=j7z hlong
 have HB:=zh (k9g a w (MvW.of h hr) (h.someS [9] (by decide)))
 have HLA:=zh (fun w1 (hb:Below w.heap.size w w1)=>j8b v l hl hz 40 (by decide) _ w1 (hv.below hb))
 have HLG:=zh hlong
 have HS:Hid (∀w',Below w.heap.size w w'→Sents a w'):=zh fun w' hb=>h.below hb
 have HMW:Hid (∀w',Below w.heap.size w w'→MvW a w'):=zh fun w' hb=>(MvW.of h hr).below hb
 have HXL:=zh hx40
 obtain⟨A,c,rfl,hlc,hx⟩:=hv
 have HX:=zh hx
 clear h hr hlong hx hx40 hz
 go_enter Tryz.func5,Tryz.ntmps5
 go_wp2_with fail
 refine HB.out.mono ?_
 rintro e w1 ⟨rfl,hb1⟩
 have HB1:=zh hb1
 clear hb1 HB
 go_wp2_with fail
 refine(HLA.out w1 HB1.out).mono ?_
 rintro e w1' ⟨rfl,rfl⟩
 rw[HLG.out]
 clear HLA
 go_wp2_with fail
 refine(j3a w1).mono ?_
 rintro e w2 ⟨n,f,rfl,hn,hge,hb2⟩
 have H2:=zh (NIn.new (base:=w.heap.size) (w0:=w) hn (fun k hk=>Nat.le_trans HB1.out.size (hge k hk)) (HB1.out.trans (hb2.mono HB1.out.size)) (Nat.le_trans HB1.out.size hb2.size))
 clear hn hge hb2
 go_wp2_with fail
 refine(j3a w2).mono ?_
 rintro e w3 ⟨o,g,rfl,hn,hge,hb3⟩
 have H3:=zh (N2.new H2.out hn hge hb3)
 clear hn hge hb3
 obtain⟨r0,h4⟩:=ND.new (T:=f) (w0:=w3) H3.out.l.node (Foot.new_refl _ _) (FrS.refl _ _)
 have H4:=zh h4
 clear h4
 go_wp2
 generalize hm:w3.heap.size=m at *
 clear hm
 generalize w3.alloc (.cells #[.slice none 0 0,.slice none 0 0] 34)=w4 at *
 go_loopg [13] l.length (fun gh v13 wr=>∃(k:Nat) (P:PNode) (f' r:Foot),v13= .int .i64 k∧k≤l.length∧gh=l.length-k∧Hid (NodeOk P)∧Hid (ND f n m P P f' r w3 wr))
 case atStart=>exact⟨0,⟨[],[]⟩,f,r0,rfl,Nat.zero_le _,rfl,zh NodeOk.nil,H4⟩
 case round=>
  obtain⟨k,P,f',r,rfl,hk,hgm,OK,H⟩:=hrel
  have HN:=zh (ND.n2 H3.out H.out)
  by_cases hkl:k<l.length
  ·obtain⟨ga,o',rfl,hg,hcells⟩:=HX.out (by omega)
   obtain⟨c0,c1,c2⟩:=hcells k hkl
   have b1:(0:Int)≤(k:Int):=by omega
   have b2:(k:Int)<(l.length:Int):=by omega
   have hxl:=HXL.out l[k] (List.getElem_mem hkl)
   have HBW:=zh HN.out.l.bel
   have d0:=(HBW.out.cell (p:=⟨ga,o'+k*3,none⟩) hg).trans c0
   have d1:=(HBW.out.cell (p:=⟨ga,o'+k*3+1,none⟩) hg).trans c1
   have d2:=(HBW.out.cell (p:=⟨ga,o'+k*3+2,none⟩) hg).trans c2
   have HDO:=zh (v3c a OK.out l[k] ⟨hxl.2.1,by have:=hxl.2.2;omega⟩ wr H.out (fun w' hb=>HS.out w' (hb.below H3.out.l.bel H3.out.l.sz H3.out.l.ge)))
   have OK':=zh (OK.out.doN l[k])
   generalize doN l[k] P=P' at *
   generalize l[k].kind=KD at *
   generalize l[k].nm=NM at *
   generalize l[k].s=SX at *
   unfold v3b at HDO
   clear hcells c0 c1 c2 hxl
   go_wp2_with fail
   refine HDO.out.mono ?_
   rintro e w5 ⟨rfl,f5,r5,h5⟩
   have H5:=zh h5
   clear h5 HDO
   go_wp2
   go_roundg (l.length-(k+1))
   case measure=>omega
   case rel=>exact⟨k+1,P',f5,r5,by go_num,hkl,rfl,OK',H5⟩
  ·obtain rfl:k=l.length:=by omega
   have HRP:=zh (Node.repsC OK.out wr HN.out.l.node)
   have hbl:=OK.out.blen
   have hfl:=OK.out.flen
   have hrl:(U0 P).length=P.bins.length:=List.length_map ..
   have hrp:(U0 P).length≤30:=by omega
   clear hrl
   clear hk hgm
   go_wp2_with fail
   refine HRP.out.mono ?_
   rintro e w5 ⟨v5,rfl,hr5,hb5⟩
   have H5:=zh (HN.out.below hb5)
   obtain⟨A5,c5,hv5⟩:∃A c,v5= .slice A (U0 P).length c:=by
    obtain⟨A,c,h,_⟩:RdI w5 w5.heap.size v5 (U0 P):=RdC.ownP hr5
    exact⟨A,c,h⟩
   have HR5:=zh hr5
   clear hr5 hb5 HRP H HN
   subst hv5
   by_cases hneg:at_<0
   ·go_wp2
    go_ret
    exact⟨rfl,H5.out.l.bel⟩
   ·by_cases hge:at_≥((U0 P).length:Int)
    ·go_wp2
     go_ret
     exact⟨rfl,H5.out.l.bel⟩
    ·obtain⟨j,rfl⟩:∃j:Nat,at_=(j:Int):=⟨at_.toNat,by omega⟩
     have hj:j<(U0 P).length:=by omega
     have HJ:=zh hj
     obtain⟨x,L,hxj,hgx⟩:=v3h OK.out hj
     obtain⟨gr,orr,rfl,x0,x1⟩:=v3i HR5.out hxj
     have HXJ:=zh hxj
     have hix:=(OK.out.bin _ _ hgx).1.1
     have HGX:=zh hgx
     have HOS:=zh (k9a hgx)
     have HIX:=zh hix
     have HOU:=zh (k0z a OK.out x hix w5 H5.out.l.node ((HMW.out w5 H5.out.l.bel).s.sub (by decide)) (HMW.out w5 H5.out.l.bel).r.t)
     have HZ0:Hid ((outN P x).2=0):=zh (by rw[HOS.out])
     unfold k0w at HOU
     have b1:(0:Int)≤(j:Int):=by omega
     have b2:(j:Int)<((U0 P).length:Int):=by omega
     clear hgx hix hxj hj hneg hge
     go_wp2_with fail
     refine HOU.out.mono ?_
     rintro e w6 ⟨r6,rfl,hes6,hb6⟩
     obtain⟨rfl,_⟩:=hes6.nil HZ0.out
     have H6:=zh (H5.out.below hb6)
     have HR6:=zh (Q4 HR5.out hb6)
     have hsz:((bs (outN P x).1).size:Int)=((outN P x).1.length:Int):=by rw[Q8]
     clear hes6 hb6 HOU x0 x1
     by_cases hbig:40000<(outN P x).1.length
     ·have hb:((bs (outN P x).1).size:Int)>40000:=by omega
      clear hbig hsz
      go_wp2
      go_ret
      exact⟨rfl,H6.out.l.bel⟩
     ·have hb:¬((bs (outN P x).1).size:Int)>40000:=by omega
      have hlen:(outN P x).1.length≤40000:=by omega
      have HOI:=zh (k9b OK.out HGX.out hlen)
      have OKQ:=zh (OK.out.sub HGX.out)
      have HOG:=zh (v3f OK.out HGX.out hlen)
      have hn30:=k0v OK.out x
      have hne:(ofN P x).length≠0:=by
       rw[j9q]
       exact fun e=>(k0o OK.out HGX.out).2 (List.length_eq_zero_iff.1 e)
      have hH6:=H6
      have Hw6:=H6
      have HRw6:=HR6
      clear hbig
      by_cases hsp:spot<0
      ·have hsp2:¬spot≥0:=by omega
       have HIN:=zh (k8z a NodeOk.nil (outN P x).1 (by omega) w6 Hw6.out.r.node (HMW.out w6 Hw6.out.l.bel))
       rw[HOI.out]at HIN
       go_wp2_with fail
       refine HIN.out.mono ?_
       rintro e w7 ⟨v7,r7,rfl,hown7,hes7,ht7⟩
       obtain⟨rfl,_⟩:=hes7.nil rfl
       obtain⟨g7,h7,hF7⟩:=Hw6.out.right ht7
       have H7:=zh h7
       have HR7:=zh (Hw6.out.r.node.rowS hF7 HRw6.out)
       obtain⟨A7,c7,hv7⟩:∃A c,v7= .slice A (ofN P x).length c:=by obtain⟨A,c,h,_⟩:=V7 hown7;exact⟨A,c,h⟩
       subst hv7
       have HO7:=zh hown7
       have HSC:=zh (k8m a OKQ.out w7 h7.r.node ((HS.out w7 h7.l.bel).someS [1,2,3,4,6,7,8,10] (by decide)))
       have hne2:((ofN P x).length:Int)≠0:=by omega
       have hne3:(((ofN P x).length:Int)==0)=false:=beq_eq_false_iff_ne.2 hne2
       clear hown7 hes7 ht7 h7 hF7 HIN hne2
       go_wp2_with fail
       refine HSC.out.mono ?_
       rintro e w8 ⟨rfl,hb8⟩
       have H8:=zh (H7.out.below hb8)
       have HR8:=zh (Q4 HR7.out hb8)
       have HO8:=zh (Q4 HO7.out hb8)
       clear hb8 hne3 HSC
       go_wp2
       go_loopg [21] (ofN P x).length (fun gh v21 wr=>∃k:Nat,v21= .int .i64 k∧k≤(ofN P x).length∧gh=(ofN P x).length-k∧Hid (Below w8.heap.size w8 wr))
       case atStart=>exact⟨0,rfl,Nat.zero_le _,rfl,zh (zb _ _)⟩
       case round=>
        obtain⟨k,rfl,hk,hgm,HB⟩:=hrel
        have HN:=zh (H8.out.below HB.out)
        have HRr:=zh (Q4 HR8.out HB.out)
        have HOr:=zh (Q4 HO8.out HB.out)
        by_cases hkl:k<(ofN P x).length
        ·obtain⟨nm,hnm⟩:∃nm,(ofN P x)[k]? =some nm:=⟨_,List.getElem?_eq_getElem hkl⟩
         have hmem:=List.mem_of_getElem? hnm
         obtain⟨ga,rfl,x0⟩:=v3e HOr.out hnm
         obtain⟨gs,gz⟩:=k1h OK.out HGX.out hmem
         have hso:X6 nm:=by have:=j7b OK.out hmem;unfold X6 maxLen;omega
         have HG1:=zh (Node.getC a OK.out nm hso wr HN.out.l.node ((HS.out wr HN.out.l.bel).someS [1,2,3,4,6,8] (by decide)))
         have HG2:=zh (fun w' (h:N2 w.heap.size n o P (subN P x L) f' g7 w w')=>Node.getC a OKQ.out nm hso w' h.r.node ((HS.out w' h.r.bel).someS [1,2,3,4,6,8] (by decide)))
         rw[gs]at HG2
         have HGZ:=zh gz
         unfold j5c at HG1 HG2
         generalize getN nm P=GN at *
         have b1:(0:Int)≤(k:Int):=by omega
         have b2:(k:Int)<((ofN P x).length:Int):=by omega
         clear hnm hmem gs gz hso
         go_wp2_with fail
         refine HG1.out.mono ?_
         rintro e w9 ⟨r9,rfl,hes9,hb9⟩
         obtain⟨rfl,_⟩:=hes9.nil HGZ.out
         have H9:=zh (HN.out.below hb9)
         have HB9:=zh (HB.out.trans (hb9.mono HB.out.size))
         have x1:=(hb9.cell (p:=⟨ga,k,none⟩) (World.block_lt_of_cell? wr _ x0)).trans x0
         clear hes9 hb9 x0 HG1
         go_wp2_with fail
         refine(HG2.out w9 H9.out).mono ?_
         rintro e w10 ⟨r10,rfl,hes10,hb10⟩
         obtain⟨rfl,_⟩:=hes10.nil HGZ.out
         have HB10:=zh (HB9.out.trans (hb10.mono HB9.out.size))
         clear hes10 hb10 x1 HG2
         go_wp2
         go_roundg ((ofN P x).length-(k+1))
         case measure=>omega
         case rel=>exact⟨k+1,by go_num,hkl,rfl,HB10⟩
        ·obtain rfl:k=(ofN P x).length:=by omega
         have HI2:=zh (k8z a OKQ.out (outN P x).1 (by omega) wr HN.out.r.node (HMW.out wr HN.out.l.bel))
         rw[HOG.out]at HI2
         clear hk hgm hkl
         go_wp2_with fail
         refine HI2.out.mono ?_
         rintro e w11 ⟨v11,r11,rfl,hown,hes,ht⟩
         obtain⟨g11,h11,hF11⟩:=HN.out.right ht
         have H11:=zh h11
         have HR11:=zh (HN.out.r.node.rowS hF11 HRr.out)
         have HO11:=zh (HN.out.r.node.rowS hF11 HOr.out)
         obtain⟨A11,c11,hv11⟩:∃A c,v11= .slice A 0 c:=by obtain⟨A,c,h,_⟩:=V7 hown;exact⟨A,c,h⟩
         subst hv11
         have HCD:=zh (v3a a r11 6 w11 (HS.out w11 h11.l.bel) hes)
         clear hown hes ht h11 hF11 HI2
         go_wp2_with fail
         refine HCD.out.mono ?_
         rintro e w12 ⟨rfl,hb12⟩
         have H12:=zh (H11.out.below hb12)
         have HR12:=zh (Q4 HR11.out hb12)
         have HO12:=zh (Q4 HO11.out hb12)
         have HNM:=zh (Node.namesC OK.out w12 H12.out.l.node)
         clear hb12 HCD
         go_wp2_with fail
         refine HNM.out.mono ?_
         rintro e w13 ⟨v13,rfl,hown,hb13⟩
         obtain⟨A13,c13,hv13⟩:∃A c,v13= .slice A (J4 P).length c:=by obtain⟨A,c,h,_⟩:=V7 hown;exact⟨A,c,h⟩
         subst hv13
         have H13:=zh (H12.out.below hb13)
         have HR13:=zh (Q4 HR12.out hb13)
         have HO13:=zh (Q4 HO12.out hb13)
         obtain⟨gq,oq,hAq,x0,x1⟩:=v3i HR13.out HXJ.out
         injection hAq with hAq
         injection hAq with e1 e2
         subst e1;subst e2
         have HAW:=zh (k1d a OK.out x HIX.out w13 H13.out.l.node (fun w' hF=>(HS.out w' (hF.below H13.out.l.bel H13.out.l.sz H13.out.l.ge)).someS [4,10] (by decide)))
         rw[k1v HGX.out]at HAW
         clear hown hb13 HNM
         go_wp2_with fail
         refine HAW.out.mono ?_
         rintro e w14 ⟨v14,r14,rfl,hown,hes,ht⟩
         obtain⟨rfl,_⟩:=hes.nil rfl
         obtain⟨f14,h14,hF14⟩:=H13.out.left ht
         have H14:=zh h14
         obtain⟨A14,c14,hv14⟩:∃A c,v14= .slice A (ofN P x).length c:=by obtain⟨A,c,h,_⟩:=V7 hown;exact⟨A,c,h⟩
         subst hv14
         have HST:=zh (q9y _ _ (ofN P x) (ofN P x) w14.heap.size w14 (k8y hown (by rw[List.length_map])) (k8y (H13.out.l.node.rowS hF14 HO13.out) (by rw[List.length_map])) (by omega) (by omega))
         have OKA:=zh (OK.out.awayK x (ofN P x).length)
         have hq1:=k1o OK.out x
         have hq2:=k1u OK.out HGX.out
         have hdd:decide (ofN P x=ofN P x)=true:=by simp
         have hnp:(J4 P).length≤30:=by have:(J4 P).length=P.files.length:=List.length_map ..;omega
         rw[hdd]at HST
         generalize awayK x P (ofN P x).length=Q at *
         clear hown hes ht h14 hF14 HAW x0 x1 hdd
         go_wp2_with fail
         refine HST.out.mono ?_
         rintro e w15 ⟨rfl,kq,rfl⟩
         have H15:=zh (H14.out.below (V3 (zb _ w14) kq))
         generalize w14.drewN kq=w15 at *
         have HN2:=zh (Node.namesC OKA.out w15 H15.out.l.node)
         clear HST
         go_wp2_with fail
         refine HN2.out.mono ?_
         rintro e w16 ⟨v16,rfl,hown,hb16⟩
         obtain⟨A16,c16,hv16⟩:∃A c,v16= .slice A (J4 Q).length c:=by obtain⟨A,c,h,_⟩:=V7 hown;exact⟨A,c,h⟩
         subst hv16
         have H16:=zh (H15.out.below hb16)
         have HSC:=zh (k8m a OKA.out w16 H16.out.l.node ((HS.out w16 H16.out.l.bel).someS [1,2,3,4,6,7,8,10] (by decide)))
         have hqi:((J4 Q).length:Int)=((J4 P).length:Int)-((ofN P x).length:Int):=by omega
         have hqb:(((J4 Q).length:Int)==((J4 P).length:Int)-((ofN P x).length:Int))=true:=by rw[hqi];exact beq_self_eq_true _
         clear hown hb16 HN2 hqi
         go_wp2_with fail
         refine HSC.out.mono ?_
         rintro e w17 ⟨rfl,hb17⟩
         have H17:=zh (H16.out.below hb17)
         have HRQ:=zh (Node.repsC OKA.out w17 H17.out.l.node)
         clear hb17 HSC
         go_wp2_with fail
         refine HRQ.out.mono ?_
         rintro e w18 ⟨v18,rfl,hr18,hb18⟩
         obtain⟨A18,c18,hv18⟩:∃A c,v18= .slice A (U0 Q).length c:=by
          obtain⟨A,c,h,_⟩:RdI w18 w18.heap.size v18 (U0 Q):=RdI.own hr18 rfl
          exact⟨A,c,h⟩
         subst hv18
         have H18:=zh (H17.out.below hb18)
         have hqr:((U0 Q).length:Int)=((U0 P).length:Int)-1:=by omega
         have hqd:(((U0 Q).length:Int)==((U0 P).length:Int)-1)=true:=by rw[hqr];exact beq_self_eq_true _
         clear hr18 hb18 HRQ hqr
         go_wp2
         go_ret
         exact⟨rfl,H18.out.l.bel⟩
      ·have hsp2:spot≥0:=by omega
       by_cases hin:spot<((bs (outN P x).1).size:Int)-8
       ·obtain⟨i,rfl⟩:∃i:Nat,spot=(i:Int):=⟨spot.toNat,by omega⟩
        have hi:i<(bs (outN P x).1).size:=by omega
        have b3:(0:Int)≤(i:Int):=by omega
        have b4:(i:Int)<((bs (outN P x).1).size:Int):=by omega
        by_cases hx:(bs (outN P x).1)[i]=cx
        ·have hq2:((((bs (outN P x).1)[i].toNat:Nat):Int)==(cx.toNat:Int))=true:=by rw[hx];simp
         clear hx
         have HIN:=zh (k8z a NodeOk.nil (outN P x).1 (by omega) w6 Hw6.out.r.node (HMW.out w6 Hw6.out.l.bel))
         rw[HOI.out]at HIN
         go_wp2_with fail
         refine HIN.out.mono ?_
         rintro e w7 ⟨v7,r7,rfl,hown7,hes7,ht7⟩
         obtain⟨rfl,_⟩:=hes7.nil rfl
         obtain⟨g7,h7,hF7⟩:=Hw6.out.right ht7
         have H7:=zh h7
         have HR7:=zh (Hw6.out.r.node.rowS hF7 HRw6.out)
         obtain⟨A7,c7,hv7⟩:∃A c,v7= .slice A (ofN P x).length c:=by obtain⟨A,c,h,_⟩:=V7 hown7;exact⟨A,c,h⟩
         subst hv7
         have HO7:=zh hown7
         have HSC:=zh (k8m a OKQ.out w7 h7.r.node ((HS.out w7 h7.l.bel).someS [1,2,3,4,6,7,8,10] (by decide)))
         have hne2:((ofN P x).length:Int)≠0:=by omega
         have hne3:(((ofN P x).length:Int)==0)=false:=beq_eq_false_iff_ne.2 hne2
         clear hown7 hes7 ht7 h7 hF7 HIN hne2
         go_wp2_with fail
         refine HSC.out.mono ?_
         rintro e w8 ⟨rfl,hb8⟩
         have H8:=zh (H7.out.below hb8)
         have HR8:=zh (Q4 HR7.out hb8)
         have HO8:=zh (Q4 HO7.out hb8)
         clear hb8 hne3 HSC
         go_wp2
         go_loopg [21] (ofN P x).length (fun gh v21 wr=>∃k:Nat,v21= .int .i64 k∧k≤(ofN P x).length∧gh=(ofN P x).length-k∧Hid (Below w8.heap.size w8 wr))
         case atStart=>exact⟨0,rfl,Nat.zero_le _,rfl,zh (zb _ _)⟩
         case round=>
          obtain⟨k,rfl,hk,hgm,HB⟩:=hrel
          have HN:=zh (H8.out.below HB.out)
          have HRr:=zh (Q4 HR8.out HB.out)
          have HOr:=zh (Q4 HO8.out HB.out)
          by_cases hkl:k<(ofN P x).length
          ·obtain⟨nm,hnm⟩:∃nm,(ofN P x)[k]? =some nm:=⟨_,List.getElem?_eq_getElem hkl⟩
           have hmem:=List.mem_of_getElem? hnm
           obtain⟨ga,rfl,x0⟩:=v3e HOr.out hnm
           obtain⟨gs,gz⟩:=k1h OK.out HGX.out hmem
           have hso:X6 nm:=by have:=j7b OK.out hmem;unfold X6 maxLen;omega
           have HG1:=zh (Node.getC a OK.out nm hso wr HN.out.l.node ((HS.out wr HN.out.l.bel).someS [1,2,3,4,6,8] (by decide)))
           have HG2:=zh (fun w' (h:N2 w.heap.size n o P (subN P x L) f' g7 w w')=>Node.getC a OKQ.out nm hso w' h.r.node ((HS.out w' h.r.bel).someS [1,2,3,4,6,8] (by decide)))
           rw[gs]at HG2
           have HGZ:=zh gz
           unfold j5c at HG1 HG2
           generalize getN nm P=GN at *
           have b1:(0:Int)≤(k:Int):=by omega
           have b2:(k:Int)<((ofN P x).length:Int):=by omega
           clear hnm hmem gs gz hso
           go_wp2_with fail
           refine HG1.out.mono ?_
           rintro e w9 ⟨r9,rfl,hes9,hb9⟩
           obtain⟨rfl,_⟩:=hes9.nil HGZ.out
           have H9:=zh (HN.out.below hb9)
           have HB9:=zh (HB.out.trans (hb9.mono HB.out.size))
           have x1:=(hb9.cell (p:=⟨ga,k,none⟩) (World.block_lt_of_cell? wr _ x0)).trans x0
           clear hes9 hb9 x0 HG1
           go_wp2_with fail
           refine(HG2.out w9 H9.out).mono ?_
           rintro e w10 ⟨r10,rfl,hes10,hb10⟩
           obtain⟨rfl,_⟩:=hes10.nil HGZ.out
           have HB10:=zh (HB9.out.trans (hb10.mono HB9.out.size))
           clear hes10 hb10 x1 HG2
           go_wp2
           go_roundg ((ofN P x).length-(k+1))
           case measure=>omega
           case rel=>exact⟨k+1,by go_num,hkl,rfl,HB10⟩
          ·obtain rfl:k=(ofN P x).length:=by omega
           have HI2:=zh (k8z a OKQ.out (outN P x).1 (by omega) wr HN.out.r.node (HMW.out wr HN.out.l.bel))
           rw[HOG.out]at HI2
           clear hk hgm hkl
           go_wp2_with fail
           refine HI2.out.mono ?_
           rintro e w11 ⟨v11,r11,rfl,hown,hes,ht⟩
           obtain⟨g11,h11,hF11⟩:=HN.out.right ht
           have H11:=zh h11
           have HR11:=zh (HN.out.r.node.rowS hF11 HRr.out)
           have HO11:=zh (HN.out.r.node.rowS hF11 HOr.out)
           obtain⟨A11,c11,hv11⟩:∃A c,v11= .slice A 0 c:=by obtain⟨A,c,h,_⟩:=V7 hown;exact⟨A,c,h⟩
           subst hv11
           have HCD:=zh (v3a a r11 6 w11 (HS.out w11 h11.l.bel) hes)
           clear hown hes ht h11 hF11 HI2
           go_wp2_with fail
           refine HCD.out.mono ?_
           rintro e w12 ⟨rfl,hb12⟩
           have H12:=zh (H11.out.below hb12)
           have HR12:=zh (Q4 HR11.out hb12)
           have HO12:=zh (Q4 HO11.out hb12)
           have HNM:=zh (Node.namesC OK.out w12 H12.out.l.node)
           clear hb12 HCD
           go_wp2_with fail
           refine HNM.out.mono ?_
           rintro e w13 ⟨v13,rfl,hown,hb13⟩
           obtain⟨A13,c13,hv13⟩:∃A c,v13= .slice A (J4 P).length c:=by obtain⟨A,c,h,_⟩:=V7 hown;exact⟨A,c,h⟩
           subst hv13
           have H13:=zh (H12.out.below hb13)
           have HR13:=zh (Q4 HR12.out hb13)
           have HO13:=zh (Q4 HO12.out hb13)
           obtain⟨gq,oq,hAq,x0,x1⟩:=v3i HR13.out HXJ.out
           injection hAq with hAq
           injection hAq with e1 e2
           subst e1;subst e2
           have HAW:=zh (k1d a OK.out x HIX.out w13 H13.out.l.node (fun w' hF=>(HS.out w' (hF.below H13.out.l.bel H13.out.l.sz H13.out.l.ge)).someS [4,10] (by decide)))
           rw[k1v HGX.out]at HAW
           clear hown hb13 HNM
           go_wp2_with fail
           refine HAW.out.mono ?_
           rintro e w14 ⟨v14,r14,rfl,hown,hes,ht⟩
           obtain⟨rfl,_⟩:=hes.nil rfl
           obtain⟨f14,h14,hF14⟩:=H13.out.left ht
           have H14:=zh h14
           obtain⟨A14,c14,hv14⟩:∃A c,v14= .slice A (ofN P x).length c:=by obtain⟨A,c,h,_⟩:=V7 hown;exact⟨A,c,h⟩
           subst hv14
           have HST:=zh (q9y _ _ (ofN P x) (ofN P x) w14.heap.size w14 (k8y hown (by rw[List.length_map])) (k8y (H13.out.l.node.rowS hF14 HO13.out) (by rw[List.length_map])) (by omega) (by omega))
           have OKA:=zh (OK.out.awayK x (ofN P x).length)
           have hq1:=k1o OK.out x
           have hq2:=k1u OK.out HGX.out
           have hdd:decide (ofN P x=ofN P x)=true:=by simp
           have hnp:(J4 P).length≤30:=by have:(J4 P).length=P.files.length:=List.length_map ..;omega
           rw[hdd]at HST
           generalize awayK x P (ofN P x).length=Q at *
           clear hown hes ht h14 hF14 HAW x0 x1 hdd
           go_wp2_with fail
           refine HST.out.mono ?_
           rintro e w15 ⟨rfl,kq,rfl⟩
           have H15:=zh (H14.out.below (V3 (zb _ w14) kq))
           generalize w14.drewN kq=w15 at *
           have HN2:=zh (Node.namesC OKA.out w15 H15.out.l.node)
           clear HST
           go_wp2_with fail
           refine HN2.out.mono ?_
           rintro e w16 ⟨v16,rfl,hown,hb16⟩
           obtain⟨A16,c16,hv16⟩:∃A c,v16= .slice A (J4 Q).length c:=by obtain⟨A,c,h,_⟩:=V7 hown;exact⟨A,c,h⟩
           subst hv16
           have H16:=zh (H15.out.below hb16)
           have HSC:=zh (k8m a OKA.out w16 H16.out.l.node ((HS.out w16 H16.out.l.bel).someS [1,2,3,4,6,7,8,10] (by decide)))
           have hqi:((J4 Q).length:Int)=((J4 P).length:Int)-((ofN P x).length:Int):=by omega
           have hqb:(((J4 Q).length:Int)==((J4 P).length:Int)-((ofN P x).length:Int))=true:=by rw[hqi];exact beq_self_eq_true _
           clear hown hb16 HN2 hqi
           go_wp2_with fail
           refine HSC.out.mono ?_
           rintro e w17 ⟨rfl,hb17⟩
           have H17:=zh (H16.out.below hb17)
           have HRQ:=zh (Node.repsC OKA.out w17 H17.out.l.node)
           clear hb17 HSC
           go_wp2_with fail
           refine HRQ.out.mono ?_
           rintro e w18 ⟨v18,rfl,hr18,hb18⟩
           obtain⟨A18,c18,hv18⟩:∃A c,v18= .slice A (U0 Q).length c:=by
            obtain⟨A,c,h,_⟩:RdI w18 w18.heap.size v18 (U0 Q):=RdI.own hr18 rfl
            exact⟨A,c,h⟩
           subst hv18
           have H18:=zh (H17.out.below hb18)
           have hqr:((U0 Q).length:Int)=((U0 P).length:Int)-1:=by omega
           have hqd:(((U0 Q).length:Int)==((U0 P).length:Int)-1)=true:=by rw[hqr];exact beq_self_eq_true _
           clear hr18 hb18 HRQ hqr
           go_wp2
           go_ret
           exact⟨rfl,H18.out.l.bel⟩
        ·have hq2:((((bs (outN P x).1)[i].toNat:Nat):Int)==(cx.toNat:Int))=false:=by
          rw[beq_eq_false_iff_ne]
          intro e
          exact hx (UInt8.toNat_inj.1 (by omega))
         have hil:i<(outN P x).1.length:=by rw[←Q8];exact hi
         obtain⟨dd,hdd,hd0⟩:=v3g HGX.out (i:=i) (by rw[Q8]at hin;omega) (c:=cx) (by intro e;exact hx e) ⟨[],[]⟩
         have HDD:=zh hdd
         have HD0:=zh hd0
         have hcv:=Lib.run_convert_string_bytes (P:=Tryz.prog) w6 9 70 5 (bs (outN P x).1) (u:= .string) Tryz.underlying9 Tryz.underlying70 Tryz.underlying5
         have hcell:∀j (hj:j<(outN P x).1.length),(Lib.bytesWorld w6 5 (bs (outN P x).1)).cell? ⟨w6.heap.size,j,none⟩=some (.int .u8 ((outN P x).1[j].toNat:Int)):=fun j hj=>by
          rw[Lib.bytesWorld_cell w6 5 (bs (outN P x).1) j (by rw[Q8];exact hj)]
          simp[List.getD,List.getElem?_eq_getElem hj,bs]
         have hf:=v3d w6 5 (bs (outN P x).1) i hi
         have hbw:=Lib.bytesWorld_below w6 5 (bs (outN P x).1)
         have hck:=hcell i hil
         have HCE:=zh hcell
         have hcb:=run_convert_bytes_back (P:=Tryz.prog) ((Lib.bytesWorld w6 5 (bs (outN P x).1)).setCell ⟨w6.heap.size,i,none⟩ (.int .u8 (cx.toNat:Int))) 70 9 5 ⟨w6.heap.size,0,none⟩ (grownCap w6 (bs (outN P x).1).size 0 5) ((outN P x).1.set i cx) Tryz.underlying70 Tryz.underlying5 Tryz.underlying9 (fun j hj=>by
          rw[Lib.add_plain,Nat.zero_add]
          have hj':j<(outN P x).1.length:=by simpa using hj
          by_cases e:j=i
          ·subst e
           rw[World.cell?_setCell_same _ _ _ (HCE.out j hj')]
           simp
          ·rw[World.cell?_setCell_other _ _ _ _ (by intro h;injection h with _ h;exact e h.symm),HCE.out j hj']
           rw[List.getElem_set_ne (fun h=>e h.symm)])
         rw[List.length_set,←Q8]at hcb
         clear hx hcell hdd hd0
         generalize hWB:Lib.bytesWorld w6 5 (bs (outN P x).1)=WB at *
         clear hWB
         have hw7:Below w6.heap.size w6 (WB.setCell ⟨w6.heap.size,i,none⟩ (.int .u8 (cx.toNat:Int))):=hbw.setCell (p:=⟨w6.heap.size,i,none⟩) (zl _) _
         have Hx7:=zh (H6.out.below hw7)
         have HRx7:=zh (Q4 HR6.out hw7)
         have HIB:=zh (k8z a NodeOk.nil ((outN P x).1.set i cx) (by rw[List.length_set];omega) _ Hx7.out.r.node (HMW.out _ Hx7.out.l.bel))
         rw[HDD.out]at HIB
         go_wp2_with fail
         refine HIB.out.mono ?_
         rintro e w20 ⟨v20,r20,rfl,hown,hes,ht⟩
         obtain⟨ty,pv,rfl⟩:=hes.some HD0.out
         obtain⟨g20,h20,hF20⟩:=Hx7.out.right ht
         have H20:=zh h20
         have HR20:=zh (Hx7.out.r.node.rowS hF20 HRx7.out)
         obtain⟨A20,c20,hv20⟩:∃A c,v20= .slice A 0 c:=by obtain⟨A,c,h,_⟩:=V7 hown;exact⟨A,c,h⟩
         subst hv20
         have HNM:=zh (Node.namesC NodeOk.nil w20 h20.r.node)
         clear hown hes ht h20 hF20 HIB hw7 hbw hf hck hcb hcv
         go_wp2_with fail
         refine HNM.out.mono ?_
         rintro e w21 ⟨v21,rfl,hown,hb21⟩
         obtain⟨A21,c21,hv21⟩:∃A c,v21= .slice A 0 c:=by obtain⟨A,c,h,_⟩:=V7 hown;exact⟨A,c,h⟩
         subst hv21
         have Hw21:=zh (H20.out.below hb21)
         have HRw21:=zh (Q4 HR20.out hb21)
         clear hown hb21 HNM
         have HIN:=zh (k8z a NodeOk.nil (outN P x).1 (by omega) w21 Hw21.out.r.node (HMW.out w21 Hw21.out.l.bel))
         rw[HOI.out]at HIN
         go_wp2_with fail
         refine HIN.out.mono ?_
         rintro e w7 ⟨v7,r7,rfl,hown7,hes7,ht7⟩
         obtain⟨rfl,_⟩:=hes7.nil rfl
         obtain⟨g7,h7,hF7⟩:=Hw21.out.right ht7
         have H7:=zh h7
         have HR7:=zh (Hw21.out.r.node.rowS hF7 HRw21.out)
         obtain⟨A7,c7,hv7⟩:∃A c,v7= .slice A (ofN P x).length c:=by obtain⟨A,c,h,_⟩:=V7 hown7;exact⟨A,c,h⟩
         subst hv7
         have HO7:=zh hown7
         have HSC:=zh (k8m a OKQ.out w7 h7.r.node ((HS.out w7 h7.l.bel).someS [1,2,3,4,6,7,8,10] (by decide)))
         have hne2:((ofN P x).length:Int)≠0:=by omega
         have hne3:(((ofN P x).length:Int)==0)=false:=beq_eq_false_iff_ne.2 hne2
         clear hown7 hes7 ht7 h7 hF7 HIN hne2
         go_wp2_with fail
         refine HSC.out.mono ?_
         rintro e w8 ⟨rfl,hb8⟩
         have H8:=zh (H7.out.below hb8)
         have HR8:=zh (Q4 HR7.out hb8)
         have HO8:=zh (Q4 HO7.out hb8)
         clear hb8 hne3 HSC
         go_wp2
         go_loopg [21] (ofN P x).length (fun gh v21 wr=>∃k:Nat,v21= .int .i64 k∧k≤(ofN P x).length∧gh=(ofN P x).length-k∧Hid (Below w8.heap.size w8 wr))
         case atStart=>exact⟨0,rfl,Nat.zero_le _,rfl,zh (zb _ _)⟩
         case round=>
          obtain⟨k,rfl,hk,hgm,HB⟩:=hrel
          have HN:=zh (H8.out.below HB.out)
          have HRr:=zh (Q4 HR8.out HB.out)
          have HOr:=zh (Q4 HO8.out HB.out)
          by_cases hkl:k<(ofN P x).length
          ·obtain⟨nm,hnm⟩:∃nm,(ofN P x)[k]? =some nm:=⟨_,List.getElem?_eq_getElem hkl⟩
           have hmem:=List.mem_of_getElem? hnm
           obtain⟨ga,rfl,x0⟩:=v3e HOr.out hnm
           obtain⟨gs,gz⟩:=k1h OK.out HGX.out hmem
           have hso:X6 nm:=by have:=j7b OK.out hmem;unfold X6 maxLen;omega
           have HG1:=zh (Node.getC a OK.out nm hso wr HN.out.l.node ((HS.out wr HN.out.l.bel).someS [1,2,3,4,6,8] (by decide)))
           have HG2:=zh (fun w' (h:N2 w.heap.size n o P (subN P x L) f' g7 w w')=>Node.getC a OKQ.out nm hso w' h.r.node ((HS.out w' h.r.bel).someS [1,2,3,4,6,8] (by decide)))
           rw[gs]at HG2
           have HGZ:=zh gz
           unfold j5c at HG1 HG2
           generalize getN nm P=GN at *
           have b1:(0:Int)≤(k:Int):=by omega
           have b2:(k:Int)<((ofN P x).length:Int):=by omega
           clear hnm hmem gs gz hso
           go_wp2_with fail
           refine HG1.out.mono ?_
           rintro e w9 ⟨r9,rfl,hes9,hb9⟩
           obtain⟨rfl,_⟩:=hes9.nil HGZ.out
           have H9:=zh (HN.out.below hb9)
           have HB9:=zh (HB.out.trans (hb9.mono HB.out.size))
           have x1:=(hb9.cell (p:=⟨ga,k,none⟩) (World.block_lt_of_cell? wr _ x0)).trans x0
           clear hes9 hb9 x0 HG1
           go_wp2_with fail
           refine(HG2.out w9 H9.out).mono ?_
           rintro e w10 ⟨r10,rfl,hes10,hb10⟩
           obtain⟨rfl,_⟩:=hes10.nil HGZ.out
           have HB10:=zh (HB9.out.trans (hb10.mono HB9.out.size))
           clear hes10 hb10 x1 HG2
           go_wp2
           go_roundg ((ofN P x).length-(k+1))
           case measure=>omega
           case rel=>exact⟨k+1,by go_num,hkl,rfl,HB10⟩
          ·obtain rfl:k=(ofN P x).length:=by omega
           have HI2:=zh (k8z a OKQ.out (outN P x).1 (by omega) wr HN.out.r.node (HMW.out wr HN.out.l.bel))
           rw[HOG.out]at HI2
           clear hk hgm hkl
           go_wp2_with fail
           refine HI2.out.mono ?_
           rintro e w11 ⟨v11,r11,rfl,hown,hes,ht⟩
           obtain⟨g11,h11,hF11⟩:=HN.out.right ht
           have H11:=zh h11
           have HR11:=zh (HN.out.r.node.rowS hF11 HRr.out)
           have HO11:=zh (HN.out.r.node.rowS hF11 HOr.out)
           obtain⟨A11,c11,hv11⟩:∃A c,v11= .slice A 0 c:=by obtain⟨A,c,h,_⟩:=V7 hown;exact⟨A,c,h⟩
           subst hv11
           have HCD:=zh (v3a a r11 6 w11 (HS.out w11 h11.l.bel) hes)
           clear hown hes ht h11 hF11 HI2
           go_wp2_with fail
           refine HCD.out.mono ?_
           rintro e w12 ⟨rfl,hb12⟩
           have H12:=zh (H11.out.below hb12)
           have HR12:=zh (Q4 HR11.out hb12)
           have HO12:=zh (Q4 HO11.out hb12)
           have HNM:=zh (Node.namesC OK.out w12 H12.out.l.node)
           clear hb12 HCD
           go_wp2_with fail
           refine HNM.out.mono ?_
           rintro e w13 ⟨v13,rfl,hown,hb13⟩
           obtain⟨A13,c13,hv13⟩:∃A c,v13= .slice A (J4 P).length c:=by obtain⟨A,c,h,_⟩:=V7 hown;exact⟨A,c,h⟩
           subst hv13
           have H13:=zh (H12.out.below hb13)
           have HR13:=zh (Q4 HR12.out hb13)
           have HO13:=zh (Q4 HO12.out hb13)
           obtain⟨gq,oq,hAq,x0,x1⟩:=v3i HR13.out HXJ.out
           injection hAq with hAq
           injection hAq with e1 e2
           subst e1;subst e2
           have HAW:=zh (k1d a OK.out x HIX.out w13 H13.out.l.node (fun w' hF=>(HS.out w' (hF.below H13.out.l.bel H13.out.l.sz H13.out.l.ge)).someS [4,10] (by decide)))
           rw[k1v HGX.out]at HAW
           clear hown hb13 HNM
           go_wp2_with fail
           refine HAW.out.mono ?_
           rintro e w14 ⟨v14,r14,rfl,hown,hes,ht⟩
           obtain⟨rfl,_⟩:=hes.nil rfl
           obtain⟨f14,h14,hF14⟩:=H13.out.left ht
           have H14:=zh h14
           obtain⟨A14,c14,hv14⟩:∃A c,v14= .slice A (ofN P x).length c:=by obtain⟨A,c,h,_⟩:=V7 hown;exact⟨A,c,h⟩
           subst hv14
           have HST:=zh (q9y _ _ (ofN P x) (ofN P x) w14.heap.size w14 (k8y hown (by rw[List.length_map])) (k8y (H13.out.l.node.rowS hF14 HO13.out) (by rw[List.length_map])) (by omega) (by omega))
           have OKA:=zh (OK.out.awayK x (ofN P x).length)
           have hq1:=k1o OK.out x
           have hq2:=k1u OK.out HGX.out
           have hdd:decide (ofN P x=ofN P x)=true:=by simp
           have hnp:(J4 P).length≤30:=by have:(J4 P).length=P.files.length:=List.length_map ..;omega
           rw[hdd]at HST
           generalize awayK x P (ofN P x).length=Q at *
           clear hown hes ht h14 hF14 HAW x0 x1 hdd
           go_wp2_with fail
           refine HST.out.mono ?_
           rintro e w15 ⟨rfl,kq,rfl⟩
           have H15:=zh (H14.out.below (V3 (zb _ w14) kq))
           generalize w14.drewN kq=w15 at *
           have HN2:=zh (Node.namesC OKA.out w15 H15.out.l.node)
           clear HST
           go_wp2_with fail
           refine HN2.out.mono ?_
           rintro e w16 ⟨v16,rfl,hown,hb16⟩
           obtain⟨A16,c16,hv16⟩:∃A c,v16= .slice A (J4 Q).length c:=by obtain⟨A,c,h,_⟩:=V7 hown;exact⟨A,c,h⟩
           subst hv16
           have H16:=zh (H15.out.below hb16)
           have HSC:=zh (k8m a OKA.out w16 H16.out.l.node ((HS.out w16 H16.out.l.bel).someS [1,2,3,4,6,7,8,10] (by decide)))
           have hqi:((J4 Q).length:Int)=((J4 P).length:Int)-((ofN P x).length:Int):=by omega
           have hqb:(((J4 Q).length:Int)==((J4 P).length:Int)-((ofN P x).length:Int))=true:=by rw[hqi];exact beq_self_eq_true _
           clear hown hb16 HN2 hqi
           go_wp2_with fail
           refine HSC.out.mono ?_
           rintro e w17 ⟨rfl,hb17⟩
           have H17:=zh (H16.out.below hb17)
           have HRQ:=zh (Node.repsC OKA.out w17 H17.out.l.node)
           clear hb17 HSC
           go_wp2_with fail
           refine HRQ.out.mono ?_
           rintro e w18 ⟨v18,rfl,hr18,hb18⟩
           obtain⟨A18,c18,hv18⟩:∃A c,v18= .slice A (U0 Q).length c:=by
            obtain⟨A,c,h,_⟩:RdI w18 w18.heap.size v18 (U0 Q):=RdI.own hr18 rfl
            exact⟨A,c,h⟩
           subst hv18
           have H18:=zh (H17.out.below hb18)
           have hqr:((U0 Q).length:Int)=((U0 P).length:Int)-1:=by omega
           have hqd:(((U0 Q).length:Int)==((U0 P).length:Int)-1)=true:=by rw[hqr];exact beq_self_eq_true _
           clear hr18 hb18 HRQ hqr
           go_wp2
           go_ret
           exact⟨rfl,H18.out.l.bel⟩
       ·clear hsp
        have HIN:=zh (k8z a NodeOk.nil (outN P x).1 (by omega) w6 Hw6.out.r.node (HMW.out w6 Hw6.out.l.bel))
        rw[HOI.out]at HIN
        go_wp2_with fail
        refine HIN.out.mono ?_
        rintro e w7 ⟨v7,r7,rfl,hown7,hes7,ht7⟩
        obtain⟨rfl,_⟩:=hes7.nil rfl
        obtain⟨g7,h7,hF7⟩:=Hw6.out.right ht7
        have H7:=zh h7
        have HR7:=zh (Hw6.out.r.node.rowS hF7 HRw6.out)
        obtain⟨A7,c7,hv7⟩:∃A c,v7= .slice A (ofN P x).length c:=by obtain⟨A,c,h,_⟩:=V7 hown7;exact⟨A,c,h⟩
        subst hv7
        have HO7:=zh hown7
        have HSC:=zh (k8m a OKQ.out w7 h7.r.node ((HS.out w7 h7.l.bel).someS [1,2,3,4,6,7,8,10] (by decide)))
        have hne2:((ofN P x).length:Int)≠0:=by omega
        have hne3:(((ofN P x).length:Int)==0)=false:=beq_eq_false_iff_ne.2 hne2
        clear hown7 hes7 ht7 h7 hF7 HIN hne2
        go_wp2_with fail
        refine HSC.out.mono ?_
        rintro e w8 ⟨rfl,hb8⟩
        have H8:=zh (H7.out.below hb8)
        have HR8:=zh (Q4 HR7.out hb8)
        have HO8:=zh (Q4 HO7.out hb8)
        clear hb8 hne3 HSC
        go_wp2
        go_loopg [21] (ofN P x).length (fun gh v21 wr=>∃k:Nat,v21= .int .i64 k∧k≤(ofN P x).length∧gh=(ofN P x).length-k∧Hid (Below w8.heap.size w8 wr))
        case atStart=>exact⟨0,rfl,Nat.zero_le _,rfl,zh (zb _ _)⟩
        case round=>
         obtain⟨k,rfl,hk,hgm,HB⟩:=hrel
         have HN:=zh (H8.out.below HB.out)
         have HRr:=zh (Q4 HR8.out HB.out)
         have HOr:=zh (Q4 HO8.out HB.out)
         by_cases hkl:k<(ofN P x).length
         ·obtain⟨nm,hnm⟩:∃nm,(ofN P x)[k]? =some nm:=⟨_,List.getElem?_eq_getElem hkl⟩
          have hmem:=List.mem_of_getElem? hnm
          obtain⟨ga,rfl,x0⟩:=v3e HOr.out hnm
          obtain⟨gs,gz⟩:=k1h OK.out HGX.out hmem
          have hso:X6 nm:=by have:=j7b OK.out hmem;unfold X6 maxLen;omega
          have HG1:=zh (Node.getC a OK.out nm hso wr HN.out.l.node ((HS.out wr HN.out.l.bel).someS [1,2,3,4,6,8] (by decide)))
          have HG2:=zh (fun w' (h:N2 w.heap.size n o P (subN P x L) f' g7 w w')=>Node.getC a OKQ.out nm hso w' h.r.node ((HS.out w' h.r.bel).someS [1,2,3,4,6,8] (by decide)))
          rw[gs]at HG2
          have HGZ:=zh gz
          unfold j5c at HG1 HG2
          generalize getN nm P=GN at *
          have b1:(0:Int)≤(k:Int):=by omega
          have b2:(k:Int)<((ofN P x).length:Int):=by omega
          clear hnm hmem gs gz hso
          go_wp2_with fail
          refine HG1.out.mono ?_
          rintro e w9 ⟨r9,rfl,hes9,hb9⟩
          obtain⟨rfl,_⟩:=hes9.nil HGZ.out
          have H9:=zh (HN.out.below hb9)
          have HB9:=zh (HB.out.trans (hb9.mono HB.out.size))
          have x1:=(hb9.cell (p:=⟨ga,k,none⟩) (World.block_lt_of_cell? wr _ x0)).trans x0
          clear hes9 hb9 x0 HG1
          go_wp2_with fail
          refine(HG2.out w9 H9.out).mono ?_
          rintro e w10 ⟨r10,rfl,hes10,hb10⟩
          obtain⟨rfl,_⟩:=hes10.nil HGZ.out
          have HB10:=zh (HB9.out.trans (hb10.mono HB9.out.size))
          clear hes10 hb10 x1 HG2
          go_wp2
          go_roundg ((ofN P x).length-(k+1))
          case measure=>omega
          case rel=>exact⟨k+1,by go_num,hkl,rfl,HB10⟩
         ·obtain rfl:k=(ofN P x).length:=by omega
          have HI2:=zh (k8z a OKQ.out (outN P x).1 (by omega) wr HN.out.r.node (HMW.out wr HN.out.l.bel))
          rw[HOG.out]at HI2
          clear hk hgm hkl
          go_wp2_with fail
          refine HI2.out.mono ?_
          rintro e w11 ⟨v11,r11,rfl,hown,hes,ht⟩
          obtain⟨g11,h11,hF11⟩:=HN.out.right ht
          have H11:=zh h11
          have HR11:=zh (HN.out.r.node.rowS hF11 HRr.out)
          have HO11:=zh (HN.out.r.node.rowS hF11 HOr.out)
          obtain⟨A11,c11,hv11⟩:∃A c,v11= .slice A 0 c:=by obtain⟨A,c,h,_⟩:=V7 hown;exact⟨A,c,h⟩
          subst hv11
          have HCD:=zh (v3a a r11 6 w11 (HS.out w11 h11.l.bel) hes)
          clear hown hes ht h11 hF11 HI2
          go_wp2_with fail
          refine HCD.out.mono ?_
          rintro e w12 ⟨rfl,hb12⟩
          have H12:=zh (H11.out.below hb12)
          have HR12:=zh (Q4 HR11.out hb12)
          have HO12:=zh (Q4 HO11.out hb12)
          have HNM:=zh (Node.namesC OK.out w12 H12.out.l.node)
          clear hb12 HCD
          go_wp2_with fail
          refine HNM.out.mono ?_
          rintro e w13 ⟨v13,rfl,hown,hb13⟩
          obtain⟨A13,c13,hv13⟩:∃A c,v13= .slice A (J4 P).length c:=by obtain⟨A,c,h,_⟩:=V7 hown;exact⟨A,c,h⟩
          subst hv13
          have H13:=zh (H12.out.below hb13)
          have HR13:=zh (Q4 HR12.out hb13)
          have HO13:=zh (Q4 HO12.out hb13)
          obtain⟨gq,oq,hAq,x0,x1⟩:=v3i HR13.out HXJ.out
          injection hAq with hAq
          injection hAq with e1 e2
          subst e1;subst e2
          have HAW:=zh (k1d a OK.out x HIX.out w13 H13.out.l.node (fun w' hF=>(HS.out w' (hF.below H13.out.l.bel H13.out.l.sz H13.out.l.ge)).someS [4,10] (by decide)))
          rw[k1v HGX.out]at HAW
          clear hown hb13 HNM
          go_wp2_with fail
          refine HAW.out.mono ?_
          rintro e w14 ⟨v14,r14,rfl,hown,hes,ht⟩
          obtain⟨rfl,_⟩:=hes.nil rfl
          obtain⟨f14,h14,hF14⟩:=H13.out.left ht
          have H14:=zh h14
          obtain⟨A14,c14,hv14⟩:∃A c,v14= .slice A (ofN P x).length c:=by obtain⟨A,c,h,_⟩:=V7 hown;exact⟨A,c,h⟩
          subst hv14
          have HST:=zh (q9y _ _ (ofN P x) (ofN P x) w14.heap.size w14 (k8y hown (by rw[List.length_map])) (k8y (H13.out.l.node.rowS hF14 HO13.out) (by rw[List.length_map])) (by omega) (by omega))
          have OKA:=zh (OK.out.awayK x (ofN P x).length)
          have hq1:=k1o OK.out x
          have hq2:=k1u OK.out HGX.out
          have hdd:decide (ofN P x=ofN P x)=true:=by simp
          have hnp:(J4 P).length≤30:=by have:(J4 P).length=P.files.length:=List.length_map ..;omega
          rw[hdd]at HST
          generalize awayK x P (ofN P x).length=Q at *
          clear hown hes ht h14 hF14 HAW x0 x1 hdd
          go_wp2_with fail
          refine HST.out.mono ?_
          rintro e w15 ⟨rfl,kq,rfl⟩
          have H15:=zh (H14.out.below (V3 (zb _ w14) kq))
          generalize w14.drewN kq=w15 at *
          have HN2:=zh (Node.namesC OKA.out w15 H15.out.l.node)
          clear HST
          go_wp2_with fail
          refine HN2.out.mono ?_
          rintro e w16 ⟨v16,rfl,hown,hb16⟩
          obtain⟨A16,c16,hv16⟩:∃A c,v16= .slice A (J4 Q).length c:=by obtain⟨A,c,h,_⟩:=V7 hown;exact⟨A,c,h⟩
          subst hv16
          have H16:=zh (H15.out.below hb16)
          have HSC:=zh (k8m a OKA.out w16 H16.out.l.node ((HS.out w16 H16.out.l.bel).someS [1,2,3,4,6,7,8,10] (by decide)))
          have hqi:((J4 Q).length:Int)=((J4 P).length:Int)-((ofN P x).length:Int):=by omega
          have hqb:(((J4 Q).length:Int)==((J4 P).length:Int)-((ofN P x).length:Int))=true:=by rw[hqi];exact beq_self_eq_true _
          clear hown hb16 HN2 hqi
          go_wp2_with fail
          refine HSC.out.mono ?_
          rintro e w17 ⟨rfl,hb17⟩
          have H17:=zh (H16.out.below hb17)
          have HRQ:=zh (Node.repsC OKA.out w17 H17.out.l.node)
          clear hb17 HSC
          go_wp2_with fail
          refine HRQ.out.mono ?_
          rintro e w18 ⟨v18,rfl,hr18,hb18⟩
          obtain⟨A18,c18,hv18⟩:∃A c,v18= .slice A (U0 Q).length c:=by
           obtain⟨A,c,h,_⟩:RdI w18 w18.heap.size v18 (U0 Q):=RdI.own hr18 rfl
           exact⟨A,c,h⟩
          subst hv18
          have H18:=zh (H17.out.below hb18)
          have hqr:((U0 Q).length:Int)=((U0 P).length:Int)-1:=by omega
          have hqd:(((U0 Q).length:Int)==((U0 P).length:Int)-1)=true:=by rw[hqr];exact beq_self_eq_true _
          clear hr18 hb18 HRQ hqr
          go_wp2
          go_ret
          exact⟨rfl,H18.out.l.bel⟩
theorem v3l(a:Nat→Addr)(v:Value)(l:List ActN)(hl:l.length≤maxLen)(hz:∀x∈l,x.kind.length≤maxLen∧x.nm.length≤maxLen∧x.s.length≤maxLen)(at_ spot:Int)(ha1: -9223372036854775808≤at_)(ha2:at_≤9223372036854775807)(hs1: -9223372036854775808≤spot)(hs2:spot≤9223372036854775807)(cx:UInt8)(w:World)(hv:ActNRd w w.heap.size v l)(h:Sents a w)(hr:RcW a w) :
  Calls Tryz.prog 5 #[v,.int .i64 at_,.int .i64 spot,.int .u8 (cx.toNat:Int)] w fun e w'=>e= .returned (.bool true)∧Below w.heap.size w w':=by
 rcases j8a l 40 with h0|h1
 ·exact v3k a v l hl hz at_ spot ha1 ha2 hs1 hs2 cx h0 w hv h hr
 ·exact v3j a v l hl hz at_ spot cx.toNat h1 w hv h hr
theorem MoveBack_walkI(a:Nat→Addr)(v:Value)(l:List ActN)(hl:l.length≤maxLen)(hz:∀x∈l,x.kind.length≤maxLen∧x.nm.length≤maxLen∧x.s.length≤maxLen)(at_ spot:Int)(ha1: -9223372036854775808≤at_)(ha2:at_≤9223372036854775807)(hs1: -9223372036854775808≤spot)(hs2:spot≤9223372036854775807)(c:Int)(hc1:0≤c)(hc2:c<256)(w:World)(hv:ActNRd w w.heap.size v l)(h:Sents a w∧RcW a w) :
  Calls Tryz.prog 5 #[v,.int .i64 at_,.int .i64 spot,.int .u8 c] w fun e w'=>e= .returned (.bool true)∧Below w.heap.size w w':=by
 have e:(((UInt8.ofNat c.toNat).toNat:Nat):Int)=c:=by
  rw[UInt8.toNat_ofNat'];omega
 rw[←e]
 exact v3l a v l hl hz at_ spot ha1 ha2 hs1 hs2 _ w hv h.1 h.2
end Go.Proofs.YtdmlghfggninbaaGreatDoor
