/- RnH, RnI, RnJ in one text. Conditions: as each part says. -/
import Derived.Test.YtdmlghfggninbaaGreatDoorRnG
set_option linter.unusedVariables false
set_option linter.unusedSimpArgs false
set_option maxHeartbeats 2000000
set_option maxRecDepth 100000
namespace Go.Proofs.YtdmlghfggninbaaGreatDoor
open Go.RowKit Go.Lib Go.Maps
theorem v1q(a b:Bytes):bs a++bs b=bs (a++b):=by
 apply q0t;rw[Q3];simp[bs]
theorem v1r{L:HldL}{x:Idn}{i j:Nat}(hi:k4p L x i)(hj:k4p L x j):i=j:=by
 obtain⟨h1,h2,h3⟩:=hi
 obtain⟨k1,k2,k3⟩:=hj
 rcases Nat.lt_trichotomy i j with h|h|h
 ·exact absurd h2 (k3 i h1 h)
 ·exact h
 ·exact absurd k2 (h3 j k1 h)
theorem v1s{x:Idn}:∀ {L:HldL},(getB L x).isSome=true→∃j,∃hj:j<L.length,k4p L x j∧z6q L x=L[j].text:=by
 intro L h
 obtain⟨o,ho⟩:=Option.isSome_iff_exists.1 h
 by_cases hn:∃j,k4p L x j
 ·obtain⟨j,hj⟩:=hn
  refine⟨j,hj.1,hj,?_⟩
  unfold z6q
  rw[k4v hj];rfl
 ·exfalso
  have hno:k4q L x:=fun j hj e=>by
   have:∀m,∀j (hj:j<L.length),j≤m→L[j].id≠x:=by
    intro m
    induction m with
    | zero=>intro j hj hm e;exact hn ⟨j,hj,e,fun i _ hij=>by omega⟩
    | succ m ih=>intro j hj hm e;exact hn ⟨j,hj,e,fun i hi hij=>ih i hi (by omega)⟩
   exact this j j hj (zl _) e
  rw[k4w hno]at ho;cases ho
def v1t(L:HldL)(ids:IdL)(k:Nat):Bytes:=((ids.take k).map (z6q L)).flatten
theorem v1u{L:HldL}{ids:IdL}{k:Nat}(hk:k<ids.length):v1t L ids (k+1)=v1t L ids k++z6q L ids[k]:=by
 unfold v1t
 rw[List.take_succ_eq_append_getElem hk,List.map_append,List.flatten_append];simp
theorem v1v{L:HldL}(hL:∀x,(z6q L x).length≤64)(ids:IdL)(k:Nat):(v1t L ids k).length≤64*k:=by
 unfold v1t
 induction k with
 | zero=>simp
 | succ k ih=>
  by_cases hk:k<ids.length
  ·rw[List.take_succ_eq_append_getElem hk,List.map_append,List.flatten_append,List.length_append]
   have:=hL ids[k]
   simp only[List.map_cons,List.map_nil,List.flatten_cons,List.flatten_nil,List.append_nil]
   omega
  ·rw[List.take_of_length_le (by omega)]at ih ⊢
   omega
theorem v1w{n:Int}{L:HldL}(h:BinOk n L)(x:Idn):(z6q L x).length≤64:=by
 unfold z6q
 cases hg:getB L x with
 | none=>simp
 | some o=>
  have h1:=(h.all o (q0i hg).1).len.2
  simpa using h1
theorem NodeOk.binAt{E:REL}{G:List RBE}(h:NodeOk (J9 E G)){k:Nat}(hk:k<E.length):∃i,∃hi:i<G.length,G[i].x=Z8 E[k].1.ids∧ixP (fun q=>decide (q.x=Z8 E[k].1.ids)) G=(i:Int)∧(∀x∈E[k].1.ids,(getB G[i].L x).isSome=true)∧BinOk 7500 G[i].L∧G[i].L.length≤250∧binN (J9 E G) (Z8 E[k].1.ids)=G[i].L∧E[k].1.ids.length≤250:=by
 have hg:=v0u h.fsrt hk rfl
 obtain⟨s,_,h2,h3,_,L,h4,_,h6⟩:=h.get hg
 have hids:E[k].1.ids.length≤250:=by rw[h3];exact z6x h2
 rcases v0j (fun q:RBE=>decide (q.x=Z8 E[k].1.ids)) G with⟨_,hno⟩|⟨i,hi,hix,hy⟩
 ·have hn:=v0v (G:=G) (fun j hj=>of_decide_eq_false (hno j hj))
  rw[show Q1 (J9 E G).bins (repR E[k].1)=none from hn]at h4;cases h4
 ·have hx:G[i].x=Z8 E[k].1.ids:=of_decide_eq_true hy
  have hb:=v0w h.bsrt hi hx
  have hL:L=G[i].L:=by
   have e:Q1 (J9 E G).bins (repR E[k].1)=some G[i].L:=hb
   rw[h4]at e;injection e
  subst hL
  exact⟨i,hi,hx,hix,fun x hx=>h6 x (by rw[h3]at hx;exact hx),h.bin7 hb,(h.bin _ _ hb).2.2.1,by unfold binN;rw[show Q1 (J9 E G).bins (Z8 E[k].1.ids)=_ from hb];rfl,hids⟩
def v1x(nm:Bytes)(P:PNode)(w:World)(e:Ending)(w':World):Prop:=e= .returned (.tuple #[VT (getN nm P).1,.int .i64 (getN nm P).2])∧Below w.heap.size w w'
theorem v1y(n:Nat)(vf vb:Value)(E:REL)(G:List RBE)(hP:NodeOk (J9 E G))(nm:Bytes)(w:World)(h:ORN n vf vb E G w) :
  Calls Tryz.prog 37 #[.pointer (some ⟨n,0,none⟩),VT nm] w (v1x nm (J9 E G) w):=by
 have hE30:E.length≤30:=by have:=hP.flen;rw[Y8,List.length_map]at this;exact this
 have hG30:G.length≤30:=by have:=hP.blen;rw[Y8,List.length_map,List.length_map]at this;omega
 have HPK:=zh hP
 have HN:=zh h
 have hn:=h.nlt
 have HFIND:=zh (j9g n vf vb E G (by omega) nm w h)
 have c0:=h.c0
 obtain⟨A,c,hvf,hcap,hx⟩:=h.vff
 subst hvf
 have HX:=zh hx
 obtain⟨BA,bc,hvb,hbcap,hbx⟩:=h.vbf
 subst hvb
 have HBX:=zh hbx
 clear hx h hP hbx
 go_enter Tryz.func37,Tryz.ntmps37
 go_wp2_with fail
 refine HFIND.out.mono ?_
 rintro e w0 ⟨rfl,rfl⟩
 rcases v0j (fun x:Rcp×Value=>decide (x.1.name=nm)) E with⟨hix,hno⟩|⟨k,hk,hix,hy⟩
 ·rw[hix]
  have HG0:=zh (v0t (E:=E) (nm:=nm) (fun j hj=>of_decide_eq_false (hno j hj)))
  have HQ:Hid (getN nm (J9 E G)=([],5)):=zh (by unfold getN;rw[show Q1 (J9 E G).files nm=none from HG0.out])
  clear hix hno
  go_wp2
  refine bodyPost_ret (v:= .tuple #[VT [],.int .i64 5]) (by simp[results,Tryz.results37,go_sem,bs]) rfl ?_
  exact⟨by rw[HQ.out],zb _ _⟩
 ·rw[hix]
  obtain⟨g,o,rfl,hg,hcells⟩:=HX.out (by omega)
  obtain⟨x0,x1,x2,x3⟩:=hcells k hk
  have hge:¬((k:Nat):Int)<0:=by omega
  have b1:(0:Int)≤(k:Int):=by omega
  have b2:(k:Int)<(E.length:Int):=by omega
  obtain⟨i,hi,hxi,hixg,hall,hbok,hblen,hbn,hil⟩:=HPK.out.binAt hk
  have HQ:Hid (getN nm (J9 E G)=(v1t G[i].L E[k].1.ids E[k].1.ids.length,0)):=zh (by
   unfold getN
   rw[show Q1 (J9 E G).files nm=some E[k].1 from v0u HPK.out.fsrt hk (of_decide_eq_true hy)]
   simp only
   rw[show repR E[k].1=Z8 E[k].1.ids from rfl,hbn]
   unfold v1t
   rw[List.take_length])
  have hsl:=HN.out.ids E[k] (List.getElem_mem hk)
  have HIL:=zh hil
  have HALL:=zh hall
  have HBOK:=zh hbok
  have HBL:=zh hblen
  have HRB:=zh (HN.out.bin G[i] (List.getElem_mem hi))
  have HFB:Hid (∀w',Below w.heap.size w w'→Calls Tryz.prog 15 #[.pointer (some ⟨n,0,none⟩),idV (Z8 E[k].1.ids)] w' fun e w''=>e= .returned (.int .i64 (i:Int))∧Below w'.heap.size w' w''):=zh (fun w' hb=>by
   have:=j9h n _ _ E G (by omega) (Z8 E[k].1.ids) w' (HN.out.below hb)
   rwa [hixg]at this)
  obtain⟨bg,hbg,hbgl,hbcells⟩:=HBX.out (by omega)
  subst hbg
  obtain⟨_,_,z2⟩:=hbcells i hi
  have Z2:=zh z2
  have bi1:(0:Int)≤(i:Int):=by omega
  have bi2:(i:Int)<(G.length:Int):=by omega
  clear hix hy hcells hixg hall hbok hblen hbn hil hbcells z2 hxi
  generalize E[k]=q at *
  obtain⟨r,sl⟩:=q
  simp only at x0 x1 x2 x3 hsl HIL HALL HFB HQ
  obtain⟨SA,sc,hsv,hsc,hscells⟩:=hsl.form
  subst hsv
  have HSL:=zh hsl
  have HSC:=zh hscells
  clear hsl hscells
  generalize G[i].L=L at *
  obtain⟨rb,hrb⟩:∃rb,rb=G[i].rb:=⟨_,rfl⟩
  obtain⟨vB,hvB⟩:∃vB,vB=G[i].v:=⟨_,rfl⟩
  rw[←hrb]at Z2
  rw[←hrb,←hvB]at HRB
  clear hrb hvB
  have hb1:Below w.heap.size w (w.alloc (.cells #[VT r.name,.int .i64 r.len,.int .u32 (r.print:Int),.slice SA r.ids.length sc] 40)):=(zb _ _).alloc (zl _) _
  have HB1:=zh hb1
  have BX1:=zh (Box4.mk' w (VT r.name) (.int .i64 r.len) (.int .u32 (r.print:Int)) (.slice SA r.ids.length sc) 40)
  clear hb1
  go_wp2
  generalize w.alloc (.cells #[VT r.name,.int .i64 r.len,.int .u32 (r.print:Int),.slice SA r.ids.length sc] 40)=w1 at *
  have hn1:n<w1.heap.size:=Nat.lt_of_lt_of_le hn HB1.out.size
  have C1:=zh ((HB1.out.cell (p:=⟨n,1,none⟩) hn).trans HN.out.c1)
  have HSL1:=zh ((HSL.out.keep HB1.out (zl _)).more HB1.out.size)
  have HFB1:=zh (fun w' (hb:Below w1.heap.size w1 w')=>HFB.out w' (HB1.out.trans (hb.mono HB1.out.size)))
  clear HFB
  have HFB:=HFB1
  clear HFB1 x0 x1 x2 x3 c0
  have hS0:Below w1.heap.size w1 w1.drew:=(zb _ _).drew
  refine kR (fun w'=>Below w1.heap.size w1 w') 8 ?_
  refine kT 0 hS0 ?_
  refine kT 1 hS0 ?_
  refine kT 2 hS0 ?_
  refine kS 3 rfl hS0 (fun w' hS=>by have A0:=(hS.cell (p:=⟨n,1,none⟩) hn1).trans C1.out;go_simp;rfl) ?_
  refine kT 4 hS0 ?_
  refine kS 5 rfl hS0 (fun w' hS=>by obtain⟨A0,A1,A2,A3,_⟩:=BX1.out.below hS BX1.out.lt;go_simp;rfl) ?_
  refine kC 6 (fun K hK=> ?_)
  go_simp
  refine(j7e (.agg #[VT r.name,.int .i64 r.len,.int .u32 (r.print:Int),.slice SA r.ids.length sc]) r (by have:=HIL.out;omega) _ ⟨_,rfl,(HSL1.out.keep hS0 (zl _)).more hS0.size⟩).mono ?_
  rintro e w4 ⟨rfl,hbw4⟩
  have hS1:Below w1.heap.size w1 w4:=hS0.trans (hbw4.mono hS0.size)
  refine hK _ _ hS1 ?_
  clear hK K
  try simp only[Act.put,zM]
  refine kC 7 (fun K hK=> ?_)
  go_simp
  refine(HFB.out _ hS1).mono ?_
  rintro e w5 ⟨rfl,hbw5⟩
  have hS2:Below w1.heap.size w1 w5:=hS1.trans (hbw5.mono hS1.size)
  refine hK _ _ hS2 (kF ?_)
  clear hK K
  try simp only[Act.put,zM]
  try simp only[Act.put,zM]
  simp only[List.drop_succ_cons,List.drop_zero]
  have HB5:=zh (HB1.out.trans (hS2.mono HB1.out.size))
  have HS15:=zh hS2
  have z2:=(HB5.out.cell (p:=⟨bg,i*3+2,none⟩) hbgl).trans Z2.out
  clear hS0 hS1 hS2 hbw4 hbw5
  go_wp2
  obtain⟨lA,lc,hvB,hlr⟩:=j0k HRB.out.own
  subst hvB
  have HLR:=zh hlr
  clear hlr z2
  go_loopg [9,10] r.ids.length (fun gh v9 v10 wr=>∃k:Nat,v10= .int .i64 k∧v9=VT (v1t L r.ids k)∧k≤r.ids.length∧gh=r.ids.length-k∧Hid (Below w5.heap.size w5 wr))
  case atStart=>exact⟨0,rfl,rfl,Nat.zero_le _,rfl,zh (zb _ _)⟩
  case round=>
   obtain⟨k,rfl,rfl,hk,hgm,HBr⟩:=hrel
   have HBw:=zh (HB5.out.trans (HBr.out.mono HB5.out.size))
   have HB1w:=zh (HS15.out.trans (HBr.out.mono HS15.out.size))
   have BXr:=zh (BX1.out.below HB1w.out BX1.out.lt)
   have CD:=zh BXr.out.c3
   have d3:=CD.out
   have hdr:=BXr.out.lt
   have hil:=HIL.out
   have hlen:=v1v (v1w HBOK.out) r.ids k
   by_cases hkl:k<r.ids.length
   ·obtain⟨sg,so,rfl,hsg,hscc⟩:=HSC.out (by omega)
    obtain⟨y0,y1⟩:=hscc k hkl
    have Y0:=zh ((HBw.out.cell (p:=⟨sg,so+k*2,none⟩) hsg).trans y0)
    have Y1:=zh ((HBw.out.cell (p:=⟨sg,so+k*2+1,none⟩) hsg).trans y1)
    obtain⟨j,hj,hst,htx⟩:=v1s (HALL.out r.ids[k] (List.getElem_mem hkl))
    have HFT:=zh (v1u (L:=L) hkl)
    have htl:=v1w HBOK.out r.ids[k]
    have CR:=zh (HRB.out.below HBw.out).cell
    have hrr:rb<wr.heap.size:=Nat.lt_of_lt_of_le HRB.out.lt HBw.out.size
    have hsr:sg<wr.heap.size:=Nat.lt_of_lt_of_le hsg HBw.out.size
    have HFD:Hid (∀w',Below wr.heap.size wr w'→Calls Tryz.prog 98 #[.pointer (some ⟨rb,0,none⟩),idV r.ids[k]] w' fun e w''=>e= .returned (.int .i64 (j:Int))∧Below w'.heap.size w' w''):=zh (fun w' hb=>(k4s rb 0 _ L (by have:=HBL.out;omega) r.ids[k] w' (HRB.out.below (HBw.out.trans (hb.mono HBw.out.size)))).mono (by
     rintro e w'' ⟨hb2,⟨j',hs,rfl⟩|⟨hno,_⟩⟩
     ·rw[v1r hs hst];exact⟨rfl,hb2⟩
     ·exact absurd hst.2.1 (hno j hj)))
    obtain⟨lg,hlA,hlg,hlcells⟩:=HLR.out (by omega)
    subst hlA
    obtain⟨_,_,_,t3⟩:=hlcells j hj
    rw[←htx]at t3
    have T3:=zh t3
    have bj1:(0:Int)≤(j:Int):=by omega
    have bj2:(j:Int)<(L.length:Int):=by omega
    have b1:(0:Int)≤(k:Int):=by omega
    have b2:(k:Int)<(r.ids.length:Int):=by omega
    rw[htx]at htl HFT T3
    clear hscc y0 y1 hlcells t3 hst htx
    have TX:=zh ((HBw.out.cell (p:=⟨lg,j*4+3,none⟩) hlg).trans T3.out)
    have hlr:lg<wr.heap.size:=Nat.lt_of_lt_of_le hlg HBw.out.size
    generalize r.ids[k]=x at *
    generalize L[j].text=tx at *
    go_wp2
    have hS0:Below wr.heap.size wr wr.drew:=(zb _ _).drew
    refine kR (fun w'=>Below wr.heap.size wr w') 15 ?_
    refine kT 0 hS0 ?_
    refine kT 1 hS0 ?_
    refine kT 2 hS0 ?_
    refine kT 3 hS0 ?_
    refine kS 4 rfl hS0 (fun w' hS=>by have A0:=(hS.cell (p:=⟨rb,0,none⟩) hrr).trans CR.out;go_simp;rfl) ?_
    refine kT 5 hS0 ?_
    refine kT 6 hS0 ?_
    refine kS 7 rfl hS0 (fun w' hS=>by have A0:=(hS.cell (p:=⟨w.heap.size,3,none⟩) hdr).trans CD.out;go_simp;rfl) ?_
    refine kT 8 hS0 ?_
    refine kT 9 hS0 ?_
    refine kS 10 rfl hS0 (fun w' hS=>by have A0:=(hS.cell (p:=⟨sg,so+k*2,none⟩) hsr).trans Y0.out;have A1:=(hS.cell (p:=⟨sg,so+k*2+1,none⟩) hsr).trans Y1.out;go_simp;rfl) ?_
    refine kC 11 (fun K hK=> ?_)
    go_simp
    refine(HFD.out _ hS0).mono ?_
    rintro e w4 ⟨rfl,hbw4⟩
    have hS1:Below wr.heap.size wr w4:=hS0.trans (hbw4.mono hS0.size)
    refine hK _ _ hS1 ?_
    clear hK K
    try simp only[Act.put,zM]
    refine kT 12 hS1 ?_
    refine kT 13 hS1 ?_
    refine kS 14 rfl hS1 (fun w' hS=>by have A0:=(hS.cell (p:=⟨lg,j*4+3,none⟩) hlr).trans TX.out;go_simp;rfl) (kF ?_)
    try simp only[Act.put,zM]
    simp only[List.drop_succ_cons,List.drop_zero]
    have HBd:=zh (HBr.out.trans (hS1.mono HBr.out.size))
    have HBdw:=zh (HBw.out.trans (hS1.mono HBw.out.size))
    have hsum2:¬((bs (v1t L r.ids k)).size+(bs tx).size>9223372036854775807):=by rw[Q8,Q8];omega
    have hap:=v1q (v1t L r.ids k) tx
    rw[←HFT.out]at hap
    clear hS0 hS1 hbw4 d3
    go_wp2
    go_roundg (r.ids.length-(k+1))
    case measure=>omega
    case rel=>exact⟨k+1,by go_num,rfl,hkl,rfl,HBd⟩
   ·obtain rfl:k=r.ids.length:=by omega
    go_wp2
    refine bodyPost_ret (v:= .tuple #[VT (v1t L r.ids r.ids.length),.int .i64 0]) (by simp[results,Tryz.results37,go_sem]) rfl ?_
    exact⟨by rw[HQ.out],HBw.out⟩
section
variable {n:Nat} {vf vb v':Value} {E:REL} {G1 G2:List RBE} {q:RBE} {L':HldL} {w w':World}
theorem v1z(hd:(blkN n vb (G1++q::G2)).Nodup):(blkN n vb (G1++G2)).Nodup∧q.rb∉blkN n vb (G1++G2)∧∀k,q.v.ownBlock=some k→k∉blkN n vb (G1++G2):=by
 have hp:(blkN n vb (G1++q::G2)).Perm ((q.rb::q.v.ownBlock.toList)++blkN n vb (G1++G2)):=by
  unfold blkN
  have h1:(blkG (G1++q::G2)).Perm ((q.rb::q.v.ownBlock.toList)++blkG (G1++G2)):=List.Perm.flatMap_right (f:=fun q:RBE=>q.rb::q.v.ownBlock.toList) List.perm_middle
  refine(List.Perm.cons n ((List.Perm.refl vb.ownBlock.toList).append h1)).trans ?_
  show((n::vb.ownBlock.toList)++((q.rb::q.v.ownBlock.toList)++blkG (G1++G2))).Perm _
  exact List.perm_append_comm_assoc _ _ _
 rw[hp.nodup_iff,List.nodup_append]at hd
 obtain⟨_,h2,h3⟩:=hd
 exact⟨h2,fun hm=>h3 q.rb List.mem_cons_self q.rb hm rfl,fun k e hm=>h3 k (List.mem_cons_of_mem _ (Option.mem_toList.2 e)) k hm rfl⟩
theorem v2a{k:Nat}(h:k∈blkN n vb (G1++G2)):k∈blkN n vb (G1++q::G2):=by
 rcases U8.1 h with e|e|⟨p,hp,e⟩
 ·exact e▸j9d
 ·exact j9e e
 ·refine U8.2 (.inr (.inr ⟨p,?_,e⟩))
  rcases List.mem_append.1 hp with hp|hp
  ·exact List.mem_append_left _ hp
  ·exact List.mem_append_right _ (List.mem_cons_of_mem _ hp)
theorem ORN.one(h:ORN n vf vb E (G1++q::G2) w)(hr:RBin q.rb 0 v' L' w')(hv:∀k,v'.ownBlock=some k→w.heap.size≤k)(hf:BFrame q.rb q.v w w'):ORN n vf vb E (G1++⟨q.x,L',q.rb,v'⟩::G2) w':=by
 obtain⟨d1,d2,d3⟩:=v1z h.nd
 have hq:q∈G1++q::G2:=List.mem_append_right _ List.mem_cons_self
 have hqb:q.rb∈blkN n vb (G1++q::G2):=U8.2 (.inr (.inr ⟨q,hq,.inl rfl⟩))
 have hqv:∀k,q.v.ownBlock=some k→k∈blkN n vb (G1++q::G2):=fun k e=>U8.2 (.inr (.inr ⟨q,hq,.inr e⟩))
 have hst:∀k,k<w.heap.size→k∈blkN n vb (G1++G2)→w'.heap[k]? =w.heap[k]? :=fun k hk hm=>hf.block k hk (fun e=>d2 (e▸hm)) (fun e=>d3 k e hm)
 have hrr:∀k,rR vf E k→k<w.heap.size→w'.heap[k]? =w.heap[k]? :=fun k hk hl=>hf.block k hl (fun e=>h.ap k hk (e▸hqb)) (fun e=>h.ap k hk (hqv k e))
 have hrow:J2 (G1++⟨q.x,L',q.rb,v'⟩::G2)=J2 (G1++q::G2):=by rw[q0e,q0e];rfl
 have hlen:(G1++(⟨q.x,L',q.rb,v'⟩:RBE)::G2).length=(G1++q::G2).length:=by rw[List.length_append,List.length_append];rfl
 have hbl:=h.blk_lt (k:=q.rb) hqb
 refine⟨(hst n h.nlt j9d).trans h.row,h.files.keepK hf.size fun k e h0 hl=>hrr k (.inl ⟨e,List.ne_nil_of_length_pos h0⟩) hl,fun x hx=>RdC.keepK (h.ids x hx) hf.size fun k e h0 hl=>hrr k (.inr ⟨x,hx,e,List.ne_nil_of_length_pos h0⟩) hl,?_,fun p hp=> ?_,?_,fun k hk hm=> ?_⟩
 ·rw[hrow,hlen]
  refine⟨h.bins.1,?_⟩
  rcases h.bins.2 with h3|⟨g,cap,cur,hvg,hg,hh,h4⟩
  ·exact .inl h3
  ·exact .inr ⟨g,cap,cur,hvg,hg,(hst g (Array.getElem?_eq_some_iff.1 hh).1 (j9e (by rw[hvg];rfl))).trans hh,h4⟩
 ·have hc:p=⟨q.x,L',q.rb,v'⟩∨p∈G1++G2:=by
   rcases List.mem_append.1 hp with hp|hp
   ·exact .inr (List.mem_append_left _ hp)
   ·rcases List.mem_cons.1 hp with e|hp
    ·exact .inl e
    ·exact .inr (List.mem_append_right _ hp)
  rcases hc with rfl|hp
  ·exact hr
  ·have hp2:p∈G1++q::G2:=by
    rcases List.mem_append.1 hp with hp|hp
    ·exact List.mem_append_left _ hp
    ·exact List.mem_append_right _ (List.mem_cons_of_mem _ hp)
   have hb:=h.bin p hp2
   exact hb.keepK (hst p.rb hb.lt (U8.2 (.inr (.inr ⟨p,hp,.inl rfl⟩)))) fun g e=>hst g (C8 hb.own e) (U8.2 (.inr (.inr ⟨p,hp,.inr e⟩)))
 ·exact v0a (G:=G1++G2) d1 (List.Sublist.refl _) (.inl rfl) d2 fun k e=>⟨fun hm=>by have:=h.blk_lt (v2a (q:=q) hm);have:=hv k e;omega,fun e2=>by have:=hv k e;have e2:k=q.rb:=e2;omega⟩
 ·rcases U8.1 hm with e|e|⟨p,hp,e⟩
  ·exact h.ap k hk (e▸j9d)
  ·exact h.ap k hk (j9e e)
  ·rcases List.mem_append.1 hp with hp|hp
   ·exact h.ap k hk (U8.2 (.inr (.inr ⟨p,List.mem_append_left _ hp,e⟩)))
   ·rcases List.mem_cons.1 hp with rfl|hp
    ·rcases e with e|e
     ·exact h.ap k hk (e▸hqb)
     ·have:=hv k e;have:=h.rlt k hk;omega
    ·exact h.ap k hk (U8.2 (.inr (.inr ⟨p,List.mem_append_right _ (List.mem_cons_of_mem _ hp),e⟩)))
end
def v2b(L:HldL):Int:=J8 (L.filter fun h=> !C6 h)
def v2c(G:List RBE):Int:=(G.map fun q=>v2b q.L).sum
theorem v2d{G:List RBE}{k:Nat}(hk:k<G.length):v2c (G.take (k+1))=v2c (G.take k)+v2b G[k].L:=by
 unfold v2c
 rw[List.take_succ_eq_append_getElem hk,List.map_append,List.sum_append,List.map_cons,List.map_nil,List.sum_cons,List.sum_nil,Int.add_zero]
theorem v2e{G:List RBE}(h:∀q∈G,0≤v2b q.L∧v2b q.L≤16000):0≤v2c G∧v2c G≤16000*G.length:=by
 unfold v2c
 induction G with
 | nil=>simp
 | cons q r ih=>
  have h1:=ih (fun z hz=>h z (List.mem_cons_of_mem _ hz))
  have h2:=h q List.mem_cons_self
  rw[List.map_cons,List.sum_cons,List.length_cons]
  omega
def swP(G:List RBE):List (Idn×HldL):=K7 J6 (G.map prG)
theorem v2f{G:List RBE}{k:Nat}(hk:k<G.length):swP (G.take (k+1))=swP (G.take k)++ [(G[k].x,J6 G[k].L)]:=by
 unfold swP K7
 rw[List.take_succ_eq_append_getElem hk,List.map_append,List.map_append];rfl
def SweptTo(n:Nat)(vf vb:Value)(E:REL)(G:List RBE)(k:Nat)(w wr:World):Prop:=
 ∃G1,ORN n vf vb E (G1++G.drop k) wr∧G1.map prG=swP (G.take k)∧G1.length=k∧(∀j∈blkN n vb (G1++G.drop k),j∈blkN n vb G∨w.heap.size≤j)∧FrS (fun b=>b∈blkN n vb G) w wr
theorem SweptTo.zero{n:Nat}{vf vb:Value}{E:REL}{G:List RBE}{w:World}(h:ORN n vf vb E G w):SweptTo n vf vb E G 0 w w:=⟨[],by rwa [List.drop_zero,List.nil_append],rfl,rfl,fun j hj=> .inl (by rwa [List.drop_zero,List.nil_append]at hj),FrS.refl _ _⟩
theorem SweptTo.next{n k:Nat}{vf vb v':Value}{E:REL}{G G1:List RBE}{w wr w':World}(hk:k<G.length)(h1:ORN n vf vb E (G1++G.drop k) wr)(h2:G1.map prG=swP (G.take k))(h3:G1.length=k)(h4:∀j∈blkN n vb (G1++G.drop k),j∈blkN n vb G∨w.heap.size≤j)(h5:FrS (fun b=>b∈blkN n vb G) w wr)
  (hr:RBin G[k].rb 0 v' (J6 G[k].L) w') (hv:∀j,v'.ownBlock=some j→wr.heap.size≤j) (hf:BFrame G[k].rb G[k].v wr w'):SweptTo n vf vb E G (k+1) w w':=by
 rw[List.drop_eq_getElem_cons hk]at h1 h4
 have hN:=h1.one hr hv hf
 have e:G1++(⟨G[k].x,J6 G[k].L,G[k].rb,v'⟩:RBE)::G.drop (k+1)=(G1++ [⟨G[k].x,J6 G[k].L,G[k].rb,v'⟩])++G.drop (k+1):=by simp
 have hsz:=h5.size
 have hqm:∀j,j=G[k].rb∨G[k].v.ownBlock=some j→j∈blkN n vb G∨w.heap.size≤j:=fun j hj=>h4 j (U8.2 (.inr (.inr ⟨G[k],List.mem_append_right _ List.mem_cons_self,hj.imp Eq.symm id⟩)))
 refine⟨G1++ [⟨G[k].x,J6 G[k].L,G[k].rb,v'⟩],e▸hN,?_,by rw[List.length_append,h3];rfl,fun j hj=> ?_,?_⟩
 ·rw[v2f hk,List.map_append,h2];rfl
 ·rw[←e]at hj
  rcases U8.1 hj with e|e|⟨p,hp,e⟩
  ·exact .inl (e▸j9d)
  ·exact .inl (j9e e)
  ·rcases List.mem_append.1 hp with hp|hp
   ·exact h4 j (U8.2 (.inr (.inr ⟨p,List.mem_append_left _ hp,e⟩)))
   ·rcases List.mem_cons.1 hp with rfl|hp
    ·rcases e with e|e
     ·exact hqm j (.inl e.symm)
     ·exact .inr (by have:=hv j e;omega)
    ·exact h4 j (U8.2 (.inr (.inr ⟨p,List.mem_append_right _ (List.mem_cons_of_mem _ hp),e⟩)))
 ·refine h5.trans (T:=fun j=>j=G[k].rb∨G[k].v.ownBlock=some j) ⟨hf.os,hf.tape,hf.output,hf.size,fun j hj hn=>hf.block j hj (fun e=>hn (.inl e)) (fun e=>hn (.inr e))⟩ fun j hj=>hqm j hj
theorem v2g{n k m c:Nat}{vf:Value}{A:Option Addr}{E:REL}{G G1:List RBE}{wr:World}(hO:ORN n vf (.slice A m c) E (G1++G.drop k) wr)(hL:G1.length=k)(hk:k<G.length):∃g,A=some ⟨g,0,none⟩∧wr.cell? ⟨g,k*3+2,none⟩=some (.pointer (some ⟨G[k].rb,0,none⟩)):=by
 obtain⟨A2,c2,hA,_,hxc⟩:=hO.vbf
 have hlen:k<(G1++G.drop k).length:=by rw[List.length_append,List.length_drop,hL];omega
 obtain⟨g,hA2,hg,hcells⟩:=hxc (by omega)
 obtain⟨_,_,x2⟩:=hcells k hlen
 have hgk:(G1++G.drop k)[k]'hlen=G[k]:=by
  rw[List.getElem_append_right (by omega)]
  simp[hL]
 rw[hgk]at x2
 injection hA with hA3 _ _
 exact⟨g,hA3.trans hA2,x2⟩
def v2h(n:Nat)(vf vb:Value)(E:REL)(G:List RBE)(w:World)(e:Ending)(w':World):Prop:=
 e= .returned (.int .i64 (v2c G))∧RNTo n (j9a n vf vb E G) (M9 (J9 E G)) w w'
theorem SweptTo.done{n:Nat}{vf vb:Value}{E:REL}{G:List RBE}{w w':World}(h:SweptTo n vf vb E G G.length w w'):RNTo n (j9a n vf vb E G) (M9 (J9 E G)) w w':=by
 obtain⟨G1,h1,h2,_,h4,h5⟩:=h
 rw[List.drop_length,List.append_nil]at h1 h4
 rw[List.take_length]at h2
 exact⟨vf,vb,E,G1,h1,by rw[Y8,h2];rfl,fun k=>⟨h4 k,.inl⟩,h5⟩
theorem v2i(n:Nat)(vf vb:Value)(E:REL)(G:List RBE)(hl:G.length≤1000)(hG:∀q∈G,BinOk 7500 q.L∧q.L.length≤250)(w:World)(h:ORN n vf vb E G w) :
  Calls Tryz.prog 36 #[.pointer (some ⟨n,0,none⟩)] w (v2h n vf vb E G w):=by
 have hn:=h.nlt
 have HN:=zh h
 have HGG:=zh hG
 have hgb:∀q∈G,0≤v2b q.L∧v2b q.L≤16000:=fun q hq=>by
  have h1:=k5o (hG q hq).1 q.L.length
  have h2:=(hG q hq).2
  unfold k5h at h1
  rw[List.take_length]at h1
  unfold v2b
  omega
 have HGB:=zh hgb
 obtain⟨A,c,hvb,hcap,_⟩:=h.vbf
 subst hvb
 clear h hG hgb
 go_enter Tryz.func36,Tryz.ntmps36
 go_wp2
 go_loopg [3,4] G.length (fun gh v3 v4 wr=>∃k:Nat,v4= .int .i64 k∧v3= .int .i64 (v2c (G.take k))∧k≤G.length∧gh=G.length-k∧Hid (SweptTo n vf (.slice A G.length c) E G k w wr))
 case atStart=>exact⟨0,rfl,rfl,Nat.zero_le _,rfl,zh (SweptTo.zero HN.out)⟩
 case round=>
  obtain⟨k,rfl,rfl,hk,hgm,HS⟩:=hrel
  obtain⟨G1,hO,hP1,hL1,hB1,hF1⟩:=HS.out
  have c1:=hO.c1
  by_cases hkl:k<G.length
  ·obtain⟨g,hA,x2⟩:=v2g hO hL1 hkl
   subst hA
   have b1:(0:Int)≤(k:Int):=by omega
   have b2:(k:Int)<(G.length:Int):=by omega
   have hsb:=v2e (G:=G.take k) (fun q hq=>HGB.out q (List.mem_of_mem_take hq))
   have hkt:(G.take k).length=k:=by rw[List.length_take];omega
   obtain⟨hg3,hg4⟩:=HGB.out G[k] (List.getElem_mem hkl)
   have hq:RBin G[k].rb 0 G[k].v G[k].L wr:=hO.bin G[k] (List.mem_append_right _ (by rw[List.drop_eq_getElem_cons hkl];exact List.mem_cons_self))
   have HSW:=zh (k5r G[k].rb 0 G[k].v G[k].L 7500 (HGG.out _ (List.getElem_mem hkl)).1 (by have:=(HGG.out _ (List.getElem_mem hkl)).2;omega) wr (Nat.zero_le _) hq)
   have HNX:=zh (fun v' w'=>SweptTo.next (v':=v') (w':=w') hkl hO hP1 hL1 hB1 hF1)
   have HSS:=zh (v2d hkl)
   rw[hkt]at hsb
   unfold k5p at HSW
   rw[show J8 (G[k].L.filter fun h=> !C6 h)=v2b G[k].L from rfl]at HSW
   generalize v2b G[k].L=z at *
   generalize v2c (G.take k)=s at *
   clear hq hO hP1 hB1 hF1 hkt hL1
   go_wp2_with fail
   refine HSW.out.mono ?_
   rintro e w3 ⟨v',rfl,hr,hv,hf⟩
   have HS3:=zh (HNX.out v' w3 hr hv hf)
   clear hr hv hf HSW HNX x2 c1
   go_wp2
   go_roundg (G.length-(k+1))
   case measure=>omega
   case rel=>exact⟨k+1,by go_num,by rw[HSS.out],hkl,rfl,HS3⟩
  ·obtain rfl:k=G.length:=by omega
   have HTL:Hid (G.take G.length=G):=zh List.take_length
   clear hO hP1 hB1 hF1 hL1
   go_wp2
   go_ret
   exact⟨by first|rfl|(rw[HTL.out];rfl),HS.out.done⟩
def U2{α:Type}(k:Nat)(l:List α):List α:=l.take k++l.drop (k+1)
theorem v2j{α β:Type}(f:α→β)(k:Nat)(l:List α):(U2 k l).map f=U2 k (l.map f):=by unfold U2;rw[List.map_append,List.map_take,List.map_drop]
theorem v2k{α:Type}{k:Nat}{l:List α}(h:k<l.length):(U2 k l).length=0+k+(l.length-(k+1)):=by unfold U2;rw[List.length_append,List.length_take,List.length_drop];omega
theorem v2l{α:Type}(k:Nat)(l:List α):(U2 k l).Sublist l:=v0m l k
section
variable {K V:Type} [DecidableEq K] {lit:K→Lit} {lt:K→K→Bool} {ok okw:K→Prop}
theorem v2m(EM:KeyEmb lit lt ok okw){k:K}:∀ {L:List (K×V)} (_:K1 lt L) {i:Nat} (hi:i<L.length) (_:L[i].1=k),K3 k L=U2 i L
 | [],_,i,hi,_=>absurd hi (Nat.not_lt_zero _)
 | y::r,hs,0,hi,he=>by
  obtain⟨h1,_⟩:=G3.1 hs
  have he:y.1=k:=he
  have hr:K3 k r=r:=z6o (V4.2 fun p hp e=>EM.ne (h1 p hp) (he.trans e.symm))
  have e2:K3 k (y::r)=K3 k r:=by unfold K3;simp[he]
  rw[e2,hr];rfl
 | y::r,hs,i+1,hi,he=>by
  obtain⟨h1,h2⟩:=G3.1 hs
  have he':(r[i]'(by simpa using hi)).1=k:=he
  have hne:y.1≠k:=by
   have:=h1 (r[i]'(by simpa using hi)) (List.getElem_mem _)
   rw[he']at this
   exact EM.ne this
  have e2:K3 k (y::r)=y::K3 k r:=by unfold K3;simp[hne]
  rw[e2,v2m EM h2 (by simpa using hi) he'];rfl
theorem v2n(EM:KeyEmb lit lt ok okw){k:K}{v:V}{L:List (K×V)}(hs:K1 lt L){i:Nat}(hi:i<L.length)(he:L[i].1=k):U2 i (Q9 lt k v L)=K3 k L:=by
 rw[k9x EM hs hi he,v2m EM hs hi he]
 unfold U2
 rw[List.take_set_of_le (zl i),List.drop_set_of_lt (by omega)]
end
section
variable {n b k base:Nat} {vf vb v7:Value} {E:REL} {G:List RBE} {w W w7:World}
theorem ORN.delF(h:ORN n vf vb E G W)(hb:Below W.heap.size W w7)(hk:k<E.length)(ho:w7.ownsRow base 40 4 v7 (0+k+(E.length-(k+1))) (([]++(rcK.row E).take (k*4))++(rcK.row E).drop ((k+1)*4)))(hbase:W.heap.size≤base):ORN n v7 vb (U2 k E) G (w7.setCell ⟨n,0,none⟩ v7)∧(∀j,v7.ownBlock=some j→W.heap.size≤j)∧FrS (fun b=>b=n) W (w7.setCell ⟨n,0,none⟩ v7):=by
 have hr:rcK.row (U2 k E)=([]++(rcK.row E).take (k*4))++(rcK.row E).drop ((k+1)*4):=by
  unfold U2
  rw[rcK.row_append,k9r,k9s E (k+1) (by omega),List.nil_append]
 rw[←v2k hk,←hr]at ho
 refine⟨h.setF hb ho hbase fun y hy=> ?_,fun j e=>Nat.le_trans hbase (Y7 ho e),hb.os,hb.tape,hb.output,by have:=hb.size;simpa[World.setCell]using this,fun j hj hne=>(G6 hne).trans (hb.block j hj)⟩
 have hm:=(v2l k E).mem hy
 exact⟨h.ids y hm,fun j e ne=>h.ap j (.inr ⟨y,hm,e,ne⟩)⟩
theorem ORN.delG(h:ORN n vf vb E G W)(hb:Below W.heap.size W w7)(hk:k<G.length)(ho:w7.ownsRow base 54 3 v7 (0+k+(G.length-(k+1))) (([]++(J2 G).take (k*3))++(J2 G).drop ((k+1)*3)))(hbase:W.heap.size≤base):ORN n vf v7 E (U2 k G) (w7.setCell ⟨n,1,none⟩ v7)∧(∀j,v7.ownBlock=some j→W.heap.size≤j)∧FrS (fun b=>b=n) W (w7.setCell ⟨n,1,none⟩ v7):=by
 have hr:J2 (U2 k G)=([]++(J2 G).take (k*3))++(J2 G).drop ((k+1)*3):=by
  unfold U2
  rw[q0e,v0d,v0e G (k+1) (by omega),List.nil_append]
 rw[←v2k hk,←hr]at ho
 have hge:∀j,v7.ownBlock=some j→W.heap.size≤j:=fun j e=>Nat.le_trans hbase (Y7 ho e)
 have hnl:=h.nlt
 have hsub:=v2l k G
 have hw:∀j,j≠n→j<W.heap.size→(w7.setCell ⟨n,1,none⟩ v7).heap[j]? =W.heap[j]? :=fun j hj hl=>(G6 hj).trans (hb.block j hl)
 have hz:W.heap.size≤(w7.setCell ⟨n,1,none⟩ v7).heap.size:=by have:=hb.size;simpa[World.setCell]using this
 have hrr:∀j,rR vf E j→j<W.heap.size→(w7.setCell ⟨n,1,none⟩ v7).heap[j]? =W.heap[j]? :=fun j hj hl=>hw j (fun e=>h.ap j hj (e▸j9d)) hl
 refine⟨⟨?_,h.files.keepK hz fun j e h0 hl=>hrr j (.inl ⟨e,List.ne_nil_of_length_pos h0⟩) hl,fun x hx=>RdC.keepK (h.ids x hx) hz fun j e h0 hl=>hrr j (.inr ⟨x,hx,e,List.ne_nil_of_length_pos h0⟩) hl,M2 (z9b ho (by omega)) (Nat.zero_le _),fun p hp=> ?_,?_,fun j hj hm=> ?_⟩,hge,hb.os,hb.tape,hb.output,hz,fun j hj hne=>hw j hne hj⟩
 ·have:=(h.below hb).row
  simp[World.setCell,Array.getElem?_modify,this]
 ·have hp:=hsub.mem hp
  obtain⟨⟨a1,a2,_⟩,a3⟩:=h.bin_ap hp
  exact(h.bin p hp).keepK (hw _ a2 a1) fun g e=>hw g (a3 g e).2.1 (a3 g e).1
 ·have hd:=h.nd
  unfold blkN at hd ⊢
  rw[List.nodup_cons,List.nodup_append]at hd
  obtain⟨d1,_,d3,_⟩:=hd
  have hX:(blkG (U2 k G)).Sublist (blkG G):=k9z _ hsub
  rw[List.nodup_cons,List.nodup_append]
  have hlt:∀j,j∈blkG G→j<W.heap.size:=fun j hj=>h.blk_lt (j9f hj)
  refine⟨fun hm=> ?_,by cases v7.ownBlock<;>simp,d3.sublist hX,fun a ha c hc e=> ?_⟩
  ·rcases List.mem_append.1 hm with hm|hm
   ·have:=hge n (Option.mem_toList.1 hm);omega
   ·exact d1 (List.mem_append_right _ (hX.mem hm))
  ·subst e
   have:=hge a (Option.mem_toList.1 ha)
   have:=hlt a (hX.mem hc)
   omega
 ·rcases U8.1 hm with e|e|⟨p,hp,e⟩
  ·exact h.ap j hj (e▸j9d)
  ·have:=hge j e;have:=h.rlt j hj;omega
  ·exact h.ap j hj (U8.2 (.inr (.inr ⟨p,hsub.mem hp,e⟩)))
end
theorem v2o{ids:IdL}{k:Nat}(hk:k<ids.length)(L:HldL):U1 (ids.drop k) L=if(G0 ids[k] L).2=0 then U1 (ids.drop (k+1)) (G0 ids[k] L).1 else G0 ids[k] L:=by
 rw[List.drop_eq_getElem_cons hk,U1]
theorem v2p{x:Idn}{E:REL}:(ofE x E).length=0↔(E.map fxE).any (fun q=>decide (repR q.2=x))=false:=by
 unfold ofE
 rw[List.length_map,List.length_eq_zero_iff,List.filter_eq_nil_iff,List.any_map,List.any_eq_false]
 exact Iff.rfl
theorem v2q{n b m k base:Nat}{vf vb v v7:Value}{E:REL}{G:List RBE}{x:Idn}{L:HldL}{w wr w8:World}(h:ORN n vf vb E G w)(hb:Below w.heap.size w wr)(hm:w.heap.size≤m)(hmb:m≤b)(hR:RBin b base v L wr)(hv:∀k,v.ownBlock=some k→m≤k)(h7:∀j,v7.ownBlock=some j→wr.heap.size≤j)(hf:FrS (fun b=>b=n) wr w8) :
  RBin b 0 v L w8∧QAp ⟨x,L,b,v⟩ n v7 vb (U2 k E) G:=by
 have hnl:=h.nlt
 have hlt:∀j,j∈blkN n vb G→j<w.heap.size:=fun j hj=>h.blk_lt hj
 refine⟨hR.low.keepK (hf.block b hR.lt (by omega)) fun g e=>hf.block g (C8 hR.own e) (by have:=hv g e;omega),fun hm=>by have:=hlt b hm;omega,fun j e hj=>by have:=hlt j hj;have:=hv j e;omega,fun j hj=> ?_⟩
 have hj2:j<m∨wr.heap.size≤j:=by
  rcases hj with⟨e,_⟩|⟨y,hy,e,ne⟩
  ·exact .inr (h7 j e)
  ·have:=h.rlt j (.inr ⟨y,(v2l k E).mem hy,e,ne⟩)
   exact .inl (by omega)
 have hbl:=hR.lt
 exact⟨fun e=>by have e:j=b:=e;omega,fun e=>by have:=hv j e;have:=C8 hR.own e;omega⟩
theorem v2r{n k:Nat}{vf vb v7 vb':Value}{E:REL}{G G':List RBE}{B:Nat}(hS:∀j∈blkN n vb' G',j∈blkN n vb G∨B≤j)(h7:∀j,v7.ownBlock=some j→B≤j):(j9a n vf vb E G).new (j9a n v7 vb' (U2 k E) G') B:=fun j=>⟨hS j,fun hj=>by
 rcases hj with⟨e,_⟩|⟨y,hy,e,ne⟩
 ·exact .inr (h7 j e)
 ·exact .inl (.inr ⟨y,(v2l k E).mem hy,e,ne⟩)⟩
structure Dropped(n k i:Nat)(vf vb v7:Value)(E:REL)(G G':List RBE)(x:Idn)(L:HldL)(w w':World):Prop where
 node:ORN n v7 vb (U2 k E) G' w'
 bins:G'.map prG=Q9 Q2 x L (G.map prG)
 blk:∀j∈blkN n vb G',j∈blkN n vb G∨w.heap.size≤j
 own:∀j,v7.ownBlock=some j→w.heap.size≤j
 fr:FrS (fun b=>b∈blkN n vb G) w w'
theorem v2s{n k i b g c:Nat}{vf v v7:Value}{E:REL}{G:List RBE}{x:Idn}{L:HldL}{w wr w8:World}(h:ORN n vf (.slice (some ⟨g,0,none⟩) G.length c) E G w)(hs:K1 Q2 (G.map prG))(hb:Below w.heap.size w wr)(hB:w.heap.size≤b)(hv:∀j,v.ownBlock=some j→w.heap.size≤j)(hN:ORN n v7 (.slice (some ⟨g,0,none⟩) G.length c) (U2 k E) G w8)(h7:∀j,v7.ownBlock=some j→wr.heap.size≤j)(hf:FrS (fun b=>b=n) wr w8)(hi:i<G.length)(hx:G[i].x=x)(hR:RBin b 0 v L w8)(ha:QAp ⟨x,L,b,v⟩ n v7 (.slice (some ⟨g,0,none⟩) G.length c) (U2 k E) G) :
  ∃G',Dropped n k i vf (.slice (some ⟨g,0,none⟩) G.length c) v7 E G G' x L w (w8.setCell ⟨g,i*3+2,none⟩ (.pointer (some ⟨b,0,none⟩)))∧G'.length=G.length:=by
 have hS:=v0o (q:=⟨x,L,b,v⟩) hN hs (zb _ _) hi hx hR ha
 obtain⟨_,vb',G',hN9,hp,hbl,hfr⟩:=hS
 have hgn:g≠n:=h.vb_ne rfl
 have e1:(w8.setCell ⟨g,i*3+2,none⟩ (.pointer (some ⟨b,0,none⟩))).cell? ⟨n,1,none⟩=w8.cell? ⟨n,1,none⟩:=World.cell?_of_block (a:=⟨n,1,none⟩) (G6 (Ne.symm hgn))
 have hvb:vb'= .slice (some ⟨g,0,none⟩) G.length c:=by
  have h1:=hN9.c1
  rw[e1,hN.c1]at h1
  injection h1 with h1;exact h1.symm
 subst hvb
 have hs8:=hf.size
 have hsr:=hb.size
 have hlen:G'.length=G.length:=by
  have:=congrArg List.length hp
  rw[List.length_map,k9x M0 hs (i:=i) (by rw[List.length_map];exact hi) (by rw[List.getElem_map];exact hx),List.length_set,List.length_map]at this
  exact this
 refine⟨G',⟨hN9,hp,fun j hj=> ?_,fun j e=>Nat.le_trans hsr (h7 j e),?_⟩,hlen⟩
 ·rcases hbl j hj with h3|h3|h3|h3
  ·exact .inl h3
  ·exact .inr (by have h3:j=b:=h3;omega)
  ·exact .inr (hv j h3)
  ·exact .inr (by omega)
 ·exact((FrS.of_below (S:=fun b=>b∈blkN n (.slice (some ⟨g,0,none⟩) G.length c) G) hb).trans hf fun j hj=> .inl (hj▸j9d)).trans hfr fun j hj=> .inl hj
theorem Dropped.keepTo{n k i:Nat}{vf vb v7:Value}{E:REL}{G G':List RBE}{x:Idn}{L:HldL}{w w9 w':World}(h:Dropped n k i vf vb v7 E G G' x L w w9)(hb:Below w9.heap.size w9 w')(ha:((U2 k E).map fxE).any (fun q=>decide (repR q.2=x))=true) :
  RNTo n (j9a n vf vb E G) ⟨(U2 k E).map fxE,z6r ((U2 k E).map fxE) x L (G.map prG)⟩ w w':=
 ⟨v7,vb,_,G',h.node.below hb,by rw[Y8,h.bins];unfold z6r;rw[if_pos ha],v2r h.blk h.own,h.fr.thenB hb⟩
theorem Dropped.delTo{n k i base:Nat}{vf vb v7 v8:Value}{E:REL}{G G':List RBE}{x:Idn}{L:HldL}{w w9 wr w7:World}(h:Dropped n k i vf vb v7 E G G' x L w w9)(hs:K1 Q2 (G.map prG))(hl:G'.length=G.length)(hi:i<G.length)(hx:G[i].x=x)(hb:Below w9.heap.size w9 wr)(hb7:Below wr.heap.size wr w7)(ho:w7.ownsRow base 54 3 v8 (0+i+(G.length-(i+1))) (([]++(J2 G').take (i*3))++(J2 G').drop ((i+1)*3)))(hbase:wr.heap.size≤base)
  (ha:((U2 k E).map fxE).any (fun q=>decide (repR q.2=x))=false):RNTo n (j9a n vf vb E G) ⟨(U2 k E).map fxE,z6r ((U2 k E).map fxE) x L (G.map prG)⟩ w (w7.setCell ⟨n,1,none⟩ v8):=by
 rw[←hl]at ho
 obtain⟨h1,h2,h3⟩:=(h.node.below hb).delG hb7 (by omega) ho hbase
 have hsz:=h.fr.size
 have hsz2:=hb.size
 refine⟨v7,v8,_,U2 i G',h1,?_,v2r (fun j hj=> ?_) h.own,(h.fr.thenB hb).trans h3 fun j hj=> .inl (hj▸j9d)⟩
 ·rw[Y8,v2j prG i G',h.bins,v2n M0 hs (by rw[List.length_map];exact hi) (by rw[List.getElem_map];exact hx)]
  unfold z6r
  rw[if_neg (by rw[ha];simp)]
 ·rcases U8.1 hj with e|e|⟨p,hp,e⟩
  ·exact .inl (e▸j9d)
  ·exact .inr (by have:=h2 j e;omega)
  ·exact h.blk j (U8.2 (.inr (.inr ⟨p,(v2l i G').mem hp,e⟩)))
def v2t(n:Nat)(vf vb:Value)(nm:Bytes)(E:REL)(G:List RBE)(w:World)(e:Ending)(w':World):Prop:=
 e= .returned (.int .i64 (M1 nm (J9 E G)).2)∧RNTo n (j9a n vf vb E G) (M1 nm (J9 E G)).1 w w'
end Go.Proofs.YtdmlghfggninbaaGreatDoor
