/- NdA, NdP, NdF, NdS in one text. Conditions: as each part says. -/
import Derived.Test.YtdmlghfggninbaaGreatDoorMb14
import Derived.Test.YtdmlghfggninbaaGreatDoorMb7
set_option linter.unusedVariables false
set_option linter.unusedSimpArgs false
set_option maxHeartbeats 2000000
set_option maxRecDepth 100000
namespace Go.Proofs.YtdmlghfggninbaaGreatDoor
open Go.RowKit Go.Lib Go.Maps Go.WideMaps
def Node(n:Nat)(P:PNode)(f:Foot)(w:World):Prop:=Thing (j2i n P f) f w
theorem ONode.foot{n fm bm:Nat}{F:FL}{B:BL}{w:World}(h:ONode n fm bm F B w):(J5 n fm bm F B).lt w.heap.size:=fun k hk=>by
 rcases hk with hk|hk|⟨q,hq,rfl⟩|⟨q,hq,hk,hne⟩
 ·exact h.lt k hk
 ·rw[hk];exact h.nlt
 ·exact h.ltB q hq
 ·obtain⟨A,c,hv,_,_,hx⟩:=h.rd q hq
  obtain⟨g,o,hA,hg,_⟩:=hx (List.length_pos_iff.2 hne)
  rw[hv,hA]at hk
  injection hk with hk
  rw[←hk];exact hg
theorem ONode.node{n fm bm:Nat}{F:FL}{B:BL}{w:World}(h:ONode n fm bm F B w):Node n (Q0 F B) (J5 n fm bm F B) w:=
 ⟨h.foot,fun _ hz hk=>⟨fm,bm,F,B,h.keepH hz (fun k _ hm=>hk k hm),rfl,rfl⟩⟩
theorem Node.at{n:Nat}{P:PNode}{f:Foot}{w:World}(h:Node n P f w):∃fm bm F B,ONode n fm bm F B w∧Q0 F B=P∧J5 n fm bm F B=f:=Thing.now h
theorem ONode.keysF{n fm bm:Nat}{F:FL}{B:BL}{w:World}(_:ONode n fm bm F B w)(hP:NodeOk (Q0 F B)):∀p∈F,X6 p.1:=fun p hp=>by
 have hm:(p.1,p.2.r)∈K7 FE.r F:=List.mem_map_of_mem (f:=fun p:Bytes×FE=>(p.1,p.2.r)) hp
 obtain⟨s,h1,_⟩:=hP.file p.1 p.2.r (Z5 U3 hP.fsrt hm)
 have:=z1w h1
 unfold X6 maxLen;omega
theorem ONode.keysB{n fm bm:Nat}{F:FL}{B:BL}{w:World}(_:ONode n fm bm F B w)(hP:NodeOk (Q0 F B)):∀p∈B,R5 p.1:=fun p hp=>by
 have hm:(p.1,p.2.L)∈K7 BE.L B:=List.mem_map_of_mem (f:=fun p:Idn×BE=>(p.1,p.2.L)) hp
 exact(hP.bin p.1 p.2.L (Z5 M0 hP.bsrt hm)).1
theorem ONode.keysFW{F:FL}{B:BL}(hP:NodeW (Q0 F B)):∀p∈F,X6 p.1:=fun p hp=>by
 have:p.1.length≤30:=(hP.fk (p.1,p.2.r) (List.mem_map_of_mem (f:=fun p:Bytes×FE=>(p.1,p.2.r)) hp)).1
 unfold X6 maxLen;omega
theorem ONode.keysBW{F:FL}{B:BL}(hP:NodeW (Q0 F B)):∀p∈B,R5 p.1:=fun p hp=>(hP.bk (p.1,p.2.L) (List.mem_map_of_mem (f:=fun p:Idn×BE=>(p.1,p.2.L)) hp)).1
theorem ONode.srtF{F:FL}{B:BL}(hP:NodeOk (Q0 F B)):K1 bytesBefore F:=z4z.1 hP.fsrt
theorem ONode.srtB{F:FL}{B:BL}(hP:NodeOk (Q0 F B)):K1 Q2 B:=z4z.1 hP.bsrt
theorem j3a(w:World):Calls Tryz.prog 8 #[] w fun e w'=>∃n f,e= .returned (.pointer (some ⟨n,0,none⟩))∧Node n ⟨[],[]⟩ f w'∧f.ge w.heap.size∧Below w.heap.size w w':=by
 have hmm:= @run_makeMap Tryz.prog
 go_enter Tryz.func8,Tryz.ntmps8
 go_wp2
 go_ret
 have h1:AlMap Tryz.prog 9 C9 feV w.heap.size ([]:FL) (w.alloc (.map #[] 0)):=AlMap.made w feV
 have h2:AlMap Tryz.prog 25 Z6 beV (w.alloc (.map #[] 0)).heap.size ([]:BL) ((w.alloc (.map #[] 0)).alloc (.map #[] 0)):=AlMap.made _ beV
 have hb1:Below (w.alloc (.map #[] 0)).heap.size (w.alloc (.map #[] 0)) ((w.alloc (.map #[] 0)).alloc (.map #[] 0)):=(zb _ _).alloc (zl _) _
 have h1':=h1.below hb1
 have hs1:(w.alloc (.map #[] 0)).heap.size=w.heap.size+1:=by simp
 have hs2:((w.alloc (.map #[] 0)).alloc (.map #[] 0)).heap.size=w.heap.size+2:=by simp
 rw[hs1]at h2
 have hn:=heap_alloc_new ((w.alloc (.map #[] 0)).alloc (.map #[] 0)) (.cells #[.map (some w.heap.size),.map (some (w.heap.size+1))] 81)
 rw[hs2]at hn
 have hb2:Below ((w.alloc (.map #[] 0)).alloc (.map #[] 0)).heap.size ((w.alloc (.map #[] 0)).alloc (.map #[] 0)) (((w.alloc (.map #[] 0)).alloc (.map #[] 0)).alloc (.cells #[.map (some w.heap.size),.map (some (w.heap.size+1))] 81)):=(zb _ _).alloc (zl _) _
 have ho:ONode (w.heap.size+2) w.heap.size (w.heap.size+1) [] [] (((w.alloc (.map #[] 0)).alloc (.map #[] 0)).alloc (.cells #[.map (some w.heap.size),.map (some (w.heap.size+1))] 81)):=
  ⟨hn,h1'.below hb2,h2.below hb2,fun q hq=>absurd hq List.not_mem_nil,fun q hq=>absurd hq List.not_mem_nil,by simp⟩
 refine⟨w.heap.size+2,_,rfl,ho.node,fun k hk=> ?_,(((zb _ _).alloc (zl _) _).alloc (by simp) _).alloc (by simp;omega) _⟩
 rcases hk with(rfl|rfl|⟨q,hq,_⟩)|rfl|⟨q,hq,_⟩|⟨q,hq,_⟩
 all_goals first|omega|exact absurd hq List.not_mem_nil
def j3b(P:PNode)(x:Idn)(w:World)(e:Ending)(w':World):Prop:=match Q1 P.bins x with
 | none=>e= .returned (.pointer none)∧Below w.heap.size w w'
 | some L=>∃b2 mb2,e= .returned (.pointer (some ⟨b2,0,none⟩))∧OBin b2 mb2 L w'∧w.heap.size≤b2∧w.heap.size≤mb2∧Below w.heap.size w w'
theorem j3c(n fm bm:Nat)(F:FL)(B:BL)(hP:NodeW (Q0 F B))(x:Idn)(hx:IdOk x)(w:World)(h:ONode n fm bm F B w) :
  Calls Tryz.prog 14 #[.pointer (some ⟨n,0,none⟩),idV x] w (j3b (Q0 F B) x w):=by
 have hb0:Below w.heap.size w (w.alloc (.cells #[.int .u32 (x.1:Int),.int .i64 x.2] 25)):=(zb _ w).alloc (zl _) _
 have HB0:=zh hb0
 have HN:=zh (h.below hb0)
 have HX:=zh (Box2.mk' w (.int .u32 (x.1:Int)) (.int .i64 x.2) 25)
 have LK:=zh (fun w' (h':ONode n fm bm F B w')=>h'.bins.at idRd (ONode.keysBW hP) Tryz.underlying79 (j2h w') hx)
 have hg:Q1 (Q0 F B).bins x=(Q1 B x).map BE.L:=G9 _ _ _
 unfold j3b
 rw[hg]
 cases hgb:Q1 B x with
 | none=>
  rw[hgb]at LK
  clear hb0 hg hgb h hP hx
  simp only[Option.map_none,Option.getD_none]at LK ⊢
  go_enter Tryz.func14,Tryz.ntmps14
  go_wp2_with fail
  generalize w.alloc (.cells #[.int .u32 (x.1:Int),.int .i64 x.2] 25)=w1 at *
  go_wp2
  have hS0:Below w1.heap.size w1 w1.drew:=(zb _ _).drew
  refine kR (fun w'=>Below w1.heap.size w1 w') 6 ?_
  refine kT 0 hS0 ?_
  refine kT 1 hS0 ?_
  refine kT 2 hS0 ?_
  refine kS 3 rfl hS0 (fun w' hS=>by have A0:=(HN.out.below hS).c1;go_simp;rfl) ?_
  refine kS 4 rfl hS0 (fun w' hS=>by have A0:=(HX.out.below hS HX.out.lt).c0;have A1:=(HX.out.below hS HX.out.lt).c1;go_simp;rfl) ?_
  refine kS 5 rfl hS0 (fun w' hS=>by have A0:=LK.out w' (HN.out.below hS);go_simp;rfl) (kF ?_)
  try simp only[Act.put,zM]
  simp only[List.drop_succ_cons,List.drop_zero]
  have HB1:=zh (HB0.out.trans (hS0.mono HB0.out.size))
  clear hS0
  go_wp2
  go_ret
  exact⟨rfl,HB1.out⟩
 | some be=>
  rw[hgb]at LK
  simp only[Option.map_some,Option.getD_some]at LK ⊢
  unfold beV at LK
  have HO:Hid (∀w',ONode n fm bm F B w'→OBin be.b be.mb be.L w'):=zh (fun w' h'=>h'.bin (x,be) (Y4 hgb))
  clear hb0 hg hgb h hP hx
  go_enter Tryz.func14,Tryz.ntmps14
  go_wp2_with fail
  generalize w.alloc (.cells #[.int .u32 (x.1:Int),.int .i64 x.2] 25)=w1 at *
  go_wp2
  have hS0:Below w1.heap.size w1 w1.drew:=(zb _ _).drew
  refine kR (fun w'=>Below w1.heap.size w1 w') 6 ?_
  refine kT 0 hS0 ?_
  refine kT 1 hS0 ?_
  refine kT 2 hS0 ?_
  refine kS 3 rfl hS0 (fun w' hS=>by have A0:=(HN.out.below hS).c1;go_simp;rfl) ?_
  refine kS 4 rfl hS0 (fun w' hS=>by have A0:=(HX.out.below hS HX.out.lt).c0;have A1:=(HX.out.below hS HX.out.lt).c1;go_simp;rfl) ?_
  refine kS 5 rfl hS0 (fun w' hS=>by have A0:=LK.out w' (HN.out.below hS);go_simp;rfl) (kF ?_)
  try simp only[Act.put,zM]
  simp only[List.drop_succ_cons,List.drop_zero]
  have HN1:=zh (HN.out.below hS0)
  have HB1:=zh (HB0.out.trans (hS0.mono HB0.out.size))
  clear hS0
  go_wp2_with fail
  refine(j1r be.b be.mb be.L _ (HO.out _ HN1.out)).mono ?_
  rintro e w3 ⟨b2,mb2,rfl,ho,h1,h2,hb3⟩
  have hz:=HB1.out.size
  have HB3:=zh (HB1.out.trans (hb3.mono hz))
  have HO3:=zh ho
  clear ho hb3
  go_wp2
  go_ret
  exact⟨b2,mb2,rfl,HO3.out,Nat.le_trans hz h1,Nat.le_trans hz h2,HB3.out⟩
def sumA(left:Lit→Bool)(B:BL):Int:=((B.filter fun q=> !left (Z6 q.1)).map fun q=>J8 q.2.L).sum
theorem j3d(left:Lit→Bool)(y:Idn×BE)(r:BL):sumA left (y::r)=(if left (Z6 y.1)=true then 0 else J8 y.2.L)+sumA left r:=by
 unfold sumA
 rw[List.filter_cons]
 cases left (Z6 y.1)<;>simp
theorem j3e{B:BL}(hB:∀y∈B,R5 y.1):sumA (Maps.has (alD Z6 beV B)) B=0:=by
 have:(B.filter fun q=> !Maps.has (alD Z6 beV B) (Z6 q.1))= []:=by
  rw[List.filter_eq_nil_iff]
  intro q hq
  rw[z5l M0 beV hB (hB q hq).1]
  cases hg:Q1 B q.1 with
  | some _=>simp
  | none=>exact absurd rfl (V4.1 hg q hq)
 unfold sumA
 rw[this];rfl
theorem j3f{left:Lit→Bool}{o:Idn×BE}(ho:R5 o.1)(hl:left (Z6 o.1)=true):∀ {M:BL},K1 Q2 M→(∀y∈M,R5 y.1) →
  sumA (fun z=>left z&& !z.sameKey (Z6 o.1)) M=sumA left M+((Q1 M o.1).map fun q=>J8 q.L).getD 0
 | [],_,_=>by simp[sumA,Q1]
 | y::r,hs,hM=>by
  obtain⟨h1,h2⟩:=G3.1 hs
  have ih:=j3f ho hl h2 (fun z hz=>hM z (List.mem_cons_of_mem _ hz))
  rw[j3d,j3d,ih,R7 (hM y List.mem_cons_self).1 ho.1,J3]
  by_cases e:y.1=o.1
  ·have hn:Q1 r o.1=none:=V4.2 fun z hz e2=>q0j (h1 z hz) (e.trans e2.symm)
   rw[if_pos e,hn,e,hl];simp;omega
  ·rw[if_neg e]
   simp only[e,decide_false,Bool.not_false,Bool.and_true]
   omega
theorem j3g{left:Lit→Bool}{B:BL}(hl:∀kl,left kl=false)(F:FL):sumA left B=D5 (Q0 F B):=by
 unfold sumA D5 Q0 K7
 rw[List.filter_eq_self.2 (fun h _=>by simp[hl]),List.map_map];rfl
theorem j3h{left:Lit→Bool}{B:BL}(h:∀q∈B,0≤J8 q.2.L∧J8 q.2.L≤16000):0≤sumA left B∧sumA left B≤16000*B.length:=by
 induction B with
 | nil=>simp[sumA]
 | cons y r ih=>
  have h1:=ih (fun x hx=>h x (List.mem_cons_of_mem _ hx))
  have h2:=h y List.mem_cons_self
  rw[j3d,List.length_cons]
  split<;>omega
theorem NodeOk.binOf{F:FL}{B:BL}(hP:NodeOk (Q0 F B)){q:Idn×BE}(hq:q∈B):BinOk 7500 q.2.L∧q.2.L.length≤250∧0≤J8 q.2.L∧J8 q.2.L≤16000:=by
 have hm:(q.1,q.2.L)∈K7 BE.L B:=List.mem_map_of_mem (f:=fun p:Idn×BE=>(p.1,p.2.L)) hq
 have hg:=Z5 M0 hP.bsrt hm
 have h1:=hP.bin7 hg
 have h2:=(hP.bin _ _ hg).2.2.1
 have h3:=h1.size
 simp only at h1 h2 h3
 exact⟨h1,h2,by omega⟩
theorem NodeOk.blenF{F:FL}{B:BL}(hP:NodeOk (Q0 F B)):B.length≤30:=by
 have h1:=hP.blen
 have h2:=hP.flen
 simp only[Q0,W5]at h1 h2
 omega
theorem j3i(n fm bm:Nat)(F:FL)(B:BL)(hP:NodeOk (Q0 F B))(w:World)(h:ONode n fm bm F B w) :
  Calls Tryz.prog 31 #[.pointer (some ⟨n,0,none⟩)] w fun e w'=>e= .returned (.int .i64 (D5 (Q0 F B)))∧Below w.heap.size w w':=by
 have HN:=zh h
 have HP:=zh hP
 have HKB:=zh (h.keysB hP)
 have c1:=h.c1
 have hnl:=h.nlt
 have hml:=h.bins.blt
 have hbl:=hP.blenF
 clear h hP
 go_enter Tryz.func31,Tryz.ntmps31
 go_wp2_with(first|(at_range;refine wpList_range_own _ rfl _ 79 rfl 25 47 lawI Tryz.underlying79 rawE bm B.length (alD Z6 beV B) rfl HN.out.bins ?_;intro w0 hrg0 hg0 hs0)|fail)
 go_frame
 have HRG0:=zh hrg0
 have HG0:=zh hg0
 have HS0:=zh hs0
 clear hrg0 hg0 hs0
 go_loopg [3] (Maps.size (alD Z6 beV B)) (fun gh v3 wr=>∃(left:Lit→Bool) (z:Int),wr.ranges Tryz.prog 25 rawE bm w.heap.size B.length (alD Z6 beV B) left gh∧v3= .int .i64 z∧Hid (z=sumA left B)∧0≤z∧z≤16000*(B.length:Int)∧Below w.heap.size w wr)
 case atStart=>exact⟨_,0,HRG0.out,rfl,zh (j3e HKB.out).symm,by omega,by omega,(zb _ _).grown HG0.out (zl _) (fun j hj=>by cases hj)⟩
 case round=>
  obtain⟨left,z,hrg,rfl,hz,hz0,hz1,hB⟩:=hrel
  go_wp2_with(first|(at_next;refine wpList_next_ranges _ rfl _ rfl 25 lawI rawE idV id idRd.mk_inv z5q bm w.heap.size B.length (alD Z6 beV B) left _ rfl hrg ?_ ?_)|fail)
  ·intro _ hl0
   have HZ:Hid (z=D5 (Q0 F B)):=zh (hz.out.trans (j3g hl0 F))
   clear hl0
   go_wp2
   go_ret
   exact⟨by rw[HZ.out];rfl,hB⟩
  ·intro x1 x2 c kl yd yp w2 cnt2 hkey hlk hv hat hrg2 hlt hg2 hs2 hen
   obtain⟨rfl,hx,be,hm,rfl⟩:=z5r idRd (x:=(x1,x2)) HKB.out hkey hv hat
   have hq:=HP.out.binOf hm
   simp only at hq
   have hok0:=HKB.out _ hm
   have hst:=j3f (o:=((x1,x2),be)) hok0 hlk (ONode.srtB HP.out) HKB.out
   rw[Z5 M0 (ONode.srtB HP.out) hm,←hz.out]at hst
   simp only[Option.map_some,Option.getD_some]at hst
   have HST:=zh hst
   have hbd:=j3h (left:=fun z=>left z&& !z.sameKey (Z6 (x1,x2))) (B:=B) (fun q hq=>⟨(HP.out.binOf hq).2.2.1,(HP.out.binOf hq).2.2.2⟩)
   rw[hst]at hbd
   have hb2:Below w.heap.size w w2:=hB.grown hg2 hB.size (fun j hj=>by cases hj;exact zl _)
   have HB2:=zh hb2
   have HRG2:=zh hrg2
   have HSZ:=zh (j1i be.b be.mb be.L 7500 hq.1 (by omega) w2 ((HN.out.below hb2).bin _ hm))
   have hs1:=hq.2.2
   have hsz2:=hb2.size
   clear hkey hlk hv hat hrg2 hg2 hs2 hst hz hB hb2 hx hm hrg hq hok0
   unfold beV at *
   go_wp2_with fail
   refine HSZ.out.mono ?_
   rintro e w3 ⟨rfl,hb3⟩
   have HB3:=zh (HB2.out.trans (hb3.mono hsz2))
   have HRG3:=zh (HRG2.out.kept (X7 (r:=none) hb3) (by simp) (by simp))
   clear hb3
   go_wp2
   go_roundg cnt2
   case measure=>exact hlt
   case rel=>exact⟨_,z+J8 be.L,HRG3.out,rfl,zh HST.out.symm,hbd.1,hbd.2,HB3.out⟩
theorem RdI.stay{w w':World}{B:Nat}{v:Value}{L:IdL}(h:RdI w B v L)(hs:Stay w w'):RdI w' B v L:=by
 obtain⟨A,c,hv,hl,hc,hx⟩:=h
 refine⟨A,c,hv,hl,hc,fun h0=> ?_⟩
 obtain⟨g,o,hA,hg,hcell⟩:=hx h0
 exact⟨g,o,hA,hg,fun k u hu=>hs _ _ (hcell k u hu)⟩
section
variable {K V U:Type} [DecidableEq K] {lt:K→K→Bool}
theorem C2(g:V→U){k:K}{v:V}{L:List (K×V)}{u:U}(h:u∈(Q9 lt k v L).map (fun q=>g q.2)):u=g v∨u∈L.map (fun q=>g q.2):=by
 obtain⟨q,hq,rfl⟩:=List.mem_map.1 h
 rcases V9 hq with rfl|hq
 ·exact .inl rfl
 ·exact .inr (List.mem_map_of_mem (f:=fun q:K×V=>g q.2) hq)
theorem j3j(g:V→U){k:K}{v:V}:∀ {L:List (K×V)},(L.map (fun q=>g q.2)).Nodup→g v∉L.map (fun q=>g q.2)→((Q9 lt k v L).map (fun q=>g q.2)).Nodup
 | [],_,_=>by simp[Q9]
 | y::r,hn,hv=>by
  rw[List.map_cons,List.nodup_cons]at hn
  rw[List.map_cons,List.mem_cons,not_or]at hv
  unfold Q9
  split
  ·rw[List.map_cons,List.nodup_cons];exact⟨hv.2,hn.2⟩
  ·split
   ·rw[List.map_cons,List.map_cons,List.nodup_cons,List.nodup_cons,List.mem_cons,not_or];exact⟨hv,hn⟩
   ·rw[List.map_cons,List.nodup_cons]
    refine⟨fun hm=> ?_,j3j g hn.2 hv.2⟩
    rcases C2 g hm with e|e
    ·exact hv.1 e.symm
    ·exact hn.1 e
theorem j3k(k:K)(v:V):∀(L:List (K×V)),K3 k (Q9 lt k v L)=K3 k L
 | []=>by simp[Q9,K3]
 | y::r=>by
  unfold Q9
  by_cases e:y.1=k
  ·rw[if_pos e];unfold K3;simp[e]
  ·rw[if_neg e]
   split
   ·unfold K3;simp
   ·have:=j3k k v r
    unfold K3 at this ⊢
    rw[List.filter_cons,List.filter_cons,this]
end
theorem ONode.cells_ne{n fm bm:Nat}{F:FL}{B:BL}{w:World}(h:ONode n fm bm F B w){k:Nat}(hk:∃cs t z,w.heap[k]? =some (.cells cs t z)):k≠fm∧k≠bm:=by
 obtain⟨cs,t,z,hk⟩:=hk
 obtain⟨e1,c1,h1⟩:=h.files.isMap
 obtain⟨e2,c2,h2⟩:=h.bins.isMap
 refine⟨fun e=> ?_,fun e=> ?_⟩
 ·rw[e,h1]at hk;cases hk
 ·rw[e,h2]at hk;cases hk
theorem ONode.setF{n fm bm:Nat}{F F':FL}{B:BL}{w w':World}(h:ONode n fm bm F B w)(hg:w.grownBy w' (some fm))(hs:Stay w w')(hm:AlMap Tryz.prog 9 C9 feV fm F' w')(hr:∀q∈F',q∈F∨RdI w' w'.heap.size q.2.sl q.2.r.ids):ONode n fm bm F' B w':=by
 have hnd:=h.nd
 rw[List.nodup_cons,List.nodup_cons]at hnd
 have ne:∀ {k:Nat},k≠fm→some k≠some fm:=fun hk e=>hk (by injection e)
 refine⟨(hg.block n h.nlt (ne (h.cells_ne ⟨_,_,_,h.row⟩).1)).trans h.row,hm,h.bins.keep (hg.block bm h.bins.blt (ne fun e=>hnd.1 (by rw[e];exact List.mem_cons_self))),fun q hq=> ?_,fun q hq=> ?_,h.nd⟩
 ·rcases hr q hq with h1|h1
  ·exact((h.rd q h1).stay hs).more hg.size
  ·exact h1
 ·have ho:=h.bin q hq
  exact ho.keep (hg.block _ ho.lt (ne (h.cells_ne ⟨_,_,_,ho.row⟩).1)) (hg.block _ ho.map.lt (ne fun e=>hnd.1 (List.mem_cons_of_mem _ (e▸List.mem_map_of_mem (f:=fun q:Idn×BE=>q.2.mb) hq))))
theorem ONode.setB{n fm bm:Nat}{F:FL}{B B':BL}{w w':World}(h:ONode n fm bm F B w)(hg:w.grownBy w' (some bm))(hs:Stay w w')(hm:AlMap Tryz.prog 25 Z6 beV bm B' w')(hr:∀q∈B',q∈B∨OBin q.2.b q.2.mb q.2.L w')(hnd':(fm::bm::B'.map (fun q=>q.2.mb)).Nodup):ONode n fm bm F B' w':=by
 have hnd:=h.nd
 rw[List.nodup_cons,List.nodup_cons]at hnd
 have ne:∀ {k:Nat},k≠bm→some k≠some bm:=fun hk e=>hk (by injection e)
 refine⟨(hg.block n h.nlt (ne (h.cells_ne ⟨_,_,_,h.row⟩).2)).trans h.row,h.files.keep (hg.block fm h.files.blt (ne fun e=>hnd.1 (by rw[←e];exact List.mem_cons_self))),hm,fun q hq=>((h.rd q hq).stay hs).more hg.size,fun q hq=> ?_,hnd'⟩
 rcases hr q hq with h1|h1
 ·have ho:=h.bin q h1
  exact ho.keep (hg.block _ ho.lt (ne (h.cells_ne ⟨_,_,_,ho.row⟩).2)) (hg.block _ ho.map.lt (ne fun e=>hnd.2.1 (e▸List.mem_map_of_mem (f:=fun q:Idn×BE=>q.2.mb) h1)))
 ·exact h1
theorem j3l{n fm bm:Nat}{F:FL}{B:BL}{nm:Bytes}{fe:FE}{x:Idn}{be:BE}{b:Nat}(h1:∀k,fe.sl.ownBlock=some k→fe.r.ids≠ []→b≤k)(h2:b≤be.b)(h3:b≤be.mb) :
  (J5 n fm bm F B).new (J5 n fm bm (Q9 bytesBefore nm fe F) (Q9 Q2 x be B)) b:=fun k=>by
 refine⟨?_,?_⟩
 ·rintro(rfl|rfl|⟨q,hq,rfl⟩)
  ·exact .inl (.inl rfl)
  ·exact .inl (.inr (.inl rfl))
  ·rcases V9 hq with rfl|hq
   ·exact .inr h3
   ·exact .inl (.inr (.inr ⟨q,hq,rfl⟩))
 ·rintro(rfl|⟨q,hq,rfl⟩|⟨q,hq,e,hne⟩)
  ·exact .inl (.inl rfl)
  ·rcases V9 hq with rfl|hq
   ·exact .inr h2
   ·exact .inl (.inr (.inl ⟨q,hq,rfl⟩))
  ·rcases V9 hq with rfl|hq
   ·exact .inr (h1 k e hne)
   ·exact .inl (.inr (.inr ⟨q,hq,e,hne⟩))
theorem RdB.above{w:World}{lo hi:Nat}{v:Value}{L:IdL}(h:RdB w lo hi v L):∀k,v.ownBlock=some k→L≠ []→lo≤k:=fun k e hne=>by
 obtain⟨A,c,hv,_,hx⟩:=h
 obtain⟨g,o,hA,h1,_⟩:=hx (List.length_pos_iff.2 hne)
 rw[hv,hA]at e
 injection e with e
 rw[←e];exact h1
end Go.Proofs.YtdmlghfggninbaaGreatDoor
namespace Go.Proofs.YtdmlghfggninbaaGreatDoor
open Go.RowKit Go.Lib Go.Maps Go.WideMaps Go.ChangeMaps
theorem j3m{w w':World}{b:Nat}(h:w.mapTurned w' b):Stay w w':=by
 obtain⟨es,clock,es',clock',hb,rfl⟩:=h
 exact j2j hb
section
variable {K V:Type} {P:Program} {k:TypeId} {lit:K→Lit} {lt:K→K→Bool} {ok okw:K→Prop} {kv:K→Value} [DecidableEq K]
theorem AlMap.upd(R:KeyRd P k lit lt ok okw kv){f:V→Value}{mb:Nat}{L:List (K×V)}{w:World}(h:AlMap P k lit f mb L w)(hs:K1 lt L)(hL:∀p∈L,ok p.1){t e:TypeId}(ht:P.underlying t=some (.map k e))(hn:L.length<maxLen)(x:K)(v:V)(hx:ok x) :
  ∃w',(Instr.mapUpdate t (.map (some mb)) (kv x) (f v)).run P w= .ok () w'∧AlMap P k lit f mb (Q9 lt x v L) w'∧Stay w w'∧w.grownBy w' (some mb):=by
 obtain⟨w',h6,h7,h8⟩:=World.ownsMap.store h R.law ht hn (R.key (R.emb.wide hx)) (show rawE (f v)=some (.held (f v),[])from rfl)
 exact⟨w',h6,AlMap.put R hs hL x v hx h7,j3m h8,h8.grown⟩
theorem AlMap.drop(R:KeyRd P k lit lt ok okw kv){f:V→Value}{mb:Nat}{L:List (K×V)}{w:World}(h:AlMap P k lit f mb L w)(hL:∀p∈L,ok p.1){t e:TypeId}(ht:P.underlying t=some (.map k e))(x:K)(hx:ok x)(ty:TypeId) :
  ∃w',(Builtin.delete_ #[t,k] ty #[.map (some mb),kv x]).run P w= .ok (.tuple #[]) w'∧AlMap P k lit f mb (K3 x L) w'∧Stay w w'∧w.grownBy w' (some mb):=by
 obtain⟨w',h6,h7,h8⟩:=World.ownsMap.drop h R.law ht (R.key (R.emb.wide hx)) ty
 exact⟨w',h6,AlMap.del R hL x hx h7,j3m h8,h8.grown⟩
theorem j3n{k:K}{L:List (K×V)}{q:K×V}(h:q∈K3 k L):q∈L:=(z5g.1 h).1
end
theorem j3o{n fm bm:Nat}{F F':FL}{B B':BL}{b:Nat}(hF:∀q∈F',q∈F)(hB:∀q∈B',q∈B∨(b≤q.2.b∧b≤q.2.mb)) :
  (J5 n fm bm F B).new (J5 n fm bm F' B') b:=fun k=>by
 refine⟨?_,?_⟩
 ·rintro(rfl|rfl|⟨q,hq,rfl⟩)
  ·exact .inl (.inl rfl)
  ·exact .inl (.inr (.inl rfl))
  ·rcases hB q hq with h|h
   ·exact .inl (.inr (.inr ⟨q,h,rfl⟩))
   ·exact .inr h.2
 ·rintro(rfl|⟨q,hq,rfl⟩|⟨q,hq,e,hne⟩)
  ·exact .inl (.inl rfl)
  ·rcases hB q hq with h|h
   ·exact .inl (.inr (.inl ⟨q,h,rfl⟩))
   ·exact .inr h.1
  ·exact .inl (.inr (.inr ⟨q,hF q hq,e,hne⟩))
end Go.Proofs.YtdmlghfggninbaaGreatDoor
namespace Go.Proofs.YtdmlghfggninbaaGreatDoor
open Go.RowKit Go.Lib Go.Maps Go.WideMaps
theorem j3p{w w':World}{mb:Nat}(hm:∃es clock,w.heap[mb]? =some (.map es clock))(hg:w.grownBy w' (some mb)):Stay w w':=by
 intro p v hv
 obtain⟨es,clock,hb⟩:=hm
 have hl:p.block<w.heap.size:=World.block_lt_of_cell? w p hv
 rw[←hv]
 refine World.cell?_of_block (hg.block p.block hl ?_)
 intro e
 injection e with e
 unfold World.cell? at hv
 rw[e,hb]at hv
 simp at hv
theorem OBin.isMap{b mb:Nat}{L:HldL}{w:World}(h:OBin b mb L w):∃es clock,w.heap[mb]? =some (.map es clock):=by
 obtain⟨es,clock,e1,_⟩:=h.map
 exact⟨es,clock,e1⟩
def swB(ks:List Idn)(B:BL):BL:=B.map fun q=>(q.1,if q.1∈ks then⟨J6 q.2.L,q.2.b,q.2.mb⟩else q.2)
theorem j3q(B:BL):swB [] B=B:=by unfold swB;simp
theorem j3r(ks:List Idn)(B:BL):(swB ks B).map (fun q=>q.2.mb)=B.map (fun q=>q.2.mb):=by
 unfold swB
 rw[List.map_map]
 refine List.map_congr_left fun q _=> ?_
 show(if q.1∈ks then(⟨J6 q.2.L,q.2.b,q.2.mb⟩:BE)else q.2).mb=q.2.mb
 split<;>rfl
theorem j3s(ks:List Idn)(B:BL):alD Z6 beV (swB ks B)=alD Z6 beV B:=by
 unfold alD swB
 rw[List.map_map]
 congr 1
 refine List.map_congr_left fun q _=> ?_
 show(Z6 q.1,DataW.held (beV (if q.1∈ks then(⟨J6 q.2.L,q.2.b,q.2.mb⟩:BE)else q.2)))=(Z6 q.1,DataW.held (beV q.2))
 split<;>rfl
theorem j3t(ks:List Idn)(B:BL):(swB ks B).length=B.length:=by unfold swB;rw[List.length_map]
theorem j3u{ks:List Idn}{B:BL}(h:∀q∈B,q.1∈ks)(F:FL):Q0 F (swB ks B)=M9 (Q0 F B):=by
 unfold Q0 M9 K7 swB
 simp only[List.map_map]
 congr 1
 refine List.map_congr_left fun q hq=> ?_
 show(q.1,(if q.1∈ks then(⟨J6 q.2.L,q.2.b,q.2.mb⟩:BE)else q.2).L)=(q.1,J6 q.2.L)
 rw[if_pos (h q hq)]
theorem j3v{α β:Type}(f:α→β):∀ {l:List α},(l.map f).Nodup→∀ {a b:α},a∈l→b∈l→f a=f b→a=b
 | [],_,_,_,ha,_,_=>absurd ha List.not_mem_nil
 | y::r,h,a,b,ha,hb,e=>by
  rw[List.map_cons,List.nodup_cons]at h
  rcases List.mem_cons.1 ha with e1|ha'
  ·rcases List.mem_cons.1 hb with e2|hb'
   ·rw[e1,e2]
   ·rw[e1]at e
    exact absurd (e▸List.mem_map_of_mem hb') h.1
  ·rcases List.mem_cons.1 hb with e2|hb'
   ·rw[e2]at e
    exact absurd (e▸List.mem_map_of_mem ha') h.1
   ·exact j3v f h.2 ha' hb' e
theorem ONode.sweep1{n fm bm:Nat}{F:FL}{B:BL}{ks:List Idn}{x:Idn}{be:BE}{w w':World}(h:ONode n fm bm F (swB ks B) w)(hsr:K1 Q2 B)(hm:(x,be)∈B)(hx:x∉ks)(ho0:OBin be.b be.mb be.L w)(ho:OBin be.b be.mb (J6 be.L) w')(hg:w.grownBy w' (some be.mb)) :
  ONode n fm bm F (swB (ks++ [x]) B) w':=by
 have hst:=j3p ho0.isMap hg
 have hnd:=h.nd
 rw[j3r]at hnd
 have hnd0:=hnd
 rw[List.nodup_cons,List.nodup_cons]at hnd
 have hmm:be.mb∈B.map (fun q=>q.2.mb):=List.mem_map_of_mem (f:=fun q:Idn×BE=>q.2.mb) hm
 have ne:∀ {k:Nat},k≠be.mb→some k≠some be.mb:=fun hk e=>hk (by injection e)
 have cne:∀ {k:Nat} {cs t z},w.heap[k]? =some (.cells cs t z)→k≠be.mb:=fun {k cs t z} hk e=>by
  obtain⟨es,clock,e1⟩:=ho0.isMap
  rw[e,e1]at hk;cases hk
 refine⟨(hg.block n h.nlt (ne (cne h.row))).trans h.row,h.files.keep (hg.block fm h.files.blt (ne fun e=>hnd.1 (List.mem_cons_of_mem _ (e▸hmm)))),?_,fun q hq=>((h.rd q hq).stay hst).more hg.size,fun q hq=> ?_,by rw[j3r];exact hnd0⟩
 ·have h1:=h.bins.keep (hg.block bm h.bins.blt (ne fun e=>hnd.2.1 (e▸hmm)))
  unfold AlMap at h1 ⊢
  rw[j3s,j3t]at h1 ⊢
  exact h1
 ·obtain⟨q0,hq0,rfl⟩:=List.mem_map.1 hq
  by_cases e:q0.1=x
  ·have e2:q0=(x,be):=z5s M0 hsr hq0 hm e
   subst e2
   simp only[List.mem_append,List.mem_singleton,or_true,if_true]
   exact ho
  ·have hold:((q0.1,if q0.1∈ks then(⟨J6 q0.2.L,q0.2.b,q0.2.mb⟩:BE)else q0.2):Idn×BE)∈swB ks B:=List.mem_map_of_mem (f:=fun q:Idn×BE=>(q.1,if q.1∈ks then(⟨J6 q.2.L,q.2.b,q.2.mb⟩:BE)else q.2)) hq0
   have hk:=h.bin _ hold
   have hmne:q0.2.mb≠be.mb:=fun e3=>e (by
    have:q0=(x,be):=j3v (fun q:Idn×BE=>q.2.mb) hnd.2.2 hq0 hm e3
    rw[this])
   have hmem:(q0.1∈ks++ [x])↔q0.1∈ks:=by rw[List.mem_append,List.mem_singleton];exact⟨fun h=>h.elim id (fun h=>absurd h e),.inl⟩
   simp only[hmem]
   have hmb:(if q0.1∈ks then(⟨J6 q0.2.L,q0.2.b,q0.2.mb⟩:BE)else q0.2).mb=q0.2.mb:=by split<;>rfl
   simp only at hk
   exact hk.keep (hg.block _ hk.lt (ne (cne hk.row))) (hg.block _ hk.map.lt (ne (by rw[hmb];exact hmne)))
def j3w(os:BL):Int:=(os.map fun q=>J8 q.2.L-J8 (J6 q.2.L)).sum
theorem j3x(os:BL)(o:Idn×BE):j3w (os++ [o])=j3w os+(J8 o.2.L-J8 (J6 o.2.L)):=by unfold j3w;rw[List.map_append,List.sum_append];simp
theorem j3y{l m:List Int}(h:l.Perm m):l.sum=m.sum:=by
 induction h with
 | nil=>rfl
 | cons x _ ih=>rw[List.sum_cons,List.sum_cons,ih]
 | swap x y l=>rw[List.sum_cons,List.sum_cons,List.sum_cons,List.sum_cons];omega
 | trans _ _ h1 h2=>exact h1.trans h2
theorem j3z{os B:BL}(h:os.Perm B)(F:FL):j3w os=D5 (Q0 F B)-D5 (M9 (Q0 F B)):=by
 have e:j3w os=j3w B:=j3y (h.map _)
 rw[e]
 unfold j3w D5 M9 Q0 K7
 simp only[List.map_map]
 clear e h os
 induction B with
 | nil=>rfl
 | cons q r ih=>
  simp only[List.map_cons,List.sum_cons,Function.comp_apply]at ih ⊢
  omega
theorem j4a{L:HldL}{n:Int}(h:BinOk n L)(hl:L.length≤250):0≤J8 L-J8 (J6 L)∧J8 L-J8 (J6 L)≤16000:=by
 have h1:=h.size
 have h2:=(z3o h C6).size
 have h3:=(z3o h fun x=> !C6 x).size
 have h4:=j1p L
 have h5:J8 (J6 L)=J8 (L.filter C6):=rfl
 omega
theorem j4b{os:BL}(h:∀q∈os,0≤J8 q.2.L-J8 (J6 q.2.L)∧J8 q.2.L-J8 (J6 q.2.L)≤16000):0≤j3w os∧j3w os≤16000*os.length:=by
 unfold j3w
 induction os with
 | nil=>simp
 | cons q r ih=>
  have h1:=ih (fun z hz=>h z (List.mem_cons_of_mem _ hz))
  have h2:=h q List.mem_cons_self
  rw[List.map_cons,List.sum_cons,List.length_cons];omega
theorem j4c{n fm bm:Nat}{F:FL}{B:BL}(ks:List Idn)(b:Nat):(J5 n fm bm F B).new (J5 n fm bm F (swB ks B)) b:=fun k=>by
 refine⟨?_,?_⟩
 ·rintro(rfl|rfl|⟨q,hq,rfl⟩)
  ·exact .inl (.inl rfl)
  ·exact .inl (.inr (.inl rfl))
  ·obtain⟨q0,hq0,rfl⟩:=List.mem_map.1 hq
   refine .inl (.inr (.inr ⟨q0,hq0,?_⟩))
   show q0.2.mb=(if q0.1∈ks then(⟨J6 q0.2.L,q0.2.b,q0.2.mb⟩:BE)else q0.2).mb
   split<;>rfl
 ·rintro(rfl|⟨q,hq,rfl⟩|h)
  ·exact .inl (.inl rfl)
  ·obtain⟨q0,hq0,rfl⟩:=List.mem_map.1 hq
   refine .inl (.inr (.inl ⟨q0,hq0,?_⟩))
   show q0.2.b=(if q0.1∈ks then(⟨J6 q0.2.L,q0.2.b,q0.2.mb⟩:BE)else q0.2).b
   split<;>rfl
  ·exact .inl (.inr (.inr h))
def j4d(n fm bm:Nat)(F:FL)(B:BL)(w:World)(e:Ending)(w':World):Prop:=
 ∃f',e= .returned (.int .i64 (D5 (Q0 F B)-D5 (M9 (Q0 F B))))∧Node n (M9 (Q0 F B)) f' w'∧FrS (J5 n fm bm F B).S w w'∧(J5 n fm bm F B).new f' w.heap.size
theorem j4e(n fm bm:Nat)(F:FL)(B:BL)(hP:NodeOk (Q0 F B))(w:World)(h:ONode n fm bm F B w) :
  Calls Tryz.prog 35 #[.pointer (some ⟨n,0,none⟩)] w (j4d n fm bm F B w):=by
 have HN:=zh h
 have HP:=zh hP
 have HKB:=zh (h.keysB hP)
 have HSB:=zh (ONode.srtB hP)
 have c1:=h.c1
 have hnl:=h.nlt
 have hml:=h.bins.blt
 have hbl:=hP.blenF
 clear h hP
 go_enter Tryz.func35,Tryz.ntmps35
 go_wp2_with(first|(at_range;refine wpList_range_own _ rfl _ 79 rfl 25 47 lawI Tryz.underlying79 rawE bm B.length (alD Z6 beV B) rfl HN.out.bins ?_;intro w0 hrg0 hg0 hs0)|fail)
 go_frame
 have hb0:Below w.heap.size w w0:=(zb _ _).grown hg0 (zl _) (fun j hj=>by cases hj)
 have HRG0:=zh hrg0
 have HN0:Hid (ONode n fm bm F (swB [] B) w0):=zh (by rw[j3q];exact HN.out.below hb0)
 have HFR0:Hid (FrS (J5 n fm bm F B).S w w0):=zh (FrS.of_below hb0)
 clear hrg0 hg0 hs0 hb0
 go_loopg [3] (Maps.size (alD Z6 beV B)) (fun gh v3 wr=>∃(left:Lit→Bool) (os:BL) (z:Int),wr.ranges Tryz.prog 25 rawE bm w.heap.size B.length (alD Z6 beV B) left gh∧v3= .int .i64 z∧Hid (z=j3w os)∧0≤z∧z≤16000*30∧Hid (AlCame Z6 B left os)∧Hid (ONode n fm bm F (swB (os.map (·.1)) B) wr)∧Hid (FrS (J5 n fm bm F B).S w wr))
 case atStart=>exact⟨_,[],0,HRG0.out,rfl,zh rfl,by omega,by omega,zh (AlCame.start M0 beV HKB.out),HN0,HFR0⟩
 case round=>
  obtain⟨left,os,z,hrg,rfl,hz,hz0,hz1,HCM,HNR,HFR⟩:=hrel
  go_wp2_with(first|(at_next;refine wpList_next_ranges _ rfl _ rfl 25 lawI rawE idV id idRd.mk_inv z5q bm w.heap.size B.length (alD Z6 beV B) left _ rfl hrg ?_ ?_)|fail)
  ·intro _ hl0
   have hpm:=HCM.out.perm M0 HSB.out hl0
   have HZ:Hid (z=D5 (Q0 F B)-D5 (M9 (Q0 F B))):=zh (hz.out.trans (j3z hpm F))
   have HFIN:Hid (j4d n fm bm F B w (.returned (.int .i64 z)) wr):=zh (by
    refine⟨J5 n fm bm F (swB (os.map (·.1)) B),by rw[HZ.out],?_,HFR.out,j4c _ _⟩
    have:=HNR.out.node
    rw[j3u (fun q hq=>List.mem_map_of_mem (f:=fun q:Idn×BE=>q.1) (hpm.mem_iff.2 hq))]at this
    exact this)
   clear hl0 hpm
   go_wp2
   go_ret
   exact HFIN.out
  ·intro x1 x2 c kl yd yp w2 cnt2 hkey hlk hv hat hrg2 hlt hg2 hs2 hen
   obtain⟨rfl,hx,be,hm,rfl⟩:=z5r idRd (x:=(x1,x2)) HKB.out hkey hv hat
   have hq:=HP.out.binOf hm
   simp only at hq
   have hnew:(x1,x2)∉os.map (·.1):=fun hmm=>by
    obtain⟨o,ho,e⟩:=List.mem_map.1 hmm
    have:=((HCM.out.2 o).1 ho).2
    rw[e,hlk]at this;cases this
   have HCM2:=zh (HCM.out.step (o:=((x1,x2),be)) M0 HSB.out HKB.out hm hlk)
   have hfb:=j4a hq.1 hq.2.1
   have hbd:=j4b (os:=os++ [((x1,x2),be)]) (fun q hq'=>by
    have hqB:=HCM2.out.sub q hq'
    have h1:=HP.out.binOf hqB
    exact j4a h1.1 h1.2.1)
   rw[j3x,←hz.out]at hbd
   have hln:(os++ [((x1,x2),be)]).length≤30:=by
    have h1:((os++ [((x1,x2),be)]).map (·.1)).length≤(B.map (·.1)).length:=z7f HCM2.out.1 (fun a ha=>by
     obtain⟨o,ho,rfl⟩:=List.mem_map.1 ha
     exact List.mem_map_of_mem (HCM2.out.sub o ho))
    rw[List.length_map,List.length_map]at h1
    omega
   have HZ2:Hid (z+(J8 be.L-J8 (J6 be.L))=j3w (os++ [((x1,x2),be)])):=zh (by rw[j3x,hz.out])
   simp only at hbd
   have hb2:Below w.heap.size wr w2:=(zb _ _).grown hg2 (by have:=HFR.out.size;exact this) (fun j hj=>by cases hj;exact zl _)
   have HNR2:Hid (ONode n fm bm F (swB (os.map (·.1)) B) w2):=zh (HNR.out.keepH hb2.size (fun k hk hf=>hg2.block k hk (fun e=>by
    injection e with e
    have:=HN.out.foot k (hf.imp (fun h=>by
     rcases h with h|h|⟨q,hq,e2⟩
     ·exact .inl h
     ·exact .inr (.inl h)
     ·have hh:k∈(swB (os.map (·.1)) B).map (fun q=>q.2.mb):=List.mem_map.2 ⟨q,hq,e2⟩
      rw[j3r]at hh
      obtain⟨q',hq',e3⟩:=List.mem_map.1 hh
      exact .inr (.inr ⟨q',hq',e3⟩)) (fun h=>by
     rcases h with h|⟨q,hq,e2⟩|h
     ·exact .inl h
     ·obtain⟨q0,hq0,rfl⟩:=List.mem_map.1 hq
      refine .inr (.inl ⟨q0,hq0,?_⟩)
      rw[←e2]
      show q0.2.b=(if q0.1∈_ then(⟨J6 q0.2.L,q0.2.b,q0.2.mb⟩:BE)else q0.2).b
      split<;>rfl
     ·exact .inr (.inr h)))
    omega)))
   have hob:OBin be.b be.mb be.L w2:=by
    have hmem:(((x1,x2),if(x1,x2)∈os.map (·.1)then(⟨J6 be.L,be.b,be.mb⟩:BE)else be):Idn×BE)∈swB (os.map (·.1)) B:=List.mem_map_of_mem (f:=fun q:Idn×BE=>(q.1,if q.1∈os.map (·.1)then(⟨J6 q.2.L,q.2.b,q.2.mb⟩:BE)else q.2)) hm
    rw[if_neg hnew]at hmem
    exact HNR2.out.bin _ hmem
   have hsz2:=hb2.size
   have HFR2:=zh (HFR.out.trans (T:=fun k=>k=w.heap.size) ⟨hg2.os,hg2.tape,hg2.output,hg2.size,fun k hk hn=>hg2.block k hk (fun e=>hn (by injection e))⟩ (fun i hi=> .inr (by omega)))
   have HRG2:=zh hrg2
   have hmbw:be.mb<w.heap.size:=(HN.out.bin _ hm).map.lt
   have hmbm:bm≠be.mb:=fun e=>by
    have:=HN.out.nd
    rw[List.nodup_cons,List.nodup_cons]at this
    exact this.2.1 (e▸List.mem_map_of_mem (f:=fun q:Idn×BE=>q.2.mb) hm)
   have hsw:=j1q be.b be.mb be.L 7500 hq.1 (by omega) w2 hob
   rw[←j1p]at hsw
   have HSW:=zh hsw
   have HSTP:=zh (fun w' (ho:OBin be.b be.mb (J6 be.L) w') (hg:w2.grownBy w' (some be.mb))=>HNR2.out.sweep1 HSB.out hm hnew hob ho hg)
   have HSS:Hid (be.mb∈B.map (fun q=>q.2.mb)):=zh (List.mem_map_of_mem (f:=fun q:Idn×BE=>q.2.mb) hm)
   clear hkey hlk hv hat hrg2 hg2 hs2 hz hb2 hx hm hrg hnew hob hsw HNR HFR HCM
   unfold beV at *
   go_wp2_with fail
   refine HSW.out.mono ?_
   rintro e w3 ⟨rfl,ho3,hg3⟩
   have HN3:=zh (HSTP.out w3 ho3 hg3)
   have HRG3:=zh (World.ranges.kept HRG2.out hg3 (by intro e;injection e with e;exact hmbm e) (by intro e;injection e with e;omega))
   have HFR3:=zh (HFR2.out.trans (FrS.of_gb (S:=(J5 n fm bm F B).S) hg3 (.inr (.inr (by obtain⟨q,hq,e⟩:=List.mem_map.1 HSS.out;exact⟨q,hq,e⟩)))) (fun _ h=> .inl h))
   clear ho3 hg3
   go_wp2
   go_roundg cnt2
   case measure=>exact hlt
   case rel=>exact⟨_,os++ [((x1,x2),be)],z+(J8 be.L-J8 (J6 be.L)),HRG3.out,rfl,HZ2,hbd.1,by omega,HCM2,zh (by rw[List.map_append];exact HN3.out),HFR3⟩
end Go.Proofs.YtdmlghfggninbaaGreatDoor
