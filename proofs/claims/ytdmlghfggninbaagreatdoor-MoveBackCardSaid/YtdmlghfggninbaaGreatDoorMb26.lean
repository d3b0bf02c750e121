/- RnE, RnF in one text. Conditions: as each part says. -/
import Derived.Test.YtdmlghfggninbaaGreatDoorMb25
import Derived.Test.YtdmlghfggninbaaGreatDoorMb5
import Derived.Test.YtdmlghfggninbaaGreatDoorRbP
set_option linter.unusedVariables false
set_option linter.unusedSimpArgs false
namespace Go.Proofs.YtdmlghfggninbaaGreatDoor
open Go.RowKit Go.Lib Go.Maps
theorem v0i:(Tryz.prog.info? 54).map (fun i=>(i.zero,i.size,i.bytes))=some (some (.agg #[.int .u32 0,.int .i64 0,.pointer none]),3,24):=by kernel_rfl
theorem v0j{α:Type}(p:α→Bool)(L:List α):(ixP p L= -1∧∀j (hj:j<L.length),p L[j]=false)∨∃k,∃hk:k<L.length,ixP p L=(k:Int)∧p L[k]=true:=by
 by_cases h:L.findIdx p<L.length
 ·exact .inr ⟨L.findIdx p,h,if_pos h,List.findIdx_getElem⟩
 ·refine .inl ⟨if_neg h,fun j hj=> ?_⟩
  have:=List.not_of_lt_findIdx (p:=p) (xs:=L) (i:=j) (by omega)
  simpa using this
structure QAp(q:RBE)(n:Nat)(vf vb:Value)(E:REL)(G:List RBE):Prop where
 rb:q.rb∉blkN n vb G
 v:∀k,q.v.ownBlock=some k→k∉blkN n vb G
 rd:∀k,rR vf E k→k≠q.rb∧q.v.ownBlock≠some k
def v0k(n:Nat)(vf vb:Value)(q:RBE)(E:REL)(G:List RBE)(w:World)(e:Ending)(w':World):Prop:=
 e= .returned (.tuple #[])∧∃vb' G',ORN n vf vb' E G' w'∧G'.map prG=Q9 Q2 q.x q.L (G.map prG)∧(∀k∈blkN n vb' G',k∈blkN n vb G∨k=q.rb∨q.v.ownBlock=some k∨w.heap.size≤k)∧FrS (fun b=>b∈blkN n vb G) w w'
section
variable {n:Nat} {vf vb v7:Value} {q:RBE} {E:REL} {G:List RBE} {w W w7:World}
theorem v0l{α:Type}(l:List α)(k:Nat)(hk:k<l.length)(a:α):l.set k a=l.take k++a::l.drop (k+1):=by
 induction l generalizing k with
 | nil=>exact absurd hk (Nat.not_lt_zero _)
 | cons x r ih=>
  cases k with
  | zero=>rfl
  | succ k=>rw[List.set_cons_succ,ih k (by simpa using hk)];rfl
theorem v0m{α:Type}(l:List α)(k:Nat):(l.take k++l.drop (k+1)).Sublist l:=by
 conv=>rhs;rw[←List.take_append_drop k l]
 exact(List.Sublist.refl _).append (by rw[←List.drop_drop];exact List.drop_sublist _ _)
theorem v0n{α:Type}(l:List α)(k:Nat):(l.take k++l.drop k).Sublist l:=by rw[List.take_append_drop];exact List.Sublist.refl _
theorem v0o{g c k:Nat}(h:ORN n vf (.slice (some ⟨g,0,none⟩) G.length c) E G w)(hs:K1 Q2 (G.map prG))(hb:Below w.heap.size w W)(hk:k<G.length)(hx:G[k].x=q.x)(hq:RBin q.rb 0 q.v q.L w)(ha:QAp q n vf (.slice (some ⟨g,0,none⟩) G.length c) E G) :
  v0k n vf (.slice (some ⟨g,0,none⟩) G.length c) q E G w (.returned (.tuple #[])) (W.setCell ⟨g,k*3+2,none⟩ (.pointer (some ⟨q.rb,0,none⟩))):=by
 have hW:=h.below hb
 have hgn:g≠n:=h.vb_ne rfl
 have hkeep:∀j,j≠g→(W.setCell ⟨g,k*3+2,none⟩ (.pointer (some ⟨q.rb,0,none⟩))).heap[j]? =W.heap[j]? :=fun j hj=>G6 hj
 have hz:W.heap.size≤(W.setCell ⟨g,k*3+2,none⟩ (.pointer (some ⟨q.rb,0,none⟩))).heap.size:=by simp[World.setCell]
 obtain⟨o1,_⟩:=hW.bins.stored (k*3+2) (.pointer (some ⟨q.rb,0,none⟩))
 rw[←v0c G k hk q hx.symm]at o1
 have hl:(G.set k q).length=G.length:=List.length_set
 have hN:ORN n vf (.slice (some ⟨g,0,none⟩) G.length c) E (G.take k++q::G.drop (k+1)) (W.setCell ⟨g,k*3+2,none⟩ (.pointer (some ⟨q.rb,0,none⟩))):=by
  refine hW.setG hz (fun j _ _ h3=>hkeep j fun e=>h3 (by rw[e];rfl)) ((hkeep n (Ne.symm hgn)).trans hW.row) ?_ (v0m G k) (hq.below hb) ha.rb ha.v ha.rd (.inl rfl)
  rw[←v0l G k hk q,hl];exact o1
 refine⟨rfl,_,_,hN,?_,fun j hj=>v0b (v0m G k) (fun j e=> .inl e) hj,?_⟩
 ·rw[←v0l G k hk q,List.map_set,k9x M0 hs (i:=k) (by rw[List.length_map];exact hk) (by rw[List.getElem_map];exact hx)];rfl
 ·exact⟨hb.os,hb.tape,hb.output,Nat.le_trans hb.size hz,fun j hj hne=>(hkeep j fun e=>hne (e▸j9e rfl)).trans (hb.block j hj)⟩
theorem v0p{k base:Nat}(h:ORN n vf vb E G w)(hbw:Below w.heap.size w W)(hb:Below W.heap.size W w7)(hk:k≤G.length)(h1:∀j (hj:j<G.length),j<k→Q2 G[j].x q.x=true)(h2:∀hk:k<G.length,Q2 G[k].x q.x=false)(hno:∀j (hj:j<G.length),G[j].x≠q.x)
  (ho:w7.ownsRow base 54 3 v7 (0+k+1+(G.length-k)) (([]++(J2 G).take (k*3))++rbC q++(J2 G).drop (k*3))) (hbase:W.heap.size≤base) (hq:RBin q.rb 0 q.v q.L w) (ha:QAp q n vf vb E G) :
  v0k n vf vb q E G w (.returned (.tuple #[])) (w7.setCell ⟨n,1,none⟩ v7):=by
 have hb2:=hbw.trans (hb.mono hbw.size)
 have hl:(G.take k++q::G.drop k).length=0+k+1+(G.length-k):=by rw[List.length_append,List.length_take,List.length_cons,List.length_drop];omega
 have hr:J2 (G.take k++q::G.drop k)=([]++(J2 G).take (k*3))++rbC q++(J2 G).drop (k*3):=by
  rw[q0e,v0d,show J2 (q::G.drop k)=rbC q++J2 (G.drop k)from rfl,v0e G k hk,List.nil_append,List.append_assoc]
 rw[←hl,←hr]at ho
 have h7:=h.below hb2
 have hge:∀j,v7.ownBlock=some j→W.heap.size≤j:=fun j e=>Nat.le_trans hbase (Y7 ho e)
 have hnW:n<W.heap.size:=Nat.lt_of_lt_of_le h.nlt hbw.size
 have hkeep:∀j,j≠n→(w7.setCell ⟨n,1,none⟩ v7).heap[j]? =w7.heap[j]? :=fun j hj=>G6 hj
 have hz:w.heap.size≤(w7.setCell ⟨n,1,none⟩ v7).heap.size:=by have:=hb2.size;simpa[World.setCell]using this
 have hrow:(w7.setCell ⟨n,1,none⟩ v7).heap[n]? =some (.cells #[vf,v7] 34 (0,0)):=by
  have:=h7.row
  simp[World.setCell,Array.getElem?_modify,this]
 have hN:ORN n vf v7 E (G.take k++q::G.drop k) (w7.setCell ⟨n,1,none⟩ v7):=by
  refine h.setG hz (fun j hj hjn _=>(hkeep j hjn).trans (hb2.block j hj)) hrow ?_ (v0n G k) hq ha.rb ha.v ha.rd (.inr fun j e=>Nat.le_trans hbw.size (hge j e))
  exact M2 (z9b ho (by omega)) (Nat.zero_le _)
 refine⟨rfl,_,_,hN,?_,fun j hj=>v0b (v0n G k) (fun j e=> .inr (Nat.le_trans hbw.size (hge j e))) hj,?_⟩
 ·rw[List.map_append,List.map_cons,List.map_take,List.map_drop,k9y M0 k (by rw[List.length_map];exact hk) (fun j hj hjk=>by rw[List.getElem_map];exact h1 j (by simpa using hj) hjk) (fun hk'=>by rw[List.getElem_map];exact h2 (by simpa using hk')) (fun j hj=>by rw[List.getElem_map];exact hno j (by simpa using hj))];rfl
 ·exact⟨hb2.os,hb2.tape,hb2.output,hz,fun j hj hne=>(hkeep j fun e=>hne (e▸j9d)).trans (hb2.block j hj)⟩
end
set_option maxRecDepth 100000 in
set_option maxHeartbeats 2000000 in
theorem v0q(n:Nat)(vf vb:Value)(q:RBE)(E:REL)(G:List RBE)(hl:G.length≤1000)(hs:K1 Q2 (G.map prG))(w:World)(h:ORN n vf vb E G w)(hq:RBin q.rb 0 q.v q.L w)(ha:QAp q n vf vb E G) :
  Calls Tryz.prog 77 #[.pointer (some ⟨n,0,none⟩),idV q.x,.pointer (some ⟨q.rb,0,none⟩)] w (v0k n vf vb q E G w):=by
 obtain⟨i0,hi,hz0,hz1,hz2⟩:=info_parts v0i
 have hb1:Below w.heap.size w (w.alloc (.cells #[.int .u32 (q.x.1:Int),.int .i64 q.x.2] 25)):=(zb _ _).alloc (zl _) _
 have hn:=h.nlt
 have HN:=zh h
 have HQ:=zh hq
 have HA:=zh ha
 have HS:=zh hs
 have HB1:=zh hb1
 have BX1:=zh (Box2.mk' w (.int .u32 (q.x.1:Int)) (.int .i64 q.x.2) 25)
 obtain⟨r0,r1,_,_⟩:=BX1.out
 clear h hq ha hs
 go_enter Tryz.func77,Tryz.ntmps77
 go_wp2_with fail
 clear r0 r1
 generalize w.alloc (.cells #[.int .u32 (q.x.1:Int),.int .i64 q.x.2] 25)=w1 at *
 refine(j9h n vf vb E G (by omega) q.x _ (HN.out.below hb1)).mono ?_
 rintro e w2 ⟨rfl,hb2⟩
 have HB2:=zh (hb1.trans (hb2.mono hb1.size))
 have BX2:=zh (BX1.out.below hb2 BX1.out.lt)
 clear hb1 hb2 BX1 HB1
 obtain⟨A,c,hvb,hcap,hx⟩:=HN.out.vbf
 subst hvb
 have HX:=zh hx
 have c1:=(HB2.out.cell (p:=⟨n,1,none⟩) hn).trans HN.out.c1
 clear hx
 rcases v0j (fun p=>decide (p.x=q.x)) G with⟨hix,hno⟩|⟨k,hk,hix,hy⟩
 rotate_left
 ·rw[hix]
  obtain⟨g,rfl,hg,hcells⟩:=HX.out (by omega)
  obtain⟨_,_,x2⟩:=hcells k hk
  have y2:=(HB2.out.cell (p:=⟨g,k*3+2,none⟩) hg).trans x2
  clear hcells x2
  have hge:((k:Nat):Int)≥0:=by omega
  have b1:(0:Int)≤(k:Int):=by omega
  have b2:(k:Int)<(G.length:Int):=by omega
  have fz:=(Q4 HN.out.bins HB2.out).frozenAt (k*3+2)
  have HP:=zh (v0o HN.out HS.out HB2.out hk (of_decide_eq_true hy) HQ.out HA.out)
  clear hix hy
  go_wp2
  go_end0
  exact HP.out
 ·rw[hix]
  have HNO:Hid (∀j (hj:j<G.length),G[j].x≠q.x):=zh (fun j hj=>of_decide_eq_false (hno j hj))
  clear hix hno
  go_wp2
  go_loopg [7] G.length (fun gh v7 wr=>∃k:Nat,v7= .int .i64 k∧k≤G.length∧gh=G.length-k∧Hid (∀j (hj:j<G.length),j<k→Q2 G[j].x q.x=true)∧Hid (Below w2.heap.size w2 wr))
  case atStart=>exact⟨0,rfl,Nat.zero_le _,rfl,zh (fun j _ h=>absurd h (Nat.not_lt_zero _)),zh (zb _ _)⟩
  case round=>
   obtain⟨k,rfl,hk,hgm,HLE,HBr⟩:=hrel
   have HBw:=zh (HB2.out.trans (HBr.out.mono HB2.out.size))
   clear c1
   have c1:=(HBw.out.cell (p:=⟨n,1,none⟩) hn).trans HN.out.c1
   by_cases hkl:k<G.length
   ·obtain⟨g,rfl,hg,hcells⟩:=HX.out (by omega)
    obtain⟨x0,x1,_⟩:=hcells k hkl
    have Y0:=zh ((HBw.out.cell (p:=⟨g,k*3,none⟩) hg).trans x0)
    have Y1:=zh ((HBw.out.cell (p:=⟨g,k*3+1,none⟩) hg).trans x1)
    have C1:=zh c1
    have BXr:=zh (BX2.out.below HBr.out BX2.out.lt)
    have hnr:n<wr.heap.size:=Nat.lt_of_lt_of_le hn HBw.out.size
    have hgr:g<wr.heap.size:=Nat.lt_of_lt_of_le hg HBw.out.size
    have b1:(0:Int)≤(k:Int):=by omega
    have b2:(k:Int)<(G.length:Int):=by omega
    clear hcells x0 x1
    go_wp2
    have hS0:Below wr.heap.size wr wr.drew:=(zb _ _).drew
    refine kR (fun w'=>Below wr.heap.size wr w') 10 ?_
    refine kT 0 hS0 ?_
    refine kT 1 hS0 ?_
    refine kT 2 hS0 ?_
    refine kS 3 rfl hS0 (fun w' hS=>by have A0:=(hS.cell (p:=⟨n,1,none⟩) hnr).trans C1.out;go_simp;rfl) ?_
    refine kT 4 hS0 ?_
    refine kT 5 hS0 ?_
    refine kT 6 hS0 ?_
    refine kS 7 rfl hS0 (fun w' hS=>by have A0:=(hS.cell (p:=⟨g,k*3,none⟩) hgr).trans Y0.out;have A1:=(hS.cell (p:=⟨g,k*3+1,none⟩) hgr).trans Y1.out;go_simp;rfl) ?_
    refine kS 8 rfl hS0 (fun w' hS=>by obtain⟨A0,A1,_,_⟩:=BXr.out.below hS BXr.out.lt;go_simp;rfl) ?_
    refine kC 9 (fun K hK=> ?_)
    go_simp
    refine(z0q G[k].x.1 q.x.1 G[k].x.2 q.x.2 _).mono ?_
    rintro e W ⟨rfl,hbW⟩
    have hS1:Below wr.heap.size wr W:=hS0.trans (hbW.mono hS0.size)
    refine hK _ _ hS1 (kF ?_)
    clear hK K
    try simp only[Act.put,zM]
    try simp only[Act.put,zM]
    simp only[List.drop_succ_cons,List.drop_zero]
    have HBd:=zh (HBr.out.trans (hS1.mono HBr.out.size))
    have HBW:=zh (HB2.out.trans (HBd.out.mono HB2.out.size))
    have HXB:=zh (BX2.out.below HBd.out BX2.out.lt)
    clear hS0 hS1 hbW c1
    have c1:=(HBW.out.cell (p:=⟨n,1,none⟩) hn).trans HN.out.c1
    cases hlt:C5 G[k].x.1 q.x.1 G[k].x.2 q.x.2 with
    | true=>
     have HN2:Hid (∀j (hj:j<G.length),j<k+1→Q2 G[j].x q.x=true):=zh fun i hi h=>by
      rcases Nat.lt_or_ge i k with h1|h1
      ·exact HLE.out i hi h1
      ·obtain rfl:i=k:=by omega
       exact hlt
     clear HLE hlt
     go_wp2
     go_roundg (G.length-(k+1))
     case measure=>omega
     case rel=>exact⟨k+1,by go_num,hkl,rfl,HN2,HBd⟩
    | false=>
     have h2:∀(hk:k<G.length),Q2 G[k].x q.x=false:=fun _=>hlt
     have HNW:=zh (HN.out.below HBW.out)
     clear hlt
     have HRC:Hid (RdC W W.heap.size 3 (.slice (some ⟨g,0,none⟩) G.length c) G.length (J2 G)):=zh (RdC.ownP HNW.out.bins)
     have HT1:Hid (RdC W W.heap.size 3 (.slice (some ⟨g,0,none⟩) k c) k ((J2 G).take (k*3))):=zh (HRC.out.takeM k (by omega))
     have HT3:Hid (RdC W W.heap.size 3 (.slice (some ⟨g,k*3,none⟩) (G.length-k) (c-k)) (G.length-k) ((J2 G).drop (k*3))):=zh (by have h:=HRC.out.cutM k (by omega);rw[if_neg (by omega),Option.map_some,q0n,Nat.zero_add]at h;exact h)
     have HO1:Hid (∀u∈(J2 G).take (k*3),u.oneCell'=true):=zh (fun u hu=>j8z G u (List.mem_of_mem_take hu))
     have HO3:Hid (∀u∈(((J2 G).drop (k*3)):List Value),u.oneCell'=true):=zh (fun u hu=>j8z G u (List.mem_of_mem_drop hu))
     have HP:Hid (∀(w7:World) (v7:Value),w7.ownsRow W.heap.size 54 3 v7 (0+k+1+(G.length-k)) (([]++(J2 G).take (k*3))++ [.int .u32 (q.x.1:Int),.int .i64 q.x.2,.pointer (some ⟨q.rb,0,none⟩)]++((J2 G).drop (k*3)))→Below W.heap.size W w7→v0k n vf (.slice (some ⟨g,0,none⟩) G.length c) q E G w (.returned (.tuple #[])) (w7.setCell ⟨n,1,none⟩ v7)):=zh (fun w7 v7 ho hb=>v0p HN.out HBW.out hb (by omega) HLE.out h2 HNO.out (by exact ho) (zl _) HQ.out HA.out)
     have q1:(0:Int)≤(k:Int):=by omega
     have q2:(k:Int)≤(G.length:Int):=by omega
     have q3:(k:Int)≤(c:Int):=by omega
     have hnl:n<W.heap.size:=HNW.out.nlt
     have nc0:=HNW.out.c1
     obtain⟨r0,r1,_,_⟩:=HXB.out
     clear h2 HLE
     go_wp2_with(first|(at_builtin;refine Q5 rfl (.tmp 44) (.tmp 50) 32 rfl W.heap.size 54 i0 (.agg #[.int .u32 0,.int .i64 0,.pointer none]) 3 24 Tryz.underlying32 hi hz0 hz1 hz2 rfl (by decide) _ 0 [] rfl (World.ownsRow_nil _ _ _ _) W.heap.size _ k ((J2 G).take (k*3)) rfl HT1.out HO1.out (by unfold maxLen;omega) (by omega) (zl _) ?_;intro v5 w5 ho5 hg5;have hS5:Below W.heap.size W w5:=Z3 (zb _ _) (zl _) (World.ownsRow_nil W W.heap.size 54 3) hg5;obtain⟨m0,m1,_,_⟩:=HXB.out.below hS5 HXB.out.lt;have nc5:=(hS5.cell (p:=⟨n,1,none⟩) hnl).trans nc0;have HNE:=zh (k3b w5 (.int .u32 (q.x.1:Int)) (.int .i64 q.x.2) (.pointer (some ⟨q.rb,0,none⟩)) 54))|(at_builtin;refine wpList_append_own _ rfl (.tmp 52) (.tmp 56) 32 rfl W.heap.size 54 i0 (.agg #[.int .u32 0,.int .i64 0,.pointer none]) 3 24 Tryz.underlying32 hi hz0 hz1 hz2 rfl (by decide) _ _ _ rfl (ho5.alloc _) ⟨w5.heap.size,0,none⟩ 1 1 [.int .u32 (q.x.1:Int),.int .i64 q.x.2,.pointer (some ⟨q.rb,0,none⟩)] rfl rfl HNE.out (by simp[Value.oneCell']) (by unfold maxLen;omega) (by omega) (by have:=hS5.size;simp;omega) ?_;intro v6 w6 ho6 hg6 _;have hS6:Below W.heap.size W w6:=X5 hS5 hS5.size ho5 hg6;have nc6:=(hS6.cell (p:=⟨n,1,none⟩) hnl).trans nc0)|(at_builtin;refine Q5 rfl (.tmp 59) (.tmp 65) 32 rfl W.heap.size 54 i0 (.agg #[.int .u32 0,.int .i64 0,.pointer none]) 3 24 Tryz.underlying32 hi hz0 hz1 hz2 rfl (by decide) _ _ _ rfl ho6 W.heap.size _ (G.length-k) ((J2 G).drop (k*3)) rfl (HT3.out.below hS6) HO3.out (by unfold maxLen;omega) (by omega) hS6.size ?_;intro v7 w7 ho7 hg7;have hS7:Below W.heap.size W w7:=Z3 hS6 hS6.size ho6 hg7;obtain⟨A7,c7,hv7⟩:=J0 ho7;subst hv7;have hrow7:=(hS7.block n hnl).trans HNW.out.row;have d0:=cell_of_row w7 n 1 _ _ _ hrow7;have e0:=frozen_of_row w7 n 1 _ _ hrow7)|fail)
     go_end0
     exact HP.out _ _ (by simpa only[Nat.zero_add,Nat.add_zero]using ho7) hS7
   ·obtain rfl:k=G.length:=by omega
    have h2:∀(hk:G.length<G.length),Q2 G[G.length].x q.x=false:=fun hk=>absurd hk (Nat.lt_irrefl _)
    have HBW:=HBw
    have HNW:=zh (HN.out.below HBW.out)
    have HXB:=zh (BX2.out.below HBr.out BX2.out.lt)
    by_cases hcl:c=G.length
    ·subst hcl
     have HRC:Hid (RdC wr wr.heap.size 3 (.slice A G.length G.length) G.length (J2 G)):=zh (RdC.ownP HNW.out.bins)
     have HT1:Hid (RdC wr wr.heap.size 3 (.slice A G.length G.length) G.length ((J2 G).take (G.length*3))):=zh (HRC.out.takeM G.length (by omega))
     have HT3:=zh trivial
     have HO1:Hid (∀u∈(J2 G).take (G.length*3),u.oneCell'=true):=zh (fun u hu=>j8z G u (List.mem_of_mem_take hu))
     have HO3:Hid (∀u∈([]:List Value),u.oneCell'=true):=zh (fun u hu=>absurd hu List.not_mem_nil)
     have HP:Hid (∀(w7:World) (v7:Value),w7.ownsRow wr.heap.size 54 3 v7 (0+G.length+1+0) (([]++(J2 G).take (G.length*3))++ [.int .u32 (q.x.1:Int),.int .i64 q.x.2,.pointer (some ⟨q.rb,0,none⟩)]++ [])→Below wr.heap.size wr w7→v0k n vf (.slice A G.length G.length) q E G w (.returned (.tuple #[])) (w7.setCell ⟨n,1,none⟩ v7)):=zh (fun w7 v7 ho hb=>v0p HN.out HBW.out hb (by omega) HLE.out h2 HNO.out (by rw[List.drop_of_length_le (show(J2 G).length≤G.length*3 from Nat.le_of_eq (W6 G)),Nat.sub_self];exact ho) (zl _) HQ.out HA.out)
     have q1:(0:Int)≤(G.length:Int):=by omega
     have q2:(G.length:Int)≤(G.length:Int):=by omega
     have q3:(G.length:Int)≤(G.length:Int):=by omega
     have hnl:n<wr.heap.size:=HNW.out.nlt
     have nc0:=HNW.out.c1
     obtain⟨r0,r1,_,_⟩:=HXB.out
     clear h2 HLE
     go_wp2_with(first|(at_builtin;refine Q5 rfl (.tmp 44) (.tmp 50) 32 rfl wr.heap.size 54 i0 (.agg #[.int .u32 0,.int .i64 0,.pointer none]) 3 24 Tryz.underlying32 hi hz0 hz1 hz2 rfl (by decide) _ 0 [] rfl (World.ownsRow_nil _ _ _ _) wr.heap.size _ G.length ((J2 G).take (G.length*3)) rfl HT1.out HO1.out (by unfold maxLen;omega) (by omega) (zl _) ?_;intro v5 w5 ho5 hg5;have hS5:Below wr.heap.size wr w5:=Z3 (zb _ _) (zl _) (World.ownsRow_nil wr wr.heap.size 54 3) hg5;obtain⟨m0,m1,_,_⟩:=HXB.out.below hS5 HXB.out.lt;have nc5:=(hS5.cell (p:=⟨n,1,none⟩) hnl).trans nc0;have HNE:=zh (k3b w5 (.int .u32 (q.x.1:Int)) (.int .i64 q.x.2) (.pointer (some ⟨q.rb,0,none⟩)) 54))|(at_builtin;refine wpList_append_own _ rfl (.tmp 52) (.tmp 56) 32 rfl wr.heap.size 54 i0 (.agg #[.int .u32 0,.int .i64 0,.pointer none]) 3 24 Tryz.underlying32 hi hz0 hz1 hz2 rfl (by decide) _ _ _ rfl (ho5.alloc _) ⟨w5.heap.size,0,none⟩ 1 1 [.int .u32 (q.x.1:Int),.int .i64 q.x.2,.pointer (some ⟨q.rb,0,none⟩)] rfl rfl HNE.out (by simp[Value.oneCell']) (by unfold maxLen;omega) (by omega) (by have:=hS5.size;simp;omega) ?_;intro v6 w6 ho6 hg6 _;have hS6:Below wr.heap.size wr w6:=X5 hS5 hS5.size ho5 hg6;have nc6:=(hS6.cell (p:=⟨n,1,none⟩) hnl).trans nc0)|(at_builtin;refine Q5 rfl (.tmp 59) (.tmp 65) 32 rfl wr.heap.size 54 i0 (.agg #[.int .u32 0,.int .i64 0,.pointer none]) 3 24 Tryz.underlying32 hi hz0 hz1 hz2 rfl (by decide) _ _ _ rfl ho6 wr.heap.size _ 0 [] rfl (RdC.nilP _ _ _ _ _) HO3.out (by unfold maxLen;omega) (by omega) hS6.size ?_;intro v7 w7 ho7 hg7;have hS7:Below wr.heap.size wr w7:=Z3 hS6 hS6.size ho6 hg7;obtain⟨A7,c7,hv7⟩:=J0 ho7;subst hv7;have hrow7:=(hS7.block n hnl).trans HNW.out.row;have d0:=cell_of_row w7 n 1 _ _ _ hrow7;have e0:=frozen_of_row w7 n 1 _ _ hrow7)|fail)
     go_end0
     exact HP.out _ _ (by simpa only[Nat.zero_add,Nat.add_zero]using ho7) hS7
    ·have hcl2:¬G.length=c:=fun h=>hcl h.symm
     have HRC:Hid (RdC wr wr.heap.size 3 (.slice A G.length c) G.length (J2 G)):=zh (RdC.ownP HNW.out.bins)
     have HT1:Hid (RdC wr wr.heap.size 3 (.slice A G.length c) G.length ((J2 G).take (G.length*3))):=zh (HRC.out.takeM G.length (by omega))
     have HT3:=zh trivial
     have HO1:Hid (∀u∈(J2 G).take (G.length*3),u.oneCell'=true):=zh (fun u hu=>j8z G u (List.mem_of_mem_take hu))
     have HO3:Hid (∀u∈([]:List Value),u.oneCell'=true):=zh (fun u hu=>absurd hu List.not_mem_nil)
     have HP:Hid (∀(w7:World) (v7:Value),w7.ownsRow wr.heap.size 54 3 v7 (0+G.length+1+0) (([]++(J2 G).take (G.length*3))++ [.int .u32 (q.x.1:Int),.int .i64 q.x.2,.pointer (some ⟨q.rb,0,none⟩)]++ [])→Below wr.heap.size wr w7→v0k n vf (.slice A G.length c) q E G w (.returned (.tuple #[])) (w7.setCell ⟨n,1,none⟩ v7)):=zh (fun w7 v7 ho hb=>v0p HN.out HBW.out hb (by omega) HLE.out h2 HNO.out (by rw[List.drop_of_length_le (show(J2 G).length≤G.length*3 from Nat.le_of_eq (W6 G)),Nat.sub_self];exact ho) (zl _) HQ.out HA.out)
     have q1:(0:Int)≤(G.length:Int):=by omega
     have q2:(G.length:Int)≤(G.length:Int):=by omega
     have q3:(G.length:Int)≤(c:Int):=by omega
     have hnl:n<wr.heap.size:=HNW.out.nlt
     have nc0:=HNW.out.c1
     obtain⟨r0,r1,_,_⟩:=HXB.out
     clear h2 HLE
     go_wp2_with(first|(at_builtin;refine Q5 rfl (.tmp 44) (.tmp 50) 32 rfl wr.heap.size 54 i0 (.agg #[.int .u32 0,.int .i64 0,.pointer none]) 3 24 Tryz.underlying32 hi hz0 hz1 hz2 rfl (by decide) _ 0 [] rfl (World.ownsRow_nil _ _ _ _) wr.heap.size _ G.length ((J2 G).take (G.length*3)) rfl HT1.out HO1.out (by unfold maxLen;omega) (by omega) (zl _) ?_;intro v5 w5 ho5 hg5;have hS5:Below wr.heap.size wr w5:=Z3 (zb _ _) (zl _) (World.ownsRow_nil wr wr.heap.size 54 3) hg5;obtain⟨m0,m1,_,_⟩:=HXB.out.below hS5 HXB.out.lt;have nc5:=(hS5.cell (p:=⟨n,1,none⟩) hnl).trans nc0;have HNE:=zh (k3b w5 (.int .u32 (q.x.1:Int)) (.int .i64 q.x.2) (.pointer (some ⟨q.rb,0,none⟩)) 54))|(at_builtin;refine wpList_append_own _ rfl (.tmp 52) (.tmp 56) 32 rfl wr.heap.size 54 i0 (.agg #[.int .u32 0,.int .i64 0,.pointer none]) 3 24 Tryz.underlying32 hi hz0 hz1 hz2 rfl (by decide) _ _ _ rfl (ho5.alloc _) ⟨w5.heap.size,0,none⟩ 1 1 [.int .u32 (q.x.1:Int),.int .i64 q.x.2,.pointer (some ⟨q.rb,0,none⟩)] rfl rfl HNE.out (by simp[Value.oneCell']) (by unfold maxLen;omega) (by omega) (by have:=hS5.size;simp;omega) ?_;intro v6 w6 ho6 hg6 _;have hS6:Below wr.heap.size wr w6:=X5 hS5 hS5.size ho5 hg6;have nc6:=(hS6.cell (p:=⟨n,1,none⟩) hnl).trans nc0)|(at_builtin;refine Q5 rfl (.tmp 59) (.tmp 65) 32 rfl wr.heap.size 54 i0 (.agg #[.int .u32 0,.int .i64 0,.pointer none]) 3 24 Tryz.underlying32 hi hz0 hz1 hz2 rfl (by decide) _ _ _ rfl ho6 wr.heap.size _ 0 [] rfl (RdC.nilP _ _ _ _ _) HO3.out (by unfold maxLen;omega) (by omega) hS6.size ?_;intro v7 w7 ho7 hg7;have hS7:Below wr.heap.size wr w7:=Z3 hS6 hS6.size ho6 hg7;obtain⟨A7,c7,hv7⟩:=J0 ho7;subst hv7;have hrow7:=(hS7.block n hnl).trans HNW.out.row;have d0:=cell_of_row w7 n 1 _ _ _ hrow7;have e0:=frozen_of_row w7 n 1 _ _ hrow7)|fail)
     go_end0
     exact HP.out _ _ (by simpa only[Nat.zero_add,Nat.add_zero]using ho7) hS7
theorem v0r{α:Type}(p:α→Bool)(L:List α):∃k,k≤L.length∧(∀j (hj:j<L.length),j<k→p L[j]=true)∧∀hk:k<L.length,p L[k]=false:=by
 refine⟨L.findIdx (fun x=> !p x),List.findIdx_le_length,fun j hj hlt=> ?_,fun hk=> ?_⟩
 ·have:=List.not_of_lt_findIdx (p:=fun x=> !p x) (xs:=L) hlt
  simpa using this
 ·have:=List.findIdx_getElem (p:=fun x=> !p x) (xs:=L) (w:=hk)
  simpa using this
def fxE(x:Rcp×Value):Bytes×Rcp:=(x.1.name,x.1)
theorem Y8(E:REL)(G:List RBE):J9 E G=⟨E.map fxE,G.map prG⟩:=rfl
theorem v0s{E:REL}{k:Nat}{x:Rcp×Value}(hk:k≤E.length)(h1:∀j (hj:j<E.length),j<k→bytesBefore E[j].1.name x.1.name=true)(h2:∀hk:k<E.length,bytesBefore E[k].1.name x.1.name=false)(hno:∀j (hj:j<E.length),E[j].1.name≠x.1.name) :
  (insE k x E).map fxE=Q9 bytesBefore x.1.name x.1 (E.map fxE):=by
 unfold insE
 rw[List.map_append,List.map_cons,List.map_take,List.map_drop,k9y U3 k (by rw[List.length_map];exact hk) (fun j hj hjk=>by rw[List.getElem_map];exact h1 j (by simpa using hj) hjk) (fun hk'=>by rw[List.getElem_map];exact h2 (by simpa using hk')) (fun j hj=>by rw[List.getElem_map];exact hno j (by simpa using hj))];rfl
theorem v0t{E:REL}{nm:Bytes}(h:∀j (hj:j<E.length),E[j].1.name≠nm):Q1 (E.map fxE) nm=none:=V4.2 fun p hp=>by
 obtain⟨q,hq,rfl⟩:=List.mem_map.1 hp
 obtain⟨j,hj,rfl⟩:=List.getElem_of_mem hq
 exact h j hj
theorem v0u{E:REL}{nm:Bytes}{k:Nat}(hs:K1 bytesBefore (E.map fxE))(hk:k<E.length)(he:E[k].1.name=nm):Q1 (E.map fxE) nm=some E[k].1:=by
 have h:=Z5 U3 hs (List.mem_map_of_mem (f:=fxE) (List.getElem_mem hk))
 rw[show(fxE E[k]).1=nm from he]at h
 exact h
theorem v0v{G:List RBE}{x:Idn}(h:∀j (hj:j<G.length),G[j].x≠x):Q1 (G.map prG) x=none:=V4.2 fun p hp=>by
 obtain⟨q,hq,rfl⟩:=List.mem_map.1 hp
 obtain⟨j,hj,rfl⟩:=List.getElem_of_mem hq
 exact h j hj
theorem v0w{G:List RBE}{x:Idn}{k:Nat}(hs:K1 Q2 (G.map prG))(hk:k<G.length)(he:G[k].x=x):Q1 (G.map prG) x=some G[k].L:=by
 have h:=Z5 M0 hs (List.mem_map_of_mem (f:=prG) (List.getElem_mem hk))
 rw[show(prG G[k]).1=x from he]at h
 exact h
def RNTo(n:Nat)(f:Foot)(P':PNode)(w w':World):Prop:=∃vf vb E G,ORN n vf vb E G w'∧J9 E G=P'∧f.new (j9a n vf vb E G) w.heap.size∧FrS f.S w w'
section
variable {n b m k base:Nat} {vf vb v v0 v1 v7 sl:Value} {E:REL} {G:List RBE} {r:Rcp} {x:Idn} {L L':HldL} {w wr w9 w0 w1 w':World}
theorem RNTo.stay(h:ORN n vf vb E G w)(hb:Below w.heap.size w w'):RNTo n (j9a n vf vb E G) (J9 E G) w w':=⟨vf,vb,E,G,h.below hb,rfl,Foot.new_refl _ _,FrS.of_below hb⟩
theorem BFrame.trans'(h:BFrame b v0 w0 w)(k:BFrame b v w w1)(hv:v.ownBlock=v0.ownBlock∨∀k,v.ownBlock=some k→w0.heap.size≤k):BFrame b v0 w0 w1:=
 ⟨k.os.trans h.os,k.tape.trans h.tape,k.output.trans h.output,Nat.le_trans h.size k.size,fun j hj h1 h2=>(k.block j (Nat.lt_of_lt_of_le hj h.size) h1 (fun e=>by
  rcases hv with hv|hv
  ·exact h2 (hv▸e)
  ·have:=hv j e;omega)).trans (h.block j hj h1 h2)⟩
theorem BFrame.below'{B:Nat}(h:BFrame b v0 w0 w1)(hw:Below B w w0)(hB:B≤w0.heap.size)(hb:B≤b)(hv:∀k,v0.ownBlock=some k→B≤k):Below B w w1:=
 FrS.below (S:=fun k=>k=b∨v0.ownBlock=some k) hw hB ⟨h.os,h.tape,h.output,h.size,fun k hk hn=>h.block k hk (fun e=>hn (.inl e)) (fun e=>hn (.inr e))⟩ fun k hk=>by
  rcases hk with rfl|e
  ·exact hb
  ·exact hv k e
theorem RBin.low(h:RBin b base v L w):RBin b 0 v L w:=⟨h.row,M2 h.own (Nat.zero_le _),h.ne⟩
theorem v0x(h:ORN n vf vb E G w)(hb:Below w.heap.size w wr)(hm:w.heap.size≤m)(hmb:m≤b)(hR:RBin b base v L wr)(hv:∀k,v.ownBlock=some k→m≤k)(hsl:∀k,sl.ownBlock=some k→r.ids≠ []→w.heap.size≤k∧k<m)(h7:∀j,v7.ownBlock=some j→wr.heap.size≤j)(hf:FrS (fun b=>b=n) wr w9) :
  RBin b 0 v L w9∧QAp ⟨x,L,b,v⟩ n v7 vb (insE k (r,sl) E) G:=by
 have hnl:=h.nlt
 have hlt:∀j,j∈blkN n vb G→j<w.heap.size:=fun j hj=>h.blk_lt hj
 refine⟨hR.low.keepK (hf.block b hR.lt (by omega)) fun g e=>hf.block g (C8 hR.own e) (by have:=hv g e;omega),fun hm=>by have:=hlt b hm;omega,fun j e hj=>by have:=hlt j hj;have:=hv j e;omega,fun j hj=> ?_⟩
 have hj2:j<m∨wr.heap.size≤j:=by
  rcases hj with⟨e,_⟩|⟨y,hy,e,ne⟩
  ·exact .inr (h7 j e)
  ·rcases List.mem_append.1 hy with hy|hy
   ·have:=h.rlt j (.inr ⟨y,List.mem_of_mem_take hy,e,ne⟩)
    exact .inl (by omega)
   ·rcases List.mem_cons.1 hy with rfl|hy
    ·exact .inl (hsl j e ne).2
    ·have:=h.rlt j (.inr ⟨y,List.mem_of_mem_drop hy,e,ne⟩)
     exact .inl (by omega)
 have hbl:=hR.lt
 exact⟨fun e=>by have e:j=b:=e;omega,fun e=>by have:=hv j e;have:=C8 hR.own e;omega⟩
theorem v0y(h:ORN n vf vb E G w)(hb:Below w.heap.size w wr)(hm:w.heap.size≤m)(hmb:m≤b)(hv:∀k,v.ownBlock=some k→m≤k)(hsl:∀k,sl.ownBlock=some k→r.ids≠ []→w.heap.size≤k∧k<m)(h7:∀j,v7.ownBlock=some j→wr.heap.size≤j)(hf:FrS (fun b=>b=n) wr w9)
  (hk:k≤E.length) (h1:∀j (hj:j<E.length),j<k→bytesBefore E[j].1.name r.name=true) (h2:∀hk:k<E.length,bytesBefore E[k].1.name r.name=false) (hno:∀j (hj:j<E.length),E[j].1.name≠r.name) {e:Ending} (hS:v0k n v7 vb ⟨x,L,b,v⟩ (insE k (r,sl) E) G w9 e w') :
  RNTo n (j9a n vf vb E G) ⟨Q9 bytesBefore r.name r (E.map fxE),Q9 Q2 x L (G.map prG)⟩ w w':=by
 obtain⟨_,vb',G',hN,hp,hbl,hfr⟩:=hS
 have hs9:=hf.size
 have hsr:=hb.size
 refine⟨v7,vb',_,G',hN,?_,fun j=>⟨fun hj=> ?_,fun hj=> ?_⟩,?_⟩
 ·rw[Y8,hp,v0s hk h1 h2 hno]
 ·rcases hbl j hj with h3|h3|h3|h3
  ·exact .inl h3
  ·exact .inr (by have h3:j=b:=h3;omega)
  ·exact .inr (by have:=hv j h3;omega)
  ·exact .inr (by omega)
 ·rcases hj with⟨e,_⟩|⟨y,hy,e,ne⟩
  ·exact .inr (by have:=h7 j e;omega)
  ·rcases List.mem_append.1 hy with hy|hy
   ·exact .inl (.inr ⟨y,List.mem_of_mem_take hy,e,ne⟩)
   ·rcases List.mem_cons.1 hy with rfl|hy
    ·exact .inr (hsl j e ne).1
    ·exact .inl (.inr ⟨y,List.mem_of_mem_drop hy,e,ne⟩)
 ·refine((FrS.of_below (S:=(j9a n vf vb E G).S) hb).trans hf fun j hj=> .inl (hj▸j9d)).trans hfr fun j hj=> .inl hj
end
theorem v0z{ps:List Bytes}{k:Nat}(hk:k<ps.length)(L:HldL)(f:Int):K4 (ps.drop k) L f=if(putB ps[k] L).2.2.2=0 then K4 (ps.drop (k+1)) (putB ps[k] L).1 (f+if(putB ps[k] L).2.2.1 then(ps[k].length:Int)else 0)else((putB ps[k] L).1,0,(putB ps[k] L).2.2.2):=by
 rw[List.drop_eq_getElem_cons hk,K4]
theorem v1a(s:Bytes)(L:HldL):(putB s L).2.2.2=0∨(putB s L).2.2.2=2∨(putB s L).2.2.2=7∨(putB s L).2.2.2=10:=by
 have h:=z6g [s] L 0
 unfold K4 at h
 split at h
 ·next h0=>exact .inl h0
 ·exact h
theorem v1b(nm s:Bytes):((M8 nm s).1=4∧J7 nm=false)∨((M8 nm s).1=2∧J7 nm=true∧4000<s.length)∨(M8 nm s=(0,Q7 nm s)∧J7 nm=true∧s.length≤4000):=by
 unfold M8
 cases h:J7 nm with
 | false=>exact .inl ⟨by simp,rfl⟩
 | true=>
  by_cases h4:4000<s.length
  ·exact .inr (.inl ⟨by rw[if_neg (by simp),if_pos h4],rfl,h4⟩)
  ·exact .inr (.inr ⟨by rw[if_neg (by simp),if_neg h4],rfl,by omega⟩)
def v1c(n:Nat)(vf vb:Value)(nm s:Bytes)(E:REL)(G:List RBE)(w:World)(e:Ending)(w':World):Prop:=
 e= .returned (.tuple #[.int .i64 (putN nm s (J9 E G)).2.1,.int .i64 (putN nm s (J9 E G)).2.2])∧RNTo n (j9a n vf vb E G) (putN nm s (J9 E G)).1 w w'
theorem v1d{nm s:Bytes}{P:PNode}(h:J7 nm=false):putN nm s P=(P,0,4):=by unfold putN;rw[if_pos h]
theorem v1e{nm s:Bytes}{P:PNode}(h:J7 nm=true)(h4:4000<s.length):putN nm s P=(P,0,2):=by unfold putN;rw[if_neg (by rw[h];simp),if_pos h4]
theorem v1f{nm s:Bytes}{P:PNode}{r:Rcp}(h:J7 nm=true)(h4:s.length≤4000)(hg:Q1 P.files nm=some r):putN nm s P=(P,0,6):=by unfold putN;rw[if_neg (by rw[h];simp),if_neg (by omega),if_pos (by rw[hg];rfl)]
theorem v1g{nm s:Bytes}{P:PNode}(h:J7 nm=true)(h4:s.length≤4000)(hg:Q1 P.files nm=none)(hf:30≤P.files.length):putN nm s P=(P,0,7):=by unfold putN;rw[if_neg (by rw[h];simp),if_neg (by omega),if_neg (by rw[hg];simp),if_pos hf]
theorem v1h{nm s:Bytes}{P:PNode}{L:HldL}(h:J7 nm=true)(h4:s.length≤4000)(hg:Q1 P.files nm=none)(hf:P.files.length<30)(hL:L=binN P (Z8 (V8 s))) :
  putN nm s P=if(K4 (pieces s) L 0).2.2=0 then(⟨Q9 bytesBefore nm (Q7 nm s) P.files,Q9 Q2 (Z8 (V8 s)) (K4 (pieces s) L 0).1 P.bins⟩,(K4 (pieces s) L 0).2.1,0)else(P,0,(K4 (pieces s) L 0).2.2):=by
 subst hL
 unfold putN;rw[if_neg (by rw[h];simp),if_neg (by omega),if_neg (by rw[hg];simp),if_neg (by omega)]
end Go.Proofs.YtdmlghfggninbaaGreatDoor
