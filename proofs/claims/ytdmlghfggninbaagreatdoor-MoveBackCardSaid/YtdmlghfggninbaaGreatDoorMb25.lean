/- RnC, RnD in one text. Conditions: as each part says. -/
import Derived.Test.YtdmlghfggninbaaGreatDoorMb13
set_option linter.unusedVariables false
set_option linter.unusedSimpArgs false
set_option maxHeartbeats 2000000
set_option maxRecDepth 100000
namespace Go.Proofs.YtdmlghfggninbaaGreatDoor
open Go.RowKit Go.Lib
section
variable {n:Nat} {vf vb:Value} {E:REL} {G:List RBE} {w w':World}
theorem ORN.blk_lt(h:ORN n vf vb E G w){k:Nat}(hk:k∈blkN n vb G):k<w.heap.size:=by
 rcases U8.1 hk with rfl|e|⟨q,hq,rfl|e⟩
 ·exact h.nlt
 ·exact C8 h.bins e
 ·exact(h.bin q hq).lt
 ·exact C8 (h.bin q hq).own e
theorem ORN.vb_ne(h:ORN n vf vb E G w){k:Nat}(e:vb.ownBlock=some k):k≠n:=by
 have hd:=h.nd
 unfold blkN at hd
 rw[List.nodup_cons]at hd
 intro hk
 subst hk
 exact hd.1 (List.mem_append_left _ (by rw[e];exact List.mem_cons_self))
theorem ORN.rb_ne(h:ORN n vf vb E G w){q:RBE}(hq:q∈G):q.rb≠n∧∀k,q.v.ownBlock=some k→k≠n:=by
 have hd:=h.nd
 unfold blkN at hd
 rw[List.nodup_cons]at hd
 exact⟨fun e=>hd.1 (by rw[←e];exact List.mem_append_right _ (j9c hq).1),fun k e e2=>hd.1 (by rw[←e2];exact List.mem_append_right _ ((j9c hq).2 k e))⟩
theorem k9q{base m size:Nat}{e:TypeId}{v:Value}{xs:List Value}{b:Nat}(h:w.ownsRow base e size v m xs)(h2:∀k,v.ownBlock=some k→k≠b)(hw:∀k,k≠b→w'.heap[k]? =w.heap[k]?):w'.ownsRow base e size v m xs:=by
 refine⟨h.1,?_⟩
 rcases h.2 with h3|⟨g,cap,cur,hv,hg,hh,h4⟩
 ·exact .inl h3
 ·exact .inr ⟨g,cap,cur,hv,hg,(hw g (h2 g (by rw[hv];rfl))).trans hh,h4⟩
theorem RdC.other{B size m:Nat}{v:Value}{xs:List Value}{b:Nat}(h:RdC w B size v m xs)(h2:∀k,v.ownBlock=some k→0<m→k≠b)(hw:∀k,k≠b→w'.heap[k]? =w.heap[k]?):RdC w' B size v m xs:=by
 obtain⟨A,c,hv,hl,hc,hx⟩:=h
 refine⟨A,c,hv,hl,hc,fun h0=> ?_⟩
 obtain⟨g,o,hA,hg,hcell⟩:=hx h0
 exact⟨g,o,hA,hg,fun k u hu=>(World.cell?_of_block (a:=⟨g,o+k,none⟩) (hw g (h2 g (by rw[hv,hA];rfl) h0))).trans (hcell k u hu)⟩
theorem ORN.setF{W w7:World}{v7:Value}{E':REL}{base:Nat}(h:ORN n vf vb E G W)(hb:Below W.heap.size W w7)(ho:w7.ownsRow base 40 4 v7 E'.length (rcK.row E'))(hbase:W.heap.size≤base)
  (hE:∀x∈E',RdI W W.heap.size x.2 x.1.ids∧∀k,x.2.ownBlock=some k→x.1.ids≠ []→k∉blkN n vb G):ORN n v7 vb E' G (w7.setCell ⟨n,0,none⟩ v7):=by
 have h7:=h.below hb
 have hs:(w7.setCell ⟨n,0,none⟩ v7).heap.size=w7.heap.size:=by simp[World.setCell]
 have hw:∀k,k≠n→(w7.setCell ⟨n,0,none⟩ v7).heap[k]? =w7.heap[k]? :=fun k hk=>G6 hk
 have hge:∀k,v7.ownBlock=some k→W.heap.size≤k:=fun k e=>Nat.le_trans hbase (Y7 ho e)
 refine⟨?_,?_,fun x hx=> ?_,k9q h7.bins (fun k e=>h.vb_ne e) hw,fun q hq=> ?_,h.nd,fun k hk=> ?_⟩
 ·have:=h7.row
  simp[World.setCell,Array.getElem?_modify,this]
 ·rw[hs]
  exact RdC.other (RdC.ownP ho) (fun k e _ hk=>by have:=hge k e;have:=h.nlt;omega) hw
 ·rw[hs]
  obtain⟨h1,h2⟩:=hE x hx
  exact RdC.other (RdI.more (h1.keep hb (zl _)) hb.size) (fun k e h0 hk=>h2 k e (List.ne_nil_of_length_pos h0) (hk▸j9d)) hw
 ·have hb7:=h7.bin q hq
  exact hb7.other (h.rb_ne hq).1 (fun e=>(h.rb_ne hq).2 n e rfl) hw
 ·rcases hk with⟨e,_⟩|⟨x,hx,e,ne⟩
  ·intro hm
   have:=h.blk_lt hm
   have:=hge k e
   omega
  ·exact(hE x hx).2 k e ne
theorem k9r(E:REL)(k:Nat):rcK.row (E.take k)=(rcK.row E).take (k*4):=by
 rcases Nat.lt_or_ge k E.length with h|h
 ·have e:rcK.row E=rcK.row (E.take k)++rcK.row (E.drop k):=by rw[←rcK.row_append,List.take_append_drop]
  have h1:(rcK.row (E.take k)).length=(E.take k).length*4:=rcK.row_length _
  rw[List.length_take,Nat.min_eq_left (Nat.le_of_lt h)]at h1
  rw[e,←h1,List.take_left]
 ·have hl:(rcK.row E).length=E.length*4:=rcK.row_length E
  rw[List.take_of_length_le h,List.take_of_length_le (by omega)]
theorem k9s(E:REL)(k:Nat)(h:k≤E.length):rcK.row (E.drop k)=(rcK.row E).drop (k*4):=by
 have e:rcK.row E=rcK.row (E.take k)++rcK.row (E.drop k):=by rw[←rcK.row_append,List.take_append_drop]
 have h1:(rcK.row (E.take k)).length=(E.take k).length*4:=rcK.row_length _
 rw[List.length_take,Nat.min_eq_left h]at h1
 rw[e,←h1,List.drop_left]
theorem k9t{B:Nat}(h:∀x∈E,RdI w B x.2 x.1.ids):∀u∈rcK.row E,u.oneCell'=true:=by
 intro u hu
 obtain⟨x,hx,hu⟩:=List.mem_flatMap.1 hu
 exact rcK.one (a:=x.1) (h x hx) u hu
end
def insE(k:Nat)(x:Rcp×Value)(E:REL):REL:=E.take k++x::E.drop k
def k9u(n k:Nat)(vb:Value)(x:Rcp×Value)(E:REL)(G:List RBE)(w:World)(e:Ending)(w':World):Prop:=
 e= .returned (.tuple #[])∧∃v7,ORN n v7 vb (insE k x E) G w'∧(∀b,v7.ownBlock=some b→w.heap.size≤b)∧FrS (fun b=>b=n) w w'
theorem k9v{n k base:Nat}{vf vb v7:Value}{x:Rcp×Value}{E:REL}{G:List RBE}{w W w7:World}(h:ORN n vf vb E G W)(hbw:Below w.heap.size w W)(hb:Below W.heap.size W w7)(hk:k≤E.length)(ho:w7.ownsRow base 40 4 v7 (0+k+1+(E.length-k)) (([]++(rcK.row E).take (k*4))++rcK.cells x.1 x.2++(rcK.row E).drop (k*4)))(hbase:W.heap.size≤base)
  (hx:RdI W W.heap.size x.2 x.1.ids∧∀k,x.2.ownBlock=some k→x.1.ids≠ []→k∉blkN n vb G):k9u n k vb x E G w (.returned (.tuple #[])) (w7.setCell ⟨n,0,none⟩ v7):=by
 have hl:(insE k x E).length=0+k+1+(E.length-k):=by unfold insE;rw[List.length_append,List.length_take,List.length_cons,List.length_drop];omega
 have hr:rcK.row (insE k x E)=([]++(rcK.row E).take (k*4))++rcK.cells x.1 x.2++(rcK.row E).drop (k*4):=by
  unfold insE
  rw[rcK.row_append,k9r,show rcK.row (x::E.drop k)=rcK.cells x.1 x.2++rcK.row (E.drop k)from rfl,k9s E k hk,List.nil_append,List.append_assoc]
 rw[←hl,←hr]at ho
 refine⟨rfl,v7,h.setF hb ho hbase (fun y hy=> ?_),fun b e=>Nat.le_trans hbw.size (Nat.le_trans hbase (Y7 ho e)),?_⟩
 ·rcases List.mem_append.1 hy with hy|hy
  ·have hm:=List.mem_of_mem_take hy
   exact⟨h.ids y hm,fun b e ne=>h.ap b (.inr ⟨y,hm,e,ne⟩)⟩
  ·rcases List.mem_cons.1 hy with rfl|hy
   ·exact hx
   ·have hm:=List.mem_of_mem_drop hy
    exact⟨h.ids y hm,fun b e ne=>h.ap b (.inr ⟨y,hm,e,ne⟩)⟩
 ·have hb2:=hbw.trans (hb.mono hbw.size)
  exact⟨hb2.os,hb2.tape,hb2.output,by have:=hb2.size;simpa[World.setCell]using this,fun j hj hne=>(G6 hne).trans (hb2.block j hj)⟩
theorem k9w(n:Nat)(vf vb:Value)(E:REL)(G:List RBE)(hl:E.length≤1000)(r:Rcp)(sl:Value)(at_:Nat)(hat:at_≤E.length)(h1:∀j (hj:j<E.length),j<at_→bytesBefore E[j].1.name r.name=true)(h2:∀hj:at_<E.length,bytesBefore E[at_].1.name r.name=false)(w:World)(h:ORN n vf vb E G w)(hsl:RdI w w.heap.size sl r.ids)(hap:∀k,sl.ownBlock=some k→r.ids≠ []→k∉blkN n vb G) :
  Calls Tryz.prog 76 #[.pointer (some ⟨n,0,none⟩),.agg #[VT r.name,.int .i64 r.len,.int .u32 (r.print:Int),sl]] w (k9u n at_ vb (r,sl) E G w):=by
 obtain⟨i0,hi,hz0,hz1,hz2⟩:=info_parts k2y
 obtain⟨SA,sc,hsv,_⟩:=id hsl.form
 subst hsv
 have hb1:Below w.heap.size w (w.alloc (.cells #[VT r.name,.int .i64 r.len,.int .u32 (r.print:Int),.slice SA r.ids.length sc] 40)):=(zb _ _).alloc (zl _) _
 have hn:=h.nlt
 have HN:=zh h
 have HC0:=zh h.c0
 have HSL:=zh hsl
 have HAP:=zh hap
 have H1:=zh h1
 have H2:=zh h2
 obtain⟨A,c,hvf,hcap,hx⟩:=h.vff
 subst hvf
 have HX:=zh hx
 have HB1:=zh hb1
 have HX1:=zh (Box4.mk' w (VT r.name) (.int .i64 r.len) (.int .u32 (r.print:Int)) (.slice SA r.ids.length sc) 40)
 clear hx h hsl hap h1 h2 hb1
 go_enter Tryz.func76,Tryz.ntmps76
 go_wp2
 generalize w.alloc (.cells #[VT r.name,.int .i64 r.len,.int .u32 (r.print:Int),.slice SA r.ids.length sc] 40)=w1 at *
 go_loopg [4] at_ (fun gh v4 wr=>∃k:Nat,v4= .int .i64 k∧k≤at_∧gh=at_-k∧Hid (Below w1.heap.size w1 wr))
 case atStart=>exact⟨0,rfl,Nat.zero_le _,rfl,zh (zb _ _)⟩
 case round=>
  obtain⟨k,rfl,hk,hgm,HBr⟩:=hrel
  have HBw:=zh (HB1.out.trans (HBr.out.mono HB1.out.size))
  have nc:=(HBw.out.cell (p:=⟨n,0,none⟩) hn).trans HC0.out
  obtain⟨r0,r1,r2,r3,_⟩:=HX1.out.below HBr.out HX1.out.lt
  by_cases hkl:k<E.length
  ·obtain⟨g,o,rfl,hg,hcells⟩:=HX.out (by omega)
   obtain⟨y0,_,_,_⟩:=hcells k hkl
   have x0:=(HBw.out.cell (p:=⟨g,o+k*4,none⟩) hg).trans y0
   have b1:(0:Int)≤(k:Int):=by omega
   have b2:(k:Int)<(E.length:Int):=by omega
   clear hcells y0
   by_cases hka:k<at_
   ·have hb:=H1.out k hkl hka
    have hlb:Op.bytesLess (bs E[k].1.name).toList (bs r.name).toList=true:=by rw[ByteArray.toList_eq,ByteArray.toList_eq,Q3,Q3,←q0b];exact hb
    clear hb
    go_wp2
    go_quiet (fail)
    have hbd:=V3 (zb wr.heap.size wr) nq
    have HBd:=zh (HBr.out.trans (hbd.mono HBr.out.size))
    clear hbd
    go_wp2
    go_roundg (at_-(k+1))
    case measure=>omega
    case rel=>exact⟨k+1,by go_num,hka,rfl,HBd⟩
   ·obtain rfl:k=at_:=by omega
    have hb:=H2.out hkl
    have hlb:Op.bytesLess (bs E[k].1.name).toList (bs r.name).toList=false:=by rw[ByteArray.toList_eq,ByteArray.toList_eq,Q3,Q3,←q0b];exact hb
    clear hb
    go_wp2
    go_quiet (fail)
    have hbd:=V3 (zb wr.heap.size wr) nq
    have HBd:=zh (HBr.out.trans (hbd.mono HBr.out.size))
    clear hbd
    clear r0 r1 r2 r3
    have HBW:=zh (HB1.out.trans (HBd.out.mono HB1.out.size))
    have HNW:=zh (HN.out.below HBW.out)
    have HXW:Hid (RdI (wr.drewN nq) (wr.drewN nq).heap.size (.slice SA r.ids.length sc) r.ids∧∀k,(Value.slice SA r.ids.length sc).ownBlock=some k→r.ids≠ []→k∉blkN n vb G):=zh ⟨(HSL.out.keep HBW.out (zl _)).more HBW.out.size,HAP.out⟩
    have HXB:=zh (HX1.out.below HBd.out HX1.out.lt)
    clear x0 nc
    generalize wr.drewN nq=W at *
    clear hlb
    have HRC:Hid (RdC W W.heap.size 4 (.slice (some ⟨g,o,none⟩) E.length c) E.length (rcK.row E)):=zh HNW.out.files
    have HT1:Hid (RdC W W.heap.size 4 (.slice (some ⟨g,o,none⟩) k c) k ((rcK.row E).take (k*4))):=zh (HRC.out.takeM k (by omega))
    have HT3:Hid (RdC W W.heap.size 4 (.slice (some ⟨g,o+k*4,none⟩) (E.length-k) (c-k)) (E.length-k) ((rcK.row E).drop (k*4))):=zh (by have h:=HRC.out.cutM k (by omega);rw[if_neg (by omega),Option.map_some,q0n]at h;exact h)
    have HO1:Hid (∀u∈(rcK.row E).take (k*4),u.oneCell'=true):=zh (fun u hu=>k9t HNW.out.ids u (List.mem_of_mem_take hu))
    have HO3:Hid (∀u∈(((rcK.row E).drop (k*4)):List Value),u.oneCell'=true):=zh (fun u hu=>k9t HNW.out.ids u (List.mem_of_mem_drop hu))
    have HON:Hid (∀u∈([VT r.name,.int .i64 r.len,.int .u32 (r.print:Int),.slice SA r.ids.length sc]:List Value),u.oneCell'=true):=zh (rcK.one (a:=r) HXW.out.1)
    have HP:Hid (∀(w7:World) (v7:Value),w7.ownsRow W.heap.size 40 4 v7 (0+k+1+(E.length-k)) (([]++(rcK.row E).take (k*4))++ [VT r.name,.int .i64 r.len,.int .u32 (r.print:Int),.slice SA r.ids.length sc]++((rcK.row E).drop (k*4)))→Below W.heap.size W w7→k9u n k vb (r,.slice SA r.ids.length sc) E G w (.returned (.tuple #[])) (w7.setCell ⟨n,0,none⟩ v7)):=zh (fun w7 v7 ho hb=>k9v HNW.out HBW.out hb (by omega) (by exact ho) (zl _) HXW.out)
    have q1:(0:Int)≤(k:Int):=by omega
    have q2:(k:Int)≤(E.length:Int):=by omega
    have q3:(k:Int)≤(c:Int):=by omega
    have hnl:n<W.heap.size:=HNW.out.nlt
    have nc0:=HNW.out.c0
    obtain⟨r0,r1,r2,r3,_⟩:=HXB.out
    go_wp2_with(first|(at_builtin;refine Q5 rfl (.tmp 28) (.tmp 34) 31 rfl W.heap.size 40 i0 (.agg #[.string ByteArray.empty,.int .i64 0,.int .u32 0,.slice none 0 0]) 4 56 Tryz.underlying31 hi hz0 hz1 hz2 rfl (by decide) _ 0 [] rfl (World.ownsRow_nil _ _ _ _) W.heap.size _ k ((rcK.row E).take (k*4)) rfl HT1.out HO1.out (by unfold maxLen;omega) (by omega) (zl _) ?_;intro v5 w5 ho5 hg5;have hS5:Below W.heap.size W w5:=Z3 (zb _ _) (zl _) (World.ownsRow_nil W W.heap.size 40 4) hg5;obtain⟨m0,m1,m2,m3,_⟩:=HXB.out.below hS5 HXB.out.lt;have nc5:=(hS5.cell (p:=⟨n,0,none⟩) hnl).trans nc0;have HNE:=zh (k3a w5 (VT r.name) (.int .i64 r.len) (.int .u32 (r.print:Int)) (.slice SA r.ids.length sc) 40))|(at_builtin;refine wpList_append_own _ rfl (.tmp 36) (.tmp 38) 31 rfl W.heap.size 40 i0 (.agg #[.string ByteArray.empty,.int .i64 0,.int .u32 0,.slice none 0 0]) 4 56 Tryz.underlying31 hi hz0 hz1 hz2 rfl (by decide) _ _ _ rfl (ho5.alloc _) ⟨w5.heap.size,0,none⟩ 1 1 [VT r.name,.int .i64 r.len,.int .u32 (r.print:Int),.slice SA r.ids.length sc] rfl rfl HNE.out HON.out (by unfold maxLen;omega) (by omega) (by have:=hS5.size;simp;omega) ?_;intro v6 w6 ho6 hg6 _;have hS6:Below W.heap.size W w6:=X5 hS5 hS5.size ho5 hg6;have nc6:=(hS6.cell (p:=⟨n,0,none⟩) hnl).trans nc0)|(at_builtin;refine Q5 rfl (.tmp 41) (.tmp 47) 31 rfl W.heap.size 40 i0 (.agg #[.string ByteArray.empty,.int .i64 0,.int .u32 0,.slice none 0 0]) 4 56 Tryz.underlying31 hi hz0 hz1 hz2 rfl (by decide) _ _ _ rfl ho6 W.heap.size _ (E.length-k) ((rcK.row E).drop (k*4)) rfl (HT3.out.below hS6) HO3.out (by unfold maxLen;omega) (by omega) hS6.size ?_;intro v7 w7 ho7 hg7;have hS7:Below W.heap.size W w7:=Z3 hS6 hS6.size ho6 hg7;obtain⟨A7,c7,hv7⟩:=J0 ho7;subst hv7;have hrow7:=(hS7.block n hnl).trans HNW.out.row;have d0:=cell_of_row w7 n 0 _ _ _ hrow7;have e0:=frozen_of_row w7 n 0 _ _ hrow7)|fail)
    go_end0
    exact HP.out _ _ (by simpa only[Nat.zero_add,Nat.add_zero]using ho7) hS7
  ·obtain rfl:k=at_:=by omega
   obtain rfl:k=E.length:=by omega
   have x0:=trivial
   go_wp2
   go_quiet (fail)
   have hbd:=V3 (zb wr.heap.size wr) nq
   have HBd:=zh (HBr.out.trans (hbd.mono HBr.out.size))
   clear hbd
   clear r0 r1 r2 r3
   have HBW:=zh (HB1.out.trans (HBd.out.mono HB1.out.size))
   have HNW:=zh (HN.out.below HBW.out)
   have HXW:Hid (RdI (wr.drewN nq) (wr.drewN nq).heap.size (.slice SA r.ids.length sc) r.ids∧∀k,(Value.slice SA r.ids.length sc).ownBlock=some k→r.ids≠ []→k∉blkN n vb G):=zh ⟨(HSL.out.keep HBW.out (zl _)).more HBW.out.size,HAP.out⟩
   have HXB:=zh (HX1.out.below HBd.out HX1.out.lt)
   clear x0 nc
   generalize wr.drewN nq=W at *
   by_cases hcl:c=E.length
   ·subst hcl
    have HRC:Hid (RdC W W.heap.size 4 (.slice A E.length E.length) E.length (rcK.row E)):=zh HNW.out.files
    have HT1:Hid (RdC W W.heap.size 4 (.slice A E.length E.length) E.length ((rcK.row E).take (E.length*4))):=zh (HRC.out.takeM E.length (by omega))
    have HT3:=zh trivial
    have HO1:Hid (∀u∈(rcK.row E).take (E.length*4),u.oneCell'=true):=zh (fun u hu=>k9t HNW.out.ids u (List.mem_of_mem_take hu))
    have HO3:Hid (∀u∈([]:List Value),u.oneCell'=true):=zh (fun u hu=>absurd hu List.not_mem_nil)
    have HON:Hid (∀u∈([VT r.name,.int .i64 r.len,.int .u32 (r.print:Int),.slice SA r.ids.length sc]:List Value),u.oneCell'=true):=zh (rcK.one (a:=r) HXW.out.1)
    have HP:Hid (∀(w7:World) (v7:Value),w7.ownsRow W.heap.size 40 4 v7 (0+E.length+1+0) (([]++(rcK.row E).take (E.length*4))++ [VT r.name,.int .i64 r.len,.int .u32 (r.print:Int),.slice SA r.ids.length sc]++ [])→Below W.heap.size W w7→k9u n E.length vb (r,.slice SA r.ids.length sc) E G w (.returned (.tuple #[])) (w7.setCell ⟨n,0,none⟩ v7)):=zh (fun w7 v7 ho hb=>k9v HNW.out HBW.out hb (by omega) (by rw[List.drop_of_length_le (show(rcK.row E).length≤E.length*4 from Nat.le_of_eq (rcK.row_length E)),Nat.sub_self];exact ho) (zl _) HXW.out)
    have q1:(0:Int)≤(E.length:Int):=by omega
    have q2:(E.length:Int)≤(E.length:Int):=by omega
    have q3:(E.length:Int)≤(E.length:Int):=by omega
    have hnl:n<W.heap.size:=HNW.out.nlt
    have nc0:=HNW.out.c0
    obtain⟨r0,r1,r2,r3,_⟩:=HXB.out
    go_wp2_with(first|(at_builtin;refine Q5 rfl (.tmp 28) (.tmp 34) 31 rfl W.heap.size 40 i0 (.agg #[.string ByteArray.empty,.int .i64 0,.int .u32 0,.slice none 0 0]) 4 56 Tryz.underlying31 hi hz0 hz1 hz2 rfl (by decide) _ 0 [] rfl (World.ownsRow_nil _ _ _ _) W.heap.size _ E.length ((rcK.row E).take (E.length*4)) rfl HT1.out HO1.out (by unfold maxLen;omega) (by omega) (zl _) ?_;intro v5 w5 ho5 hg5;have hS5:Below W.heap.size W w5:=Z3 (zb _ _) (zl _) (World.ownsRow_nil W W.heap.size 40 4) hg5;obtain⟨m0,m1,m2,m3,_⟩:=HXB.out.below hS5 HXB.out.lt;have nc5:=(hS5.cell (p:=⟨n,0,none⟩) hnl).trans nc0;have HNE:=zh (k3a w5 (VT r.name) (.int .i64 r.len) (.int .u32 (r.print:Int)) (.slice SA r.ids.length sc) 40))|(at_builtin;refine wpList_append_own _ rfl (.tmp 36) (.tmp 38) 31 rfl W.heap.size 40 i0 (.agg #[.string ByteArray.empty,.int .i64 0,.int .u32 0,.slice none 0 0]) 4 56 Tryz.underlying31 hi hz0 hz1 hz2 rfl (by decide) _ _ _ rfl (ho5.alloc _) ⟨w5.heap.size,0,none⟩ 1 1 [VT r.name,.int .i64 r.len,.int .u32 (r.print:Int),.slice SA r.ids.length sc] rfl rfl HNE.out HON.out (by unfold maxLen;omega) (by omega) (by have:=hS5.size;simp;omega) ?_;intro v6 w6 ho6 hg6 _;have hS6:Below W.heap.size W w6:=X5 hS5 hS5.size ho5 hg6;have nc6:=(hS6.cell (p:=⟨n,0,none⟩) hnl).trans nc0)|(at_builtin;refine Q5 rfl (.tmp 41) (.tmp 47) 31 rfl W.heap.size 40 i0 (.agg #[.string ByteArray.empty,.int .i64 0,.int .u32 0,.slice none 0 0]) 4 56 Tryz.underlying31 hi hz0 hz1 hz2 rfl (by decide) _ _ _ rfl ho6 W.heap.size _ 0 [] rfl (RdC.nilP _ _ _ _ _) HO3.out (by unfold maxLen;omega) (by omega) hS6.size ?_;intro v7 w7 ho7 hg7;have hS7:Below W.heap.size W w7:=Z3 hS6 hS6.size ho6 hg7;obtain⟨A7,c7,hv7⟩:=J0 ho7;subst hv7;have hrow7:=(hS7.block n hnl).trans HNW.out.row;have d0:=cell_of_row w7 n 0 _ _ _ hrow7;have e0:=frozen_of_row w7 n 0 _ _ hrow7)|fail)
    go_end0
    exact HP.out _ _ (by simpa only[Nat.zero_add,Nat.add_zero]using ho7) hS7
   ·have hcl2:¬E.length=c:=fun h=>hcl h.symm
    have HRC:Hid (RdC W W.heap.size 4 (.slice A E.length c) E.length (rcK.row E)):=zh HNW.out.files
    have HT1:Hid (RdC W W.heap.size 4 (.slice A E.length c) E.length ((rcK.row E).take (E.length*4))):=zh (HRC.out.takeM E.length (by omega))
    have HT3:=zh trivial
    have HO1:Hid (∀u∈(rcK.row E).take (E.length*4),u.oneCell'=true):=zh (fun u hu=>k9t HNW.out.ids u (List.mem_of_mem_take hu))
    have HO3:Hid (∀u∈([]:List Value),u.oneCell'=true):=zh (fun u hu=>absurd hu List.not_mem_nil)
    have HON:Hid (∀u∈([VT r.name,.int .i64 r.len,.int .u32 (r.print:Int),.slice SA r.ids.length sc]:List Value),u.oneCell'=true):=zh (rcK.one (a:=r) HXW.out.1)
    have HP:Hid (∀(w7:World) (v7:Value),w7.ownsRow W.heap.size 40 4 v7 (0+E.length+1+0) (([]++(rcK.row E).take (E.length*4))++ [VT r.name,.int .i64 r.len,.int .u32 (r.print:Int),.slice SA r.ids.length sc]++ [])→Below W.heap.size W w7→k9u n E.length vb (r,.slice SA r.ids.length sc) E G w (.returned (.tuple #[])) (w7.setCell ⟨n,0,none⟩ v7)):=zh (fun w7 v7 ho hb=>k9v HNW.out HBW.out hb (by omega) (by rw[List.drop_of_length_le (show(rcK.row E).length≤E.length*4 from Nat.le_of_eq (rcK.row_length E)),Nat.sub_self];exact ho) (zl _) HXW.out)
    have q1:(0:Int)≤(E.length:Int):=by omega
    have q2:(E.length:Int)≤(E.length:Int):=by omega
    have q3:(E.length:Int)≤(c:Int):=by omega
    have hnl:n<W.heap.size:=HNW.out.nlt
    have nc0:=HNW.out.c0
    obtain⟨r0,r1,r2,r3,_⟩:=HXB.out
    go_wp2_with(first|(at_builtin;refine Q5 rfl (.tmp 28) (.tmp 34) 31 rfl W.heap.size 40 i0 (.agg #[.string ByteArray.empty,.int .i64 0,.int .u32 0,.slice none 0 0]) 4 56 Tryz.underlying31 hi hz0 hz1 hz2 rfl (by decide) _ 0 [] rfl (World.ownsRow_nil _ _ _ _) W.heap.size _ E.length ((rcK.row E).take (E.length*4)) rfl HT1.out HO1.out (by unfold maxLen;omega) (by omega) (zl _) ?_;intro v5 w5 ho5 hg5;have hS5:Below W.heap.size W w5:=Z3 (zb _ _) (zl _) (World.ownsRow_nil W W.heap.size 40 4) hg5;obtain⟨m0,m1,m2,m3,_⟩:=HXB.out.below hS5 HXB.out.lt;have nc5:=(hS5.cell (p:=⟨n,0,none⟩) hnl).trans nc0;have HNE:=zh (k3a w5 (VT r.name) (.int .i64 r.len) (.int .u32 (r.print:Int)) (.slice SA r.ids.length sc) 40))|(at_builtin;refine wpList_append_own _ rfl (.tmp 36) (.tmp 38) 31 rfl W.heap.size 40 i0 (.agg #[.string ByteArray.empty,.int .i64 0,.int .u32 0,.slice none 0 0]) 4 56 Tryz.underlying31 hi hz0 hz1 hz2 rfl (by decide) _ _ _ rfl (ho5.alloc _) ⟨w5.heap.size,0,none⟩ 1 1 [VT r.name,.int .i64 r.len,.int .u32 (r.print:Int),.slice SA r.ids.length sc] rfl rfl HNE.out HON.out (by unfold maxLen;omega) (by omega) (by have:=hS5.size;simp;omega) ?_;intro v6 w6 ho6 hg6 _;have hS6:Below W.heap.size W w6:=X5 hS5 hS5.size ho5 hg6;have nc6:=(hS6.cell (p:=⟨n,0,none⟩) hnl).trans nc0)|(at_builtin;refine Q5 rfl (.tmp 41) (.tmp 47) 31 rfl W.heap.size 40 i0 (.agg #[.string ByteArray.empty,.int .i64 0,.int .u32 0,.slice none 0 0]) 4 56 Tryz.underlying31 hi hz0 hz1 hz2 rfl (by decide) _ _ _ rfl ho6 W.heap.size _ 0 [] rfl (RdC.nilP _ _ _ _ _) HO3.out (by unfold maxLen;omega) (by omega) hS6.size ?_;intro v7 w7 ho7 hg7;have hS7:Below W.heap.size W w7:=Z3 hS6 hS6.size ho6 hg7;obtain⟨A7,c7,hv7⟩:=J0 ho7;subst hv7;have hrow7:=(hS7.block n hnl).trans HNW.out.row;have d0:=cell_of_row w7 n 0 _ _ _ hrow7;have e0:=frozen_of_row w7 n 0 _ _ hrow7)|fail)
    go_end0
    exact HP.out _ _ (by simpa only[Nat.zero_add,Nat.add_zero]using ho7) hS7
end Go.Proofs.YtdmlghfggninbaaGreatDoor
namespace Go.Proofs.YtdmlghfggninbaaGreatDoor
open Go.RowKit Go.Lib Go.Maps
section
variable {K V:Type} [DecidableEq K] {lit:K→Lit} {lt:K→K→Bool} {ok okw:K→Prop}
theorem k9x(EM:KeyEmb lit lt ok okw){k:K}{v:V}:∀ {L:List (K×V)} (_:K1 lt L) {i:Nat} (hi:i<L.length) (_:L[i].1=k),Q9 lt k v L=L.set i (k,v)
 | [],_,i,hi,_=>absurd hi (Nat.not_lt_zero _)
 | y::r,hs,0,hi,he=>by
  unfold Q9
  rw[if_pos (show y.1=k from he)];rfl
 | y::r,hs,i+1,hi,he=>by
  obtain⟨h1,h2⟩:=G3.1 hs
  have he':(r[i]'(by simpa using hi)).1=k:=he
  have hl:lt y.1 k=true:=by have:=h1 (r[i]'(by simpa using hi)) (List.getElem_mem _);rw[he']at this;exact this
  have hn:¬lt k y.1=true:=fun e=>by have:=EM.trans hl e;rw[EM.irr]at this;cases this
  unfold Q9
  rw[if_neg (EM.ne hl),if_neg hn,k9x EM h2 (by simpa using hi) he'];rfl
theorem k9y(EM:KeyEmb lit lt ok okw){k:K}{v:V}:∀ {L:List (K×V)} (i:Nat) (_:i≤L.length) (_:∀j (hj:j<L.length),j<i→lt L[j].1 k=true) (_:∀hi:i<L.length,lt L[i].1 k=false) (_:∀j (hj:j<L.length),L[j].1≠k),Q9 lt k v L=L.take i++(k,v)::L.drop i
 | [],i,_,_,_,_=>by simp[Q9]
 | y::r,0,_,_,h2,hno=>by
  have hne:y.1≠k:=hno 0 (by simp)
  have hl:lt y.1 k=false:=h2 (by simp)
  have h3:lt k y.1=true:=by
   rcases EM.total hne with h|h
   ·rw[h]at hl;cases hl
   ·exact h
  unfold Q9
  rw[if_neg hne,if_pos h3];rfl
 | y::r,i+1,hi,h1,h2,hno=>by
  have hl:lt y.1 k=true:=h1 0 (by simp) (by omega)
  have hn:¬lt k y.1=true:=fun e=>by have:=EM.trans hl e;rw[EM.irr]at this;cases this
  unfold Q9
  rw[if_neg (EM.ne hl),if_neg hn,k9y EM i (by simpa using hi) (fun j hj hji=>h1 (j+1) (by simpa using hj) (by omega)) (fun hi'=>h2 (by simpa using hi')) (fun j hj=>hno (j+1) (by simpa using hj))]
  rfl
end
def prG(q:RBE):Idn×HldL:=(q.x,q.L)
theorem k9z{α β:Type}(f:α→List β){a b:List α}(h:a.Sublist b):(a.flatMap f).Sublist (b.flatMap f):=by
 induction h with
 | slnil=>exact List.Sublist.refl _
 | cons x _ ih=>rw[List.flatMap_cons];exact ih.trans (List.sublist_append_right _ _)
 | cons_cons x _ ih=>rw[List.flatMap_cons,List.flatMap_cons];exact(List.Sublist.refl _).append ih
section
variable {n:Nat} {vf vb vb':Value} {E:REL} {G G1 G2:List RBE} {q:RBE} {w w' W:World}
theorem v0a(hd:(blkN n vb G).Nodup)(hs:(G1++G2).Sublist G)(hv:vb'.ownBlock=vb.ownBlock∨∀k,vb'.ownBlock=some k→k∉blkN n vb G∧k≠q.rb∧q.v.ownBlock≠some k)
  (h1:q.rb∉blkN n vb G) (h2:∀k,q.v.ownBlock=some k→k∉blkN n vb G∧k≠q.rb):(blkN n vb' (G1++q::G2)).Nodup:=by
 have hp:(blkG (G1++q::G2)).Perm ((q.rb::q.v.ownBlock.toList)++blkG (G1++G2)):=List.Perm.flatMap_right (f:=fun q:RBE=>q.rb::q.v.ownBlock.toList) List.perm_middle
 have hX:(blkG (G1++G2)).Sublist (blkG G):=k9z _ hs
 unfold blkN
 rw[(List.Perm.cons n ((List.Perm.refl _).append hp)).nodup_iff]
 generalize blkG (G1++G2)=X at *
 have hXm:∀k,k∈X→k∈blkN n vb G:=fun k hk=>j9f (hX.mem hk)
 have hd0:=hd
 unfold blkN at hd
 rw[List.nodup_cons,List.nodup_append]at hd
 obtain⟨hn,_,hGn,hvG⟩:=hd
 rw[List.nodup_cons,List.nodup_append,List.cons_append,List.nodup_cons,List.nodup_append]
 have hv2:∀k,vb'.ownBlock=some k→k≠n∧k∉X∧k≠q.rb∧q.v.ownBlock≠some k:=fun k e=>by
  rcases hv with h|h
  ·rw[h]at e
   have hkm:k∈blkN n vb G:=j9e e
   exact⟨fun e2=>hn (List.mem_append_left _ (Option.mem_toList.2 (e2▸e))),fun hx=>hvG k (Option.mem_toList.2 e) k (hX.mem hx) rfl,fun e2=>h1 (e2▸hkm),fun e2=>(h2 k e2).1 hkm⟩
  ·obtain⟨a,b,c⟩:=h k e
   exact⟨fun e2=>a (e2▸j9d),fun hx=>a (hXm k hx),b,c⟩
 refine⟨fun hm=> ?_,?_,⟨fun hm=> ?_,?_,hGn.sublist hX,fun a ha b hb e=> ?_⟩,fun a ha b hb e=> ?_⟩
 ·rcases List.mem_append.1 hm with hm|hm
  ·exact(hv2 n (Option.mem_toList.1 hm)).1 rfl
  ·rcases List.mem_cons.1 hm with e|hm
   ·exact h1 (e▸j9d)
   ·rcases List.mem_append.1 hm with hm|hm
    ·exact(h2 n (Option.mem_toList.1 hm)).1 j9d
    ·exact hn (List.mem_append_right _ (hX.mem hm))
 ·cases vb'.ownBlock<;>simp
 ·rcases List.mem_append.1 hm with hm|hm
  ·exact(h2 _ (Option.mem_toList.1 hm)).2 rfl
  ·exact h1 (hXm _ hm)
 ·cases q.v.ownBlock<;>simp
 ·subst e
  exact(h2 a (Option.mem_toList.1 ha)).1 (hXm a hb)
 ·subst e
  obtain⟨_,a2,a3,a4⟩:=hv2 a (Option.mem_toList.1 ha)
  rcases List.mem_cons.1 hb with e|hb
  ·exact a3 e
  ·rcases List.mem_append.1 hb with hb|hb
   ·exact a4 (Option.mem_toList.1 hb)
   ·exact a2 hb
theorem RBin.keepK{rb:Nat}{v:Value}{L:HldL}(hb:RBin rb 0 v L w)(h1:w'.heap[rb]? =w.heap[rb]?)(h2:∀g,v.ownBlock=some g→w'.heap[g]? =w.heap[g]?):RBin rb 0 v L w':=by
 refine⟨h1.trans hb.row,?_,hb.ne⟩
 refine⟨hb.own.1,?_⟩
 rcases hb.own.2 with h3|⟨g,cap,cur,hv,hgb,hh,h3⟩
 ·exact .inl h3
 ·exact .inr ⟨g,cap,cur,hv,hgb,(h2 g (by rw[hv];rfl)).trans hh,h3⟩
theorem ORN.bin_ap(h:ORN n vf vb E G w){p:RBE}(hp:p∈G):(p.rb<w.heap.size∧p.rb≠n∧vb.ownBlock≠some p.rb)∧∀k,p.v.ownBlock=some k→k<w.heap.size∧k≠n∧vb.ownBlock≠some k:=by
 have hd:=h.nd
 unfold blkN at hd
 rw[List.nodup_cons,List.nodup_append]at hd
 obtain⟨_,_,_,hvG⟩:=hd
 obtain⟨a,b⟩:=h.rb_ne hp
 exact⟨⟨(h.bin p hp).lt,a,fun e=>hvG _ (Option.mem_toList.2 e) _ (j9c hp).1 rfl⟩,fun k e=>⟨C8 (h.bin p hp).own e,b k e,fun e2=>hvG _ (Option.mem_toList.2 e2) _ ((j9c hp).2 k e) rfl⟩⟩
theorem ORN.setG(h:ORN n vf vb E G W)(hz:W.heap.size≤w'.heap.size)(hw:∀k,k<W.heap.size→k≠n→vb.ownBlock≠some k→w'.heap[k]? =W.heap[k]?)(hrow:w'.heap[n]? =some (.cells #[vf,vb'] 34 (0,0)))
  (hown:w'.ownsRow 0 54 3 vb' (G1++q::G2).length (J2 (G1++q::G2))) (hs:(G1++G2).Sublist G) (hq:RBin q.rb 0 q.v q.L W) (hq1:q.rb∉blkN n vb G) (hq2:∀k,q.v.ownBlock=some k→k∉blkN n vb G)
  (hq3:∀k,rR vf E k→k≠q.rb∧q.v.ownBlock≠some k) (hv:vb'.ownBlock=vb.ownBlock∨∀k,vb'.ownBlock=some k→W.heap.size≤k):ORN n vf vb' E (G1++q::G2) w':=by
 have hrk:∀k,rR vf E k→k<W.heap.size→w'.heap[k]? =W.heap[k]? :=fun k hk hl=>hw k hl (fun e=>h.ap k hk (e▸j9d)) (fun e=>h.ap k hk (j9e e))
 have hlt:∀k,k∈blkN n vb G→k<W.heap.size:=fun k hk=>h.blk_lt hk
 have hqb:∀k,q.v.ownBlock=some k→k<W.heap.size:=fun k e=>C8 hq.own e
 refine⟨hrow,h.files.keepK hz fun k e h0 hl=>hrk k (.inl ⟨e,List.ne_nil_of_length_pos h0⟩) hl,fun x hx=>RdC.keepK (h.ids x hx) hz fun k e h0 hl=>hrk k (.inr ⟨x,hx,e,List.ne_nil_of_length_pos h0⟩) hl,hown,fun p hp=> ?_,?_,fun k hk hm=> ?_⟩
 ·have hc:p=q∨p∈G:=by
   rcases List.mem_append.1 hp with hp|hp
   ·exact .inr (hs.mem (List.mem_append_left _ hp))
   ·rcases List.mem_cons.1 hp with e|hp
    ·exact .inl e
    ·exact .inr (hs.mem (List.mem_append_right _ hp))
  rcases hc with rfl|hp
  ·exact hq.keepK (hw _ hq.lt (fun e=>hq1 (e▸j9d)) (fun e=>hq1 (j9e e))) fun g e=>hw g (hqb g e) (fun e2=>hq2 g e (e2▸j9d)) (fun e2=>hq2 g e (j9e e2))
  ·obtain⟨⟨a1,a2,a3⟩,b⟩:=h.bin_ap hp
   exact(h.bin p hp).keepK (hw _ a1 a2 a3) fun g e=>hw g (b g e).1 (b g e).2.1 (b g e).2.2
 ·refine v0a h.nd hs ?_ hq1 fun k e=>⟨hq2 k e,hq.ne k e⟩
  rcases hv with h1|h1
  ·exact .inl h1
  ·exact .inr fun k e=>⟨fun hm=>by have:=hlt k hm;have:=h1 k e;omega,fun e2=>by have:=hq.lt;have:=h1 k e;omega,fun e2=>by have:=hqb k e2;have:=h1 k e;omega⟩
 ·have hkn:=h.ap k hk
  rcases U8.1 hm with e|e|⟨p,hp,e⟩
  ·exact hkn (e▸j9d)
  ·rcases hv with h1|h1
   ·exact hkn (j9e (h1▸e))
   ·have:=h1 k e;have:=h.rlt k hk;omega
  ·have hc:p=q∨p∈G:=by
    rcases List.mem_append.1 hp with hp|hp
    ·exact .inr (hs.mem (List.mem_append_left _ hp))
    ·rcases List.mem_cons.1 hp with e|hp
     ·exact .inl e
     ·exact .inr (hs.mem (List.mem_append_right _ hp))
   rcases hc with rfl|hp
   ·rcases e with e|e
    ·exact(hq3 k hk).1 e.symm
    ·exact(hq3 k hk).2 e
   ·exact hkn (U8.2 (.inr (.inr ⟨p,hp,e⟩)))
theorem v0b{k:Nat}(hs:(G1++G2).Sublist G)(hv:∀k,vb'.ownBlock=some k→vb.ownBlock=some k∨w.heap.size≤k)(hk:k∈blkN n vb' (G1++q::G2)):k∈blkN n vb G∨k=q.rb∨q.v.ownBlock=some k∨w.heap.size≤k:=by
 rcases U8.1 hk with e|e|⟨p,hp,e⟩
 ·exact .inl (e▸j9d)
 ·rcases hv k e with h|h
  ·exact .inl (j9e h)
  ·exact .inr (.inr (.inr h))
 ·rcases List.mem_append.1 hp with hp|hp
  ·exact .inl (U8.2 (.inr (.inr ⟨p,hs.mem (List.mem_append_left _ hp),e⟩)))
  ·rcases List.mem_cons.1 hp with rfl|hp
   ·rcases e with e|e
    ·exact .inr (.inl e.symm)
    ·exact .inr (.inr (.inl e))
   ·exact .inl (U8.2 (.inr (.inr ⟨p,hs.mem (List.mem_append_right _ hp),e⟩)))
end
theorem v0c(G:List RBE)(k:Nat)(hk:k<G.length)(q:RBE)(hx:q.x=G[k].x):J2 (G.set k q)=(J2 G).set (k*3+2) (.pointer (some ⟨q.rb,0,none⟩)):=by
 induction G generalizing k with
 | nil=>exact absurd hk (Nat.not_lt_zero _)
 | cons a r ih=>
  cases k with
  | zero=>
   have hx':q.x=a.x:=hx
   show rbC q++J2 r=(rbC a++J2 r).set 2 _
   unfold rbC
   rw[hx'];rfl
  | succ k=>
   have h1:=ih k (by simpa using hk) (by simpa using hx)
   show rbC a++J2 (r.set k q)=(rbC a++J2 r).set ((k+1)*3+2) _
   rw[h1,show(k+1)*3+2=(k*3+2)+3 by omega];rfl
theorem v0d(G:List RBE)(k:Nat):J2 (G.take k)=(J2 G).take (k*3):=by
 rcases Nat.lt_or_ge k G.length with h|h
 ·have e:J2 G=J2 (G.take k)++J2 (G.drop k):=by rw[←q0e,List.take_append_drop]
  have h1:(J2 (G.take k)).length=(G.take k).length*3:=W6 _
  rw[List.length_take,Nat.min_eq_left (Nat.le_of_lt h)]at h1
  rw[e,←h1,List.take_left]
 ·have hl:(J2 G).length=G.length*3:=W6 G
  rw[List.take_of_length_le h,List.take_of_length_le (by omega)]
theorem v0e(G:List RBE)(k:Nat)(h:k≤G.length):J2 (G.drop k)=(J2 G).drop (k*3):=by
 have e:J2 G=J2 (G.take k)++J2 (G.drop k):=by rw[←q0e,List.take_append_drop]
 have h1:(J2 (G.take k)).length=(G.take k).length*3:=W6 _
 rw[List.length_take,Nat.min_eq_left h]at h1
 rw[e,←h1,List.drop_left]
def v0f(L:HldL)(w:World)(e:Ending)(w':World):Prop:=∃b v',e= .returned (.pointer (some ⟨b,0,none⟩))∧RBin b w.heap.size v' L w'∧w.heap.size≤b∧Below w.heap.size w w'
theorem v0g{L:HldL}{w w5:World}{v5:Value}(ho:w5.ownsRow w.heap.size 150 4 v5 L.length (Q6 L))(hb:Below w.heap.size w w5):v0f L w (.returned (.pointer (some ⟨w5.heap.size,0,none⟩))) (w5.alloc (.cells #[v5] 94)):=
 ⟨w5.heap.size,v5,rfl,⟨heap_alloc_new w5 _,ho.alloc _,fun b e=>by have:=C8 ho e;omega⟩,hb.size,hb.alloc hb.size _⟩
theorem v0h(rb base:Nat)(v:Value)(L:HldL)(hl:L.length≤1000000)(w:World)(h:RBin rb base v L w) :
  Calls Tryz.prog 90 #[.pointer (some ⟨rb,0,none⟩)] w (v0f L w):=by
 obtain⟨i0,hi,hz0,hz1,hz2⟩:=info_parts j0d
 obtain⟨A,c,hv⟩:=J0 h.own
 subst hv
 have c0:=h.cell
 have HRC:=zh (RdC.ownP h.own)
 have HO1:Hid (∀u∈Q6 L,u.oneCell'=true):=zh (fun u hu=>j0j L u hu)
 have HP:Hid (∀(w5:World) (v5:Value),w5.ownsRow w.heap.size 150 4 v5 L.length (Q6 L)→Below w.heap.size w w5→v0f L w (.returned (.pointer (some ⟨w5.heap.size,0,none⟩))) (w5.alloc (.cells #[v5] 94))):=zh (fun w5 v5 ho hb=>v0g ho hb)
 clear h
 go_enter Tryz.func90,Tryz.ntmps90
 go_wp2_with(first|(at_builtin;refine Q5 rfl (.tmp 4) (.tmp 8) 91 rfl w.heap.size 150 i0 (.agg #[.int .u32 0,.int .i64 0,.int .i64 0,.string ByteArray.empty]) 4 40 Tryz.underlying91 hi hz0 hz1 hz2 rfl (by decide) _ 0 [] rfl (World.ownsRow_nil _ _ _ _) w.heap.size _ L.length (Q6 L) rfl HRC.out HO1.out (by unfold maxLen;omega) (by omega) (zl _) ?_;intro v5 w5 ho5 hg5;have hS5:Below w.heap.size w w5:=Z3 (zb _ _) (zl _) (World.ownsRow_nil w w.heap.size 150 4) hg5;have ho6:w5.ownsRow w.heap.size 150 4 v5 L.length (Q6 L):=(by simpa only[Nat.zero_add,List.nil_append]using ho5);obtain⟨A6,c6,hv6⟩:=J0 ho6;subst hv6)|fail)
 go_ret
 exact HP.out _ _ ho6 hS5
end Go.Proofs.YtdmlghfggninbaaGreatDoor
