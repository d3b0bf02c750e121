/- Foot, ClnI, RcM, RcBa, Hlds, OfR, BfT in one text. Conditions: as each part says. -/
import Derived.Test.YtdmlghfggninbaaGreatDoorMb6
import Derived.Test.YtdmlghfggninbaaGreatDoorMb1
import Derived.Test.YtdmlghfggninbaaGreatDoorMb31
import Derived.OwnWalk
import Derived.BigQuiet
import Derived.Deep.LoopGhost
import Derived.Test.YtdmlghfggninbaaGreatDoorMb30
import Derived.Test.YtdmlghfggninbaaGreatDoorMb3
set_option linter.unusedVariables false
set_option linter.unusedSimpArgs false
set_option maxHeartbeats 4000000
set_option maxRecDepth 100000
namespace Go.Proofs.YtdmlghfggninbaaGreatDoor
open Go.RowKit Go.Lib
structure FrS(S:Nat→Prop)(w w':World):Prop where
 os:w'.os=w.os
 tape:w'.tape=w.tape
 output:w'.output=w.output
 size:w.heap.size≤w'.heap.size
 block:∀k,k<w.heap.size→¬S k→w'.heap[k]? =w.heap[k]?
theorem FrS.refl(S:Nat→Prop)(w:World):FrS S w w:=⟨rfl,rfl,rfl,zl _,fun _ _ _=>rfl⟩
theorem FrS.trans{S T:Nat→Prop}{a b c:World}(h:FrS S a b)(k:FrS T b c)(hT:∀i,T i→S i∨a.heap.size≤i):FrS S a c:=
 ⟨k.os.trans h.os,k.tape.trans h.tape,k.output.trans h.output,Nat.le_trans h.size k.size,fun i hi hS=>(k.block i (Nat.lt_of_lt_of_le hi h.size) (fun ht=>(hT i ht).elim hS (fun h=>by omega))).trans (h.block i hi hS)⟩
theorem FrS.of_below{S:Nat→Prop}{w w':World}(h:Below w.heap.size w w'):FrS S w w':=⟨h.os,h.tape,h.output,h.size,fun k hk _=>h.block k hk⟩
theorem FrS.of_gb{S:Nat→Prop}{b:Nat}{w w':World}(h:w.grownBy w' (some b))(hb:S b):FrS S w w':=⟨h.os,h.tape,h.output,h.size,fun k hk hn=>h.block k hk (fun e=>by injection e with e;exact hn (e▸hb))⟩
theorem FrS.mono{S T:Nat→Prop}{w w':World}(h:FrS S w w')(hT:∀k,S k→T k):FrS T w w':=⟨h.os,h.tape,h.output,h.size,fun k hk hn=>h.block k hk (fun e=>hn (hT k e))⟩
theorem FrS.below{S:Nat→Prop}{B:Nat}{w0 w w':World}(h0:Below B w0 w)(hB:B≤w.heap.size)(h:FrS S w w')(hS:∀k,S k→B≤k):Below B w0 w':=
 h0.trans ⟨h.os,h.tape,h.output,h.size,fun k hk=>h.block k (Nat.lt_of_lt_of_le hk hB) (fun hs=>by have:=hS k hs;omega)⟩
theorem FrS.thenB{S:Nat→Prop}{a b c:World}(h:FrS S a b)(k:Below b.heap.size b c):FrS S a c:=h.trans (FrS.of_below (S:=S) k) (fun _ h=> .inl h)
theorem FrS.cell{S:Nat→Prop}{w w':World}(h:FrS S w w'){p:Addr}(hp:p.block<w.heap.size)(hn:¬S p.block):w'.cell? p=w.cell? p:=World.cell?_of_block (h.block _ hp hn)
structure Foot where
 S:Nat→Prop
 R:Nat→Prop
def Foot.ap(f g:Foot):Prop:=∀k,(f.S k→¬g.S k∧¬g.R k)∧(g.S k→¬f.R k)
def Foot.new(f f':Foot)(B:Nat):Prop:=∀k,(f'.S k→f.S k∨B≤k)∧(f'.R k→f.R k∨B≤k)
def Foot.lt(f:Foot)(B:Nat):Prop:=∀k,f.S k∨f.R k→k<B
def Foot.ge(f:Foot)(B:Nat):Prop:=∀k,f.S k∨f.R k→B≤k
theorem Foot.ap.symm{f g:Foot}(h:f.ap g):g.ap f:=fun k=>⟨fun hg=>⟨fun hf=>((h k).1 hf).1 hg,(h k).2 hg⟩,fun hf=>((h k).1 hf).2⟩
theorem Foot.new_refl(f:Foot)(B:Nat):f.new f B:=fun _=>⟨.inl,.inl⟩
theorem Foot.new.trans{f g h:Foot}{B C:Nat}(h1:f.new g B)(h2:g.new h C)(hB:B≤C):f.new h B:=fun k=>
 ⟨fun hs=>((h2 k).1 hs).elim (h1 k).1 (fun h=> .inr (Nat.le_trans hB h)),fun hs=>((h2 k).2 hs).elim (h1 k).2 (fun h=> .inr (Nat.le_trans hB h))⟩
theorem Foot.ap.step{f g f':Foot}{B:Nat}(h:f.ap g)(hn:f.new f' B)(hg:g.lt B):f'.ap g:=fun k=>
 ⟨fun hs=>((hn k).1 hs).elim (h k).1 (fun hB=>⟨fun h=>by have:=hg k (.inl h);omega,fun h=>by have:=hg k (.inr h);omega⟩),
 fun hs hr=>((hn k).2 hr).elim ((h k).2 hs) (fun hB=>by have:=hg k (.inl hs);omega)⟩
theorem Foot.ap_of_ge{f g:Foot}{B:Nat}(hf:f.ge B)(hg:g.lt B):f.ap g:=fun k=>
 ⟨fun hs=>⟨fun h=>by have:=hg k (.inl h);have:=hf k (.inl hs);omega,fun h=>by have:=hg k (.inr h);have:=hf k (.inl hs);omega⟩,fun hs hr=>by have:=hg k (.inl hs);have:=hf k (.inr hr);omega⟩
structure Thing(Q:World→Prop)(f:Foot)(w:World):Prop where
 lt:f.lt w.heap.size
 of:∀w':World,w.heap.size≤w'.heap.size→(∀k,f.S k∨f.R k→w'.heap[k]? =w.heap[k]?)→Q w'
theorem Thing.now{Q:World→Prop}{f:Foot}{w:World}(h:Thing Q f w):Q w:=h.of w (zl _) (fun _ _=>rfl)
theorem Thing.keep{Q:World→Prop}{f:Foot}{T:Nat→Prop}{w w':World}(h:Thing Q f w)(hF:FrS T w w')(hd:∀k,f.S k∨f.R k→¬T k):Thing Q f w':=
 ⟨fun k hk=>Nat.lt_of_lt_of_le (h.lt k hk) hF.size,fun w2 hz hk=>h.of w2 (Nat.le_trans hF.size hz) fun k hm=>(hk k hm).trans (hF.block k (h.lt k hm) (hd k hm))⟩
theorem Thing.far{Q:World→Prop}{f g:Foot}{w w':World}(h:Thing Q f w)(hF:FrS g.S w w')(hd:g.ap f):Thing Q f w':=
 h.keep hF fun k hk hs=>hk.elim ((hd k).1 hs).1 ((hd k).1 hs).2
theorem Thing.below{Q:World→Prop}{f:Foot}{w w':World}(h:Thing Q f w)(hb:Below w.heap.size w w'):Thing Q f w':=
 h.keep (T:=fun _=>False) (FrS.of_below hb) (fun _ _ h=>h)
theorem Thing.mono{Q Q':World→Prop}{f:Foot}{w:World}(h:Thing Q f w)(hq:∀w',Q w'→Q' w'):Thing Q' f w:=⟨h.lt,fun w' hz hk=>hq _ (h.of w' hz hk)⟩
theorem Tr.nilI(n c:Nat)(w:World):(binOp BinOp.eql 38 (.slice none n c) (.slice none 0 0)).run Tryz.prog w= .ok (.bool true) w:=by kernel_rfl
theorem Tr.someI(a:Addr)(n c:Nat)(w:World):(binOp BinOp.eql 38 (.slice (some a) n c) (.slice none 0 0)).run Tryz.prog w= .ok (.bool false) w:=by kernel_rfl
theorem z9s(w:World)(e:TypeId)(size:Nat):(w.alloc (.cells #[] e)).ownsRow w.heap.size e size (.slice (some ⟨w.heap.size,0,none⟩) 0 0) 0 []:=
 ⟨by simp,.inr ⟨w.heap.size,0,#[],rfl,zl _,heap_alloc_new w _,zl _,Nat.zero_le _,by simp,by simp⟩⟩
theorem z9t(v:Value)(L:IdL)(hL:L.length≤1000000)(w:World)(hv:RdI w w.heap.size v L) :
  Calls Tryz.prog 39 #[v] w fun e w'=>∃v',e= .returned v'∧RdB w' w.heap.size w'.heap.size v' L∧Below w.heap.size w w':=by
 obtain⟨i0,hi,hz0,hz1,hz2⟩:=info_parts z8t
 have hb0:Below w.heap.size w (w.alloc (.cells #[] 25)):=(zb _ w).alloc (zl _) _
 have HV:=zh (hv.below hb0)
 obtain⟨A,c,hvA⟩:∃A c,v= .slice A L.length c:=by obtain⟨A,c,h,_⟩:=hv;exact⟨A,c,h⟩
 have q1:=Tr.nilI
 have q2:=Tr.someI
 cases A with
 | none=>
  have h0:L= []:=by
   obtain⟨A,c',he,_,_,hx⟩:=hv
   by_cases hz:0<L.length
   ·obtain⟨g,o,hA,_⟩:=hx hz
    rw[hvA]at he
    injection he with e1
    rw[hA]at e1
    cases e1
   ·exact List.length_eq_zero_iff.1 (by omega)
  subst h0
  subst hvA
  clear hv HV
  go_enter Tryz.func39,Tryz.ntmps39
  go_wp2
  go_ret
  exact⟨_,rfl,RdB.nil _ _ _,zb _ _⟩
 | some a=>
  subst hvA
  clear hv
  have HB0:=zh hb0
  have HO:=zh (z9s w 25 2)
  clear hb0
  go_enter Tryz.func39,Tryz.ntmps39
  go_wp2_with(first|(at_builtin;refine Q5 rfl (.tmp 5) (.tmp 6) 38 rfl w.heap.size 25 i0 (.agg #[.int .u32 0,.int .i64 0]) 2 16 Tryz.underlying38 hi hz0 hz1 hz2 rfl (by decide) _ 0 [] rfl HO.out w.heap.size _ L.length (U4 L) rfl HV.out (z8r _) (by unfold maxLen;omega) (by omega) HB0.out.size ?_;intro v5 w5 ho5 hg5)|fail)
  have HB5:=zh (HB0.out.grown hg5 HB0.out.size (fun j hj=>by cases hj;exact zl _))
  have HO5:=zh ho5
  clear ho5 hg5
  go_wp2
  go_ret
  exact⟨_,rfl,RdB.own (by simpa using HO5.out) rfl,HB5.out⟩
theorem z9u{L:IdL}{m:Idn}{k:Nat}(hk:k<L.length)(h:Q2 L[k] m=true):M6 m (L.drop k)=M6 L[k] (L.drop (k+1)):=by
 rw[List.drop_eq_getElem_cons hk]
 show M6 (if Q2 L[k] m then L[k]else m) _=_
 rw[if_pos h]
theorem z9v{L:IdL}{m:Idn}{k:Nat}(hk:k<L.length)(h:Q2 L[k] m=false):M6 m (L.drop k)=M6 m (L.drop (k+1)):=by
 rw[List.drop_eq_getElem_cons hk]
 show M6 (if Q2 L[k] m then L[k]else m) _=_
 rw[if_neg (by rw[h];simp)]
theorem z9w{x m:Idn}(h:Q2 x m=true):z0m x.1 m.1 x.2 m.2<0:=of_decide_eq_true ((z0n _ _ _ _).trans h)
theorem z9x{x m:Idn}(h:Q2 x m=false):¬z0m x.1 m.1 x.2 m.2<0:=of_decide_eq_false ((z0n _ _ _ _).trans h)
theorem z9y(v:Value)(L:IdL)(hL:L.length≤1000000)(h0:0<L.length)(w:World)(hv:RdI w w.heap.size v L) :
  Calls Tryz.prog 127 #[v,.func (.func 80) #[] #[]] w fun e w'=>e= .returned (idV (Z8 L))∧Below w.heap.size w w':=by
 obtain⟨A,c,rfl,hcap,hcells⟩:=hv.form
 obtain⟨g,o,rfl,hg,hx⟩:=hcells h0
 obtain⟨x0,x1⟩:=hx 0 h0
 have HREP:Hid (Z8 L=M6 L[0] (L.drop 1)):=zh (by
  conv=>lhs;rw[←List.drop_zero (l:=L),List.drop_eq_getElem_cons h0]
  rfl)
 have hA1:=(zb w.heap.size w).alloc (zl _) (.cells #[.int .u32 0,.int .i64 0] 25)
 have z0:=(hA1.cell (p:=⟨g,o+0*2,none⟩) hg).trans x0
 have z1:=(hA1.cell (p:=⟨g,o+0*2+1,none⟩) hg).trans x1
 simp only[Nat.zero_mul,Nat.add_zero]at z0 z1
 have HX:=zh hx
 have h0i:¬(L.length:Int)<1:=by omega
 have h0j:0<(L.length:Int):=by omega
 clear hx x0 x1 hcells hA1
 go_enter Tryz.func127,Tryz.ntmps127
 go_wp2
 have hb0:Below w.heap.size w ((w.alloc (.cells #[.int .u32 0,.int .i64 0] 25)).alloc (.cells #[.int .u32 (L[0].1:Int),.int .i64 L[0].2] 25)):=((zb _ w).alloc (zl _) _).alloc (by simp) _
 have hr0:Box2 w.heap.size (.int .u32 0) (.int .i64 0) ((w.alloc (.cells #[.int .u32 0,.int .i64 0] 25)).alloc (.cells #[.int .u32 (L[0].1:Int),.int .i64 L[0].2] 25)):=(Box2.mk' w _ _ _).alloc _
 have hm0:Box2 (w.heap.size+1) (.int .u32 (L[0].1:Int)) (.int .i64 L[0].2) ((w.alloc (.cells #[.int .u32 0,.int .i64 0] 25)).alloc (.cells #[.int .u32 (L[0].1:Int),.int .i64 L[0].2] 25)):=by
  have:=Box2.mk' (w.alloc (.cells #[.int .u32 0,.int .i64 0] 25)) (.int .u32 (L[0].1:Int)) (.int .i64 L[0].2) 25
  simpa using this
 generalize(w.alloc (.cells #[.int .u32 0,.int .i64 0] 25)).alloc (.cells #[.int .u32 (L[0].1:Int),.int .i64 L[0].2] 25)=w0 at *
 have HB0:=zh hb0
 have HR0:=zh hr0
 have hlt0:=hm0.lt
 clear hb0 hr0 z0 z1
 go_loopg [6] (L.length-1) (fun gh vi wr=>∃(k:Nat) (m:Idn),vi= .int .i64 k∧1≤k∧k≤L.length∧gh=L.length-k∧Hid (Z8 L=M6 m (L.drop k))∧w0.grownBy wr (some (w.heap.size+1))∧Box2 (w.heap.size+1) (.int .u32 (m.1:Int)) (.int .i64 m.2) wr)
 case atStart=>exact⟨1,L[0],rfl,by omega,h0,rfl,HREP,⟨rfl,rfl,rfl,zl _,fun _ _ _=>rfl⟩,hm0⟩
 case round=>
  obtain⟨k,m,rfl,hk1,hk,hgm,hI,hg9,hbm⟩:=hrel
  by_cases hkl:k<L.length
  ·obtain⟨x0,x1⟩:=HX.out k hkl
   have hgne:some g≠some (w.heap.size+1):=fun e=>by have:=Option.some.inj e;omega
   have hg0:g<w0.heap.size:=by omega
   have hgr:g<wr.heap.size:=by have:=hg9.size;omega
   have y0:=(hg9.cell_far ⟨g,o+k*2,none⟩ hg0 hgne).trans ((HB0.out.cell (p:=⟨g,o+k*2,none⟩) hg).trans x0)
   have y1:=(hg9.cell_far ⟨g,o+k*2+1,none⟩ hg0 hgne).trans ((HB0.out.cell (p:=⟨g,o+k*2+1,none⟩) hg).trans x1)
   have b1:(0:Int)≤(k:Int):=by omega
   have b2:(k:Int)<(L.length:Int):=by omega
   have Y0:=zh y0
   have Y1:=zh y1
   have HBM:=zh hbm
   have HG:=zh hg9
   clear x0 x1 y0 y1 hbm hg9
   go_wp2
   have hS0:Below wr.heap.size wr wr.drew:=(zb _ _).drew
   refine kR (fun w'=>Below wr.heap.size wr w') 7 ?_
   refine kT 0 hS0 ?_
   refine kT 1 hS0 ?_
   refine kT 2 hS0 ?_
   refine kT 3 hS0 ?_
   refine kS 4 rfl hS0 (fun w' hS=>by have B0:=(hS.cell (p:=⟨g,o+k*2,none⟩) hgr).trans Y0.out;have B1:=(hS.cell (p:=⟨g,o+k*2+1,none⟩) hgr).trans Y1.out;go_simp;rfl) ?_
   refine kS 5 rfl hS0 (fun w' hS=>by have B0:=(HBM.out.below hS HBM.out.lt).c0;have B1:=(HBM.out.below hS HBM.out.lt).c1;go_simp;rfl) ?_
   refine kC 6 (fun K hK=> ?_)
   go_simp
   refine(z0o L[k].1 m.1 L[k].2 m.2 _).mono ?_
   rintro e w4 ⟨rfl,hb4⟩
   have hS4:Below wr.heap.size wr w4:=hS0.trans hb4
   refine hK _ _ hS4 (kF ?_)
   clear hK K
   try simp only[Act.put,zM]
   simp only[List.drop_succ_cons,List.drop_zero]
   have HB4:=zh (z8u HG.out hS4)
   have hbm4:=HBM.out.below hS4 HBM.out.lt
   have HBM4:=zh hbm4
   have y0:=(hS4.cell (p:=⟨g,o+k*2,none⟩) hgr).trans Y0.out
   have y1:=(hS4.cell (p:=⟨g,o+k*2+1,none⟩) hgr).trans Y1.out
   obtain⟨m0,m1,f0,f1⟩:=hbm4
   cases hc:Q2 L[k] m with
   | true=>
    have hci:=z9w hc
    have HN:=zh (hI.out.trans (z9u hkl hc))
    clear hc hI
    go_wp2
    go_roundg (L.length-(k+1))
    case measure=>omega
    case rel=>exact⟨k+1,L[k],by go_num,by omega,hkl,rfl,HN,z8w (z8w HB4.out _ _) _ _,HBM4.out.set _ _⟩
   | false=>
    have hci:=z9x hc
    have HN:=zh (hI.out.trans (z9v hkl hc))
    clear hc hI
    go_wp2
    go_roundg (L.length-(k+1))
    case measure=>omega
    case rel=>exact⟨k+1,m,by go_num,by omega,hkl,rfl,HN,HB4.out,HBM4.out⟩
  ·obtain rfl:k=L.length:=by omega
   have hI2:Z8 L=m:=by rw[hI.out,List.drop_eq_nil_of_le (zl _)];rfl
   have HI:=zh hI2
   have hrr:=z8y hg9 (by omega) HR0.out
   have HRR:=zh hrr
   obtain⟨r0,r1,f0,f1⟩:=hrr
   obtain⟨m0,m1,_,_⟩:=hbm
   obtain⟨t0,t1,t2⟩:=HRR.out.rd (.int .u32 (m.1:Int)) (.int .i64 m.2)
   have HB9:=zh (q0c (C4 HB0.out (by omega) (by omega) hg9) (zl _) (.int .u32 (m.1:Int)) (.int .i64 m.2))
   clear hI hI2 hg9
   go_wp2
   refine bodyPost_ret (v:=idV m) (by simp[results,Tryz.results127,go_sem,t0,t1]) rfl ?_
   exact⟨by rw[HI.out],HB9.out⟩
theorem W0(v:Value)(r:Rcp)(hc:r.ids.length≤1000000)(w:World)(hv:RcpV w w.heap.size v r) :
  Calls Tryz.prog 65 #[v] w fun e w'=>e= .returned (idV (Z8 r.ids))∧Below w.heap.size w w':=by
 obtain⟨sl,rfl,hrd⟩:=hv
 have hb0:Below w.heap.size w ((w.alloc (.cells #[VT r.name,.int .i64 r.len,.int .u32 (r.print:Int),sl] 40)).alloc (.cells #[.int .u32 0,.int .i64 0] 25)):=((zb _ w).alloc (zl _) _).alloc (by simp) _
 have hbx:Box4 w.heap.size (VT r.name) (.int .i64 r.len) (.int .u32 (r.print:Int)) sl ((w.alloc (.cells #[VT r.name,.int .i64 r.len,.int .u32 (r.print:Int),sl] 40)).alloc (.cells #[.int .u32 0,.int .i64 0] 25)):=(Box4.mk' w _ _ _ _ _).below ((zb (w.alloc _).heap.size (w.alloc _)).alloc (zl _) _) (by simp)
 have hbr:Box2 (w.heap.size+1) (.int .u32 0) (.int .i64 0) ((w.alloc (.cells #[VT r.name,.int .i64 r.len,.int .u32 (r.print:Int),sl] 40)).alloc (.cells #[.int .u32 0,.int .i64 0] 25)):=by
  have:=Box2.mk' (w.alloc (.cells #[VT r.name,.int .i64 r.len,.int .u32 (r.print:Int),sl] 40)) (.int .u32 0) (.int .i64 0) 25
  simpa using this
 have hrd0:=(hrd.keep hb0 (zl _)).more hb0.size
 obtain⟨A,c,rfl,hcap,_⟩:=hrd.form
 obtain⟨c0,c1,c2,c3,_⟩:=hbx
 have HB0:=zh hb0
 have HBR:=zh hbr
 have HRD:=zh hrd0
 have ID0:∀w,Calls Tryz.prog 126 #[.string ⟨#[]⟩] w fun e w'=>e= .returned (idV (idOf []))∧Below w.heap.size w w':=fun w=>q7e ⟨#[]⟩ w (by decide)
 have HID:=zh ID0
 clear hb0 hbr hrd hrd0 ID0
 by_cases hz:r.ids= []
 ·have HR:Hid (Z8 r.ids=idOf []):=zh (by rw[hz];rfl)
  have hl:r.ids.length=0:=by rw[hz];rfl
  have hli:((r.ids.length:Int)==0)=true:=by rw[hl];rfl
  clear hz hl
  go_enter Tryz.func65,Tryz.ntmps65
  go_wp2_with fail
  refine(HID.out _).mono ?_
  rintro e w1 ⟨rfl,hb1⟩
  have hbr1:=HBR.out.below hb1 HBR.out.lt
  have HBR1:=zh hbr1
  obtain⟨r0,r1,f0,f1⟩:=hbr1
  obtain⟨t0,t1,t2⟩:=HBR1.out.rd (.int .u32 ((idOf []).1:Int)) (.int .i64 (idOf []).2)
  have HB9:=zh (q0c (HB0.out.trans (hb1.mono HB0.out.size)) (Nat.le_succ _) (.int .u32 ((idOf []).1:Int)) (.int .i64 (idOf []).2))
  clear hb1
  go_wp2
  refine bodyPost_ret (v:=idV (idOf [])) (by simp[results,Tryz.results65,go_sem,t0,t1]) rfl ?_
  exact⟨by rw[HR.out],HB9.out⟩
 ·have hl:0<r.ids.length:=List.length_pos_iff.2 hz
  have hli:((r.ids.length:Int)==0)=false:=by rw[beq_eq_false_iff_ne];omega
  have HM:=zh (z9y _ r.ids hc hl _ HRD.out)
  clear hz
  go_enter Tryz.func65,Tryz.ntmps65
  go_wp2_with fail
  refine HM.out.mono ?_
  rintro e w1 ⟨rfl,hb1⟩
  have hbr1:=HBR.out.below hb1 HBR.out.lt
  have HBR1:=zh hbr1
  obtain⟨r0,r1,f0,f1⟩:=hbr1
  obtain⟨t0,t1,t2⟩:=HBR1.out.rd (.int .u32 ((Z8 r.ids).1:Int)) (.int .i64 (Z8 r.ids).2)
  have HB9:=zh (q0c (HB0.out.trans (hb1.mono HB0.out.size)) (Nat.le_succ _) (.int .u32 ((Z8 r.ids).1:Int)) (.int .i64 (Z8 r.ids).2))
  clear hb1
  go_wp2
  refine bodyPost_ret (v:=idV (Z8 r.ids)) (by simp[results,Tryz.results65,go_sem,t0,t1]) rfl ?_
  exact⟨rfl,HB9.out⟩
theorem Tr.noFaultN(xT:TypeId)(w:World):(Instr.typeAssert .nilIface xT 170 true).run Tryz.prog w= .ok (.tuple #[.pointer none,.bool false]) w:=by kernel_rfl
theorem Tr.noFaultE(v:Value)(xT:TypeId)(w:World):(Instr.typeAssert (.iface 376 v) xT 170 true).run Tryz.prog w= .ok (.tuple #[.pointer none,.bool false]) w:=by kernel_rfl
theorem Tr.isFault(v:Value)(xT:TypeId)(w:World):(Instr.typeAssert (.iface 170 v) xT 170 true).run Tryz.prog w= .ok (.tuple #[v,.bool true]) w:=by kernel_rfl
theorem z9z(a:Nat→Addr)(v:Value)(c t:Int)(w:World)(he:EV a v c t w) :
  Calls Tryz.prog 53 #[v] w fun e w'=>∃x,e= .returned x∧ES a x c∧Below w.heap.size w w':=by
 have t1:=Tr.noFaultN
 have t2:=Tr.noFaultE
 have t3:=Tr.isFault
 rcases he with⟨rfl,rfl,rfl⟩|⟨k,hk,rfl,rfl,rfl⟩|⟨k,b,o,hk,rfl,rfl,h0,h1⟩
 ·go_enter Tryz.func53,Tryz.ntmps53
  go_wp2
  go_ret
  exact⟨_,rfl,ES.none a,zb _ _⟩
 ·unfold sval
  go_enter Tryz.func53,Tryz.ntmps53
  go_wp2
  go_ret
  exact⟨_,rfl,ES.sent a k hk,zb _ _⟩
 ·unfold sval at h1
  go_enter Tryz.func53,Tryz.ntmps53
  go_wp2
  go_ret
  exact⟨_,rfl,ES.sent a k hk,zb _ _⟩
theorem SomeS.sub{ks js:List Nat}{a:Nat→Addr}{w:World}(h:SomeS ks a w)(hs:∀k∈js,k∈ks):SomeS js a w:=fun k hk=>h k (hs k hk)
theorem j0a{x y:Idn}(h:x=y):((x.1:Int)==(y.1:Int))=true∧(x.2==y.2)=true:=by subst h;simp
theorem j0b{x y:Idn}(h:¬x=y):((x.1:Int)==(y.1:Int))=false∨(((x.1:Int)==(y.1:Int))=true∧(x.2==y.2)=false):=by
 by_cases h1:x.1=y.1
 ·refine .inr ⟨by simp[h1],?_⟩
  rw[beq_eq_false_iff_ne]
  exact fun e=>h (Prod.ext h1 e)
 ·refine .inl ?_
  rw[beq_eq_false_iff_ne];omega
instance:Inhabited Hld:=⟨hldZ⟩
theorem j0c(w:World)(x y z u:Value)(t:TypeId):∀j q,[x,y,z,u][j]? =some q→(w.alloc (.cells #[x,y,z,u] t)).cell? ((⟨w.heap.size,0,none⟩:Addr).add j)=some q:=by
 intro j q hj
 rw[q0n,Nat.zero_add,World.cell?_alloc_at _ _ _ _ rfl]
 match j,hj with
 | 0,hj=>exact hj
 | 1,hj=>exact hj
 | 2,hj=>exact hj
 | 3,hj=>exact hj
 | j+4,hj=>simp at hj
theorem j0d:(Tryz.prog.info? 150).map (fun i=>(i.zero,i.size,i.bytes))=some (some (.agg #[.int .u32 0,.int .i64 0,.int .i64 0,.string ByteArray.empty]),4,40):=by kernel_rfl
theorem M2{w:World}{base base' n size:Nat}{e:TypeId}{v:Value}{xs:List Value}(h:w.ownsRow base e size v n xs)(hb:base'≤base):w.ownsRow base' e size v n xs:=by
 refine⟨h.1,?_⟩
 rcases h.2 with h|⟨g,cap,cur,hv,hg,h3⟩
 ·exact .inl h
 ·exact .inr ⟨g,cap,cur,hv,Nat.le_trans hb hg,h3⟩
def Q6(L:HldL):List Value:=L.flatMap hldC
theorem j0e(L:HldL):(Q6 L).length=L.length*4:=by
 induction L with
 | nil=>rfl
 | cons o l ih=>rw[show Q6 (o::l)=hldC o++Q6 l from rfl,List.length_append,ih,show(hldC o).length=4 from rfl,List.length_cons];omega
theorem q0l(a b:HldL):Q6 (a++b)=Q6 a++Q6 b:=List.flatMap_append
theorem j0f(l:HldL)(k:Nat)(h:k<l.length)(j:Nat)(hj:j<4):(Q6 l)[k*4+j]? =(hldC l[k])[j]? :=by
 conv=>lhs;rw[←List.take_append_drop k l,List.drop_eq_getElem_cons h,q0l]
 have hl:(Q6 (l.take k)).length=k*4:=by rw[j0e,List.length_take,Nat.min_eq_left (by omega)]
 rw[List.getElem?_append_right (by omega),hl,Nat.add_sub_cancel_left]
 rw[show Q6 (l[k]::l.drop (k+1))=hldC l[k]++Q6 (l.drop (k+1))from rfl,List.getElem?_append_left (by simp[hldC];exact hj)]
theorem j0g(L:HldL)(x:Hld):Q6 (L++ [x])=Q6 L++hldC x:=by rw[q0l];simp[Q6]
theorem j0h(L:HldL)(k:Nat):(Q6 L).take (k*4)=Q6 (L.take k):=by
 induction L generalizing k with
 | nil=>simp[Q6]
 | cons x r ih=>
  cases k with
  | zero=>simp[Q6]
  | succ k=>
   show(hldC x++Q6 r).take ((k+1)*4)=hldC x++Q6 (r.take k)
   rw[←ih,show(k+1)*4=(hldC x).length+k*4 by simp[hldC];omega,List.take_length_add_append]
theorem j0i(L:HldL)(k:Nat):(Q6 L).drop (k*4)=Q6 (L.drop k):=by
 induction L generalizing k with
 | nil=>simp[Q6]
 | cons x r ih=>
  cases k with
  | zero=>simp[Q6]
  | succ k=>
   show(hldC x++Q6 r).drop ((k+1)*4)=Q6 (r.drop k)
   rw[←ih,show(k+1)*4=(hldC x).length+k*4 by simp[hldC];omega,List.drop_length_add_append]
theorem j0j(L:HldL):∀u∈Q6 L,u.oneCell'=true:=by
 intro u hu
 obtain⟨x,_,hx⟩:=List.mem_flatMap.1 hu
 simp only[hldC,List.mem_cons,List.not_mem_nil,or_false]at hx
 rcases hx with rfl|rfl|rfl|rfl<;>rfl
theorem Z3{base n size:Nat}{e:TypeId}{w0 w w':World}{v:Value}{xs:List Value}(hB:Below base w0 w)(hb:base≤w.heap.size)(h:w.ownsRow base e size v n xs)(hg:w.grownBy w' v.ownBlock):Below base w0 w':=
 hB.grown hg hb (fun b he=>Y7 h he)
theorem RdC.ownP{w:World}{base n size:Nat}{e:TypeId}{v:Value}{xs:List Value}(h:w.ownsRow base e size v n xs):RdC w w.heap.size size v n xs:=by
 rcases h.2 with⟨rfl,rfl⟩|⟨g,cap,cur,hv,_,hh,hnc,_⟩
 ·exact⟨none,0,rfl,h.1,zl _,fun h=>absurd h (Nat.lt_irrefl _)⟩
 ·refine⟨_,cap,hv,h.1,hnc,fun _=>⟨g,0,rfl,(Array.getElem?_eq_some_iff.1 hh).1,fun k u hu=> ?_⟩⟩
  subst hv
  have hk:k<n*size:=by rw[←h.1];exact(List.getElem?_eq_some_iff.1 hu).1
  rw[Nat.zero_add,h.cellAt k hk];exact hu
theorem RdC.nilP(w:World)(B size:Nat)(A:Option Addr)(c:Nat):RdC w B size (.slice A 0 c) 0 []:=⟨A,c,rfl,by simp,Nat.zero_le _,fun h=>absurd h (Nat.lt_irrefl _)⟩
def RdH(w:World)(B:Nat)(A:Option Addr)(L:HldL):Prop:=0<L.length→∃g,A=some ⟨g,0,none⟩∧g<B∧∀k (hk:k<L.length),
  w.cell? ⟨g,k*4,none⟩=some (.int .u32 (L[k].id.1:Int))∧w.cell? ⟨g,k*4+1,none⟩=some (.int .i64 L[k].id.2)∧w.cell? ⟨g,k*4+2,none⟩=some (.int .i64 L[k].uses)∧w.cell? ⟨g,k*4+3,none⟩=some (.string (bs L[k].text))
theorem j0k{w:World}{base:Nat}{v:Value}{L:HldL}(h:w.ownsRow base 150 4 v L.length (Q6 L)):∃A c,v= .slice A L.length c∧RdH w w.heap.size A L:=by
 rcases h.2 with⟨h1,h0⟩|⟨g,cap,cur,h1,_,hh,_⟩
 ·exact⟨none,0,by rw[h1,h0],fun h=>absurd h (by omega)⟩
 ·refine⟨_,cap,h1,fun _=>⟨g,rfl,(Array.getElem?_eq_some_iff.1 hh).1,fun k hk=> ?_⟩⟩
  have ho:=h
  rw[h1]at ho
  have c0:=ho.cellAt (k*4+0) (by omega)
  have c1:=ho.cellAt (k*4+1) (by omega)
  have c2:=ho.cellAt (k*4+2) (by omega)
  have c3:=ho.cellAt (k*4+3) (by omega)
  rw[j0f L k hk _ (by decide)]at c0 c1 c2 c3
  exact⟨c0,c1,c2,c3⟩
theorem RdH.below{w w':World}{B:Nat}{A:Option Addr}{L:HldL}(h:RdH w B A L)(hb:Below B w w'):RdH w' B A L:=fun h0=>by
 obtain⟨g,hA,hg,hc⟩:=h h0
 exact⟨g,hA,hg,fun k hk=>by
  obtain⟨c0,c1,c2,c3⟩:=hc k hk
  exact⟨(hb.cell (p:=⟨g,k*4,none⟩) hg).trans c0,(hb.cell (p:=⟨g,k*4+1,none⟩) hg).trans c1,(hb.cell (p:=⟨g,k*4+2,none⟩) hg).trans c2,(hb.cell (p:=⟨g,k*4+3,none⟩) hg).trans c3⟩⟩
def RdH2(w:World)(B:Nat)(v:Value)(L:HldL):Prop:=∃A c,v= .slice A L.length c∧L.length≤c∧(0<L.length→∃g o,A=some ⟨g,o,none⟩∧g<B∧∀k (hk:k<L.length),
  w.cell? ⟨g,o+k*4,none⟩=some (.int .u32 (L[k].id.1:Int))∧w.cell? ⟨g,o+k*4+1,none⟩=some (.int .i64 L[k].id.2)∧w.cell? ⟨g,o+k*4+2,none⟩=some (.int .i64 L[k].uses)∧w.cell? ⟨g,o+k*4+3,none⟩=some (.string (bs L[k].text)))
theorem RdH2.below{w w':World}{B:Nat}{v:Value}{L:HldL}(h:RdH2 w B v L)(hb:Below B w w'):RdH2 w' B v L:=by
 obtain⟨A,c,hv,hc,hx⟩:=h
 refine⟨A,c,hv,hc,fun h0=> ?_⟩
 obtain⟨g,o,hA,hg,hcell⟩:=hx h0
 exact⟨g,o,hA,hg,fun k hk=>by
  obtain⟨c0,c1,c2,c3⟩:=hcell k hk
  exact⟨(hb.cell (p:=⟨g,o+k*4,none⟩) hg).trans c0,(hb.cell (p:=⟨g,o+k*4+1,none⟩) hg).trans c1,(hb.cell (p:=⟨g,o+k*4+2,none⟩) hg).trans c2,(hb.cell (p:=⟨g,o+k*4+3,none⟩) hg).trans c3⟩⟩
theorem RdH2.more{w:World}{B B':Nat}{v:Value}{L:HldL}(h:RdH2 w B v L)(hB:B≤B'):RdH2 w B' v L:=by
 obtain⟨A,c,hv,hc,hx⟩:=h
 refine⟨A,c,hv,hc,fun h0=> ?_⟩
 obtain⟨g,o,hA,hg,hcell⟩:=hx h0
 exact⟨g,o,hA,Nat.lt_of_lt_of_le hg hB,hcell⟩
def RdL(w:World)(B:Nat)(v:Value)(L:HldL):Prop:=RdC w B 4 v L.length (Q6 L)
theorem RdL.below{w w':World}{B:Nat}{v:Value}{L:HldL}(h:RdL w B v L)(hb:Below B w w'):RdL w' B v L:=RdC.below h hb
theorem RdL.more{w:World}{B B':Nat}{v:Value}{L:HldL}(h:RdL w B v L)(hB:B≤B'):RdL w B' v L:=by
 obtain⟨A,c,hv,hl,hc,hx⟩:=h
 refine⟨A,c,hv,hl,hc,fun h0=> ?_⟩
 obtain⟨g,o,hA,hg,hcell⟩:=hx h0
 exact⟨g,o,hA,Nat.lt_of_lt_of_le hg hB,hcell⟩
theorem RdL.own{w:World}{base:Nat}{v:Value}{L:HldL}(h:w.ownsRow base 150 4 v L.length (Q6 L)):RdL w w.heap.size v L:=RdC.ownP h
theorem RdL.nil(w:World)(B:Nat):RdL w B (.slice none 0 0) []:=RdC.nilP w B 4 none 0
theorem RdL.form{w:World}{B:Nat}{v:Value}{L:HldL}(h:RdL w B v L):∃A c,v= .slice A L.length c∧L.length≤c∧(0<L.length→∃g o,A=some ⟨g,o,none⟩∧g<B∧∀k (hk:k<L.length),
  w.cell? ⟨g,o+k*4,none⟩=some (.int .u32 (L[k].id.1:Int))∧w.cell? ⟨g,o+k*4+1,none⟩=some (.int .i64 L[k].id.2)∧w.cell? ⟨g,o+k*4+2,none⟩=some (.int .i64 L[k].uses)∧w.cell? ⟨g,o+k*4+3,none⟩=some (.string (bs L[k].text))):=by
 obtain⟨A,c,hv,hl,hc,hx⟩:=h
 refine⟨A,c,hv,hc,fun h0=> ?_⟩
 obtain⟨g,o,hA,hg,hcell⟩:=hx h0
 refine⟨g,o,hA,hg,fun k hk=>⟨?_,?_,?_,?_⟩⟩
 ·have:=hcell (k*4+0) _ (by rw[j0f L k hk 0 (by decide)];rfl)
  simpa using this
 ·have:=hcell (k*4+1) _ (by rw[j0f L k hk 1 (by decide)];rfl)
  simpa[Nat.add_assoc]using this
 ·have:=hcell (k*4+2) _ (by rw[j0f L k hk 2 (by decide)];rfl)
  simpa[Nat.add_assoc]using this
 ·have:=hcell (k*4+3) _ (by rw[j0f L k hk 3 (by decide)];rfl)
  simpa[Nat.add_assoc]using this
theorem RdL.two{w:World}{B:Nat}{v:Value}{L:HldL}(h:RdL w B v L):RdH2 w B v L:=h.form
theorem j0l{ps:List Bytes}{k:Nat}(hk:k<ps.length):U4 ((ps.take (k+1)).map idOf)=U4 ((ps.take k).map idOf)++ [.int .u32 ((prOf ps[k]:Nat):Int),.int .i64 (ps[k].length:Int)]:=by
 rw[List.take_succ_eq_append_getElem hk,List.map_append,z8o];rfl
def M8(n s:Bytes):Int×Rcp:=if J7 n=false then(4,R8)else if 4000<s.length then(2,R8)else(0,Q7 n s)
theorem j0m(p:Nat)(l:Int)(h0: -9223372036854775808≤l)(h1:l≤9223372036854775807):(V2 p l).length≤30:=by
 unfold V2
 split
 ·simp
 ·have:(hex8 p).length=8:=X8 _ _
  have h2:=itoa_length_le l h0 h1
  simp only[List.length_append,List.length_cons]
  omega
theorem j0n{x:Hld}(hw:HldW x):(z4h x).length≤60+x.text.length:=by
 have h1:=j0m x.id.1 x.id.2 hw.1.2.1 hw.1.2.2
 have h2:=itoa_length_le x.uses hw.2.1 hw.2.2
 unfold z4h
 simp only[List.length_append,List.length_cons,List.length_nil]
 omega
theorem j0o{M:Nat}:∀ {L:HldL},(∀x∈L,HldW x∧x.text.length≤M)→(Y9 L).length≤(60+M)*L.length
 | [],_=>by simp[Y9]
 | x::r,h=>by
  have h1:=j0o (fun y hy=>h y (List.mem_cons_of_mem _ hy))
  have h2:=h x List.mem_cons_self
  have h3:=j0n h2.1
  rw[z4j,List.length_append,List.length_cons,Nat.mul_add,Nat.mul_one]
  omega
theorem sz10:(⟨#[10]⟩:ByteArray).size=1:=rfl
theorem sz32:(⟨#[32]⟩:ByteArray).size=1:=rfl
theorem j0p(v:Value)(L:HldL)(hL:∀x∈L,HldW x∧x.text.length≤100000)(hl:L.length≤1000)(B:Nat)(w:World)(hv:RdL w B v L)(hBw:B≤w.heap.size)(h:Tabs w) :
  Calls Tryz.prog 50 #[v] w fun e w'=>e= .returned (.string (bs (Y9 L)))∧Below w.heap.size w w':=by
 obtain⟨A,c,rfl,hc,hx⟩:=hv.form
 have HX:=zh hx
 have HT:=zh h
 have HL:=zh hL
 have HTK:Hid (∀k,(Y9 (L.take k)).length≤100060000):=zh (fun k=>by
  have h1:=j0o (L:=L.take k) (M:=100000) (fun x hx=>hL x (List.mem_of_mem_take hx))
  have h2:(L.take k).length≤1000:=by rw[List.length_take];omega
  omega)
 clear hx h hL hv
 go_enter Tryz.func50,Tryz.ntmps50
 go_wp2
 go_loopg [8] L.length (fun gh v8 wr=>∃k:Nat,v8= .int .i64 k∧k≤L.length∧gh=L.length-k∧SbHas w.heap.size w.heap.size (Y9 (L.take k)) wr∧Below w.heap.size w wr∧w.heap.size<wr.heap.size)
 case atStart=>exact⟨0,rfl,Nat.zero_le _,rfl,SbHas.fresh w,(zb _ _).alloc (zl _) _,by simp⟩
 case round=>
  obtain⟨k,rfl,hk,hgm,hsb,hB,hsz⟩:=hrel
  by_cases hkl:k<L.length
  ·obtain⟨g,o,rfl,hg,hcells⟩:=HX.out (by omega)
   obtain⟨x0,x1,x2,x3⟩:=hcells k hkl
   have hgl:g<w.heap.size:=Nat.lt_of_lt_of_le hg hBw
   have HNX:Hid (Y9 (L.take (k+1))=Y9 (L.take k)++z4h L[k]):=zh (by rw[List.take_succ_eq_append_getElem hkl,z4k])
   obtain⟨hw,ht⟩:=HL.out L[k] (List.getElem_mem hkl)
   clear hcells
   generalize L[k]=x at *
   have p0:=(hB.cell (p:=⟨g,o+k*4,none⟩) hgl).trans x0
   have p1:=(hB.cell (p:=⟨g,o+k*4+1,none⟩) hgl).trans x1
   have p2:=(hB.cell (p:=⟨g,o+k*4+2,none⟩) hgl).trans x2
   have p3:=(hB.cell (p:=⟨g,o+k*4+3,none⟩) hgl).trans x3
   have b1:(0:Int)≤(k:Int):=by omega
   have b2:(k:Int)<(L.length:Int):=by omega
   have hb0:Below wr.heap.size wr (wr.alloc (.cells #[.int .u32 (x.id.1:Int),.int .i64 x.id.2,.int .i64 x.uses,.string (bs x.text)] 150)):=(zb _ _).alloc (zl _) _
   have hx4:Box4 wr.heap.size (.int .u32 (x.id.1:Int)) (.int .i64 x.id.2) (.int .i64 x.uses) (.string (bs x.text)) (wr.alloc (.cells #[.int .u32 (x.id.1:Int),.int .i64 x.id.2,.int .i64 x.uses,.string (bs x.text)] 150)):=Box4.mk' _ _ _ _ _ _
   have HSB:=zh (hsb.below hb0)
   have HB1:=zh (hB.trans (hb0.mono hB.size))
   have HT1:=zh (HT.out.below HB1.out)
   have HTX:Hid (∀w',Tabs w'→Calls Tryz.prog 107 #[idV x.id] w' fun e w2=>e= .returned (.string (bs (V2 x.id.1 x.id.2)))∧Below w'.heap.size w' w2):=zh (fun w' h'=>q7d x.id.1 x.id.2 hw.1.1 hw.1.2.1 hw.1.2.2 w' h')
   have HIT:Hid (∀w',Tabs w'→Calls Tryz.prog 51 #[.int .i64 x.uses] w' fun e w2=>e= .returned (.string (bs (itoa x.uses)))∧Below w'.heap.size w' w2):=zh (fun w' h'=>q6y x.uses hw.2.1 hw.2.2 w' h')
   have hs1:(bs (V2 x.id.1 x.id.2)).size≤30:=by rw[Q8];exact j0m _ _ hw.1.2.1 hw.1.2.2
   have hs2:(bs (itoa x.uses)).size≤21:=by rw[Q8];exact itoa_length_le _ hw.2.1 hw.2.2
   have hs3:(bs x.text).size≤100000:=by rw[Q8];exact ht
   have HX4:=zh hx4
   have HLN:Hid ((bs (V2 x.id.1 x.id.2)++⟨#[32]⟩++bs (itoa x.uses)++⟨#[10]⟩++bs x.text++⟨#[10]⟩).data.toList=z4h x):=zh (by
    have:bs (V2 x.id.1 x.id.2)++⟨#[32]⟩++bs (itoa x.uses)++⟨#[10]⟩++bs x.text++⟨#[10]⟩=bs (z4h x):=by
     unfold z4h
     rw[show V2 x.id.1 x.id.2++32::(itoa x.uses++10::(x.text++ [10]))=((((V2 x.id.1 x.id.2++ [32])++itoa x.uses)++ [10])++x.text)++ [10] by simp,←q6z,←q6z,←q6z,←q6z,←q6z]
     rfl
    rw[this,Q3])
   have HS1:=zh hs1
   have HS2:=zh hs2
   have HS3z:=zh hs3
   clear hs1 hs2 hs3
   clear hw ht x0 x1 x2 x3 hsb hx4 hb0
   go_wp2_with fail
   generalize hw1:wr.alloc (.cells #[.int .u32 (x.id.1:Int),.int .i64 x.id.2,.int .i64 x.uses,.string (bs x.text)] 150)=w1 at *
   have HW1:Hid (wr.heap.size<w1.heap.size):=zh (by rw[←hw1];simp)
   clear hw1
   generalize bs (V2 x.id.1 x.id.2)=T1 at *
   generalize bs (itoa x.uses)=T2 at *
   generalize bs x.text=T3 at *
   have hS0:Below w1.heap.size w1 w1.drew:=(zb _ _).drew
   refine kR (fun w'=>Below w1.heap.size w1 w') 13 ?_
   refine kT 0 hS0 ?_
   refine kS 1 rfl hS0 (fun w' hS=>by have A0:=(HX4.out.below hS HW1.out).c0;have A1:=(HX4.out.below hS HW1.out).c1;go_simp;rfl) ?_
   refine kT 4 hS0 ?_
   refine kS 5 rfl hS0 (fun w' hS=>by have A0:=(HX4.out.below hS HW1.out).c2;go_simp;rfl) ?_
   refine kT 9 hS0 ?_
   refine kS 10 rfl hS0 (fun w' hS=>by have A0:=(HX4.out.below hS HW1.out).c3;go_simp;rfl) ?_
   refine kC 2 (fun K hK=> ?_)
   go_simp
   refine(HTX.out _ (HT1.out.below hS0)).mono ?_
   rintro e w2 ⟨rfl,hb2⟩
   have hS2:Below w1.heap.size w1 w2:=hS0.trans (hb2.mono hS0.size)
   refine hK _ _ hS2 ?_
   clear hK K
   try simp only[Act.put,zM]
   refine kS 3 rfl hS2 (fun w' hS=>by go_simp;rw[if_neg (by have z1:=HS1.out;have z2:=HS2.out;have z3:=HS3z.out;(try simp only[ByteArray.size_append,sz10,sz32]);omega)]) ?_
   refine kC 6 (fun K hK=> ?_)
   go_simp
   refine(HIT.out _ (HT1.out.below hS2)).mono ?_
   rintro e w3 ⟨rfl,hb3⟩
   have hS3:Below w1.heap.size w1 w3:=hS2.trans (hb3.mono hS2.size)
   refine hK _ _ hS3 ?_
   clear hK K
   try simp only[Act.put,zM]
   refine kS 7 rfl hS3 (fun w' hS=>by go_simp;rw[if_neg (by have z1:=HS1.out;have z2:=HS2.out;have z3:=HS3z.out;(try simp only[ByteArray.size_append,sz10,sz32]);omega)]) ?_
   refine kS 8 rfl hS3 (fun w' hS=>by go_simp;rw[if_neg (by have z1:=HS1.out;have z2:=HS2.out;have z3:=HS3z.out;(try simp only[ByteArray.size_append,sz10,sz32]);omega)]) ?_
   refine kS 11 rfl hS3 (fun w' hS=>by go_simp;rw[if_neg (by have z1:=HS1.out;have z2:=HS2.out;have z3:=HS3z.out;(try simp only[ByteArray.size_append,sz10,sz32]);omega)]) ?_
   refine kS 12 rfl hS3 (fun w' hS=>by go_simp;rw[if_neg (by have z1:=HS1.out;have z2:=HS2.out;have z3:=HS3z.out;(try simp only[ByteArray.size_append,sz10,sz32]);omega)]) (kF ?_)
   simp only[List.drop_succ_cons,List.drop_zero]
   have HS3:=zh hS3
   have HSB3:=zh (HSB.out.below hS3)
   have hlen:(Y9 (L.take k)).length+(T1++⟨#[32]⟩++T2++⟨#[10]⟩++T3++⟨#[10]⟩).size≤140737488355328:=by have:=HTK.out k;have z1:=HS1.out;have z2:=HS2.out;have z3:=HS3z.out;simp only[ByteArray.size_append,sz10,sz32];omega
   have hB3:=HB1.out.trans (hS3.mono HB1.out.size)
   have HB3:=zh hB3
   have hBw3:w.heap.size≤w3.heap.size:=hB3.size
   clear hS0 hS2 hS3 hb2 hb3 hB3
   go_wp2_with fail
   refine(z0f w.heap.size w.heap.size (Y9 (L.take k)) _ w3 HSB3.out hlen hBw3).mono ?_
   rintro e w4 ⟨rfl,hsb4,hb4⟩
   rw[HLN.out,←HNX.out]at hsb4
   have HSB4:=zh hsb4
   have HB4:=zh (HB3.out.trans hb4)
   have hsz4:w.heap.size<w4.heap.size:=by have:=HS3.out.size;have:=HW1.out;have:=hb4.size;have:=hsz;omega
   clear hsb4 hb4 hlen
   go_wp2
   go_roundg (L.length-(k+1))
   case measure=>omega
   case rel=>exact⟨k+1,by go_num,hkl,rfl,HSB4.out,HB4.out,hsz4⟩
  ·obtain rfl:k=L.length:=by omega
   rw[List.take_length]at hsb
   have HSB:=zh hsb
   clear hsb
   go_wp2_with fail
   refine(Tryz.Builder_String_any w.heap.size w.heap.size (Y9 L) wr HSB.out hB.size).mono ?_
   rintro e w2 ⟨rfl,hb2⟩
   have HB2:=zh (hB.trans hb2)
   clear hb2
   go_wp2
   go_ret
   exact⟨rfl,HB2.out⟩
end Go.Proofs.YtdmlghfggninbaaGreatDoor
