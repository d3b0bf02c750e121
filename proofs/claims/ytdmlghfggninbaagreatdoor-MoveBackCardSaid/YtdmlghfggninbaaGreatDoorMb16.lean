/- BfO, RbA, RbD, RbS in one text. Conditions: as each part says. -/
import Derived.Test.YtdmlghfggninbaaGreatDoorMb3
import Derived.Test.YtdmlghfggninbaaGreatDoorMb10
import Derived.Test.YtdmlghfggninbaaGreatDoorMb0
import Derived.Deep.LoopGhost
set_option linter.unusedVariables false
set_option linter.unusedSimpArgs false
set_option maxHeartbeats 4000000
set_option maxRecDepth 100000
namespace Go.Proofs.YtdmlghfggninbaaGreatDoor
open Go.RowKit Go.Lib
def U6(b:UInt8)(l:Bytes):Bytes×Bytes×Bool:=match J1 b l with
 | some (d,r)=>(d,r,true)
 | none=>(l,[],false)
theorem k3w{b:UInt8}{l d r:Bytes}(h:J1 b l=some (d,r)):U6 b l=(d,r,true):=by unfold U6;rw[h]
theorem k3x{b:UInt8}{l:Bytes}(h:J1 b l=none):U6 b l=(l,[],false):=by unfold U6;rw[h]
theorem k3y(b:UInt8)(l:Bytes):(U6 b l).1.length≤l.length∧(U6 b l).2.1.length≤l.length:=by
 cases h:J1 b l with
 | none=>rw[k3x h];exact⟨zl _,Nat.zero_le _⟩
 | some p=>
  obtain⟨d,r⟩:=p
  rw[k3w h]
  obtain⟨rfl,_⟩:=D8 _ _ _ _ h
  simp only[List.length_append,List.length_cons];omega
theorem k3z(l:Bytes)(b:UInt8)(hs:l.length≤2^30)(w:World)(hm:MaxL w) :
  Calls Tryz.prog 119 #[.string (bs l),.string ⟨#[b]⟩] w fun e w'=>e= .returned (.tuple #[VT (U6 b l).1,VT (U6 b l).2.1,.bool (U6 b l).2.2])∧Below w.heap.size w w':=by
 cases h:J1 b l with
 | none=>
  rw[k3x h]
  exact q9i (bs l) b (by rw[Q8];exact hs) (by rw[Q3];exact h) w hm
 | some p=>
  obtain⟨d,r⟩:=p
  rw[k3w h]
  exact q9h (bs l) b (by rw[Q8];exact hs) d r (by rw[Q3];exact h) w hm
def q0d(l:Bytes):Idn:=match G4 l with
 | some (n,k)=>(n,(k:Int))
 | none=>(0,0)
def k4a(l:Bytes):Int:=if(G4 l).isSome then 0 else 1
theorem k4b(a:Nat→Addr)(l:Bytes)(hs:l.length≤2^30)(w:World)(htab:Tabs w)(hm:MaxL w)(hp:Perrs w)(hs0:SomeS [0] a w) :
  Calls Tryz.prog 180 #[.string (bs l)] w fun e w'=>∃r,e= .returned (.tuple #[idV (q0d l),r])∧ES a r (k4a l)∧Below w.heap.size w w':=by
 cases h:G4 l with
 | none=>
  refine(q9n a (bs l) (by rw[Q8];exact hs) (by rw[Q3];exact h) w htab hm hp hs0).mono ?_
  rintro e w' ⟨rfl,hb⟩
  refine⟨sval a 0,?_,?_,hb⟩
  ·unfold q0d;rw[h];rfl
  ·unfold k4a;rw[h];exact ES.sent a 0 (by decide)
 | some p=>
  obtain⟨n,k⟩:=p
  refine(q9k (bs l) (by rw[Q8];exact hs) n k (by rw[Q3];exact h) w htab hm).mono ?_
  rintro e w' ⟨rfl,hb⟩
  refine⟨.nilIface,?_,?_,hb⟩
  ·unfold q0d;rw[h]
  ·unfold k4a;rw[h];exact ES.none a
theorem k4c(l:Bytes)(hs:l.length≤2^30)(m:Nat)(hm:m≤1000)(w:World)(htab:Tabs w)(hp:Perrs w) :
  Calls Tryz.prog 122 #[.string (bs l),.int .i64 (m:Int)] w fun e w'=>e= .returned (.tuple #[.int .i64 (q9b l m),.bool (V1 l m).isSome])∧Below w.heap.size w w':=by
 have hz:(bs l).size≤2^40:=by rw[Q8];omega
 cases h:V1 l m with
 | none=>
  refine(q9g (bs l) hz m hm (by rw[Q3];exact h) w htab hp).mono ?_
  rintro e w' ⟨rfl,hb⟩
  exact⟨by unfold q9b;rw[h];rfl,hb⟩
 | some k=>
  refine(q9f (bs l) hz m k hm (by rw[Q3];exact h) w htab).mono ?_
  rintro e w' ⟨rfl,hb⟩
  exact⟨by unfold q9b;rw[h];rfl,hb⟩
theorem k4d(s:Bytes):(oneF s=none∧((U6 10 s).2.2=false∨(U6 32 (U6 10 s).1).2.2=false∨G4 (U6 32 (U6 10 s).1).1=none∨V1 (U6 32 (U6 10 s).1).2.1 6=none)) ∨
  ∃p n k:Nat,(U6 10 s).2.2=true∧(U6 32 (U6 10 s).1).2.2=true∧G4 (U6 32 (U6 10 s).1).1=some (p,n)∧V1 (U6 32 (U6 10 s).1).2.1 6=some k ∧
   ((oneF s=none∧(U6 10 s).2.1[n]? ≠some 10)∨(oneF s=some (⟨(p,(n:Int)),(k:Int),(U6 10 s).2.1.take n⟩,(U6 10 s).2.1.drop (n+1))∧(U6 10 s).2.1[n]? =some 10)):=by
 cases h1:J1 10 s with
 | none=>exact .inl ⟨z3t h1,.inl (by rw[k3x h1])⟩
 | some q=>
  obtain⟨head,rest⟩:=q
  rw[k3w h1]
  simp only
  cases h2:J1 32 head with
  | none=>exact .inl ⟨z3u h1 h2,.inr (.inl (by rw[k3x h2]))⟩
  | some q=>
   obtain⟨i,u⟩:=q
   rw[k3w h2]
   simp only
   cases h3:G4 i with
   | none=>exact .inl ⟨z3v h1 h2 h3,.inr (.inr (.inl rfl))⟩
   | some q=>
    obtain⟨p,n⟩:=q
    cases h4:V1 u 6 with
    | none=>exact .inl ⟨z3w h1 h2 h4,.inr (.inr (.inr rfl))⟩
    | some k=>
     refine .inr ⟨p,n,k,by simp,by simp,rfl,rfl,?_⟩
     by_cases h5:rest[n]? =some 10
     ·exact .inr ⟨z3q h1 h2 h3 h4 h5,h5⟩
     ·exact .inl ⟨z3x h1 h2 h3 h4 h5,h5⟩
theorem k4e{l:Bytes}{p n:Nat}(h:G4 l=some (p,n)):n≤1000000∧p<4294967296:=by
 unfold G4 at h
 split at h
 ·cases h
 ·next a b hc=>
  split at h
  ·next x y hx hy=>
   simp only[Option.some.injEq,Prod.mk.injEq]at h
   obtain⟨rfl,rfl⟩:=h
   obtain⟨_,h2,h3⟩:=q9c hy
   refine⟨?_,(q3y hx).1⟩
   have h4:(decDigits y).length≤6:=by rw[←h3];exact h2
   rw[decDigits_length]at h4
   have h5:y<10^nDigits y:=lt_pow_nDigits y
   have h6:(10:Nat)^nDigits y≤10^6:=Nat.pow_le_pow_right (by decide) h4
   omega
  ·cases h
theorem k4f{l:Bytes}{k:Nat}(h:V1 l 6=some k):k<1000000:=by
 obtain⟨_,h2,h3⟩:=q9c h
 have h4:(decDigits k).length≤6:=by rw[←h3];exact h2
 rw[decDigits_length]at h4
 have h5:k<10^nDigits k:=lt_pow_nDigits k
 have h6:(10:Nat)^nDigits k≤10^6:=Nat.pow_le_pow_right (by decide) h4
 omega
theorem k4g(l:Bytes)(n:Nat)(h:n<(bs l).size):l[n]? =some ((bs l)[n]'h):=by
 have hl:n<l.length:=by rw[←Q8];exact h
 rw[List.getElem?_eq_getElem hl]
 congr 1
theorem k4h{l:Bytes}{n:Nat}(h:l[n]? =some 10)(hb:n<(bs l).size):((((bs l)[n]'hb).toNat:Int)==10)=true:=by
 rw[k4g l n hb]at h
 injection h with h
 rw[h];rfl
theorem k4i{l:Bytes}{n:Nat}(h:l[n]? =some 10)(hb:n<(bs l).size):((((bs l)[n]'hb).toNat:Int) !=10)=false:=by rw[bne,k4h h hb];rfl
theorem k4j{l:Bytes}{n:Nat}(h:l[n]? ≠some 10)(hb:n<(bs l).size):((((bs l)[n]'hb).toNat:Int)==10)=false:=by
 rw[k4g l n hb]at h
 rw[beq_eq_false_iff_ne]
 intro e
 exact h (by congr 1;exact UInt8.toNat_inj.1 (by show _=10;omega))
theorem k4k{l:Bytes}{n:Nat}(h:l[n]? ≠some 10)(hb:n<(bs l).size):((((bs l)[n]'hb).toNat:Int) !=10)=true:=by rw[bne,k4j h hb];rfl
theorem Box2.set4{b d:Nat}{x y:Value}{w:World}(h:Box2 b x y w)(hd:b≠d)(p q r t:Value):Box2 b x y ((((w.setCell ⟨d,0,none⟩ p).setCell ⟨d,1,none⟩ q).setCell ⟨d,2,none⟩ r).setCell ⟨d,3,none⟩ t):=
 ⟨(z9e w p q r t (p:=⟨b,0,none⟩) hd).trans h.c0,(z9e w p q r t (p:=⟨b,1,none⟩) hd).trans h.c1,by simp only[World.frozen?_setCell];exact h.f0,by simp only[World.frozen?_setCell];exact h.f1⟩
theorem Box4.drewN{b:Nat}{x y z u:Value}{w:World}(h:Box4 b x y z u w):Box4 b x y z u w.drew:=⟨h.c0,h.c1,h.c2,h.c3,h.f⟩
def k4l(s:Bytes)(w:World)(e:Ending)(w':World):Prop:=(e=match oneF s with
 | some (x,r)=> .returned (.tuple #[hldV x,VT r,.bool true])
 | none=> .returned (.tuple #[hldV hldZ,VT [],.bool false]))∧Below w.heap.size w w'
theorem k4m{s:Bytes}{w w':World}(h:oneF s=none)(hb:Below w.heap.size w w'):k4l s w (.returned (.tuple #[hldV hldZ,VT [],.bool false])) w':=by unfold k4l;rw[h];exact⟨rfl,hb⟩
theorem k4n{s:Bytes}{x:Hld}{r:Bytes}{w w':World}(h:oneF s=some (x,r))(hb:Below w.heap.size w w'):k4l s w (.returned (.tuple #[hldV x,VT r,.bool true])) w':=by unfold k4l;rw[h];exact⟨rfl,hb⟩
theorem Box4.rd4{b:Nat}{x y z u:Value}{w:World}(h:Box4 b x y z u w)(x' y' z' u':Value) :
  ((((w.setCell ⟨b,0,none⟩ x').setCell ⟨b,1,none⟩ y').setCell ⟨b,2,none⟩ z').setCell ⟨b,3,none⟩ u').cell? ⟨b,0,none⟩=some x'∧((((w.setCell ⟨b,0,none⟩ x').setCell ⟨b,1,none⟩ y').setCell ⟨b,2,none⟩ z').setCell ⟨b,3,none⟩ u').cell? ⟨b,1,none⟩=some y' ∧
  ((((w.setCell ⟨b,0,none⟩ x').setCell ⟨b,1,none⟩ y').setCell ⟨b,2,none⟩ z').setCell ⟨b,3,none⟩ u').cell? ⟨b,2,none⟩=some z'∧((((w.setCell ⟨b,0,none⟩ x').setCell ⟨b,1,none⟩ y').setCell ⟨b,2,none⟩ z').setCell ⟨b,3,none⟩ u').cell? ⟨b,3,none⟩=some u':=
 have q:=h.set x' y' z' u'
 ⟨q.c0,q.c1,q.c2,q.c3⟩
theorem k4o(a:Nat→Addr)(s:Bytes)(hs:s.length≤2^30)(w:World)(htab:Tabs w)(hm:MaxL w)(hp:Perrs w)(hs0:SomeS [0] a w) :
  Calls Tryz.prog 181 #[.string (bs s)] w (k4l s w):=by
 have hb0:Below w.heap.size w (w.alloc (.cells #[.int .u32 0,.int .i64 0,.int .i64 0,.string ⟨#[]⟩] 150)):=(zb _ w).alloc (zl _) _
 have HBR0:=zh (Box4.mk' w (.int .u32 0) (.int .i64 0) (.int .i64 0) (.string ⟨#[]⟩) 150)
 have HT:=zh (htab.below hb0)
 have HM:=zh (hm.below hb0)
 have HP:=zh (hp.below hb0)
 have HS:=zh (hs0.below hb0)
 have HB0:=zh hb0
 have hcs:=k4d s
 clear htab hm hp hs0 hb0
 go_enter Tryz.func181,Tryz.ntmps181
 go_wp2_with fail
 generalize w.alloc (.cells #[.int .u32 0,.int .i64 0,.int .i64 0,.string ⟨#[]⟩] 150)=w0 at *
 refine(k3z s 10 hs w0 HM.out).mono ?_
 rintro e w1 ⟨rfl,hb1⟩
 have HM1:=zh (HM.out.below hb1)
 have HB01:=zh hb1
 generalize hC:U6 10 s=C at *
 obtain⟨head,rest,is⟩:=C
 have hl1:head.length≤s.length∧rest.length≤s.length:=by have:=k3y 10 s;rw[hC]at this;exact this
 have HL1:=zh hl1
 have hh:head.length≤2^30:=by omega
 clear hb1 hl1
 go_wp2_with fail
 refine(k3z head 32 hh w1 HM1.out).mono ?_
 rintro e w2 ⟨rfl,hb2⟩
 have HB02:=zh (HB01.out.trans (hb2.mono HB01.out.size))
 generalize hD:U6 32 head=E at *
 obtain⟨i,u,also⟩:=E
 have hl2:i.length≤2^30∧u.length≤2^30:=by have:=k3y 32 head;rw[hD]at this;simp only at this;omega
 have HL2:=zh hl2
 clear hb2 hl2
 go_wp2_with fail
 refine(k4b a i HL2.out.1 w2 (HT.out.below HB02.out) (HM.out.below HB02.out) (HP.out.below HB02.out) (HS.out.below HB02.out)).mono ?_
 rintro e w3 ⟨r3,rfl,hes,hb3⟩
 have HES:=zh hes
 have HB03:=zh hb3.size
 have hx3:Box2 w3.heap.size (.int .u32 ((q0d i).1:Int)) (.int .i64 (q0d i).2) (w3.alloc (.cells #[.int .u32 ((q0d i).1:Int),.int .i64 (q0d i).2] 25)):=Box2.mk' _ _ _ _
 have hb4:=(HB02.out.trans (hb3.mono HB02.out.size)).alloc (HB02.out.trans (hb3.mono HB02.out.size)).size (.cells #[.int .u32 ((q0d i).1:Int),.int .i64 (q0d i).2] 25)
 have HX3:=zh hx3
 have HB04:=zh hb4
 have HZ3:Hid (w3.heap.size<(w3.alloc (.cells #[.int .u32 ((q0d i).1:Int),.int .i64 (q0d i).2] 25)).heap.size):=zh (by simp)
 clear hb3 hb4 hx3 hes
 go_wp2_with fail
 generalize w3.alloc (.cells #[.int .u32 ((q0d i).1:Int),.int .i64 (q0d i).2] 25)=w4 at *
 refine(k4c u HL2.out.2 6 (by decide) w4 (HT.out.below HB04.out) (HP.out.below HB04.out)).mono ?_
 rintro e w5 ⟨rfl,hb5⟩
 have HX:=zh (HX3.out.below hb5 HZ3.out)
 have hbw:=HB04.out.trans (hb5.mono HB04.out.size)
 have HB:=zh (HB0.out.trans (hbw.mono HB0.out.size))
 have HBR:=zh (HBR0.out.below hbw HBR0.out.lt)
 clear hb5 hbw
 rcases hcs with⟨hn,h1|h1|h1|h1⟩|⟨p,n,k,h1,h2,h3,h4,h5⟩
 ·have HN:=zh hn
  (try simp only at h1)
  subst h1
  clear hn
  obtain⟨t0,t1,t2,t3⟩:=HBR.out.rd4 (.int .u32 0) (.int .i64 0) (.int .i64 0) (.string ⟨#[]⟩)
  obtain⟨e0,e1,e2,e3,hf⟩:=HBR.out
  have f0:=hf 0
  have f1:=hf 1
  have f2:=hf 2
  have f3:=hf 3
  have HB9:=zh (Z7 HB.out (zl _) (.int .u32 0) (.int .i64 0) (.int .i64 0) (.string ⟨#[]⟩))
  go_wp2
  refine bodyPost_ret (v:= .tuple #[hldV hldZ,VT [],.bool false]) (by simp[results,Tryz.results181,go_sem,t0,t1,t2,t3,hldZ,bs]) rfl ?_
  exact k4m HN.out HB9.out
 ·have HN:=zh hn
  (try simp only at h1)
  subst h1
  clear hn
  cases is with
  | false=>
   obtain⟨t0,t1,t2,t3⟩:=HBR.out.rd4 (.int .u32 0) (.int .i64 0) (.int .i64 0) (.string ⟨#[]⟩)
   obtain⟨e0,e1,e2,e3,hf⟩:=HBR.out
   have f0:=hf 0
   have f1:=hf 1
   have f2:=hf 2
   have f3:=hf 3
   have HB9:=zh (Z7 HB.out (zl _) (.int .u32 0) (.int .i64 0) (.int .i64 0) (.string ⟨#[]⟩))
   go_wp2
   refine bodyPost_ret (v:= .tuple #[hldV hldZ,VT [],.bool false]) (by simp[results,Tryz.results181,go_sem,t0,t1,t2,t3,hldZ,bs]) rfl ?_
   exact k4m HN.out HB9.out
  | true=>
   obtain⟨t0,t1,t2,t3⟩:=HBR.out.rd4 (.int .u32 0) (.int .i64 0) (.int .i64 0) (.string ⟨#[]⟩)
   obtain⟨e0,e1,e2,e3,hf⟩:=HBR.out
   have f0:=hf 0
   have f1:=hf 1
   have f2:=hf 2
   have f3:=hf 3
   have HB9:=zh (Z7 HB.out (zl _) (.int .u32 0) (.int .i64 0) (.int .i64 0) (.string ⟨#[]⟩))
   go_wp2
   refine bodyPost_ret (v:= .tuple #[hldV hldZ,VT [],.bool false]) (by simp[results,Tryz.results181,go_sem,t0,t1,t2,t3,hldZ,bs]) rfl ?_
   exact k4m HN.out HB9.out
 ·have HN:=zh hn
  (try simp only at h1)
  have hre:k4a i≠0:=by unfold k4a;rw[h1];decide
  obtain⟨T,q,rfl⟩:=HES.out.some hre
  clear hn h1 hre
  cases is with
  | false=>
   obtain⟨t0,t1,t2,t3⟩:=HBR.out.rd4 (.int .u32 0) (.int .i64 0) (.int .i64 0) (.string ⟨#[]⟩)
   obtain⟨e0,e1,e2,e3,hf⟩:=HBR.out
   have f0:=hf 0
   have f1:=hf 1
   have f2:=hf 2
   have f3:=hf 3
   have HB9:=zh (Z7 HB.out (zl _) (.int .u32 0) (.int .i64 0) (.int .i64 0) (.string ⟨#[]⟩))
   go_wp2
   refine bodyPost_ret (v:= .tuple #[hldV hldZ,VT [],.bool false]) (by simp[results,Tryz.results181,go_sem,t0,t1,t2,t3,hldZ,bs]) rfl ?_
   exact k4m HN.out HB9.out
  | true=>
   cases also with
   | false=>
    obtain⟨t0,t1,t2,t3⟩:=HBR.out.rd4 (.int .u32 0) (.int .i64 0) (.int .i64 0) (.string ⟨#[]⟩)
    obtain⟨e0,e1,e2,e3,hf⟩:=HBR.out
    have f0:=hf 0
    have f1:=hf 1
    have f2:=hf 2
    have f3:=hf 3
    have HB9:=zh (Z7 HB.out (zl _) (.int .u32 0) (.int .i64 0) (.int .i64 0) (.string ⟨#[]⟩))
    go_wp2
    refine bodyPost_ret (v:= .tuple #[hldV hldZ,VT [],.bool false]) (by simp[results,Tryz.results181,go_sem,t0,t1,t2,t3,hldZ,bs]) rfl ?_
    exact k4m HN.out HB9.out
   | true=>
    obtain⟨t0,t1,t2,t3⟩:=HBR.out.rd4 (.int .u32 0) (.int .i64 0) (.int .i64 0) (.string ⟨#[]⟩)
    obtain⟨e0,e1,e2,e3,hf⟩:=HBR.out
    have f0:=hf 0
    have f1:=hf 1
    have f2:=hf 2
    have f3:=hf 3
    have HB9:=zh (Z7 HB.out (zl _) (.int .u32 0) (.int .i64 0) (.int .i64 0) (.string ⟨#[]⟩))
    go_wp2
    refine bodyPost_ret (v:= .tuple #[hldV hldZ,VT [],.bool false]) (by simp[results,Tryz.results181,go_sem,t0,t1,t2,t3,hldZ,bs]) rfl ?_
    exact k4m HN.out HB9.out
 ·have HN:=zh hn
  (try simp only at h1)
  have hv:(V1 u 6).isSome=false:=by rw[h1];rfl
  clear hn
  rw[hv]
  clear hv h1
  cases is with
  | false=>
   obtain⟨t0,t1,t2,t3⟩:=HBR.out.rd4 (.int .u32 0) (.int .i64 0) (.int .i64 0) (.string ⟨#[]⟩)
   obtain⟨e0,e1,e2,e3,hf⟩:=HBR.out
   have f0:=hf 0
   have f1:=hf 1
   have f2:=hf 2
   have f3:=hf 3
   have HB9:=zh (Z7 HB.out (zl _) (.int .u32 0) (.int .i64 0) (.int .i64 0) (.string ⟨#[]⟩))
   go_wp2
   refine bodyPost_ret (v:= .tuple #[hldV hldZ,VT [],.bool false]) (by simp[results,Tryz.results181,go_sem,t0,t1,t2,t3,hldZ,bs]) rfl ?_
   exact k4m HN.out HB9.out
  | true=>
   cases also with
   | false=>
    obtain⟨t0,t1,t2,t3⟩:=HBR.out.rd4 (.int .u32 0) (.int .i64 0) (.int .i64 0) (.string ⟨#[]⟩)
    obtain⟨e0,e1,e2,e3,hf⟩:=HBR.out
    have f0:=hf 0
    have f1:=hf 1
    have f2:=hf 2
    have f3:=hf 3
    have HB9:=zh (Z7 HB.out (zl _) (.int .u32 0) (.int .i64 0) (.int .i64 0) (.string ⟨#[]⟩))
    go_wp2
    refine bodyPost_ret (v:= .tuple #[hldV hldZ,VT [],.bool false]) (by simp[results,Tryz.results181,go_sem,t0,t1,t2,t3,hldZ,bs]) rfl ?_
    exact k4m HN.out HB9.out
   | true=>
    rcases HES.out with⟨rfl,_⟩|⟨k9,hk9,rfl,_⟩
    ·obtain⟨t0,t1,t2,t3⟩:=HBR.out.rd4 (.int .u32 0) (.int .i64 0) (.int .i64 0) (.string ⟨#[]⟩)
     obtain⟨e0,e1,e2,e3,hf⟩:=HBR.out
     have f0:=hf 0
     have f1:=hf 1
     have f2:=hf 2
     have f3:=hf 3
     have HB9:=zh (Z7 HB.out (zl _) (.int .u32 0) (.int .i64 0) (.int .i64 0) (.string ⟨#[]⟩))
     go_wp2
     refine bodyPost_ret (v:= .tuple #[hldV hldZ,VT [],.bool false]) (by simp[results,Tryz.results181,go_sem,t0,t1,t2,t3,hldZ,bs]) rfl ?_
     exact k4m HN.out HB9.out
    ·unfold sval
     obtain⟨t0,t1,t2,t3⟩:=HBR.out.rd4 (.int .u32 0) (.int .i64 0) (.int .i64 0) (.string ⟨#[]⟩)
     obtain⟨e0,e1,e2,e3,hf⟩:=HBR.out
     have f0:=hf 0
     have f1:=hf 1
     have f2:=hf 2
     have f3:=hf 3
     have HB9:=zh (Z7 HB.out (zl _) (.int .u32 0) (.int .i64 0) (.int .i64 0) (.string ⟨#[]⟩))
     go_wp2
     refine bodyPost_ret (v:= .tuple #[hldV hldZ,VT [],.bool false]) (by simp[results,Tryz.results181,go_sem,t0,t1,t2,t3,hldZ,bs]) rfl ?_
     exact k4m HN.out HB9.out
 ·(try simp only at h1 h2 h3 h4 h5)
  subst h1;subst h2
  have hre:k4a i=0:=by unfold k4a;rw[h3];rfl
  obtain⟨rfl,_⟩:=HES.out.nil hre
  have hz:q0d i=(p,(n:Int)):=by unfold q0d;rw[h3]
  have hv:(V1 u 6).isSome=true:=by rw[h4];rfl
  have hnv:q9b u 6=(k:Int):=by unfold q9b;rw[h4];rfl
  obtain⟨hn6,hp4⟩:=k4e h3
  have hk6:=k4f h4
  rw[hz]at HX
  obtain⟨x0,x1,_,_⟩:=HX.out
  rw[hv,hnv]
  have hrs:(bs rest).size=rest.length:=Q8 rest
  rcases h5 with⟨hn,h6⟩|⟨hy,h6⟩
  ·have HN:=zh hn
   by_cases h7:rest.length<n+1
   ·have h7i:(rest.length:Int)<(n:Int)+1:=by omega
    clear h6 hn h7 hre hz hv hnv h3 h4
    obtain⟨t0,t1,t2,t3⟩:=HBR.out.rd4 (.int .u32 0) (.int .i64 0) (.int .i64 0) (.string ⟨#[]⟩)
    obtain⟨e0,e1,e2,e3,hf⟩:=HBR.out
    have f0:=hf 0
    have f1:=hf 1
    have f2:=hf 2
    have f3:=hf 3
    have HB9:=zh (Z7 HB.out (zl _) (.int .u32 0) (.int .i64 0) (.int .i64 0) (.string ⟨#[]⟩))
    go_wp2
    refine bodyPost_ret (v:= .tuple #[hldV hldZ,VT [],.bool false]) (by simp[results,Tryz.results181,go_sem,t0,t1,t2,t3,hldZ,bs]) rfl ?_
    exact k4m HN.out HB9.out
   ·have h7i:¬(rest.length:Int)<(n:Int)+1:=by omega
    have hlt:n<rest.length:=by omega
    have hltb:n<(bs rest).size:=by rw[hrs];exact hlt
    have h8:=k4k h6 hltb
    have b1:(0:Int)≤(n:Int):=by omega
    have b2:(n:Int)<(rest.length:Int):=by omega
    clear h6 hn h7 hre hz hv hnv h3 h4
    obtain⟨t0,t1,t2,t3⟩:=HBR.out.rd4 (.int .u32 0) (.int .i64 0) (.int .i64 0) (.string ⟨#[]⟩)
    obtain⟨e0,e1,e2,e3,hf⟩:=HBR.out
    have f0:=hf 0
    have f1:=hf 1
    have f2:=hf 2
    have f3:=hf 3
    have HB9:=zh (Z7 HB.out (zl _) (.int .u32 0) (.int .i64 0) (.int .i64 0) (.string ⟨#[]⟩))
    go_wp2
    refine bodyPost_ret (v:= .tuple #[hldV hldZ,VT [],.bool false]) (by simp[results,Tryz.results181,go_sem,t0,t1,t2,t3,hldZ,bs]) rfl ?_
    exact k4m HN.out HB9.out
  ·have hlt:n<rest.length:=by
    rcases Nat.lt_or_ge n rest.length with h|h
    ·exact h
    ·rw[List.getElem?_eq_none h]at h6;cases h6
   have HY:=zh hy
   have h7i:¬(rest.length:Int)<(n:Int)+1:=by omega
   have hltb:n<(bs rest).size:=by rw[hrs];exact hlt
   have h8:=k4i h6 hltb
   have b1:(0:Int)≤(n:Int):=by omega
   have b2:(n:Int)<(rest.length:Int):=by omega
   have b3:(n:Int)≤(rest.length:Int):=by omega
   have b4:(n:Int)+1≤(rest.length:Int):=by omega
   have b5:(0:Int)≤(n:Int)+1:=by omega
   have HWR:Hid (IntKind.i64.wrap ((n:Int)+1)=(n:Int)+1):=zh (IntWalk.i64_in _ (by omega))
   have HNE:Hid (w3.heap.size≠w.heap.size):=zh (by have:=HB0.out.size;have:=HB02.out.size;have:=HBR0.out.lt;have:=HB03.out;omega)
   have HE1:Hid ((bs rest).extract 0 n=bs (rest.take n)):=zh (by rw[q0v,Q3,List.drop_zero])
   have HE2:Hid ((bs rest).extract (n+1) rest.length=bs (rest.drop (n+1))):=zh (by rw[q0v,Q3,List.take_length])
   clear h6 hy hre hz hv hnv h3 h4
   go_wp2_with fail
   have hS0:Below w.heap.size w w5.drew∧Box2 w3.heap.size (.int .u32 (p:Int)) (.int .i64 (n:Int)) w5.drew:=⟨HB.out.drew,Box2.drewN HX.out 1⟩
   refine kR (fun w'=>Below w.heap.size w w'∧Box2 w3.heap.size (.int .u32 (p:Int)) (.int .i64 (n:Int)) w') 13 ?_
   refine kS 0 rfl hS0 (fun w' hS=>by have A0:=hS.2.c0;have A1:=hS.2.c1;go_simp;rfl) ?_
   refine kT 1 hS0 ?_
   refine kT 2 hS0 ?_
   refine kT 3 hS0 ?_
   refine kS 4 rfl hS0 (fun w' hS=>by have A0:=hS.2.c0;have A1:=hS.2.c1;go_simp;rfl) ?_
   refine kT 5 hS0 ?_
   refine kT 6 hS0 ?_
   refine kT 7 hS0 ?_
   refine kT 8 hS0 ?_
   refine kS 9 rfl hS0 (fun w' hS=>by have A0:=hS.2.c0;have A1:=hS.2.c1;go_simp;rfl) ?_
   refine kS 10 (v:= .int .i64 ((n:Int)+1)) rfl hS0 (fun w' hS=>by have W1:=HWR.out;go_simp) ?_
   refine kT 11 hS0 ?_
   have HBRd:=zh HBR.out.drewN
   generalize w5.drew=w6 at *
   obtain⟨e0,e1,e2,e3,hf⟩:=HBRd.out
   have f0:=hf 0
   have f1:=hf 1
   have f2:=hf 2
   have f3:=hf 3
   refine kC 12 (fun K hK=> ?_)
   go_simp
   have hS1:=And.intro (Z7 hS0.1 (zl _) (.int .u32 (p:Int)) (.int .i64 (n:Int)) (.int .i64 (k:Int)) (.string ((bs rest).extract 0 n))) (hS0.2.set4 HNE.out (.int .u32 (p:Int)) (.int .i64 (n:Int)) (.int .i64 (k:Int)) (.string ((bs rest).extract 0 n)))
   refine hK _ _ hS1 (kF ?_)
   clear hK K
   try simp only[Act.put,zM]
   simp only[List.drop_succ_cons,List.drop_zero]
   obtain⟨t0,t1,t2,t3⟩:=HBRd.out.rd4 (.int .u32 (p:Int)) (.int .i64 (n:Int)) (.int .i64 (k:Int)) (.string ((bs rest).extract 0 n))
   have HB9:=zh hS1.1
   rw[HE1.out]at t0 t1 t2 t3 HB9 ⊢
   clear hS0 hS1
   generalize((((w6.setCell ⟨w.heap.size,0,none⟩ (.int .u32 (p:Int))).setCell ⟨w.heap.size,1,none⟩ (.int .i64 (n:Int))).setCell ⟨w.heap.size,2,none⟩ (.int .i64 (k:Int))).setCell ⟨w.heap.size,3,none⟩ (.string (bs (rest.take n))))=w7 at *
   go_wp2
   refine bodyPost_ret (v:= .tuple #[hldV ⟨(p,(n:Int)),(k:Int),rest.take n⟩,VT (rest.drop (n+1)),.bool true]) (by rw[HE2.out];simp[results,Tryz.results181,go_sem,t0,t1,t2,t3]) rfl ?_
   exact k4n HY.out HB9.out
structure RBin(rb base:Nat)(v:Value)(L:HldL)(w:World):Prop where
 row:w.heap[rb]? =some (.cells #[v] 94 (0,0))
 own:w.ownsRow base 150 4 v L.length (Q6 L)
 ne:∀b,v.ownBlock=some b→b≠rb
theorem RBin.lt{rb base:Nat}{v:Value}{L:HldL}{w:World}(h:RBin rb base v L w):rb<w.heap.size:=(Array.getElem?_eq_some_iff.1 h.row).1
theorem RBin.cell{rb base:Nat}{v:Value}{L:HldL}{w:World}(h:RBin rb base v L w):w.cell? ⟨rb,0,none⟩=some v:=by rw[cell_of_row w rb 0 _ _ _ h.row];rfl
theorem RBin.below{rb base:Nat}{v:Value}{L:HldL}{w w':World}(h:RBin rb base v L w)(hb:Below w.heap.size w w'):RBin rb base v L w':=⟨(hb.block rb h.lt).trans h.row,Q4 h.own hb,h.ne⟩
def k4p(L:HldL)(x:Idn)(k:Nat):Prop:=∃hk:k<L.length,L[k].id=x∧∀j (hj:j<L.length),j<k→L[j].id≠x
def k4q(L:HldL)(x:Idn):Prop:=∀j (hj:j<L.length),L[j].id≠x
def k4r(L:HldL)(x:Idn)(w:World)(e:Ending)(w':World):Prop:=
 Below w.heap.size w w'∧((∃k:Nat,k4p L x k∧e= .returned (.int .i64 k))∨(k4q L x∧e= .returned (.int .i64 (-1))))
theorem k4s(rb base:Nat)(v:Value)(L:HldL)(hL:L.length≤2^40)(x:Idn)(w:World)(h:RBin rb base v L w) :
  Calls Tryz.prog 98 #[.pointer (some ⟨rb,0,none⟩),idV x] w (k4r L x w):=by
 have hb0:Below w.heap.size w (w.alloc (.cells #[.int .u32 (x.1:Int),.int .i64 x.2] 25)):=(zb _ w).alloc (zl _) _
 have hx0:Box2 w.heap.size (.int .u32 (x.1:Int)) (.int .i64 x.2) (w.alloc (.cells #[.int .u32 (x.1:Int),.int .i64 x.2] 25)):=Box2.mk' _ _ _ _
 have HC0:=zh (h.below hb0).cell
 have HRB:=zh h.lt
 obtain⟨A,c,rfl,hr⟩:=j0k h.own
 have HR:=zh (hr.below hb0)
 have HB0:=zh hb0
 have HX0:=zh hx0
 clear hr h hb0 hx0
 go_enter Tryz.func98,Tryz.ntmps98
 go_wp2
 generalize hw0:w.alloc (.cells #[.int .u32 (x.1:Int),.int .i64 x.2] 25)=w0 at *
 clear hw0
 go_loopg [5] L.length (fun gh vi wr=>∃k:Nat,vi= .int .i64 k∧k≤L.length∧gh=L.length-k∧Hid (∀j (hj:j<L.length),j<k→L[j].id≠x)∧Below w0.heap.size w0 wr)
 case atStart=>exact⟨0,rfl,Nat.zero_le _,rfl,zh (fun j _ h=>absurd h (Nat.not_lt_zero _)),zb _ _⟩
 case round=>
  obtain⟨k,rfl,hk,hgm,hno,hB⟩:=hrel
  have HBR:=zh (HB0.out.trans (hB.mono HB0.out.size))
  have hrl:rb<w0.heap.size:=Nat.lt_of_lt_of_le HRB.out HB0.out.size
  have c0:=(hB.cell (p:=⟨rb,0,none⟩) hrl).trans HC0.out
  by_cases hkl:k<L.length
  ·obtain⟨g,rfl,hg,hcells⟩:=HR.out (by omega)
   obtain⟨c1,c2,_,_⟩:=hcells k hkl
   have hg0:g<w0.heap.size:=Nat.lt_of_lt_of_le hg HB0.out.size
   have d1:=(hB.cell (p:=⟨g,k*4,none⟩) hg0).trans c1
   have d2:=(hB.cell (p:=⟨g,k*4+1,none⟩) hg0).trans c2
   obtain⟨x0,x1,_,_⟩:=HX0.out.below hB HX0.out.lt
   have b1:(0:Int)≤(k:Int):=by omega
   have b2:(k:Int)<(L.length:Int):=by omega
   clear c1 c2 hcells
   by_cases he:L[k].id=x
   ·obtain⟨t1,t2⟩:=j0a he
    have HP:Hid (∀w',Below w.heap.size w w'→k4r L x w (.returned (.int .i64 k)) w'):=zh fun w' hb=>⟨hb,.inl ⟨k,⟨hkl,he,hno.out⟩,rfl⟩⟩
    clear he hno
    go_wp2
    go_region
    go_wp2
    go_ret
    exact HP.out _ HBR.out.drew
   ·have HN:Hid (∀j (hj:j<L.length),j<k+1→L[j].id≠x):=zh fun j hj h=>by
     rcases Nat.lt_or_ge j k with h1|h1
     ·exact hno.out j hj h1
     ·obtain rfl:j=k:=by omega
      exact he
    have hne:=j0b he
    clear he hno
    rcases hne with t1|⟨t1,t2⟩
    ·go_wp2
     go_region
     go_wp2
     go_roundg (L.length-(k+1))
     case measure=>omega
     case rel=>exact⟨k+1,by go_num,hkl,rfl,HN,hB.drew⟩
    ·go_wp2
     go_region
     go_wp2
     go_roundg (L.length-(k+1))
     case measure=>omega
     case rel=>exact⟨k+1,by go_num,hkl,rfl,HN,hB.drew⟩
  ·obtain rfl:k=L.length:=by omega
   have HP:Hid (k4r L x w (.returned (.int .i64 (-1))) wr):=zh ⟨HBR.out,.inr ⟨fun j hj=>hno.out j hj hj,rfl⟩⟩
   go_wp2
   go_ret
   exact HP.out
theorem k4t{L:HldL}{k:Nat}(h:k<L.length):J8 (L.take (k+1))=J8 (L.take k)+L[k].id.2:=by
 unfold J8
 rw[List.take_succ_eq_append_getElem h,List.map_append,List.sum_append];simp
theorem k4u(rb base:Nat)(v:Value)(L:HldL)(hL:L.length≤2^40)(hsz:∀x∈L,0≤x.id.2∧x.id.2≤64)(w:World)(h:RBin rb base v L w) :
  Calls Tryz.prog 99 #[.pointer (some ⟨rb,0,none⟩)] w fun e w'=>e= .returned (.int .i64 (J8 L))∧w=w':=by
 have c0:=h.cell
 obtain⟨A,c,rfl,hr⟩:=j0k h.own
 have HR:=zh hr
 have HSZ:Hid (∀k,0≤J8 (L.take k)∧J8 (L.take k)≤64*L.length):=zh fun k=>by
  have h1:=z3k (L:=L.take k) fun x hx=>hsz x (List.mem_of_mem_take hx)
  rw[List.length_take]at h1
  omega
 have HEL:=zh hsz
 clear hr h hsz
 go_enter Tryz.func99,Tryz.ntmps99
 go_wp2
 go_loopg [3,4] L.length (fun gh vs vi wr=>∃k:Nat,vi= .int .i64 k∧vs= .int .i64 (J8 (L.take k))∧k≤L.length∧gh=L.length-k∧w=wr)
 case atStart=>exact⟨0,rfl,rfl,Nat.zero_le _,rfl,rfl⟩
 case round=>
  obtain⟨k,rfl,rfl,hk,hgm,rfl⟩:=hrel
  by_cases hkl:k<L.length
  ·obtain⟨g,rfl,hg,hcells⟩:=HR.out (by omega)
   obtain⟨_,c2,_,_⟩:=hcells k hkl
   have b1:(0:Int)≤(k:Int):=by omega
   have b2:(k:Int)<(L.length:Int):=by omega
   have hws:IntKind.i64.wrap (J8 (L.take k)+L[k].id.2)=J8 (L.take (k+1)):=by
    rw[k4t hkl]
    have h1:=HSZ.out k
    have h2:=HEL.out L[k] (List.getElem_mem hkl)
    exact IntWalk.i64_in _ (by omega)
   clear hcells
   go_wp2
   go_roundg (L.length-(k+1))
   case measure=>omega
   case rel=>exact⟨k+1,by go_num,rfl,hkl,rfl,rfl⟩
  ·obtain rfl:k=L.length:=by omega
   rw[List.take_length]
   go_wp2
   go_ret
   exact⟨rfl,rfl⟩
structure BFrame(rb:Nat)(v:Value)(w w':World):Prop where
 os:w'.os=w.os
 tape:w'.tape=w.tape
 output:w'.output=w.output
 size:w.heap.size≤w'.heap.size
 block:∀k,k<w.heap.size→k≠rb→v.ownBlock≠some k→w'.heap[k]? =w.heap[k]?
theorem BFrame.of_below{rb:Nat}{v:Value}{w w':World}(hb:Below w.heap.size w w'):BFrame rb v w w':=⟨hb.os,hb.tape,hb.output,hb.size,fun k hk _ _=>hb.block k hk⟩
theorem k4v{L:HldL}{x:Idn}{k:Nat}(h:k4p L x k):getB L x=some (L[k]'h.1):=by
 obtain⟨hk,he,hno⟩:=h
 unfold getB
 rw[List.find?_eq_some_iff_append]
 refine⟨by simpa using he,L.take k,L.drop (k+1),?_,fun a ha=> ?_⟩
 ·rw[←List.drop_eq_getElem_cons hk,List.take_append_drop]
 ·obtain⟨j,hj,rfl⟩:=List.mem_take_iff_getElem.1 ha
  have hjl:j<L.length:=by omega
  have:=hno j hjl (by omega)
  simpa using this
theorem k4w{L:HldL}{x:Idn}(h:k4q L x):getB L x=none:=z2w.2 fun y hy=>by
 obtain⟨j,hj,rfl⟩:=List.getElem_of_mem hy
 exact h j hj
theorem k4x:∀ {L:HldL} (_:SrtB L) (y:Hld) (k:Nat) (_:k4p L y.id k),setB y L=L.set k y
 | [],_,y,k,h=>absurd h.1 (Nat.not_lt_zero _)
 | a::r,hs,y,0,h=>by
  obtain⟨hk,he,_⟩:=h
  have he:a.id=y.id:=he
  unfold setB
  rw[if_pos he];rfl
 | a::r,hs,y,k+1,h=>by
  obtain⟨hk,he,hno⟩:=h
  obtain⟨h1,h2⟩:=G5.1 hs
  have hk':k<r.length:=by simpa using hk
  have he':r[k].id=y.id:=he
  have hne:a.id≠y.id:=hno 0 (by simp) (by omega)
  have hlt:Q2 a.id y.id=true:=by rw[←he'];exact h1 _ (List.getElem_mem hk')
  have hnl:¬Q2 y.id a.id=true:=fun e=>by
   have:=D9 hlt e
   rw[R1]at this;cases this
  unfold setB
  rw[if_neg hne,if_neg hnl,k4x h2 y k ⟨hk',he',fun j hj hjk=>hno (j+1) (by simpa using hj) (by omega)⟩]
  rfl
theorem k4y:∀(L:HldL) (k:Nat) (hk:k<L.length) (u:Int),Q6 (L.set k ⟨L[k].id,u,L[k].text⟩)=(Q6 L).set (k*4+2) (.int .i64 u)
 | [],k,h,_=>absurd h (by simp)
 | x::r,0,_,u=>rfl
 | x::r,k+1,h,u=>by
  have hk':k<r.length:=by simpa using h
  have ih:=k4y r k hk' u
  have e1:(k+1)*4+2=k*4+2+1+1+1+1:=by omega
  show hldC x++Q6 (r.set k ⟨r[k].id,u,r[k].text⟩)=(hldC x++Q6 r).set ((k+1)*4+2) (.int .i64 u)
  rw[ih,e1]
  rfl
def k4z(rb base:Nat)(v:Value)(L:HldL)(x:Idn)(w:World)(e:Ending)(w':World):Prop:=
 e= .returned (.int .i64 (G0 x L).2)∧RBin rb base v (G0 x L).1 w'∧BFrame rb v w w'
theorem k5a{rb base:Nat}{v:Value}{L:HldL}{x:Idn}{w w':World}(hn:k4q L x)(h:RBin rb base v L w')(hb:Below w.heap.size w w'):k4z rb base v L x w (.returned (.int .i64 5)) w':=by
 have e:G0 x L=(L,5):=by unfold G0;rw[k4w hn]
 exact⟨by rw[e],by rw[e];exact h,.of_below hb⟩
theorem k5b{rb base:Nat}{v:Value}{L:HldL}{x:Idn}{k:Nat}{w w':World}(hs:k4p L x k)(hu:(L[k]'hs.1).uses=0)(h:RBin rb base v L w')(hb:Below w.heap.size w w'):k4z rb base v L x w (.returned (.int .i64 11)) w':=by
 have e:G0 x L=(L,11):=by unfold G0;rw[k4v hs];exact if_pos hu
 exact⟨by rw[e],by rw[e];exact h,.of_below hb⟩
theorem G6{w:World}{d o k:Nat}{x:Value}(h:k≠d):(w.setCell ⟨d,o,none⟩ x).heap[k]? =w.heap[k]? :=by simp[World.setCell,Array.getElem?_modify,Ne.symm h]
theorem k5c{rb base g c:Nat}{L:HldL}(hS:SrtB L){x:Idn}{k:Nat}{w w':World}(hs:k4p L x k)(hu:(L[k]'hs.1).uses≠0)(h:RBin rb base (.slice (some ⟨g,0,none⟩) L.length c) L w')(hb:Below w.heap.size w w') :
  k4z rb base (.slice (some ⟨g,0,none⟩) L.length c) L x w (.returned (.int .i64 0)) (w'.setCell ⟨g,k*4+2,none⟩ (.int .i64 ((L[k]'hs.1).uses-1))):=by
 have hk:=hs.1
 have he:L[k].id=x:=hs.2.1
 have e:G0 x L=(L.set k ⟨L[k].id,L[k].uses-1,L[k].text⟩,0):=by
  unfold G0;rw[k4v hs]
  show(if L[k].uses=0 then _ else _)=_
  rw[if_neg hu,k4x hS ⟨L[k].id,L[k].uses-1,L[k].text⟩ k (by show k4p L L[k].id k;rw[he];exact hs)]
 have hgr:g≠rb:=h.ne g rfl
 obtain⟨o1,_⟩:=h.own.stored (k*4+2) (.int .i64 (L[k].uses-1))
 refine⟨by rw[e],by rw[e];exact⟨(G6 (Ne.symm hgr)).trans h.row,by rw[k4y L k hk,List.length_set];exact o1,h.ne⟩,hb.os,hb.tape,hb.output,by have:=hb.size;simpa[World.setCell]using this,fun j hj h1 h2=> ?_⟩
 have hjg:j≠g:=fun e=>h2 (by rw[e];rfl)
 exact(G6 hjg).trans (hb.block j hj)
theorem k5d(rb base:Nat)(v:Value)(L:HldL)(n:Int)(hn:n≤4611686018427387904)(hL:BinOk n L)(hl:L.length≤1000000)(x:Idn)(w:World)(h:RBin rb base v L w) :
  Calls Tryz.prog 95 #[.pointer (some ⟨rb,0,none⟩),idV x] w (k4z rb base v L x w):=by
 have hb0:Below w.heap.size w (w.alloc (.cells #[.int .u32 (x.1:Int),.int .i64 x.2] 25)):=(zb _ w).alloc (zl _) _
 have hx0:Box2 w.heap.size (.int .u32 (x.1:Int)) (.int .i64 x.2) (w.alloc (.cells #[.int .u32 (x.1:Int),.int .i64 x.2] 25)):=Box2.mk' _ _ _ _
 have HR0:=zh (h.below hb0)
 have FIND:=zh (k4s rb base v L (by omega) x (w.alloc (.cells #[.int .u32 (x.1:Int),.int .i64 x.2] 25)) HR0.out)
 have HB0:=zh hb0
 have HOK:=zh hL
 obtain⟨x0,x1,_,_⟩:=hx0
 clear h hb0 hL
 go_enter Tryz.func95,Tryz.ntmps95
 go_wp2_with fail
 refine FIND.out.mono ?_
 clear x0 x1
 rintro e w1 ⟨hb1,hcase⟩
 have HR1:=zh (HR0.out.below hb1)
 have HB1:=zh (HB0.out.trans (hb1.mono HB0.out.size))
 clear hb1 HR0 HB0 FIND
 rcases hcase with⟨k,hs,rfl⟩|⟨hno,rfl⟩
 ·have c0:=HR1.out.cell
  have HS:=zh hs
  have ho:=HR1.out.own
  have hk:=hs.1
  obtain⟨A,c,rfl,hr⟩:=j0k ho
  obtain⟨g,rfl,hg,hcells⟩:=hr (by omega)
  obtain⟨_,_,c2,_⟩:=hcells k hk
  have f2:=ho.frozenAt (k*4+2)
  have b1:(0:Int)≤(k:Int):=by omega
  have b2:(k:Int)<(L.length:Int):=by omega
  have hus:=(HOK.out.all L[k] (List.getElem_mem hk)).uses
  have hws:IntKind.i64.wrap (L[k].uses-1)=L[k].uses-1:=IntWalk.i64_in _ (by omega)
  clear hcells hr hs
  by_cases hu:L[k].uses=0
  ·have HP:=zh (k5b (w:=w) HS.out hu HR1.out HB1.out)
   have hui:(L[k].uses==0)=true:=by rw[hu];rfl
   clear hu hws ho
   go_wp2
   go_ret
   exact HP.out
  ·have HP:=zh (k5c (w:=w) HOK.out.srt HS.out hu HR1.out HB1.out)
   have hui:(L[k].uses==0)=false:=by simpa using hu
   have HWS:=zh hws
   clear hu ho hws
   go_wp2
   go_ret
   exact HP.out
 ·have HP:=zh (k5a (w:=w) hno HR1.out HB1.out)
  clear hno
  go_wp2
  go_ret
  exact HP.out
theorem k5e{L:HldL}{k:Nat}(hk:k<L.length)(p:Hld→Bool):(L.take (k+1)).filter p=(L.take k).filter p++(if p L[k]=true then[L[k]]else[]):=by
 rw[List.take_succ_eq_append_getElem hk,List.filter_append]
 congr 1
 rw[List.filter_cons];split<;>rfl
theorem k5f{L:HldL}{k:Nat}(hk:k<L.length)(p:Hld→Bool)(h:p L[k]=true):(L.take (k+1)).filter p=(L.take k).filter p++ [L[k]]:=by rw[k5e hk,if_pos h]
theorem k5g{L:HldL}{k:Nat}(hk:k<L.length)(p:Hld→Bool)(h:p L[k]=false):(L.take (k+1)).filter p=(L.take k).filter p:=by rw[k5e hk,if_neg (by rw[h];simp),List.append_nil]
def k5h(L:HldL)(k:Nat):Int:=J8 ((L.take k).filter fun h=> !C6 h)
def k5i(L:HldL)(k:Nat):HldL:=(L.take k).filter C6
theorem k5j{L:HldL}{k:Nat}(hk:k<L.length)(h:L[k].uses=0):k5h L (k+1)=k5h L k+L[k].id.2:=by
 unfold k5h
 rw[k5f hk _ (by simp[C6,h])]
 unfold J8;rw[List.map_append,List.sum_append];simp
theorem k5k{L:HldL}{k:Nat}(hk:k<L.length)(h:L[k].uses≠0):k5h L (k+1)=k5h L k:=by
 unfold k5h;rw[k5g hk _ (by simp[C6,h])]
theorem k5l{L:HldL}{k:Nat}(hk:k<L.length)(h:L[k].uses≠0):k5i L (k+1)=k5i L k++ [L[k]]:=k5f hk _ (by simp[C6,h])
theorem k5m{L:HldL}{k:Nat}(hk:k<L.length)(h:L[k].uses=0):k5i L (k+1)=k5i L k:=k5g hk _ (by simp[C6,h])
theorem k5n(L:HldL)(k:Nat):(k5i L k).length≤L.length:=Nat.le_trans (List.length_filter_le _ _) (by rw[List.length_take];omega)
theorem k5o{n:Int}{L:HldL}(h:BinOk n L)(k:Nat):0≤k5h L k∧k5h L k≤64*L.length:=by
 have h1:=z3k (L:=(L.take k).filter fun h=> !C6 h) fun x hx=>by
  have hx:=h.all x (List.mem_of_mem_take (List.mem_filter.1 hx).1)
  have h2:=hx.len
  rw[hx.id]
  show(0:Int)≤((x.text.length:Nat):Int)∧((x.text.length:Nat):Int)≤64
  omega
 have h2:((L.take k).filter fun h=> !C6 h).length≤L.length:=Nat.le_trans (List.length_filter_le _ _) (by rw[List.length_take];omega)
 unfold k5h;omega
def k5p(rb base:Nat)(v:Value)(L:HldL)(w:World)(e:Ending)(w':World):Prop:=
 ∃v',e= .returned (.int .i64 (J8 (L.filter fun h=> !C6 h)))∧RBin rb base v' (J6 L) w'∧(∀b,v'.ownBlock=some b→w.heap.size≤b)∧BFrame rb v w w'
theorem k5q{rb base:Nat}{v v':Value}{L:HldL}{w wr:World}(h:RBin rb base v L w)(hbase:base≤w.heap.size)(hb:Below w.heap.size w wr)(ho:wr.ownsRow w.heap.size 150 4 v' (k5i L L.length).length (Q6 (k5i L L.length))) :
  k5p rb base v L w (.returned (.int .i64 (k5h L L.length))) (wr.setCell ⟨rb,0,none⟩ v'):=by
 have hrl:=h.lt
 have e:k5i L L.length=J6 L:=by unfold k5i J6;rw[List.take_length]
 have hrow:(wr.setCell ⟨rb,0,none⟩ v').heap[rb]? =some (.cells #[v'] 94 (0,0)):=by
  have:=(hb.block rb hrl).trans h.row
  simp[World.setCell,Array.getElem?_modify,this]
 refine⟨v',by unfold k5h;rw[List.take_length],⟨hrow,?_,fun b hbk e=> ?_⟩,fun b hbk=>Y7 ho hbk,hb.os,hb.tape,hb.output,by have:=hb.size;simpa[World.setCell]using this,fun j hj h1 _=>(G6 h1).trans (hb.block j hj)⟩
 ·rw[←e]
  exact z9b (M2 ho (zl _)) hrl |> fun h=>M2 h hbase
 ·have:=Y7 ho hbk;omega
theorem k5r(rb base:Nat)(v:Value)(L:HldL)(n:Int)(hL:BinOk n L)(hl:L.length≤1000000)(w:World)(hbase:base≤w.heap.size)(h:RBin rb base v L w) :
  Calls Tryz.prog 97 #[.pointer (some ⟨rb,0,none⟩)] w (k5p rb base v L w):=by
 obtain⟨i0,hi,hz0,hz1,hz2⟩:=info_parts j0d
 have HBIN:=zh h
 have HBASE:=zh hbase
 have HOK:=zh hL
 have HC0:=zh h.cell
 have HF0:=zh (frozen_of_row w rb 0 _ _ h.row)
 have HRL:=zh h.lt
 obtain⟨A,c,rfl,hr⟩:=j0k h.own
 have HR:=zh hr
 have c0:=HC0.out
 clear hr h hbase hL
 go_enter Tryz.func97,Tryz.ntmps97
 go_wp2
 go_loopg [3,4,5] L.length (fun gh vs vq vi wr=>∃(k:Nat) (vk:Value),vk=vq∧vi= .int .i64 k∧vs= .int .i64 (k5h L k)∧k≤L.length∧gh=L.length-k∧wr.ownsRow w.heap.size 150 4 vk (k5i L k).length (Q6 (k5i L k))∧Below w.heap.size w wr)
 case atStart=>exact⟨0,_,rfl,rfl,rfl,Nat.zero_le _,rfl,World.ownsRow_nil _ _ _ _,zb _ _⟩
 case round=>
  obtain⟨k,vk,rfl,rfl,rfl,hk,hgm,hrow,hB⟩:=hrel
  have c0:=(hB.cell (p:=⟨rb,0,none⟩) HRL.out).trans HC0.out
  by_cases hkl:k<L.length
  ·obtain⟨g,rfl,hg,hcells⟩:=HR.out (by omega)
   obtain⟨x0,x1,x2,x3⟩:=hcells k hkl
   have y0:=(hB.cell (p:=⟨g,k*4,none⟩) hg).trans x0
   have y1:=(hB.cell (p:=⟨g,k*4+1,none⟩) hg).trans x1
   have y2:=(hB.cell (p:=⟨g,k*4+2,none⟩) hg).trans x2
   have y3:=(hB.cell (p:=⟨g,k*4+3,none⟩) hg).trans x3
   have b1:(0:Int)≤(k:Int):=by omega
   have b2:(k:Int)<(L.length:Int):=by omega
   clear x0 x1 x2 x3 hcells
   by_cases hu:L[k].uses=0
   ·have hui:(L[k].uses==0)=true:=by rw[hu];rfl
    have hws:IntKind.i64.wrap (k5h L k+L[k].id.2)=k5h L (k+1):=by
     have h1:=k5o HOK.out (k+1)
     rw[k5j hkl hu]at h1 ⊢
     exact IntWalk.i64_in _ (by omega)
    have HROW:Hid (wr.ownsRow w.heap.size 150 4 vk (k5i L (k+1)).length (Q6 (k5i L (k+1)))):=zh (by rw[k5m hkl hu];exact hrow)
    have HB:=zh hB
    clear hu hrow hB
    go_wp2
    go_roundg (L.length-(k+1))
    case measure=>omega
    case rel=>exact⟨k+1,_,rfl,by go_num,rfl,hkl,rfl,HROW.out,HB.out⟩
   ·have hui:(L[k].uses==0)=false:=by simpa using hu
    have HFR:=zh (k5k hkl hu)
    have HKL:=zh (k5n L k)
    have HKY:=zh (k5l hkl hu)
    have hks:(k5i L k).length≤1000000:=by have:=HKL.out;omega
    have HRW:=zh hrow
    obtain⟨Ak,ck,hvk⟩:=J0 hrow
    subst hvk
    have HB:=zh hB
    clear hu hrow hB
    go_wp2_with(at_builtin;refine wpList_append_own _ rfl _ _ 91 rfl w.heap.size 150 i0 (.agg #[.int .u32 0,.int .i64 0,.int .i64 0,.string ByteArray.empty]) 4 40 Tryz.underlying91 hi hz0 hz1 hz2 rfl (by decide) _ _ _ rfl (HRW.out.alloc _) ⟨wr.heap.size,0,none⟩ 1 1 (hldC L[k]) rfl rfl (j0c _ _ _ _ _ _) (by simp[hldC,Value.oneCell']) (by unfold maxLen;omega) (by omega) (by have:=HB.out.size;simp;omega) ?_;intro v8 w8 ho8 hg8 _)
    have HO8:Hid (w8.ownsRow w.heap.size 150 4 v8 (k5i L (k+1)).length (Q6 (k5i L (k+1)))):=zh (by rw[HKY.out,q0l,List.length_append];exact ho8)
    have HB8:=zh (X5 HB.out HB.out.size HRW.out hg8)
    go_roundg (L.length-(k+1))
    case measure=>omega
    case rel=>exact⟨k+1,_,rfl,by go_num,by rw[HFR.out],hkl,rfl,HO8.out,HB8.out⟩
  ·obtain rfl:k=L.length:=by omega
   have f0:=(hB.frozen (p:=⟨rb,0,none⟩) HRL.out).trans HF0.out
   have HP:=zh (k5q HBIN.out HBASE.out hB hrow)
   obtain⟨Ak,ck,hvk⟩:=J0 hrow
   subst hvk
   clear hrow hB
   go_wp2
   go_ret
   exact HP.out
end Go.Proofs.YtdmlghfggninbaaGreatDoor
