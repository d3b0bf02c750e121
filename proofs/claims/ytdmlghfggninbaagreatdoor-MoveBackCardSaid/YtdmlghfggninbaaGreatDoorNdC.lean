/- Nodes in memory: walk of Put. Condition: the sentinels that are read lie as named (SomeS). -/
import Derived.Test.YtdmlghfggninbaaGreatDoorMb8
import Derived.Test.YtdmlghfggninbaaGreatDoorMb11
import Derived.Test.YtdmlghfggninbaaGreatDoorMb24
import Derived.Test.YtdmlghfggninbaaGreatDoorMb27
set_option linter.unusedVariables false
set_option linter.unusedSimpArgs false
set_option maxHeartbeats 8000000
set_option maxRecDepth 100000
namespace Go.Proofs.YtdmlghfggninbaaGreatDoor
open Go.RowKit Go.Lib Go.Maps Go.WideMaps
def j7h(a:Nat→Addr)(n fm bm:Nat)(F:FL)(B:BL)(nm s:Bytes)(w:World)(e:Ending)(w':World):Prop:=
 ∃r f',e= .returned (.tuple #[.int .i64 (putN nm s (Q0 F B)).2.1,r])∧ES a r (putN nm s (Q0 F B)).2.2∧Node n (putN nm s (Q0 F B)).1 f' w'∧FrS (J5 n fm bm F B).S w w'∧(J5 n fm bm F B).new f' w.heap.size
theorem j7i{a:Nat→Addr}{n fm bm:Nat}{F:FL}{B:BL}{nm s:Bytes}{w w':World}{c:Int}{r:Value}(h:ONode n fm bm F B w)(hp:putN nm s (Q0 F B)=(Q0 F B,0,c))(hr:ES a r c)(hb:Below w.heap.size w w') :
  j7h a n fm bm F B nm s w (.returned (.tuple #[.int .i64 0,r])) w':=
 ⟨r,_,by rw[hp],by rw[hp];exact hr,by rw[hp];exact(h.below hb).node,FrS.of_below hb,Foot.new_refl _ _⟩
theorem j7j{nm s:Bytes}{P:PNode}(h:J7 nm=false):putN nm s P=(P,0,4):=if_pos h
theorem j7k{nm s:Bytes}{P:PNode}(h:J7 nm=true)(h2:4000<s.length):putN nm s P=(P,0,2):=(if_neg (by rw[h];decide)).trans (if_pos h2)
theorem j7l{nm s:Bytes}{P:PNode}(h:J7 nm=true)(h2:¬ 4000<s.length)(h3:(Q1 P.files nm).isSome=true):putN nm s P=(P,0,6):=(if_neg (by rw[h];decide)).trans ((if_neg h2).trans (if_pos h3))
theorem j7m{nm s:Bytes}{P:PNode}(h:J7 nm=true)(h2:¬ 4000<s.length)(h3:¬(Q1 P.files nm).isSome=true)(h4:30≤P.files.length):putN nm s P=(P,0,7):=(if_neg (by rw[h];decide)).trans ((if_neg h2).trans ((if_neg h3).trans (if_pos h4)))
theorem j7n{nm s:Bytes}{P:PNode}(h:J7 nm=true)(h2:¬ 4000<s.length)(h3:¬(Q1 P.files nm).isSome=true)(h4:¬ 30≤P.files.length){L:HldL}{f c:Int}(hp:K4 (pieces s) (binN P (Z8 (V8 s))) 0=(L,f,c)) :
  putN nm s P=if c=0 then(⟨Q9 bytesBefore nm (Q7 nm s) P.files,Q9 Q2 (Z8 (V8 s)) L P.bins⟩,f,0)else(P,0,c):=by
 refine(if_neg (by rw[h];decide)).trans ((if_neg h2).trans ((if_neg h3).trans ((if_neg h4).trans ?_)))
 rw[hp]
theorem j7o{p:Bytes}{r:List Bytes}{L L':HldL}{f:Int}{x:Idn}{q:Bool}{c:Int}(h:putB p L=(L',x,q,c)):K4 (p::r) L f=if c=0 then K4 r L' (f+if q then(p.length:Int)else 0)else(L',0,c):=by
 rw[K4,h]
theorem j7p{p:Bytes}{L L':HldL}{x:Idn}{q:Bool}{n:Int}(hn:0≤n)(hb:BinOk n L)(hl:L.length≤250)(h:putB p L=(L',x,q,0)):BinOk (n+1) L'∧L'.length≤250:=by
 have h1:=z3m hn hb p
 have h2:=z3p (s:=p) hb.srt hl
 rw[h]at h1 h2
 exact⟨h1,h2⟩
theorem j7q(a:Nat→Addr)(n fm bm:Nat)(F:FL)(B:BL)(nm s:Bytes)(hn:X6 nm)(hc:(M8 nm s).1≠0)(hp:putN nm s (Q0 F B)=(Q0 F B,0,(M8 nm s).1))(w:World)(h:ONode n fm bm F B w)(hs:SomeS [1,3,5,6,9] a w) :
  Calls Tryz.prog 30 #[.pointer (some ⟨n,0,none⟩),.string (bs nm),.string (bs s)] w (j7h a n fm bm F B nm s w):=by
 have hnz:(bs nm).size≤maxLen:=by rw[Q8];exact hn
 have hof:=j7d a (bs nm) (bs s) hnz w (hs.sub (js:= [1,3]) (by decide))
 rw[Q3,Q3]at hof
 have HOF:=zh hof
 have HC:=zh hc
 have HBAD:=zh (fun w' r (hr:ES a r (M8 nm s).1) (hb:Below w.heap.size w w')=>j7i h hp hr hb)
 clear hof hc hp h hs
 go_enter Tryz.func30,Tryz.ntmps30
 go_wp2_with fail
 refine HOF.out.mono ?_
 rintro e w1 ⟨v1,r1,rfl,hev,⟨sl,rfl,hsl⟩,hb1⟩
 obtain⟨ty,pv,rfl⟩:=hev.some HC.out
 obtain⟨SA,sc,rfl⟩:∃A c,sl= .slice A (M8 nm s).2.ids.length c:=by obtain⟨A,c,h,_⟩:=hsl;exact⟨A,c,h⟩
 have HEV:=zh hev
 have HB1:=zh hb1
 clear hev hsl hb1
 go_wp2
 go_ret2
 exact HBAD.out _ _ HEV.out (HB1.out.alloc HB1.out.size _)
theorem j7r(a:Nat→Addr)(n fm bm:Nat)(F:FL)(B:BL)(hP:NodeOk (Q0 F B))(nm s:Bytes)(hn:X6 nm)(hN:J7 nm=true)(h4:¬ 4000<s.length)(fe:FE)(hgf:Q1 F nm=some fe)(SB:Option Addr)(sb:Nat)(hsl0:fe.sl= .slice SB fe.r.ids.length sb)(w:World)(h:ONode n fm bm F B w)(hs:SomeS [1,3,5,6,9] a w) :
  Calls Tryz.prog 30 #[.pointer (some ⟨n,0,none⟩),.string (bs nm),.string (bs s)] w (j7h a n fm bm F B nm s w):=by
 have hnz:(bs nm).size≤maxLen:=by rw[Q8];exact hn
 have hof:=j7d a (bs nm) (bs s) hnz w (hs.sub (js:= [1,3]) (by decide))
 rw[Q3,Q3]at hof
 rw[show M8 nm s=(0,Q7 nm s)from(if_neg (by rw[hN];decide)).trans (if_neg h4)]at hof
 have HOF:=zh hof
 have LK:=fun w' (h':ONode n fm bm F B w')=>h'.files.look j2f (h.keysF hP) Tryz.underlying78 (j2g w') hn
 rw[hgf]at LK
 simp only[Option.map_some,Option.getD_some,Option.isSome_some]at LK
 have HLK:=zh LK
 have HLN:=zh (fun w' (h':ONode n fm bm F B w')=>h'.files.size Tryz.underlying78 3)
 have hp:=j7l hN h4 (P:=Q0 F B) (by show(Q1 (K7 FE.r F) nm).isSome=true;rw[G9,hgf];rfl)
 have HBAD:=zh (fun w' r (hr:ES a r 6) (hb:Below w.heap.size w w')=>j7i h hp hr hb)
 have HN:=zh h
 have HS:=zh hs
 clear hof h hs LK hgf hp hP
 go_enter Tryz.func30,Tryz.ntmps30
 go_wp2_with fail
 refine HOF.out.mono ?_
 rintro e w1 ⟨v1,r1,rfl,hev,⟨sl,rfl,hsl⟩,hb1⟩
 obtain⟨rfl,_⟩:=hev.nil rfl
 obtain⟨SA,sc,rfl⟩:∃A c,sl= .slice A (Q7 nm s).ids.length c:=by obtain⟨A,c,h,_⟩:=hsl;exact⟨A,c,h⟩
 have hbx:Below w1.heap.size w1 (w1.alloc (.cells #[VT (Q7 nm s).name,.int .i64 (Q7 nm s).len,.int .u32 ((Q7 nm s).print:Int),.slice SA (Q7 nm s).ids.length sc] 40)):=(zb _ _).alloc (zl _) _
 have HB2:=zh (hb1.trans (hbx.mono hb1.size))
 have HN2:=zh (HN.out.below HB2.out)
 have c0:=HN2.out.c0
 have lk:=HLK.out _ HN2.out
 clear hev hsl hb1 hbx
 unfold feV at lk
 rw[hsl0]at lk
 have hz2:=HB2.out.size
 have hb3:Below (w1.alloc (.cells #[VT (Q7 nm s).name,.int .i64 (Q7 nm s).len,.int .u32 ((Q7 nm s).print:Int),.slice SA (Q7 nm s).ids.length sc] 40)).heap.size (w1.alloc (.cells #[VT (Q7 nm s).name,.int .i64 (Q7 nm s).len,.int .u32 ((Q7 nm s).print:Int),.slice SA (Q7 nm s).ids.length sc] 40)) ((w1.alloc (.cells #[VT (Q7 nm s).name,.int .i64 (Q7 nm s).len,.int .u32 ((Q7 nm s).print:Int),.slice SA (Q7 nm s).ids.length sc] 40)).alloc (.cells #[VT fe.r.name,.int .i64 fe.r.len,.int .u32 (fe.r.print:Int),.slice SB fe.r.ids.length sb] 40)):=(zb _ _).alloc (zl _) _
 have HB3:=zh (HB2.out.trans (hb3.mono hz2))
 have s5:((w1.alloc (.cells #[VT (Q7 nm s).name,.int .i64 (Q7 nm s).len,.int .u32 ((Q7 nm s).print:Int),.slice SA (Q7 nm s).ids.length sc] 40)).alloc (.cells #[VT fe.r.name,.int .i64 fe.r.len,.int .u32 (fe.r.print:Int),.slice SB fe.r.ids.length sb] 40)).cell? ⟨2,0,none⟩=some (sval a 5):=(HS.out.below HB3.out) 5 (by simp)
 unfold sval at s5
 clear hb3
 go_wp2
 go_quiet (fail)
 go_wp2
 go_ret2
 exact HBAD.out _ _ (ES.sent a 5 (by decide)) (V3 HB3.out _)
theorem j7s(a:Nat→Addr)(n fm bm:Nat)(F:FL)(B:BL)(hP:NodeOk (Q0 F B))(nm s:Bytes)(hn:X6 nm)(hN:J7 nm=true)(h4:¬ 4000<s.length)(hgf:Q1 F nm=none)(h30:30≤F.length)(w:World)(h:ONode n fm bm F B w)(hs:SomeS [1,3,5,6,9] a w) :
  Calls Tryz.prog 30 #[.pointer (some ⟨n,0,none⟩),.string (bs nm),.string (bs s)] w (j7h a n fm bm F B nm s w):=by
 have hnz:(bs nm).size≤maxLen:=by rw[Q8];exact hn
 have hof:=j7d a (bs nm) (bs s) hnz w (hs.sub (js:= [1,3]) (by decide))
 rw[Q3,Q3]at hof
 rw[show M8 nm s=(0,Q7 nm s)from(if_neg (by rw[hN];decide)).trans (if_neg h4)]at hof
 have HOF:=zh hof
 have LK:=fun w' (h':ONode n fm bm F B w')=>h'.files.look j2f (h.keysF hP) Tryz.underlying78 (j2g w') hn
 rw[hgf]at LK
 simp only[Option.map_none,Option.getD_none,Option.isSome_none]at LK
 have HLK:=zh LK
 have HLN:=zh (fun w' (h':ONode n fm bm F B w')=>h'.files.size Tryz.underlying78 3)
 have hp:=j7m hN h4 (P:=Q0 F B) (by show ¬(Q1 (K7 FE.r F) nm).isSome=true;rw[G9,hgf];decide) (by show 30≤(K7 FE.r F).length;rw[W5];exact h30)
 have HBAD:=zh (fun w' r (hr:ES a r 7) (hb:Below w.heap.size w w')=>j7i h hp hr hb)
 have HN:=zh h
 have HS:=zh hs
 have h30i:(F.length:Int)≥30:=by omega
 clear hof h hs LK hgf hp hP
 go_enter Tryz.func30,Tryz.ntmps30
 go_wp2_with fail
 refine HOF.out.mono ?_
 rintro e w1 ⟨v1,r1,rfl,hev,⟨sl,rfl,hsl⟩,hb1⟩
 obtain⟨rfl,_⟩:=hev.nil rfl
 obtain⟨SA,sc,rfl⟩:∃A c,sl= .slice A (Q7 nm s).ids.length c:=by obtain⟨A,c,h,_⟩:=hsl;exact⟨A,c,h⟩
 have hbx:Below w1.heap.size w1 (w1.alloc (.cells #[VT (Q7 nm s).name,.int .i64 (Q7 nm s).len,.int .u32 ((Q7 nm s).print:Int),.slice SA (Q7 nm s).ids.length sc] 40)):=(zb _ _).alloc (zl _) _
 have HB2:=zh (hb1.trans (hbx.mono hb1.size))
 have HN2:=zh (HN.out.below HB2.out)
 have c0:=HN2.out.c0
 have lk:=HLK.out _ HN2.out
 clear hev hsl hb1 hbx
 have hz2:=HB2.out.size
 have hb3:Below (w1.alloc (.cells #[VT (Q7 nm s).name,.int .i64 (Q7 nm s).len,.int .u32 ((Q7 nm s).print:Int),.slice SA (Q7 nm s).ids.length sc] 40)).heap.size (w1.alloc (.cells #[VT (Q7 nm s).name,.int .i64 (Q7 nm s).len,.int .u32 ((Q7 nm s).print:Int),.slice SA (Q7 nm s).ids.length sc] 40)) ((w1.alloc (.cells #[VT (Q7 nm s).name,.int .i64 (Q7 nm s).len,.int .u32 ((Q7 nm s).print:Int),.slice SA (Q7 nm s).ids.length sc] 40)).alloc (.cells #[.string ByteArray.empty,.int .i64 0,.int .u32 0,.slice none 0 0] 40)):=(zb _ _).alloc (zl _) _
 have HB3:=zh (HB2.out.trans (hb3.mono hz2))
 have HN3:=zh (HN.out.below HB3.out)
 have c0':=HN3.out.c0
 have ln:=HLN.out _ HN3.out
 have s6:((w1.alloc (.cells #[VT (Q7 nm s).name,.int .i64 (Q7 nm s).len,.int .u32 ((Q7 nm s).print:Int),.slice SA (Q7 nm s).ids.length sc] 40)).alloc (.cells #[.string ByteArray.empty,.int .i64 0,.int .u32 0,.slice none 0 0] 40)).cell? ⟨3,0,none⟩=some (sval a 6):=(HS.out.below HB3.out) 6 (by simp)
 unfold sval at s6
 clear hb3
 go_wp2
 go_quiet (fail)
 go_wp2
 go_ret2
 exact HBAD.out _ _ (ES.sent a 6 (by decide)) (V3 HB3.out _)
theorem j7t(a:Nat→Addr)(n fm bm:Nat)(F:FL)(B:BL)(hP:NodeOk (Q0 F B))(nm s:Bytes)(hn:X6 nm)(hN:J7 nm=true)(h4:¬ 4000<s.length)(hgf:Q1 F nm=none)(h30:¬ 30≤F.length)(w:World)(h:ONode n fm bm F B w)(hs:SomeS [1,3,5,6,9] a w) :
  Calls Tryz.prog 30 #[.pointer (some ⟨n,0,none⟩),.string (bs nm),.string (bs s)] w (j7h a n fm bm F B nm s w):=by
 have hnz:(bs nm).size≤maxLen:=by rw[Q8];exact hn
 have hof:=j7d a (bs nm) (bs s) hnz w (hs.sub (js:= [1,3]) (by decide))
 rw[Q3,Q3]at hof
 rw[show M8 nm s=(0,Q7 nm s)from(if_neg (by rw[hN];decide)).trans (if_neg h4)]at hof
 have HOF:=zh hof
 have LK:=fun w' (h':ONode n fm bm F B w')=>h'.files.look j2f (h.keysF hP) Tryz.underlying78 (j2g w') hn
 rw[hgf]at LK
 simp only[Option.map_none,Option.getD_none,Option.isSome_none]at LK
 have HLK:=zh LK
 have HLN:=zh (fun w' (h':ONode n fm bm F B w')=>h'.files.size Tryz.underlying78 3)
 have hpm:=fun L f c hp=>j7n (nm:=nm) (s:=s) (P:=Q0 F B) hN h4 (by show ¬(Q1 (K7 FE.r F) nm).isSome=true;rw[G9,hgf];decide) (by show ¬ 30≤(K7 FE.r F).length;rw[W5];exact h30) (L:=L) (f:=f) (c:=c) hp
 have HXO':=z6z s
 have hrid:Z8 (Q7 nm s).ids=Z8 (V8 s):=rfl
 have hidl:(Q7 nm s).ids.length≤250:=z6x (by omega)
 have HPL:Hid (∀p∈pieces s,p.length≤64):=zh (fun p hp=>W9 s p hp)
 have hpl:(pieces s).length≤250:=by have:=z6x (s:=s) (by omega);unfold V8 at this;rw[List.length_map]at this;exact this
 have LKB0:=fun w' (h':ONode n fm bm F B w')=>h'.bins.at idRd (h.keysB hP) Tryz.underlying79 (j2h w') HXO'.1
 generalize hX:Z8 (V8 s)=X at *
 have HXO:=zh HXO'
 have HPM:=zh hpm
 have HN:=zh h
 have HS:=zh hs
 have HP:=zh hP
 have HNM:=zh hn
 have HLB0:=zh LKB0
 have HRID:=zh hrid
 have h30i:¬(F.length:Int)≥30:=by omega
 clear hof h hs LK hP hpm hX hrid LKB0 HXO'
 go_enter Tryz.func30,Tryz.ntmps30
 go_wp2_with fail
 refine HOF.out.mono ?_
 rintro e w1 ⟨v1,r1,rfl,hev,⟨sl,rfl,hsl⟩,hb1⟩
 obtain⟨rfl,_⟩:=hev.nil rfl
 obtain⟨SA,sc,rfl⟩:∃A c,sl= .slice A (Q7 nm s).ids.length c:=by obtain⟨A,c,h,_⟩:=hsl;exact⟨A,c,h⟩
 have hbx:Below w1.heap.size w1 (w1.alloc (.cells #[VT (Q7 nm s).name,.int .i64 (Q7 nm s).len,.int .u32 ((Q7 nm s).print:Int),.slice SA (Q7 nm s).ids.length sc] 40)):=(zb _ _).alloc (zl _) _
 have hbz:Below w1.heap.size w1 ((w1.alloc (.cells #[VT (Q7 nm s).name,.int .i64 (Q7 nm s).len,.int .u32 ((Q7 nm s).print:Int),.slice SA (Q7 nm s).ids.length sc] 40)).alloc (.cells #[.string ByteArray.empty,.int .i64 0,.int .u32 0,.slice none 0 0] 40)):=hbx.alloc hbx.size _
 have HB2:=zh (hb1.trans (hbx.mono hb1.size))
 have HB3:=zh (hb1.trans (hbz.mono hb1.size))
 have HN2:=zh (HN.out.below HB2.out)
 have HN3:=zh (HN.out.below HB3.out)
 have HX3:=zh ((Box4.mk' w1 (VT (Q7 nm s).name) (.int .i64 (Q7 nm s).len) (.int .u32 ((Q7 nm s).print:Int)) (.slice SA (Q7 nm s).ids.length sc) 40).below ((zb (w1.alloc (.cells #[VT (Q7 nm s).name,.int .i64 (Q7 nm s).len,.int .u32 ((Q7 nm s).print:Int),.slice SA (Q7 nm s).ids.length sc] 40)).heap.size (w1.alloc (.cells #[VT (Q7 nm s).name,.int .i64 (Q7 nm s).len,.int .u32 ((Q7 nm s).print:Int),.slice SA (Q7 nm s).ids.length sc] 40))).alloc (zl _) (.cells #[.string ByteArray.empty,.int .i64 0,.int .u32 0,.slice none 0 0] 40)) (by simp))
 have HR3:=zh (hsl.below hbz (zl _))
 have hz13:=hbz.size
 have c0:=HN2.out.c0
 have lk:=HLK.out _ HN2.out
 have c0':=HN3.out.c0
 have ln:=HLN.out _ HN3.out
 have hw1:=hb1.size
 obtain⟨e0,e1,e2,e3,_⟩:=HX3.out
 have HREP:=zh (W0 (.agg #[VT (Q7 nm s).name,.int .i64 (Q7 nm s).len,.int .u32 ((Q7 nm s).print:Int),.slice SA (Q7 nm s).ids.length sc]) (Q7 nm s) (by omega) ((w1.alloc (.cells #[VT (Q7 nm s).name,.int .i64 (Q7 nm s).len,.int .u32 ((Q7 nm s).print:Int),.slice SA (Q7 nm s).ids.length sc] 40)).alloc (.cells #[.string ByteArray.empty,.int .i64 0,.int .u32 0,.slice none 0 0] 40)) ⟨_,rfl,HR3.out.rd.more hz13⟩)
 rw[HRID.out]at HREP
 clear hev hsl hb1 hbx hbz
 go_wp2_with fail
 refine HREP.out.mono ?_
 rintro e w4 ⟨rfl,hb4⟩
 have hz4:=hb4.size
 have HX4:=zh (HX3.out.below hb4 HX3.out.lt)
 have HB4:=zh (HB3.out.trans (hb4.mono HB3.out.size))
 have HR4:=zh (HR3.out.below hb4 hz13)
 have hw14:w1.heap.size<w4.heap.size:=HX4.out.lt
 have hb5:Below w4.heap.size w4 (w4.alloc (.cells #[.int .u32 (X.1:Int),.int .i64 X.2] 25)):=(zb _ _).alloc (zl _) _
 have HX5:=zh (HX4.out.below hb5 HX4.out.lt)
 have HB5:=zh (HB4.out.trans (hb5.mono HB4.out.size))
 have HR5:=zh (HR4.out.below hb5 (Nat.le_of_lt hw14))
 have HY5:=zh (Box2.mk' w4 (.int .u32 (X.1:Int)) (.int .i64 X.2) 25)
 have HZ5:Hid ((w4.alloc (.cells #[.int .u32 (X.1:Int),.int .i64 X.2] 25)).heap.size=w4.heap.size+1):=zh (by simp)
 clear hb4 hb5 e0 e1 e2 e3 c0 lk c0' ln hz13 hz4 HX3 HB3 HR3 HN2 HN3 HX4 HB4 HR4 HREP
 go_wp2_with fail
 refine(z9o _).mono ?_
 rintro e w6 ⟨b0,mb0,rfl,ho0,hb0,hmb0,hb6⟩
 rw[HZ5.out]at hb0 hmb0
 have hz5:=HZ5.out
 have HX6:=zh (HX5.out.below hb6 HX5.out.lt)
 have HY6:=zh (HY5.out.below hb6 HY5.out.lt)
 have HB6:=zh (HB5.out.trans (hb6.mono HB5.out.size))
 have HN6:=zh (HN.out.below HB6.out)
 have HR6:=zh (HR5.out.below hb6 (by omega))
 have HO6:=zh ho0
 have hz6:w4.heap.size+1≤w6.heap.size:=by have:=hb6.size;omega
 clear ho0 hb6 HX5 HY5 HB5 HR5 hz5 HZ5
 cases hgb:Q1 B X with
 | none=>
  have hpk:binN (Q0 F B) X= []:=by
   show(Q1 (K7 BE.L B) X).getD []= []
   rw[G9,hgb];rfl
  have hlb:=HLB0.out
  rw[hgb]at hlb
  simp only[Option.map_none,Option.getD_none]at hlb
  have HLB:=zh hlb
  clear hlb HLB0
  go_wp2
  have hS0:Below w6.heap.size w6 w6.drew:=(zb _ _).drew
  refine kR (fun w'=>Below w6.heap.size w6 w') 6 ?_
  refine kT 0 hS0 ?_
  refine kT 1 hS0 ?_
  refine kT 2 hS0 ?_
  refine kS 3 rfl hS0 (fun w' hS=>by have A0:=(HN6.out.below hS).c1;go_simp;rfl) ?_
  refine kS 4 rfl hS0 (fun w' hS=>by have A0:=(HY6.out.below hS HY6.out.lt).c0;have A1:=(HY6.out.below hS HY6.out.lt).c1;go_simp;rfl) ?_
  refine kS 5 rfl hS0 (fun w' hS=>by have A0:=HLB.out w' (HN6.out.below hS);go_simp;rfl) (kF ?_)
  try simp only[Act.put,zM]
  simp only[List.drop_succ_cons,List.drop_zero]
  have HXv:=zh (HX6.out.below hS0 HX6.out.lt)
  have HYv:=zh (HY6.out.below hS0 HY6.out.lt)
  have HBv:=zh (HB6.out.trans (hS0.mono HB6.out.size))
  have HRv:=zh (HR6.out.below hS0 (by omega))
  have HOv:=zh (HO6.out.below hS0)
  have hzv:w6.heap.size≤w6.drew.heap.size:=hS0.size
  generalize w6.drew=wv at *
  have HNE:Hid (w1.heap.size≠mb0∧w4.heap.size≠mb0∧w.heap.size≤b0∧w.heap.size≤mb0∧w1.heap.size≤mb0∧w1.heap.size≤wv.heap.size∧True∧w1.heap.size≤wv.heap.size):=zh ⟨by omega,by omega,by omega,by omega,by omega,by omega,trivial,by omega⟩
  clear hS0 HX6 HY6 HB6 HN6 HR6 HO6 hb0 hmb0 hgb HLB
  go_wp2_with fail
  have HPK:=zh (hpk:binN (Q0 F B) X=([]:HldL))
  have HBK0:Hid (BinOk 7500 ([]:HldL)∧([]:HldL).length≤250):=zh (by rw[←hpk];exact⟨(HP.out.theBin X).1,(HP.out.theBin X).2.1⟩)
  clear hpk
  refine(q6l (bs s) (by rw[Q8];omega) wv).mono ?_
  rintro e w7 ⟨v7,rfl,ho7,hb7⟩
  rw[Q3]at ho7
  have HX7:=zh (HXv.out.below hb7 HXv.out.lt)
  have HY7:=zh (HYv.out.below hb7 HYv.out.lt)
  have HB7:=zh (HBv.out.trans (hb7.mono HBv.out.size))
  have HR7:=zh (HRv.out.below hb7 HNE.out.2.2.2.2.2.1)
  have HO7:=zh (HOv.out.below hb7)
  obtain⟨A7,c7,rfl,hc7,hrd7⟩:=V7 ho7
  have HRD7:=zh hrd7
  have HML:=zh HOv.out.map.lt
  generalize hps:pieces s=ps at *
  clear hrd7 hb7 ho7 HXv HYv HBv HRv HOv hps
  go_wp2
  go_loopg [15,66] ps.length (fun gh v15 v66 wr=>∃(k:Nat) (Lk:HldL) (f:Int),v15= .int .i64 f∧v66= .int .i64 k∧k≤ps.length∧gh=ps.length-k∧Hid (K4 (ps.drop k) Lk f=K4 ps ([]:HldL) 0)∧Hid (BinOk (7500+k) Lk∧Lk.length≤250)∧0≤f∧f≤64*(k:Int)∧Hid (OBin b0 mb0 Lk wr)∧Hid (w7.grownBy wr (some mb0)))
  case atStart=>exact⟨0,([]:HldL),0,rfl,rfl,Nat.zero_le _,rfl,zh (by rw[List.drop_zero]),zh ⟨by simpa using HBK0.out.1,HBK0.out.2⟩,Int.le_refl _,by omega,HO7,zh ⟨rfl,rfl,rfl,zl _,fun _ _ _=>rfl⟩⟩
  case round=>
   obtain⟨k,Lk,f,rfl,rfl,hk,hgm,HPA,HBK,hf0,hf1,HOK,HGB⟩:=hrel
   have HBr:Hid (Below w.heap.size w wr):=zh (C4 HB7.out HB7.out.size HNE.out.2.2.2.1 HGB.out)
   by_cases hkl:k<ps.length
   ·obtain⟨g,rfl,hg1,hg2,hcell⟩:=HRD7.out (by omega)
    have hgne:some g≠some mb0:=by intro e;injection e with e;have:=HML.out;omega
    have hd0:w7.cell? ⟨g,k,none⟩=some (.string (bs ps[k])):=hcell k _ (by simp[hkl])
    have d1:wr.cell? ⟨g,k,none⟩=some (.string (bs ps[k])):=(HGB.out.cell_far ⟨g,k,none⟩ hg2 hgne).trans hd0
    have b1:(0:Int)≤(k:Int):=by omega
    have b2:(k:Int)<(ps.length:Int):=by omega
    have hp64:=HPL.out ps[k] (List.getElem_mem hkl)
    have HPUT:=zh (j0u a b0 mb0 Lk (7500+k) (by omega) HBK.out.1 (by have:=HBK.out.2;omega) ps[k] (by omega) wr HOK.out ((HS.out.below HBr.out).sub (js:= [1,6,9]) (by decide)))
    unfold j0r at HPUT
    have hpa:=HPA.out
    rw[List.drop_eq_getElem_cons hkl]at hpa
    generalize ps[k]=p at *
    cases hpb:putB p Lk with|mk L' tl=>
    obtain⟨x',q',c'⟩:=tl
    rw[j7o hpb]at hpa
    rw[hpb]at HPUT
    simp only at HPUT
    have HPA':=zh hpa
    have HNX:=zh (fun(h:c'=0)=>j7p (n:=7500+k) (by omega) HBK.out.1 HBK.out.2 (by rw[hpb,h]:putB p Lk=(L',x',q',0)))
    clear hcell hd0 hpa hpb HPA
    go_wp2_with fail
    refine HPUT.out.mono ?_
    rintro e w8 ⟨r8,rfl,hes,ho8,hg8⟩
    have hba:Below w8.heap.size w8 (w8.alloc (.cells #[.int .u32 (x'.1:Int),.int .i64 x'.2] 25)):=(zb _ _).alloc (zl _) _
    have HO8:=zh (ho8.below hba)
    have HG8:=zh (z8u (HGB.out.trans hg8) hba)
    have HES:=zh hes
    clear ho8 hg8 hba HPUT d1
    by_cases hc:c'=0
    ·subst hc
     obtain⟨rfl,_⟩:=HES.out.nil rfl
     have HBN:=zh (HNX.out rfl)
     rw[if_pos rfl]at HPA'
     have hkn:(7500:Int)+(k:Int)+1=7500+((k+1:Nat):Int):=by omega
     rw[hkn]at HBN
     clear hes HNX hkn
     cases q' with
     | true=>
      rw[if_pos rfl]at HPA'
      have hpz:(0:Int)≤((bs p).size:Int)∧((bs p).size:Int)≤64:=by rw[Q8];omega
      obtain⟨hpz0,hpz1⟩:=hpz
      go_wp2
      go_roundg (ps.length-(k+1))
      case measure=>omega
      case rel=>exact⟨k+1,L',f+(p.length:Int),by rw[Q8],by go_num,hkl,rfl,HPA',HBN,by omega,by omega,HO8,HG8⟩
     | false=>
      rw[if_neg (by decide),Int.add_zero]at HPA'
      go_wp2
      go_roundg (ps.length-(k+1))
      case measure=>omega
      case rel=>exact⟨k+1,L',f,rfl,by go_num,hkl,rfl,HPA',HBN,hf0,by omega,HO8,HG8⟩
    ·rw[if_neg hc]at HPA'
     obtain⟨ty,pv,rfl⟩:=HES.out.some hc
     have HBAD:=zh (fun w' (hb:Below w.heap.size w w')=>j7i HN.out (by have:=HPM.out L' 0 c' (by rw[HPK.out];exact HPA'.out.symm);rw[if_neg hc]at this;exact this) HES.out hb)
     clear hes hc HNX
     go_wp2
     go_ret2
     exact HBAD.out _ (C4 HB7.out HB7.out.size HNE.out.2.2.2.1 HG8.out)
   ·obtain rfl:k=ps.length:=by omega
    have hpa:K4 ps ([]:HldL) 0=(Lk,f,0):=by rw[←HPA.out,List.drop_length];rfl
    have hpn:=HPM.out Lk f 0 (by rw[HPK.out];exact hpa)
    rw[if_pos rfl]at hpn
    have HPN:=zh hpn
    have hnr:=HN.out.below HBr.out
    have c0:=hnr.c0
    have c1:=hnr.c1
    obtain⟨e0,e1,e2,e3,_⟩:=z8z HGB.out (by intro e;injection e with e;exact HNE.out.1 e) HX7.out
    obtain⟨y0,y1,_,_⟩:=z8y HGB.out HNE.out.2.1 HY7.out
    have hrr:RdB wr w.heap.size w1.heap.size (.slice SA (Q7 nm s).ids.length sc) (Q7 nm s).ids:=HR7.out.keep (fun q h1 h2=>HGB.out.cell_far q (Nat.lt_trans h2 HX7.out.lt) (by intro e;injection e with e;have:=HNE.out.2.2.2.2.1;omega)) (zl _) (zl _)
    have hnd:ONode n fm bm F B wr.drew:=hnr.below (zb _ _).drew
    have hsF:=ONode.srtF HP.out
    have hsB:=ONode.srtB HP.out
    obtain⟨v0,st,wa,wb,h1,h2,h3,h4',h5,h6,h7⟩:=AlMap.entry j2f j2k hnd.files hsF (hnd.keysF HP.out) Tryz.underlying78 j2g (by unfold maxLen;omega) nm ⟨Q7 nm s,.slice SA (Q7 nm s).ids.length sc⟩ HNM.out
    have hwz:wr.heap.size≤wb.heap.size:=by rw[h7];exact zl _
    have hA:ONode n fm bm (Q9 bytesBefore nm ⟨Q7 nm s,.slice SA (Q7 nm s).ids.length sc⟩ F) B wb:=hnd.setF h6 h5 h4' (fun q hq=>by
     rcases V9 hq with rfl|hq
     ·exact .inr (((hrr.rd).stay h5).more (Nat.le_trans (Nat.le_of_lt HX7.out.lt) (Nat.le_trans HGB.out.size hwz)))
     ·exact .inl hq)
    obtain⟨v1,st2,wc,wd,k1,k2,k3,k4,k5,k6,k7⟩:=AlMap.entry idRd klId hA.bins hsB (hnd.keysB HP.out) Tryz.underlying79 j2h (by have:=HP.out.blenF;unfold maxLen;omega) X ⟨Lk,b0,mb0⟩ HXO.out
    have hOb:OBin b0 mb0 Lk wb:=by
     have hor:=HOK.out.below (zb wr.heap.size wr).drew
     have hfm:fm<w.heap.size:=HN.out.files.blt
     exact hor.grown h6 (by intro e;injection e with e;have:=HNE.out.2.2.1;omega) (by intro e;injection e with e;have:=HNE.out.2.2.2.1;omega)
    have hnew:mb0∉B.map (fun q=>q.2.mb):=fun hm=>by
     obtain⟨q,hq,e⟩:=List.mem_map.1 hm
     have:=(HN.out.bin q hq).map.lt
     have:=HNE.out.2.2.2.1
     omega
    have hnd0:=HN.out.nd
    rw[List.nodup_cons,List.nodup_cons]at hnd0
    have hND:(fm::bm::(Q9 Q2 X ⟨Lk,b0,mb0⟩ B).map (fun q=>q.2.mb)).Nodup:=by
     have hfm:fm<w.heap.size:=HN.out.files.blt
     have hbm:bm<w.heap.size:=HN.out.bins.blt
     have hmb:=HNE.out.2.2.2.1
     rw[List.nodup_cons,List.nodup_cons]
     refine⟨fun hm=> ?_,fun hm=> ?_,j3j (fun q:BE=>q.mb) hnd0.2.2 hnew⟩
     ·rcases List.mem_cons.1 hm with e|hm
      ·exact hnd0.1 (List.mem_cons.2 (.inl e))
      ·rcases C2 (fun q:BE=>q.mb) hm with e|e
       ·simp only at e;omega
       ·exact hnd0.1 (List.mem_cons_of_mem _ e)
     ·rcases C2 (fun q:BE=>q.mb) hm with e|e
      ·simp only at e;omega
      ·exact hnd0.2.1 e
    have hD:ONode n fm bm (Q9 bytesBefore nm ⟨Q7 nm s,.slice SA (Q7 nm s).ids.length sc⟩ F) (Q9 Q2 X ⟨Lk,b0,mb0⟩ B) wd:=hA.setB k6 k5 k4 (fun q hq=>by
     rcases V9 hq with rfl|hq
     ·have hbb:bm<w.heap.size:=HN.out.bins.blt
      exact .inr (hOb.grown k6 (by intro e;injection e with e;have:=HNE.out.2.2.1;omega) (by intro e;injection e with e;have:=HNE.out.2.2.2.1;omega))
     ·exact .inl hq) hND
    have HFIN:Hid (j7h a n fm bm F B nm s w (.returned (.tuple #[.int .i64 f,.nilIface])) wd):=zh (by
     refine⟨.nilIface,J5 n fm bm (Q9 bytesBefore nm ⟨Q7 nm s,.slice SA (Q7 nm s).ids.length sc⟩ F) (Q9 Q2 X ⟨Lk,b0,mb0⟩ B),by rw[HPN.out],by rw[HPN.out];exact ES.none a,?_,?_,j3l (fe:=⟨Q7 nm s,.slice SA (Q7 nm s).ids.length sc⟩) (be:=⟨Lk,b0,mb0⟩) hrr.above HNE.out.2.2.1 HNE.out.2.2.2.1⟩
     ·rw[HPN.out]
      have:=hD.node
      unfold Q0 at this ⊢
      rw[z5d,z5d]at this
      exact this
     ·exact((FrS.of_below (S:=(J5 n fm bm F B).S) HBr.out).trans (FrS.of_below (S:=(J5 n fm bm F B).S) ((zb wr.heap.size wr).drew)) (fun _ h=> .inl h)).trans ((FrS.of_gb (S:=(J5 n fm bm F B).S) h6 (.inl rfl)).trans (FrS.of_gb (S:=(J5 n fm bm F B).S) k6 (.inr (.inl rfl))) (fun _ h=> .inl h)) (fun _ h=> .inl h))
    have hS1:Stay wr wa:=h2
    have hS2:Stay wr wb:=h5
    have hS3:Stay wr wc:=hS2.trans k2
    unfold feV at h3
    unfold beV at k3
    have hgi:∀z:Int,goInt z= .int .i64 z:=fun _=>rfl
    rw[hgi]at h1 h3 k1 k3
    clear hgi
    clear hpa hpn hnr hrr hnd hsF hsB h4' h5 h6 h7 hwz hA k4 k5 k6 k7 hOb hnew hnd0 hND hD h2 k2
    go_wp2
    have hS0:Stay wr wr.drew:=Stay.refl _
    refine kR (fun w'=>Stay wr w') 17 ?_
    refine kT 0 hS0 ?_
    refine kT 1 hS0 ?_
    refine kT 2 hS0 ?_
    refine kS 3 rfl hS0 (fun w' hS=>by have A0:=hS _ _ c0;go_simp;rfl) ?_
    refine kT 4 hS0 ?_
    refine kT 5 hS0 ?_
    refine kT 6 hS0 ?_
    refine kT 7 hS0 ?_
    refine kS 8 rfl hS0 (fun w' hS=>by have A0:=hS _ _ c1;go_simp;rfl) ?_
    refine kS 9 rfl hS0 (fun w' hS=>by have A0:=hS _ _ y0;have A1:=hS _ _ y1;go_simp;rfl) ?_
    refine kS 10 rfl hS0 (fun w' hS=>by have A0:=hS _ _ e0;have A1:=hS _ _ e1;have A2:=hS _ _ e2;have A3:=hS _ _ e3;go_simp;rfl) ?_
    refine kT 11 hS0 ?_
    refine kC 12 (fun K hK=> ?_)
    go_simp
    refine hK _ _ hS1 ?_
    clear hK K
    try simp only[Act.put,zM]
    refine kS 13 (v:= .int .i64 (st:Int)) rfl hS1 (fun w' hS=>by go_simp) ?_
    refine kC 14 (fun K hK=> ?_)
    go_simp
    refine hK _ _ hS2 ?_
    clear hK K
    try simp only[Act.put,zM]
    refine kC 15 (fun K hK=> ?_)
    go_simp
    refine hK _ _ hS3 ?_
    clear hK K
    try simp only[Act.put,zM]
    refine kS 16 (v:= .int .i64 (st2:Int)) rfl hS3 (fun w' hS=>by go_simp) (kF ?_)
    try simp only[Act.put,zM]
    simp only[List.drop_succ_cons,List.drop_zero]
    go_wp2
    go_ret2
    exact HFIN.out
 | some be=>
  have hpk:binN (Q0 F B) X=be.L:=by
   show(Q1 (K7 BE.L B) X).getD []=_
   rw[G9,hgb];rfl
  have hlb:=HLB0.out
  rw[hgb]at hlb
  simp only[Option.map_some,Option.getD_some]at hlb
  unfold beV at hlb
  have HLB:=zh hlb
  have HOB:=zh (HN6.out.bin (X,be) (Y4 hgb))
  simp only at HOB
  clear hlb HLB0 hgb hb0 hmb0 HO6
  go_wp2
  have hS0:Below w6.heap.size w6 w6.drew:=(zb _ _).drew
  refine kR (fun w'=>Below w6.heap.size w6 w') 6 ?_
  refine kT 0 hS0 ?_
  refine kT 1 hS0 ?_
  refine kT 2 hS0 ?_
  refine kS 3 rfl hS0 (fun w' hS=>by have A0:=(HN6.out.below hS).c1;go_simp;rfl) ?_
  refine kS 4 rfl hS0 (fun w' hS=>by have A0:=(HY6.out.below hS HY6.out.lt).c0;have A1:=(HY6.out.below hS HY6.out.lt).c1;go_simp;rfl) ?_
  refine kS 5 rfl hS0 (fun w' hS=>by have A0:=HLB.out w' (HN6.out.below hS);go_simp;rfl) (kF ?_)
  try simp only[Act.put,zM]
  simp only[List.drop_succ_cons,List.drop_zero]
  have HOB':=zh (HOB.out.below hS0)
  have HXu:=zh (HX6.out.below hS0 HX6.out.lt)
  have HYu:=zh (HY6.out.below hS0 HY6.out.lt)
  have HBu:=zh (HB6.out.trans (hS0.mono HB6.out.size))
  have HRu:=zh (HR6.out.below hS0 (by omega))
  have hzu:w6.heap.size≤w6.drew.heap.size:=hS0.size
  generalize w6.drew=wu at *
  clear hS0 HX6 HY6 HB6 HN6 HR6 HLB HOB
  go_wp2_with fail
  refine(j1r be.b be.mb be.L wu HOB'.out).mono ?_
  rintro e wv ⟨b0',mb0',rfl,hov,hbv,hmbv,hbuv⟩
  have HXv:=zh (HXu.out.below hbuv HXu.out.lt)
  have HYv:=zh (HYu.out.below hbuv HYu.out.lt)
  have HBv:=zh (HBu.out.trans (hbuv.mono HBu.out.size))
  have HRv:=zh (HRu.out.below hbuv (by omega))
  have HOv:=zh hov
  have hzv:=hbuv.size
  have HNE:Hid (w1.heap.size≠mb0'∧w4.heap.size≠mb0'∧w.heap.size≤b0'∧w.heap.size≤mb0'∧w1.heap.size≤mb0'∧w1.heap.size≤wv.heap.size∧True∧w1.heap.size≤wv.heap.size):=zh ⟨by omega,by omega,by omega,by omega,by omega,by omega,trivial,by omega⟩
  clear hov hbv hmbv hbuv HXu HYu HBu HRu HOB'
  go_wp2_with fail
  have HPK:=zh (hpk:binN (Q0 F B) X=be.L)
  have HBK0:Hid (BinOk 7500 be.L∧be.L.length≤250):=zh (by rw[←hpk];exact⟨(HP.out.theBin X).1,(HP.out.theBin X).2.1⟩)
  clear hpk
  refine(q6l (bs s) (by rw[Q8];omega) wv).mono ?_
  rintro e w7 ⟨v7,rfl,ho7,hb7⟩
  rw[Q3]at ho7
  have HX7:=zh (HXv.out.below hb7 HXv.out.lt)
  have HY7:=zh (HYv.out.below hb7 HYv.out.lt)
  have HB7:=zh (HBv.out.trans (hb7.mono HBv.out.size))
  have HR7:=zh (HRv.out.below hb7 HNE.out.2.2.2.2.2.1)
  have HO7:=zh (HOv.out.below hb7)
  obtain⟨A7,c7,rfl,hc7,hrd7⟩:=V7 ho7
  have HRD7:=zh hrd7
  have HML:=zh HOv.out.map.lt
  generalize hps:pieces s=ps at *
  clear hrd7 hb7 ho7 HXv HYv HBv HRv HOv hps
  go_wp2
  go_loopg [15,66] ps.length (fun gh v15 v66 wr=>∃(k:Nat) (Lk:HldL) (f:Int),v15= .int .i64 f∧v66= .int .i64 k∧k≤ps.length∧gh=ps.length-k∧Hid (K4 (ps.drop k) Lk f=K4 ps be.L 0)∧Hid (BinOk (7500+k) Lk∧Lk.length≤250)∧0≤f∧f≤64*(k:Int)∧Hid (OBin b0' mb0' Lk wr)∧Hid (w7.grownBy wr (some mb0')))
  case atStart=>exact⟨0,be.L,0,rfl,rfl,Nat.zero_le _,rfl,zh (by rw[List.drop_zero]),zh ⟨by simpa using HBK0.out.1,HBK0.out.2⟩,Int.le_refl _,by omega,HO7,zh ⟨rfl,rfl,rfl,zl _,fun _ _ _=>rfl⟩⟩
  case round=>
   obtain⟨k,Lk,f,rfl,rfl,hk,hgm,HPA,HBK,hf0,hf1,HOK,HGB⟩:=hrel
   have HBr:Hid (Below w.heap.size w wr):=zh (C4 HB7.out HB7.out.size HNE.out.2.2.2.1 HGB.out)
   by_cases hkl:k<ps.length
   ·obtain⟨g,rfl,hg1,hg2,hcell⟩:=HRD7.out (by omega)
    have hgne:some g≠some mb0':=by intro e;injection e with e;have:=HML.out;omega
    have hd0:w7.cell? ⟨g,k,none⟩=some (.string (bs ps[k])):=hcell k _ (by simp[hkl])
    have d1:wr.cell? ⟨g,k,none⟩=some (.string (bs ps[k])):=(HGB.out.cell_far ⟨g,k,none⟩ hg2 hgne).trans hd0
    have b1:(0:Int)≤(k:Int):=by omega
    have b2:(k:Int)<(ps.length:Int):=by omega
    have hp64:=HPL.out ps[k] (List.getElem_mem hkl)
    have HPUT:=zh (j0u a b0' mb0' Lk (7500+k) (by omega) HBK.out.1 (by have:=HBK.out.2;omega) ps[k] (by omega) wr HOK.out ((HS.out.below HBr.out).sub (js:= [1,6,9]) (by decide)))
    unfold j0r at HPUT
    have hpa:=HPA.out
    rw[List.drop_eq_getElem_cons hkl]at hpa
    generalize ps[k]=p at *
    cases hpb:putB p Lk with|mk L' tl=>
    obtain⟨x',q',c'⟩:=tl
    rw[j7o hpb]at hpa
    rw[hpb]at HPUT
    simp only at HPUT
    have HPA':=zh hpa
    have HNX:=zh (fun(h:c'=0)=>j7p (n:=7500+k) (by omega) HBK.out.1 HBK.out.2 (by rw[hpb,h]:putB p Lk=(L',x',q',0)))
    clear hcell hd0 hpa hpb HPA
    go_wp2_with fail
    refine HPUT.out.mono ?_
    rintro e w8 ⟨r8,rfl,hes,ho8,hg8⟩
    have hba:Below w8.heap.size w8 (w8.alloc (.cells #[.int .u32 (x'.1:Int),.int .i64 x'.2] 25)):=(zb _ _).alloc (zl _) _
    have HO8:=zh (ho8.below hba)
    have HG8:=zh (z8u (HGB.out.trans hg8) hba)
    have HES:=zh hes
    clear ho8 hg8 hba HPUT d1
    by_cases hc:c'=0
    ·subst hc
     obtain⟨rfl,_⟩:=HES.out.nil rfl
     have HBN:=zh (HNX.out rfl)
     rw[if_pos rfl]at HPA'
     have hkn:(7500:Int)+(k:Int)+1=7500+((k+1:Nat):Int):=by omega
     rw[hkn]at HBN
     clear hes HNX hkn
     cases q' with
     | true=>
      rw[if_pos rfl]at HPA'
      have hpz:(0:Int)≤((bs p).size:Int)∧((bs p).size:Int)≤64:=by rw[Q8];omega
      obtain⟨hpz0,hpz1⟩:=hpz
      go_wp2
      go_roundg (ps.length-(k+1))
      case measure=>omega
      case rel=>exact⟨k+1,L',f+(p.length:Int),by rw[Q8],by go_num,hkl,rfl,HPA',HBN,by omega,by omega,HO8,HG8⟩
     | false=>
      rw[if_neg (by decide),Int.add_zero]at HPA'
      go_wp2
      go_roundg (ps.length-(k+1))
      case measure=>omega
      case rel=>exact⟨k+1,L',f,rfl,by go_num,hkl,rfl,HPA',HBN,hf0,by omega,HO8,HG8⟩
    ·rw[if_neg hc]at HPA'
     obtain⟨ty,pv,rfl⟩:=HES.out.some hc
     have HBAD:=zh (fun w' (hb:Below w.heap.size w w')=>j7i HN.out (by have:=HPM.out L' 0 c' (by rw[HPK.out];exact HPA'.out.symm);rw[if_neg hc]at this;exact this) HES.out hb)
     clear hes hc HNX
     go_wp2
     go_ret2
     exact HBAD.out _ (C4 HB7.out HB7.out.size HNE.out.2.2.2.1 HG8.out)
   ·obtain rfl:k=ps.length:=by omega
    have hpa:K4 ps be.L 0=(Lk,f,0):=by rw[←HPA.out,List.drop_length];rfl
    have hpn:=HPM.out Lk f 0 (by rw[HPK.out];exact hpa)
    rw[if_pos rfl]at hpn
    have HPN:=zh hpn
    have hnr:=HN.out.below HBr.out
    have c0:=hnr.c0
    have c1:=hnr.c1
    obtain⟨e0,e1,e2,e3,_⟩:=z8z HGB.out (by intro e;injection e with e;exact HNE.out.1 e) HX7.out
    obtain⟨y0,y1,_,_⟩:=z8y HGB.out HNE.out.2.1 HY7.out
    have hrr:RdB wr w.heap.size w1.heap.size (.slice SA (Q7 nm s).ids.length sc) (Q7 nm s).ids:=HR7.out.keep (fun q h1 h2=>HGB.out.cell_far q (Nat.lt_trans h2 HX7.out.lt) (by intro e;injection e with e;have:=HNE.out.2.2.2.2.1;omega)) (zl _) (zl _)
    have hnd:ONode n fm bm F B wr.drew:=hnr.below (zb _ _).drew
    have hsF:=ONode.srtF HP.out
    have hsB:=ONode.srtB HP.out
    obtain⟨v0,st,wa,wb,h1,h2,h3,h4',h5,h6,h7⟩:=AlMap.entry j2f j2k hnd.files hsF (hnd.keysF HP.out) Tryz.underlying78 j2g (by unfold maxLen;omega) nm ⟨Q7 nm s,.slice SA (Q7 nm s).ids.length sc⟩ HNM.out
    have hwz:wr.heap.size≤wb.heap.size:=by rw[h7];exact zl _
    have hA:ONode n fm bm (Q9 bytesBefore nm ⟨Q7 nm s,.slice SA (Q7 nm s).ids.length sc⟩ F) B wb:=hnd.setF h6 h5 h4' (fun q hq=>by
     rcases V9 hq with rfl|hq
     ·exact .inr (((hrr.rd).stay h5).more (Nat.le_trans (Nat.le_of_lt HX7.out.lt) (Nat.le_trans HGB.out.size hwz)))
     ·exact .inl hq)
    obtain⟨v1,st2,wc,wd,k1,k2,k3,k4,k5,k6,k7⟩:=AlMap.entry idRd klId hA.bins hsB (hnd.keysB HP.out) Tryz.underlying79 j2h (by have:=HP.out.blenF;unfold maxLen;omega) X ⟨Lk,b0',mb0'⟩ HXO.out
    have hOb:OBin b0' mb0' Lk wb:=by
     have hor:=HOK.out.below (zb wr.heap.size wr).drew
     have hfm:fm<w.heap.size:=HN.out.files.blt
     exact hor.grown h6 (by intro e;injection e with e;have:=HNE.out.2.2.1;omega) (by intro e;injection e with e;have:=HNE.out.2.2.2.1;omega)
    have hnew:mb0'∉B.map (fun q=>q.2.mb):=fun hm=>by
     obtain⟨q,hq,e⟩:=List.mem_map.1 hm
     have:=(HN.out.bin q hq).map.lt
     have:=HNE.out.2.2.2.1
     omega
    have hnd0:=HN.out.nd
    rw[List.nodup_cons,List.nodup_cons]at hnd0
    have hND:(fm::bm::(Q9 Q2 X ⟨Lk,b0',mb0'⟩ B).map (fun q=>q.2.mb)).Nodup:=by
     have hfm:fm<w.heap.size:=HN.out.files.blt
     have hbm:bm<w.heap.size:=HN.out.bins.blt
     have hmb:=HNE.out.2.2.2.1
     rw[List.nodup_cons,List.nodup_cons]
     refine⟨fun hm=> ?_,fun hm=> ?_,j3j (fun q:BE=>q.mb) hnd0.2.2 hnew⟩
     ·rcases List.mem_cons.1 hm with e|hm
      ·exact hnd0.1 (List.mem_cons.2 (.inl e))
      ·rcases C2 (fun q:BE=>q.mb) hm with e|e
       ·simp only at e;omega
       ·exact hnd0.1 (List.mem_cons_of_mem _ e)
     ·rcases C2 (fun q:BE=>q.mb) hm with e|e
      ·simp only at e;omega
      ·exact hnd0.2.1 e
    have hD:ONode n fm bm (Q9 bytesBefore nm ⟨Q7 nm s,.slice SA (Q7 nm s).ids.length sc⟩ F) (Q9 Q2 X ⟨Lk,b0',mb0'⟩ B) wd:=hA.setB k6 k5 k4 (fun q hq=>by
     rcases V9 hq with rfl|hq
     ·have hbb:bm<w.heap.size:=HN.out.bins.blt
      exact .inr (hOb.grown k6 (by intro e;injection e with e;have:=HNE.out.2.2.1;omega) (by intro e;injection e with e;have:=HNE.out.2.2.2.1;omega))
     ·exact .inl hq) hND
    have HFIN:Hid (j7h a n fm bm F B nm s w (.returned (.tuple #[.int .i64 f,.nilIface])) wd):=zh (by
     refine⟨.nilIface,J5 n fm bm (Q9 bytesBefore nm ⟨Q7 nm s,.slice SA (Q7 nm s).ids.length sc⟩ F) (Q9 Q2 X ⟨Lk,b0',mb0'⟩ B),by rw[HPN.out],by rw[HPN.out];exact ES.none a,?_,?_,j3l (fe:=⟨Q7 nm s,.slice SA (Q7 nm s).ids.length sc⟩) (be:=⟨Lk,b0',mb0'⟩) hrr.above HNE.out.2.2.1 HNE.out.2.2.2.1⟩
     ·rw[HPN.out]
      have:=hD.node
      unfold Q0 at this ⊢
      rw[z5d,z5d]at this
      exact this
     ·exact((FrS.of_below (S:=(J5 n fm bm F B).S) HBr.out).trans (FrS.of_below (S:=(J5 n fm bm F B).S) ((zb wr.heap.size wr).drew)) (fun _ h=> .inl h)).trans ((FrS.of_gb (S:=(J5 n fm bm F B).S) h6 (.inl rfl)).trans (FrS.of_gb (S:=(J5 n fm bm F B).S) k6 (.inr (.inl rfl))) (fun _ h=> .inl h)) (fun _ h=> .inl h))
    have hS1:Stay wr wa:=h2
    have hS2:Stay wr wb:=h5
    have hS3:Stay wr wc:=hS2.trans k2
    unfold feV at h3
    unfold beV at k3
    have hgi:∀z:Int,goInt z= .int .i64 z:=fun _=>rfl
    rw[hgi]at h1 h3 k1 k3
    clear hgi
    clear hpa hpn hnr hrr hnd hsF hsB h4' h5 h6 h7 hwz hA k4 k5 k6 k7 hOb hnew hnd0 hND hD h2 k2
    go_wp2
    have hS0:Stay wr wr.drew:=Stay.refl _
    refine kR (fun w'=>Stay wr w') 17 ?_
    refine kT 0 hS0 ?_
    refine kT 1 hS0 ?_
    refine kT 2 hS0 ?_
    refine kS 3 rfl hS0 (fun w' hS=>by have A0:=hS _ _ c0;go_simp;rfl) ?_
    refine kT 4 hS0 ?_
    refine kT 5 hS0 ?_
    refine kT 6 hS0 ?_
    refine kT 7 hS0 ?_
    refine kS 8 rfl hS0 (fun w' hS=>by have A0:=hS _ _ c1;go_simp;rfl) ?_
    refine kS 9 rfl hS0 (fun w' hS=>by have A0:=hS _ _ y0;have A1:=hS _ _ y1;go_simp;rfl) ?_
    refine kS 10 rfl hS0 (fun w' hS=>by have A0:=hS _ _ e0;have A1:=hS _ _ e1;have A2:=hS _ _ e2;have A3:=hS _ _ e3;go_simp;rfl) ?_
    refine kT 11 hS0 ?_
    refine kC 12 (fun K hK=> ?_)
    go_simp
    refine hK _ _ hS1 ?_
    clear hK K
    try simp only[Act.put,zM]
    refine kS 13 (v:= .int .i64 (st:Int)) rfl hS1 (fun w' hS=>by go_simp) ?_
    refine kC 14 (fun K hK=> ?_)
    go_simp
    refine hK _ _ hS2 ?_
    clear hK K
    try simp only[Act.put,zM]
    refine kC 15 (fun K hK=> ?_)
    go_simp
    refine hK _ _ hS3 ?_
    clear hK K
    try simp only[Act.put,zM]
    refine kS 16 (v:= .int .i64 (st2:Int)) rfl hS3 (fun w' hS=>by go_simp) (kF ?_)
    try simp only[Act.put,zM]
    simp only[List.drop_succ_cons,List.drop_zero]
    go_wp2
    go_ret2
    exact HFIN.out
theorem j7u(a:Nat→Addr)(n fm bm:Nat)(F:FL)(B:BL)(hP:NodeOk (Q0 F B))(nm s:Bytes)(hn:X6 nm)(w:World)(h:ONode n fm bm F B w)(hs:SomeS [1,3,5,6,9] a w) :
  Calls Tryz.prog 30 #[.pointer (some ⟨n,0,none⟩),.string (bs nm),.string (bs s)] w (j7h a n fm bm F B nm s w):=by
 cases hN:J7 nm with
 | false=>
  have e:M8 nm s=(4,R8):=if_pos hN
  exact j7q a n fm bm F B nm s hn (by rw[e];decide) (by rw[j7j hN,e]) w h hs
 | true=>
  by_cases h4:4000<s.length
  ·have e:M8 nm s=(2,R8):=(if_neg (by rw[hN];decide)).trans (if_pos h4)
   exact j7q a n fm bm F B nm s hn (by rw[e];decide) (by rw[j7k hN h4,e]) w h hs
  ·cases hgf:Q1 F nm with
   | some fe=>
    obtain⟨A,c,hsl,_⟩:=(h.file hP hgf).1
    exact j7r a n fm bm F B hP nm s hn hN h4 fe hgf A c hsl w h hs
   | none=>
    by_cases h30:30≤F.length
    ·exact j7s a n fm bm F B hP nm s hn hN h4 hgf h30 w h hs
    ·exact j7t a n fm bm F B hP nm s hn hN h4 hgf h30 w h hs
end Go.Proofs.YtdmlghfggninbaaGreatDoor
