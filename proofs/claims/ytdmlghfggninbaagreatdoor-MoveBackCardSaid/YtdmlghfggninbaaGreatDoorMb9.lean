/- RcC, RcJ, RcT in one text. Conditions: as each part says. -/
import Derived.Test.YtdmlghfggninbaaGreatDoorMb6
import Derived.Test.YtdmlghfggninbaaGreatDoorMb30
import Derived.OwnWalk
import Derived.Test.YtdmlghfggninbaaGreatDoorMb2
set_option linter.unusedVariables false
set_option linter.unusedSimpArgs false
set_option maxHeartbeats 2000000
set_option maxRecDepth 100000
namespace Go.Proofs.YtdmlghfggninbaaGreatDoor
open Go.RowKit Go.Lib
structure RcpB(r:Rcp):Prop where
 n:r.name.length≤1000000
 l0: -9223372036854775808≤r.len
 l1:r.len≤9223372036854775807
 p:r.print<4294967296
 c:r.ids.length≤1000000
 i:∀x∈r.ids,x.1<4294967296∧ -9223372036854775808≤x.2∧x.2≤9223372036854775807
def j4f(a:Nat→Addr)(r:Rcp)(w:World)(e:Ending)(w':World):Prop:=∃x,e= .returned x∧EV a x (Z9 r).1 (Z9 r).2 w'∧Below w.heap.size w w'
theorem j4g{a:Nat→Addr}{r:Rcp}{w w':World}{k:Nat}(hk:k<12)(h:Z9 r=((k:Int)+1,-1))(hb:Below w.heap.size w w'):j4f a r w (.returned (.iface 376 (.pointer (some (a k))))) w':=
 ⟨_,rfl,by rw[h];exact EV.sent a w' k hk,hb⟩
theorem j4h{len:Int}{i:Nat}{n:Int}{L:IdL}{k:Nat}(hk:k<L.length)(h:¬(L[k].2<1∨64<L[k].2)):X9 len i n (L.drop k)=X9 len (i+1) (n+L[k].2) (L.drop (k+1)):=by
 rw[List.drop_eq_getElem_cons hk]
 exact if_neg h
theorem j4i{len:Int}{i:Nat}{n:Int}{L:IdL}{k:Nat}(hk:k<L.length)(h:L[k].2<1∨64<L[k].2):X9 len i n (L.drop k)=(3,(i:Int)):=by
 rw[List.drop_eq_getElem_cons hk]
 exact if_pos h
theorem j4j(a:Nat→Addr)(v:Value)(r:Rcp)(hb:RcpB r)(w:World)(hv:RcpV w w.heap.size v r)(hs:SomeS [1,2,3,6,8] a w) :
  Calls Tryz.prog 110 #[v] w (j4f a r w):=by
 obtain⟨sl,rfl,hrd⟩:=hv
 obtain⟨A,c,rfl,hcap,hcells⟩:=hrd.form
 have hb0:Below w.heap.size w (w.alloc (.cells #[VT r.name,.int .i64 r.len,.int .u32 (r.print:Int),.slice A r.ids.length c] 40)):=(zb _ w).alloc (zl _) _
 have hbx:Box4 w.heap.size (VT r.name) (.int .i64 r.len) (.int .u32 (r.print:Int)) (.slice A r.ids.length c) (w.alloc (.cells #[VT r.name,.int .i64 r.len,.int .u32 (r.print:Int),.slice A r.ids.length c] 40)):=Box4.mk' _ _ _ _ _ _
 have HC:=zh hcells
 have HB0:=zh hb0
 have HBX:=zh hbx
 have HS:=zh (hs.below hb0)
 have hnz:(bs r.name).size≤maxLen:=by rw[Q8];have:=hb.n;unfold maxLen;omega
 have hlz:=hb.c
 have HN2:=zh (Q3 r.name)
 clear hcells hrd hs hb0 hbx
 have name:∀(x:Bool),J7 r.name=x→∀w,Calls Tryz.prog 154 #[.string (bs r.name)] w fun e w'=>e= .returned (.bool x)∧Below w.heap.size w w':=fun x hx w=>by
  have:=q3c (bs r.name) hnz w
  rw[HN2.out,hx]at this
  exact this
 have NAME:=zh name
 clear name
 cases hN:J7 r.name with
 | false=>
  have hF:Z9 r=(((3:Nat):Int)+1,-1):=if_pos hN
  have HF:=zh hF
  have hN2:=NAME.out false hN
  have HNM:=zh hN2
  clear hF hN hN2
  go_enter Tryz.func110,Tryz.ntmps110
  go_wp2_with fail
  refine(HNM.out _).mono ?_
  rintro e w1 ⟨rfl,hb1⟩
  have s3:w1.cell? ⟨6,0,none⟩=some (sval a 3):=(HS.out.below hb1) 3 (by simp)
  unfold sval at s3
  have HB9:=zh (HB0.out.trans (hb1.mono HB0.out.size))
  go_wp2
  go_ret
  exact j4g (by decide) HF.out HB9.out
 | true=>
  have hN2:=NAME.out true hN
  have HNM:=zh hN2
  have hnf:¬J7 r.name=false:=by rw[hN];simp
  clear hN2
  by_cases h1:r.len<0
  ·have hF:Z9 r=(((1:Nat):Int)+1,-1):=(if_neg hnf).trans (if_pos (.inl h1))
   have HF:=zh hF
   clear hF hN hnf
   go_enter Tryz.func110,Tryz.ntmps110
   go_wp2_with fail
   refine(HNM.out _).mono ?_
   rintro e w1 ⟨rfl,hb1⟩
   have s3:w1.cell? ⟨5,0,none⟩=some (sval a 1):=(HS.out.below hb1) 1 (by simp)
   unfold sval at s3
   have HB9:=zh (HB0.out.trans (hb1.mono HB0.out.size))
   obtain⟨c0,c1,c2,c3,_⟩:=HBX.out.below hb1 HBX.out.lt
   go_wp2
   go_ret
   exact j4g (by decide) HF.out HB9.out
  ·by_cases h2:4000<r.len
   ·have hF:Z9 r=(((1:Nat):Int)+1,-1):=(if_neg hnf).trans (if_pos (.inr h2))
    have HF:=zh hF
    clear hF hN hnf
    go_enter Tryz.func110,Tryz.ntmps110
    go_wp2_with fail
    refine(HNM.out _).mono ?_
    rintro e w1 ⟨rfl,hb1⟩
    have s3:w1.cell? ⟨5,0,none⟩=some (sval a 1):=(HS.out.below hb1) 1 (by simp)
    unfold sval at s3
    have HB9:=zh (HB0.out.trans (hb1.mono HB0.out.size))
    obtain⟨c0,c1,c2,c3,_⟩:=HBX.out.below hb1 HBX.out.lt
    go_wp2
    go_ret
    exact j4g (by decide) HF.out HB9.out
   ·by_cases h3:250<r.ids.length
    ·have h3i:250<(r.ids.length:Int):=by omega
     have hF:Z9 r=(((6:Nat):Int)+1,-1):=(if_neg hnf).trans ((if_neg (by omega)).trans (if_pos h3))
     have HF:=zh hF
     clear hF hN hnf h3
     go_enter Tryz.func110,Tryz.ntmps110
     go_wp2_with fail
     refine(HNM.out _).mono ?_
     rintro e w1 ⟨rfl,hb1⟩
     have s3:w1.cell? ⟨3,0,none⟩=some (sval a 6):=(HS.out.below hb1) 6 (by simp)
     unfold sval at s3
     have HB9:=zh (HB0.out.trans (hb1.mono HB0.out.size))
     obtain⟨c0,c1,c2,c3,_⟩:=HBX.out.below hb1 HBX.out.lt
     go_wp2
     go_ret
     exact j4g (by decide) HF.out HB9.out
    ·have h3i:¬ 250<(r.ids.length:Int):=by omega
     have hF:Z9 r=X9 r.len 0 0 r.ids:=(if_neg hnf).trans ((if_neg (by omega)).trans (if_neg h3))
     have HF:=zh hF
     have HD:Hid (r.ids.drop r.ids.length= []):=zh (List.drop_eq_nil_of_le (zl _))
     clear hF hN hnf
     go_enter Tryz.func110,Tryz.ntmps110
     go_wp2_with fail
     refine(HNM.out _).mono ?_
     rintro e w1 ⟨rfl,hb1⟩
     obtain⟨c0,c1,c2,c3,_⟩:=HBX.out.below hb1 HBX.out.lt
     have HS1:=zh (HS.out.below hb1)
     have HBX1:=zh (HBX.out.below hb1 HBX.out.lt)
     have HB1:=zh (HB0.out.trans (hb1.mono HB0.out.size))
     clear hb1
     go_wp2
     go_loopg [3,31] r.ids.length (fun gh va vi wr=>∃(k:Nat) (n:Int),vi= .int .i64 k∧va= .int .i64 n∧k≤r.ids.length∧gh=r.ids.length-k∧0≤n∧n≤64*(k:Int)∧Hid (X9 r.len 0 0 r.ids=X9 r.len k n (r.ids.drop k))∧Below w1.heap.size w1 wr)
     case atStart=>exact⟨0,0,rfl,rfl,Nat.zero_le _,rfl,by omega,by omega,zh rfl,zb _ _⟩
     case round=>
      obtain⟨k,n,rfl,rfl,hk,hgm,hn0,hn1,hI,hB⟩:=hrel
      have HB9:=zh (HB1.out.trans (hB.mono HB1.out.size))
      by_cases hkl:k<r.ids.length
      ·obtain⟨g,o,rfl,hg,hx⟩:=HC.out (by omega)
       obtain⟨x0,x1⟩:=hx k hkl
       have y0:=(HB9.out.cell (p:=⟨g,o+k*2,none⟩) hg).trans x0
       have y1:=(HB9.out.cell (p:=⟨g,o+k*2+1,none⟩) hg).trans x1
       have b1:(0:Int)≤(k:Int):=by omega
       have b2:(k:Int)<(r.ids.length:Int):=by omega
       clear hx x0 x1
       by_cases hbad:r.ids[k].2<1∨64<r.ids[k].2
       ·have hA:=(zb wr.heap.size wr).alloc (zl _) (.cells #[.int .u32 (r.ids[k].1:Int),.int .i64 r.ids[k].2] 25)
        have s2:(wr.alloc (.cells #[.int .u32 (r.ids[k].1:Int),.int .i64 r.ids[k].2] 25)).cell? ⟨1,0,none⟩=some (sval a 2):=((HS1.out.below hB).below hA) 2 (by simp)
        unfold sval at s2
        have HQ:Hid (j4f a r w (.returned (.iface 170 (.pointer (some ⟨wr.heap.size+1,0,none⟩)))) ((wr.alloc (.cells #[.int .u32 (r.ids[k].1:Int),.int .i64 r.ids[k].2] 25)).alloc (.cells #[.int .i64 (k:Int),.iface 376 (.pointer (some (a 2)))] 173))):=zh (by
         refine⟨_,rfl,?_,((HB9.out.alloc HB9.out.size _).alloc (by have:=HB9.out.size;simp;omega) _)⟩
         rw[HF.out.trans (hI.out.trans (j4i hkl hbad))]
         have:=q4x a (wr.alloc (.cells #[.int .u32 (r.ids[k].1:Int),.int .i64 r.ids[k].2] 25)) 2 (by decide) (k:Int) 173
         simpa using this)
        clear hA
        clear hI
        rcases hbad with h5|h5
        ·go_wp2
         go_ret
         exact HQ.out
        ·have h6:¬r.ids[k].2<1:=by omega
         go_wp2
         go_ret
         exact HQ.out
       ·have HN:=zh (hI.out.trans (j4h hkl hbad))
        have h5:¬r.ids[k].2<1:=by omega
        have h6:¬ 64<r.ids[k].2:=by omega
        have HA:=zh (hB.alloc hB.size (.cells #[.int .u32 (r.ids[k].1:Int),.int .i64 r.ids[k].2] 25))
        clear hI hbad
        go_wp2
        go_roundg (r.ids.length-(k+1))
        case measure=>omega
        case rel=>exact⟨k+1,n+r.ids[k].2,by go_num,by go_num,hkl,rfl,by omega,by omega,HN,HA.out⟩
      ·obtain rfl:k=r.ids.length:=by omega
       have hI2:=HF.out.trans hI.out
       rw[HD.out]at hI2
       obtain⟨d0,d1,d2,d3,_⟩:=HBX1.out.below hB HBX1.out.lt
       by_cases hn:n=r.len
       ·have hni:(n !=r.len)=false:=by rw[hn];simp
        have HQ:=zh (hI2.trans (if_pos hn))
        clear hI hI2 hn
        go_wp2
        go_ret
        exact⟨_,rfl,by rw[HQ.out];exact EV.none a _,HB9.out⟩
       ·have hni:(n !=r.len)=true:=by simpa using hn
        have HQ:=zh (hI2.trans (if_neg hn))
        have s8:wr.cell? ⟨8,0,none⟩=some (sval a 8):=(HS1.out.below hB) 8 (by simp)
        unfold sval at s8
        clear hI hI2 hn
        go_wp2
        go_ret
        exact j4g (k:=8) (by decide) HQ.out HB9.out
theorem j4k{i:Nat}{ls:List Bytes}{L:IdL}{k:Nat}(h1:k<ls.length)(h2:k<L.length)(h:idOf ls[k]=L[k]):C7 i (ls.drop k) (L.drop k)=C7 (i+1) (ls.drop (k+1)) (L.drop (k+1)):=by
 rw[List.drop_eq_getElem_cons h1,List.drop_eq_getElem_cons h2]
 exact if_pos h
theorem j4l{i:Nat}{ls:List Bytes}{L:IdL}{k:Nat}(h1:k<ls.length)(h2:k<L.length)(h:¬idOf ls[k]=L[k]):C7 i (ls.drop k) (L.drop k)=some i:=by
 rw[List.drop_eq_getElem_cons h1,List.drop_eq_getElem_cons h2]
 exact if_neg h
theorem j4m{i:Nat}{ls:List Bytes}{L:IdL}{k:Nat}(h1:k=ls.length):C7 i (ls.drop k) (L.drop k)=none:=by
 rw[List.drop_eq_nil_of_le (by omega)]
 unfold C7
 rfl
theorem j4n:∀(ls:List Bytes) (L:IdL) (i:Nat),ls.length=L.length→C7 i ls L=none→ls.map idOf=L
 | [],[],_,_,_=>rfl
 | [],_::_,_,h,_=>by simp at h
 | _::_,[],_,h,_=>by simp at h
 | p::ls,x::r,i,hl,h=>by
  unfold C7 at h
  split at h
  ·next e=>rw[List.map_cons,e,j4n ls r _ (by simpa using hl) h]
  ·cases h
theorem j4o:∀(ls:List Bytes),(∀x∈ls.map idOf,x.2≤64)→ls.flatten.length≤64*ls.length
 | [],_=>by simp
 | p::r,h=>by
  have h1:=j4o r (fun x hx=>h x (List.mem_cons_of_mem _ hx))
  have h2:((p.length:Nat):Int)≤64:=h (idOf p) (List.mem_cons_self ..)
  rw[List.flatten_cons,List.length_append,List.length_cons]
  omega
theorem j4p{p:Bytes}{x:Idn}(h:idOf p=x):(((prOf p:Nat):Int)==(x.1:Int))=true∧(((p.length:Nat):Int)==x.2)=true:=by
 subst h;exact⟨by simp[idOf],by simp[idOf]⟩
theorem j4q{p:Bytes}{x:Idn}(h:¬idOf p=x):(((prOf p:Nat):Int)==(x.1:Int))=false∨((((prOf p:Nat):Int)==(x.1:Int))=true∧(((p.length:Nat):Int)==x.2)=false):=by
 by_cases h1:prOf p=x.1
 ·refine .inr ⟨by simp[h1],?_⟩
  rw[beq_eq_false_iff_ne]
  intro e
  exact h (Prod.ext h1 e)
 ·refine .inl ?_
  rw[beq_eq_false_iff_ne];omega
def j4r(a:Nat→Addr)(r:Rcp)(ls:List Bytes)(w:World)(e:Ending)(w':World):Prop:=
 ∃x,e= .returned (.tuple #[VT (q0p r ls).1,x])∧EV a x (q0p r ls).2.1 (q0p r ls).2.2 w'∧Below w.heap.size w w'
theorem j4s{a:Nat→Addr}{r:Rcp}{ls:List Bytes}{w w':World}{c t:Int}{x:Value}(h:q0p r ls=([],c,t))(hx:EV a x c t w')(hb:Below w.heap.size w w'):j4r a r ls w (.returned (.tuple #[.string ⟨#[]⟩,x])) w':=
 ⟨x,by rw[h];rfl,by rw[h];exact hx,hb⟩
theorem j4t(a:Nat→Addr)(v lv:Value)(r:Rcp)(hb:RcpB r)(ls:List Bytes)(hls:ls.length≤1000000)(hlz:∀p∈ls,p.length≤1000000)(w:World)(hv:RcpV w w.heap.size v r)(hl:Rd w w.heap.size lv (ls.map VT))(hs:SomeS [1,2,3,6,8] a w) :
  Calls Tryz.prog 84 #[v,lv] w (j4r a r ls w):=by
 obtain⟨sl,rfl,hrd⟩:=hv
 have hb0:Below w.heap.size w (w.alloc (.cells #[VT r.name,.int .i64 r.len,.int .u32 (r.print:Int),sl] 40)):=(zb _ w).alloc (zl _) _
 have hbx:Box4 w.heap.size (VT r.name) (.int .i64 r.len) (.int .u32 (r.print:Int)) sl (w.alloc (.cells #[VT r.name,.int .i64 r.len,.int .u32 (r.print:Int),sl] 40)):=Box4.mk' _ _ _ _ _ _
 have CK:=zh (j4j a (.agg #[VT r.name,.int .i64 r.len,.int .u32 (r.print:Int),sl]) r hb (w.alloc (.cells #[VT r.name,.int .i64 r.len,.int .u32 (r.print:Int),sl] 40)) ⟨sl,rfl,(hrd.keep hb0 (zl _)).more hb0.size⟩ (hs.below hb0))
 have HRD:=zh (hrd.keep hb0 (zl _))
 have HLD:=zh (hl.below hb0)
 obtain⟨A,c,rfl,hcap,_⟩:=hrd.form
 obtain⟨A2,c2,rfl,hcap2,_⟩:=hl
 rw[List.length_map]at hcap2 ⊢
 have HB0:=zh hb0
 have HBX:=zh hbx
 have HS:=zh (hs.below hb0)
 have HB:=zh hb
 have HLZ:=zh hlz
 clear hrd hs hb0 hbx hb hlz
 by_cases h0:(Z9 r).1=0
 ·obtain⟨q1,q2,q3,q4,q5⟩:=R0 h0
  have H6:=zh (z1c _ _ 0 0 (show(X9 r.len 0 0 r.ids).1=0 by rw[q5]))
  have HX:=zh h0
  clear q1 q5
  by_cases hln:ls.length=r.ids.length
  ·have hlni:((ls.length:Int) !=(r.ids.length:Int))=false:=by rw[hln];simp
   have HJ:Hid (q0p r ls=z0w r ls (C7 0 ls r.ids)):=zh (by unfold q0p;rw[if_neg (by rw[h0];simp),if_neg (by rw[hln];simp)])
   have HLN:=zh hln
   have hl250:ls.length≤250:=by omega
   clear h0 hln
   go_enter Tryz.func84,Tryz.ntmps84
   go_wp2_with fail
   refine CK.out.mono ?_
   rintro e w1 ⟨x,rfl,hev,hb1⟩
   obtain⟨rfl,_⟩:=hev.nil HX.out
   have HBX1:=zh (HBX.out.below hb1 HBX.out.lt)
   have HS1:=zh (HS.out.below hb1)
   have HB1:=zh (HB0.out.trans (hb1.mono HB0.out.size))
   have HRD1:=zh (HRD.out.keep hb1 (HB0.out.size))
   have HLD1:=zh (HLD.out.keep (fun p hp=>hb1.cell (p:=p) (Nat.lt_of_lt_of_le hp HB0.out.size)))
   obtain⟨d0,d1,d2,d3,_⟩:=HBX1.out
   clear hb1 hev
   go_wp2
   go_loopg [24] ls.length (fun gh vi wr=>∃k:Nat,vi= .int .i64 k∧k≤ls.length∧gh=ls.length-k∧Hid (C7 0 ls r.ids=C7 k (ls.drop k) (r.ids.drop k))∧Below w1.heap.size w1 wr)
   case atStart=>exact⟨0,rfl,Nat.zero_le _,rfl,zh rfl,zb _ _⟩
   case round=>
    obtain⟨k,rfl,hk,hgm,hM,hB⟩:=hrel
    have HBXr:=zh (HBX1.out.below hB HBX1.out.lt)
    have HB9:=zh (HB1.out.trans (hB.mono HB1.out.size))
    obtain⟨A',c',hv',_,hcells⟩:=HRD1.out.form
    injection hv' with e1 e2 e3
    obtain⟨A3,c3,hv3,_,hc3⟩:=HLD1.out
    injection hv3 with e4 e5 e6
    subst e1
    subst e4
    by_cases hkl:k<ls.length
    ·have hkr:k<r.ids.length:=by rw[←HLN.out];exact hkl
     obtain⟨g,o,rfl,hg,hx⟩:=hcells (by omega)
     obtain⟨g2,o2,rfl,hg2,hx2⟩:=hc3 (q9v hkl)
     obtain⟨x0,x1⟩:=hx k hkr
     have z0:w1.cell? ⟨g2,o2+k,none⟩=some (.string (bs ls[k])):=hx2 k _ (by simp[hkl])
     have hg1:g<w1.heap.size:=Nat.lt_of_lt_of_le hg HB1.out.size
     have hg21:g2<w1.heap.size:=Nat.lt_of_lt_of_le hg2 HB1.out.size
     have y0:=(hB.cell (p:=⟨g,o+k*2,none⟩) hg1).trans x0
     have y1:=(hB.cell (p:=⟨g,o+k*2+1,none⟩) hg1).trans x1
     have z1:=(hB.cell (p:=⟨g2,o2+k,none⟩) hg21).trans z0
     have b1:(0:Int)≤(k:Int):=by omega
     have b2:(k:Int)<(ls.length:Int):=by omega
     have b3:(k:Int)<(r.ids.length:Int):=by omega
     have hpz:(bs ls[k]).size≤maxLen:=by
      rw[Q8]
      have:=HLZ.out ls[k] (List.getElem_mem hkl)
      unfold maxLen;omega
     have HBT:=zh (Q3 ls[k])
     have HBZ:=zh (Q8 ls[k])
     have Y0:=zh y0
     have Y1:=zh y1
     have hgr:g<wr.heap.size:=Nat.lt_of_lt_of_le hg1 hB.size
     clear hx hx2 x0 x1 z0 y0 y1 hcells hc3 e2 e3 e5 e6
     go_wp2
     have hS0:Below wr.heap.size wr wr.drew:=(zb _ _).drew
     refine kR (fun w'=>Below wr.heap.size wr w') 7 ?_
     refine kT 0 hS0 ?_
     refine kT 2 hS0 ?_
     refine kS 3 rfl hS0 (fun w' hS=>by have A3:=(HBXr.out.below hS HBXr.out.lt).c3;go_simp;rfl) ?_
     refine kT 4 hS0 ?_
     refine kT 5 hS0 ?_
     refine kS 6 rfl hS0 (fun w' hS=>by have B0:=(hS.cell (p:=⟨g,o+k*2,none⟩) hgr).trans Y0.out;have B1:=(hS.cell (p:=⟨g,o+k*2+1,none⟩) hgr).trans Y1.out;go_simp;rfl) ?_
     refine kC 1 (fun K hK=> ?_)
     go_simp
     refine(q7e (bs ls[k]) _ hpz).mono ?_
     rintro e w4 ⟨rfl,hb4⟩
     have hS4:Below wr.heap.size wr w4:=hS0.trans hb4
     rw[HBT.out,HBZ.out]
     refine hK _ _ hS4 (kF ?_)
     clear hK K
     try simp only[Act.put,zM]
     simp only[List.drop_succ_cons,List.drop_zero]
     have HB4:=zh (hB.trans (hS4.mono hB.size))
     have HBX4:=zh (HBXr.out.below hS4 HBXr.out.lt)
     by_cases hid:idOf ls[k]=r.ids[k]
     ·obtain⟨t1,t2⟩:=j4p hid
      have HN:=zh (hM.out.trans (j4k hkl hkr hid))
      clear hid hM
      go_wp2
      go_roundg (ls.length-(k+1))
      case measure=>omega
      case rel=>exact⟨k+1,by go_num,hkl,rfl,HN,HB4.out⟩
     ·have hE:q0p r ls=([],9,(k:Int)):=by rw[HJ.out,hM.out,j4l hkl hkr hid];rfl
      have s8:w4.cell? ⟨8,0,none⟩=some (sval a 8):=(HS1.out.below HB4.out) 8 (by simp)
      unfold sval at s8
      have HQ:Hid (j4r a r ls w (.returned (.tuple #[.string ⟨#[]⟩,.iface 170 (.pointer (some ⟨w4.heap.size,0,none⟩))])) (w4.alloc (.cells #[.int .i64 (k:Int),.iface 376 (.pointer (some (a 8)))] 173)).drew):=zh (by
       refine j4s hE ?_ ((HB1.out.trans (HB4.out.mono HB1.out.size)).alloc (Nat.le_trans HB1.out.size HB4.out.size) _).drew
       have:=q4x a w4 8 (by decide) (k:Int) 173
       exact this)
      have hid':=j4q hid
      clear hid hM hE
      rcases hid' with t1|⟨t1,t2⟩
      ·go_wp2
       go_region
       go_wp2
       go_ret2
       exact HQ.out
      ·go_wp2
       go_region
       go_wp2
       go_ret2
       exact HQ.out
    ·obtain rfl:k=ls.length:=by omega
     have hM0:C7 0 ls r.ids=none:=hM.out.trans (j4m rfl)
     have hmap:=j4n _ _ _ HLN.out hM0
     have hfl:=j4o ls (fun x hx=>(H6.out x (by rw[←hmap];exact hx)).2)
     have hrdw:Rd wr wr.heap.size _ (ls.map VT):=(HLD1.out.keep (fun p hp=>hB.cell (p:=p) (Nat.lt_of_lt_of_le hp HB1.out.size))).more HB9.out.size
     have J:=z2g ls ⟨#[]⟩ _ wr hrdw (by show(join _ []).length≤_;rw[z2d];omega) (by omega)
     rw[show(⟨#[]⟩:ByteArray).data.toList= []from rfl,z2d]at J
     have JJ:=zh J
     have hE:q0p r ls=if prOf ls.flatten=r.print then(ls.flatten,0,-1)else([],9,-1):=by rw[HJ.out,hM0];rfl
     have HE:=zh hE
     have HZ:Hid ((bs ls.flatten).size≤maxLen):=zh (by rw[Q8];unfold maxLen;omega)
     have HBT:=zh (Q3 ls.flatten)
     clear hrdw J hE hmap hfl hM0 hM hcells hc3 e2 e3 e5 e6
     rw[List.length_map]at JJ
     go_wp2_with fail
     refine JJ.out.mono ?_
     rintro e w5 ⟨rfl,hb5⟩
     have HB5:=zh (hB.trans (hb5.mono hB.size))
     have HBX5:=zh (HBXr.out.below hb5 HBXr.out.lt)
     go_wp2
     have hS0:Below w5.heap.size w5 w5.drew:=(zb _ _).drew
     refine kR (fun w'=>Below w5.heap.size w5 w') 4 ?_
     refine kT 0 hS0 ?_
     refine kT 2 hS0 ?_
     refine kS 3 rfl hS0 (fun w' hS=>by have A2:=(HBX5.out.below hS HBX5.out.lt).c2;go_simp;rfl) ?_
     refine kC 1 (fun K hK=> ?_)
     go_simp
     refine(q2b (bs ls.flatten) _ HZ.out).mono ?_
     rintro e w6 ⟨rfl,rfl⟩
     rw[HBT.out]
     refine hK _ _ hS0 (kF ?_)
     clear hK K
     try simp only[Act.put,zM]
     simp only[List.drop_succ_cons,List.drop_zero]
     by_cases hp:prOf ls.flatten=r.print
     ·have hpi:(((prOf ls.flatten:Nat):Int) !=(r.print:Int))=false:=by rw[hp];simp
      have HE2:=zh (HE.out.trans (if_pos hp))
      clear hp
      go_wp2
      go_ret2
      exact⟨.nilIface,by rw[HE2.out];rfl,by rw[HE2.out];exact EV.none a _,(HB1.out.trans (HB5.out.mono HB1.out.size)).drew⟩
     ·have hpi:(((prOf ls.flatten:Nat):Int) !=(r.print:Int))=true:=by simp;omega
      have HE2:=zh (HE.out.trans (if_neg hp))
      have s8:w5.cell? ⟨8,0,none⟩=some (sval a 8):=(HS1.out.below HB5.out) 8 (by simp)
      unfold sval at s8
      clear hp
      go_wp2
      go_region
      go_wp2
      go_ret2
      exact j4s HE2.out (EV.sent a _ 8 (by decide)) (HB1.out.trans (HB5.out.mono HB1.out.size)).drew.drew
  ·have hlni:((ls.length:Int) !=(r.ids.length:Int))=true:=by simp;omega
   have HJ:Hid (q0p r ls=([],3,-1)):=zh (by unfold q0p;rw[if_neg (by rw[h0];simp),if_pos hln])
   have HX:=zh h0
   clear h0 hln
   go_enter Tryz.func84,Tryz.ntmps84
   go_wp2_with fail
   refine CK.out.mono ?_
   rintro e w1 ⟨x,rfl,hev,hb1⟩
   obtain⟨rfl,_⟩:=hev.nil HX.out
   have HBX1:=zh (HBX.out.below hb1 HBX.out.lt)
   have HB1:=zh (HB0.out.trans (hb1.mono HB0.out.size))
   obtain⟨d0,d1,d2,d3,_⟩:=HBX1.out
   have s2:w1.cell? ⟨1,0,none⟩=some (sval a 2):=(HS.out.below hb1) 2 (by simp)
   unfold sval at s2
   clear hb1 hev
   go_wp2
   go_region
   go_wp2
   go_ret2
   exact j4s HJ.out (EV.sent a _ 2 (by decide)) HB1.out.drew
 ·have HJ:Hid (q0p r ls=([],Z9 r)):=zh (if_pos h0)
  have HX:=zh h0
  clear h0
  go_enter Tryz.func84,Tryz.ntmps84
  go_wp2_with fail
  refine CK.out.mono ?_
  rintro e w1 ⟨x,rfl,hev,hb1⟩
  obtain⟨T,p,rfl⟩:=hev.some HX.out
  have HEV:=zh hev
  have HB1:=zh (HB0.out.trans (hb1.mono HB0.out.size))
  clear hev hb1
  go_wp2
  go_ret2
  exact j4s HJ.out HEV.out HB1.out
def j4u(r:Rcp):Bytes:=if(Z9 r).1=0 then X4 r else[]
def B9(r:Rcp)(k:Nat):List Bytes:= [r.name,itoa r.len,hex8 r.print]++(r.ids.take k).map fun x=>V2 x.1 x.2
theorem j4v{r:Rcp}{k:Nat}(h:k<r.ids.length):(B9 r (k+1)).map VT=(B9 r k).map VT++ [VT (V2 r.ids[k].1 r.ids[k].2)]:=by
 have e:B9 r (k+1)=B9 r k++ [V2 r.ids[k].1 r.ids[k].2]:=by
  unfold B9
  rw[List.append_assoc,List.take_succ_eq_append_getElem h,List.map_append];rfl
 rw[e,List.map_append];rfl
theorem j4w{r:Rcp}{k:Nat}(h:k≤r.ids.length):(B9 r k).length=k+3:=by
 unfold B9
 rw[List.length_append,List.length_map,List.length_take,Nat.min_eq_left h];simp;omega
theorem j4x(a:Nat→Addr)(v:Value)(r:Rcp)(hb:RcpB r)(w:World)(hv:RcpV w w.heap.size v r)(hs:SomeS [1,2,3,6,8] a w)(ht:Tabs w) :
  Calls Tryz.prog 52 #[v] w fun e w'=>∃x,e= .returned (.tuple #[VT (j4u r),x])∧EV a x (Z9 r).1 (Z9 r).2 w'∧Below w.heap.size w w':=by
 obtain⟨sl,rfl,hrd⟩:=hv
 have hb0:Below w.heap.size w (w.alloc (.cells #[VT r.name,.int .i64 r.len,.int .u32 (r.print:Int),sl] 40)):=(zb _ w).alloc (zl _) _
 have hbx:Box4 w.heap.size (VT r.name) (.int .i64 r.len) (.int .u32 (r.print:Int)) sl (w.alloc (.cells #[VT r.name,.int .i64 r.len,.int .u32 (r.print:Int),sl] 40)):=Box4.mk' _ _ _ _ _ _
 have CK:=zh (j4j a (.agg #[VT r.name,.int .i64 r.len,.int .u32 (r.print:Int),sl]) r hb (w.alloc (.cells #[VT r.name,.int .i64 r.len,.int .u32 (r.print:Int),sl] 40)) ⟨sl,rfl,(hrd.keep hb0 (zl _)).more hb0.size⟩ (hs.below hb0))
 have HRD:=zh (hrd.keep hb0 (zl _))
 obtain⟨A,c,rfl,hcap,_⟩:=hrd.form
 have HB0:=zh hb0
 have HBX:=zh hbx
 have HT:=zh (ht.below hb0)
 have HB:=zh hb
 clear hrd hs hb0 hbx ht hb
 by_cases h0:(Z9 r).1=0
 ·have h00:=z1b h0
  obtain⟨q1,q2,q3,q4,q5⟩:=R0 h0
  have hlen:=HB.out.p
  obtain⟨i0,hi,hz0,hz1,hz2⟩:=info_parts z2h
  have HX:=zh h0
  have H00:=zh h00
  clear h0 h00 q1 q5
  go_enter Tryz.func52,Tryz.ntmps52
  go_wp2_with fail
  refine CK.out.mono ?_
  rintro e w1 ⟨x,rfl,hev,hb1⟩
  obtain⟨rfl,_⟩:=hev.nil HX.out
  have HBX1:=zh (HBX.out.below hb1 HBX.out.lt)
  have HT1:=zh (HT.out.below hb1)
  have HB1:=zh (HB0.out.trans (hb1.mono HB0.out.size))
  have HRD1:=zh (HRD.out.keep hb1 (HB0.out.size))
  clear hb1 hev
  go_wp2
  have hS0:Below w1.heap.size w1 w1.drew:=(zb _ _).drew
  refine kR (fun w'=>Below w1.heap.size w1 w') 9 ?_
  refine kT 0 hS0 ?_
  refine kS 1 rfl hS0 (fun w' hS=>by have A0:=(HBX1.out.below hS HBX1.out.lt).c0;go_simp;rfl) ?_
  refine kT 2 hS0 ?_
  refine kS 3 rfl hS0 (fun w' hS=>by have A1:=(HBX1.out.below hS HBX1.out.lt).c1;go_simp;rfl) ?_
  refine kT 5 hS0 ?_
  refine kS 6 rfl hS0 (fun w' hS=>by have A2:=(HBX1.out.below hS HBX1.out.lt).c2;go_simp;rfl) ?_
  refine kC 4 (fun K hK=> ?_)
  go_simp
  refine(q6y r.len (by omega) (by omega) _ (HT1.out.below hS0)).mono ?_
  rintro e w2 ⟨rfl,hb2⟩
  have hS2:Below w1.heap.size w1 w2:=hS0.trans hb2
  refine hK _ _ hS2 ?_
  clear hK K
  try simp only[Act.put,zM]
  refine kC 7 (fun K hK=> ?_)
  go_simp
  refine(q7c r.print hlen _ (HT1.out.below hS2)).mono ?_
  rintro e w3 ⟨rfl,hb3⟩
  have hS3:Below w1.heap.size w1 w3:=hS2.trans (hb3.mono hS2.size)
  refine hK _ _ hS3 ?_
  clear hK K
  try simp only[Act.put,zM]
  refine kC 8 (fun K hK=> ?_)
  go_simp
  have hS4:=hS3.alloc hS3.size (.cells #[VT r.name,VT (itoa r.len),VT (hex8 r.print)] 9)
  have ho4:(w3.alloc (.cells #[VT r.name,VT (itoa r.len),VT (hex8 r.print)] 9)).ownsRow w1.heap.size 9 1 (.slice (some ⟨w3.heap.size,0,none⟩) 3 3) 3 ((B9 r 0).map VT):=World.ownsRow_lit w3 _ 3 hS3.size (by decide) rfl
  refine hK _ _ hS4 (kF ?_)
  clear hK K
  try simp only[Act.put,zM]
  simp only[List.drop_succ_cons,List.drop_zero]
  generalize w3.alloc (.cells #[VT r.name,VT (itoa r.len),VT (hex8 r.print)] 9)=w4 at *
  have HS4:=zh hS4
  obtain⟨d0,d1,d2,d3,_⟩:=HBX1.out.below hS4 HBX1.out.lt
  clear hS0 hS2 hS3 hb2 hb3 hS4
  go_wp2
  go_loopg [5,25] r.ids.length (fun gh vs vi wr=>∃k:Nat,vi= .int .i64 k∧k≤r.ids.length∧gh=r.ids.length-k∧wr.ownsRow w1.heap.size 9 1 vs (k+3) ((B9 r k).map VT)∧Below w1.heap.size w1 wr)
  case atStart=>exact⟨0,rfl,Nat.zero_le _,rfl,ho4,HS4.out⟩
  case round=>
   obtain⟨k,rfl,hk,hgm,hrow,hB⟩:=hrel
   by_cases hkl:k<r.ids.length
   ·obtain⟨A',c',hv',_,hcells⟩:=HRD1.out.form
    injection hv' with e1 e2 e3
    subst e1
    obtain⟨g,o,rfl,hg,hx⟩:=hcells (by omega)
    obtain⟨x0,x1⟩:=hx k hkl
    have hg1:g<w1.heap.size:=Nat.lt_of_lt_of_le hg HB1.out.size
    have y0:=(hB.cell (p:=⟨g,o+k*2,none⟩) hg1).trans x0
    have y1:=(hB.cell (p:=⟨g,o+k*2+1,none⟩) hg1).trans x1
    have b1:(0:Int)≤(k:Int):=by omega
    have b2:(k:Int)<(r.ids.length:Int):=by omega
    obtain⟨i1,i2,i3⟩:=HB.out.i r.ids[k] (List.getElem_mem hkl)
    have HW:=zh (j4v hkl)
    have hA:=hB.alloc hB.size (.cells #[.int .u32 (r.ids[k].1:Int),.int .i64 r.ids[k].2] 25)
    have HTA:=zh (HT1.out.below hA)
    have HROW:=zh (hrow.alloc (.cells #[.int .u32 (r.ids[k].1:Int),.int .i64 r.ids[k].2] 25))
    clear hx x0 x1 hcells e2 e3
    go_wp2_with fail
    refine(q7d r.ids[k].1 r.ids[k].2 i1 i2 i3 _ HTA.out).mono ?_
    rintro e w5 ⟨rfl,hb5⟩
    have hA5:=hA.trans (hb5.mono hA.size)
    have ho5:=Q4 HROW.out hb5
    go_wp2_with(at_builtin;refine wpList_append_own _ rfl _ _ 60 rfl w1.heap.size 9 i0 (.string ByteArray.empty) 1 16 Tryz.underlying60 hi hz0 hz1 hz2 rfl (by decide) _ _ _ rfl (ho5.alloc _) ⟨w5.heap.size,0,none⟩ 1 1 [.string (bs (V2 r.ids[k].1 r.ids[k].2))] rfl rfl (cell_one_new _ _ _) (by simp[Value.oneCell']) (by unfold maxLen;omega) (by omega) (by have:=hA5.size;simp;omega) ?_;intro v6 w6 ho6 hg6 _)
    go_roundg (r.ids.length-(k+1))
    case measure=>omega
    case rel=>exact⟨k+1,by go_num,hkl,rfl,by rw[HW.out];exact ho6,X5 hA5 hA5.size ho5 hg6⟩
   ·obtain rfl:k=r.ids.length:=by omega
    have hrdw:Rd wr wr.heap.size _ ((B9 r r.ids.length).map VT):=(Rd.own (n:=r.ids.length+3) hrow)
    have hjoin:join (B9 r r.ids.length) [32]=X4 r:=by unfold B9;rw[List.take_of_length_le (zl _)];exact z2b r
    have hjl:=z1y HX.out
    have J:=z2g (B9 r r.ids.length) ⟨#[32]⟩ _ wr hrdw (by show(join _ [32]).length≤_;rw[hjoin];omega) (by rw[j4w (zl _)];omega)
    rw[show(⟨#[32]⟩:ByteArray).data.toList= [32]from rfl,hjoin]at J
    have HJ:=zh J
    clear hrdw hjoin hjl J
    go_wp2_with fail
    refine HJ.out.mono ?_
    rintro e w5 ⟨rfl,hb5⟩
    go_wp2
    go_ret2
    exact⟨.nilIface,by unfold j4u;rw[if_pos HX.out];rfl,by rw[H00.out];exact EV.none a _,HB1.out.trans ((hB.trans (hb5.mono hB.size)).mono HB1.out.size)⟩
 ·have hn0:=h0
  have HX:=zh h0
  clear hn0 h0
  go_enter Tryz.func52,Tryz.ntmps52
  go_wp2_with fail
  refine CK.out.mono ?_
  rintro e w1 ⟨x,rfl,hev,hb1⟩
  obtain⟨T,p,rfl⟩:=hev.some HX.out
  have HEV:=zh hev
  have HB1:=zh (HB0.out.trans (hb1.mono HB0.out.size))
  clear hev hb1
  go_wp2
  go_ret2
  exact⟨_,by unfold j4u;rw[if_neg HX.out];rfl,HEV.out,HB1.out⟩
end Go.Proofs.YtdmlghfggninbaaGreatDoor
