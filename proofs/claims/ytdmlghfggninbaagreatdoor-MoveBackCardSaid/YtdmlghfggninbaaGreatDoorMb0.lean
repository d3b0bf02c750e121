/- PrW, PrL, PlainH, RefN, RefC, RefU, RefI in one text. Conditions: as each part says. -/
import Derived.Test.YtdmlghfggninbaaGreatDoorMb31
import Derived.Test.YtdmlghfggninbaaGreatDoorMb1
import Derived.Test.YtdmlghfggninbaaGreatDoorMb30
set_option linter.unusedVariables false
set_option linter.unusedSimpArgs false
set_option maxHeartbeats 1000000
namespace Go.Proofs.YtdmlghfggninbaaGreatDoor
open Go.RowKit Go.Lib
def V1(l:Bytes)(m:Nat):Option Nat:=match q2r l with
 | some v=>if l.length≤m∧0≤v∧itoa v=l then some v.toNat else none
 | none=>none
def q9b(l:Bytes)(m:Nat):Int:=((V1 l m).getD 0:Nat)
theorem q9c{l:Bytes}{m k:Nat}(h:V1 l m=some k):q2r l=some (k:Int)∧l.length≤m∧l=decDigits k:=by
 unfold V1 at h
 cases hv:q2r l with
 | none=>rw[hv]at h;cases h
 | some v=>
  rw[hv]at h
  simp only at h
  split at h
  ·next hc=>
   obtain⟨h1,h2,h3⟩:=hc
   injection h with h
   subst h
   refine⟨by rw[show((v.toNat:Nat):Int)=v by omega],h1,?_⟩
   rw[←G8,show((v.toNat:Nat):Int)=v by omega,h3]
  ·cases h
theorem q9d(k m:Nat)(hk:k<10^18)(hm:(decDigits k).length≤m):V1 (decDigits k) m=some k:=by
 unfold V1
 rw[q2s _ _ (q2j k hk)]
 simp only
 rw[if_pos ⟨hm,by omega,G8 k⟩,Int.toNat_natCast]
theorem q9e{l:Bytes}{v:Int}(h:q2r l=some v): -9223372036854775808≤v∧v≤9223372036854775807:=Lib.atoiAll_bounds (q2t h)
theorem q9f(t:ByteArray)(ht:t.size≤2^40)(m k:Nat)(hm:m≤1000)(h:V1 t.data.toList m=some k)(w:World)(htab:Tabs w) :
  Calls Tryz.prog 122 #[.string t,.int .i64 (m:Int)] w fun e w'=>e= .returned (.tuple #[.int .i64 (k:Int),.bool true])∧Below w.heap.size w w':=by
 obtain⟨h1,h2,h3⟩:=q9c h
 obtain⟨b0,b1⟩:=q9e h1
 have hz:¬(m:Int)<(t.size:Int):=by rw[Z4];omega
 have hq:((bs (itoa (k:Int))).toList==t.toList)=true:=by rw[←q0s t,q0x,G8,←h3];simp
 have hq2:=q7h hq
 have hk0:¬(k:Int)<0:=by omega
 have H:=zh h1
 have HT:=zh htab
 clear h h1 h2 h3 htab
 go_enter Tryz.func122,Tryz.ntmps122
 go_wp2_with fail
 refine(q2u t ht (k:Int) H.out _).mono ?_
 rintro e w1 ⟨rfl,hb⟩
 have HT1:=zh (HT.out.below hb)
 go_wp2_with fail
 refine(q6y (k:Int) b0 b1 _ HT1.out).mono ?_
 rintro e w2 ⟨rfl,hb2⟩
 have hb3:=hb.trans (hb2.mono hb.size)
 clear hb hb2
 go_wp2
 go_ret2
 exact⟨rfl,hb3⟩
theorem q9g(t:ByteArray)(ht:t.size≤2^40)(m:Nat)(hm:m≤1000)(h:V1 t.data.toList m=none)(w:World)(htab:Tabs w)(hp:Perrs w) :
  Calls Tryz.prog 122 #[.string t,.int .i64 (m:Int)] w fun e w'=>e= .returned (.tuple #[.int .i64 0,.bool false])∧Below w.heap.size w w':=by
 have HT:=zh htab
 have HP:=zh hp
 clear htab hp
 cases hv:q2r t.data.toList with
 | none=>
  have H:=zh hv
  clear h hv
  go_enter Tryz.func122,Tryz.ntmps122
  go_wp2_with fail
  refine(q2v t ht H.out _ HP.out).mono ?_
  rintro e w1 ⟨x,T,q,rfl,hb⟩
  go_wp2
  go_ret2
  exact⟨rfl,hb⟩
 | some v=>
  obtain⟨b0,b1⟩:=q9e hv
  have H:=zh hv
  by_cases h1:t.data.toList.length≤m
  ·have hz:¬(m:Int)<(t.size:Int):=by rw[Z4];omega
   by_cases h2:0≤v
   ·have h3:itoa v≠t.data.toList:=fun e=>by
     unfold V1 at h;rw[hv]at h;simp only at h
     rw[if_pos ⟨h1,h2,e⟩]at h;cases h
    have hq:((bs (itoa v)).toList==t.toList)=false:=by rw[←q0s t,q0x];exact decide_eq_false h3
    have hq2:=q7h hq
    have hk0:¬v<0:=by omega
    clear h hv h1 h2 h3
    go_enter Tryz.func122,Tryz.ntmps122
    go_wp2_with fail
    refine(q2u t ht v H.out _).mono ?_
    rintro e w1 ⟨rfl,hb⟩
    have HT1:=zh (HT.out.below hb)
    go_wp2_with fail
    refine(q6y v b0 b1 _ HT1.out).mono ?_
    rintro e w2 ⟨rfl,hb2⟩
    have hb3:=hb.trans (hb2.mono hb.size)
    clear hb hb2
    go_wp2
    go_ret2
    exact⟨rfl,hb3⟩
   ·have hk0:v<0:=by omega
    clear h hv h1 h2
    go_enter Tryz.func122,Tryz.ntmps122
    go_wp2_with fail
    refine(q2u t ht v H.out _).mono ?_
    rintro e w1 ⟨rfl,hb⟩
    go_wp2
    go_ret2
    exact⟨rfl,hb⟩
  ·have hz:(m:Int)<(t.size:Int):=by rw[Z4];omega
   clear h hv h1
   go_enter Tryz.func122,Tryz.ntmps122
   go_wp2_with fail
   refine(q2u t ht v H.out _).mono ?_
   rintro e w1 ⟨rfl,hb⟩
   go_wp2
   go_ret2
   exact⟨rfl,hb⟩
theorem q9h(s:ByteArray)(b:UInt8)(hs:s.size≤2^30)(d r:Bytes)(h:J1 b s.data.toList=some (d,r))(w:World)(hm:MaxL w) :
  Calls Tryz.prog 119 #[.string s,.string ⟨#[b]⟩] w fun e w'=>e= .returned (.tuple #[.string (bs d),.string (bs r),.bool true])∧Below w.heap.size w w':=by
 obtain⟨m,hm⟩:=hm
 refine(Tryz.strings_Cut s ⟨#[b]⟩ m w (by omega) hm).mono ?_
 rintro e w' ⟨he,n,hw⟩
 rw[show(⟨#[b]⟩:ByteArray).data.toList= [b]from rfl,q2p b _ d r h]at he
 exact⟨he,by rw[hw];exact⟨rfl,rfl,rfl,zl _,fun _ _=>rfl⟩⟩
theorem q9i(s:ByteArray)(b:UInt8)(hs:s.size≤2^30)(h:J1 b s.data.toList=none)(w:World)(hm:MaxL w) :
  Calls Tryz.prog 119 #[.string s,.string ⟨#[b]⟩] w fun e w'=>e= .returned (.tuple #[.string s,.string ⟨#[]⟩,.bool false])∧Below w.heap.size w w':=by
 obtain⟨m,hm⟩:=hm
 refine(Tryz.strings_Cut s ⟨#[b]⟩ m w (by omega) hm).mono ?_
 rintro e w' ⟨he,n,hw⟩
 rw[show(⟨#[b]⟩:ByteArray).data.toList= [b]from rfl,q2q b _ h]at he
 refine⟨by rw[he],by rw[hw];exact⟨rfl,rfl,rfl,zl _,fun _ _=>rfl⟩⟩
def G4(l:Bytes):Option (Nat×Nat):=match J1 45 l with
 | none=>none
 | some (h,d)=>match K9 h,V1 d 6 with
  | some n,some k=>some (n,k)
  | _,_=>none
theorem q9j(w:World)(b:Nat)(x y u v:Value)(h0:w.cell? ⟨b,0,none⟩=some x)(h1:w.cell? ⟨b,1,none⟩=some y) :
  ((w.setCell ⟨b,0,none⟩ u).setCell ⟨b,1,none⟩ v).cell? ⟨b,0,none⟩=some u∧((w.setCell ⟨b,0,none⟩ u).setCell ⟨b,1,none⟩ v).cell? ⟨b,1,none⟩=some v:=by
 have hne:(⟨b,0,none⟩:Addr)≠⟨b,1,none⟩:=by intro h;injection h with _ h;cases h
 have p1:(w.setCell ⟨b,0,none⟩ u).cell? ⟨b,1,none⟩=some y:=(World.cell?_setCell_other _ _ _ _ hne).trans h1
 have p0:(w.setCell ⟨b,0,none⟩ u).cell? ⟨b,0,none⟩=some u:=World.cell?_setCell_same _ _ _ h0
 exact⟨(World.cell?_setCell_other _ _ _ _ hne.symm).trans p0,World.cell?_setCell_same _ _ _ p1⟩
theorem q9k(t:ByteArray)(ht:t.size≤2^30)(n k:Nat)(h:G4 t.data.toList=some (n,k))(w:World)(htab:Tabs w)(hm:MaxL w) :
  Calls Tryz.prog 180 #[.string t] w fun e w'=>e= .returned (.tuple #[.agg #[.int .u32 (n:Int),.int .i64 (k:Int)],.nilIface])∧Below w.heap.size w w':=by
 obtain⟨hh,d,hc,hu,hk⟩:∃hh d,J1 45 t.data.toList=some (hh,d)∧K9 hh=some n∧V1 d 6=some k:=by
  unfold G4 at h
  split at h
  ·cases h
  ·next a b hc=>
   split at h
   ·next x y hx hy=>
    simp only[Option.some.injEq,Prod.mk.injEq]at h
    obtain⟨rfl,rfl⟩:=h
    exact⟨a,b,hc,hx,hy⟩
   ·cases h
 obtain⟨hl,_⟩:=D8 _ _ _ _ hc
 have hsz:(bs hh).size≤2^40∧(bs d).size≤2^40:=by
  have:=congrArg List.length hl
  rw[←Z4,List.length_append,List.length_cons]at this
  rw[Q8,Q8];omega
 have HC:=zh hc
 have HU:Hid (K9 (bs hh).data.toList=some n):=zh (by rw[Q3];exact hu)
 have HK:Hid (V1 (bs d).data.toList 6=some k):=zh (by rw[Q3];exact hk)
 obtain⟨hs1,hs2⟩:=hsz
 have hb0:Below w.heap.size w (w.alloc (.cells #[.int .u32 0,.int .i64 0] 25)):=(zb _ w).alloc (zl _) _
 have HT:=zh (htab.below hb0)
 have HM:=zh (hm.below hb0)
 have hc0:(w.alloc (.cells #[.int .u32 0,.int .i64 0] 25)).cell? ⟨w.heap.size,0,none⟩=some (.int .u32 0):=by rw[World.cell?_alloc_at _ _ _ _ rfl];rfl
 have hc1:(w.alloc (.cells #[.int .u32 0,.int .i64 0] 25)).cell? ⟨w.heap.size,1,none⟩=some (.int .i64 0):=by rw[World.cell?_alloc_at _ _ _ _ rfl];rfl
 have hf:∀j,(w.alloc (.cells #[.int .u32 0,.int .i64 0] 25)).frozen? ⟨w.heap.size,j,none⟩=false:=fun j=>World.frozen?_alloc_new _ _ _ _
 have hz0:w.heap.size<(w.alloc (.cells #[.int .u32 0,.int .i64 0] 25)).heap.size:=by simp
 clear h htab hm hc hl hu hk
 go_enter Tryz.func180,Tryz.ntmps180
 go_wp2_with fail
 generalize w.alloc (.cells #[.int .u32 0,.int .i64 0] 25)=w0 at *
 refine(q9h t 45 ht hh d HC.out _ HM.out).mono ?_
 rintro e w1 ⟨rfl,hb1⟩
 have HT1:=zh (HT.out.below hb1)
 go_wp2_with fail
 refine(q7i (bs hh) hs1 n HU.out _ HT1.out).mono ?_
 rintro e w2 ⟨rfl,hb2⟩
 have hb3:=hb1.trans (hb2.mono hb1.size)
 have HT2:=zh (HT.out.below hb3)
 clear hb1 hb2
 go_wp2_with fail
 refine(q9f (bs d) hs2 6 k (by decide) HK.out _ HT2.out).mono ?_
 rintro e w3 ⟨rfl,hb4⟩
 have hb5:=hb3.trans (hb4.mono hb3.size)
 have d0:=(hb5.cell (p:=⟨w.heap.size,0,none⟩) hz0).trans hc0
 have d1:=(hb5.cell (p:=⟨w.heap.size,1,none⟩) hz0).trans hc1
 have f0:w3.frozen? ⟨w.heap.size,0,none⟩=false:=(hb5.frozen (p:=⟨w.heap.size,0,none⟩) hz0).trans (hf 0)
 have f1:w3.frozen? ⟨w.heap.size,1,none⟩=false:=(hb5.frozen (p:=⟨w.heap.size,1,none⟩) hz0).trans (hf 1)
 have hb6:=hb0.trans (hb5.mono hb0.size)
 clear hb3 hb4 hb5 hc0 hc1 hf
 obtain⟨t0,t1⟩:=q9j w3 w.heap.size _ _ (.int .u32 (n:Int)) (.int .i64 (k:Int)) d0 d1
 have hb7:=(hb6.setCell (p:=⟨w.heap.size,0,none⟩) (zl _) (.int .u32 (n:Int))).setCell (p:=⟨w.heap.size,1,none⟩) (zl _) (.int .i64 (k:Int))
 clear hb6
 go_wp2
 refine bodyPost_ret (v:= .tuple #[.agg #[.int .u32 (n:Int),.int .i64 (k:Int)],.nilIface]) (by simp[results,Tryz.results180,go_sem,t0,t1]) rfl ?_
 exact⟨rfl,hb7⟩
theorem q9l(t:ByteArray)(ht:t.size≤2^40)(w:World)(htab:Tabs w)(hp:Perrs w) :
  Calls Tryz.prog 121 #[.string t] w fun e w'=>∃x,e= .returned (.tuple #[.int .u32 x,.bool (K9 t.data.toList).isSome])∧Below w.heap.size w w':=by
 cases h:K9 t.data.toList with
 | none=>exact(q7j t ht h w htab hp).mono fun e w' ⟨he,hb⟩=>⟨_,he,hb⟩
 | some n=>exact(q7i t ht n h w htab).mono fun e w' ⟨he,hb⟩=>⟨_,he,hb⟩
theorem q9m(t:ByteArray)(ht:t.size≤2^40)(m:Nat)(hm:m≤1000)(w:World)(htab:Tabs w)(hp:Perrs w) :
  Calls Tryz.prog 122 #[.string t,.int .i64 (m:Int)] w fun e w'=>∃x,e= .returned (.tuple #[.int .i64 x,.bool (V1 t.data.toList m).isSome])∧Below w.heap.size w w':=by
 cases h:V1 t.data.toList m with
 | none=>exact(q9g t ht m hm h w htab hp).mono fun e w' ⟨he,hb⟩=>⟨_,he,hb⟩
 | some n=>exact(q9f t ht m n hm h w htab).mono fun e w' ⟨he,hb⟩=>⟨_,he,hb⟩
theorem q9n(a:Nat→Addr)(t:ByteArray)(ht:t.size≤2^30)(h:G4 t.data.toList=none)(w:World)(htab:Tabs w)(hm:MaxL w)(hp:Perrs w)(hs:SomeS [0] a w) :
  Calls Tryz.prog 180 #[.string t] w fun e w'=>e= .returned (.tuple #[.agg #[.int .u32 0,.int .i64 0],sval a 0])∧Below w.heap.size w w':=by
 have hb0:Below w.heap.size w (w.alloc (.cells #[.int .u32 0,.int .i64 0] 25)):=(zb _ w).alloc (zl _) _
 have HT:=zh (htab.below hb0)
 have HM:=zh (hm.below hb0)
 have HP:=zh (hp.below hb0)
 have HS:=zh (hs.below hb0)
 have hc0:(w.alloc (.cells #[.int .u32 0,.int .i64 0] 25)).cell? ⟨w.heap.size,0,none⟩=some (.int .u32 0):=by rw[World.cell?_alloc_at _ _ _ _ rfl];rfl
 have hc1:(w.alloc (.cells #[.int .u32 0,.int .i64 0] 25)).cell? ⟨w.heap.size,1,none⟩=some (.int .i64 0):=by rw[World.cell?_alloc_at _ _ _ _ rfl];rfl
 have hf:∀j,(w.alloc (.cells #[.int .u32 0,.int .i64 0] 25)).frozen? ⟨w.heap.size,j,none⟩=false:=fun j=>World.frozen?_alloc_new _ _ _ _
 have hz0:w.heap.size<(w.alloc (.cells #[.int .u32 0,.int .i64 0] 25)).heap.size:=by simp
 have hgl:4<w.heap.size:=World.block_lt_of_cell? w _ (hs 0 (by simp))
 clear htab hm hp hs
 cases hc:J1 45 t.data.toList with
 | none=>
  have HC:=zh hc
  clear h hc
  go_enter Tryz.func180,Tryz.ntmps180
  go_wp2_with fail
  generalize w.alloc (.cells #[.int .u32 0,.int .i64 0] 25)=w0 at *
  refine(q9i t 45 ht HC.out _ HM.out).mono ?_
  rintro e w1 ⟨rfl,hb1⟩
  have HT1:=zh (HT.out.below hb1)
  have HP1:=zh (HP.out.below hb1)
  go_wp2_with fail
  refine(q9l t (by omega) _ HT1.out HP1.out).mono ?_
  rintro e w2 ⟨x,rfl,hb2⟩
  have hb3:=hb1.trans (hb2.mono hb1.size)
  have HT2:=zh (HT.out.below hb3)
  have HP2:=zh (HP.out.below hb3)
  clear hb1 hb2
  generalize(K9 t.data.toList).isSome=ok1 at *
  go_wp2_with fail
  refine(q9m ⟨#[]⟩ (by decide) 6 (by decide) _ HT2.out HP2.out).mono ?_
  rintro e w3 ⟨y,rfl,hb4⟩
  have hb5:=hb3.trans (hb4.mono hb3.size)
  have d0:=(hb5.cell (p:=⟨w.heap.size,0,none⟩) hz0).trans hc0
  have d1:=(hb5.cell (p:=⟨w.heap.size,1,none⟩) hz0).trans hc1
  have f0:w3.frozen? ⟨w.heap.size,0,none⟩=false:=(hb5.frozen (p:=⟨w.heap.size,0,none⟩) hz0).trans (hf 0)
  have f1:w3.frozen? ⟨w.heap.size,1,none⟩=false:=(hb5.frozen (p:=⟨w.heap.size,1,none⟩) hz0).trans (hf 1)
  have s0:w3.cell? ⟨4,0,none⟩=some (sval a 0):=(HS.out.below hb5) 0 (by simp)
  unfold sval at s0
  have hb6:=hb0.trans (hb5.mono hb0.size)
  generalize(V1 (⟨#[]⟩:ByteArray).data.toList 6).isSome=ok2 at *
  clear hb3 hb4 hb5 hc0 hc1 hf
  have hb7:=((hb6.setCell (p:=⟨w.heap.size,0,none⟩) (zl _) (.int .u32 0)).setCell (p:=⟨w.heap.size,1,none⟩) (zl _) (.int .i64 0)).drew
  obtain⟨t0,t1⟩:=q9j w3 w.heap.size _ _ (.int .u32 0) (.int .i64 0) d0 d1
  have t2:(w3.setCell ⟨w.heap.size,0,none⟩ (.int .u32 0)).cell? ⟨w.heap.size,0,none⟩=some (.int .u32 0):=World.cell?_setCell_same _ _ _ d0
  have hne:¬(4=w.heap.size):=by omega
  clear hb6
  go_wp2
  go_region
  go_wp2
  refine bodyPost_ret (v:= .tuple #[.agg #[.int .u32 0,.int .i64 0],.iface 376 (.pointer (some (a 0)))]) (by simp[results,Tryz.results180,go_sem,t0,t1,t2]) rfl ?_
  exact⟨rfl,hb7⟩
 | some p=>
  obtain⟨hh,d⟩:=p
  obtain⟨hl,_⟩:=D8 _ _ _ _ hc
  have hsz:(bs hh).size≤2^40∧(bs d).size≤2^40:=by
   have:=congrArg List.length hl
   rw[←Z4,List.length_append,List.length_cons]at this
   rw[Q8,Q8];omega
  obtain⟨hs1,hs2⟩:=hsz
  have hor:(K9 hh).isSome=false∨((K9 hh).isSome=true∧(V1 d 6).isSome=false):=by
   unfold G4 at h
   rw[hc]at h
   cases h1:K9 hh with
   | none=>exact .inl rfl
   | some n=>
    cases h2:V1 d 6 with
    | none=>exact .inr ⟨rfl,rfl⟩
    | some k=>simp[h1,h2]at h
  have HC:=zh hc
  have HOR:=zh hor
  clear h hc hl hor
  go_enter Tryz.func180,Tryz.ntmps180
  go_wp2_with fail
  generalize w.alloc (.cells #[.int .u32 0,.int .i64 0] 25)=w0 at *
  refine(q9h t 45 ht hh d HC.out _ HM.out).mono ?_
  rintro e w1 ⟨rfl,hb1⟩
  have HT1:=zh (HT.out.below hb1)
  have HP1:=zh (HP.out.below hb1)
  go_wp2_with fail
  refine(q9l (bs hh) hs1 _ HT1.out HP1.out).mono ?_
  rintro e w2 ⟨x,rfl,hb2⟩
  have hb3:=hb1.trans (hb2.mono hb1.size)
  have HT2:=zh (HT.out.below hb3)
  have HP2:=zh (HP.out.below hb3)
  clear hb1 hb2
  rw[Q3]
  generalize(K9 hh).isSome=ok1 at *
  go_wp2_with fail
  refine(q9m (bs d) hs2 6 (by decide) _ HT2.out HP2.out).mono ?_
  rintro e w3 ⟨y,rfl,hb4⟩
  have hb5:=hb3.trans (hb4.mono hb3.size)
  have d0:=(hb5.cell (p:=⟨w.heap.size,0,none⟩) hz0).trans hc0
  have d1:=(hb5.cell (p:=⟨w.heap.size,1,none⟩) hz0).trans hc1
  have f0:w3.frozen? ⟨w.heap.size,0,none⟩=false:=(hb5.frozen (p:=⟨w.heap.size,0,none⟩) hz0).trans (hf 0)
  have f1:w3.frozen? ⟨w.heap.size,1,none⟩=false:=(hb5.frozen (p:=⟨w.heap.size,1,none⟩) hz0).trans (hf 1)
  have s0:w3.cell? ⟨4,0,none⟩=some (sval a 0):=(HS.out.below hb5) 0 (by simp)
  unfold sval at s0
  have hb6:=hb0.trans (hb5.mono hb0.size)
  rw[Q3]
  generalize(V1 d 6).isSome=ok2 at *
  clear hb3 hb4 hb5 hc0 hc1 hf
  rcases HOR.out with rfl|⟨rfl,rfl⟩
  ·have hb7:=((hb6.setCell (p:=⟨w.heap.size,0,none⟩) (zl _) (.int .u32 0)).setCell (p:=⟨w.heap.size,1,none⟩) (zl _) (.int .i64 0)).drew
   obtain⟨t0,t1⟩:=q9j w3 w.heap.size _ _ (.int .u32 0) (.int .i64 0) d0 d1
   have t2:(w3.setCell ⟨w.heap.size,0,none⟩ (.int .u32 0)).cell? ⟨w.heap.size,0,none⟩=some (.int .u32 0):=World.cell?_setCell_same _ _ _ d0
   have hne:¬(4=w.heap.size):=by omega
   clear hb6
   go_wp2
   go_region
   go_wp2
   refine bodyPost_ret (v:= .tuple #[.agg #[.int .u32 0,.int .i64 0],.iface 376 (.pointer (some (a 0)))]) (by simp[results,Tryz.results180,go_sem,t0,t1,t2]) rfl ?_
   exact⟨rfl,hb7⟩
  ·have hb7:=((hb6.setCell (p:=⟨w.heap.size,0,none⟩) (zl _) (.int .u32 0)).setCell (p:=⟨w.heap.size,1,none⟩) (zl _) (.int .i64 0)).drew
   obtain⟨t0,t1⟩:=q9j w3 w.heap.size _ _ (.int .u32 0) (.int .i64 0) d0 d1
   have t2:(w3.setCell ⟨w.heap.size,0,none⟩ (.int .u32 0)).cell? ⟨w.heap.size,0,none⟩=some (.int .u32 0):=World.cell?_setCell_same _ _ _ d0
   have hne:¬(4=w.heap.size):=by omega
   clear hb6
   go_wp2
   go_region
   go_wp2
   refine bodyPost_ret (v:= .tuple #[.agg #[.int .u32 0,.int .i64 0],.iface 376 (.pointer (some (a 0)))]) (by simp[results,Tryz.results180,go_sem,t0,t1,t2]) rfl ?_
   exact⟨rfl,hb7⟩
structure PrW(w:World):Prop where
 t:Tabs w
 m:MaxL w
theorem PrW.below{w w':World}(h:PrW w)(hb:Below w.heap.size w w'):PrW w':=⟨h.t.below hb,h.m.below hb⟩
theorem q9o(d:Nat)(h:d<16):hexc d≠45:=(show ∀e:Fin 16,hexc e.1≠45 by decide) ⟨d,h⟩
theorem q9p(p:Nat):(45:UInt8)∉hex8 p:=fun h=>by
 unfold hex8 hexL at h
 obtain⟨j,_,hj⟩:=List.mem_map.1 h
 exact q9o _ (Nat.mod_lt _ (by decide)) hj
theorem q9q(p k:Nat)(hp:p<4294967296)(hk:k<1000000):G4 (V2 p (k:Int))=some (p,k):=by
 unfold V2
 rw[if_neg (by omega),G8]
 unfold G4
 rw[q2k 45 (hex8 p) _ (q9p p)]
 simp only[q3x p hp,q9d k 6 (by omega) (by rw[decDigits_length];exact D7 k 5 (by omega))]
def D2(b:UInt8):Bytes→Bytes→List Bytes
 | cur,[]=> [cur]
 | cur,c::l=>if c=b then cur::D2 b [] l else D2 b (cur++ [c]) l
def K5(b:UInt8)(l:Bytes):List Bytes:=D2 b [] l
theorem q9r(b:UInt8)(l:Bytes):∀cur,b∉l→D2 b cur l= [cur++l]:=by
 induction l with
 | nil=>intro cur _;simp[D2]
 | cons c l ih=>
  intro cur h
  have hc:c≠b:=fun e=>h (by simp[e])
  rw[D2,if_neg hc,ih _ (fun e=>h (List.mem_cons_of_mem _ e)),List.append_assoc];rfl
theorem q9s(b:UInt8)(d r:Bytes):∀cur,b∉d→D2 b cur (d++b::r)=(cur++d)::D2 b [] r:=by
 induction d with
 | nil=>intro cur _;simp[D2]
 | cons c d ih=>
  intro cur h
  have hc:c≠b:=fun e=>h (by simp[e])
  rw[List.cons_append,D2,if_neg hc,ih _ (fun e=>h (List.mem_cons_of_mem _ e)),List.append_assoc];rfl
theorem q9t(b:UInt8)(l:Bytes):∀cur,D2 b cur l≠ []:=by
 induction l with
 | nil=>intro cur;simp[D2]
 | cons c l ih=>intro cur;rw[D2];split<;>simp[ih]
theorem q9u(b:UInt8)(l:Bytes):∀cur,(D2 b cur l).length≤l.length+1:=by
 induction l with
 | nil=>intro cur;simp[D2]
 | cons c l ih=>
  intro cur
  rw[D2]
  split
  ·have:=ih [];simp;omega
  ·have:=ih (cur++ [c]);simp;omega
def CutSt(b:UInt8)(L:Bytes)(done:List Bytes)(f k:Nat):Prop:=K5 b L=done++D2 b ((L.take k).drop f) (L.drop k)
theorem CutSt.start(b:UInt8)(L:Bytes):CutSt b L [] 0 0:=rfl
theorem CutSt.hit{b:UInt8}{L:Bytes}{done:List Bytes}{f k:Nat}(h:CutSt b L done f k)(hk:k<L.length)(e:L[k]=b):CutSt b L (done++ [(L.take k).drop f]) (k+1) (k+1):=by
 unfold CutSt at h ⊢
 rw[h,List.drop_eq_getElem_cons hk,D2,if_pos e,List.append_assoc,q1m];rfl
theorem CutSt.miss{b:UInt8}{L:Bytes}{done:List Bytes}{f k:Nat}(h:CutSt b L done f k)(hf:f≤k)(hk:k<L.length)(e:L[k]≠b):CutSt b L done f (k+1):=by
 unfold CutSt at h ⊢
 rw[h,List.drop_eq_getElem_cons hk,D2,if_neg e,q1k L f k hf hk]
theorem CutSt.done{b:UInt8}{L:Bytes}{done:List Bytes}{f:Nat}(h:CutSt b L done f L.length):K5 b L=done++ [L.drop f]:=by
 unfold CutSt at h
 rw[h,List.take_of_length_le (zl _),List.drop_eq_nil_of_le (zl _),D2]
theorem CutSt.len{b:UInt8}{L:Bytes}{done:List Bytes}{f k:Nat}(h:CutSt b L done f k):done.length≤L.length:=by
 have:=q9u b L []
 have hne:=q9t b (L.drop k) ((L.take k).drop f)
 unfold CutSt K5 at h
 rw[h,List.length_append]at this
 have:0<(D2 b ((L.take k).drop f) (L.drop k)).length:=List.length_pos_iff.2 hne
 omega
end Go.Proofs.YtdmlghfggninbaaGreatDoor
