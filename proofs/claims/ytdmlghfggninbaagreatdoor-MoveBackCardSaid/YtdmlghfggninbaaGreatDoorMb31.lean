/- PrT, PrV, PrR, ErrAm, ErrIs, Code, SentL, LaidJ, LaidK, LaidP in one text. Conditions: as each part says. -/
import Derived.Test.YtdmlghfggninbaaGreatDoorMb27
import Derived.Test.YtdmlghfggninbaaGreatDoorMb12
import Derived.Test.YtdmlghfggninbaaGreatDoorMb30
import Derived.Lib.ItoaLen
import Derived.Test.YtdmlghfggninbaaGreatDoorChecked
import Derived.WalkKit
import Derived.LaidEql
import Derived.Stop.Asserts
import Derived.RowKitTokens
import Derived.Test.YtdmlghfggninbaaGreatDoorMb4
import Derived.Lib.LaidTab
set_option linter.unusedVariables false
set_option linter.unusedSimpArgs false
set_option maxHeartbeats 4000000
set_option maxRecDepth 100000
namespace Go.Proofs.YtdmlghfggninbaaGreatDoor
open Go.RowKit Go.Lib
theorem q6y(n:Int)(h0: -9223372036854775808≤n)(h1:n≤9223372036854775807)(w:World)(h:Tabs w) :
  Calls Tryz.prog 51 #[.int .i64 n] w fun e w'=>e= .returned (.string (bs (itoa n)))∧Below w.heap.size w w':=
 (Tryz.strconv_Itoa n h0 h1 w h.tab).mono fun e w' ⟨he,k,os,hw⟩=>⟨he,by rw[hw];exact Lib.below_grow _ _ (zl _) _ _⟩
theorem q6z(a b:Bytes):bs a++bs b=bs (a++b):=by
 apply q0t
 rw[Q3,show(bs a++bs b).data.toList=(bs a).data.toList++(bs b).data.toList by simp,Q3,Q3]
theorem q7a(c:Nat):repeatL [48] c=List.replicate c 48:=by
 induction c with
 | zero=>rfl
 | succ c ih=>rw[repeatL,ih];rfl
theorem q7b(c:Nat)(hc:c≤8)(w:World) :
  Calls Tryz.prog 113 #[.string ⟨#[48]⟩,.int .i64 (c:Int)] w fun e w'=>e= .returned (.string (bs (List.replicate c 48)))∧Below w.heap.size w w':=
 (Tryz.strings_Repeat ⟨#[48]⟩ c _ (by omega) (by rw[show(⟨#[48]⟩:ByteArray).size=1 from rfl];omega)).mono fun e w' ⟨he,hb⟩=>⟨by rw[he,←q7a];rfl,hb⟩
theorem q7c(n:Nat)(hn:n<4294967296)(w:World)(h:Tabs w) :
  Calls Tryz.prog 54 #[.int .u32 (n:Int)] w fun e w'=>e= .returned (.string (bs (hex8 n)))∧Below w.heap.size w w':=by
 have HT:=zh h
 clear h
 go_enter Tryz.func54,Tryz.ntmps54
 go_wp2_with fail
 refine(q6g n hn _ HT.out.db).mono ?_
 rintro e w1 ⟨L,h1,h2,h3,rfl,hb⟩
 have HQ:=zh (q3q n L h3 h2)
 have hsz:((bs (hexL n L)).size:Int)=(L:Int):=by rw[Q8,X8]
 go_wp2_with fail
 rw[show(8-(L:Int))=((8-L:Nat):Int) by omega]
 refine(q7b (8-L) (by omega) _).mono ?_
 rintro e w2 ⟨rfl,hb2⟩
 have hz2:(bs (List.replicate (8-L) 48)).size=8-L:=by rw[Q8,List.length_replicate]
 have hb3:=hb.trans (hb2.mono hb.size)
 clear hb hb2
 go_wp2
 go_ret
 exact⟨by rw[←HQ.out,←q6z];rfl,hb3⟩
def V2(p:Nat)(l:Int):Bytes:=if l<0 then[]else hex8 p++45::itoa l
theorem q7d(p:Nat)(l:Int)(hp:p<4294967296)(h0: -9223372036854775808≤l)(h1:l≤9223372036854775807)(w:World)(h:Tabs w) :
  Calls Tryz.prog 107 #[.agg #[.int .u32 (p:Int),.int .i64 l]] w fun e w'=>e= .returned (.string (bs (V2 p l)))∧Below w.heap.size w w':=by
 have HT:=zh h
 clear h
 by_cases hl:l<0
 ·have HQ:Hid (V2 p l= []):=zh (by unfold V2;rw[if_pos hl])
  have hb:=(zb w.heap.size w).alloc (zl _) (.cells #[.int .u32 (p:Int),.int .i64 l] 25)
  go_enter Tryz.func107,Tryz.ntmps107
  go_wp2
  go_ret
  exact⟨by rw[HQ.out];rfl,hb⟩
 ·have HQ:Hid (V2 p l=hex8 p++45::itoa l):=zh (by unfold V2;rw[if_neg hl])
  have hz1:(bs (hex8 p)).size=8:=by rw[Q8];unfold hex8;rw[X8]
  have hz3:(bs (hex8 p)++⟨#[45]⟩).size=9:=by rw[ByteArray.size_append,hz1];rfl
  have hz2:(bs (itoa l)).size≤21:=by rw[Q8];exact itoa_length_le l h0 h1
  have hb:=(zb w.heap.size w).alloc (zl _) (.cells #[.int .u32 (p:Int),.int .i64 l] 25)
  have c0:(w.alloc (.cells #[.int .u32 (p:Int),.int .i64 l] 25)).cell? ⟨w.heap.size,0,none⟩=some (.int .u32 (p:Int)):=by rw[World.cell?_alloc_at _ _ _ _ rfl];rfl
  have c1:(w.alloc (.cells #[.int .u32 (p:Int),.int .i64 l] 25)).cell? ⟨w.heap.size,1,none⟩=some (.int .i64 l):=by rw[World.cell?_alloc_at _ _ _ _ rfl];rfl
  have hlt:w.heap.size<(w.alloc (.cells #[.int .u32 (p:Int),.int .i64 l] 25)).heap.size:=by simp
  go_enter Tryz.func107,Tryz.ntmps107
  go_wp2_with fail
  generalize w.alloc (.cells #[.int .u32 (p:Int),.int .i64 l] 25)=w1 at *
  have HT1:=zh (HT.out.below hb)
  have cc:∀w':World,Below w1.heap.size w1 w'→w'.cell? ⟨w.heap.size,0,none⟩=some (.int .u32 (p:Int))∧w'.cell? ⟨w.heap.size,1,none⟩=some (.int .i64 l):=fun w' h=>⟨(h.cell (p:=⟨w.heap.size,0,none⟩) hlt).trans c0,(h.cell (p:=⟨w.heap.size,1,none⟩) hlt).trans c1⟩
  have CC:=zh cc
  clear cc c0 c1
  have hB0:Below w1.heap.size w1 w1.drew:=(zb _ w1).drew
  refine kR (fun w'=>Below w1.heap.size w1 w') 7 ?_
  refine q4r 0 rfl (by kernel_rfl) rfl hB0 (fun w' hS=>by go_simp;rfl) ?_
  refine q4r 1 rfl (by kernel_rfl) rfl hB0 (fun w' hS=>by obtain⟨h1,h2⟩:=CC.out w' hS;go_simp;rfl) ?_
  refine q4r 4 rfl (by kernel_rfl) rfl hB0 (fun w' hS=>by go_simp;rfl) ?_
  refine q4r 5 rfl (by kernel_rfl) rfl hB0 (fun w' hS=>by obtain⟨h1,h2⟩:=CC.out w' hS;go_simp;rfl) ?_
  refine q4s 2 rfl (by kernel_rfl) (by decide) rfl (fun K hK=> ?_)
  go_simp
  refine(q7c p hp _ (HT1.out.below hB0)).mono ?_
  rintro e w2 ⟨rfl,hb2⟩
  have hB2:Below w1.heap.size w1 w2:=hB0.trans (hb2.mono hB0.size)
  refine hK _ _ hB2 ?_
  clear hK K
  try simp only[Act.put,List.setIfInBounds_toArray,List.set_cons_zero,List.set_cons_succ]
  refine q4r 3 rfl (by kernel_rfl) rfl hB2 (fun w' hS=>by go_simp;rfl) ?_
  refine kC 6 (fun K hK=> ?_)
  go_simp
  refine(q6y l h0 h1 _ (HT1.out.below hB2)).mono ?_
  rintro e w3 ⟨rfl,hb3⟩
  have hB3:Below w1.heap.size w1 w3:=hB2.trans (hb3.mono hB2.size)
  refine hK _ _ hB3 (kF ?_)
  clear hK K
  try simp only[Act.put,List.setIfInBounds_toArray,List.set_cons_zero,List.set_cons_succ]
  simp only[List.drop_succ_cons,List.drop_zero]
  go_wp2
  go_ret
  refine⟨?_,hb.trans (hB3.mono hb.size)⟩
  rw[HQ.out,show hex8 p++45::itoa l=(hex8 p++ [45])++itoa l by simp,←q6z,←q6z]
  rfl
theorem q7e(s:ByteArray)(w:World)(hs:s.size≤maxLen) :
  Calls Tryz.prog 126 #[.string s] w fun e w'=>e= .returned (.agg #[.int .u32 (prOf s.data.toList:Nat),.int .i64 (s.size:Int)])∧Below w.heap.size w w':=by
 go_enter Tryz.func126,Tryz.ntmps126
 go_wp2_with fail
 refine(q2b s _ hs).mono ?_
 rintro e w1 ⟨rfl,rfl⟩
 have hb:=(zb w.heap.size w).alloc (zl _) (.cells #[.int .u32 0,.int .i64 0] 25)
 have hb1:=fun x=>((zb w.heap.size w).alloc (zl _) (.cells #[.int .u32 ((prOf s.data.toList:Nat):Int),x] 25))
 go_wp2
 go_returns
 exact⟨rfl,hb1 _⟩
theorem q7f(t:ByteArray)(ht:t.size≤2^40)(n:Nat)(h:B5 t.data.toList= .ok n)(w:World) :
  Calls Tryz.prog 178 #[.string t,.int .i64 16,.int .i64 32] w fun e w'=>e= .returned (.tuple #[.int .u64 (n:Int),.nilIface])∧Below w.heap.size w w':=by
 have H:=zh h
 clear h
 go_enter Tryz.func178,Tryz.ntmps178
 go_wp2_with fail
 refine(q5z t ht _).mono ?_
 rintro e w1 ⟨x,r,rfl,hp,hb⟩
 rcases hp with⟨m,h1,rfl,rfl⟩|⟨h1,_,_⟩|⟨h1,_,_⟩
 ·have hm:m=n:=by rw[H.out]at h1;injection h1 with h1;exact h1.symm
  subst hm
  clear h1
  go_wp2
  go_ret2
  exact⟨rfl,hb⟩
 ·rw[H.out]at h1;cases h1
 ·rw[H.out]at h1;cases h1
theorem q7g(t:ByteArray)(ht:t.size≤2^40)(h:∀n,B5 t.data.toList≠ .ok n)(w:World)(hp:Perrs w) :
  Calls Tryz.prog 178 #[.string t,.int .i64 16,.int .i64 32] w fun e w'=>∃x T q,e= .returned (.tuple #[.int .u64 x,.iface T q])∧Below w.heap.size w w':=by
 have H:=zh h
 have HP:=zh hp
 clear h hp
 go_enter Tryz.func178,Tryz.ntmps178
 go_wp2_with fail
 refine(q5z t ht _).mono ?_
 rintro e w1 ⟨x,r,rfl,hp,hb⟩
 have HP1:=HP.out.below hb
 rcases hp with⟨m,h1,rfl,rfl⟩|⟨h1,rfl,rfl⟩|⟨h1,rfl,rfl⟩
 ·exact absurd h1 (H.out m)
 ·obtain⟨T,q,hs⟩:=HP1.s
  have HS:=zh hs
  clear h1 hs HP1
  go_wp2_with fail
  refine(Tryz.strconv_toError_syntax _ t _ _ _ _ (by omega) HS.out (.inr ⟨_,_,rfl⟩)).mono ?_
  rintro e w2 ⟨N,rfl,_,_,hb2⟩
  have hb3:=hb.trans (hb2.mono hb.size)
  clear hb hb2
  go_wp2
  go_ret2
  exact⟨_,_,_,rfl,hb3⟩
 ·obtain⟨T,q,hs⟩:=HP1.r
  have HS:=zh hs
  clear h1 hs HP1
  go_wp2_with fail
  refine(Tryz.strconv_toError_range _ t _ _ _ _ (by omega) HS.out (.inr ⟨_,_,rfl⟩)).mono ?_
  rintro e w2 ⟨N,rfl,_,_,hb2⟩
  have hb3:=hb.trans (hb2.mono hb.size)
  clear hb hb2
  go_wp2
  go_ret2
  exact⟨_,_,_,rfl,hb3⟩
theorem q7h{a b:ByteArray}{x:Bool}(h:(a.toList==b.toList)=x):(a.toList !=b.toList)= !x:=by rw[bne,h]
theorem q7i(t:ByteArray)(ht:t.size≤2^40)(n:Nat)(h:K9 t.data.toList=some n)(w:World)(htab:Tabs w) :
  Calls Tryz.prog 121 #[.string t] w fun e w'=>e= .returned (.tuple #[.int .u32 (n:Int),.bool true])∧Below w.heap.size w w':=by
 obtain⟨hn,ht8⟩:=q3y h
 have hpx:B5 t.data.toList= .ok n:=by rw[ht8];exact q3u n hn
 have hq:((bs (hex8 n)).toList==t.toList)=true:=by
  rw[←q0s t,q0x,ht8];simp
 have hq2:=q7h hq
 have H:=zh hpx
 have HT:=zh htab
 clear h ht8 hpx htab
 go_enter Tryz.func121,Tryz.ntmps121
 go_wp2_with fail
 refine(q7f t ht n H.out _).mono ?_
 rintro e w1 ⟨rfl,hb⟩
 have HT1:=zh (HT.out.below hb)
 go_wp2_with fail
 refine(q7c n hn _ HT1.out).mono ?_
 rintro e w2 ⟨rfl,hb2⟩
 have hb3:=hb.trans (hb2.mono hb.size)
 clear hb hb2
 go_wp2
 go_ret2
 exact⟨rfl,hb3⟩
theorem q7j(t:ByteArray)(ht:t.size≤2^40)(h:K9 t.data.toList=none)(w:World)(htab:Tabs w)(hp:Perrs w) :
  Calls Tryz.prog 121 #[.string t] w fun e w'=>e= .returned (.tuple #[.int .u32 0,.bool false])∧Below w.heap.size w w':=by
 have HT:=zh htab
 have HP:=zh hp
 clear htab hp
 by_cases hok:∃n,B5 t.data.toList= .ok n
 ·obtain⟨n,hpx⟩:=hok
  have hn:=q3w hpx
  have hne:hex8 n≠t.data.toList:=fun e=>by
   unfold K9 at h
   rw[hpx]at h
   simp[e]at h
  have hq:((bs (hex8 n)).toList==t.toList)=false:=by
   rw[←q0s t,q0x];exact decide_eq_false hne
  have hq2:=q7h hq
  have H:=zh hpx
  clear h hpx hne
  go_enter Tryz.func121,Tryz.ntmps121
  go_wp2_with fail
  refine(q7f t ht n H.out _).mono ?_
  rintro e w1 ⟨rfl,hb⟩
  have HT1:=zh (HT.out.below hb)
  go_wp2_with fail
  refine(q7c n hn _ HT1.out).mono ?_
  rintro e w2 ⟨rfl,hb2⟩
  have hb3:=hb.trans (hb2.mono hb.size)
  clear hb hb2
  go_wp2
  go_ret2
  exact⟨rfl,hb3⟩
 ·have H:=zh (fun n e=>hok ⟨n,e⟩:∀n,B5 t.data.toList≠ .ok n)
  clear h hok
  go_enter Tryz.func121,Tryz.ntmps121
  go_wp2_with fail
  refine(q7g t ht H.out _ HP.out).mono ?_
  rintro e w1 ⟨x,T,q,rfl,hb⟩
  go_wp2
  go_ret2
  exact⟨rfl,hb⟩
theorem q7k(a b:Nat)(ha:a<4294967296)(hb:b<4294967296):bits .xor .i64 (a:Int) (b:Int)=((a ^^^ b:Nat):Int):=by
 have hx:a ^^^ b<2^32:=Nat.xor_lt_two_pow (by omega) (by omega)
 have h1:(BitVec.ofInt 64 (a:Int)).toNat=a:=by
  rw[BitVec.ofInt_natCast,BitVec.toNat_ofNat];exact Nat.mod_eq_of_lt (by omega)
 have h2:(BitVec.ofInt 64 (b:Int)).toNat=b:=by
  rw[BitVec.ofInt_natCast,BitVec.toNat_ofNat];exact Nat.mod_eq_of_lt (by omega)
 show IntKind.i64.wrap ((BitVec.ofInt 64 (a:Int) ^^^ BitVec.ofInt 64 (b:Int)).toNat:Int)=_
 rw[BitVec.toNat_xor,h1,h2]
 simp[IntKind.wrap,IntKind.bits,IntKind.signed]
 omega
theorem q7l(x:Nat)(c:UInt8)(hx:x<4294967296):bits .xor .i64 (x:Int) (c.toNat:Int)=((x ^^^ c.toNat:Nat):Int):=
 q7k x c.toNat hx (by have:=c.toNat_lt;omega)
theorem q7m(x:Nat)(c:UInt8)(hx:x<4294967296):(wrap64 (bits .xor .i64 (x:Int) (wrap64 (c.toNat:Int))*16777619)).tmod 4294967296=((q1q x c:Nat):Int):=by
 have hc:c.toNat<256:=c.toNat_lt
 have hy:x ^^^ c.toNat<4294967296:=Nat.xor_lt_two_pow (n:=32) hx (Nat.lt_of_lt_of_le hc (by decide))
 rw[show wrap64 (c.toNat:Int)=(c.toNat:Int) by unfold wrap64;omega,q7l x c hx]
 unfold q1q
 generalize x ^^^ c.toNat=y at hy ⊢
 rw[show wrap64 ((y:Int)*16777619)=((y*16777619:Nat):Int) by unfold wrap64;omega,Int.tmod_eq_emod_of_nonneg (by omega)]
 omega
theorem q7n(n:Nat)(hn:n<4294967296)(s:ByteArray)(w:World)(hs:s.size≤maxLen) :
  Calls Tryz.prog 105 #[.int .u32 (n:Int),.string s] w fun e w'=>e= .returned (.int .u32 (q0r n s.data.toList:Nat))∧w=w':=by
 unfold maxLen at hs
 go_enter Tryz.func105,Tryz.ntmps105
 go_wp2
 go_loop [5,6] (fun v i=>∃k:Nat,k≤s.size∧v= .int .i64 (q0r n (s.data.toList.take k):Nat)∧i= .int .i64 k) (fun _ i=>s.size-(RowKit.intOf i).toNat)
 case atStart=>exact⟨0,Nat.zero_le _,rfl,rfl⟩
 case round=>
  obtain⟨k,hk,rfl,rfl⟩:=hrel
  by_cases hlt:k<s.size
  ·have hl:=q1t n (s.data.toList.take k) hn
   have HT:=zh (q1x n s k hlt)
   generalize q0r n (s.data.toList.take k)=x at *
   have hxor:=q7l x s[k] hl
   have hxl:x ^^^ s[k].toNat<4294967296:=Nat.xor_lt_two_pow (n:=32) hl (Nat.lt_of_lt_of_le s[k].toNat_lt (by decide))
   go_wp2
   go_round
   case rel=>exact⟨k+1,hlt,by rw[HT.out,q7m x s[k] hl],by go_num⟩
   case measure=>simp[RowKit.intOf];omega
  ·obtain rfl:k=s.size:=by omega
   have hq:s.data.toList.take s.size=s.data.toList:=List.take_of_length_le (by rw[←Z4];exact zl _)
   rw[hq]
   clear hq
   have hl:=q1t n s.data.toList hn
   go_wp2
   go_ret
   exact⟨rfl,rfl⟩
theorem q7o(s:ByteArray)(w:World)(hs:s.size≤maxLen) :
  Calls Tryz.prog 48 #[.string s] w fun e w'=>e= .returned (.int .u32 (prOf s.data.toList:Nat))∧w=w':=by
 go_enter Tryz.func48,Tryz.ntmps48
 go_wp2_with fail
 refine(q7n 2166136261 (by omega) s _ hs).mono ?_
 rintro e w1 ⟨rfl,rfl⟩
 go_wp2
 go_ret
 exact⟨rfl,rfl⟩
theorem q7p(s:ByteArray)(w:World)(hs:s.size≤maxLen) :
  Calls Tryz.prog 17 #[.string s] w fun e w'=>e= .returned (.agg #[.int .u32 (prOf s.data.toList:Nat),.int .i64 (s.size:Int)])∧Below w.heap.size w w':=by
 go_enter Tryz.func17,Tryz.ntmps17
 go_wp2_with fail
 refine(q7o s _ hs).mono ?_
 rintro e w1 ⟨rfl,rfl⟩
 have hb1:=fun x=>((zb w.heap.size w).alloc (zl _) (.cells #[.int .u32 ((prOf s.data.toList:Nat):Int),x] 25))
 go_wp2
 go_returns
 exact⟨rfl,hb1 _⟩
end Go.Proofs.YtdmlghfggninbaaGreatDoor
namespace Go.Proofs.YtdmlghfggninbaaGreatDoor
open Go.RowKit Go.Extern.Stop Go.Stop Go.Extern
theorem Er.typeOfE(v:Value)(w:World):(ReflectliteType.typeOf #[.iface 376 v]).run Tryz.prog w= .ok (.iface 288 (.agg #[.pointer (some ⟨21,376,none⟩)])) w:=by kernel_rfl
theorem Er.assignableE(w:World):(ReflectliteType.relation "AssignableTo" ReflectliteType.assignableTo #[.agg #[.pointer (some ⟨21,376,none⟩)],.iface 288 (.agg #[.pointer (some ⟨21,170,none⟩)])]).run Tryz.prog w= .ok (.bool false) w:=by kernel_rfl
theorem Er.noAsE(v:Value)(xT:TypeId)(w:World):(Instr.typeAssert (.iface 376 v) xT 292 true).run Tryz.prog w= .ok (.tuple #[.nilIface,.bool false]) w:=run_typeAssert_lacksB Tryz.underlying292 (by kernel_rfl) (by kernel_rfl) v xT w
theorem Er.noUnwrapA(v:Value)(xT:TypeId)(w:World):(Instr.typeAssert (.iface 376 v) xT 295 true).run Tryz.prog w= .ok (.tuple #[.nilIface,.bool false]) w:=run_typeAssert_lacksB Tryz.underlying295 (by kernel_rfl) (by kernel_rfl) v xT w
theorem Er.noUnwrapsA(v:Value)(xT:TypeId)(w:World):(Instr.typeAssert (.iface 376 v) xT 297 true).run Tryz.prog w= .ok (.tuple #[.nilIface,.bool false]) w:=run_typeAssert_lacksB Tryz.underlying297 (by kernel_rfl) (by kernel_rfl) v xT w
theorem q7q(e t:Addr)(old:Value)(w:World)(hg:w.cell? ⟨12,0,none⟩=some (.iface 288 (.agg #[.pointer (some ⟨21,42,none⟩)])))(ht0:w.cell? t=some old)(_hf0:w.frozen? t=false) :
  Calls Tryz.prog 117 #[.iface 376 (.pointer (some e)),.iface 178 (.pointer (some t))] w fun ev w'=>ev= .returned (.bool false)∧w'=(((w.alloc (.cells #[.pointer (some t)] 178)).alloc (.cells #[.pointer (some ⟨21,178,none⟩),.pointer (some ⟨w.heap.size,0,none⟩),.int .u64 150] 234)).alloc (.cells #[.pointer (some ⟨21,178,none⟩),.pointer (some ⟨w.heap.size,0,none⟩),.int .u64 150] 234)):=by
 have h6:= @run_callFunc_extern Tryz.prog 170 _ (fun args=>ReflectliteValue.unpack (args.getD 0 (.tuple #[]))) Tryz.func170 (by kernel_rfl) (by kernel_rfl) (by kernel_rfl) (by kernel_rfl)
 have h7:= @run_callFunc_extern Tryz.prog 171 _ (ReflectliteValue.methodAny (ReflectliteValue.valueError "reflectlite.Value.Type" 0) (fun t _ _ _=>ReflectliteType.toType t)) Tryz.func171 (by kernel_rfl) (by kernel_rfl) (by kernel_rfl) (by kernel_rfl)
 have h8:= @run_callFunc_extern Tryz.prog 172 _ (ReflectliteValue.method (ReflectliteValue.valueError "reflectlite.Value.IsNil" 0) ReflectliteValue.isNil) Tryz.func172 (by kernel_rfl) (by kernel_rfl) (by kernel_rfl) (by kernel_rfl)
 have h27:= @run_callFunc_extern Tryz.prog 323 _ (ReflectliteType.abiMethod fun t=>do pure (.int .u8 (←Rtype.kind t))) Tryz.func323 (by kernel_rfl) (by kernel_rfl) (by kernel_rfl) (by kernel_rfl)
 have h37:= @run_callFunc_extern Tryz.prog 335 _ (ReflectliteType.method ReflectliteType.elem) Tryz.func335 (by kernel_rfl) (by kernel_rfl) (by kernel_rfl) (by kernel_rfl)
 have h38:= @run_callFunc_extern Tryz.prog 336 _ (ReflectliteType.relation "Implements" ReflectliteType.implements_) Tryz.func336 (by kernel_rfl) (by kernel_rfl) (by kernel_rfl) (by kernel_rfl)
 have h10:= @run_callFunc_extern Tryz.prog 174 _ ReflectliteType.typeOf Tryz.func174 (by kernel_rfl) (by kernel_rfl) (by kernel_rfl) (by kernel_rfl)
 have h35:= @run_callFunc_extern Tryz.prog 333 _ (ReflectliteType.relation "AssignableTo" ReflectliteType.assignableTo) Tryz.func333 (by kernel_rfl) (by kernel_rfl) (by kernel_rfl) (by kernel_rfl)
 have h11:= @run_callFunc_extern Tryz.prog 213 _ (ReflectliteValue.method (ReflectliteValue.valueError "reflectlite.Value.Elem" 0) ReflectliteValue.elem) Tryz.func213 (by kernel_rfl) (by kernel_rfl) (by kernel_rfl) (by kernel_rfl)
 have h12:= @run_callFunc_extern Tryz.prog 214 _ ReflectliteValue.set Tryz.func214 (by kernel_rfl) (by kernel_rfl) (by kernel_rfl) (by kernel_rfl)
 have tO:=Er.typeOfE
 have mA:=Er.methodAssignableTo
 have a25:=Er.assignableE
 have nA:=Er.noAsE
 have uE:=Er.noUnwrapA
 have vE:=Er.noUnwrapsA
 have f6:=Er.valueOf27
 have f7:=Er.type27
 have mK:=Er.methodKind
 have mE:=Er.methodElem
 have mI:=Er.methodImplements
 have k27:=Er.kind27
 have k25:=Er.kind25
 have e27:=Er.elem27
 have i25:=Er.implements25
 have n8:=Er.isNil27 ⟨w.heap.size,0,none⟩ t ((w.alloc (.cells #[.pointer (some t)] 178)).alloc (.cells #[.pointer (some ⟨21,178,none⟩),.pointer (some ⟨w.heap.size,0,none⟩),.int .u64 150] 234)) (by simp)
 have hlt:12<w.heap.size:=World.block_lt_of_cell? w _ hg
 have hg2:((w.alloc (.cells #[.pointer (some t)] 178)).alloc (.cells #[.pointer (some ⟨21,178,none⟩),.pointer (some ⟨w.heap.size,0,none⟩),.int .u64 150] 234)).cell? ⟨12,0,none⟩=some (.iface 288 (.agg #[.pointer (some ⟨21,42,none⟩)])):=by
  rw[World.cell?_alloc_lt _ _ ⟨12,0,none⟩ (by simp;omega),World.cell?_alloc_lt _ _ ⟨12,0,none⟩ hlt];exact hg
 have htl:t.block<w.heap.size:=by
  rcases Nat.lt_or_ge t.block w.heap.size with h|h
  ·exact h
  ·simp[World.cell?,Array.getElem?_eq_none h]at ht0
 go_enter Tryz.func117,Tryz.ntmps117
 go_wp2
 refine wp_loop_rounds 1 ?_
 rw[rounds_succ]
 go_wp2
 go_ret
 exact⟨rfl,rfl⟩
theorem Er.isTypeOf(v:Value)(w:World):(Extern.ReflectliteType.typeOf #[.iface 376 v]).run Tryz.prog w= .ok (.iface 288 (.agg #[.pointer (some ⟨21,376,none⟩)])) w:=by kernel_rfl
theorem Er.isComparable(w:World):((Extern.ReflectliteType.method fun t=>do Rtype.noPackHeld "Comparable" t;(fun a=>Value.bool a.comparable) <$> typeInfo t) #[.agg #[.pointer (some ⟨21,376,none⟩)]]).run Tryz.prog w= .ok (.bool true) w:=by kernel_rfl
theorem Er.isMethodComparable(v:Value)(w:World):(Go.method 506 288 v "Comparable").run Tryz.prog w= .ok (334,v) w:=by kernel_rfl
theorem Er.isComp:(Tryz.prog.info? 376).map (·.comparable)=some true:=by kernel_rfl
theorem Er.isSize:(Tryz.prog.info? 378).map (·.size)=some 1:=by kernel_rfl
theorem Er.noIsE(v:Value)(xT:TypeId)(w:World):(Instr.typeAssert (.iface 376 v) xT 299 true).run Tryz.prog w= .ok (.tuple #[.nilIface,.bool false]) w:=run_typeAssert_lacksB Tryz.underlying299 (by kernel_rfl) (by kernel_rfl) v xT w
theorem Er.noUnwrapE(v:Value)(xT:TypeId)(w:World):(Instr.typeAssert (.iface 376 v) xT 295 true).run Tryz.prog w= .ok (.tuple #[.nilIface,.bool false]) w:=run_typeAssert_lacksB Tryz.underlying295 (by kernel_rfl) (by kernel_rfl) v xT w
theorem Er.noUnwrapsE(v:Value)(xT:TypeId)(w:World):(Instr.typeAssert (.iface 376 v) xT 297 true).run Tryz.prog w= .ok (.tuple #[.nilIface,.bool false]) w:=run_typeAssert_lacksB Tryz.underlying297 (by kernel_rfl) (by kernel_rfl) v xT w
theorem Er.noIsW(v:Value)(xT:TypeId)(w:World):(Instr.typeAssert (.iface 170 v) xT 299 true).run Tryz.prog w= .ok (.tuple #[.nilIface,.bool false]) w:=run_typeAssert_lacksB Tryz.underlying299 (by kernel_rfl) (by kernel_rfl) v xT w
theorem Er.hasUnwrapW(v:Value)(xT:TypeId)(w:World):(Instr.typeAssert (.iface 170 v) xT 295 true).run Tryz.prog w= .ok (.tuple #[.iface 170 v,.bool true]) w:=run_typeAssert_hasB Tryz.underlying295 (by kernel_rfl) v xT w
theorem Er.methodUnwrap(v:Value)(w:World):(Go.method 506 170 v "Unwrap").run Tryz.prog w= .ok (328,v) w:=by kernel_rfl
theorem q7r(a:Addr)(w:World) :
  Calls Tryz.prog 118 #[.iface 376 (.pointer (some a)),.iface 376 (.pointer (some a))] w fun e w'=>e= .returned (.bool true)∧w'=w:=by
 obtain⟨i,hi,hcmp⟩:=Option.map_eq_some_iff.1 Er.isComp
 obtain⟨j,hj,hjs⟩:=Option.map_eq_some_iff.1 Er.isSize
 have h8:= @run_callFunc_extern Tryz.prog 174 _ Extern.ReflectliteType.typeOf Tryz.func174 (by kernel_rfl) (by kernel_rfl) (by kernel_rfl) (by kernel_rfl)
 have h32:= @run_callFunc_extern Tryz.prog 334 _ (Extern.ReflectliteType.method fun t=>do Rtype.noPackHeld "Comparable" t;pure (.bool (←typeInfo t).comparable)) Tryz.func334 (by kernel_rfl) (by kernel_rfl) (by kernel_rfl) (by kernel_rfl)
 have tT:=Er.isTypeOf
 have cT:=Er.isComparable
 have mR:=Er.isMethodComparable
 have heq:=run_eql_iface_ptr_same (P:=Tryz.prog) w a Tryz.underlying42 Tryz.underlying376 hi hcmp hj
 go_enter Tryz.func118,Tryz.ntmps118
 go_wp2
 refine wp_loop_rounds 1 ?_
 rw[rounds_succ]
 go_wp2
 go_ret
 exact⟨rfl,rfl⟩
theorem q7s(a b:Addr)(ca cb:Array Value)(ta tb:TypeId)(w:World)(hne:a≠b)(ha:w.heap[a.block]? =some (.cells ca ta (0,0)))(hb:w.heap[b.block]? =some (.cells cb tb (0,0))) :
  Calls Tryz.prog 118 #[.iface 376 (.pointer (some a)),.iface 376 (.pointer (some b))] w fun e w'=>e= .returned (.bool false)∧w'=w:=by
 obtain⟨i,hi,hcmp⟩:=Option.map_eq_some_iff.1 Er.isComp
 obtain⟨j,hj,hjs⟩:=Option.map_eq_some_iff.1 Er.isSize
 have h8:= @run_callFunc_extern Tryz.prog 174 _ Extern.ReflectliteType.typeOf Tryz.func174 (by kernel_rfl) (by kernel_rfl) (by kernel_rfl) (by kernel_rfl)
 have h32:= @run_callFunc_extern Tryz.prog 334 _ (Extern.ReflectliteType.method fun t=>do Rtype.noPackHeld "Comparable" t;pure (.bool (←typeInfo t).comparable)) Tryz.func334 (by kernel_rfl) (by kernel_rfl) (by kernel_rfl) (by kernel_rfl)
 have tT:=Er.isTypeOf
 have cT:=Er.isComparable
 have mR:=Er.isMethodComparable
 have nE:=Er.noIsE
 have uE:=Er.noUnwrapE
 have vE:=Er.noUnwrapsE
 have nW:=Er.noIsW
 have uW:=Er.hasUnwrapW
 have mU:=Er.methodUnwrap
 have heq:=run_eql_iface_ptr_other (P:=Tryz.prog) w Tryz.underlying42 Tryz.underlying376 hi hcmp hj (by rw[hjs];decide) hne ha hb
 go_enter Tryz.func118,Tryz.ntmps118
 go_wp2
 refine wp_loop_rounds 1 ?_
 rw[rounds_succ]
 go_wp2
 go_ret
 exact⟨rfl,rfl⟩
theorem q7t(pb po:Nat)(b:Addr)(w:World)(h1:w.cell? ⟨pb,po+1,none⟩=some (.iface 376 (.pointer (some b)))) :
  Calls Tryz.prog 118 #[.iface 170 (.pointer (some ⟨pb,po,none⟩)),.iface 376 (.pointer (some b))] w fun e w'=>e= .returned (.bool true)∧w'=w:=by
 obtain⟨i,hi,hcmp⟩:=Option.map_eq_some_iff.1 Er.isComp
 obtain⟨j,hj,hjs⟩:=Option.map_eq_some_iff.1 Er.isSize
 have h8:= @run_callFunc_extern Tryz.prog 174 _ Extern.ReflectliteType.typeOf Tryz.func174 (by kernel_rfl) (by kernel_rfl) (by kernel_rfl) (by kernel_rfl)
 have h32:= @run_callFunc_extern Tryz.prog 334 _ (Extern.ReflectliteType.method fun t=>do Rtype.noPackHeld "Comparable" t;pure (.bool (←typeInfo t).comparable)) Tryz.func334 (by kernel_rfl) (by kernel_rfl) (by kernel_rfl) (by kernel_rfl)
 have tT:=Er.isTypeOf
 have cT:=Er.isComparable
 have mR:=Er.isMethodComparable
 have nE:=Er.noIsE
 have uE:=Er.noUnwrapE
 have vE:=Er.noUnwrapsE
 have nW:=Er.noIsW
 have uW:=Er.hasUnwrapW
 have mU:=Er.methodUnwrap
 have heq:=run_eql_iface_ptr_same (P:=Tryz.prog) w b Tryz.underlying42 Tryz.underlying376 hi hcmp hj
 have hty:=run_eql_iface_types (P:=Tryz.prog) 170 376 (.pointer (some ⟨pb,po,none⟩)) (.pointer (some b)) Tryz.underlying42 (by decide) w
 go_enter Tryz.func118,Tryz.ntmps118
 go_wp2
 refine wp_loop_rounds 2 ?_
 rw[rounds_succ]
 go_wp2
 rw[rounds_succ]
 go_wp2
 go_ret
 exact⟨rfl,rfl⟩
theorem q7u(pb po:Nat)(b a:Addr)(ca cb:Array Value)(ta tb:TypeId)(w:World)(h1:w.cell? ⟨pb,po+1,none⟩=some (.iface 376 (.pointer (some a))))(hne:a≠b)(ha:w.heap[a.block]? =some (.cells ca ta (0,0)))(hb:w.heap[b.block]? =some (.cells cb tb (0,0))) :
  Calls Tryz.prog 118 #[.iface 170 (.pointer (some ⟨pb,po,none⟩)),.iface 376 (.pointer (some b))] w fun e w'=>e= .returned (.bool false)∧w'=w:=by
 obtain⟨i,hi,hcmp⟩:=Option.map_eq_some_iff.1 Er.isComp
 obtain⟨j,hj,hjs⟩:=Option.map_eq_some_iff.1 Er.isSize
 have h8:= @run_callFunc_extern Tryz.prog 174 _ Extern.ReflectliteType.typeOf Tryz.func174 (by kernel_rfl) (by kernel_rfl) (by kernel_rfl) (by kernel_rfl)
 have h32:= @run_callFunc_extern Tryz.prog 334 _ (Extern.ReflectliteType.method fun t=>do Rtype.noPackHeld "Comparable" t;pure (.bool (←typeInfo t).comparable)) Tryz.func334 (by kernel_rfl) (by kernel_rfl) (by kernel_rfl) (by kernel_rfl)
 have tT:=Er.isTypeOf
 have cT:=Er.isComparable
 have mR:=Er.isMethodComparable
 have nE:=Er.noIsE
 have uE:=Er.noUnwrapE
 have vE:=Er.noUnwrapsE
 have nW:=Er.noIsW
 have uW:=Er.hasUnwrapW
 have mU:=Er.methodUnwrap
 have heq:=run_eql_iface_ptr_other (P:=Tryz.prog) w Tryz.underlying42 Tryz.underlying376 hi hcmp hj (by rw[hjs];decide) hne ha hb
 have hty:=run_eql_iface_types (P:=Tryz.prog) 170 376 (.pointer (some ⟨pb,po,none⟩)) (.pointer (some b)) Tryz.underlying42 (by decide) w
 go_enter Tryz.func118,Tryz.ntmps118
 go_wp2
 refine wp_loop_rounds 2 ?_
 rw[rounds_succ]
 go_wp2
 rw[rounds_succ]
 go_wp2
 go_ret
 exact⟨rfl,rfl⟩
end Go.Proofs.YtdmlghfggninbaaGreatDoor
namespace Go.Proofs.YtdmlghfggninbaaGreatDoor
open Go.RowKit
structure PErr(a:Nat→Addr)(p:Addr)(m:Option Nat)(w:World):Prop where
 row:∃c t,w.heap[p.block]? =some (.cells c t (0,0))
 hit:∀k,m=some k→k<12∧p=a k
 miss:m=none→∀j,j<12→p≠a j
theorem PErr.below{a:Nat→Addr}{p:Addr}{m:Option Nat}{w w':World}(h:PErr a p m w)(hb:Below w.heap.size w w'):PErr a p m w' where
 row:=by
  obtain⟨c,t,hr⟩:=h.row
  exact⟨c,t,(hb.block _ (q4w hr)).trans hr⟩
 hit:=h.hit
 miss:=h.miss
theorem Sents.perr{a:Nat→Addr}{w:World}(h:Sents a w){k:Nat}(hk:k<12):PErr a (a k) (some k) w where
 row:=h.row k hk
 hit j hj:=by injection hj with hj;subst hj;exact⟨hk,rfl⟩
 miss hj:=by cases hj
theorem PErr.ne{a:Nat→Addr}{p:Addr}{m:Option Nat}{w:World}(h:Sents a w)(hp:PErr a p m w){j:Nat}(hj:j<12)(hm:m≠some j):p≠a j:=by
 cases m with
 | none=>exact hp.miss rfl j hj
 | some k=>
  obtain⟨hk,rfl⟩:=hp.hit k rfl
  exact h.inj k j hk hj (fun e=>hm (by rw[e]))
theorem is_p(a:Nat→Addr)(p:Addr)(m:Option Nat)(j:Nat)(hj:j<12)(w:World)(h:Sents a w)(hp:PErr a p m w) :
  Calls Tryz.prog 118 #[.iface 376 (.pointer (some p)),sval a j] w fun e w'=>e= .returned (.bool (m==some j))∧w=w':=by
 by_cases he:m=some j
 ·subst he
  obtain⟨_,rfl⟩:=hp.hit j rfl
  rw[beq_self_eq_true]
  exact(q7r (a j) w).mono fun _ _ ⟨h1,h2⟩=>⟨h1,h2.symm⟩
 ·obtain⟨c1,t1,h1⟩:=hp.row
  obtain⟨c2,t2,h2⟩:=h.row j hj
  rw[beq_eq_false_iff_ne.2 he]
  exact(q7s p (a j) c1 c2 t1 t2 w (hp.ne h hj he) h1 h2).mono fun _ _ ⟨h1,h2⟩=>⟨h1,h2.symm⟩
theorem q7v(a:Nat→Addr)(b o:Nat)(p:Addr)(m:Option Nat)(j:Nat)(hj:j<12)(w:World)(h:Sents a w)(hp:PErr a p m w)(hc:w.cell? ⟨b,o+1,none⟩=some (.iface 376 (.pointer (some p)))) :
  Calls Tryz.prog 118 #[.iface 170 (.pointer (some ⟨b,o,none⟩)),sval a j] w fun e w'=>e= .returned (.bool (m==some j))∧w=w':=by
 by_cases he:m=some j
 ·subst he
  obtain⟨_,rfl⟩:=hp.hit j rfl
  rw[beq_self_eq_true]
  exact(q7t b o (a j) w hc).mono fun _ _ ⟨h1,h2⟩=>⟨h1,h2.symm⟩
 ·obtain⟨c1,t1,h1⟩:=hp.row
  obtain⟨c2,t2,h2⟩:=h.row j hj
  rw[beq_eq_false_iff_ne.2 he]
  exact(q7u b o (a j) p c1 c2 t1 t2 w hc (hp.ne h hj he) h1 h2).mono fun _ _ ⟨h1,h2⟩=>⟨h1,h2.symm⟩
theorem q7w(e:Addr)(w:World)(hg:w.cell? ⟨12,0,none⟩=some (.iface 288 (.agg #[.pointer (some ⟨21,42,none⟩)]))) :
  Calls Tryz.prog 117 #[.iface 170 (.pointer (some e)),.iface 178 (.pointer (some ⟨w.heap.size,0,none⟩))] (w.alloc (.cells #[.pointer none] 170)) fun ev w'=>ev= .returned (.bool true)∧Below w.heap.size w w'∧w'.cell? ⟨w.heap.size,0,none⟩=some (.pointer (some e)):=by
 have hlt:12<w.heap.size:=World.block_lt_of_cell? w _ hg
 refine(q3d e ⟨w.heap.size,0,none⟩ (.pointer none) _ ((World.cell?_alloc_lt _ _ ⟨12,0,none⟩ hlt).trans hg) (by rw[World.cell?_alloc_at _ _ _ _ rfl];rfl) (by rw[World.frozen?_alloc_at _ _ _ _ rfl])).mono fun ev w' ⟨h1,h2⟩=>⟨h1,?_,?_⟩
 ·subst h2
  refine((((((zb _ _).alloc (zl _) _).alloc (by simp) _).alloc (by simp;omega) _).alloc (by simp;omega) _).alloc (by simp;omega) _).setCell (zl _) _
 ·subst h2
  refine World.cell?_setCell_same _ _ (u:= .pointer none) _ ?_
  rw[World.cell?_alloc_lt _ _ ⟨w.heap.size,0,none⟩ (by simp;omega),World.cell?_alloc_lt _ _ ⟨w.heap.size,0,none⟩ (by simp;omega),World.cell?_alloc_lt _ _ ⟨w.heap.size,0,none⟩ (by simp;omega),World.cell?_alloc_lt _ _ ⟨w.heap.size,0,none⟩ (by simp),World.cell?_alloc_at _ _ _ _ rfl];rfl
theorem q7x(e:Addr)(w:World)(hg:w.cell? ⟨12,0,none⟩=some (.iface 288 (.agg #[.pointer (some ⟨21,42,none⟩)]))) :
  Calls Tryz.prog 117 #[.iface 376 (.pointer (some e)),.iface 178 (.pointer (some ⟨w.heap.size,0,none⟩))] (w.alloc (.cells #[.pointer none] 170)) fun ev w'=>ev= .returned (.bool false)∧Below w.heap.size w w':=by
 have hlt:12<w.heap.size:=World.block_lt_of_cell? w _ hg
 refine(q7q e ⟨w.heap.size,0,none⟩ (.pointer none) _ ((World.cell?_alloc_lt _ _ ⟨12,0,none⟩ hlt).trans hg) (by rw[World.cell?_alloc_at _ _ _ _ rfl];rfl) (by rw[World.frozen?_alloc_at _ _ _ _ rfl])).mono fun ev w' ⟨h1,h2⟩=>⟨h1,?_⟩
 subst h2
 exact(((((zb _ _).alloc (zl _) _).alloc (by simp) _).alloc (by simp;omega) _).alloc (by simp;omega) _)
def q7y:Option Nat→Int
 | some k=>(k:Int)+1
 | none=> -1
def q7z(a:Nat→Addr)(w:World):Prop:=
 w.cell? ⟨4,0,none⟩=some (sval a 0)∧w.cell? ⟨5,0,none⟩=some (sval a 1)∧w.cell? ⟨1,0,none⟩=some (sval a 2)∧w.cell? ⟨6,0,none⟩=some (sval a 3)∧w.cell? ⟨0,0,none⟩=some (sval a 4)∧w.cell? ⟨2,0,none⟩=some (sval a 5)∧w.cell? ⟨3,0,none⟩=some (sval a 6)∧w.cell? ⟨7,0,none⟩=some (sval a 7)∧w.cell? ⟨8,0,none⟩=some (sval a 8)∧w.cell? ⟨9,0,none⟩=some (sval a 9)∧w.cell? ⟨10,0,none⟩=some (sval a 10)∧w.cell? ⟨11,0,none⟩=some (sval a 11)
theorem Sents.c{a:Nat→Addr}{w:World}(h:Sents a w):q7z a w:=
 ⟨h.cell 0 (by decide),h.cell 1 (by decide),h.cell 2 (by decide),h.cell 3 (by decide),h.cell 4 (by decide),h.cell 5 (by decide),h.cell 6 (by decide),h.cell 7 (by decide),h.cell 8 (by decide),h.cell 9 (by decide),h.cell 10 (by decide),h.cell 11 (by decide)⟩
theorem q8a(a:Nat→Addr)(w:World)(k:Nat)(hk:k<12):(w.alloc (.cells #[.iface 376 (.pointer (some (a 0))),.iface 376 (.pointer (some (a 1))),.iface 376 (.pointer (some (a 2))),.iface 376 (.pointer (some (a 3))),.iface 376 (.pointer (some (a 4))),.iface 376 (.pointer (some (a 5))),.iface 376 (.pointer (some (a 6))),.iface 376 (.pointer (some (a 7))),.iface 376 (.pointer (some (a 8))),.iface 376 (.pointer (some (a 9))),.iface 376 (.pointer (some (a 10))),.iface 376 (.pointer (some (a 11)))] 42)).cell? ⟨w.heap.size,k,none⟩=some (sval a k):=by
 rw[World.cell?_alloc_at _ _ _ _ rfl]
 match k,hk with
 | 0,_|1,_|2,_|3,_|4,_|5,_|6,_|7,_|8,_|9,_|10,_|11,_=>rfl
theorem q8b(w:World):Calls Tryz.prog 61 #[.nilIface] w fun e w'=>e= .returned (.tuple #[.int .i64 0,.int .i64 (-1)])∧w=w':=by
 go_enter Tryz.func61,Tryz.ntmps61
 go_wp2
 go_ret2
 exact⟨rfl,rfl⟩
theorem q8c(a:Nat→Addr)(p:Addr)(m:Option Nat)(w:World)(h:Sents a w)(hp:PErr a p m w) :
  Calls Tryz.prog 61 #[.iface 376 (.pointer (some p))] w fun e w'=>e= .returned (.tuple #[.int .i64 (q7y m),.int .i64 (-1)])∧Below w.heap.size w w':=by
 have hety:=h.ety
 have HS:=zh h
 have HP:=zh hp
 clear h hp
 go_enter Tryz.func61,Tryz.ntmps61
 go_wp2_with fail
 refine(q7x p w hety).mono ?_
 rintro e w1 ⟨rfl,hb1⟩
 have h1:=HS.out.below hb1
 have HC:=h1.c
 have H1:=zh h1
 have HP1:=zh (HP.out.below hb1)
 clear h1 HS HP hety
 obtain⟨c0,c1,c2,c3,c4,c5,c6,c7,c8,c9,c10,c11⟩:=HC
 unfold sval at c0 c1 c2 c3 c4 c5 c6 c7 c8 c9 c10 c11
 go_wp2
 clear c0 c1 c2 c3 c4 c5 c6 c7 c8 c9 c10 c11
 have hcell:=q8a a w1
 have hb2:Below w.heap.size w (w1.alloc (.cells #[.iface 376 (.pointer (some (a 0))),.iface 376 (.pointer (some (a 1))),.iface 376 (.pointer (some (a 2))),.iface 376 (.pointer (some (a 3))),.iface 376 (.pointer (some (a 4))),.iface 376 (.pointer (some (a 5))),.iface 376 (.pointer (some (a 6))),.iface 376 (.pointer (some (a 7))),.iface 376 (.pointer (some (a 8))),.iface 376 (.pointer (some (a 9))),.iface 376 (.pointer (some (a 10))),.iface 376 (.pointer (some (a 11)))] 42)):=hb1.alloc hb1.size _
 have H2:=zh (H1.out.below ((zb w1.heap.size w1).alloc (zl _) (.cells #[.iface 376 (.pointer (some (a 0))),.iface 376 (.pointer (some (a 1))),.iface 376 (.pointer (some (a 2))),.iface 376 (.pointer (some (a 3))),.iface 376 (.pointer (some (a 4))),.iface 376 (.pointer (some (a 5))),.iface 376 (.pointer (some (a 6))),.iface 376 (.pointer (some (a 7))),.iface 376 (.pointer (some (a 8))),.iface 376 (.pointer (some (a 9))),.iface 376 (.pointer (some (a 10))),.iface 376 (.pointer (some (a 11)))] 42)))
 have HP2:=zh (HP1.out.below ((zb w1.heap.size w1).alloc (zl _) (.cells #[.iface 376 (.pointer (some (a 0))),.iface 376 (.pointer (some (a 1))),.iface 376 (.pointer (some (a 2))),.iface 376 (.pointer (some (a 3))),.iface 376 (.pointer (some (a 4))),.iface 376 (.pointer (some (a 5))),.iface 376 (.pointer (some (a 6))),.iface 376 (.pointer (some (a 7))),.iface 376 (.pointer (some (a 8))),.iface 376 (.pointer (some (a 9))),.iface 376 (.pointer (some (a 10))),.iface 376 (.pointer (some (a 11)))] 42)))
 have HB:=zh hb2
 generalize w1.alloc _=W2 at *
 have HCL:=zh hcell
 clear hcell hb2 hb1 H1 HP1
 go_loop [3,30] (fun t i=>∃k:Nat,k≤12∧t= .int .i64 (-1)∧i= .int .i64 k∧Hid (∀j,j<k→m≠some j)) (fun _ i=>12-(RowKit.intOf i).toNat)
 case atStart=>exact⟨0,Nat.zero_le _,rfl,rfl,fun j hj=>absurd hj (Nat.not_lt_zero _)⟩
 case round=>
  obtain⟨k,hk,rfl,rfl,hn⟩:=hrel
  by_cases hlt:k<12
  ·have hc:=HCL.out k hlt
   unfold sval at hc
   by_cases hm:m=some k
   ·have hq:(m==some k)=true:=by rw[hm];simp
    have HM:=zh hm
    clear hm
    go_wp2_with(go_at_call 118;refine(is_p a p m k hlt _ H2.out HP2.out).mono ?_;rintro e w5 ⟨rfl,rfl⟩;rw[hq])
    go_ret2
    exact⟨by rw[HM.out];rfl,HB.out⟩
   ·have hq:(m==some k)=false:=by simpa using hm
    have HN:Hid (∀j,j<k+1→m≠some j):=fun j hj=>by
     rcases Nat.lt_or_ge j k with h1|h1
     ·exact hn.out j h1
     ·obtain rfl:j=k:=by omega
      exact hm
    clear hm
    go_wp2_with(go_at_call 118;refine(is_p a p m k hlt _ H2.out HP2.out).mono ?_;rintro e w5 ⟨rfl,rfl⟩;rw[hq])
    go_round
    case rel=>exact⟨k+1,hlt,rfl,by go_num,HN⟩
    case measure=>simp[RowKit.intOf];omega
  ·obtain rfl:k=12:=by omega
   have HM:Hid (m=none):=by
    cases hm:m with
    | none=>exact zh rfl
    | some j=>
     have:=(HP2.out.hit j hm).1
     exact absurd hm (hn.out j this)
   go_wp2
   go_ret2
   exact⟨by rw[HM.out];rfl,HB.out⟩
theorem q8d(a:Nat→Addr)(b o:Nat)(t:Int)(p:Addr)(m:Option Nat)(w:World)(h:Sents a w)(hp:PErr a p m w)(hc0:w.cell? ⟨b,o,none⟩=some (.int .i64 t))(hc1:w.cell? ⟨b,o+1,none⟩=some (.iface 376 (.pointer (some p)))) :
  Calls Tryz.prog 61 #[.iface 170 (.pointer (some ⟨b,o,none⟩))] w fun e w'=>e= .returned (.tuple #[.int .i64 (q7y m),.int .i64 t])∧Below w.heap.size w w':=by
 have hety:=h.ety
 have HS:=zh h
 have HP:=zh hp
 clear h hp
 go_enter Tryz.func61,Tryz.ntmps61
 go_wp2_with fail
 refine(q7w ⟨b,o,none⟩ w hety).mono ?_
 rintro e w1 ⟨rfl,hb1,hptr⟩
 have hlt0:b<w.heap.size:=World.block_lt_of_cell? w _ hc0
 have d0:=(hb1.cell (p:=⟨b,o,none⟩) hlt0).trans hc0
 have d1:=(hb1.cell (p:=⟨b,o+1,none⟩) hlt0).trans hc1
 clear hc0 hc1
 have h1:=HS.out.below hb1
 have HC:=h1.c
 have H1:=zh h1
 have HP1:=zh (HP.out.below hb1)
 clear h1 HS HP hety
 obtain⟨c0,c1,c2,c3,c4,c5,c6,c7,c8,c9,c10,c11⟩:=HC
 unfold sval at c0 c1 c2 c3 c4 c5 c6 c7 c8 c9 c10 c11
 go_wp2
 clear c0 c1 c2 c3 c4 c5 c6 c7 c8 c9 c10 c11
 have hcell:=q8a a w1
 have hb2:Below w.heap.size w (w1.alloc (.cells #[.iface 376 (.pointer (some (a 0))),.iface 376 (.pointer (some (a 1))),.iface 376 (.pointer (some (a 2))),.iface 376 (.pointer (some (a 3))),.iface 376 (.pointer (some (a 4))),.iface 376 (.pointer (some (a 5))),.iface 376 (.pointer (some (a 6))),.iface 376 (.pointer (some (a 7))),.iface 376 (.pointer (some (a 8))),.iface 376 (.pointer (some (a 9))),.iface 376 (.pointer (some (a 10))),.iface 376 (.pointer (some (a 11)))] 42)):=hb1.alloc hb1.size _
 have H2:=zh (H1.out.below ((zb w1.heap.size w1).alloc (zl _) (.cells #[.iface 376 (.pointer (some (a 0))),.iface 376 (.pointer (some (a 1))),.iface 376 (.pointer (some (a 2))),.iface 376 (.pointer (some (a 3))),.iface 376 (.pointer (some (a 4))),.iface 376 (.pointer (some (a 5))),.iface 376 (.pointer (some (a 6))),.iface 376 (.pointer (some (a 7))),.iface 376 (.pointer (some (a 8))),.iface 376 (.pointer (some (a 9))),.iface 376 (.pointer (some (a 10))),.iface 376 (.pointer (some (a 11)))] 42)))
 have HP2:=zh (HP1.out.below ((zb w1.heap.size w1).alloc (zl _) (.cells #[.iface 376 (.pointer (some (a 0))),.iface 376 (.pointer (some (a 1))),.iface 376 (.pointer (some (a 2))),.iface 376 (.pointer (some (a 3))),.iface 376 (.pointer (some (a 4))),.iface 376 (.pointer (some (a 5))),.iface 376 (.pointer (some (a 6))),.iface 376 (.pointer (some (a 7))),.iface 376 (.pointer (some (a 8))),.iface 376 (.pointer (some (a 9))),.iface 376 (.pointer (some (a 10))),.iface 376 (.pointer (some (a 11)))] 42)))
 have HB:=zh hb2
 have hlt1:b<w1.heap.size:=World.block_lt_of_cell? w1 _ d1
 have HD:=zh ((((zb w1.heap.size w1).alloc (zl _) (.cells #[.iface 376 (.pointer (some (a 0))),.iface 376 (.pointer (some (a 1))),.iface 376 (.pointer (some (a 2))),.iface 376 (.pointer (some (a 3))),.iface 376 (.pointer (some (a 4))),.iface 376 (.pointer (some (a 5))),.iface 376 (.pointer (some (a 6))),.iface 376 (.pointer (some (a 7))),.iface 376 (.pointer (some (a 8))),.iface 376 (.pointer (some (a 9))),.iface 376 (.pointer (some (a 10))),.iface 376 (.pointer (some (a 11)))] 42)).cell (p:=⟨b,o+1,none⟩) hlt1).trans d1)
 generalize w1.alloc _=W2 at *
 have HCL:=zh hcell
 clear hcell hb2 hb1 H1 HP1 d0 d1 hptr
 go_loop [3,30] (fun tv i=>∃k:Nat,k≤12∧tv= .int .i64 t∧i= .int .i64 k∧Hid (∀j,j<k→m≠some j)) (fun _ i=>12-(RowKit.intOf i).toNat)
 case atStart=>exact⟨0,Nat.zero_le _,rfl,rfl,fun j hj=>absurd hj (Nat.not_lt_zero _)⟩
 case round=>
  obtain⟨k,hk,rfl,rfl,hn⟩:=hrel
  by_cases hlt:k<12
  ·have hc:=HCL.out k hlt
   unfold sval at hc
   by_cases hm:m=some k
   ·have hq:(m==some k)=true:=by rw[hm];simp
    have HM:=zh hm
    clear hm
    go_wp2_with(go_at_call 118;refine(q7v a b o p m k hlt _ H2.out HP2.out HD.out).mono ?_;rintro e w5 ⟨rfl,rfl⟩;rw[hq])
    go_ret2
    exact⟨by rw[HM.out];rfl,HB.out⟩
   ·have hq:(m==some k)=false:=by simpa using hm
    have HN:Hid (∀j,j<k+1→m≠some j):=fun j hj=>by
     rcases Nat.lt_or_ge j k with h1|h1
     ·exact hn.out j h1
     ·obtain rfl:j=k:=by omega
      exact hm
    clear hm
    go_wp2_with(go_at_call 118;refine(q7v a b o p m k hlt _ H2.out HP2.out HD.out).mono ?_;rintro e w5 ⟨rfl,rfl⟩;rw[hq])
    go_round
    case rel=>exact⟨k+1,hlt,rfl,by go_num,HN⟩
    case measure=>simp[RowKit.intOf];omega
  ·obtain rfl:k=12:=by omega
   have HM:Hid (m=none):=by
    cases hm:m with
    | none=>exact zh rfl
    | some j=>
     have:=(HP2.out.hit j hm).1
     exact absurd hm (hn.out j this)
   go_wp2
   go_ret2
   exact⟨by rw[HM.out];rfl,HB.out⟩
def S12:List SRow:= [("cornbin/api.ErrText",[99,111,114,110,98,105,110,58,32,116,101,120,116],4),
 ("cornbin/api.ErrBound",[99,111,114,110,98,105,110,58,32,98,111,117,110,100],5),
 ("cornbin/api.ErrShape",[99,111,114,110,98,105,110,58,32,115,104,97,112,101],1),
 ("cornbin/api.ErrName",[99,111,114,110,98,105,110,58,32,110,97,109,101],6),
 ("cornbin/api.ErrNone",[99,111,114,110,98,105,110,58,32,110,111,110,101],0),
 ("cornbin/api.ErrExist",[99,111,114,110,98,105,110,58,32,101,120,105,115,116],2),
 ("cornbin/api.ErrFull",[99,111,114,110,98,105,110,58,32,102,117,108,108],3),
 ("cornbin/api.ErrOrder",[99,111,114,110,98,105,110,58,32,111,114,100,101,114],7),
 ("cornbin/api.ErrSum",[99,111,114,110,98,105,110,58,32,115,117,109],8),
 ("cornbin/api.ErrClash",[99,111,114,110,98,105,110,58,32,99,108,97,115,104],9),
 ("cornbin/api.ErrUsed",[99,111,114,110,98,105,110,58,32,117,115,101,100],10),
 ("cornbin/api.ErrOff",[99,111,114,110,98,105,110,58,32,111,102,102],11)]
theorem q8e:(S12.all fun x=>Tryz.prog.globalNamed x.1==some x.2.2&&(Tryz.prog.globals[x.2.2]?).map (·.type)==some 42)=true:=by kernel_rfl
theorem q8f: "*" ++ "errors.errorString" = "*errors.errorString" :=by decide
theorem q8g (u:TypeId) (h:Tryz.prog.typeName? 3 u=some "*errors.errorString"):u=376:=
 typeName_ptr_named (nm:= "errors.errorString") (by rw[q8f];kernel_rfl) (by kernel_rfl) (by decide) u (by rw[q8f];exact h)
theorem q8h:Tryz.prog.cellsOf 378=1:=by kernel_rfl
theorem q8i:Tryz.prog.cellsOf 9=1:=by kernel_rfl
def q8j(x:String×DataW Unit):Bool:=S12.any fun y=>y.1==x.1
def q8k(x:String×DataW Unit):Bool:=x.1== "errors.errorType"
def q8l:String×DataW Unit:=("errors.errorType",.iface "internal/reflectlite.rtype" (.agg [.ptr (.lit (.string [101,114,114,111,114]))]))
theorem q8m:((List.range 406).filter fun t=>Tryz.prog.rowNamed t [101,114,114,111,114])= [42]:=by kernel_rfl
theorem q8n:Tryz.prog.types.size=406:=by kernel_rfl
theorem q8o:(Tryz.prog.cutTypes.find? (·.1== "internal/reflectlite.rtype")).map (·.2)=some 288:=by kernel_rfl
theorem q8p:Tryz.prog.globalNamed "errors.errorType" =some 12:=by kernel_rfl
theorem q8q:typeHandle Tryz.prog 42= .pointer (some ⟨21,42,none⟩):=by kernel_rfl
theorem q8r{W:World}{l:List (String×DataW Unit)}(h:laidMetH Tryz.prog l W)(h2:l.filter q8k= [q8l]) :
  W.cell? ⟨12,0,none⟩=some (.iface 288 (.agg #[.pointer (some ⟨21,42,none⟩)])):=by
 have h':=h.filter q8k
 rw[h2]at h'
 have h3:laidMet Tryz.prog [] W∧handlesMet Tryz.prog [q8l] W:=h'
 obtain⟨name,u,ty,e1,e2,e3,e4,e5⟩:=h3.2 _ (List.mem_singleton.2 rfl)
 have en:name= [101,114,114,111,114]:=(Option.some.inj e1).symm
 subst en
 obtain rfl:=Option.some.inj (q8o.symm.trans e2)
 have hm:ty∈(List.range 406).filter fun t=>Tryz.prog.rowNamed t [101,114,114,111,114]:=List.mem_filter.2 ⟨List.mem_range.2 (by rw[←q8n];exact e3),e4⟩
 rw[q8m]at hm
 obtain rfl:=List.mem_singleton.1 hm
 rw[q8q]at e5
 simpa using World.var?_cell q8p e5 0
theorem q8s(k:Nat)(hk:k<12):∃x∈S12,x.2.2=sv k:=by
 have h:S12.map (·.2.2)=(List.range 12).map sv:=rfl
 have hm:sv k∈S12.map (·.2.2):=by rw[h];exact List.mem_map.2 ⟨k,List.mem_range.2 hk,rfl⟩
 obtain⟨x,hx,he⟩:=List.mem_map.1 hm
 exact⟨x,hx,he⟩
theorem q8t(i j:Nat)(hi:i<12)(hj:j<12)(h:i≠j):sv i≠sv j:=by
 have:((List.range 12).all fun i=>(List.range 12).all fun j=>i==j||sv i !=sv j)=true:=by decide
 simp only[List.all_eq_true,List.mem_range,Bool.or_eq_true,beq_iff_eq,bne_iff_ne]at this
 exact(this i hi j hj).resolve_left h
theorem q8u {W:World} {l:List (String×DataW Unit)} (h:laidMetH Tryz.prog l W) (h1:l.filter q8j=S12.map (z5x "*errors.errorString")) :
  ∃a:Nat→Addr,(∀x∈S12,z5y 376 a W x)∧∀x∈S12,∀y∈S12,x.2.2≠y.2.2→a x.2.2≠a y.2.2:=by
 have h':=h.filter q8j
 rw[h1,MakeChecks.laidMetH_plain _ _ _ (by kernel_rfl)]at h'
 obtain⟨ps,hl,hnd,hr⟩:=h'
 obtain⟨a,ha,hne⟩:=z5z Tryz.underlying42 q8g Tryz.underlying376 Tryz.underlying378 rfl rfl Tryz.underlying9 q8h q8i S12 ps (fun x hx=>by
  have:=List.all_eq_true.1 q8e x hx
  simpa using this) (by decide) hl hnd hr
 exact⟨a,fun x hx=>(ha x hx).1,hne⟩
theorem Sents.of_laid {W:World} {l:List (String×DataW Unit)} (h:laidMetH Tryz.prog l W) (h1:l.filter q8j=S12.map (z5x "*errors.errorString")) (h2:l.filter q8k= [q8l]):∃a,Sents a W:=by
 obtain⟨a,ha,hne⟩:=q8u h h1
 refine⟨fun k=>a (sv k),fun k hk=> ?_,fun k hk=> ?_,fun i j hi hj hij=> ?_,q8r h h2⟩
 ·obtain⟨x,hx,he⟩:=q8s k hk
  have:=(ha x hx).1
  rw[he]at this
  exact this
 ·obtain⟨x,hx,he⟩:=q8s k hk
  have:=(ha x hx).2.2
  rw[he]at this
  exact this
 ·obtain⟨x,hx,hxe⟩:=q8s i hi
  obtain⟨y,hy,hye⟩:=q8s j hj
  have:=hne x hx y hy (by rw[hxe,hye];exact q8t i j hi hj hij)
  rwa [hxe,hye]at this
end Go.Proofs.YtdmlghfggninbaaGreatDoor
namespace Go.Proofs.YtdmlghfggninbaaGreatDoor
open Go.RowKit Go.Lib
def isN(s:String)(x:String×DataW Unit):Bool:=s==x.1
theorem q8v {W:World} {l:List (String×DataW Unit)} (h:laidMetH Tryz.prog l W) (h1:l.filter (isN "internal/strconv.uint64pow10")= [("internal/strconv.uint64pow10",tabData .u64 pow10Tab)]) :
  TabIs Tryz.prog W "internal/strconv.uint64pow10" .u64 pow10Tab:=by
 have h':=h.filter (isN "internal/strconv.uint64pow10")
 rw[h1,MakeChecks.laidMetH_plain _ _ _ (by kernel_rfl)]at h'
 exact tabIs_of_head (g:=13) (by kernel_rfl) (by kernel_rfl) Tryz.underlying334 Tryz.underlying175 (by kernel_rfl) (by kernel_rfl) h'
def q8w:List Int:= [0,1,56,2,57,49,28,3,61,58,42,50,38,29,17,4,62,47,59,36,45,43,51,22,53,39,33,30,24,18,12,5,63,55,48,27,60,41,37,16,46,35,44,21,52,32,23,11,54,26,40,15,34,20,31,10,25,14,19,9,13,8,7,6]
theorem q8x {W:World} {l:List (String×DataW Unit)} (h:laidMetH Tryz.prog l W) (h1:l.filter (isN "math/bits.deBruijn64tab")= [("math/bits.deBruijn64tab",tabData .u8 q8w)]) :
  W.cell? ⟨18,15,none⟩=some (.int .u8 4):=by
 have h':=h.filter (isN "math/bits.deBruijn64tab")
 rw[h1,MakeChecks.laidMetH_plain _ _ _ (by kernel_rfl)]at h'
 have ht:=tabIs_of_head (g:=18) (by kernel_rfl) (by kernel_rfl) Tryz.underlying371 Tryz.underlying5 (by kernel_rfl) (by kernel_rfl) h'
 exact ht.cell (g:=18) (by kernel_rfl) 15 (by decide)
theorem Tabs.of_laid {W:World} {l:List (String×DataW Unit)} (h:laidMetH Tryz.prog l W) (h1:l.filter (isN "internal/strconv.uint64pow10")= [("internal/strconv.uint64pow10",tabData .u64 pow10Tab)])
  (h2:l.filter (isN "math/bits.deBruijn64tab")= [("math/bits.deBruijn64tab",tabData .u8 q8w)]):Tabs W:=⟨q8v h h1,q8x h h2⟩
theorem q8y{W:World}{l:List (String×DataW Unit)}(h:laidMetH Tryz.prog l W)(r:SRow)(hg1:Tryz.prog.globalNamed r.1=some r.2.2)(hg2:(Tryz.prog.globals[r.2.2]?).map (·.type)=some 42)
  (h1:l.filter (isN r.1)= [z5x "*errors.errorString" r]) (hp:laidMetH Tryz.prog [z5x "*errors.errorString" r] W=laidMet Tryz.prog [z5x "*errors.errorString" r] W) :
  ∃T q,W.cell? ⟨r.2.2,0,none⟩=some (.iface T q):=by
 have h':=h.filter (isN r.1)
 rw[h1,hp]at h'
 obtain⟨a1,s1,hv1,_⟩:=laid_sentinel h' hg1 hg2 Tryz.underlying42 q8g Tryz.underlying376 Tryz.underlying378 rfl rfl Tryz.underlying9 q8h q8i
 exact⟨_,_,by simpa using World.var?_cell hg1 hv1 0⟩
def q8z:SRow:=("strconv.ErrSyntax",[105,110,118,97,108,105,100,32,115,121,110,116,97,120],15)
def q9a:SRow:=("strconv.ErrRange",[118,97,108,117,101,32,111,117,116,32,111,102,32,114,97,110,103,101],16)
theorem Perrs.of_laid {W:World} {l:List (String×DataW Unit)} (h:laidMetH Tryz.prog l W) (h1:l.filter (isN "strconv.ErrSyntax")= [z5x "*errors.errorString" q8z]) (h2:l.filter (isN "strconv.ErrRange")= [z5x "*errors.errorString" q9a]):Perrs W:=
 ⟨q8y h q8z (by kernel_rfl) (by kernel_rfl) h1 (MakeChecks.laidMetH_plain _ _ _ (by kernel_rfl)),q8y h q9a (by kernel_rfl) (by kernel_rfl) h2 (MakeChecks.laidMetH_plain _ _ _ (by kernel_rfl))⟩
end Go.Proofs.YtdmlghfggninbaaGreatDoor
