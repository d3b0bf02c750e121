/- PlainA, PrA, PlainN, PlainC, Atoi, Box2, Name, ErrAs in one text. Conditions: as each part says. -/
import Derived.Test.YtdmlghfggninbaaGreatDoorAbb
import Derived.Lib.Strings
import Derived.Laws.Strings
import Derived.Test.YtdmlghfggninbaaGreatDoorChecked
import Derived.WalkKit
import Derived.WalkLawsBesides
import Derived.Handy
import Derived.Below
import Derived.Lib.Hide
import Derived.Laws.Bits64
import Derived.Lib.ItoaLen
import Derived.Lib.AtoiTie
import Derived.Lib.IndexMore
import Derived.Lib.Index
import Derived.Test.YtdmlghfggninbaaGreatDoorShelf
import Derived.Lib.AtoiErrMem
import Derived.Deep.QuietTactic
import Derived.Shelf.Strings.SlTrimAscii
import Derived.LaidEql
import Derived.Stop.Asserts
import Derived.RowKitTokens
set_option linter.unusedVariables false
set_option linter.unusedSimpArgs false
set_option maxHeartbeats 4000000
set_option maxRecDepth 100000
namespace Go.Proofs.YtdmlghfggninbaaGreatDoor
abbrev Bytes:=List UInt8
def bs(l:Bytes):ByteArray:=⟨l.toArray⟩
theorem Q3(l:Bytes):(bs l).data.toList=l:=by simp[bs]
theorem q0s(s:ByteArray):bs s.data.toList=s:=by cases s;simp[bs]
theorem Q8(l:Bytes):(bs l).size=l.length:=List.size_toArray
theorem Z4(s:ByteArray):s.size=s.data.toList.length:=Array.length_toList.symm
theorem q0t{a b:ByteArray}(h:a.data.toList=b.data.toList):a=b:=by rw[←q0s a,h,q0s]
theorem q0u(s:ByteArray)(a b:Nat):(s.extract a b).data.toList=(s.data.toList.take b).drop a:=by
 rw[Lib.extract_data];simp[List.drop_take]
theorem q0v(s:ByteArray)(a b:Nat):s.extract a b=bs ((s.data.toList.take b).drop a):=by
 apply q0t;rw[q0u,Q3]
theorem q0w(s t:ByteArray):(s.toList==t.toList)=decide (s.data.toList=t.data.toList):=by
 rw[ByteArray.toList_eq,ByteArray.toList_eq,Bool.eq_iff_iff,beq_iff_eq,decide_eq_true_iff]
theorem q0x(a b:Bytes):((bs a).toList==(bs b).toList)=decide (a=b):=by rw[q0w,Q3,Q3]
def sum8(p:Bytes):Nat:=((p.drop (p.length-8)).map (·.toNat)).sum
def W8(p:Bytes):Bool:=if 64≤p.length then true else if p.length<16 then false else sum8 p%16==15
def pcs(cur:Bytes):Bytes→List Bytes
 | []=> []
 | b::r=>if W8 (cur++ [b])then(cur++ [b])::pcs [] r else if r= []then[cur++ [b]]else pcs (cur++ [b]) r
def pieces(s:Bytes):List Bytes:=pcs [] s
def q0y(n:Nat):List Bytes→List (Nat×Nat)
 | []=> []
 | p::ps=>(n,n+p.length)::q0y (n+p.length) ps
theorem q0z(cur:Bytes)(b:UInt8)(r:Bytes):pcs cur (b::r)=if W8 (cur++ [b])then(cur++ [b])::pcs [] r else if r= []then[cur++ [b]]else pcs (cur++ [b]) r:=rfl
theorem q1a(n:Nat)(l:List Bytes):(q0y n l).length=l.length:=by
 induction l generalizing n with
 | nil=>rfl
 | cons p ps ih=>simp[q0y,ih]
theorem q1b(cur r:Bytes)(h:r≠ []):(pcs cur r).flatten=cur++r:=by
 induction r generalizing cur with
 | nil=>exact absurd rfl h
 | cons b r ih=>
  unfold pcs
  by_cases he:W8 (cur++ [b])=true
  ·rw[if_pos he]
   cases r with
   | nil=>simp[pcs]
   | cons c r=>rw[List.flatten_cons,ih [] (by simp)];simp
  ·rw[if_neg he]
   cases r with
   | nil=>simp
   | cons c r=>rw[if_neg (by simp),ih _ (by simp)];simp
theorem B6(s:Bytes):(pieces s).flatten=s:=by
 cases s with
 | nil=>rfl
 | cons b r=>exact(q1b [] (b::r) (by simp)).trans rfl
theorem q1c(cur r:Bytes):∀p∈pcs cur r,p≠ []:=by
 induction r generalizing cur with
 | nil=>simp[pcs]
 | cons b r ih=>
  unfold pcs
  split
  ·intro p hp
   rcases List.mem_cons.1 hp with rfl|hp
   ·simp
   ·exact ih _ p hp
  ·split
   ·intro p hp
    rw[List.mem_singleton]at hp
    subst hp;simp
   ·exact ih _
theorem q1d(s:Bytes):∀p∈pieces s,p≠ []:=q1c [] s
theorem q1e{p:Bytes}(h:W8 p=true):16≤p.length:=by
 unfold W8 at h
 split at h
 ·omega
 ·split at h
  ·cases h
  ·omega
theorem q1f(cur r:Bytes)(hc:cur.length<64):∀p∈pcs cur r,p.length≤64:=by
 induction r generalizing cur with
 | nil=>simp[pcs]
 | cons b r ih=>
  unfold pcs
  split
  ·intro p hp
   rcases List.mem_cons.1 hp with rfl|hp
   ·simp;omega
   ·exact ih _ (by simp) p hp
  ·rename_i he
   split
   ·intro p hp
    rw[List.mem_singleton]at hp
    subst hp;simp;omega
   ·refine ih _ ?_
    rcases Nat.lt_or_ge (cur++ [b]).length 64 with h|h
    ·exact h
    ·exact absurd (by unfold W8;rw[if_pos h]) he
theorem W9(s:Bytes):∀p∈pieces s,p.length≤64:=q1f [] s (by simp)
theorem q1g(L:Bytes)(l:List Bytes):∀n,L.drop n=l.flatten→(q0y n l).map (fun x=>(L.take x.2).drop x.1)=l:=by
 induction l with
 | nil=>intro n _;rfl
 | cons p ps ih=>
  intro n h
  have h1:(L.take (n+p.length)).drop n=p:=by
   rw[List.drop_take,h,Nat.add_sub_cancel_left,List.flatten_cons,List.take_left]
  have h2:L.drop (n+p.length)=ps.flatten:=by
   rw[←List.drop_drop,h,List.flatten_cons,List.drop_left]
  rw[q0y,List.map_cons,ih _ h2,h1]
theorem q1h(L:Bytes):(q0y 0 (pieces L)).map (fun x=>(L.take x.2).drop x.1)=pieces L:=
 q1g L (pieces L) 0 (by rw[B6];rfl)
abbrev Sp(N:Nat):= {x:Nat×Nat // x.1≤x.2∧x.2≤N}
theorem q1i(l:List Bytes)(h:∀p∈l,p≠ []):l.length≤l.flatten.length:=by
 induction l with
 | nil=>simp
 | cons p ps ih=>
  have h1:=ih (fun q hq=>h q (List.mem_cons_of_mem _ hq))
  have h2:0<p.length:=List.length_pos_iff.2 (h p List.mem_cons_self)
  simp only[List.length_cons,List.flatten_cons,List.length_append]
  omega
theorem B2(s:Bytes):(pieces s).length≤s.length:=by
 have:=q1i _ (q1d s)
 rwa [B6]at this
def Left(L:Bytes)(f k:Nat):List (Nat×Nat):=q0y f (pcs ((L.take k).drop f) (L.drop k))
theorem q1j(L:Bytes)(f k:Nat)(h:L.length≤k):Left L f k= []:=by
 unfold Left;rw[List.drop_eq_nil_of_le h];rfl
theorem q1k(L:Bytes)(f k:Nat)(hf:f≤k)(hk:k<L.length):(L.take (k+1)).drop f=(L.take k).drop f++ [L[k]]:=by
 rw[List.take_succ_eq_append_getElem hk,List.drop_append_of_le_length (by rw[List.length_take];omega)]
theorem q1l(L:Bytes)(f k:Nat)(hk:k≤L.length):((L.take k).drop f).length=k-f:=by
 rw[List.length_drop,List.length_take];omega
theorem q1m(L:Bytes)(k:Nat):(L.take k).drop k= []:=List.drop_eq_nil_of_le (by rw[List.length_take];omega)
theorem q1n(L:Bytes)(f k:Nat)(hf:f≤k)(hk:k<L.length)(he:W8 ((L.take (k+1)).drop f)=true) :
  Left L f k=(f,k+1)::Left L (k+1) (k+1):=by
 unfold Left
 rw[List.drop_eq_getElem_cons hk,q0z,←q1k L f k hf hk,if_pos he,q0y,q1l L f (k+1) hk,show f+(k+1-f)=k+1 from by omega,q1m]
theorem q1o(L:Bytes)(f k:Nat)(hf:f≤k)(hk:k+1=L.length)(he:W8 ((L.take (k+1)).drop f)=false) :
  Left L f k= [(f,k+1)]:=by
 have hk':k<L.length:=by omega
 unfold Left
 rw[List.drop_eq_getElem_cons hk',q0z,←q1k L f k hf hk',if_neg (by rw[he];simp),if_pos (List.drop_eq_nil_of_le (by omega)),q0y,q1l L f (k+1) (by omega),show f+(k+1-f)=k+1 from by omega]
 rfl
theorem q1p(L:Bytes)(f k:Nat)(hf:f≤k)(hk:k+1<L.length)(he:W8 ((L.take (k+1)).drop f)=false) :
  Left L f k=Left L f (k+1):=by
 have hk':k<L.length:=by omega
 unfold Left
 rw[List.drop_eq_getElem_cons hk',q0z,←q1k L f k hf hk',if_neg (by rw[he];simp),if_neg (by intro h;have:=congrArg List.length h;simp at this;omega)]
end Go.Proofs.YtdmlghfggninbaaGreatDoor
namespace Go.Proofs.YtdmlghfggninbaaGreatDoor
open Go.RowKit Go.Lib
def q1q(n:Nat)(c:UInt8):Nat:=((n ^^^ c.toNat)*16777619)%4294967296
def q0r(n:Nat)(l:Bytes):Nat:=l.foldl q1q n
def prOf(l:Bytes):Nat:=q0r 2166136261 l
theorem q1r(n:Nat)(a b:Bytes):q0r n (a++b)=q0r (q0r n a) b:=List.foldl_append
theorem q1s(n:Nat)(c:UInt8):q1q n c<4294967296:=Nat.mod_lt _ (by decide)
theorem q1t(n:Nat)(l:Bytes)(h:n<4294967296):q0r n l<4294967296:=by
 induction l generalizing n with
 | nil=>exact h
 | cons c l ih=>exact ih _ (q1s n c)
theorem q1u(l:Bytes):prOf l<4294967296:=by
 unfold prOf
 exact q1t _ _ (by omega)
theorem q1v(s:ByteArray)(k:Nat)(_h:k<s.size)(hl:k<s.data.toList.length):s.data.toList[k]=s[k]:=rfl
theorem q1w(n:Nat)(c:UInt8):q0r n [c]=q1q n c:=by
 unfold q0r
 rw[List.foldl_cons,List.foldl_nil]
theorem q1x(n:Nat)(s:ByteArray)(k:Nat)(h:k<s.size):q0r n (s.data.toList.take (k+1))=q1q (q0r n (s.data.toList.take k)) s[k]:=by
 have hl:k<s.data.toList.length:=by rw[←Z4];exact h
 rw[←q1v s k h hl,List.take_succ_eq_append_getElem hl,q1r,q1w]
theorem q1y(a b:Nat)(ha:a<4294967296)(hb:b<4294967296):bits .xor .u32 (a:Int) (b:Int)=((a ^^^ b:Nat):Int):=by
 have hx:a ^^^ b<2^32:=Nat.xor_lt_two_pow (by omega) (by omega)
 have h1:(BitVec.ofInt 32 (a:Int)).toNat=a:=by
  rw[BitVec.ofInt_natCast,BitVec.toNat_ofNat];exact Nat.mod_eq_of_lt (by omega)
 have h2:(BitVec.ofInt 32 (b:Int)).toNat=b:=by
  rw[BitVec.ofInt_natCast,BitVec.toNat_ofNat];exact Nat.mod_eq_of_lt (by omega)
 show IntKind.u32.wrap ((BitVec.ofInt 32 (a:Int) ^^^ BitVec.ofInt 32 (b:Int)).toNat:Int)=_
 rw[BitVec.toNat_xor,h1,h2]
 simp[IntKind.wrap,IntKind.bits,IntKind.signed]
 omega
theorem q1z(x:Nat)(c:UInt8)(hx:x<4294967296):bits .xor .u32 (x:Int) ((c.toNat:Int)%4294967296)*16777619%4294967296=((q1q x c:Nat):Int):=by
 have hc:c.toNat<256:=c.toNat_lt
 rw[show(c.toNat:Int)%4294967296=(c.toNat:Int) by omega,q1y x c.toNat hx (by omega)]
 unfold q1q
 omega
theorem q2a(n:Nat)(hn:n<4294967296)(s:ByteArray)(w:World)(hs:s.size≤maxLen) :
  Calls Tryz.prog 114 #[.int .u32 (n:Int),.string s] w fun e w'=>e= .returned (.int .u32 (q0r n s.data.toList:Nat))∧w=w':=by
 unfold maxLen at hs
 go_enter Tryz.func114,Tryz.ntmps114
 go_wp2
 go_loop [0,8] (fun v i=>∃k:Nat,k≤s.size∧v= .int .u32 (q0r n (s.data.toList.take k):Nat)∧i= .int .i64 k) (fun _ i=>s.size-(RowKit.intOf i).toNat)
 case atStart=>exact⟨0,Nat.zero_le _,rfl,rfl⟩
 case round=>
  obtain⟨k,hk,rfl,rfl⟩:=hrel
  by_cases hlt:k<s.size
  ·have hl:=q1t n (s.data.toList.take k) hn
   have HT:=zh (q1x n s k hlt)
   generalize q0r n (s.data.toList.take k)=x at *
   go_wp2
   go_round
   case rel=>exact⟨k+1,hlt,by rw[HT.out,q1z x s[k] hl],by go_num⟩
   case measure=>simp[RowKit.intOf];omega
  ·obtain rfl:k=s.size:=by omega
   have hq:s.data.toList.take s.size=s.data.toList:=List.take_of_length_le (by rw[←Z4];exact zl _)
   rw[hq]
   clear hq
   go_wp2
   go_ret
   exact⟨rfl,rfl⟩
theorem q2b(s:ByteArray)(w:World)(hs:s.size≤maxLen) :
  Calls Tryz.prog 55 #[.string s] w fun e w'=>e= .returned (.int .u32 (prOf s.data.toList:Nat))∧w=w':=by
 go_enter Tryz.func55,Tryz.ntmps55
 go_wp2_with fail
 refine(q2a 2166136261 (by omega) s _ hs).mono ?_
 rintro e w1 ⟨rfl,rfl⟩
 go_wp2
 go_ret
 exact⟨rfl,rfl⟩
end Go.Proofs.YtdmlghfggninbaaGreatDoor
namespace Go.Proofs.YtdmlghfggninbaaGreatDoor
open Go.Lib
theorem q2c(d:Nat)(h:d<10):digitVal (UInt8.ofNat (48+d))=some d:=by
 match d,h with
 | 0,_|1,_|2,_|3,_|4,_|5,_|6,_|7,_|8,_|9,_=>decide
theorem q2d(a b:List UInt8):∀acc n,decFrom acc a=some n→decFrom acc (a++b)=decFrom n b:=by
 induction a with
 | nil=>intro acc n h;simp only[decFrom,Option.some.injEq]at h;rw[List.nil_append,h]
 | cons c a ih=>
  intro acc n h
  simp only[decFrom,List.cons_append]at h ⊢
  cases hc:digitVal c with
  | none=>simp[hc]at h
  | some e=>simp only[hc]at h ⊢;exact ih _ _ h
theorem q2e(u:Nat):decFrom 0 (decDigits u)=some u:=by
 induction u using Nat.strongRecOn with
 | _ u ih=>
  by_cases h:u<10
  ·rw[decDigits,dif_pos h];simp only[decFrom,q2c u h,Nat.zero_mul,Nat.zero_add]
  ·rw[decDigits,dif_neg h,q2d _ _ _ _ (ih (u/10) (by omega))]
   simp only[decFrom,q2c (u%10) (by omega)]
   rw[show u/10*10+u%10=u by omega]
theorem q2f(u:Nat):decDigits u≠ []:=fun h=>by
 have:=decDigits_length u
 have h1:=nDigits_pos u
 rw[h]at this;simp at this;omega
theorem q2g(u:Nat)(c:UInt8)(h:c∈decDigits u):48≤c.toNat∧c.toNat≤57:=by
 obtain⟨k,hk⟩:=List.getElem?_of_mem h
 obtain⟨d,hd⟩:=digit_of_decFrom _ _ _ (q2e u) k c hk
 have:=digitVal_eq hd
 omega
theorem G8(u:Nat):itoa (u:Int)=decDigits u:=by
 unfold itoa
 rw[if_neg (by omega)];rfl
theorem D7(u k:Nat)(h:u<10^(k+1)):nDigits u≤k+1:=by
 induction k generalizing u with
 | zero=>rw[nDigits_small (by simpa using h)];exact zl _
 | succ k ih=>
  by_cases hu:u<10
  ·rw[nDigits_small hu];omega
  ·rw[nDigits_big hu]
   have:=ih (u/10) (by rw[Nat.pow_succ]at h;omega)
   omega
theorem q2h(l:List UInt8)(n:Nat)(h:decFrom 0 l=some n)(hne:l≠ []):decNat l=some n:=by
 unfold decNat
 rw[if_neg (by cases l with|nil=>exact absurd rfl hne|cons _ _=>simp)]
 exact h
theorem q2i(l:List UInt8)(n:Nat)(h:decFrom 0 l=some n)(hne:l≠ [])(hl:l.length≤18):atoiAll l= .ok (n:Int):=by
 rw[atoiAll_short l hl]
 cases l with
 | nil=>exact absurd rfl hne
 | cons c r=>
  have hd:∃d,digitVal c=some d:=digit_of_decFrom _ _ _ h 0 c rfl
  obtain⟨d,hd⟩:=hd
  obtain⟨h1,h2,_⟩:=digitVal_eq hd
  have e1:(c==45)=false:=by
   rw[beq_eq_false_iff_ne];intro e;rw[e]at h1;simp at h1
  have e2:(c==43)=false:=by
   rw[beq_eq_false_iff_ne];intro e;rw[e]at h1;simp at h1
  show NumEnd.ofOption (if(c==45)=true then(decNat r).map (fun(m:Nat)=> -(m:Int))else if(c==43)=true then(decNat r).map (fun(m:Nat)=>(m:Int))else(decNat (c::r)).map (fun(m:Nat)=>(m:Int)))=_
  rw[e1,e2,q2h _ _ h hne]
  rfl
theorem q2j(u:Nat)(h:u<10^18):atoiAll (decDigits u)= .ok (u:Int):=
 q2i _ _ (q2e u) (q2f u) (by rw[decDigits_length];exact D7 u 17 h)
def J1(b:UInt8):List UInt8→Option (List UInt8×List UInt8)
 | []=>none
 | c::l=>if c=b then some ([],l)else(J1 b l).map fun p=>(c::p.1,p.2)
theorem q2k(b:UInt8)(d r:List UInt8)(h:b∉d):J1 b (d++b::r)=some (d,r):=by
 induction d with
 | nil=>simp[J1]
 | cons c d ih=>
  have hc:c≠b:=fun e=>h (by simp[e])
  have hd:b∉d:=fun e=>h (List.mem_cons_of_mem _ e)
  simp[J1,hc,ih hd]
theorem D8(b:UInt8)(l d r:List UInt8)(h:J1 b l=some (d,r)):l=d++b::r∧b∉d:=by
 induction l generalizing d with
 | nil=>simp[J1]at h
 | cons c l ih=>
  simp only[J1]at h
  split at h
  ·next hc=>
   simp only[Option.some.injEq,Prod.mk.injEq]at h
   obtain⟨rfl,rfl⟩:=h
   simp[hc]
  ·next hc=>
   cases hb:J1 b l with
   | none=>simp[hb]at h
   | some p=>
    obtain⟨d',r'⟩:=p
    simp only[hb,Option.map_some,Option.some.injEq,Prod.mk.injEq]at h
    obtain⟨rfl,rfl⟩:=h
    obtain⟨h1,h2⟩:=ih d' hb
    refine⟨by rw[h1];rfl,fun e=> ?_⟩
    rcases List.mem_cons.1 e with e|e
    ·exact hc e.symm
    ·exact h2 e
theorem q2l(b:UInt8)(l:List UInt8):J1 b l=none↔b∉l:=by
 induction l with
 | nil=>simp[J1]
 | cons c l ih=>
  simp only[J1]
  by_cases hc:c=b
  ·simp[hc]
  ·rw[if_neg hc]
   simp[ih,Ne.symm hc,show ¬b=c from fun e=>hc e.symm]
theorem q2m(b c:UInt8)(l:List UInt8):index (c::l) [b]=if c=b then 0 else if index l [b]= -1 then-1 else index l [b]+1:=by
 by_cases hc:c=b
 ·subst hc;simp[index,List.isPrefixOf]
 ·have:([b].isPrefixOf (c::l))=false:=by
   have hbc:(b==c)=false:=by rw[beq_eq_false_iff_ne];exact fun e=>hc e.symm
   simp only[List.isPrefixOf,hbc,Bool.false_and]
  rw[index,this]
  simp[hc]
theorem q2n(b:UInt8)(l:List UInt8)(h:b∉l):index l [b]= -1:=by
 induction l with
 | nil=>rfl
 | cons c l ih=>
  have hc:c≠b:=fun e=>h (by simp[e])
  rw[q2m,if_neg hc,ih (fun e=>h (List.mem_cons_of_mem _ e)),if_pos rfl]
theorem q2o(b:UInt8)(d r:List UInt8)(h:b∉d):index (d++b::r) [b]=(d.length:Int):=by
 induction d with
 | nil=>rw[List.nil_append,q2m,if_pos rfl];rfl
 | cons c d ih=>
  have hc:c≠b:=fun e=>h (by simp[e])
  rw[List.cons_append,q2m,if_neg hc,ih (fun e=>h (List.mem_cons_of_mem _ e)),if_neg (by omega),List.length_cons]
  omega
theorem q2p(b:UInt8)(l d r:List UInt8)(h:J1 b l=some (d,r)):cut l [b]=(d,r,true):=by
 obtain⟨rfl,hb⟩:=D8 b l d r h
 unfold cut
 rw[q2o b d r hb,if_pos (by omega),Int.toNat_natCast]
 simp
theorem q2q(b:UInt8)(l:List UInt8)(h:J1 b l=none):cut l [b]=(l,[],false):=by
 unfold cut
 rw[q2n b l ((q2l b l).1 h),if_neg (by omega)]
end Go.Proofs.YtdmlghfggninbaaGreatDoor
namespace Go.Proofs.YtdmlghfggninbaaGreatDoor
open Go.RowKit Go.Lib
structure Perrs(w:World):Prop where
 s:∃T q,w.cell? ⟨15,0,none⟩=some (.iface T q)
 r:∃T q,w.cell? ⟨16,0,none⟩=some (.iface T q)
theorem Perrs.below{w w':World}(h:Perrs w)(hb:Below w.heap.size w w'):Perrs w' where
 s:=by obtain⟨T,q,hs⟩:=h.s;exact⟨T,q,(hb.cell (p:=⟨15,0,none⟩) (World.block_lt_of_cell? w _ hs)).trans hs⟩
 r:=by obtain⟨T,q,hs⟩:=h.r;exact⟨T,q,(hb.cell (p:=⟨16,0,none⟩) (World.block_lt_of_cell? w _ hs)).trans hs⟩
def q2r(l:List UInt8):Option Int:=match atoiAll l with
 | .ok v=>some v
 | _=>none
theorem q2s(l:List UInt8)(n:Nat)(h:atoiAll l= .ok (n:Int)):q2r l=some (n:Int):=by unfold q2r;rw[h]
theorem q2t{l:List UInt8}{v:Int}(h:q2r l=some v):atoiAll l= .ok v:=by
 unfold q2r at h
 cases hA:atoiAll l with
 | ok x=>rw[hA]at h;injection h with h;rw[h]
 | _=>rw[hA]at h;cases h
theorem q2u(s:ByteArray)(hs:s.size≤2^40)(v:Int)(h:q2r s.data.toList=some v)(w:World) :
  Calls Tryz.prog 179 #[.string s] w fun e w'=>e= .returned (.tuple #[.int .i64 v,.nilIface])∧Below w.heap.size w w':=
 (Tryz.strconv_Atoi_ok s (by omega) v (q2t h) w).mono fun e w' ⟨he,hw⟩=>⟨he,by
  rcases hw with hw|⟨t,hw⟩
  ·rw[hw];exact zb _ _
  ·rw[hw];exact Lib.bytesWorld_below w _ t⟩
theorem q2v(s:ByteArray)(hs:s.size≤2^40)(h:q2r s.data.toList=none)(w:World)(hp:Perrs w) :
  Calls Tryz.prog 179 #[.string s] w fun e w'=>∃x T q,e= .returned (.tuple #[.int .i64 x,.iface T q])∧Below w.heap.size w w':=by
 obtain⟨T1,q1,h1⟩:=hp.s
 obtain⟨T2,q2,h2⟩:=hp.r
 have hcase:atoiAll s.data.toList=NumEnd.ofOption (none:Option Int)∨atoiAll s.data.toList= .range:=by
  unfold q2r at h
  cases hA:atoiAll s.data.toList with
  | ok v=>rw[hA]at h;cases h
  | range=>exact .inr rfl
  | _=>exact .inl rfl
 rcases hcase with hA|hA
 ·exact(Any.strconv_Atoi_syntax Tryz.laysC172 s (by omega) hA (.iface T1 q1) w h1 (.inr ⟨_,_,rfl⟩)).mono fun e w' ⟨N,he,_,_,hb⟩=>⟨_,_,_,he,hb⟩
 ·exact(Tryz.strconv_Atoi_range s (by omega) hA (.iface T2 q2) w h2 (.inr ⟨_,_,rfl⟩)).mono fun e w' ⟨N,he,_,_,hb⟩=>⟨_,_,_,he,hb⟩
end Go.Proofs.YtdmlghfggninbaaGreatDoor
namespace Go.Proofs.YtdmlghfggninbaaGreatDoor
open Go.RowKit
structure Box2(b:Nat)(x y:Value)(w:World):Prop where
 c0:w.cell? ⟨b,0,none⟩=some x
 c1:w.cell? ⟨b,1,none⟩=some y
 f0:w.frozen? ⟨b,0,none⟩=false
 f1:w.frozen? ⟨b,1,none⟩=false
theorem Box2.lt{b:Nat}{x y:Value}{w:World}(h:Box2 b x y w):b<w.heap.size:=World.block_lt_of_cell? w _ h.c0
theorem Box2.below{b B:Nat}{x y:Value}{w w':World}(h:Box2 b x y w)(hb:Below B w w')(hB:b<B):Box2 b x y w':=
 ⟨(hb.cell (p:=⟨b,0,none⟩) hB).trans h.c0,(hb.cell (p:=⟨b,1,none⟩) hB).trans h.c1,(hb.frozen (p:=⟨b,0,none⟩) hB).trans h.f0,(hb.frozen (p:=⟨b,1,none⟩) hB).trans h.f1⟩
theorem Box2.mk'(w:World)(x y:Value)(t:TypeId):Box2 w.heap.size x y (w.alloc (.cells #[x,y] t)):=
 ⟨by rw[World.cell?_alloc_at _ _ _ _ rfl];rfl,by rw[World.cell?_alloc_at _ _ _ _ rfl];rfl,World.frozen?_alloc_new _ _ _ _,World.frozen?_alloc_new _ _ _ _⟩
theorem Box2.alloc{b:Nat}{x y:Value}{w:World}(h:Box2 b x y w)(o:Obj):Box2 b x y (w.alloc o):=h.below ((zb w.heap.size w).alloc (zl _) o) h.lt
theorem Box2.drewN{b:Nat}{x y:Value}{w:World}(h:Box2 b x y w)(n:Nat):Box2 b x y (w.drewN n):=⟨h.c0,h.c1,h.f0,h.f1⟩
theorem Box2.set{b:Nat}{x y:Value}{w:World}(h:Box2 b x y w)(u v:Value):Box2 b u v ((w.setCell ⟨b,0,none⟩ u).setCell ⟨b,1,none⟩ v):=by
 have hne:(⟨b,0,none⟩:Addr)≠⟨b,1,none⟩:=by intro h;injection h with _ h;cases h
 have p1:(w.setCell ⟨b,0,none⟩ u).cell? ⟨b,1,none⟩=some y:=(World.cell?_setCell_other _ _ _ _ hne).trans h.c1
 have p0:(w.setCell ⟨b,0,none⟩ u).cell? ⟨b,0,none⟩=some u:=World.cell?_setCell_same _ _ _ h.c0
 exact⟨(World.cell?_setCell_other _ _ _ _ hne.symm).trans p0,World.cell?_setCell_same _ _ _ p1,by rw[World.frozen?_setCell,World.frozen?_setCell];exact h.f0,by rw[World.frozen?_setCell,World.frozen?_setCell];exact h.f1⟩
theorem Box2.rd{b:Nat}{x y:Value}{w:World}(h:Box2 b x y w)(u v:Value) :
  ((w.setCell ⟨b,0,none⟩ u).setCell ⟨b,1,none⟩ v).cell? ⟨b,0,none⟩=some u∧((w.setCell ⟨b,0,none⟩ u).setCell ⟨b,1,none⟩ v).cell? ⟨b,1,none⟩=some v∧(w.setCell ⟨b,0,none⟩ u).cell? ⟨b,0,none⟩=some u:=
 ⟨(h.set u v).c0,(h.set u v).c1,World.cell?_setCell_same _ _ _ h.c0⟩
theorem q0c{B b:Nat}{a w:World}(h:Below B a w)(hb:B≤b)(u v:Value):Below B a ((w.setCell ⟨b,0,none⟩ u).setCell ⟨b,1,none⟩ v):=
 (h.setCell (p:=⟨b,0,none⟩) hb u).setCell (p:=⟨b,1,none⟩) hb v
end Go.Proofs.YtdmlghfggninbaaGreatDoor
namespace Go.Proofs.YtdmlghfggninbaaGreatDoor
open Go.RowKit Go.Lib
def R6:List UInt8:= [97,98,99,100,101,102,103,104,105,106,107,108,109,110,111,112,113,114,115,116,117,118,119,120,121,122,48,49,50,51,52,53,54,55,56,57,46,45]
def J7(l:List UInt8):Bool:=decide (1≤l.length)&&decide (l.length≤12)&&l.all (R6.contains ·)
theorem q2w{p:UInt8→Bool}(l:List UInt8):l.dropWhile p= []∨∃x r,l.dropWhile p=x::r∧p x=false:=by
 induction l with
 | nil=>exact .inl rfl
 | cons c l ih=>
  cases hc:p c with
  | true=>simpa[List.dropWhile,hc]using ih
  | false=>exact .inr ⟨c,l,by simp[List.dropWhile,hc],hc⟩
theorem q2x{p:UInt8→Bool}(l:List UInt8):l.dropWhile p= []↔l.all p=true:=by
 induction l with
 | nil=>simp
 | cons c l ih=>
  cases hc:p c with
  | true=>simpa[List.dropWhile,hc]using ih
  | false=>simp[List.dropWhile,hc]
theorem q2y(l cs:List UInt8):trimS l cs= []↔l.all (cs.contains ·)=true:=by
 unfold trimS trimLeftS trimRightS
 rw[q2x]
 rcases q2w (p:=(cs.contains ·)) l.reverse with h|⟨x,r,h,hx⟩
 ·rw[h]
  have:=(q2x _).1 h
  rw[List.all_reverse]at this
  simpa using this
 ·rw[h]
  constructor
  ·intro h1
   rw[List.all_reverse,List.all_cons,hx]at h1
   simp at h1
  ·intro h1
   rw[←List.all_reverse]at h1
   have:=(q2x _).2 h1
   rw[h]at this
   cases this
theorem q2z:(Tryz.prog.info? 322).map (fun i=>(i.zero,i.size))=some (some (.agg (Array.replicate 256 (.bool false))),256):=by kernel_rfl
theorem q3a(t:ByteArray)(ht:t.size≤9223372036854775807)(w:World) :
  Calls Tryz.prog 199 #[.string t,.string ⟨#[97,98,99,100,101,102,103,104,105,106,107,108,109,110,111,112,113,114,115,116,117,118,119,120,121,122,48,49,50,51,52,53,54,55,56,57,46,45]⟩] w
   fun e w'=>e= .returned (.string (bs (trimS t.data.toList R6)))∧Below w.heap.size w w':=
 Any.strings_Trim_laid Tryz.lays160 q2z t _ w ht (by decide) (ascii_of_all (by decide))
theorem q3b(l:List UInt8):(bs l).toList.isEmpty=decide (l= []):=by
 rw[ByteArray.toList_eq,Q3]
 cases l<;>rfl
theorem q3c(t:ByteArray)(ht:t.size≤9223372036854775807)(w:World) :
  Calls Tryz.prog 154 #[.string t] w fun e w'=>e= .returned (.bool (J7 t.data.toList))∧Below w.heap.size w w':=by
 have hz:=Z4 t
 by_cases h0:t.data.toList= []
 ·have he:t.toList.isEmpty=true:=by rw[ByteArray.toList_eq,h0];rfl
  have HJ:Hid (J7 t.data.toList=false):=zh (by rw[h0];rfl)
  clear hz h0
  go_enter Tryz.func154,Tryz.ntmps154
  go_wp2
  go_ret
  exact⟨by rw[HJ.out];rfl,zb _ _⟩
 ·have he:t.toList.isEmpty=false:=by
   rw[ByteArray.toList_eq]
   cases h:t.data.toList with
   | nil=>exact absurd h h0
   | cons=>rfl
  have hl1:1≤t.data.toList.length:=List.length_pos_iff.2 h0
  by_cases h12:t.size≤12
  ·have h12i:(t.size:Int)≤12:=by omega
   have HJ:Hid (J7 t.data.toList=decide (trimS t.data.toList R6= [])):=zh (by
    unfold J7
    rw[decide_eq_true hl1,decide_eq_true (show t.data.toList.length≤12 by omega)]
    cases hq:t.data.toList.all (R6.contains ·)with
    | true=>rw[decide_eq_true ((q2y _ _).2 hq)];rfl
    | false=>rw[decide_eq_false (fun h=>by rw[(q2y _ _).1 h]at hq;cases hq)];rfl)
   have HE:=zh (q3b (trimS t.data.toList R6))
   clear hz h0 hl1
   go_enter Tryz.func154,Tryz.ntmps154
   go_wp2_with fail
   refine(q3a t ht w).mono ?_
   rintro e w1 ⟨rfl,hb⟩
   go_wp2
   go_ret
   exact⟨by rw[HJ.out,←HE.out];rfl,hb⟩
  ·have h12i:¬(t.size:Int)≤12:=by omega
   have HJ:Hid (J7 t.data.toList=false):=zh (by unfold J7;rw[decide_eq_false (show ¬t.data.toList.length≤12 by omega),Bool.and_false,Bool.false_and])
   clear hz h0 hl1
   go_enter Tryz.func154,Tryz.ntmps154
   go_wp2
   go_ret
   exact⟨by rw[HJ.out];rfl,zb _ _⟩
end Go.Proofs.YtdmlghfggninbaaGreatDoor
namespace Go.Proofs.YtdmlghfggninbaaGreatDoor
open Go.RowKit Go.Extern.Stop Go.Stop Go.Extern
theorem Er.valueOf27(t:Addr)(w:World):(ReflectliteValue.unpack (.iface 178 (.pointer (some t)))).run Tryz.prog w
  = .ok (.agg #[.pointer (some ⟨21,178,none⟩),.pointer (some ⟨w.heap.size,0,none⟩),.int .u64 150]) (w.alloc (.cells #[.pointer (some t)] 178)):=by kernel_rfl
theorem Er.type27(a:Addr)(w:World):(ReflectliteValue.methodAny (ReflectliteValue.valueError "reflectlite.Value.Type" 0) (fun t _ _ _=>ReflectliteType.toType t) #[.agg #[.pointer (some ⟨21,178,none⟩),.pointer (some a),.int .u64 150]]).run Tryz.prog w
  = .ok (.iface 288 (.agg #[.pointer (some ⟨21,178,none⟩)])) w:=by kernel_rfl
theorem Er.methodKind(h:Value)(w:World):(Go.method 506 288 (.agg #[h]) "Kind").run Tryz.prog w= .ok (323,h) w:=by kernel_rfl
theorem Er.kind27(w:World):((ReflectliteType.abiMethod fun t=>(fun a:Nat=>Value.int IntKind.u8 (a:Int)) <$> Rtype.kind t) #[.pointer (some ⟨21,178,none⟩)]).run Tryz.prog w= .ok (.int .u8 22) w:=by kernel_rfl
theorem Er.kind25(w:World):((ReflectliteType.abiMethod fun t=>(fun a:Nat=>Value.int IntKind.u8 (a:Int)) <$> Rtype.kind t) #[.pointer (some ⟨21,170,none⟩)]).run Tryz.prog w= .ok (.int .u8 22) w:=by kernel_rfl
theorem rlm(z:Sem Value)(f:TypeId→Addr→Nat→Nat→Sem Value)(v:Value) :
  ReflectliteValue.method z f #[v]=(do match ←ReflectliteValue.parts v with|none=>z|some (t,a,fl)=>f t a fl (fl%32)):=rfl
theorem Er.parts27(a:Addr)(w:World):(ReflectliteValue.parts (.agg #[.pointer (some ⟨21,178,none⟩),.pointer (some a),.int .u64 150])).run Tryz.prog w= .ok (some (178,a,150)) w:=by kernel_rfl
theorem Er.isNil27(a p:Addr)(W:World)(ha:W.cell? a=some (.pointer (some p))) :
  (ReflectliteValue.method (ReflectliteValue.valueError "reflectlite.Value.IsNil" 0) ReflectliteValue.isNil #[.agg #[.pointer (some ⟨21,178,none⟩),.pointer (some a),.int .u64 150]]).run Tryz.prog W= .ok (.bool false) W:=by
 rw[rlm]
 simp only[Sem.run_bind,Er.parts27,Result.andThen]
 simp[ReflectliteValue.isNil,loadVar,isAgg,underlying,Tryz.underlying178,ha,Result.andThen]
theorem Er.methodElem(h:Value)(w:World):(Go.method 506 288 (.agg #[h]) "Elem").run Tryz.prog w= .ok (335,.agg #[h]) w:=by kernel_rfl
theorem Er.methodImplements(h:Value)(w:World):(Go.method 506 288 (.agg #[h]) "Implements").run Tryz.prog w= .ok (336,.agg #[h]) w:=by kernel_rfl
theorem Er.methodAssignableTo(h:Value)(w:World):(Go.method 506 288 (.agg #[h]) "AssignableTo").run Tryz.prog w= .ok (333,.agg #[h]) w:=by kernel_rfl
theorem Er.elem27(w:World):(ReflectliteType.method ReflectliteType.elem #[.agg #[.pointer (some ⟨21,178,none⟩)]]).run Tryz.prog w= .ok (.iface 288 (.agg #[.pointer (some ⟨21,170,none⟩)])) w:=by kernel_rfl
theorem Er.implements25(w:World):(ReflectliteType.relation "Implements" ReflectliteType.implements_ #[.agg #[.pointer (some ⟨21,170,none⟩)],.iface 288 (.agg #[.pointer (some ⟨21,42,none⟩)])]).run Tryz.prog w= .ok (.bool true) w:=by kernel_rfl
theorem Er.typeOf25(v:Value)(w:World):(ReflectliteType.typeOf #[.iface 170 v]).run Tryz.prog w= .ok (.iface 288 (.agg #[.pointer (some ⟨21,170,none⟩)])) w:=by kernel_rfl
theorem Er.assignable25(w:World):(ReflectliteType.relation "AssignableTo" ReflectliteType.assignableTo #[.agg #[.pointer (some ⟨21,170,none⟩)],.iface 288 (.agg #[.pointer (some ⟨21,170,none⟩)])]).run Tryz.prog w= .ok (.bool true) w:=by kernel_rfl
theorem Er.valueOf25(e:Addr)(w:World):(ReflectliteValue.unpack (.iface 170 (.pointer (some e)))).run Tryz.prog w
  = .ok (.agg #[.pointer (some ⟨21,170,none⟩),.pointer (some ⟨w.heap.size,0,none⟩),.int .u64 150]) (w.alloc (.cells #[.pointer (some e)] 170)):=by kernel_rfl
theorem Er.elemOf27(w:World):(Rtype.elem? 178).run Tryz.prog w= .ok (some 170) w:=by kernel_rfl
theorem Er.mk25(p:Addr)(w:World):(ReflectliteValue.mk 170 p ReflectliteValue.flagAddr).run Tryz.prog w= .ok (.agg #[.pointer (some ⟨21,170,none⟩),.pointer (some p),.int .u64 406]) w:=by kernel_rfl
theorem Er.elemV27(a p:Addr)(W:World)(ha:W.cell? a=some (.pointer (some p))) :
  (ReflectliteValue.method (ReflectliteValue.valueError "reflectlite.Value.Elem" 0) ReflectliteValue.elem #[.agg #[.pointer (some ⟨21,178,none⟩),.pointer (some a),.int .u64 150]]).run Tryz.prog W
   = .ok (.agg #[.pointer (some ⟨21,170,none⟩),.pointer (some p),.int .u64 406]) W:=by
 rw[rlm]
 simp only[Sem.run_bind,Er.parts27,Result.andThen]
 simp[ReflectliteValue.elem,loadVar,isAgg,underlying,Tryz.underlying178,ha,Result.andThen,Er.elemOf27,Er.mk25]
theorem rls(v x:Value):ReflectliteValue.set #[v,x]=(do
  let(some (dst,a,fl),some (src,b,_)):=(←ReflectliteValue.parts v,←ReflectliteValue.parts x)
   | unsupported (.noEntry "extern/(internal/reflectlite.Value).Set.zeroValue")
  if fl/ReflectliteValue.flagAddr%2==0 then unsupported (.noEntry "extern/(internal/reflectlite.Value).Set.unaddressable")
  let val ←loadVar src b
  if ←Rtype.directlyAssignable dst src then storeVar dst a val
  else if ←Rtype.implements dst src then
   if(←Rtype.kind src)==20 then
    match val with
    | .nilIface=>unsupported (.noEntry "extern/reflectlite: a nil value of one interface type handed on as a value of another")
    | _=>storeVar dst a val
   else storeVar dst a (.iface src val)
  else panicString ("reflectlite.Set: value of type " ++(←Rtype.spelt src)++ " is not assignable to type " ++(←Rtype.spelt dst))
  pure (.tuple #[])):=rfl
theorem Er.parts25a(a:Addr)(w:World):(ReflectliteValue.parts (.agg #[.pointer (some ⟨21,170,none⟩),.pointer (some a),.int .u64 406])).run Tryz.prog w= .ok (some (170,a,406)) w:=by kernel_rfl
theorem Er.parts25(a:Addr)(w:World):(ReflectliteValue.parts (.agg #[.pointer (some ⟨21,170,none⟩),.pointer (some a),.int .u64 150])).run Tryz.prog w= .ok (some (170,a,150)) w:=by kernel_rfl
theorem Er.direct25(w:World):(Rtype.directlyAssignable 170 170).run Tryz.prog w= .ok true w:=by kernel_rfl
theorem Er.set25(ta b e:Addr)(old:Value)(W:World)(hb:W.cell? b=some (.pointer (some e)))(ht:W.cell? ta=some old)(hf:W.frozen? ta=false) :
  (ReflectliteValue.set #[.agg #[.pointer (some ⟨21,170,none⟩),.pointer (some ta),.int .u64 406],.agg #[.pointer (some ⟨21,170,none⟩),.pointer (some b),.int .u64 150]]).run Tryz.prog W
   = .ok (.tuple #[]) (W.setCell ta (.pointer (some e))):=by
 rw[rls]
 simp only[Sem.run_bind,Er.parts25a,Er.parts25,Result.andThen]
 simp[ReflectliteValue.flagAddr,loadVar,isAgg,underlying,Tryz.underlying170,hb,Result.andThen,Er.direct25,storeVar,Value.cells,storeCells,Addr.add]
 rw[run_store Tryz.prog W ta _ _ (by rfl)]
 simp[ht,hf]
theorem q3d(e t:Addr)(old:Value)(w:World)(hg:w.cell? ⟨12,0,none⟩=some (.iface 288 (.agg #[.pointer (some ⟨21,42,none⟩)])))(ht0:w.cell? t=some old)(hf0:w.frozen? t=false) :
  Calls Tryz.prog 117 #[.iface 170 (.pointer (some e)),.iface 178 (.pointer (some t))] w fun ev w'=>ev= .returned (.bool true)∧w'=((((w.alloc (.cells #[.pointer (some t)] 178)).alloc (.cells #[.pointer (some ⟨21,178,none⟩),.pointer (some ⟨w.heap.size,0,none⟩),.int .u64 150] 234)).alloc (.cells #[.pointer (some ⟨21,178,none⟩),.pointer (some ⟨w.heap.size,0,none⟩),.int .u64 150] 234)).alloc (.cells #[.pointer (some e)] 170)).setCell t (.pointer (some e)):=by
 have h6:= @run_callFunc_extern Tryz.prog 170 _ (fun args=>ReflectliteValue.unpack (args.getD 0 (.tuple #[]))) Tryz.func170 (by kernel_rfl) (by kernel_rfl) (by kernel_rfl) (by kernel_rfl)
 have h7:= @run_callFunc_extern Tryz.prog 171 _ (ReflectliteValue.methodAny (ReflectliteValue.valueError "reflectlite.Value.Type" 0) (fun t _ _ _=>ReflectliteType.toType t)) Tryz.func171 (by kernel_rfl) (by kernel_rfl) (by kernel_rfl) (by kernel_rfl)
 have h8:= @run_callFunc_extern Tryz.prog 172 _ (ReflectliteValue.method (ReflectliteValue.valueError "reflectlite.Value.IsNil" 0) ReflectliteValue.isNil) Tryz.func172 (by kernel_rfl) (by kernel_rfl) (by kernel_rfl) (by kernel_rfl)
 have h27:= @run_callFunc_extern Tryz.prog 323 _ (ReflectliteType.abiMethod fun t=>do pure (.int .u8 (←Rtype.kind t))) Tryz.func323 (by kernel_rfl) (by kernel_rfl) (by kernel_rfl) (by kernel_rfl)
 have h37:= @run_callFunc_extern Tryz.prog 335 _ (ReflectliteType.method ReflectliteType.elem) Tryz.func335 (by kernel_rfl) (by kernel_rfl) (by kernel_rfl) (by kernel_rfl)
 have h38:= @run_callFunc_extern Tryz.prog 336 _ (ReflectliteType.relation "Implements" ReflectliteType.implements_) Tryz.func336 (by kernel_rfl) (by kernel_rfl) (by kernel_rfl) (by kernel_rfl)
 have h10:= @run_callFunc_extern Tryz.prog 174 _ ReflectliteType.typeOf Tryz.func174 (by kernel_rfl) (by kernel_rfl) (by kernel_rfl) (by kernel_rfl)
 have h35:= @run_callFunc_extern Tryz.prog 333 _ (ReflectliteType.relation "AssignableTo" ReflectliteType.assignableTo) Tryz.func333 (by kernel_rfl) (by kernel_rfl) (by kernel_rfl) (by kernel_rfl)
 have h11:= @run_callFunc_extern Tryz.prog 213 _ (ReflectliteValue.method (ReflectliteValue.valueError "reflectlite.Value.Elem" 0) ReflectliteValue.elem) Tryz.func213 (by kernel_rfl) (by kernel_rfl) (by kernel_rfl) (by kernel_rfl)
 have h12:= @run_callFunc_extern Tryz.prog 214 _ ReflectliteValue.set Tryz.func214 (by kernel_rfl) (by kernel_rfl) (by kernel_rfl) (by kernel_rfl)
 have tO:=Er.typeOf25
 have mA:=Er.methodAssignableTo
 have a25:=Er.assignable25
 have v25:=Er.valueOf25
 have f6:=Er.valueOf27
 have f7:=Er.type27
 have mK:=Er.methodKind
 have mE:=Er.methodElem
 have mI:=Er.methodImplements
 have k27:=Er.kind27
 have k25:=Er.kind25
 have e27:=Er.elem27
 have i25:=Er.implements25
 have n8:=Er.isNil27 ⟨w.heap.size,0,none⟩ t ((w.alloc (.cells #[.pointer (some t)] 178)).alloc (.cells #[.pointer (some ⟨21,178,none⟩),.pointer (some ⟨w.heap.size,0,none⟩),.int .u64 150] 234)) (by simp)
 have hlt:12<w.heap.size:=World.block_lt_of_cell? w _ hg
 have hg2:((w.alloc (.cells #[.pointer (some t)] 178)).alloc (.cells #[.pointer (some ⟨21,178,none⟩),.pointer (some ⟨w.heap.size,0,none⟩),.int .u64 150] 234)).cell? ⟨12,0,none⟩=some (.iface 288 (.agg #[.pointer (some ⟨21,42,none⟩)])):=by
  rw[World.cell?_alloc_lt _ _ ⟨12,0,none⟩ (by simp;omega),World.cell?_alloc_lt _ _ ⟨12,0,none⟩ hlt];exact hg
 have htl:t.block<w.heap.size:=by
  rcases Nat.lt_or_ge t.block w.heap.size with h|h
  ·exact h
  ·simp[World.cell?,Array.getElem?_eq_none h]at ht0
 have el:=Er.elemV27 ⟨w.heap.size,0,none⟩ t (((w.alloc (.cells #[.pointer (some t)] 178)).alloc (.cells #[.pointer (some ⟨21,178,none⟩),.pointer (some ⟨w.heap.size,0,none⟩),.int .u64 150] 234)).alloc (.cells #[.pointer (some ⟨21,178,none⟩),.pointer (some ⟨w.heap.size,0,none⟩),.int .u64 150] 234)) (by rw[World.cell?_alloc_lt _ _ ⟨w.heap.size,0,none⟩ (by simp;omega)];simp)
 have st:=Er.set25 t ⟨w.heap.size+1+1+1,0,none⟩ e old ((((w.alloc (.cells #[.pointer (some t)] 178)).alloc (.cells #[.pointer (some ⟨21,178,none⟩),.pointer (some ⟨w.heap.size,0,none⟩),.int .u64 150] 234)).alloc (.cells #[.pointer (some ⟨21,178,none⟩),.pointer (some ⟨w.heap.size,0,none⟩),.int .u64 150] 234)).alloc (.cells #[.pointer (some e)] 170))
  (by rw[World.cell?_alloc_at _ _ _ _ (by simp)];rfl)
  (by rw[World.cell?_alloc_lt _ _ t (by simp;omega),World.cell?_alloc_lt _ _ t (by simp;omega),World.cell?_alloc_lt _ _ t (by simp;omega),World.cell?_alloc_lt _ _ t htl];exact ht0)
  (by rw[World.frozen?_alloc_old _ _ t (by simp;omega),World.frozen?_alloc_old _ _ t (by simp;omega),World.frozen?_alloc_old _ _ t (by simp;omega),World.frozen?_alloc_old _ _ t (Nat.ne_of_lt htl)];exact hf0)
 go_enter Tryz.func117,Tryz.ntmps117
 go_wp2
 refine wp_loop_rounds 1 ?_
 rw[rounds_succ]
 go_wp2
 go_ret
 exact⟨rfl,rfl⟩
end Go.Proofs.YtdmlghfggninbaaGreatDoor
