/- PlainR, SJ, RefP, RefQ in one text. Conditions: as each part says. -/
import Derived.Test.YtdmlghfggninbaaGreatDoorMb0
import Derived.Test.YtdmlghfggninbaaGreatDoorMb32
import Derived.Test.YtdmlghfggninbaaGreatDoorMb30
import Derived.Lib.Join
import Derived.Test.YtdmlghfggninbaaGreatDoorMb31
import Derived.Test.YtdmlghfggninbaaGreatDoorMb1
import Derived.Laws.OwnMore
import Derived.Test.YtdmlghfggninbaaGreatDoorMb27
import Derived.Lib.ItoaLen
import Derived.Lib.SlBytesConst
set_option linter.unusedVariables false
set_option linter.unusedSimpArgs false
namespace Go.Proofs.YtdmlghfggninbaaGreatDoor
open Go.RowKit Go.Lib
abbrev Idn:=Nat×Int
abbrev IdL:=List Idn
structure Rcp where
 name:Bytes
 len:Int
 print:Nat
 ids:IdL
def idOf(p:Bytes):Idn:=(prOf p,(p.length:Int))
def V8(s:Bytes):IdL:=(pieces s).map idOf
def Q7(name s:Bytes):Rcp:=⟨name,s.length,prOf s,V8 s⟩
def R8:Rcp:=⟨[],0,0,[]⟩
def X9(len:Int):Nat→Int→IdL→Int×Int
 | _,n,[]=>if n=len then(0,-1)else(9,-1)
 | i,n,x::r=>if x.2<1∨64<x.2 then(3,(i:Int))else X9 len (i+1) (n+x.2) r
def Z9(r:Rcp):Int×Int:=
 if J7 r.name=false then(4,-1)else if r.len<0∨4000<r.len then(2,-1)else if 250<r.ids.length then(7,-1)else X9 r.len 0 0 r.ids
def C7:Nat→List Bytes→IdL→Option Nat
 | i,p::ls,x::r=>if idOf p=x then C7 (i+1) ls r else some i
 | _,_,_=>none
def z0w(r:Rcp)(ls:List Bytes):Option Nat→Bytes×Int×Int
 | some i=>([],9,(i:Int))
 | none=>if prOf ls.flatten=r.print then(ls.flatten,0,-1)else([],9,-1)
def q0p(r:Rcp)(ls:List Bytes):Bytes×Int×Int:=
 if(Z9 r).1≠0 then([],Z9 r)else if ls.length≠r.ids.length then([],3,-1)else z0w r ls (C7 0 ls r.ids)
def Q2(x m:Idn):Bool:=C5 x.1 m.1 x.2 m.2
def M6:Idn→IdL→Idn
 | m,[]=>m
 | m,x::r=>M6 (if Q2 x m then x else m) r
def Z8:IdL→Idn
 | []=>idOf []
 | x::r=>M6 x r
def z0x:IdL→Bytes
 | []=> []
 | x::r=>32::(V2 x.1 x.2++z0x r)
def X4(r:Rcp):Bytes:=r.name++32::(itoa r.len++32::(hex8 r.print++z0x r.ids))
def V6:List Bytes→Option IdL
 | []=>some []
 | x::r=>match G4 x with
  | some (n,k)=>match V6 r with
   | some l=>some ((n,(k:Int))::l)
   | none=>none
  | none=>none
def z0y(a:Bytes)(n p:Nat):Option IdL→Except (Int×Int) Rcp
 | some ids=>if(Z9 ⟨a,n,p,ids⟩).1=0 then .ok ⟨a,n,p,ids⟩else .error (Z9 ⟨a,n,p,ids⟩)
 | none=> .error (1,-1)
def z0z:List Bytes→Except (Int×Int) Rcp
 | a::b::c::ws=>match V1 b 6,K9 c with
  | some n,some p=>z0y a n p (V6 ws)
  | _,_=> .error (1,-1)
 | _=> .error (1,-1)
def Y6(t:Bytes):Except (Int×Int) Rcp:=if 40000<t.length then .error (2,-1)else z0z (K5 32 t)
theorem z1a(len:Int)(L:IdL):∀i n,(X9 len i n L).1=0→X9 len i n L=(0,-1):=by
 induction L with
 | nil=>intro i n h;unfold X9 at h ⊢;split at h<;>simp_all
 | cons x r ih=>
  intro i n h;unfold X9 at h ⊢;split at h;· cases h
  rename_i hc;rw[if_neg hc];exact ih _ _ h
theorem z1b{r:Rcp}(h:(Z9 r).1=0):Z9 r=(0,-1):=by
 unfold Z9 at h ⊢
 split at h
 ·cases h
 ·rename_i h1
  rw[if_neg h1]
  split at h
  ·cases h
  ·rename_i h2
   rw[if_neg h2]
   split at h
   ·cases h
   ·rename_i h3
    rw[if_neg h3]
    exact z1a _ _ _ _ h
theorem R0{r:Rcp}(h:(Z9 r).1=0):J7 r.name=true∧0≤r.len∧r.len≤4000∧r.ids.length≤250∧X9 r.len 0 0 r.ids=(0,-1):=by
 have h0:=z1b h
 unfold Z9 at h0
 split at h0
 ·cases h0
 ·split at h0
  ·cases h0
  ·split at h0
   ·cases h0
   ·rename_i h1 h2 h3
    exact⟨by simpa using h1,by omega,by omega,by omega,h0⟩
theorem z1c(len:Int)(L:IdL):∀i n,(X9 len i n L).1=0→∀x∈L,1≤x.2∧x.2≤64:=by
 induction L with
 | nil=>intro _ _ _ x hx;cases hx
 | cons y r ih=>
  intro i n h x hx
  unfold X9 at h
  split at h
  ·cases h
  ·rename_i hc
   rcases List.mem_cons.1 hx with rfl|hx
   ·omega
   ·exact ih _ _ h x hx
theorem z1d(len:Int)(ps:List Bytes)(h:∀p∈ps,p≠ []∧p.length≤64):∀i n,n+(ps.flatten.length:Int)=len→X9 len i n (ps.map idOf)=(0,-1):=by
 induction ps with
 | nil=>intro i n hn;simp at hn;unfold X9;rw[List.map_nil];simp[hn]
 | cons p r ih=>
  intro i n hn
  obtain⟨h1,h2⟩:=h p (List.mem_cons_self ..)
  have h3:0<p.length:=List.length_pos_iff.2 h1
  rw[List.map_cons]
  unfold X9
  rw[if_neg (by show ¬((p.length:Int)<1∨64<(p.length:Int));omega)]
  refine ih (fun q hq=>h q (List.mem_cons_of_mem _ hq)) _ _ ?_
  show n+(p.length:Int)+_=len
  rw[List.flatten_cons,List.length_append]at hn
  omega
theorem z1e(cur r:Bytes):16*(pcs cur r).length≤cur.length+r.length+15:=by
 induction r generalizing cur with
 | nil=>simp[pcs]
 | cons b r ih=>
  rw[q0z]
  split
  ·rename_i he
   have h1:=q1e he
   have h2:=ih []
   simp at h1 h2 ⊢
   omega
  ·split
   ·simp;omega
   ·have h2:=ih (cur++ [b])
    simp at h2 ⊢
    omega
theorem z1f(s:Bytes):16*(pieces s).length≤s.length+15:=by
 have:=z1e [] s
 simp at this
 exact this
theorem z1g{name s:Bytes}(hn:J7 name=true)(hs:s.length≤4000):Z9 (Q7 name s)=(0,-1):=by
 unfold Z9 Q7
 have h1:=z1f s
 rw[if_neg (by simp[hn]),if_neg (by simp only;omega),if_neg (by simp only[V8,List.length_map];omega)]
 exact z1d _ _ (fun p hp=>⟨q1d s p hp,W9 s p hp⟩) 0 0 (by rw[B6];simp)
theorem z1h(ls:List Bytes):∀i,C7 i ls (ls.map idOf)=none:=by
 induction ls with
 | nil=>intro i;rfl
 | cons p r ih=>intro i;rw[List.map_cons];unfold C7;rw[if_pos rfl];exact ih _
theorem z1i{name s:Bytes}(hn:J7 name=true)(hs:s.length≤4000):q0p (Q7 name s) (pieces s)=(s,0,-1):=by
 unfold q0p
 rw[z1g hn hs,if_neg (by simp),if_neg (by simp[Q7,V8])]
 have:C7 0 (pieces s) (Q7 name s).ids=none:=z1h _ 0
 rw[this]
 unfold z0w
 rw[if_pos (by rw[B6];rfl),B6]
theorem R1(x:Idn):Q2 x x=false:=by unfold Q2 C5;simp
theorem q0a{x y:Idn}:Q2 x y=true↔x.1<y.1∨(x.1=y.1∧x.2<y.2):=by
 unfold Q2 C5
 by_cases h:x.1=y.1
 ·simp[h]
 ·rw[if_pos h,decide_eq_true_eq]
  omega
theorem z1j(L:IdL):∀m,M6 m L=m∨M6 m L∈L:=by
 induction L with
 | nil=>intro m;exact .inl rfl
 | cons x r ih=>
  intro m
  show M6 (if Q2 x m then x else m) r=m∨_
  rcases ih (if Q2 x m then x else m)with h|h
  ·rw[show M6 m (x::r)=M6 (if Q2 x m then x else m) r from rfl,h]
   split
   ·exact .inr (List.mem_cons_self ..)
   ·exact .inl rfl
  ·exact .inr (List.mem_cons_of_mem _ h)
theorem z1k{L:IdL}(h:L≠ []):Z8 L∈L:=by
 cases L with
 | nil=>exact absurd rfl h
 | cons x r=>
  rcases z1j r x with h|h
  ·show M6 x r∈_;rw[h];exact List.mem_cons_self ..
  ·exact List.mem_cons_of_mem _ h
theorem z1l{l:Bytes}(h:J7 l=true):(32:UInt8)∉l:=fun hm=>by
 unfold J7 at h
 have h3:=List.all_eq_true.1 (Bool.and_eq_true_iff.1 h).2 32 hm
 exact absurd h3 (by decide)
theorem z1m(u:Nat):(32:UInt8)∉decDigits u:=fun hm=>by
 have:=q2g u 32 hm
 exact absurd this.1 (by decide)
theorem z1n(d:Nat)(h:d<16):hexc d≠32:=(show ∀e:Fin 16,hexc e.1≠32 by decide) ⟨d,h⟩
theorem z1o(p:Nat):(32:UInt8)∉hex8 p:=fun h=>by
 unfold hex8 hexL at h
 obtain⟨j,_,hj⟩:=List.mem_map.1 h
 exact z1n _ (Nat.mod_lt _ (by decide)) hj
theorem z1p(p k:Nat):(32:UInt8)∉V2 p (k:Int):=fun h=>by
 unfold V2 at h
 rw[if_neg (by omega),G8]at h
 rcases List.mem_append.1 h with h|h
 ·exact z1o p h
 ·rcases List.mem_cons.1 h with h|h
  ·cases h
  ·exact z1m k h
theorem z1q(b:UInt8)(l:Bytes)(h:b∉l):K5 b l= [l]:=by
 unfold K5;rw[q9r b l [] h];rfl
theorem z1r(b:UInt8)(d r:Bytes)(h:b∉d):K5 b (d++b::r)=d::K5 b r:=by
 unfold K5;rw[q9s b d r [] h];rfl
theorem z1s(b:UInt8):∀(L:IdL) (d:Bytes),(32:UInt8)∉d→(∀x∈L,0≤x.2)→K5 32 (d++z0x L)=d::L.map fun x=>V2 x.1 x.2
 | [],d,hd,_=>by show K5 32 (d++ [])= [d];rw[List.append_nil];exact z1q _ _ hd
 | x::r,d,hd,h=>by
  show K5 32 (d++32::(V2 x.1 x.2++z0x r))=d::V2 x.1 x.2::_
  have hx:=h x (List.mem_cons_self ..)
  obtain⟨k,hk⟩:∃k:Nat,x.2=k:=⟨x.2.toNat,by omega⟩
  rw[z1r _ _ _ hd,z1s b r _ (by rw[hk];exact z1p _ _) (fun y hy=>h y (List.mem_cons_of_mem _ hy))]
theorem z1t:∀(L:IdL),(∀x∈L,x.1<4294967296∧0≤x.2∧x.2<1000000)→V6 (L.map fun x=>V2 x.1 x.2)=some L
 | [],_=>rfl
 | x::r,h=>by
  obtain⟨h1,h2,h3⟩:=h x (List.mem_cons_self ..)
  obtain⟨k,hk⟩:∃k:Nat,x.2=k:=⟨x.2.toNat,by omega⟩
  show V6 (V2 x.1 x.2::r.map fun x=>V2 x.1 x.2)=_
  unfold V6
  rw[hk,q9q x.1 k h1 (by omega),z1t r (fun y hy=>h y (List.mem_cons_of_mem _ hy))]
  simp only
  rw[←hk]
theorem z1u{x:Idn}(h0:0≤x.2)(h1:x.2≤64):(V2 x.1 x.2).length≤11:=by
 obtain⟨k,hk⟩:∃k:Nat,x.2=k:=⟨x.2.toNat,by omega⟩
 unfold V2
 rw[if_neg (by omega),hk,G8,List.length_append,List.length_cons,show(hex8 x.1).length=8 from X8 _ _,decDigits_length]
 have:=D7 k 1 (by omega)
 omega
theorem z1v:∀(L:IdL),(∀x∈L,1≤x.2∧x.2≤64)→(z0x L).length≤12*L.length
 | [],_=>by simp[z0x]
 | x::r,h=>by
  have h1:=h x (List.mem_cons_self ..)
  have h2:=z1v r (fun y hy=>h y (List.mem_cons_of_mem _ hy))
  have h3:=z1u (x:=x) (by omega) h1.2
  show(32::(V2 x.1 x.2++z0x r)).length≤_
  rw[List.length_cons,List.length_append,List.length_cons]
  omega
theorem z1w{l:Bytes}(h:J7 l=true):l.length≤12:=by
 unfold J7 at h
 have:=(Bool.and_eq_true_iff.1 (Bool.and_eq_true_iff.1 h).1).2
 exact of_decide_eq_true this
theorem z1x{n:Int}(h0:0≤n)(h1:n≤4000):(itoa n).length≤4:=by
 obtain⟨k,hk⟩:∃k:Nat,n=k:=⟨n.toNat,by omega⟩
 rw[hk,G8,decDigits_length]
 exact D7 k 3 (by omega)
theorem z1y{r:Rcp}(h:(Z9 r).1=0):(X4 r).length≤4000:=by
 obtain⟨h1,h2,h3,h4,h5⟩:=R0 h
 have h6:=z1v r.ids (z1c _ _ 0 0 (by rw[h5]))
 have h7:=z1w h1
 have h8:=z1x h2 h3
 unfold X4
 rw[List.length_append,List.length_cons,List.length_append,List.length_cons,List.length_append,show(hex8 r.print).length=8 from X8 _ _]
 omega
theorem z1z{r:Rcp}(h:(Z9 r).1=0)(hp:r.print<4294967296)(hi:∀x∈r.ids,x.1<4294967296):Y6 (X4 r)= .ok r:=by
 obtain⟨h1,h2,h3,h4,h5⟩:=R0 h
 have h6:=z1c _ _ 0 0 (show(X9 r.len 0 0 r.ids).1=0 by rw[h5])
 have h9:=z1y h
 obtain⟨k,hk⟩:∃k:Nat,r.len=k:=⟨r.len.toNat,by omega⟩
 unfold Y6
 rw[if_neg (by omega)]
 unfold X4
 rw[z1r _ _ _ (z1l h1),z1r _ _ _ (by rw[hk,G8];exact z1m k),z1s 32 _ _ (z1o _) (fun x hx=>by have:=h6 x hx;omega)]
 unfold z0z
 have e1:V1 (itoa r.len) 6=some k:=by rw[hk,G8];exact q9d k 6 (by omega) (by rw[decDigits_length];exact D7 k 5 (by omega))
 have e2:(⟨r.name,(k:Int),r.print,r.ids⟩:Rcp)=r:=by rw[←hk]
 simp only[e1,q3x _ hp,z1t _ (fun x hx=>⟨hi x hx,by have:=h6 x hx;omega,by have:=h6 x hx;omega⟩),z0y,e2]
 rw[if_pos h]
theorem z2a:∀(L:IdL),joinTail [32] (L.map fun x=>V2 x.1 x.2)=z0x L
 | []=>rfl
 | x::r=>by
  show([32]++V2 x.1 x.2)++joinTail [32] (r.map fun x=>V2 x.1 x.2)=32::(V2 x.1 x.2++z0x r)
  rw[z2a r];simp
theorem z2b(r:Rcp):join ([r.name,itoa r.len,hex8 r.print]++r.ids.map fun x=>V2 x.1 x.2) [32]=X4 r:=by
 show join (r.name::itoa r.len::hex8 r.print::r.ids.map fun x=>V2 x.1 x.2) [32]=X4 r
 rw[join_cons]
 show r.name++(([32]++itoa r.len)++(([32]++hex8 r.print)++joinTail [32] _))=_
 rw[z2a]
 unfold X4
 simp
theorem z2c:∀(ls:List Bytes),joinTail [] ls=ls.flatten
 | []=>rfl
 | x::r=>by show([]++x)++joinTail [] r=x++r.flatten;rw[z2c r];rfl
theorem z2d(ls:List Bytes):join ls []=ls.flatten:=by
 cases ls with
 | nil=>rfl
 | cons x r=>rw[join_cons,z2c];rfl
theorem z2e(c:UInt8):∀(s cur:Bytes),D2 c cur s=if index s [c]== -1 then[cur++s]else(cur++s.take (index s [c]).toNat)::K5 c (s.drop ((index s [c]).toNat+1))
 | [],cur=>by
  have:index ([]:Bytes) [c]= -1:=by simp[index]
  rw[this];simp[D2]
 | b::l,cur=>by
  rw[D2]
  by_cases h:b=c
  ·subst h
   have hix:index (b::l) [b]=0:=by rw[index];simp[List.isPrefixOf]
   rw[if_pos rfl,hix]
   simp[K5]
  ·have hp:([c]:List UInt8).isPrefixOf (b::l)=false:=by simp[List.isPrefixOf,Ne.symm h]
   have hix:index (b::l) [c]=if index l [c]== -1 then-1 else index l [c]+1:=by rw[index,hp];simp
   rw[if_neg h,z2e c l (cur++ [b]),hix]
   by_cases hm:index l [c]= -1
   ·simp[hm]
   ·have hge:=index_ge l [c]
    obtain⟨j,hj⟩:∃j:Nat,index l [c]=j:=⟨(index l [c]).toNat,by omega⟩
    rw[hj]
    have e1:((j:Int)== -1)=false:=by rw[beq_eq_false_iff_ne];omega
    have e2:((j:Int)+1== -1)=false:=by rw[beq_eq_false_iff_ne];omega
    have e3:((j:Int)+1).toNat=j+1:=by omega
    simp only[e1,e2,e3,Bool.false_eq_true,if_false,Int.toNat_natCast,List.take_succ_cons,List.append_assoc,List.singleton_append,List.drop_succ_cons]
theorem z2f(c:UInt8):∀(k:Nat) (s:Bytes),count s [c]=k→splitK [c] 0 k s=K5 c s
 | 0,s,h=>by
  have hi:index s [c]= -1:=by
   by_cases hm:index s [c]= -1
   ·exact hm
   ·have hge:=index_ge s [c]
    have:=count_hit (s:=s) (sub:= [c]) (i:=(index s [c]).toNat) (by simp) (by omega)
    omega
  unfold K5
  rw[z2e,hi]
  rfl
 | k+1,s,h=>by
  by_cases hm:index s [c]= -1
  ·rw[count_miss hm]at h;omega
  ·have hge:=index_ge s [c]
   obtain⟨j,hj⟩:∃j:Nat,index s [c]=j:=⟨(index s [c]).toNat,by omega⟩
   have hc:=count_hit (s:=s) (sub:= [c]) (i:=j) (by simp) hj
   have e1:(index s [c]== -1)=false:=by rw[beq_eq_false_iff_ne];exact hm
   have e2:(index s [c]).toNat=j:=by omega
   unfold splitK K5
   rw[z2e,e1,e2]
   simp only[Bool.false_eq_true,if_false,List.nil_append,Nat.add_zero]
   rw[z2f c k _ (by rw[show j+ [c].length=j+1 from rfl]at hc ⊢;omega)]
   rfl
theorem z2g(L:List Bytes)(sep:ByteArray)(v:Value)(w:World)(hv:Rd w w.heap.size v (L.map VT))(hl:(join L sep.data.toList).length≤1099511627776)(hn:L.length≤1099511627776) :
  Calls Tryz.prog 111 #[v,.string sep] w fun e w'=>e= .returned (.string (bs (join L sep.data.toList)))∧Below w.heap.size w w':=by
 obtain⟨A,c,rfl,hc,hx⟩:=hv
 rw[List.length_map]at hc
 have hm:(L.map bs).map (fun x=>x.data.toList)=L:=by
  rw[List.map_map]
  conv=>rhs;rw[←List.map_id L]
  exact List.map_congr_left (fun x _=>Q3 x)
 cases L with
 | nil=>
  exact(Tryz.strings_Join_none A c sep w).mono fun e w' ⟨he,hw⟩=>⟨he,by rw[hw];exact zb _ _⟩
 | cons x r=>
  obtain⟨g,o,rfl,hg,hcell⟩:=hx (by simp)
  have h:=Tryz.strings_Join g o c ((x::r).map bs) sep w (fun j y hy=>hcell j _ (by
   rw[List.getElem?_map]at hy ⊢
   cases hj:(x::r)[j]? with
   | none=>rw[hj]at hy;cases hy
   | some z=>rw[hj]at hy;simp only[Option.map_some,Option.some.injEq]at hy ⊢;rw[←hy])) hg (by rw[List.length_map];omega) (by rw[List.length_map];exact hc) (by rw[hm];omega)
  rw[hm,List.length_map]at h
  rw[List.length_map]
  exact h
theorem z2h:(Tryz.prog.info? 9).map (fun i=>(i.zero,i.size,i.bytes))=some (some (.string ByteArray.empty),1,16):=by kernel_rfl
structure Hy(b n k:Nat)(w:World):Prop where
 isb:∀j,j<8→∃c,w.cell? ⟨b,j,none⟩=some (.int .u8 c)
 nof:∀j,j<8→w.frozen? ⟨b,j,none⟩=false
 dig:∀j,j<k→w.cell? ⟨b,7-j,none⟩=some (.int .u8 ((q3m n j).toNat:Int))
theorem Hy.start(n:Nat)(w:World):Hy w.heap.size n 0 (w.alloc (.cells #[.int .u8 48,.int .u8 48,.int .u8 48,.int .u8 48,.int .u8 48,.int .u8 48,.int .u8 48,.int .u8 48] 5 (8,9))) where
 isb j hj:=⟨48,by rw[World.cell?_alloc_mark];match j,hj with|0,_|1,_|2,_|3,_|4,_|5,_|6,_|7,_=>rfl⟩
 nof j hj:=by
  unfold World.frozen?
  rw[heap_alloc_new]
  simp
  omega
 dig j hj:=absurd hj (Nat.not_lt_zero _)
theorem Hy.step{b n k:Nat}{w:World}(h:Hy b n k w)(hk:k<8):Hy b n (k+1) (w.setCell ⟨b,7-k,none⟩ (.int .u8 ((q3m n k).toNat:Int))) where
 isb j hj:=by
  by_cases he:j=7-k
  ·subst he
   obtain⟨c,hc⟩:=h.isb (7-k) (by omega)
   exact⟨_,World.cell?_setCell_same _ _ _ hc⟩
  ·obtain⟨c,hc⟩:=h.isb j hj
   exact⟨c,by rw[World.cell?_setCell_other _ _ _ _ (by intro e;injection e;omega)];exact hc⟩
 nof j hj:=by rw[World.frozen?_setCell];exact h.nof j hj
 dig j hj:=by
  by_cases he:j=k
  ·subst he
   obtain⟨c,hc⟩:=h.isb (7-j) (by omega)
   exact World.cell?_setCell_same _ _ _ hc
  ·rw[World.cell?_setCell_other _ _ _ _ (by intro e;injection e;omega)];exact h.dig j (by omega)
end Go.Proofs.YtdmlghfggninbaaGreatDoor
