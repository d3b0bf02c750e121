/- PlainB, PlainG in one text. Conditions: as each part says. -/
import Derived.Test.YtdmlghfggninbaaGreatDoorMb2
import Derived.Maps.OwnSet
import Derived.Lib.SlMapFilter
import GoSem.ClaimKeys
import Derived.Test.YtdmlghfggninbaaGreatDoorMb0
set_option linter.unusedVariables false
set_option linter.unusedSimpArgs false
namespace Go.Proofs.YtdmlghfggninbaaGreatDoor
open Go.Maps Go.Lib
structure Hld where
 id:Idn
 uses:Int
 text:Bytes
 deriving DecidableEq
abbrev HldL:=List Hld
def IdOk(x:Idn):Prop:=x.1<4294967296∧ -9223372036854775808≤x.2∧x.2≤9223372036854775807
def Z6(x:Idn):Lit:= .string (keyBytes [.int .u32 (x.1:Int),.int .i64 x.2])
def hldU(h:Hld):DataW Unit:= .agg [.lit (.int .u32 (h.id.1:Int)),.lit (.int .i64 h.id.2),.lit (.int .i64 h.uses),.lit (.string h.text)]
def V5(L:HldL):DataW Unit:= .map (L.map fun h=>(Z6 h.id,hldU h))
def SrtB(L:HldL):Prop:=L.Pairwise (fun a b=>Q2 a.id b.id=true)
def getB(L:HldL)(x:Idn):Option Hld:=L.find? (fun h=>decide (h.id=x))
def setB(h:Hld):HldL→HldL
 | []=> [h]
 | y::r=>if y.id=h.id then h::r else if Q2 h.id y.id=true then h::y::r else y::setB h r
def J8(L:HldL):Int:=(L.map fun h=>h.id.2).sum
def z2i:List UInt8→Nat
 | []=>0
 | c::r=>c.toNat*256^r.length+z2i r
theorem z2j:∀l,z2i l<256^l.length
 | []=>by simp[z2i]
 | c::r=>by
  have h1:=z2j r
  have h2:c.toNat<256:=c.toNat_lt
  have h3:(c.toNat+1)*256^r.length≤256*256^r.length:=Nat.mul_le_mul_right _ h2
  rw[Nat.add_mul,Nat.one_mul]at h3
  show c.toNat*256^r.length+z2i r<256^(r.length+1)
  rw[Nat.pow_succ,Nat.mul_comm (256^r.length) 256]
  omega
theorem z2k:∀a b,z2i (a++b)=z2i a*256^b.length+z2i b
 | [],b=>by simp[z2i]
 | c::r,b=>by
  show c.toNat*256^(r++b).length+z2i (r++b)=(c.toNat*256^r.length+z2i r)*256^b.length+z2i b
  rw[z2k r b,List.length_append,Nat.pow_add,Nat.add_mul,Nat.mul_assoc]
  omega
theorem z2l:∀w n,(bytesLE w n).length=w
 | 0,_=>rfl
 | w+1,n=>by show(_::bytesLE w (n/256)).length=_;rw[List.length_cons,z2l w]
theorem z2m(w n:Nat):(bytesBE w n).length=w:=by unfold bytesBE;rw[List.length_reverse,z2l]
theorem z2n:∀w n,z2i (bytesBE w n)=n%256^w
 | 0,n=>by simp[bytesBE,bytesLE,z2i,Nat.mod_one]
 | w+1,n=>by
  have h:bytesBE (w+1) n=bytesBE w (n/256)++ [UInt8.ofNat (n%256)]:=by
   show(UInt8.ofNat (n%256)::bytesLE w (n/256)).reverse=_
   rw[List.reverse_cons];rfl
  rw[h,z2k,z2n w (n/256)]
  have h2:z2i [UInt8.ofNat (n%256)]=n%256:=by simp[z2i]
  rw[h2,show([UInt8.ofNat (n%256)]:List UInt8).length=1 from rfl,Nat.pow_one,Nat.pow_succ,Nat.mul_comm (256^w) 256,Nat.mod_mul]
  omega
theorem z2o:∀a b:List UInt8,a.length=b.length→bytesBefore a b=decide (z2i a<z2i b)
 | [],[],_=>by simp[bytesBefore,z2i]
 | [],_::_,h=>by simp at h
 | _::_,[],h=>by simp at h
 | x::r,y::s,h=>by
  have hl:r.length=s.length:=by simpa using h
  have ih:=z2o r s hl
  have h1:=z2j r
  have h2:=z2j s
  show(decide (x<y)||(x==y&&bytesBefore r s))=decide (x.toNat*256^r.length+z2i r<y.toNat*256^s.length+z2i s)
  rw[ih]
  rw[hl]at h1 ⊢
  by_cases hxy:x=y
  ·subst hxy
   simp
  ·have hne:x.toNat≠y.toNat:=fun e=>hxy (UInt8.toNat_inj.1 e)
   have hb:(x==y)=false:=beq_false_of_ne hxy
   rw[hb,Bool.false_and,Bool.or_false,Bool.eq_iff_iff,decide_eq_true_iff,decide_eq_true_iff,UInt8.lt_iff_toNat_lt]
   constructor
   ·intro hlt
    have h3:(x.toNat+1)*256^s.length≤y.toNat*256^s.length:=Nat.mul_le_mul_right _ hlt
    rw[Nat.add_mul,Nat.one_mul]at h3
    omega
   ·intro hlt
    rcases Nat.lt_or_gt_of_ne hne with h4|h4
    ·exact h4
    ·have h3:(y.toNat+1)*256^s.length≤x.toNat*256^s.length:=Nat.mul_le_mul_right _ h4
     rw[Nat.add_mul,Nat.one_mul]at h3
     omega
def z2p(x:Idn):List UInt8:=bytesBE 4 x.1++bytesBE 8 (x.2%18446744073709551616).toNat
theorem z2q{x:Idn}(h:IdOk x):Z6 x= .string (z2p x):=by
 unfold Z6 z2p keyBytes
 have h1:(((x.1:Nat):Int)%4294967296).toNat=x.1:=by have:=h.1;omega
 show Lit.string (bytesBE 4 (((x.1:Nat):Int)%4294967296).toNat++(bytesBE 8 (x.2%18446744073709551616).toNat++ []))=_
 rw[h1,List.append_nil]
theorem z2r(x:Idn):(z2p x).length=12:=by unfold z2p;rw[List.length_append,z2m,z2m]
theorem z2s{x:Idn}(h:IdOk x):z2i (z2p x)=x.1*18446744073709551616+(x.2%18446744073709551616).toNat:=by
 unfold z2p
 have h1:=h.1
 rw[z2k,z2m,z2n,z2n,Nat.mod_eq_of_lt (show x.1<256^4 from h1),Nat.mod_eq_of_lt (show(x.2%18446744073709551616).toNat<256^8 by show _<18446744073709551616;omega)]
theorem z2t{x y:Idn}(hx:IdOk x)(hy:IdOk y)(h:z2p x=z2p y):x=y:=by
 have h1:=z2s hx
 rw[h,z2s hy]at h1
 obtain⟨a1,a2,a3⟩:=hx
 obtain⟨b1,b2,b3⟩:=hy
 refine Prod.ext ?_ ?_
 ·omega
 ·omega
theorem R7{x y:Idn}(hx:IdOk x)(hy:IdOk y):(Z6 x).sameKey (Z6 y)=decide (x=y):=by
 rw[z2q hx,z2q hy]
 show(z2p x==z2p y)=_
 rw[Bool.eq_iff_iff,decide_eq_true_iff,beq_iff_eq]
 exact⟨z2t hx hy,fun e=>by rw[e]⟩
theorem z2u{x y:Idn}(hx:IdOk x)(hy:IdOk y)(x0:0≤x.2)(y0:0≤y.2):(Z6 x).before (Z6 y)=Q2 x y:=by
 rw[z2q hx,z2q hy]
 show bytesBefore (z2p x) (z2p y)=_
 rw[z2o _ _ (by rw[z2r,z2r]),z2s hx,z2s hy,Bool.eq_iff_iff,decide_eq_true_iff,q0a]
 obtain⟨a1,a2,a3⟩:=hx
 obtain⟨b1,b2,b3⟩:=hy
 omega
structure HldOk(n:Int)(h:Hld):Prop where
 id:h.id=idOf h.text
 len:1≤h.text.length∧h.text.length≤64
 uses:0≤h.uses∧h.uses≤n
structure BinOk(n:Int)(L:HldL):Prop where
 srt:SrtB L
 all:∀h∈L,HldOk n h
theorem HldOk.idok{n:Int}{h:Hld}(hh:HldOk n h):IdOk h.id:=by
 rw[hh.id];have:=hh.len;exact⟨q1u _,by show(-9223372036854775808:Int)≤((h.text.length:Nat):Int);omega,by show((h.text.length:Nat):Int)≤_;omega⟩
theorem HldOk.id0{n:Int}{h:Hld}(hh:HldOk n h):0≤h.id.2:=by rw[hh.id];show(0:Int)≤((h.text.length:Nat):Int);omega
theorem HldOk.mono{n m:Int}{h:Hld}(hh:HldOk n h)(hm:n≤m):HldOk m h:=⟨hh.id,hh.len,hh.uses.1,by have:=hh.uses.2;omega⟩
theorem BinOk.mono{n m:Int}{L:HldL}(h:BinOk n L)(hm:n≤m):BinOk m L:=⟨h.srt,fun x hx=>(h.all x hx).mono hm⟩
theorem BinOk.nil(n:Int):BinOk n []:=⟨List.Pairwise.nil,fun _ h=>by cases h⟩
theorem q0j{x y:Idn}(h:Q2 x y=true):x≠y:=fun e=>by subst e;rw[R1]at h;cases h
theorem D9{x y z:Idn}(h1:Q2 x y=true)(h2:Q2 y z=true):Q2 x z=true:=by
 rw[q0a]at *;omega
theorem z2v{x y:Idn}(h:x≠y):Q2 x y=true∨Q2 y x=true:=by
 rw[q0a,q0a]
 by_cases h1:x.1=y.1
 ·have:x.2≠y.2:=fun e=>h (Prod.ext h1 e)
  omega
 ·omega
theorem q0i{L:HldL}{x:Idn}{h:Hld}(hg:getB L x=some h):h∈L∧h.id=x:=
 ⟨List.mem_of_find?_eq_some hg,by have:=List.find?_some hg;simpa using this⟩
theorem z2w{L:HldL}{x:Idn}:getB L x=none↔∀h∈L,h.id≠x:=by
 unfold getB;rw[List.find?_eq_none];simp
theorem z2x{L:HldL}(hL:∀h∈L,IdOk h.id){x:Idn}(hx:IdOk x):Maps.has (V5 L) (Z6 x)=(getB L x).isSome:=by
 unfold V5 getB
 rw[Maps.has_eq]
 induction L with
 | nil=>rfl
 | cons y r ih=>
  rw[List.map_cons,List.any_cons,ih (fun h hh=>hL h (List.mem_cons_of_mem _ hh)),R7 (hL y List.mem_cons_self) hx,List.find?_cons]
  cases hd:decide (y.id=x)<;>simp
def hldZ:Hld:=⟨(0,0),0,[]⟩
theorem z2y{L:HldL}(hL:∀h∈L,IdOk h.id){x:Idn}(hx:IdOk x):(V5 L).atKey (Z6 x) (hldU hldZ)=hldU ((getB L x).getD hldZ):=by
 unfold V5 getB DataW.atKey
 induction L with
 | nil=>rfl
 | cons y r ih=>
  have h1:=R7 (hL y List.mem_cons_self) hx
  have ih:=ih (fun h hh=>hL h (List.mem_cons_of_mem _ hh))
  simp only[List.map_cons,List.find?_cons,h1]
  cases hd:decide (y.id=x)
  ·simpa using ih
  ·simp
theorem z2z(L:HldL):Maps.size (V5 L)=L.length:=by simp[V5,Maps.size]
theorem z3a{h:Hld}:∀ {L:HldL} {x:Hld},x∈setB h L→x=h∨x∈L
 | [],x,hx=>by simp[setB]at hx;exact .inl hx
 | y::r,x,hx=>by
  unfold setB at hx
  split at hx
  ·rcases List.mem_cons.1 hx with e|e
   ·exact .inl e
   ·exact .inr (List.mem_cons_of_mem _ e)
  ·split at hx
   ·rcases List.mem_cons.1 hx with e|e
    ·exact .inl e
    ·exact .inr e
   ·rcases List.mem_cons.1 hx with e|e
    ·exact .inr (e▸List.mem_cons_self)
    ·rcases z3a e with e|e
     ·exact .inl e
     ·exact .inr (List.mem_cons_of_mem _ e)
theorem G5{y:Hld}{r:HldL}:SrtB (y::r)↔(∀x∈r,Q2 y.id x.id=true)∧SrtB r:=List.pairwise_cons
theorem z3b{L:HldL}(hs:SrtB L)(h:Hld):SrtB (setB h L):=by
 induction L with
 | nil=>exact List.pairwise_singleton _ _
 | cons y r ih=>
  obtain⟨h1,h2⟩:=G5.1 hs
  unfold setB
  split
  ·next e=>exact G5.2 ⟨fun x hx=>by rw[←e];exact h1 x hx,h2⟩
  ·next e=>
   split
   ·next e2=>
    refine G5.2 ⟨fun x hx=> ?_,hs⟩
    rcases List.mem_cons.1 hx with rfl|hx
    ·exact e2
    ·exact D9 e2 (h1 x hx)
   ·next e2=>
    refine G5.2 ⟨fun x hx=> ?_,ih h2⟩
    rcases z3a hx with rfl|hx
    ·rcases z2v e with h3|h3
     ·exact h3
     ·exact absurd h3 e2
    ·exact h1 x hx
theorem z3c{r:HldL}{x:Idn}(hr:∀h∈r,IdOk h.id)(hx:IdOk x)(h:∀y∈r,y.id≠x):((r.map fun h=>(Z6 h.id,hldU h)).filter fun p=> !p.1.sameKey (Z6 x))=r.map fun h=>(Z6 h.id,hldU h):=by
 rw[List.filter_eq_self]
 intro p hp
 obtain⟨y,hy,rfl⟩:=List.mem_map.1 hp
 simp[R7 (hr y hy) hx,h y hy]
theorem z3d{L:HldL}(hs:SrtB L)(hL:∀h∈L,IdOk h.id∧0≤h.id.2)(h:Hld)(hx:IdOk h.id∧0≤h.id.2):(V5 L).put (Z6 h.id) (hldU h)=V5 (setB h L):=by
 unfold V5 DataW.put
 simp only
 congr 1
 induction L with
 | nil=>rfl
 | cons y r ih=>
  obtain⟨h1,h2⟩:=G5.1 hs
  have hy:=hL y List.mem_cons_self
  have hr:∀z∈r,IdOk z.id∧0≤z.id.2:=fun z hz=>hL z (List.mem_cons_of_mem _ hz)
  unfold setB
  by_cases e:y.id=h.id
  ·have hsk:=R7 hy.1 hx.1
   rw[if_pos e,List.map_cons,List.filter_cons,if_neg (by rw[hsk];simp[e]),z3c (fun z hz=>(hr z hz).1) hx.1 (fun z hz=>by rw[←e];exact(q0j (h1 z hz)).symm)]
   cases r with
   | nil=>rfl
   | cons z q=>
    have hz:=h1 z List.mem_cons_self
    have hz2:=hr z List.mem_cons_self
    have hb:=z2u hx.1 hz2.1 hx.2 hz2.2
    rw[e]at hz
    rw[hz]at hb
    simp[DataW.insert,hb]
  ·rw[if_neg e,List.map_cons,List.filter_cons,if_pos (by simp[R7 hy.1 hx.1,e])]
   by_cases hb:Q2 h.id y.id=true
   ·rw[if_pos hb,z3c (fun z hz=>(hr z hz).1) hx.1 (fun z hz=>(q0j (D9 hb (h1 z hz))).symm)]
    simp[DataW.insert,z2u hx.1 hy.1 hx.2 hy.2,hb]
   ·rw[if_neg hb,List.map_cons,←ih h2 hr]
    simp[DataW.insert,z2u hx.1 hy.1 hx.2 hy.2,hb]
theorem z3e(p:Hld→Bool)(pd:Lit→DataW Unit→Bool)(L:HldL)(h:∀x∈L,pd (Z6 x.id) (hldU x)= !p x):Lib.deleteFuncD pd (V5 L)=V5 (L.filter p):=by
 unfold V5 Lib.deleteFuncD
 simp only
 congr 1
 induction L with
 | nil=>rfl
 | cons y r ih=>
  rw[List.map_cons,List.filter_cons,List.filter_cons,ih (fun x hx=>h x (List.mem_cons_of_mem _ hx)),h y List.mem_cons_self]
  cases p y<;>simp
theorem z3f{L:HldL}(hs:SrtB L)(h:Hld)(x:Idn):getB (setB h L) x=if h.id=x then some h else getB L x:=by
 induction L with
 | nil=>unfold setB getB;simp[List.find?_cons];split<;>simp_all
 | cons y r ih=>
  obtain⟨h1,h2⟩:=G5.1 hs
  unfold setB
  split
  ·next e=>
   unfold getB
   rw[List.find?_cons,List.find?_cons]
   by_cases hx:h.id=x
   ·simp[hx]
   ·simp[hx,e]
  ·next e=>
   split
   ·unfold getB
    rw[List.find?_cons]
    by_cases hx:h.id=x<;>simp[hx]
   ·have e2:getB (y::setB h r) x=if y.id=x then some y else getB (setB h r) x:=by unfold getB;rw[List.find?_cons];by_cases hy:y.id=x<;>simp[hy]
    have e3:getB (y::r) x=if y.id=x then some y else getB r x:=by unfold getB;rw[List.find?_cons];by_cases hy:y.id=x<;>simp[hy]
    rw[e2,e3,ih h2]
    by_cases hx:h.id=x
    ·have hy:y.id≠x:=fun e4=>e (e4.trans hx.symm)
     simp[hx,hy]
    ·simp[hx]
theorem z3g{h:Hld}:∀ {L:HldL},getB L h.id=none→(setB h L).length=L.length+1
 | [],_=>rfl
 | y::r,hg=>by
  have hne:=z2w.1 hg
  unfold setB
  rw[if_neg (hne y List.mem_cons_self)]
  split
  ·rfl
  ·rw[List.length_cons,z3g (z2w.2 fun z hz=>hne z (List.mem_cons_of_mem _ hz)),List.length_cons]
theorem z3h{h:Hld}:∀ {L:HldL} (_:SrtB L) {o:Hld},getB L h.id=some o→(setB h L).length=L.length
 | [],_,o,hg=>by cases hg
 | y::r,hs,o,hg=>by
  obtain⟨h1,h2⟩:=G5.1 hs
  unfold setB
  split
  ·rfl
  ·next e=>
   have hgr:getB r h.id=some o:=by unfold getB at hg ⊢;rw[List.find?_cons]at hg;simpa[e]using hg
   have hm:=q0i hgr
   split
   ·next e2=>
    have h3:=h1 o hm.1
    rw[hm.2]at h3
    have h4:=D9 h3 e2
    rw[R1]at h4;cases h4
   ·rw[List.length_cons,z3h h2 hgr,List.length_cons]
theorem z3i(h:Hld)(L:HldL):J8 (h::L)=h.id.2+J8 L:=by unfold J8;rw[List.map_cons,List.sum_cons]
theorem z3j(p:Hld→Bool):∀L:HldL,J8 (L.filter p)+J8 (L.filter fun h=> !p h)=J8 L
 | []=>rfl
 | y::r=>by
  have ih:=z3j p r
  rw[List.filter_cons,List.filter_cons,z3i]
  cases p y
  ·simp only[Bool.not_false,if_true,Bool.false_eq_true,if_false,z3i];omega
  ·simp only[Bool.not_true,if_true,Bool.false_eq_true,if_false,z3i];omega
theorem z3k{L:HldL}(h:∀x∈L,0≤x.id.2∧x.id.2≤64):0≤J8 L∧J8 L≤64*L.length:=by
 induction L with
 | nil=>simp[J8]
 | cons y r ih=>
  have h1:=ih (fun x hx=>h x (List.mem_cons_of_mem _ hx))
  have h2:=h y List.mem_cons_self
  rw[z3i,List.length_cons];omega
def q0m(s:Bytes):Bool:=decide (1≤s.length)&&decide (s.length≤64)
def putB(s:Bytes)(L:HldL):HldL×Idn×Bool×Int:=
 if q0m s=false then(L,(0,0),false,2)else match getB L (idOf s)with
  | some h=>if h.text≠s then(L,(0,0),false,10)else(setB ⟨idOf s,h.uses+1,s⟩ L,idOf s,false,0)
  | none=>if 250≤L.length then(L,(0,0),false,7)else(setB ⟨idOf s,1,s⟩ L,idOf s,true,0)
def G0(x:Idn)(L:HldL):HldL×Int:=match getB L x with
 | none=>(L,5)
 | some h=>if h.uses=0 then(L,11)else(setB ⟨h.id,h.uses-1,h.text⟩ L,0)
def C6(h:Hld):Bool:=decide (h.uses≠0)
def J6(L:HldL):HldL:=L.filter C6
theorem M4{s:Bytes}:q0m s=true↔1≤s.length∧s.length≤64:=by unfold q0m;simp
theorem z3l{n:Int}{L:HldL}(hL:BinOk n L){h:Hld}(hh:HldOk n h):BinOk n (setB h L):=
 ⟨z3b hL.srt h,fun x hx=>by
  rcases z3a hx with rfl|hx
  ·exact hh
  ·exact hL.all x hx⟩
theorem z3m{n:Int}(hn:0≤n){L:HldL}(hL:BinOk n L)(s:Bytes):BinOk (n+1) (putB s L).1:=by
 have h0:=hL.mono (show n≤n+1 by omega)
 unfold putB
 split
 ·exact h0
 ·next hr=>
  have hr':=M4.1 (by simpa using hr)
  split
  ·next h hg=>
   split
   ·exact h0
   ·have hm:=hL.all h (q0i hg).1
    exact z3l h0 ⟨rfl,hr',by have:=hm.uses;show 0≤h.uses+1∧h.uses+1≤n+1;omega⟩
  ·split
   ·exact h0
   ·exact z3l h0 ⟨rfl,hr',by show(0:Int)≤1∧(1:Int)≤n+1;omega⟩
theorem z3n{n:Int}{L:HldL}(hL:BinOk n L)(x:Idn):BinOk n (G0 x L).1:=by
 unfold G0
 split
 ·exact hL
 ·next h hg=>
  split
  ·exact hL
  ·next h0=>
   have hm:=hL.all h (q0i hg).1
   exact z3l hL ⟨hm.id,hm.len,by have:=hm.uses;show 0≤h.uses-1∧h.uses-1≤n;omega⟩
theorem z3o{n:Int}{L:HldL}(hL:BinOk n L)(p:Hld→Bool):BinOk n (L.filter p):=
 ⟨hL.srt.filter _,fun x hx=>hL.all x (List.mem_filter.1 hx).1⟩
theorem BinOk.idok{n:Int}{L:HldL}(h:BinOk n L):∀x∈L,IdOk x.id:=fun x hx=>(h.all x hx).idok
theorem BinOk.idok0{n:Int}{L:HldL}(h:BinOk n L):∀x∈L,IdOk x.id∧0≤x.id.2:=fun x hx=>⟨(h.all x hx).idok,(h.all x hx).id0⟩
theorem BinOk.size{n:Int}{L:HldL}(h:BinOk n L):0≤J8 L∧J8 L≤64*L.length:=
 z3k fun x hx=>by
  have h1:=h.all x hx
  have h2:=h1.len
  rw[h1.id]
  show(0:Int)≤((x.text.length:Nat):Int)∧((x.text.length:Nat):Int)≤64
  omega
theorem z3p{s:Bytes}{L:HldL}(hs:SrtB L)(h:L.length≤250):(putB s L).1.length≤250:=by
 unfold putB
 split
 ·exact h
 ·split
  ·next hg=>
   split
   ·exact h
   ·rw[z3h hs hg];exact h
  ·next hg=>
   split
   ·exact h
   ·rw[z3g hg];omega
theorem length_drop{x:Idn}{L:HldL}(hs:SrtB L):(G0 x L).1.length=L.length:=by
 unfold G0
 split
 ·rfl
 ·next h hg=>
  split
  ·rfl
  ·have e:=(q0i hg).2
   exact z3h hs (h:=⟨h.id,h.uses-1,h.text⟩) (by show getB L h.id=some h;rw[e];exact hg)
end Go.Proofs.YtdmlghfggninbaaGreatDoor
namespace Go.Proofs.YtdmlghfggninbaaGreatDoor
open Go.RowKit Go.Lib
def oneF(s:Bytes):Option (Hld×Bytes):=match J1 10 s with
 | none=>none
 | some (head,rest)=>match J1 32 head with
  | none=>none
  | some (i,u)=>match G4 i,V1 u 6 with
   | some (p,n),some k=>if rest[n]? =some 10 then some (⟨(p,(n:Int)),(k:Int),rest.take n⟩,rest.drop (n+1))else none
   | _,_=>none
theorem z3q{s head rest i u:Bytes}{p n k:Nat}(h1:J1 10 s=some (head,rest))(h2:J1 32 head=some (i,u))(h3:G4 i=some (p,n))(h4:V1 u 6=some k)(h5:rest[n]? =some 10) :
  oneF s=some (⟨(p,(n:Int)),(k:Int),rest.take n⟩,rest.drop (n+1)):=by
 unfold oneF;rw[h1];simp only[h2,h3,h4];rw[if_pos h5]
theorem z3r{s:Bytes}{x:Hld}{r:Bytes}(h:oneF s=some (x,r)):∃head rest i u p n k,J1 10 s=some (head,rest)∧J1 32 head=some (i,u)∧G4 i=some (p,n)∧V1 u 6=some k∧rest[n]? =some 10 ∧
  x=⟨(p,(n:Int)),(k:Int),rest.take n⟩∧r=rest.drop (n+1):=by
 unfold oneF at h
 split at h
 ·cases h
 ·next head rest h1=>
  split at h
  ·cases h
  ·next i u h2=>
   split at h
   ·next p n k h3 h4=>
    split at h
    ·next h5=>
     injection h with h
     injection h with e1 e2
     exact⟨head,rest,i,u,p,n,k,h1,h2,h3,h4,h5,e1.symm,e2.symm⟩
    ·cases h
   ·cases h
theorem z3s{s:Bytes}{x:Hld}{r:Bytes}(h:oneF s=some (x,r)):r.length<s.length:=by
 obtain⟨head,rest,i,u,p,n,k,h1,_,_,_,h5,_,rfl⟩:=z3r h
 obtain⟨rfl,_⟩:=D8 _ _ _ _ h1
 simp only[List.length_append,List.length_cons,List.length_drop]
 omega
theorem z3t{s:Bytes}(h:J1 10 s=none):oneF s=none:=by unfold oneF;rw[h]
theorem z3u{s head rest:Bytes}(h:J1 10 s=some (head,rest))(h2:J1 32 head=none):oneF s=none:=by unfold oneF;rw[h];simp only[h2]
theorem z3v{s head rest i u:Bytes}(h:J1 10 s=some (head,rest))(h2:J1 32 head=some (i,u))(h3:G4 i=none):oneF s=none:=by unfold oneF;rw[h];simp only[h2,h3]
theorem z3w{s head rest i u:Bytes}(h:J1 10 s=some (head,rest))(h2:J1 32 head=some (i,u))(h3:V1 u 6=none):oneF s=none:=by unfold oneF;rw[h];simp only[h2,h3];cases G4 i<;>rfl
theorem z3x{s head rest i u:Bytes}{p n k:Nat}(h1:J1 10 s=some (head,rest))(h2:J1 32 head=some (i,u))(h3:G4 i=some (p,n))(h4:V1 u 6=some k)(h5:rest[n]? ≠some 10):oneF s=none:=by
 unfold oneF;rw[h1];simp only[h2,h3,h4];rw[if_neg h5]
def B7(q:Option Hld)(h:Hld):Int:=if idOf h.text≠h.id then 9 else match q with
 | some q=>if Q2 q.id h.id=true then 0 else 8
 | none=>0
theorem z3y{q:Option Hld}{h:Hld}(e:idOf h.text≠h.id):B7 q h=9:=by unfold B7;rw[if_pos e]
theorem z3z{q h:Hld}(e:idOf h.text=h.id)(e2:Q2 q.id h.id=false):B7 (some q) h=8:=by unfold B7;rw[if_neg (by simp[e])];simp[e2]
theorem z4a{q h:Hld}(e:idOf h.text=h.id)(e2:Q2 q.id h.id=true):B7 (some q) h=0:=by unfold B7;rw[if_neg (by simp[e])];simp[e2]
theorem z4b{h:Hld}(e:idOf h.text=h.id):B7 none h=0:=by unfold B7;rw[if_neg (by simp[e])]
def D3(l:HldL)(i:Nat)(h:Hld):Int:=B7 (if i=0 then none else l[i-1]?) h
def z4c(acc:HldL)(s:Bytes):HldL×Int×Int:=
 if s= []then(acc,0,-1)else
 match _h:oneF s with
 | none=>([],1,acc.length)
 | some (x,r)=>if B7 acc.getLast? x=0 then z4c (acc++ [x]) r else([],B7 acc.getLast? x,acc.length)
termination_by s.length
decreasing_by exact z3s _h
theorem z4d(acc:HldL):z4c acc []=(acc,0,-1):=by rw[z4c];simp
theorem z4e{acc:HldL}{s:Bytes}(hs:s≠ [])(h:oneF s=none):z4c acc s=([],1,(acc.length:Int)):=by
 rw[z4c,if_neg hs]
 split
 ·rfl
 ·next x r h2=>rw[h]at h2;cases h2
theorem z4f{acc:HldL}{s:Bytes}{x:Hld}{r:Bytes}(hs:s≠ [])(h:oneF s=some (x,r))(hm:B7 acc.getLast? x=0):z4c acc s=z4c (acc++ [x]) r:=by
 rw[z4c,if_neg hs]
 split
 ·next h2=>rw[h]at h2;cases h2
 ·next x' r' h2=>
  rw[h]at h2
  injection h2 with h2
  injection h2 with e1 e2
  subst e1;subst e2
  rw[if_pos hm]
theorem z4g{acc:HldL}{s:Bytes}{x:Hld}{r:Bytes}(hs:s≠ [])(h:oneF s=some (x,r))(hm:B7 acc.getLast? x≠0):z4c acc s=([],B7 acc.getLast? x,(acc.length:Int)):=by
 rw[z4c,if_neg hs]
 split
 ·next h2=>rw[h]at h2;cases h2
 ·next x' r' h2=>
  rw[h]at h2
  injection h2 with h2
  injection h2 with e1 e2
  subst e1;subst e2
  rw[if_neg hm]
def Y5(s:Bytes):HldL×Int×Int:=if 40000<s.length then([],2,-1)else z4c [] s
def z4h(h:Hld):Bytes:=V2 h.id.1 h.id.2++32::(itoa h.uses++10::(h.text++ [10]))
def Y9(l:HldL):Bytes:=(l.map z4h).flatten
theorem z4i:Y9 []= []:=rfl
theorem z4j(h:Hld)(l:HldL):Y9 (h::l)=z4h h++Y9 l:=by unfold Y9;rw[List.map_cons,List.flatten_cons]
theorem z4k(l:HldL)(h:Hld):Y9 (l++ [h])=Y9 l++z4h h:=by unfold Y9;simp
def z4l(h:Hld):Bool:=q0m h.text&&decide (0≤h.uses)
def z4m(l:HldL)(i:Nat)(h:Hld):Int:=if z4l h=true then D3 l i h else 2
def B4(l:HldL):Nat→HldL→Int×Int
 | _,[]=>(0,-1)
 | i,h::r=>if z4m l i h=0 then B4 l (i+1) r else(z4m l i h,i)
def q0f(l:HldL):Int×Int:=if 250<l.length then(7,-1)else B4 l 0 l
def FillSt(l:HldL)(k:Nat):Prop:=B4 l 0 l=B4 l k (l.drop k)∧∀j (hj:j<l.length),j<k→z4m l j l[j]=0
theorem FillSt.start(l:HldL):FillSt l 0:=⟨rfl,fun _ _ h=>absurd h (Nat.not_lt_zero _)⟩
theorem FillSt.next{l:HldL}{k:Nat}(h:FillSt l k)(hk:k<l.length)(e:z4m l k l[k]=0):FillSt l (k+1):=by
 refine⟨?_,fun j hj hjk=> ?_⟩
 ·rw[h.1,List.drop_eq_getElem_cons hk,B4,if_pos e]
 ·by_cases hjj:j=k
  ·subst hjj;exact e
  ·exact h.2 j hj (by omega)
theorem FillSt.hit{l:HldL}{k:Nat}(h:FillSt l k)(hk:k<l.length)(e:z4m l k l[k]≠0):B4 l 0 l=(z4m l k l[k],(k:Int)):=by
 rw[h.1,List.drop_eq_getElem_cons hk,B4,if_neg e]
theorem FillSt.done{l:HldL}(h:FillSt l l.length):B4 l 0 l=(0,-1):=by rw[h.1,List.drop_length,B4]
theorem z4n{l:HldL}{i:Nat}{h:Hld}(e:z4m l i h=0):z4l h=true∧D3 l i h=0:=by
 unfold z4m at e
 split at e
 ·next hr=>exact⟨hr,e⟩
 ·exact absurd e (by decide)
theorem z4o{q:Option Hld}{h:Hld}(e:B7 q h=0):h.id=idOf h.text:=by
 unfold B7 at e
 split at e
 ·exact absurd e (by decide)
 ·next hh=>exact(Decidable.not_not.1 hh).symm
theorem FillSt.taken{l:HldL}{k:Nat}(h:FillSt l k)(hk:k≤l.length)(n:Int)(hn:∀x∈l,x.uses≤n):BinOk n (l.take k):=by
 induction k with
 | zero=>rw[List.take_zero];exact BinOk.nil n
 | succ k ih=>
  have hkl:k<l.length:=by omega
  have e:=h.2 k hkl (Nat.lt_succ_self k)
  obtain⟨e1,e2⟩:=z4n e
  have hst:FillSt l k:=by
   refine⟨?_,fun j hj hjk=>h.2 j hj (by omega)⟩
   have h1:=h.1
   rw[h1,List.drop_eq_getElem_cons hkl (l:=l),B4,if_pos e]
  have hb:=ih hst (by omega)
  have hl:HldOk n l[k]:=by
   unfold z4l at e1
   rw[Bool.and_eq_true,decide_eq_true_iff]at e1
   exact⟨z4o e2,M4.1 e1.1,e1.2,hn _ (List.getElem_mem hkl)⟩
  rw[List.take_succ_eq_append_getElem hkl]
  refine⟨List.pairwise_append.2 ⟨hb.srt,List.pairwise_singleton _ _,fun x hx y hy=> ?_⟩,fun x hx=> ?_⟩
  ·rw[List.mem_singleton]at hy
   subst hy
   unfold D3 at e2
   by_cases hk0:k=0
   ·subst hk0;simp at hx
   ·rw[if_neg hk0,List.getElem?_eq_getElem (by omega:k-1<l.length)]at e2
    have hord:Q2 l[k-1].id l[k].id=true:=by
     unfold B7 at e2
     split at e2
     ·exact absurd e2 (by decide)
     ·simp only at e2
      split at e2
      ·assumption
      ·exact absurd e2 (by decide)
    have hlast:l.take k=l.take (k-1)++ [l[k-1]]:=by
     have:=List.take_succ_eq_append_getElem (show k-1<l.length by omega)
     rwa [show k-1+1=k by omega]at this
    rw[hlast]at hx
    rcases List.mem_append.1 hx with hx|hx
    ·have hs:=hb.srt
     rw[hlast]at hs
     have:=(List.pairwise_append.1 hs).2.2 x hx l[k-1] (List.mem_singleton.2 rfl)
     exact D9 this hord
    ·rw[List.mem_singleton.1 hx];exact hord
  ·rcases List.mem_append.1 hx with hx|hx
   ·exact hb.all x hx
   ·rw[List.mem_singleton.1 hx];exact hl
theorem z4p{L:HldL}{h:Hld}(hl:∀x∈L,Q2 x.id h.id=true):setB h L=L++ [h]:=by
 induction L with
 | nil=>rfl
 | cons y r ih=>
  have h1:=hl y List.mem_cons_self
  unfold setB
  rw[if_neg (q0j h1),if_neg (fun e=>by have:=D9 h1 e;rw[R1]at this;cases this),ih (fun x hx=>hl x (List.mem_cons_of_mem _ hx))]
  rfl
theorem FillSt.set{l:HldL}{k:Nat}(h:FillSt l k)(hk:k<l.length)(e:z4m l k l[k]=0):setB l[k] (l.take k)=l.take (k+1):=by
 have hb:=(h.next hk e).taken hk (l.foldl (fun m x=>max m x.uses) 0) (fun x hx=>by
  have:∀(q:HldL) (m:Int),m≤q.foldl (fun m x=>max m x.uses) m∧∀y∈q,y.uses≤q.foldl (fun m x=>max m x.uses) m:=by
   intro q
   induction q with
   | nil=>intro m;exact⟨Int.le_refl _,fun _ h=>by cases h⟩
   | cons z q ih=>
    intro m
    have h1:=ih (max m z.uses)
    have h2:=h1.1
    refine⟨by show m≤q.foldl _ (max m z.uses);omega,fun y hy=> ?_⟩
    show y.uses≤q.foldl _ (max m z.uses)
    rcases List.mem_cons.1 hy with rfl|hy
    ·omega
    ·exact h1.2 y hy
  exact(this l 0).2 x hx)
 have hs:=hb.srt
 rw[List.take_succ_eq_append_getElem hk]at hs ⊢
 exact z4p fun x hx=>(List.pairwise_append.1 hs).2.2 x hx l[k] (List.mem_singleton.2 rfl)
theorem z4q(u:Nat)(c:UInt8)(hc:c.toNat<48):c∉decDigits u:=fun h=>by have:=(q2g u c h).1;omega
theorem z4r(d:Nat)(h:d<16):hexc d≠10:=(show ∀e:Fin 16,hexc e.1≠10 by decide) ⟨d,h⟩
theorem z4s(p k:Nat):(10:UInt8)∉V2 p (k:Int):=fun h=>by
 unfold V2 at h
 rw[if_neg (by omega),G8]at h
 rcases List.mem_append.1 h with h|h
 ·unfold hex8 hexL at h
  obtain⟨j,_,hj⟩:=List.mem_map.1 h
  exact z4r _ (Nat.mod_lt _ (by decide)) hj
 ·rcases List.mem_cons.1 h with h|h
  ·exact absurd h (by decide)
  ·exact z4q k 10 (by decide) h
theorem z4t{h:Hld}(hk:HldOk 999999 h)(r:Bytes):oneF (z4h h++r)=some (h,r):=by
 obtain⟨u,hu⟩:∃u:Nat,h.uses=(u:Int):=⟨h.uses.toNat,by have:=hk.uses;omega⟩
 have hu6:u<1000000:=by have:=hk.uses;omega
 have hid:=hk.id
 have hlen:=hk.len
 have h1:h.id.1=prOf h.text:=by rw[hid];rfl
 have h2:h.id.2=(h.text.length:Int):=by rw[hid];rfl
 have e1:z4h h++r=(V2 (prOf h.text) (h.text.length:Int)++32::decDigits u)++10::(h.text++10::r):=by
  unfold z4h;rw[h1,h2,hu,G8];simp
 have n1:(10:UInt8)∉V2 (prOf h.text) (h.text.length:Int)++32::decDigits u:=fun hm=>by
  rcases List.mem_append.1 hm with hm|hm
  ·exact z4s _ _ hm
  ·rcases List.mem_cons.1 hm with hm|hm
   ·exact absurd hm (by decide)
   ·exact z4q u 10 (by decide) hm
 have n4:V1 (decDigits u) 6=some u:=q9d u 6 (by omega) (by rw[decDigits_length];exact D7 u 5 (by omega))
 rw[e1,z3q (q2k 10 _ _ n1) (q2k 32 _ _ (z1p _ _)) (q9q _ _ (q1u _) (by omega)) n4 (by rw[List.getElem?_append_right (zl _)];simp)]
 congr 1
 refine Prod.ext ?_ ?_
 ·show(⟨(prOf h.text,((h.text.length:Nat):Int)),(u:Int),(h.text++10::r).take h.text.length⟩:Hld)=h
  rw[List.take_left',←hu]
  ·obtain⟨id,us,t⟩:=h
   simp only at hid
   rw[hid];rfl
  ·rfl
 ·show(h.text++10::r).drop (h.text.length+1)=r
  rw[show h.text++10::r=(h.text++ [10])++r by simp,List.drop_left' (by simp)]
theorem z4u(h:Hld)(r:Bytes):z4h h++r≠ []:=by unfold z4h;simp
theorem z4v:∀ {l acc:HldL},BinOk 999999 (acc++l)→z4c acc (Y9 l)=(acc++l,0,-1)
 | [],acc,_=>by rw[z4i,z4d,List.append_nil]
 | h::r,acc,hb=>by
  have hk:HldOk 999999 h:=hb.all h (List.mem_append_right _ List.mem_cons_self)
  have hm:B7 acc.getLast? h=0:=by
   unfold B7
   rw[if_neg (by rw[hk.id];simp)]
   cases hl:acc.getLast? with
   | none=>rfl
   | some q=>
    have hq:q∈acc:=List.mem_of_getLast? hl
    have:=(List.pairwise_append.1 hb.srt).2.2 q hq h List.mem_cons_self
    simp only[this,if_true]
  rw[z4j,z4f (z4u h _) (z4t hk _) hm]
  have e:acc++h::r=(acc++ [h])++r:=by simp
  rw[e]at hb ⊢
  exact z4v hb
theorem z4w{h:Hld}(hk:HldOk 999999 h):(z4h h).length≤100:=by
 obtain⟨u,hu⟩:∃u:Nat,h.uses=(u:Int):=⟨h.uses.toNat,by have:=hk.uses;omega⟩
 have hlen:=hk.len
 have h2:h.id.2=(h.text.length:Int):=by rw[hk.id];rfl
 have n1:(decDigits u).length≤6:=by rw[decDigits_length];exact D7 u 5 (by have:=hk.uses;omega)
 have n2:(decDigits h.text.length).length≤6:=by rw[decDigits_length];exact D7 _ 5 (by omega)
 unfold z4h V2
 rw[h2,if_neg (by omega),hu,G8,G8]
 have:(hex8 h.id.1).length=8:=X8 _ _
 simp only[List.length_append,List.length_cons,List.length_nil]
 omega
theorem z4x{l:HldL}(hb:∀h∈l,HldOk 999999 h):(Y9 l).length≤100*l.length:=by
 induction l with
 | nil=>simp[Y9]
 | cons h r ih=>
  have h1:=z4w (hb h List.mem_cons_self)
  have h2:=ih (fun x hx=>hb x (List.mem_cons_of_mem _ hx))
  rw[z4j,List.length_append,List.length_cons];omega
theorem z4y{l:HldL}(hb:BinOk 999999 l)(hl:l.length≤400):Y5 (Y9 l)=(l,0,-1):=by
 have:=z4x hb.all
 unfold Y5
 rw[if_neg (by omega),z4v (acc:= []) (by simpa using hb)]
 rfl
end Go.Proofs.YtdmlghfggninbaaGreatDoor
