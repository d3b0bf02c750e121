/- PlainNd, PlainS, NcA in one text. Conditions: as each part says. -/
import Derived.Test.YtdmlghfggninbaaGreatDoorMb3
import Derived.Test.YtdmlghfggninbaaGreatDoorMb4
set_option linter.unusedVariables false
set_option linter.unusedSimpArgs false
namespace Go.Proofs.YtdmlghfggninbaaGreatDoor
open Go.Maps Go.Lib
def B3(L:HldL)(x:Idn):Int:=((getB L x).map Hld.uses).getD 0
theorem z6a{L:HldL}{x:Idn}{h:Hld}(e:getB L x=some h):B3 L x=h.uses:=by unfold B3;rw[e];rfl
theorem z6b{L:HldL}{x:Idn}(e:getB L x=none):B3 L x=0:=by unfold B3;rw[e];rfl
theorem z6c{L:HldL}(hs:SrtB L)(h:Hld)(x:Idn):B3 (setB h L) x=if h.id=x then h.uses else B3 L x:=by
 unfold B3
 rw[z3f hs]
 split<;>rfl
theorem z6d{s:Bytes}{L:HldL}(h:(putB s L).2.2.2=0):putB s L=(setB ⟨idOf s,B3 L (idOf s)+1,s⟩ L,idOf s,(getB L (idOf s)).isNone,0)∧q0m s=true∧(∀o,getB L (idOf s)=some o→o.text=s)∧(getB L (idOf s)=none→L.length<250):=by
 unfold putB at h ⊢
 split at h
 ·exact absurd (show(2:Int)=0 from h) (by decide)
 ·next hr=>
  rw[if_neg hr]
  split at h
  ·next o hg=>
   split at h
   ·exact absurd (show(10:Int)=0 from h) (by decide)
   ·next ht=>
    rw[if_neg ht,z6a hg,hg]
    exact⟨rfl,by simpa using hr,fun o' e=>by injection e with e;subst e;exact Decidable.not_not.1 ht,fun e=>by cases e⟩
  ·next hg=>
   split at h
   ·exact absurd (show(7:Int)=0 from h) (by decide)
   ·next hl=>
    rw[if_neg hl,z6b hg,hg]
    exact⟨rfl,by simpa using hr,fun o' e=>by(cases e),fun _=>by omega⟩
def K4:List Bytes→HldL→Int→HldL×Int×Int
 | [],L,f=>(L,f,0)
 | p::r,L,f=>if(putB p L).2.2.2=0 then K4 r (putB p L).1 (f+if(putB p L).2.2.1 then(p.length:Int)else 0)else((putB p L).1,0,(putB p L).2.2.2)
theorem z6e{p:Bytes}{r:List Bytes}{L:HldL}{f:Int}(h:(K4 (p::r) L f).2.2=0):(putB p L).2.2.2=0∧K4 (p::r) L f=K4 r (putB p L).1 (f+if(putB p L).2.2.1 then(p.length:Int)else 0):=by
 have e:K4 (p::r) L f=if(putB p L).2.2.2=0 then K4 r (putB p L).1 (f+if(putB p L).2.2.1 then(p.length:Int)else 0)else((putB p L).1,0,(putB p L).2.2.2):=by rw[K4]
 rw[e]at h ⊢
 by_cases h0:(putB p L).2.2.2=0
 ·exact⟨h0,by rw[if_pos h0]⟩
 ·rw[if_neg h0]at h;exact absurd h h0
structure PutSt(ps:List Bytes)(L L':HldL):Prop where
 uses:∀x,B3 L' x=B3 L x+((ps.map idOf).count x:Int)
 has:∀p∈ps,∃h,getB L' (idOf p)=some h∧h.text=p
 kept:∀x h,getB L x=some h→∃h',getB L' x=some h'∧h'.text=h.text
 ok:∀n:Int,0≤n→BinOk n L→BinOk (n+ps.length) L'
 len:L.length≤250→L'.length≤250
theorem z6f:∀(ps:List Bytes) (L:HldL) (f:Int),SrtB L→(K4 ps L f).2.2=0→PutSt ps L (K4 ps L f).1
 | [],L,f,_,_=>⟨fun x=>by simp[K4],fun p hp=>(by cases hp),fun x h e=>⟨h,e,rfl⟩,fun n _ hb=>by simpa[K4]using hb,fun h=>h⟩
 | p::r,L,f,hs,h=>by
  obtain⟨h0,h1⟩:=z6e h
  rw[h1]at h ⊢
  obtain⟨e,hr,ht,hn⟩:=z6d h0
  have hs2:SrtB (putB p L).1:=by rw[e];exact z3b hs _
  have ih:=z6f r (putB p L).1 _ hs2 h
  generalize(K4 r (putB p L).1 (f+if(putB p L).2.2.1 then(p.length:Int)else 0)).1=L' at ih ⊢
  have e1:(putB p L).1=setB ⟨idOf p,B3 L (idOf p)+1,p⟩ L:=by rw[e]
  have hget:∀x,getB (putB p L).1 x=if idOf p=x then some ⟨idOf p,B3 L (idOf p)+1,p⟩else getB L x:=fun x=>by rw[e1,z3f hs]
  refine⟨fun x=> ?_,fun q hq=> ?_,fun x o hx=> ?_,fun n hn0 hb=> ?_,fun hl=>ih.len (z3p hs hl)⟩
  ·rw[ih.uses,e1,z6c hs,List.map_cons,List.count_cons]
   by_cases hx:idOf p=x
   ·subst hx;simp;omega
   ·simp[hx]
  ·rcases List.mem_cons.1 hq with rfl|hq
   ·obtain⟨o,ho,ht'⟩:=ih.kept (idOf q) _ (by rw[hget,if_pos rfl])
    exact⟨o,ho,ht'⟩
   ·exact ih.has q hq
  ·by_cases hpx:idOf p=x
   ·obtain⟨o',ho',ht'⟩:=ih.kept x ⟨idOf p,B3 L (idOf p)+1,p⟩ (by rw[hget,if_pos hpx])
    refine⟨o',ho',ht'.trans ?_⟩
    subst hpx
    exact(ht o hx).symm
   ·exact ih.kept x o (by rw[hget,if_neg hpx];exact hx)
  ·have:=ih.ok (n+1) (by omega) (z3m hn0 hb p)
   rw[List.length_cons]
   exact this.mono (by omega)
theorem z6g:∀(ps:List Bytes) (L:HldL) (f:Int),(K4 ps L f).2.2=0∨(K4 ps L f).2.2=2∨(K4 ps L f).2.2=7∨(K4 ps L f).2.2=10
 | [],_,_=> .inl rfl
 | p::r,L,f=>by
  unfold K4
  split
  ·exact z6g r _ _
  ·show(putB p L).2.2.2=0∨(putB p L).2.2.2=2∨(putB p L).2.2.2=7∨(putB p L).2.2.2=10
   unfold putB
   split
   ·simp
   ·split
    ·split<;>simp
    ·split<;>simp
def U1:IdL→HldL→HldL×Int
 | [],L=>(L,0)
 | x::r,L=>if(G0 x L).2=0 then U1 r (G0 x L).1 else G0 x L
structure DropSt(ids:IdL)(L L':HldL):Prop where
 uses:∀x,B3 L' x=B3 L x-(ids.count x:Int)
 kept:∀x,(getB L' x).map Hld.text=(getB L x).map Hld.text
 ok:∀n:Int,BinOk n L→BinOk n L'
 len:L'.length=L.length
theorem z6h{x:Idn}{L:HldL}(h:0<B3 L x):∃o,getB L x=some o∧G0 x L=(setB ⟨o.id,o.uses-1,o.text⟩ L,0)∧o.uses≠0:=by
 cases hg:getB L x with
 | none=>rw[z6b hg]at h;omega
 | some o=>
  rw[z6a hg]at h
  refine⟨o,rfl,?_,by omega⟩
  unfold G0
  rw[hg]
  simp only
  rw[if_neg (by omega)]
theorem z6i:∀(ids:IdL) (L:HldL),SrtB L→(∀x,(ids.count x:Int)≤B3 L x)→(U1 ids L).2=0∧DropSt ids L (U1 ids L).1
 | [],L,_,_=>⟨rfl,fun x=>by simp[U1],fun _=>rfl,fun _ h=>h,rfl⟩
 | y::r,L,hs,h=>by
  have hy:=h y
  rw[List.count_cons]at hy
  simp only[beq_self_eq_true,if_true]at hy
  obtain⟨o,ho,e,_⟩:=z6h (x:=y) (L:=L) (by omega)
  have hid:=(q0i ho).2
  have e1:(G0 y L).1=setB ⟨o.id,o.uses-1,o.text⟩ L:=by rw[e]
  have hu:∀x,B3 (G0 y L).1 x=B3 L x-(if y=x then 1 else 0):=fun x=>by
   rw[e1,z6c hs]
   show(if o.id=x then o.uses-1 else B3 L x)=_
   rw[hid]
   by_cases hx:y=x
   ·subst hx;simp[z6a ho]
   ·simp[hx]
  have ih:=z6i r (G0 y L).1 (by rw[e1];exact z3b hs _) (fun x=>by
   have:=h x
   rw[List.count_cons]at this
   rw[hu]
   by_cases hx:y=x
   ·subst hx;simp at this ⊢;omega
   ·simp[hx]at this ⊢;omega)
  unfold U1
  rw[if_pos (by rw[e])]
  refine⟨ih.1,fun x=> ?_,fun x=> ?_,fun n hb=>ih.2.ok n (z3n hb y),by rw[ih.2.len,length_drop hs]⟩
  ·rw[ih.2.uses,hu,List.count_cons]
   by_cases hx:y=x
   ·subst hx;simp;omega
   ·simp[hx]
  ·rw[ih.2.kept,e1,z3f hs]
   show((if o.id=x then some _ else getB L x).map Hld.text)=_
   rw[hid]
   by_cases hx:y=x
   ·subst hx;rw[if_pos rfl,ho];rfl
   ·rw[if_neg hx]
theorem z6j{L:HldL}(hs:SrtB L)(x:Idn):getB (J6 L) x=match getB L x with|some h=>if h.uses=0 then none else some h|none=>none:=by
 induction L with
 | nil=>rfl
 | cons y r ih=>
  obtain⟨h1,h2⟩:=G5.1 hs
  have e3:getB (y::r) x=if y.id=x then some y else getB r x:=by unfold getB;rw[List.find?_cons];by_cases hy:y.id=x<;>simp[hy]
  have e4:getB (J6 (y::r)) x=if C6 y=true then(if y.id=x then some y else getB (J6 r) x)else getB (J6 r) x:=by
   unfold J6
   rw[List.filter_cons]
   split
   ·unfold getB;rw[List.find?_cons];by_cases hy:y.id=x<;>simp[hy]
   ·rfl
  rw[e3,e4,ih h2]
  by_cases hy:y.id=x
  ·simp only[hy,if_true]
   by_cases hu:y.uses=0
   ·have:C6 y=false:=by unfold C6;simp[hu]
    simp only[this,Bool.false_eq_true,if_false,hu,if_true]
    have hn:getB r x=none:=z2w.2 fun z hz e=>by
     have:=h1 z hz
     rw[hy,e,R1]at this;cases this
    rw[hn]
   ·have:C6 y=true:=by unfold C6;simp[hu]
    simp only[this,if_true,hu,if_false]
  ·simp only[hy,if_false]
   split<;>rfl
theorem z6k{L:HldL}(hs:SrtB L)(x:Idn):B3 (J6 L) x=B3 L x:=by
 unfold B3
 rw[z6j hs]
 cases hg:getB L x with
 | none=>rfl
 | some h=>
  simp only
  by_cases hu:h.uses=0
  ·rw[if_pos hu];simp[hu]
  ·rw[if_neg hu]
def C9(s:Bytes):Lit:= .string s
theorem W4:∀x:Bytes,bytesBefore x x=false
 | []=>rfl
 | c::r=>by
  show(decide (c<c)||(c==c&&bytesBefore r r))=false
  rw[W4 r,Bool.and_false,Bool.or_false,decide_eq_false_iff_not,UInt8.lt_iff_toNat_lt]
  omega
theorem z6l{a b:UInt8}{r s:Bytes}:bytesBefore (a::r) (b::s)=true↔a.toNat<b.toNat∨(a=b∧bytesBefore r s=true):=by
 show(decide (a<b)||(a==b&&bytesBefore r s))=true↔_
 rw[Bool.or_eq_true,decide_eq_true_iff,UInt8.lt_iff_toNat_lt,Bool.and_eq_true,beq_iff_eq]
theorem q0q:∀ {x y z:Bytes},bytesBefore x y=true→bytesBefore y z=true→bytesBefore x z=true
 | [],[],_,h,_=>by cases h
 | [],_::_,[],_,h=>by cases h
 | [],_::_,_::_,_,_=>rfl
 | _::_,[],_,h,_=>by cases h
 | _::_,_::_,[],_,h=>by cases h
 | a::r,b::s,c::t,h1,h2=>by
  rw[z6l]at h1 h2 ⊢
  rcases h1 with h1|⟨rfl,h1⟩
  ·rcases h2 with h2|⟨rfl,h2⟩
   ·exact .inl (by omega)
   ·exact .inl h1
  ·rcases h2 with h2|⟨rfl,h2⟩
   ·exact .inl h2
   ·exact .inr ⟨rfl,q0q h1 h2⟩
theorem z6m:∀ {x y:Bytes},x≠y→bytesBefore x y=true∨bytesBefore y x=true
 | [],[],h=>absurd rfl h
 | [],_::_,_=> .inl rfl
 | _::_,[],_=> .inr rfl
 | a::r,b::s,h=>by
  rw[z6l,z6l]
  by_cases hab:a=b
  ·subst hab
   rcases z6m (x:=r) (y:=s) (fun e=>h (by rw[e]))with h1|h1
   ·exact .inl (.inr ⟨rfl,h1⟩)
   ·exact .inr (.inr ⟨rfl,h1⟩)
  ·have:a.toNat≠b.toNat:=fun e=>hab (UInt8.toNat_inj.1 e)
   omega
def X6(b:Bytes):Prop:=b.length≤maxLen
theorem U3:KeyEmb C9 bytesBefore X6 X6 where
 wide:=fun h=>h
 same:=fun {x y} _ _=>by show(x==y)=_;rw[Bool.eq_iff_iff,beq_iff_eq,decide_eq_true_iff]
 before:=fun _ _=>rfl
 irr:=W4
 trans:=q0q
 total:=z6m
def R5(x:Idn):Prop:=IdOk x∧0≤x.2
theorem M0:KeyEmb Z6 Q2 R5 IdOk where
 wide:=fun h=>h.1
 same:=fun hx hy=>R7 hx hy
 before:=fun hx hy=>z2u hx.1 hy.1 hx.2 hy.2
 irr:=R1
 trans:=D9
 total:=z2v
section
variable {K V:Type} [DecidableEq K] {lit:K→Lit} {lt:K→K→Bool} {ok okw:K→Prop}
theorem z6n(g:K×V→Int)(k:K)(v:V):∀ {L:List (K×V)},Q1 L k=none→((Q9 lt k v L).map g).sum=g (k,v)+(L.map g).sum
 | [],_=>by simp[Q9]
 | y::r,h=>by
  have hne:=V4.1 h y List.mem_cons_self
  have hr:Q1 r k=none:=V4.2 fun z hz=>V4.1 h z (List.mem_cons_of_mem _ hz)
  unfold Q9
  rw[if_neg hne]
  split
  ·rw[List.map_cons,List.sum_cons]
  ·rw[List.map_cons,List.sum_cons,z6n g k v hr,List.map_cons,List.sum_cons];omega
theorem z6o{k:K}:∀ {L:List (K×V)},Q1 L k=none→K3 k L=L:=by
 intro L h
 unfold K3
 rw[List.filter_eq_self]
 intro p hp
 have:=V4.1 h p hp
 simp[this]
theorem z6p(E:KeyEmb lit lt ok okw)(g:K×V→Int){k:K}{v:V}:∀ {L:List (K×V)},K1 lt L→Q1 L k=some v→(L.map g).sum=g (k,v)+((K3 k L).map g).sum
 | [],_,h=>by cases h
 | y::r,hs,h=>by
  obtain⟨h1,h2⟩:=G3.1 hs
  rw[J3]at h
  have e:K3 k (y::r)=if y.1=k then K3 k r else y::K3 k r:=by
   unfold K3
   by_cases hy:y.1=k<;>simp[hy]
  by_cases hy:y.1=k
  ·rw[if_pos hy]at h
   injection h with h
   have hn:Q1 r k=none:=V4.2 fun z hz e2=>E.ne (h1 z hz) (hy.trans e2.symm)
   rw[e,if_pos hy,z6o hn,List.map_cons,List.sum_cons]
   have:y=(k,v):=Prod.ext hy h
   rw[this]
  ·rw[if_neg hy]at h
   rw[e,if_neg hy,List.map_cons,List.sum_cons,z6p E g h2 h,List.map_cons,List.sum_cons];omega
theorem Z5(E:KeyEmb lit lt ok okw){L:List (K×V)}(hs:K1 lt L){q:K×V}(hq:q∈L):Q1 L q.1=some q.2:=by
 induction L with
 | nil=>cases hq
 | cons y r ih=>
  obtain⟨h1,h2⟩:=G3.1 hs
  rw[J3]
  rcases List.mem_cons.1 hq with rfl|hq
  ·rw[if_pos rfl]
  ·rw[if_neg (E.ne (h1 q hq)),ih h2 hq]
end
structure PNode where
 files:List (Bytes×Rcp)
 bins:List (Idn×HldL)
def repR(r:Rcp):Idn:=Z8 r.ids
def useN(F:List (Bytes×Rcp))(x y:Idn):Int:=(F.map fun q=>if repR q.2=x then(q.2.ids.count y:Int)else 0).sum
def binN(P:PNode)(x:Idn):HldL:=(Q1 P.bins x).getD []
def putN(name s:Bytes)(P:PNode):PNode×Int×Int:=
 if J7 name=false then(P,0,4)else if 4000<s.length then(P,0,2)else if(Q1 P.files name).isSome=true then(P,0,6)else if 30≤P.files.length then(P,0,7)else
 if(K4 (pieces s) (binN P (Z8 (V8 s))) 0).2.2=0 then
  (⟨Q9 bytesBefore name (Q7 name s) P.files,Q9 Q2 (Z8 (V8 s)) (K4 (pieces s) (binN P (Z8 (V8 s))) 0).1 P.bins⟩,(K4 (pieces s) (binN P (Z8 (V8 s))) 0).2.1,0)
 else(P,0,(K4 (pieces s) (binN P (Z8 (V8 s))) 0).2.2)
def z6q(L:HldL)(x:Idn):Bytes:=((getB L x).map Hld.text).getD []
def getN(name:Bytes)(P:PNode):Bytes×Int:=match Q1 P.files name with
 | none=>([],5)
 | some r=>((r.ids.map (z6q (binN P (repR r)))).flatten,0)
def z6r(F:List (Bytes×Rcp))(x:Idn)(L:HldL)(B:List (Idn×HldL)):List (Idn×HldL):=if F.any (fun q=>decide (repR q.2=x))=true then Q9 Q2 x L B else K3 x B
def M1(name:Bytes)(P:PNode):PNode×Int:=match Q1 P.files name with
 | none=>(P,5)
 | some r=>(⟨K3 name P.files,z6r (K3 name P.files) (repR r) (U1 r.ids (binN P (repR r))).1 P.bins⟩,0)
def M9(P:PNode):PNode:=⟨P.files,K7 J6 P.bins⟩
def D5(P:PNode):Int:=(P.bins.map fun q=>J8 q.2).sum
structure NodeOk(P:PNode):Prop where
 fsrt:K1 bytesBefore P.files
 bsrt:K1 Q2 P.bins
 flen:P.files.length≤30
 file:∀k r,Q1 P.files k=some r→∃s,J7 k=true∧s.length≤4000∧r=Q7 k s∧∃L,Q1 P.bins (repR r)=some L∧∀p∈pieces s,∃h,getB L (idOf p)=some h∧h.text=p
 bin:∀x L,Q1 P.bins x=some L→R5 x∧(∃n:Int,0≤n∧BinOk n L)∧L.length≤250∧(∀y,B3 L y=useN P.files x y)∧∃k r,Q1 P.files k=some r∧repR r=x
theorem NodeOk.nil:NodeOk ⟨[],[]⟩:=⟨z5a,z5a,by simp,fun _ _ h=>by(cases h),fun _ _ h=>by(cases h)⟩
theorem z6s{F:List (Bytes×Rcp)}{x:Idn}(h:∀q∈F,repR q.2≠x)(y:Idn):useN F x y=0:=by
 unfold useN
 induction F with
 | nil=>rfl
 | cons q r ih=>rw[List.map_cons,List.sum_cons,if_neg (h q List.mem_cons_self),ih (fun z hz=>h z (List.mem_cons_of_mem _ hz))];rfl
theorem z6t(F:List (Bytes×Rcp))(x y:Idn):0≤useN F x y:=by
 unfold useN
 induction F with
 | nil=>exact Int.le_refl _
 | cons q r ih=>
  rw[List.map_cons,List.sum_cons]
  split<;>omega
theorem z6u{F:List (Bytes×Rcp)}(h:∀q∈F,q.2.ids.length≤250)(x y:Idn):useN F x y≤250*F.length:=by
 unfold useN
 induction F with
 | nil=>exact Int.le_refl _
 | cons q r ih=>
  have h1:=ih (fun z hz=>h z (List.mem_cons_of_mem _ hz))
  have h2:=h q List.mem_cons_self
  have h3:q.2.ids.count y≤q.2.ids.length:=List.count_le_length
  rw[List.map_cons,List.sum_cons,List.length_cons]
  split<;>omega
theorem z6v{F:List (Bytes×Rcp)}{k:Bytes}(hg:Q1 F k=none)(r:Rcp)(x y:Idn):useN (Q9 bytesBefore k r F) x y=(if repR r=x then(r.ids.count y:Int)else 0)+useN F x y:=
 z6n _ k r hg
theorem z6w{F:List (Bytes×Rcp)}(hs:K1 bytesBefore F){k:Bytes}{r:Rcp}(hg:Q1 F k=some r)(x y:Idn):useN F x y=(if repR r=x then(r.ids.count y:Int)else 0)+useN (K3 k F) x y:=
 z6p U3 _ hs hg
theorem z6x{s:Bytes}(h:s.length≤4000):(V8 s).length≤250:=by
 have:=z1f s
 unfold V8
 rw[List.length_map];omega
theorem z6y{p:Bytes}(h:p.length≤64):R5 (idOf p):=⟨⟨q1u _,by show(-9223372036854775808:Int)≤((p.length:Nat):Int);omega,by show((p.length:Nat):Int)≤_;omega⟩,by show(0:Int)≤((p.length:Nat):Int);omega⟩
theorem z6z(s:Bytes):R5 (Z8 (V8 s)):=by
 by_cases h:V8 s= []
 ·rw[h];exact z6y (by decide)
 ·have:=z1k h
  obtain⟨p,hp,e⟩:=List.mem_map.1 this
  rw[←e]
  exact z6y (W9 s p hp)
theorem NodeOk.ids{P:PNode}(h:NodeOk P):∀q∈P.files,q.2.ids.length≤250:=fun q hq=>by
 obtain⟨s,_,h2,h3,_⟩:=h.file q.1 q.2 (Z5 U3 h.fsrt hq)
 rw[h3];exact z6x h2
theorem z7a{L:HldL}(hs:SrtB L){h:Hld}(hm:h∈L):getB L h.id=some h:=by
 induction L with
 | nil=>cases hm
 | cons y r ih=>
  obtain⟨h1,h2⟩:=G5.1 hs
  have e3:getB (y::r) h.id=if y.id=h.id then some y else getB r h.id:=by unfold getB;rw[List.find?_cons];by_cases hy:y.id=h.id<;>simp[hy]
  rw[e3]
  rcases List.mem_cons.1 hm with rfl|hm
  ·rw[if_pos rfl]
  ·rw[if_neg (q0j (h1 h hm)),ih h2 hm]
theorem NodeOk.bin7{P:PNode}(h:NodeOk P){x:Idn}{L:HldL}(hg:Q1 P.bins x=some L):BinOk 7500 L:=by
 obtain⟨_,⟨n,hn0,hb⟩,_,hu,_⟩:=h.bin x L hg
 refine⟨hb.srt,fun o ho=> ?_⟩
 have h1:=hb.all o ho
 have h2:=hu o.id
 rw[z6a (z7a hb.srt ho)]at h2
 have h3:=z6u h.ids x o.id
 have h4:=h.flen
 exact⟨h1.id,h1.len,h1.uses.1,by omega⟩
theorem NodeOk.theBin{P:PNode}(h:NodeOk P)(x:Idn):BinOk 7500 (binN P x)∧(binN P x).length≤250∧∀y,B3 (binN P x) y=useN P.files x y:=by
 unfold binN
 cases hg:Q1 P.bins x with
 | some L=>exact⟨h.bin7 hg,(h.bin x L hg).2.2.1,(h.bin x L hg).2.2.2.1⟩
 | none=>
  refine⟨BinOk.nil _,by simp,fun y=> ?_⟩
  rw[z6s (fun q hq e=> ?_)]
  ·rfl
  ·obtain⟨s,_,_,_,L,hL,_⟩:=h.file q.1 q.2 (Z5 U3 h.fsrt hq)
   rw[e,hg]at hL;cases hL
theorem NodeOk.put{P:PNode}(h:NodeOk P)(name s:Bytes):NodeOk (putN name s P).1:=by
 unfold putN
 split
 ·exact h
 ·next h1=>
  split
  ·exact h
  ·next h2=>
   split
   ·exact h
   ·next h3=>
    split
    ·exact h
    ·next h4=>
     split
     ·next h5=>
      have hno:Q1 P.files name=none:=by cases hg:Q1 P.files name with|none=>rfl|some _=>rw[hg]at h3;exact absurd rfl h3
      obtain⟨hb,hbl,hbu⟩:=h.theBin (Z8 (V8 s))
      have hst:=z6f (pieces s) (binN P (Z8 (V8 s))) 0 hb.srt h5
      generalize hL:(K4 (pieces s) (binN P (Z8 (V8 s))) 0).1=L' at hst ⊢
      have hrep:repR (Q7 name s)=Z8 (V8 s):=rfl
      have hfs:=z5j U3 h.fsrt name (Q7 name s)
      refine⟨hfs,z5j M0 h.bsrt _ _,?_,fun k r hg=> ?_,fun x L hg=> ?_⟩
      ·show(Q9 bytesBefore name (Q7 name s) P.files).length≤30
       rw[z5k hno];omega
      ·show ∃s',_∧_∧_∧∃L,Q1 (Q9 Q2 (Z8 (V8 s)) L' P.bins) (repR r)=some L∧_
       have hg:Q1 (Q9 bytesBefore name (Q7 name s) P.files) k=some r:=hg
       rw[q0k]at hg
       split at hg
       ·next e=>
        injection hg with hg
        subst hg;subst e
        exact⟨s,by simpa using h1,by omega,rfl,L',by rw[q0k,if_pos hrep.symm],hst.has⟩
       ·obtain⟨s0,a1,a2,a3,L0,a4,a5⟩:=h.file k r hg
        refine⟨s0,a1,a2,a3,?_⟩
        rw[q0k]
        by_cases e:Z8 (V8 s)=repR r
        ·refine⟨L',by rw[if_pos e],fun p hp=> ?_⟩
         obtain⟨o,ho,ht⟩:=a5 p hp
         have hbn:binN P (Z8 (V8 s))=L0:=by unfold binN;rw[e,a4];rfl
         obtain⟨o',ho',ht'⟩:=hst.kept (idOf p) o (by rw[hbn];exact ho)
         exact⟨o',ho',ht'.trans ht⟩
        ·exact⟨L0,by rw[if_neg e];exact a4,a5⟩
      ·have hg:Q1 (Q9 Q2 (Z8 (V8 s)) L' P.bins) x=some L:=hg
       show R5 x∧_∧_∧(∀y,B3 L y=useN (Q9 bytesBefore name (Q7 name s) P.files) x y)∧∃k r,Q1 (Q9 bytesBefore name (Q7 name s) P.files) k=some r∧_
       rw[q0k]at hg
       split at hg
       ·next e=>
        injection hg with hg
        subst hg;subst e
        refine⟨z6z s,⟨7500+(pieces s).length,by omega,hst.ok 7500 (by decide) hb⟩,hst.len hbl,fun y=> ?_,name,Q7 name s,by rw[q0k,if_pos rfl],rfl⟩
        rw[hst.uses,hbu,z6v hno,hrep,if_pos rfl]
        show _+((V8 s).count y:Int)=((V8 s).count y:Int)+_
        omega
       ·next e=>
        obtain⟨a1,a2,a3,a4,k,r,a5,a6⟩:=h.bin x L hg
        refine⟨a1,a2,a3,fun y=> ?_,k,r,?_,a6⟩
        ·rw[a4,z6v hno,hrep,if_neg e];omega
        ·rw[q0k,if_neg (fun e2=>by rw[←e2,hno]at a5;cases a5)];exact a5
     ·exact h
theorem NodeOk.drops{P:PNode}(h:NodeOk P){name:Bytes}{r:Rcp}(hg:Q1 P.files name=some r):(U1 r.ids (binN P (repR r))).2=0∧DropSt r.ids (binN P (repR r)) (U1 r.ids (binN P (repR r))).1:=by
 obtain⟨hb,_,hbu⟩:=h.theBin (repR r)
 refine z6i r.ids _ hb.srt fun x=> ?_
 rw[hbu,z6w h.fsrt hg,if_pos rfl]
 have:=z6t (K3 name P.files) (repR r) x
 omega
theorem z7b{F:List (Bytes×Rcp)}{x:Idn}:F.any (fun q=>decide (repR q.2=x))=true↔∃q∈F,repR q.2=x:=by simp
theorem z7c(F:List (Bytes×Rcp))(x:Idn)(L:HldL)(B:List (Idn×HldL))(y:Idn):Q1 (z6r F x L B) y=if x=y then(if F.any (fun q=>decide (repR q.2=x))=true then some L else none)else Q1 B y:=by
 unfold z6r
 split
 ·rw[q0k]
 ·rw[z5h]
  by_cases e:x=y
  ·rw[if_pos e.symm,if_pos e]
  ·rw[if_neg (fun h=>e h.symm),if_neg e]
theorem NodeOk.drop{P:PNode}(h:NodeOk P)(name:Bytes):NodeOk (M1 name P).1:=by
 unfold M1
 cases hg:Q1 P.files name with
 | none=>exact h
 | some r=>
  obtain⟨_,hst⟩:=h.drops hg
  obtain⟨hb,hbl,hbu⟩:=h.theBin (repR r)
  simp only
  generalize(U1 r.ids (binN P (repR r))).1=L' at hst ⊢
  have hdl:∀k r',Q1 (K3 name P.files) k=some r'→k≠name∧Q1 P.files k=some r':=fun k r' e=>by
   rw[z5h]at e
   split at e
   ·cases e
   ·next hne=>exact⟨hne,e⟩
  refine⟨z5f h.fsrt name,?_,Nat.le_trans (z5i _ _) h.flen,fun k r' hk=> ?_,fun x L hx=> ?_⟩
  ·show K1 Q2 (z6r _ _ _ _)
   unfold z6r
   split
   ·exact z5j M0 h.bsrt _ _
   ·exact z5f h.bsrt _
  ·show ∃s,_∧_∧_∧∃L,Q1 (z6r (K3 name P.files) (repR r) L' P.bins) (repR r')=some L∧_
   obtain⟨hne,hk'⟩:=hdl k r' hk
   obtain⟨s,a1,a2,a3,L0,a4,a5⟩:=h.file k r' hk'
   refine⟨s,a1,a2,a3,?_⟩
   rw[z7c]
   by_cases e:repR r=repR r'
   ·refine⟨L',by rw[if_pos e,if_pos (z7b.2 ⟨(k,r'),Y4 hk,e.symm⟩)],fun p hp=> ?_⟩
    obtain⟨o,ho,ht⟩:=a5 p hp
    have hbn:binN P (repR r)=L0:=by unfold binN;rw[e,a4];rfl
    have:=hst.kept (idOf p)
    rw[hbn,ho]at this
    cases hq:getB L' (idOf p)with
    | none=>rw[hq]at this;cases this
    | some o'=>
     rw[hq]at this
     injection this with this
     exact⟨o',rfl,this.trans ht⟩
   ·exact⟨L0,by rw[if_neg e];exact a4,a5⟩
  ·have hx:Q1 (z6r (K3 name P.files) (repR r) L' P.bins) x=some L:=hx
   show R5 x∧_∧_∧(∀y,B3 L y=useN (K3 name P.files) x y)∧∃k r',Q1 (K3 name P.files) k=some r'∧_
   rw[z7c]at hx
   split at hx
   ·next e=>
    split at hx
    ·next hany=>
     injection hx with hx
     subst hx;subst e
     obtain⟨s,_,_,_,L0,a4,_⟩:=h.file name r hg
     obtain⟨b1,_⟩:=h.bin _ _ a4
     obtain⟨q,hq,hqr⟩:=z7b.1 hany
     refine⟨b1,⟨7500,by decide,hst.ok _ hb⟩,by rw[hst.len];exact hbl,fun y=> ?_,q.1,q.2,Z5 U3 (z5f h.fsrt name) hq,hqr⟩
     rw[hst.uses,hbu,z6w h.fsrt hg,if_pos rfl];omega
    ·cases hx
   ·next e=>
    obtain⟨a1,a2,a3,a4,k,r',a5,a6⟩:=h.bin x L hx
    refine⟨a1,a2,a3,fun y=> ?_,k,r',?_,a6⟩
    ·rw[a4,z6w h.fsrt hg,if_neg e];omega
    ·rw[z5h,if_neg (fun e2=>by subst e2;rw[hg]at a5;injection a5 with a5;subst a5;exact e a6)];exact a5
theorem z7d{K V U:Type}{lt:K→K→Bool}(f:V→U){L:List (K×V)}(h:K1 lt L):K1 lt (K7 f L):=z4z.2 h
theorem z7e{s p:Bytes}(hp:p∈pieces s):0<(V8 s).count (idOf p):=List.count_pos_iff.2 (List.mem_map_of_mem hp)
theorem NodeOk.sweep{P:PNode}(h:NodeOk P):NodeOk (M9 P):=by
 refine⟨h.fsrt,z7d J6 h.bsrt,h.flen,fun k r hk=> ?_,fun x L hx=> ?_⟩
 ·have hk:Q1 P.files k=some r:=hk
  obtain⟨s,a1,a2,a3,L0,a4,a5⟩:=h.file k r hk
  refine⟨s,a1,a2,a3,J6 L0,?_,fun p hp=> ?_⟩
  ·show Q1 (K7 J6 P.bins) (repR r)=_
   rw[G9,a4];rfl
  ·obtain⟨o,ho,ht⟩:=a5 p hp
   refine⟨o,?_,ht⟩
   have hb:=h.bin7 a4
   rw[z6j hb.srt,ho]
   simp only
   have hu:=(h.bin _ _ a4).2.2.2.1 (idOf p)
   rw[z6a ho,z6w h.fsrt hk,if_pos rfl]at hu
   have h1:=z6t (K3 k P.files) (repR r) (idOf p)
   have h2:=z7e hp
   have h3:r.ids.count (idOf p)=(V8 s).count (idOf p):=by rw[a3];rfl
   rw[if_neg (by omega)]
 ·have hx:Q1 (K7 J6 P.bins) x=some L:=hx
  rw[G9]at hx
  cases hg:Q1 P.bins x with
  | none=>rw[hg]at hx;cases hx
  | some L0=>
   rw[hg]at hx
   injection hx with hx
   subst hx
   obtain⟨a1,⟨n,hn,hb⟩,a3,a4,a5⟩:=h.bin x L0 hg
   exact⟨a1,⟨n,hn,z3o hb C6⟩,Nat.le_trans (List.length_filter_le _ _) a3,fun y=>by rw[z6k hb.srt];exact a4 y,a5⟩
theorem NodeOk.get{P:PNode}(h:NodeOk P){name:Bytes}{r:Rcp}(hg:Q1 P.files name=some r):∃s,J7 name=true∧s.length≤4000∧r=Q7 name s∧getN name P=(s,0)∧(∃L,Q1 P.bins (repR r)=some L∧(V8 s).map (z6q L)=pieces s∧∀x∈V8 s,(getB L x).isSome=true):=by
 obtain⟨s,a1,a2,a3,L,a4,a5⟩:=h.file name r hg
 have e:(V8 s).map (z6q L)=pieces s:=by
  unfold V8
  rw[List.map_map]
  conv=>rhs;rw[←List.map_id (pieces s)]
  refine List.map_congr_left fun p hp=> ?_
  obtain⟨o,ho,ht⟩:=a5 p hp
  show((getB L (idOf p)).map Hld.text).getD []=p
  rw[ho];exact ht
 refine⟨s,a1,a2,a3,?_,L,a4,e,fun x hx=> ?_⟩
 ·unfold getN
  rw[hg]
  simp only
  have hbn:binN P (repR r)=L:=by unfold binN;rw[a4];rfl
  rw[hbn,show r.ids=V8 s by rw[a3];rfl,e,B6]
 ·obtain⟨p,hp,rfl⟩:=List.mem_map.1 hx
  obtain⟨o,ho,_⟩:=a5 p hp
  rw[ho];rfl
theorem z7f{α:Type}[DecidableEq α]:∀ {A B:List α},A.Nodup→(∀a∈A,a∈B)→A.length≤B.length
 | [],_,_,_=>Nat.zero_le _
 | a::A,B,hn,h=>by
  obtain⟨h1,h2⟩:=List.nodup_cons.1 hn
  have:=z7f (A:=A) (B:=B.erase a) h2 (fun x hx=>(List.mem_erase_of_ne (fun e=>by subst e;exact h1 hx)).2 (h x (List.mem_cons_of_mem _ hx)))
  rw[List.length_erase_of_mem (h a List.mem_cons_self)]at this
  have hp:0<B.length:=List.length_pos_of_mem (h a List.mem_cons_self)
  rw[List.length_cons];omega
theorem z7g{K V:Type}[DecidableEq K]{lit:K→Lit}{lt:K→K→Bool}{ok okw:K→Prop}(E:KeyEmb lit lt ok okw){L:List (K×V)}(h:K1 lt L):(L.map (·.1)).Nodup:=by
 unfold List.Nodup
 rw[List.pairwise_map]
 exact h.imp fun hab=>E.ne hab
theorem NodeOk.blen{P:PNode}(h:NodeOk P):P.bins.length≤P.files.length:=by
 have:=z7f (A:=P.bins.map (·.1)) (B:=P.files.map fun q=>repR q.2) (z7g M0 h.bsrt) (fun x hx=>by
  obtain⟨q,hq,rfl⟩:=List.mem_map.1 hx
  obtain⟨_,_,_,_,k,r,h1,h2⟩:=h.bin q.1 q.2 (Z5 M0 h.bsrt hq)
  rw[←h2]
  exact List.mem_map_of_mem (f:=fun q:Bytes×Rcp=>repR q.2) (Y4 h1))
 simpa using this
theorem NodeOk.size{P:PNode}(h:NodeOk P):0≤D5 P∧D5 P≤16000*P.bins.length:=by
 have hb:∀q∈P.bins,0≤J8 q.2∧J8 q.2≤16000:=fun q hq=>by
  have hg:=Z5 M0 h.bsrt hq
  have:=(h.bin7 hg).size
  have hl:=(h.bin q.1 q.2 hg).2.2.1
  omega
 unfold D5
 generalize P.bins=B at hb
 induction B with
 | nil=>simp
 | cons q r ih=>
  have h1:=ih (fun z hz=>hb z (List.mem_cons_of_mem _ hz))
  have h2:=hb q List.mem_cons_self
  rw[List.map_cons,List.sum_cons,List.length_cons];omega
structure NodeW(P:PNode):Prop where
 fsrt:K1 bytesBefore P.files
 bsrt:K1 Q2 P.bins
 flen:P.files.length≤30
 blen:P.bins.length≤30
 fk:∀q∈P.files,q.1.length≤30∧q.2.ids.length≤250
 bk:∀q∈P.bins,R5 q.1∧BinOk 7500 q.2∧q.2.length≤250
theorem NodeOk.w{P:PNode}(h:NodeOk P):NodeW P:=⟨h.fsrt,h.bsrt,h.flen,Nat.le_trans h.blen h.flen,fun q hq=>by
  obtain⟨s,h1,_⟩:=h.file q.1 q.2 (Z5 U3 h.fsrt hq)
  have:=z1w h1
  exact⟨by omega,h.ids q hq⟩,fun q hq=>by
  have hg:=Z5 M0 h.bsrt hq
  exact⟨(h.bin _ _ hg).1,h.bin7 hg,(h.bin _ _ hg).2.2.1⟩⟩
end Go.Proofs.YtdmlghfggninbaaGreatDoor
namespace Go.Proofs.YtdmlghfggninbaaGreatDoor
open Go.Lib
structure Load where
 rep:Idn
 l:HldL
def z7h(x:Idn)(L:HldL):Bool:= !(L.any fun h=>decide (h.id=x))
def M7(prev:Option Rcp)(r:Rcp)(ls:List Load):Int:=
 if(Z9 r).1≠0 then(Z9 r).1
 else if(match prev with|some p=> !(bytesBefore p.name r.name)|none=>false)=true then 8
 else match ls.find? (fun b=>decide (b.rep=Z8 r.ids))with
  | none=>5
  | some b=>if r.ids.any (fun x=>z7h x b.l)=true then 5 else 0
theorem z7i{prev:Option Rcp}{r:Rcp}{ls:List Load}(h:(Z9 r).1≠0):M7 prev r ls=(Z9 r).1:=if_pos h
theorem z7j{p r:Rcp}{ls:List Load}(h:(Z9 r).1=0)(hp:bytesBefore p.name r.name=false):M7 (some p) r ls=8:=by
 unfold M7
 rw[if_neg (by simp[h]),if_pos (by simp[hp])]
def z7k(r:Rcp)(ls:List Load):Int:=match ls.find? (fun b=>decide (b.rep=Z8 r.ids))with
  | none=>5
  | some b=>if r.ids.any (fun x=>z7h x b.l)=true then 5 else 0
theorem z7l{r:Rcp}{ls:List Load}(h:ls.find? (fun b=>decide (b.rep=Z8 r.ids))=none):z7k r ls=5:=by unfold z7k;rw[h]
theorem z7m{r:Rcp}{ls:List Load}{b:Load}(h:ls.find? (fun b=>decide (b.rep=Z8 r.ids))=some b):z7k r ls=if r.ids.any (fun x=>z7h x b.l)=true then 5 else 0:=by unfold z7k;rw[h]
theorem z7n{prev:Option Rcp}{r:Rcp}{ls:List Load}(h:(Z9 r).1=0)(hp:∀p,prev=some p→bytesBefore p.name r.name=true):M7 prev r ls=z7k r ls:=by
 cases prev with
 | none=>
  unfold M7
  rw[if_neg (by simp[h]),if_neg (by simp)];rfl
 | some p=>
  unfold M7
  rw[if_neg (by simp[h]),if_neg (by simp[hp p rfl])];rfl
def M5(fs:List Rcp)(i:Nat):Option Rcp:=if i=0 then none else fs[i-1]?
def useS(fs:List Rcp)(x y:Idn):Int:=(fs.map fun r=>if Z8 r.ids=x then(r.ids.count y:Int)else 0).sum
def nS(fs:List Rcp)(x:Idn):Nat:=(fs.filter fun r=>decide (Z8 r.ids=x)).length
def oneL(fs:List Rcp)(x:Idn):Option Hld→HldL→Int
 | _,[]=>0
 | q,h::r=>if B7 q h≠0 then B7 q h else if h.uses≠useS fs x h.id then 11 else oneL fs x (some h) r
def oneS(fs:List Rcp)(x:Idn)(l:HldL):Int:=if nS fs x=0 then 3 else oneL fs x none l
def z7o(fs:List Rcp)(prev:Option Load)(b:Load):Int:=
 if(match prev with|some p=> !(Q2 p.rep b.rep)|none=>false)=true then 8 else oneS fs b.rep b.l
def z7p(ls:List Load):Option Rcp→Nat→List Rcp→Int×Int
 | _,_,[]=>(0,-1)
 | q,i,r::t=>if M7 q r ls≠0 then(M7 q r ls,i)else z7p ls (some r) (i+1) t
def z7q(fs:List Rcp):Option Load→Nat→List Load→Int×Int
 | _,_,[]=>(0,-1)
 | q,i,b::t=>if z7o fs q b≠0 then(z7o fs q b,i)else z7q fs (some b) (i+1) t
def G7(fs:List Rcp)(ls:List Load):Int×Int:=
 if 30<fs.length then(7,-1)else if(z7p ls none 0 fs).1≠0 then z7p ls none 0 fs else z7q fs none 0 ls
def U5(P:PNode):List Rcp:=P.files.map (·.2)
def R2(P:PNode):List Load:=P.bins.map fun q=>⟨q.1,q.2⟩
theorem z7r(P:PNode)(x y:Idn):useS (U5 P) x y=useN P.files x y:=by
 unfold useS useN U5
 rw[List.map_map];rfl
theorem z7s{fs:List Rcp}{x:Idn}:∀ {l:HldL} {q:Option Hld},SrtB l→(∀h∈l,idOf h.text=h.id∧h.uses=useS fs x h.id)→(∀p,q=some p→∀h∈l,Q2 p.id h.id=true)→oneL fs x q l=0
 | [],_,_,_,_=>rfl
 | h::r,q,hs,ha,hq=>by
  obtain⟨h1,h2⟩:=G5.1 hs
  obtain⟨e,eu⟩:=ha h List.mem_cons_self
  have hm:B7 q h=0:=by
   cases q with
   | none=>exact z4b e
   | some p=>exact z4a e (hq p rfl h List.mem_cons_self)
  unfold oneL
  rw[if_neg (by simp[hm]),if_neg (by simp[eu])]
  exact z7s h2 (fun z hz=>ha z (List.mem_cons_of_mem _ hz)) (fun p hp z hz=>by injection hp with hp;subst hp;exact h1 z hz)
theorem z7t{ls:List Load}:∀ {l:List Rcp} {q:Option Rcp} {i:Nat},l.Pairwise (fun a b=>bytesBefore a.name b.name=true)→(∀p,q=some p→∀r∈l,bytesBefore p.name r.name=true)→(∀r∈l,(Z9 r).1=0∧z7k r ls=0)→z7p ls q i l=(0,-1)
 | [],_,_,_,_,_=>rfl
 | r::t,q,i,hs,hq,ha=>by
  obtain⟨h1,h2⟩:=List.pairwise_cons.1 hs
  obtain⟨e1,e2⟩:=ha r List.mem_cons_self
  have e:M7 q r ls=0:=by rw[z7n e1 (fun p hp=>hq p hp r List.mem_cons_self),e2]
  unfold z7p
  rw[if_neg (by simp[e])]
  exact z7t h2 (fun p hp z hz=>by injection hp with hp;subst hp;exact h1 z hz) (fun z hz=>ha z (List.mem_cons_of_mem _ hz))
theorem z7u{fs:List Rcp}{q:Option Load}{b:Load}(hq:∀p,q=some p→Q2 p.rep b.rep=true)(ho:oneS fs b.rep b.l=0):z7o fs q b=0:=by
 cases q with
 | none=>unfold z7o;rw[if_neg (by simp)];exact ho
 | some p=>unfold z7o;rw[if_neg (by simp[hq p rfl])];exact ho
theorem z7v{fs:List Rcp}:∀ {l:List Load} {q:Option Load} {i:Nat},l.Pairwise (fun a b=>Q2 a.rep b.rep=true)→(∀p,q=some p→∀b∈l,Q2 p.rep b.rep=true)→(∀b∈l,oneS fs b.rep b.l=0)→z7q fs q i l=(0,-1)
 | [],_,_,_,_,_=>rfl
 | b::t,q,i,hs,hq,ha=>by
  obtain⟨h1,h2⟩:=List.pairwise_cons.1 hs
  have e:z7o fs q b=0:=z7u (fun p hp=>hq p hp b List.mem_cons_self) (ha b List.mem_cons_self)
  unfold z7q
  rw[if_neg (by simp[e])]
  exact z7v h2 (fun p hp z hz=>by injection hp with hp;subst hp;exact h1 z hz) (fun z hz=>ha z (List.mem_cons_of_mem _ hz))
theorem z7w{B:List (Idn×HldL)}{x:Idn}{L:HldL}(h:Q1 B x=some L):(B.map fun q=>(⟨q.1,q.2⟩:Load)).find? (fun b=>decide (b.rep=x))=some ⟨x,L⟩:=by
 induction B with
 | nil=>cases h
 | cons q r ih=>
  rw[J3]at h
  rw[List.map_cons,List.find?_cons]
  by_cases e:q.1=x
  ·rw[if_pos e]at h
   injection h with h
   simp[e,h]
  ·rw[if_neg e]at h
   simp only[e,decide_false]
   exact ih h
theorem NodeOk.fsS{P:PNode}(h:NodeOk P):(U5 P).Pairwise (fun a b=>bytesBefore a.name b.name=true):=by
 unfold U5
 rw[List.pairwise_map]
 refine h.fsrt.imp_of_mem fun {a b} ha hb hab=> ?_
 obtain⟨s,_,_,e,_⟩:=h.file a.1 a.2 (Z5 U3 h.fsrt ha)
 obtain⟨s',_,_,e',_⟩:=h.file b.1 b.2 (Z5 U3 h.fsrt hb)
 rw[e,e'];exact hab
theorem NodeOk.there{P:PNode}(h:NodeOk P):∀r∈U5 P,(Z9 r).1=0∧∃b,(R2 P).find? (fun b=>decide (b.rep=Z8 r.ids))=some b∧r.ids.any (fun x=>z7h x b.l)=false:=by
 intro r hr
 obtain⟨q,hq,rfl⟩:=List.mem_map.1 hr
 obtain⟨s,hn,hs,e,L,hL,hp⟩:=h.file q.1 q.2 (Z5 U3 h.fsrt hq)
 refine⟨by rw[e,z1g hn hs],⟨repR q.2,L⟩,z7w hL,?_⟩
 rw[List.any_eq_false]
 intro x hx
 rw[e]at hx
 obtain⟨p,hpp,rfl⟩:=List.mem_map.1 (show x∈V8 s from hx)
 obtain⟨o,ho,_⟩:=hp p hpp
 obtain⟨hm,hid⟩:=q0i ho
 unfold z7h
 have:(L.any fun h=>decide (h.id=idOf p))=true:=List.any_eq_true.2 ⟨o,hm,by simp[hid]⟩
 rw[this];simp
theorem NodeOk.lsS{P:PNode}(h:NodeOk P):(R2 P).Pairwise (fun a b=>Q2 a.rep b.rep=true):=by
 unfold R2
 rw[List.pairwise_map]
 exact h.bsrt
theorem NodeOk.binS{P:PNode}(h:NodeOk P){q:Idn×HldL}(hq:q∈P.bins):nS (U5 P) q.1≠0∧SrtB q.2∧∀o∈q.2,idOf o.text=o.id∧o.uses=useS (U5 P) q.1 o.id:=by
 obtain⟨_,⟨n,_,hok⟩,_,hu,k,r,hk,hr⟩:=h.bin q.1 q.2 (Z5 M0 h.bsrt hq)
 refine⟨?_,hok.srt,fun o ho=>⟨(hok.all o ho).id.symm,by rw[z7r,←hu,z6a (z7a hok.srt ho)]⟩⟩
 have hm:r∈(U5 P).filter fun r=>decide (Z8 r.ids=q.1):=List.mem_filter.2 ⟨List.mem_map_of_mem (Y4 hk),decide_eq_true hr⟩
 have:=List.length_pos_of_mem hm
 unfold nS;omega
theorem NodeOk.ones{P:PNode}(h:NodeOk P):∀b∈R2 P,oneS (U5 P) b.rep b.l=0:=by
 intro b hb
 obtain⟨q,hq,rfl⟩:=List.mem_map.1 hb
 obtain⟨hn,hs,ho⟩:=h.binS hq
 show oneS (U5 P) q.1 q.2=0
 unfold oneS
 rw[if_neg hn]
 exact z7s hs ho (fun p hp=>by cases hp)
theorem z7x{fs:List Rcp}{ls:List Load}(hl:fs.length≤30)(hs:fs.Pairwise (fun a b=>bytesBefore a.name b.name=true))(ht:∀r∈fs,(Z9 r).1=0∧z7k r ls=0):G7 fs ls=z7q fs none 0 ls:=by
 unfold G7
 rw[if_neg (by omega),z7t hs (fun p hp=>by cases hp) ht,if_neg (by decide)]
theorem NodeOk.flen30{P:PNode}(h:NodeOk P):(U5 P).length≤30:=by unfold U5;rw[List.length_map];exact h.flen
theorem NodeOk.check{P:PNode}(h:NodeOk P):G7 (U5 P) (R2 P)=(0,-1):=by
 rw[z7x h.flen30 h.fsS (fun r hr=>by
  obtain⟨h1,b,h2,h3⟩:=h.there r hr
  exact⟨h1,by rw[z7m h2,if_neg (by simp[h3])]⟩)]
 exact z7v h.lsS (fun p hp=>by cases hp) h.ones
theorem z7y{x:Idn}{b':Load}:∀ {ls:List Load} {i:Nat} (hi:i<ls.length),b'.rep=ls[i].rep→(∀y,z7h y b'.l=z7h y ls[i].l) →
  (∀b,ls.find? (fun b=>decide (b.rep=x))=some b→∃c,(ls.set i b').find? (fun b=>decide (b.rep=x))=some c∧∀y,z7h y c.l=z7h y b.l)
 | [],_,hi,_,_=>absurd hi (by simp)
 | a::t,0,_,e,el=>fun b hb=>by
  have e:b'.rep=a.rep:=e
  have el:∀y,z7h y b'.l=z7h y a.l:=el
  rw[List.set_cons_zero]
  rw[List.find?_cons]at hb ⊢
  rw[e]
  by_cases hx:a.rep=x
  ·simp only[hx,decide_true]at hb ⊢
   injection hb with hb
   subst hb
   exact⟨b',rfl,el⟩
  ·simp only[hx,decide_false]at hb ⊢
   exact⟨b,hb,fun _=>rfl⟩
 | a::t,i+1,hi,e,el=>fun b hb=>by
  rw[List.set_cons_succ]
  rw[List.find?_cons]at hb ⊢
  by_cases hx:a.rep=x
  ·simp only[hx,decide_true]at hb ⊢
   injection hb with hb
   subst hb
   exact⟨a,rfl,fun _=>rfl⟩
  ·simp only[hx,decide_false]at hb ⊢
   exact z7y (ls:=t) (i:=i) (by simpa using hi) e el b hb
theorem z7z{fs:List Rcp}{b':Load}{c:Int}(hc:c≠0):∀ {l:List Load} {q:Option Load} {j i:Nat} (hi:i<l.length),l.Pairwise (fun a b=>Q2 a.rep b.rep=true)→(∀p,q=some p→∀b∈l,Q2 p.rep b.rep=true)→(∀b∈l,oneS fs b.rep b.l=0)→b'.rep=l[i].rep→oneS fs b'.rep b'.l=c→z7q fs q j (l.set i b')=(c,((j+i:Nat):Int))
 | [],_,_,_,hi,_,_,_,_,_=>absurd hi (by simp)
 | b::t,q,j,0,_,hs,hq,ha,e,ho=>by
  have e:b'.rep=b.rep:=e
  rw[List.set_cons_zero]
  have hl:z7o fs q b'=c:=by
   cases q with
   | none=>unfold z7o;rw[if_neg (by simp)];exact ho
   | some p=>unfold z7o;rw[if_neg (by rw[e];simp[hq p rfl b List.mem_cons_self])];exact ho
  unfold z7q
  rw[hl,if_pos hc];rfl
 | b::t,q,j,i+1,hi,hs,hq,ha,e,ho=>by
  obtain⟨h1,h2⟩:=List.pairwise_cons.1 hs
  rw[List.set_cons_succ]
  have e0:z7o fs q b=0:=z7u (fun p hp=>hq p hp b List.mem_cons_self) (ha b List.mem_cons_self)
  unfold z7q
  rw[if_neg (by simp[e0]),z7z hc (l:=t) (q:=some b) (j:=j+1) (i:=i) (by simpa using hi) h2 (fun p hp z hz=>by injection hp with hp;subst hp;exact h1 z hz) (fun z hz=>ha z (List.mem_cons_of_mem _ hz)) e ho]
  congr 2;omega
theorem NodeOk.more{P:PNode}(h:NodeOk P){i:Nat}(hi:i<P.bins.length){o:Hld}{r:HldL}(e:P.bins[i].2=o::r) :
  G7 (U5 P) ((R2 P).set i ⟨P.bins[i].1,⟨o.id,o.uses+1,o.text⟩::r⟩)=(11,(i:Int)):=by
 have hi':i<(R2 P).length:=by unfold R2;rw[List.length_map];exact hi
 have hg:(R2 P)[i]=⟨P.bins[i].1,o::r⟩:=by
  have:(R2 P)[i]=⟨P.bins[i].1,P.bins[i].2⟩:=List.getElem_map (fun q:Idn×HldL=>(⟨q.1,q.2⟩:Load))
  rw[this,e]
 have hlk:∀y,z7h y (⟨o.id,o.uses+1,o.text⟩::r)=z7h y (o::r):=fun y=>rfl
 obtain⟨hn,_,ho⟩:=h.binS (List.getElem_mem hi)
 have ho':=ho o (by rw[e];exact List.mem_cons_self)
 rw[z7x h.flen30 h.fsS (fun q hq=>by
  obtain⟨h1,b,h2,h3⟩:=h.there q hq
  obtain⟨c,hc,hcl⟩:=z7y (b':=⟨P.bins[i].1,⟨o.id,o.uses+1,o.text⟩::r⟩) hi' (by rw[hg]) (fun y=>by rw[hg];exact hlk y) b h2
  exact⟨h1,by rw[z7m hc,if_neg (by rw[show(fun x=>z7h x c.l)=(fun x=>z7h x b.l)from funext hcl];simp[h3])]⟩)]
 rw[z7z (c:=11) (by decide) hi' h.lsS (fun p hp=>by cases hp) h.ones (by rw[hg]) ?_]
 ·simp
 ·show oneS (U5 P) P.bins[i].1 (⟨o.id,o.uses+1,o.text⟩::r)=11
  unfold oneS
  rw[if_neg hn]
  unfold oneL
  have hm:B7 none ⟨o.id,o.uses+1,o.text⟩=0:=z4b ho'.1
  rw[if_neg (by rw[hm];simp),if_pos (by show o.uses+1≠useS (U5 P) P.bins[i].1 o.id;rw[←ho'.2];omega)]
theorem z8a{fs:List Rcp}{k:Nat}(hk:k<fs.length)(x y:Idn):useS (fs.take (k+1)) x y=useS (fs.take k) x y+if Z8 fs[k].ids=x then(fs[k].ids.count y:Int)else 0:=by
 unfold useS
 rw[List.take_succ_eq_append_getElem hk,List.map_append,List.sum_append,List.map_cons,List.map_nil,List.sum_cons,List.sum_nil,Int.add_zero]
theorem z8b{fs:List Rcp}{k:Nat}(hk:k<fs.length){x:Idn}(h:Z8 fs[k].ids=x):nS (fs.take (k+1)) x=nS (fs.take k) x+1:=by
 unfold nS
 rw[List.take_succ_eq_append_getElem hk,List.filter_append,List.length_append,List.filter_cons,if_pos (decide_eq_true h)];rfl
theorem z8c{fs:List Rcp}{k:Nat}(hk:k<fs.length){x:Idn}(h:Z8 fs[k].ids≠x):nS (fs.take (k+1)) x=nS (fs.take k) x:=by
 unfold nS
 rw[List.take_succ_eq_append_getElem hk,List.filter_append,List.length_append,List.filter_cons,if_neg (by simp[h])];rfl
theorem z8d(fs:List Rcp)(x:Idn):nS fs x≤fs.length:=List.length_filter_le _ _
theorem z8e{L:IdL}{j:Nat}(hj:j<L.length)(y:Idn):((L.take (j+1)).count y:Int)=((L.take j).count y:Int)+if L[j]=y then 1 else 0:=by
 rw[List.take_succ_eq_append_getElem hj,List.count_append,List.count_cons,List.count_nil]
 by_cases h:L[j]=y<;>simp[h]
theorem z8f{fs:List Rcp}(hf:fs.length≤30)(hi:∀r∈fs,r.ids.length≤250)(x y:Idn):0≤useS fs x y∧useS fs x y≤250*fs.length:=by
 clear hf
 unfold useS
 induction fs with
 | nil=>simp
 | cons r t ih=>
  have h1:=ih (fun z hz=>hi z (List.mem_cons_of_mem _ hz))
  have h2:=hi r List.mem_cons_self
  have h3:r.ids.count y≤r.ids.length:=List.count_le_length
  rw[List.map_cons,List.sum_cons,List.length_cons]
  split<;>omega
end Go.Proofs.YtdmlghfggninbaaGreatDoor
namespace Go.Proofs.YtdmlghfggninbaaGreatDoor
open Go.Maps Go.Lib
section
variable {K V:Type} [DecidableEq K] {lit:K→Lit} {lt:K→K→Bool} {ok okw:K→Prop}
theorem z8g(E:KeyEmb lit lt ok okw){y:K×V}{r:List (K×V)}(h:∀p∈r,lt y.1 p.1=true){x:K}(hx:x=y.1∨lt x y.1=true):Q1 r x=none:=V4.2 fun p hp e=>by
 have h1:=h p hp
 rw[e]at h1
 rcases hx with rfl|hx
 ·rw[E.irr]at h1;cases h1
 ·have:=E.trans hx h1
  rw[E.irr]at this;cases this
theorem z8h(E:KeyEmb lit lt ok okw):∀ {L M:List (K×V)},K1 lt L→K1 lt M→(∀x,Q1 L x=Q1 M x)→L=M
 | [],[],_,_,_=>rfl
 | [],z::s,_,_,h=>by
  have:=h z.1
  rw[J3,if_pos rfl]at this;cases this
 | y::r,[],_,_,h=>by
  have:=h y.1
  rw[J3,if_pos rfl]at this;cases this
 | y::r,z::s,hy,hz,h=>by
  obtain⟨a1,a2⟩:=G3.1 hy
  obtain⟨b1,b2⟩:=G3.1 hz
  have hk:y.1=z.1:=Decidable.byContradiction fun hne=>by
   rcases E.total hne with hl|hl
   ·have h1:=h y.1
    rw[J3,if_pos rfl,J3,if_neg (fun e=>hne e.symm),z8g E b1 (.inr hl)]at h1;cases h1
   ·have h1:=h z.1
    rw[J3,if_neg hne,J3,if_pos rfl,z8g E a1 (.inr hl)]at h1;cases h1
  have hv:y.2=z.2:=by
   have h1:=h y.1
   rw[J3,if_pos rfl,J3,if_pos hk.symm]at h1
   injection h1
  have ht:r=s:=z8h E a2 b2 fun x=>by
   by_cases hx:x=y.1
   ·rw[z8g E a1 (.inl hx),z8g E b1 (.inl (hx.trans hk))]
   ·have h1:=h x
    rwa [J3,if_neg (fun e=>hx e.symm),J3,if_neg (fun e=>hx (hk.trans e).symm)]at h1
  rw[ht,show y=z from Prod.ext hk hv]
def z8i(lt:K→K→Bool)(os:List (K×V)):List (K×V):=os.foldl (fun C q=>Q9 lt q.1 q.2 C) []
theorem z8j(os:List (K×V))(q:K×V):z8i lt (os++ [q])=Q9 lt q.1 q.2 (z8i lt os):=by unfold z8i;rw[List.foldl_append];rfl
theorem z8k(E:KeyEmb lit lt ok okw)(os:List (K×V)):K1 lt (z8i lt os):=by
 unfold z8i
 suffices h:∀C:List (K×V),K1 lt C→K1 lt (os.foldl (fun C q=>Q9 lt q.1 q.2 C) C)from h [] z5a
 induction os with
 | nil=>exact fun C h=>h
 | cons q r ih=>exact fun C h=>ih _ (z5j E h _ _)
theorem z8l:∀ {os:List (K×V)},(os.map (·.1)).Nodup→∀x,Q1 (z8i lt os) x=Q1 os x:=by
 intro os
 unfold z8i
 suffices h:∀C:List (K×V),(os.map (·.1)).Nodup→∀x,Q1 (os.foldl (fun C q=>Q9 lt q.1 q.2 C) C) x=(Q1 os x).or (Q1 C x)from fun hn x=>by rw[h [] hn x,z5c];cases Q1 os x<;>rfl
 induction os with
 | nil=>intro C _ x;rw[z5c];rfl
 | cons q r ih=>
  intro C hn x
  rw[List.map_cons,List.nodup_cons]at hn
  rw[List.foldl_cons,ih _ hn.2,q0k,J3]
  by_cases hq:q.1=x
  ·rw[if_pos hq,if_pos hq]
   have:Q1 r x=none:=V4.2 fun p hp e=>hn.1 (by rw[hq,←e];exact List.mem_map_of_mem (f:=fun p:K×V=>p.1) hp)
   rw[this];rfl
  ·rw[if_neg hq,if_neg hq]
theorem z8m(E:KeyEmb lit lt ok okw){os L:List (K×V)}(hs:K1 lt L)(hp:os.Perm L):z8i lt os=L:=by
 have hn:(os.map (·.1)).Nodup:=(hp.map _).nodup_iff.2 (z7g E hs)
 refine z8h E (z8k E os) hs fun x=> ?_
 rw[z8l hn]
 cases hg:Q1 L x with
 | none=>
  exact V4.2 fun p hp2=>V4.1 hg p (hp.mem_iff.1 hp2)
 | some v=>
  cases ho:Q1 os x with
  | none=>
   obtain⟨p,hp1,hp2⟩:∃p∈L,p=(x,v):=by
    unfold Q1 at hg
    cases hf:L.find? (fun p=>decide (p.1=x))with
    | none=>rw[hf]at hg;cases hg
    | some p=>
     rw[hf]at hg
     injection hg with hg
     have hk:p.1=x:=by simpa using List.find?_some hf
     exact⟨p,List.mem_of_find?_eq_some hf,Prod.ext hk hg⟩
   exact absurd (by rw[hp2]) (V4.1 ho p (hp.mem_iff.2 hp1))
  | some u=>
   unfold Q1 at hg ho
   cases hf:L.find? (fun p=>decide (p.1=x))with
   | none=>rw[hf]at hg;cases hg
   | some p=>
    cases hf2:os.find? (fun p=>decide (p.1=x))with
    | none=>rw[hf2]at ho;cases ho
    | some p2=>
     have m1:=List.mem_of_find?_eq_some hf
     have m2:=hp.mem_iff.1 (List.mem_of_find?_eq_some hf2)
     have k1:p.1=x:=by simpa using List.find?_some hf
     have k2:p2.1=x:=by simpa using List.find?_some hf2
     have g1:=Z5 E hs m1
     have g2:=Z5 E hs m2
     rw[k1]at g1;rw[k2,g1]at g2
     rw[hf]at hg;rw[hf2]at ho
     injection hg with hg;injection ho with ho;injection g2 with g2
     rw[←hg,←ho]
     exact congrArg some g2.symm
end
end Go.Proofs.YtdmlghfggninbaaGreatDoor
