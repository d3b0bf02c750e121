/- Al, AlM, Post, OpenS, LaidS, HandS in one text. Conditions: as each part says. -/
import Derived.Test.YtdmlghfggninbaaGreatDoorAbb
import Derived.Maps.OwnSet
import Derived.Lib.SlMapFilter
import GoSem.ClaimKeys
import Derived.Maps.RangeWalk
import Derived.Maps.Views
import Derived.Handy
import Derived.WalkKit
import Derived.Below
import Derived.Deep.Draws
import Derived.ProofKit
import Derived.OpenShut
import Derived.Deep.Slices
import Derived.Deep.Fields
import Derived.ChangeSame
import Derived.WideKeyArgs
import Derived.LaidLaws
import Derived.LaidHandle
import Derived.LaidSub
import Derived.MakeChecks
import Derived.Stop.LaidErr
import Derived.Handed
import Derived.SizedLaws
import Derived.HandedShaped
import Derived.Shelf.Vars
set_option linter.unusedVariables false
set_option linter.unusedSimpArgs false
namespace Go.Proofs.YtdmlghfggninbaaGreatDoor
open Go.Maps Go.Lib
structure KeyEmb{K:Type}[DecidableEq K](lit:K→Lit)(lt:K→K→Bool)(ok okw:K→Prop):Prop where
 wide:∀ {x},ok x→okw x
 same:∀ {x y},okw x→okw y→(lit x).sameKey (lit y)=decide (x=y)
 before:∀ {x y},ok x→ok y→(lit x).before (lit y)=lt x y
 irr:∀x,lt x x=false
 trans:∀ {x y z},lt x y=true→lt y z=true→lt x z=true
 total:∀ {x y},x≠y→lt x y=true∨lt y x=true
section
variable {K V U:Type}
def K7(f:V→U)(L:List (K×V)):List (K×U):=L.map fun p=>(p.1,f p.2)
def K1(lt:K→K→Bool)(L:List (K×V)):Prop:=L.Pairwise fun a b=>lt a.1 b.1=true
def alD(lit:K→Lit)(f:V→Value)(L:List (K×V)):DataW Value:= .map (L.map fun p=>(lit p.1,.held (f p.2)))
theorem W5(f:V→U)(L:List (K×V)):(K7 f L).length=L.length:=by unfold K7;rw[List.length_map]
theorem z4z{lt:K→K→Bool}{f:V→U}{L:List (K×V)}:K1 lt (K7 f L)↔K1 lt L:=by
 unfold K1 K7
 rw[List.pairwise_map]
theorem G3{lt:K→K→Bool}{y:K×V}{r:List (K×V)}:K1 lt (y::r)↔(∀x∈r,lt y.1 x.1=true)∧K1 lt r:=List.pairwise_cons
theorem z5a{lt:K→K→Bool}:K1 lt ([]:List (K×V)):=List.Pairwise.nil
theorem z5b(lit:K→Lit)(f:V→Value)(L:List (K×V)):Maps.size (alD lit f L)=L.length:=by simp[alD,Maps.size]
variable [DecidableEq K]
def Q1(L:List (K×V))(k:K):Option V:=(L.find? fun p=>decide (p.1=k)).map (·.2)
def Q9(lt:K→K→Bool)(k:K)(v:V):List (K×V)→List (K×V)
 | []=> [(k,v)]
 | y::r=>if y.1=k then(k,v)::r else if lt k y.1=true then(k,v)::y::r else y::Q9 lt k v r
def K3(k:K)(L:List (K×V)):List (K×V):=L.filter fun p=> !decide (p.1=k)
theorem z5c(k:K):Q1 ([]:List (K×V)) k=none:=rfl
theorem J3(y:K×V)(r:List (K×V))(k:K):Q1 (y::r) k=if y.1=k then some y.2 else Q1 r k:=by
 unfold Q1
 rw[List.find?_cons]
 by_cases h:y.1=k<;>simp[h]
theorem Y4{L:List (K×V)}{k:K}{v:V}(h:Q1 L k=some v):(k,v)∈L:=by
 induction L with
 | nil=>cases h
 | cons y r ih=>
  rw[J3]at h
  split at h
  ·next e=>
   injection h with h
   subst e;subst h
   exact List.mem_cons_self
  ·exact List.mem_cons_of_mem _ (ih h)
theorem V4{L:List (K×V)}{k:K}:Q1 L k=none↔∀p∈L,p.1≠k:=by
 induction L with
 | nil=>simp[Q1]
 | cons y r ih=>
  rw[J3]
  by_cases h:y.1=k<;>simp[h,ih]
theorem G9(f:V→U)(L:List (K×V))(k:K):Q1 (K7 f L) k=(Q1 L k).map f:=by
 induction L with
 | nil=>rfl
 | cons y r ih=>
  show Q1 ((y.1,f y.2)::K7 f r) k=_
  rw[J3,J3,ih]
  split<;>rfl
theorem z5d(lt:K→K→Bool)(f:V→U)(k:K)(v:V)(L:List (K×V)):K7 f (Q9 lt k v L)=Q9 lt k (f v) (K7 f L):=by
 induction L with
 | nil=>rfl
 | cons y r ih=>
  show _=Q9 lt k (f v) ((y.1,f y.2)::K7 f r)
  unfold Q9
  simp only
  split
  ·rfl
  ·split
   ·rfl
   ·show(y.1,f y.2)::K7 f (Q9 lt k v r)=_
    rw[ih]
theorem z5e(f:V→U)(k:K)(L:List (K×V)):K7 f (K3 k L)=K3 k (K7 f L):=by
 unfold K7 K3
 rw[List.filter_map]
 rfl
theorem V9{lt:K→K→Bool}{k:K}{v:V}:∀ {L:List (K×V)} {x:K×V},x∈Q9 lt k v L→x=(k,v)∨x∈L
 | [],x,hx=>by simp[Q9]at hx;exact .inl hx
 | y::r,x,hx=>by
  unfold Q9 at hx
  split at hx
  ·rcases List.mem_cons.1 hx with e|e
   ·exact .inl e
   ·exact .inr (List.mem_cons_of_mem _ e)
  ·split at hx
   ·rcases List.mem_cons.1 hx with e|e
    ·exact .inl e
    ·exact .inr e
   ·rcases List.mem_cons.1 hx with e|e
    ·exact .inr (e▸List.mem_cons_self)
    ·rcases V9 e with e|e
     ·exact .inl e
     ·exact .inr (List.mem_cons_of_mem _ e)
theorem z5f{lt:K→K→Bool}{L:List (K×V)}(h:K1 lt L)(k:K):K1 lt (K3 k L):=h.filter _
theorem z5g{L:List (K×V)}{k:K}{x:K×V}:x∈K3 k L↔x∈L∧x.1≠k:=by unfold K3;simp
theorem z5h(L:List (K×V))(k x:K):Q1 (K3 k L) x=if x=k then none else Q1 L x:=by
 induction L with
 | nil=>unfold K3 Q1;simp
 | cons y r ih=>
  have e:K3 k (y::r)=if y.1=k then K3 k r else y::K3 k r:=by
   unfold K3
   by_cases h:y.1=k<;>simp[h]
  rw[e]
  by_cases h:y.1=k
  ·rw[if_pos h,ih,J3]
   by_cases hx:x=k
   ·simp[hx]
   ·simp[hx,show ¬y.1=x from fun e=>hx (e.symm.trans h)]
  ·rw[if_neg h,J3,ih,J3]
   by_cases hx:x=k
   ·subst hx;simp[h]
   ·simp[hx]
theorem z5i(L:List (K×V))(k:K):(K3 k L).length≤L.length:=List.length_filter_le _ _
variable {lit:K→Lit} {lt:K→K→Bool} {ok okw:K→Prop}
theorem KeyEmb.ne(E:KeyEmb lit lt ok okw){x y:K}(h:lt x y=true):x≠y:=fun e=>by subst e;rw[E.irr]at h;cases h
theorem z5j(E:KeyEmb lit lt ok okw){L:List (K×V)}(hs:K1 lt L)(k:K)(v:V):K1 lt (Q9 lt k v L):=by
 induction L with
 | nil=>exact List.pairwise_singleton _ _
 | cons y r ih=>
  obtain⟨h1,h2⟩:=G3.1 hs
  unfold Q9
  split
  ·next e=>exact G3.2 ⟨fun x hx=>by show lt k x.1=true;rw[←e];exact h1 x hx,h2⟩
  ·next e=>
   split
   ·next e2=>
    refine G3.2 ⟨fun x hx=> ?_,hs⟩
    rcases List.mem_cons.1 hx with rfl|hx
    ·exact e2
    ·exact E.trans e2 (h1 x hx)
   ·next e2=>
    refine G3.2 ⟨fun x hx=> ?_,ih h2⟩
    rcases V9 hx with rfl|hx
    ·rcases E.total e with h3|h3
     ·exact h3
     ·exact absurd h3 e2
    ·exact h1 x hx
theorem q0k(lt:K→K→Bool)(L:List (K×V))(k:K)(v:V)(x:K):Q1 (Q9 lt k v L) x=if k=x then some v else Q1 L x:=by
 induction L with
 | nil=>unfold Q9;rw[J3]
 | cons y r ih=>
  unfold Q9
  split
  ·next e=>
   rw[J3,J3]
   by_cases hx:k=x
   ·simp[hx]
   ·simp[hx,e]
  ·next e=>
   split
   ·rw[J3]
   ·rw[J3,ih,J3]
    by_cases hx:k=x
    ·have hy:y.1≠x:=fun e4=>e (e4.trans hx.symm)
     simp[hx,hy]
    ·simp[hx]
theorem z5k{k:K}{v:V}:∀ {L:List (K×V)},Q1 L k=none→(Q9 lt k v L).length=L.length+1
 | [],_=>rfl
 | y::r,hg=>by
  have hne:=V4.1 hg
  unfold Q9
  rw[if_neg (hne y List.mem_cons_self)]
  split
  ·rfl
  ·rw[List.length_cons,z5k (V4.2 fun z hz=>hne z (List.mem_cons_of_mem _ hz)),List.length_cons]
theorem q0g{k:K}{v:V}:∀ {L:List (K×V)},(Q9 lt k v L).length≤L.length+1
 | []=>zl _
 | y::r=>by
  unfold Q9
  split
  ·simp
  ·split
   ·simp
   ·have:=q0g (k:=k) (v:=v) (L:=r)
    simp only[List.length_cons];omega
def rawE(v:Value):Option (DataW Value×List MemPlace):=some (.held v,[])
theorem z5l(E:KeyEmb lit lt ok okw)(f:V→Value){L:List (K×V)}(hL:∀p∈L,ok p.1){x:K}(hx:okw x):Maps.has (alD lit f L) (lit x)=(Q1 L x).isSome:=by
 unfold alD
 rw[Maps.has_eq]
 induction L with
 | nil=>rfl
 | cons y r ih=>
  rw[List.map_cons,List.any_cons,ih (fun h hh=>hL h (List.mem_cons_of_mem _ hh)),E.same (E.wide (hL y List.mem_cons_self)) hx,J3]
  by_cases hd:y.1=x<;>simp[hd]
theorem z5m(E:KeyEmb lit lt ok okw)(f:V→Value){L:List (K×V)}(hL:∀p∈L,ok p.1){x:K}(hx:okw x)(z:Value):(alD lit f L).atKey (lit x) (.held z)= .held (((Q1 L x).map f).getD z):=by
 unfold alD DataW.atKey
 induction L with
 | nil=>rfl
 | cons y r ih=>
  have h1:=E.same (E.wide (hL y List.mem_cons_self)) hx
  have ih:=ih (fun h hh=>hL h (List.mem_cons_of_mem _ hh))
  simp only[List.map_cons,List.find?_cons,h1]
  rw[J3]
  by_cases hd:y.1=x
  ·simp[hd]
  ·simp only[hd,decide_false,if_false]
   exact ih
theorem z5n(E:KeyEmb lit lt ok okw)(f:V→Value){r:List (K×V)}{x:K}(hr:∀p∈r,ok p.1)(hx:ok x)(h:∀y∈r,y.1≠x):((r.map fun p=>(lit p.1,(.held (f p.2):DataW Value))).filter fun p=> !p.1.sameKey (lit x))=r.map fun p=>(lit p.1,.held (f p.2)):=by
 rw[List.filter_eq_self]
 intro p hp
 obtain⟨y,hy,rfl⟩:=List.mem_map.1 hp
 simp[E.same (E.wide (hr y hy)) (E.wide hx),h y hy]
theorem z5o(E:KeyEmb lit lt ok okw)(f:V→Value){L:List (K×V)}(hs:K1 lt L)(hL:∀p∈L,ok p.1)(k:K)(v:V)(hx:ok k):(alD lit f L).put (lit k) (.held (f v))=alD lit f (Q9 lt k v L):=by
 unfold alD DataW.put
 simp only
 congr 1
 induction L with
 | nil=>rfl
 | cons y r ih=>
  obtain⟨h1,h2⟩:=G3.1 hs
  have hy:=hL y List.mem_cons_self
  have hr:∀z∈r,ok z.1:=fun z hz=>hL z (List.mem_cons_of_mem _ hz)
  unfold Q9
  by_cases e:y.1=k
  ·have hsk:=E.same (E.wide hy) (E.wide hx)
   rw[if_pos e,List.map_cons,List.filter_cons,if_neg (by rw[hsk];simp[e]),z5n E f hr hx (fun z hz=>by rw[←e];exact(E.ne (h1 z hz)).symm)]
   cases r with
   | nil=>rfl
   | cons z q=>
    have hz:=h1 z List.mem_cons_self
    have hb:=E.before hx (hr z List.mem_cons_self)
    rw[e]at hz
    rw[hz]at hb
    simp[DataW.insert,hb]
  ·rw[if_neg e,List.map_cons,List.filter_cons,if_pos (by simp[E.same (E.wide hy) (E.wide hx),e])]
   by_cases hb:lt k y.1=true
   ·rw[if_pos hb,z5n E f hr hx (fun z hz=>(E.ne (E.trans hb (h1 z hz))).symm)]
    simp[DataW.insert,E.before hx hy,hb]
   ·rw[if_neg hb,List.map_cons,←ih h2 hr]
    simp[DataW.insert,E.before hx hy,hb]
theorem z5p(E:KeyEmb lit lt ok okw)(f:V→Value){L:List (K×V)}(hL:∀p∈L,ok p.1)(k:K)(hx:ok k):(alD lit f L).del (lit k)=alD lit f (K3 k L):=by
 unfold alD DataW.del K3
 simp only
 congr 1
 induction L with
 | nil=>rfl
 | cons y r ih=>
  rw[List.map_cons,List.filter_cons,List.filter_cons,ih (fun z hz=>hL z (List.mem_cons_of_mem _ hz)),E.same (E.wide (hL y List.mem_cons_self)) (E.wide hx)]
  by_cases e:y.1=k<;>simp[e]
end
end Go.Proofs.YtdmlghfggninbaaGreatDoor
namespace Go.Proofs.YtdmlghfggninbaaGreatDoor
open Go.RowKit Go.Lib Go.Maps Go.WideMaps
structure KeyRd{K:Type}[DecidableEq K](P:Program)(k:TypeId)(lit:K→Lit)(lt:K→K→Bool)(ok okw:K→Prop)(kv:K→Value):Prop where
 emb:KeyEmb lit lt ok okw
 law:Keyed P k
 key:∀ {x},okw x→keyOf P k (kv x)=some (lit x)
 inv:∀ {v kl},keyOf P k v=some kl→∃x,okw x∧v=kv x∧kl=lit x
 kinj:∀ {x y},kv x=kv y→x=y
 lit:∀x,WideAt.IsKeyLit (lit x)
section
variable {K V:Type} {P:Program} {k:TypeId} {lit:K→Lit} {lt:K→K→Bool} {ok okw:K→Prop} {kv:K→Value}
def AlMap(P:Program)(k:TypeId)(lit:K→Lit)(f:V→Value)(mb:Nat)(L:List (K×V))(w:World):Prop:=w.ownsMap P k rawE mb L.length (alD lit f L)
theorem AlMap.blt{f:V→Value}{mb:Nat}{L:List (K×V)}{w:World}(h:AlMap P k lit f mb L w):mb<w.heap.size:=World.ownsMap.lt h
theorem AlMap.keep{f:V→Value}{mb:Nat}{L:List (K×V)}{w w':World}(h:AlMap P k lit f mb L w)(h2:w'.heap[mb]? =w.heap[mb]?):AlMap P k lit f mb L w':=by
 obtain⟨es,clock,e1,e2⟩:=h
 exact⟨es,clock,h2.trans e1,e2⟩
theorem AlMap.below{f:V→Value}{mb:Nat}{L:List (K×V)}{w w':World}(h:AlMap P k lit f mb L w)(hb:Below w.heap.size w w'):AlMap P k lit f mb L w':=h.keep (hb.block mb h.blt)
theorem AlMap.grown{f:V→Value}{mb:Nat}{L:List (K×V)}{w w':World}{r:Option Nat}(h:AlMap P k lit f mb L w)(hg:w.grownBy w' r)(h2:some mb≠r):AlMap P k lit f mb L w':=h.keep (hg.block mb h.blt h2)
theorem AlMap.isMap{f:V→Value}{mb:Nat}{L:List (K×V)}{w:World}(h:AlMap P k lit f mb L w):∃es clock,w.heap[mb]? =some (.map es clock):=by
 obtain⟨es,clock,e1,_⟩:=h
 exact⟨es,clock,e1⟩
theorem AlMap.tight{f:V→Value}{mb n:Nat}{L:List (K×V)}{w:World}(h:w.ownsMap P k rawE mb n (alD lit f L)):AlMap P k lit f mb L w:=by
 obtain⟨es,clock,hb,F,_,hD⟩:=h
 refine⟨es,clock,hb,F,?_,hD⟩
 have e:Maps.size (alD lit f L)=es.size:=by rw[hD];simp[Maps.size,length_sorted]
 rw[z5b]at e
 omega
theorem AlMap.conv{U:Type}{f:V→Value}{g:U→Value}{h':V→U}{mb:Nat}{L:List (K×V)}{w:World}(h:AlMap P k lit f mb L w)(e:∀p∈L,f p.2=g (h' p.2)):AlMap P k lit g mb (K7 h' L) w:=by
 have e2:alD lit f L=alD lit g (K7 h' L):=by
  unfold alD K7
  rw[List.map_map]
  congr 1
  exact List.map_congr_left fun p hp=>by show(lit p.1,DataW.held (f p.2))=(lit p.1,DataW.held (g (h' p.2)));rw[e p hp]
 unfold AlMap at h ⊢
 rw[←e2,W5];exact h
theorem AlMap.made(w:World)(f:V→Value):AlMap P k lit f w.heap.size ([]:List (K×V)) (w.alloc (.map #[] 0)):=World.ownsMap_made w P k rawE
variable [DecidableEq K]
theorem AlMap.look(R:KeyRd P k lit lt ok okw kv){f:V→Value}{mb:Nat}{L:List (K×V)}{w:World}(h:AlMap P k lit f mb L w)(hL:∀p∈L,ok p.1){t e:TypeId}(ht:P.underlying t=some (.map k e)){z:Value}(hz:(zeroValue e).run P w= .ok z w){x:K}(hx:okw x) :
  (Instr.lookup t (.map (some mb)) (kv x) true).run P w= .ok (.tuple #[((Q1 L x).map f).getD z,.bool (Q1 L x).isSome]) w:=by
 obtain⟨v,ps,hr,hv⟩:=World.ownsMap.look_ok h R.law ht hz (show rawE z=some (.held z,[])from rfl) (R.key hx)
 rw[z5m R.emb f hL hx]at hv
 injection hv with hv
 injection hv with hv _
 injection hv with hv
 rw[hr,z5l R.emb f hL hx,hv]
theorem AlMap.at(R:KeyRd P k lit lt ok okw kv){f:V→Value}{mb:Nat}{L:List (K×V)}{w:World}(h:AlMap P k lit f mb L w)(hL:∀p∈L,ok p.1){t e:TypeId}(ht:P.underlying t=some (.map k e)){z:Value}(hz:(zeroValue e).run P w= .ok z w){x:K}(hx:okw x) :
  (Instr.lookup t (.map (some mb)) (kv x) false).run P w= .ok (((Q1 L x).map f).getD z) w:=by
 obtain⟨v,ps,hr,hv⟩:=World.ownsMap.lookup h R.law ht hz (show rawE z=some (.held z,[])from rfl) (R.key hx)
 rw[z5m R.emb f hL hx]at hv
 injection hv with hv
 injection hv with hv _
 injection hv with hv
 rw[hr,hv]
omit [DecidableEq K] in
theorem AlMap.size{f:V→Value}{mb:Nat}{L:List (K×V)}{w:World}(h:AlMap P k lit f mb L w){t e:TypeId}(ht:P.underlying t=some (.map k e))(ty:TypeId):(Builtin.len_ #[t] ty #[.map (some mb)]).run P w= .ok (.int .i64 (L.length:Int)) w:=by
 have:=World.ownsMap.len h ht ty
 rw[z5b]at this
 exact this
theorem AlMap.put(R:KeyRd P k lit lt ok okw kv){f:V→Value}{mb n:Nat}{L:List (K×V)}{w':World}(hs:K1 lt L)(hL:∀p∈L,ok p.1)(x:K)(v:V)(hx:ok x)(hm:w'.ownsMap P k rawE mb n ((alD lit f L).put (lit x) (.held (f v)))):AlMap P k lit f mb (Q9 lt x v L) w':=by
 rw[z5o R.emb f hs hL x v hx]at hm
 exact AlMap.tight hm
theorem AlMap.del(R:KeyRd P k lit lt ok okw kv){f:V→Value}{mb n:Nat}{L:List (K×V)}{w':World}(hL:∀p∈L,ok p.1)(x:K)(hx:ok x)(hm:w'.ownsMap P k rawE mb n ((alD lit f L).del (lit x))):AlMap P k lit f mb (K3 x L) w':=by
 rw[z5p R.emb f hL x hx]at hm
 exact AlMap.tight hm
theorem z5q:∀(v:Value) (y:DataW Value×List MemPlace),rawE v=some y→∃u:Value,v=id u:=fun v _ _=>⟨v,rfl⟩
theorem KeyRd.mk_inv(R:KeyRd P k lit lt ok okw kv):∀key kl,keyOf P k key=some kl→∃x:K,key=kv x:=fun _ _ h=>by obtain⟨x,_,hx,_⟩:=R.inv h;exact⟨x,hx⟩
theorem z5r(R:KeyRd P k lit lt ok okw kv){f:V→Value}{L:List (K×V)}(hL:∀p∈L,ok p.1){x:K}{c:Value}{kl:Lit}{y:DataW Value×List MemPlace}(hkey:keyOf P k (kv x)=some kl)(hv:rawE (id c)=some y)(hat:∀zd,(alD lit f L).atKey kl zd=y.1) :
  kl=lit x∧okw x∧∃v,(x,v)∈L∧c=f v:=by
 obtain⟨x',hx,e,rfl⟩:=R.inv hkey
 obtain rfl:=R.kinj e
 refine⟨rfl,hx,?_⟩
 injection hv with hv
 subst hv
 have hh:=Maps.has_true_of_atKey hat
 rw[z5l R.emb f hL hx]at hh
 obtain⟨v,hg⟩:=Option.isSome_iff_exists.1 hh
 have h2:=hat (.held c)
 rw[z5m R.emb f hL hx,hg]at h2
 injection h2 with h2
 exact⟨v,Y4 hg,h2.symm⟩
def AlCame(lit:K→Lit)(L:List (K×V))(left:Lit→Bool)(os:List (K×V)):Prop:=(os.map (·.1)).Nodup∧∀o,o∈os↔o∈L∧left (lit o.1)=false
theorem AlCame.start(E:KeyEmb lit lt ok okw)(f:V→Value){L:List (K×V)}(hL:∀p∈L,ok p.1):AlCame lit L (Maps.has (alD lit f L)) []:=⟨List.nodup_nil,fun o=>⟨fun h=>absurd h List.not_mem_nil,fun⟨h,hl⟩=>by
 rw[z5l E f hL (E.wide (hL o h))]at hl
 cases hg:Q1 L o.1 with
 | some _=>rw[hg]at hl;cases hl
 | none=>exact absurd rfl (V4.1 hg o h)⟩⟩
theorem z5s(E:KeyEmb lit lt ok okw){L:List (K×V)}(hs:K1 lt L){x y:K×V}(hx:x∈L)(hy:y∈L)(h:x.1=y.1):x=y:=by
 induction L with
 | nil=>cases hx
 | cons z r ih=>
  obtain⟨h1,h2⟩:=G3.1 hs
  rcases List.mem_cons.1 hx with e1|hx'
  ·rcases List.mem_cons.1 hy with e2|hy'
   ·rw[e1,e2]
   ·rw[e1]at h;exact absurd h (E.ne (h1 y hy'))
  ·rcases List.mem_cons.1 hy with e2|hy'
   ·rw[e2]at h;exact absurd h.symm (E.ne (h1 x hx'))
   ·exact ih h2 hx' hy'
theorem AlCame.step(E:KeyEmb lit lt ok okw){L:List (K×V)}{left:Lit→Bool}{os:List (K×V)}(h:AlCame lit L left os)(hs:K1 lt L)(hL:∀y∈L,ok y.1){o:K×V}(ho:o∈L)(hl:left (lit o.1)=true) :
  AlCame lit L (fun z=>left z&& !z.sameKey (lit o.1)) (os++ [o]):=by
 have hno:∀p∈os,p.1≠o.1:=fun p hm e=>by
  have h1:=(h.2 p).1 hm
  have:=h1.2
  rw[e,hl]at this;cases this
 refine⟨?_,fun y=> ?_⟩
 ·rw[List.map_append]
  refine List.nodup_append.2 ⟨h.1,by simp,fun a ha b hb e=> ?_⟩
  obtain⟨p,hp,rfl⟩:=List.mem_map.1 ha
  rw[List.map_cons,List.map_nil,List.mem_singleton]at hb
  exact hno p hp (e.trans hb)
 ·rw[List.mem_append,List.mem_singleton,h.2 y]
  constructor
  ·rintro(⟨h1,h2⟩|rfl)
   ·exact⟨h1,by show(left (lit y.1)&&_)=false;rw[h2];rfl⟩
   ·exact⟨ho,by show(left (lit y.1)&& !(lit y.1).sameKey (lit y.1))=false;rw[E.same (E.wide (hL y ho)) (E.wide (hL y ho))];simp⟩
  ·rintro⟨h1,h2⟩
   cases hly:left (lit y.1)with
   | false=>exact .inl ⟨h1,rfl⟩
   | true=>
    right
    have h2:(left (lit y.1)&& !(lit y.1).sameKey (lit o.1))=false:=h2
    rw[hly,E.same (E.wide (hL y h1)) (E.wide (hL o ho))]at h2
    exact z5s E hs h1 ho (by simpa using h2)
theorem z5t(E:KeyEmb lit lt ok okw){L:List (K×V)}(hs:K1 lt L):L.Nodup:=hs.imp fun h e=>by subst e;exact E.ne h rfl
theorem AlCame.perm(E:KeyEmb lit lt ok okw){L:List (K×V)}{left:Lit→Bool}{os:List (K×V)}(h:AlCame lit L left os)(hs:K1 lt L)(hl:∀kl,left kl=false):os.Perm L:=by
 refine(List.perm_ext_iff_of_nodup ?_ (z5t E hs)).2 fun o=> ?_
 ·have:=h.1
  unfold List.Nodup at this
  rw[List.pairwise_map]at this
  exact this.imp fun hab e=>hab (by rw[e])
 ·rw[h.2 o]
  exact⟨fun h=>h.1,fun h=>⟨h,hl _⟩⟩
omit [DecidableEq K] in
theorem AlCame.sub{L:List (K×V)}{left:Lit→Bool}{os:List (K×V)}(h:AlCame lit L left os):∀o∈os,o∈L:=fun o ho=>((h.2 o).1 ho).1
end
end Go.Proofs.YtdmlghfggninbaaGreatDoor
namespace Go.Proofs.YtdmlghfggninbaaGreatDoor
open Go.RowKit Go.WideShapes Go.ChangeShapes
section
variable {H:Type} {enc:TypeId×Value→H} {P:Program}
theorem z5u{f:Func}{s:ChangeSpec}{apart fresh handsOn again:Bool}{W W':World}{args:Array Value}{v:Value}{ds gs:List (DataW H)}{before pa pv:List MemPlace}
  (hW:DataW.Whole enc P f.params.toList s.vars apart W args.toList ds gs before)
  (hres:∀(b:Nat) (sp:Nat→Bool) (hd:Bool),DataW.TrodAll enc P W' b sp hd f.resultTypes.toList (v.resultList f.resultTypes.size) (s.fn H (ds++gs)).results [])
  (hargs:∀sp:Nat→Bool,(∀p∈before,sp p.block=true)→DataW.TrodAll enc P W' 0 sp true f.params.toList args.toList (s.fn H (ds++gs)).args pa)
  (hvars:∀sp:Nat→Bool,(∀p∈before,sp p.block=true)→DataW.TrodVars enc P W' sp s.vars (s.fn H (ds++gs)).vars pv)
  (hps:before=pa++pv) (hb:Below W.heap.size W W')
  (hok:∀(j:Nat) (t:TypeId) (r:Value),f.resultTypes[j]? =some t→(v.resultList f.resultTypes.size)[j]? =some r→Value.okWide P W' .any 0 t r) :
  s.post enc P f apart fresh handsOn again W args v W':=by
 have hlt:∀p∈before,p.block<W.heap.size:=fun p hp=>hW.lt p hp
 have hold:∀p∈before,(fun b=>decide (b<W.heap.size)) p.block=true:=fun p hp=>by simpa using hlt p hp
 refine⟨ds,gs,before,[],pa,pv,hW,hres _ _ _,hargs _ hold,hvars _ hold,World.keptBut_mono (fun p hp=>⟨hp,?_⟩) (hb.frame (· ∈before)),fun _=> ?_⟩
 ·rw[hps,List.mem_append]at hp
  exact Or.inr hp
 ·obtain⟨_,_,_,_,_,hz,hn⟩:=hW
  refine⟨hok,_,_,([]++pa)++pv,⟨[]++pa,pv,trodAll_append (hargs _ (fun _ _=>rfl)) (hres _ _ _),hvars _ (fun _ _=>rfl),rfl,?_,?_⟩,?_⟩
  ·intro b off hp
   have hin:MemPlace.cell b off∈before:=by rw[hps];simpa using hp
   rw[hb.frozen (hlt _ hin)]
   exact hz b off hin
  ·intro ha
   have:=hn ha
   rw[hps]at this
   simpa using this
  ·intro p hp _
   rw[hps]
   simpa using hp
end
end Go.Proofs.YtdmlghfggninbaaGreatDoor
namespace Go.Proofs.YtdmlghfggninbaaGreatDoor
open Go.RowKit Go.ChangeShapes Go.WideShapes Go.Deep
section
variable {H:Type} {enc:TypeId×Value→H} {P:Program} {w:World} {base:Nat} {spare:Nat→Bool} {held:Bool}
end
section
variable {H:Type} {enc:TypeId×Value→H} {P:Program} {w:World} {base:Nat} {spare:Nat→Bool} {held:Bool}
theorem z5v{a:Addr}{u:Value}(h0:w.cell? a=some u):a.spot=none:=by
 unfold World.cell? at h0
 split at h0
 ·cases hs:a.spot with
  | none=>rfl
  | some x=>rw[hs]at h0;simp at h0
 ·cases h0
theorem z5w(hl:laidOutB P=true){W W':World}{sp:Nat→Bool}:∀(ts:List TypeId) (vs:List Value) (ds:List (DataW H)) (ps:List MemPlace),
  (ts.all fun t=>P.readableRec t&&decide (t<P.types.size))=true→DataW.TrodAll enc P W 0 (fun _=>true) true ts vs ds ps→(∀p∈ps,W.sameAt W' p)→(∀p∈ps,sp p.block=true)→DataW.TrodAll enc P W' 0 sp true ts vs ds ps
 | [],vs,ds,ps,_,h,_,_=>by
  obtain⟨rfl,rfl,rfl⟩:=trodAll_nil h
  exact trodAll_mk0
 | t::ts,vs,ds,ps,hr,h,hsame,hs=>by
  obtain⟨v,vs',d,ds',p,q,rfl,rfl,rfl,h0,h1⟩:=trodAll_cons h
  rw[List.all_cons,Bool.and_eq_true,Bool.and_eq_true,decide_eq_true_eq]at hr
  exact trodAll_cons_mk (WideElems.Trod_stays hl hr.1.1 hr.1.2 h0 (fun x hx=>hsame x (List.mem_append_left _ hx)) (fun x hx=>hs x (List.mem_append_left _ hx)))
   (z5w hl ts vs' ds' q hr.2 h1 (fun x hx=>hsame x (List.mem_append_right _ hx)) (fun x hx=>hs x (List.mem_append_right _ hx)))
theorem post_kept{f:Func}{s:ChangeSpec}{apart fresh handsOn again:Bool}{W W':World}{args:Array Value}{v:Value}{ds gs:List (DataW H)}{before:List MemPlace}
  (hl:laidOutB P=true) (hpar:(f.params.toList.all fun t=>P.readableRec t&&decide (t<P.types.size))=true)
  (hW:DataW.Whole enc P f.params.toList s.vars apart W args.toList ds gs before) (hv0:s.vars= [])
  (hres:∀(b:Nat) (sp:Nat→Bool) (hd:Bool),DataW.TrodAll enc P W' b sp hd f.resultTypes.toList (v.resultList f.resultTypes.size) (s.fn H (ds++gs)).results [])
  (hargs:(s.fn H (ds++gs)).args=ds) (hvars:(s.fn H (ds++gs)).vars= []) (hb:Below W.heap.size W W')
  (hok:∀(j:Nat) (t:TypeId) (r:Value),f.resultTypes[j]? =some t→(v.resultList f.resultTypes.size)[j]? =some r→Value.okWide P W' .any 0 t r) :
  s.post enc P f apart fresh handsOn again W args v W':=by
 have hlt:∀p∈before,p.block<W.heap.size:=fun p hp=>hW.lt p hp
 have hW2:=hW
 obtain⟨p,q,hA,hV,rfl,_,_⟩:=hW2
 rw[hv0]at hV
 obtain⟨rfl,rfl⟩:=trodVars_none hV
 have hW3:=hW
 simp only[List.append_nil]at hW3 hlt
 refine z5u (pa:=p) (pv:= []) hW3 hres (fun sp hsp=> ?_) (fun sp _=> ?_) (by simp) hb hok
 ·rw[hargs]
  exact z5w hl _ _ _ _ hpar hA (fun x hx=>hb.same (hlt x hx)) hsp
 ·rw[hv0,hvars]
  rfl
end
end Go.Proofs.YtdmlghfggninbaaGreatDoor
namespace Go.Proofs.YtdmlghfggninbaaGreatDoor
open Go.RowKit
abbrev SRow:=String×List UInt8×Nat
def z5x(nm:String)(x:SRow):String×DataW Unit:=(x.1,.iface nm (.ptr (.agg [.lit (.string x.2.1)])))
def z5y(tp:TypeId)(a:Nat→Addr)(W:World)(x:SRow):Prop:=
 W.cell? ⟨x.2.2,0,none⟩=some (.iface tp (.pointer (some (a x.2.2))))∧(∃s,W.cell? (a x.2.2)=some (.string s)∧s.data.toList=x.2.1)∧(∃c t,W.heap[(a x.2.2).block]? =some (.cells c t (0,0)))
theorem z5z{P:Program}{W:World}{nm:String}{ti tp te ts:TypeId}{ms:Array (String×TypeId)}{f:Field}
  (hi:P.underlying ti=some (.interface ms)) (hrow:∀u,P.typeName? 3 u=some nm→u=tp)
  (hp:P.underlying tp=some (.pointer te)) (he:P.underlying te=some (.struct #[f])) (hft:f.type=ts) (hfo:f.offset=0) (hs:P.underlying ts=some .string) (hc:P.cellsOf te=1) (hcs:P.cellsOf ts=1) :
  ∀(L:List SRow) (ps:List MemPlace),(∀x∈L,P.globalNamed x.1=some x.2.2∧(P.globals[x.2.2]?).map (·.type)=some ti)→(L.map (·.2.2)).Nodup →
   DataW.LaidVars P W (L.map (z5x nm)) ps→ps.Nodup→(∀b off,MemPlace.cell b off∈ps→(∃c t,W.heap[b]? =some (.cells c t (0,0)))∧∀u v,W.cell? ⟨b,off,none⟩=some (.iface u v)→Value.okWide P W .any 0 u v) →
   ∃a:Nat→Addr,(∀x∈L,z5y tp a W x∧MemPlace.cell (a x.2.2).block (a x.2.2).off∈ps)∧∀x∈L,∀y∈L,x.2.2≠y.2.2→a x.2.2≠a y.2.2
 | [],_,_,_,_,_,_=>⟨fun _=>⟨0,0,none⟩,fun x h=>(by cases h),fun x h=>(by cases h)⟩
 | x::L,ps,hg,hnd,hl,hps,hrows=>by
  rw[List.map_cons]at hl
  obtain⟨g0,t0,cs0,f0,p0,q0,hg0,ht0,hv0,hd0,hr,e0⟩:=hl
  obtain⟨hgx,htx⟩:=hg x List.mem_cons_self
  obtain rfl:=Option.some.inj (hgx.symm.trans hg0)
  obtain rfl:=Option.some.inj (htx.symm.trans ht0)
  subst e0
  rw[List.map_cons,List.nodup_cons]at hnd
  obtain⟨l0⟩:=cs0
  have ok0:∀u v,l0= [.iface u v]→Value.okWide P W .any 0 u v:=fun u v e=>by
   subst e
   exact(hrows x.2.2 0 (by simp[MemPlace.row])).2 u v (by simpa using World.var?_cell hg0 hv0 0)
  obtain⟨a0,s0,rfl,hc0,hs0,_,rfl⟩:=errorString_of_trod hi hrow hp he hft hfo hs hc hcs hd0 ok0
  obtain⟨a,ha,hne⟩:=z5z hi hrow hp he hft hfo hs hc hcs L q0 (fun y hy=>hg y (List.mem_cons_of_mem _ hy)) hnd.2 hr (List.Nodup.sublist (List.sublist_append_right _ _) hps) (fun b off hm=>hrows b off (List.mem_append_right _ hm))
  have hother:∀y∈L,y.2.2≠x.2.2:=fun y hy h0=>hnd.1 (by rw[←h0];exact List.mem_map_of_mem hy)
  have hpl:MemPlace.cell a0.block a0.off∈MemPlace.row ⟨x.2.2,0,none⟩ 1++MemPlace.row a0 1:=by simp[MemPlace.row]
  have hpl2:MemPlace.cell a0.block a0.off∉q0:=fun hm=>(List.nodup_append.1 hps).2.2 _ hpl _ hm rfl
  refine⟨fun g=>if g=x.2.2 then a0 else a g,fun y hy=> ?_,fun y hy z hz hyz=> ?_⟩
  ·rcases List.mem_cons.1 hy with rfl|hy
   ·simp only[z5y,if_true]
    refine⟨⟨by simpa using World.var?_cell hg0 hv0 0,⟨s0,hc0,hs0⟩,(hrows _ _ (List.mem_append_left _ hpl)).1⟩,List.mem_append_left _ hpl⟩
   ·obtain⟨⟨h1,h2,h3⟩,h4⟩:=ha y hy
    simp only[z5y,if_neg (hother y hy)]
    exact⟨⟨h1,h2,h3⟩,List.mem_append_right _ h4⟩
  ·rcases List.mem_cons.1 hy with rfl|hy'
   ·rcases List.mem_cons.1 hz with rfl|hz'
    ·exact absurd rfl hyz
    ·simp only[if_true,if_neg (hother z hz')]
     intro h0
     exact hpl2 (by rw[h0];exact(ha z hz').2)
   ·rcases List.mem_cons.1 hz with rfl|hz'
    ·simp only[if_true,if_neg (hother y hy')]
     intro h0
     exact hpl2 (by rw[←h0];exact(ha y hy').2)
    ·simp only[if_neg (hother y hy'),if_neg (hother z hz')]
     exact hne y hy' z hz' hyz
end Go.Proofs.YtdmlghfggninbaaGreatDoor
namespace Go.Proofs.YtdmlghfggninbaaGreatDoor
open Go
variable {H:Type} {enc:TypeId×Value→H}
theorem handed_and_shaped{a:Assume}{C:Checked}{os:Os}{f:FuncId}{fn:Func}{s:ChangeSpec}{conds:List PathCond}{apart fresh handsOn again:Bool}{X:World→Array Value→Prop}
  (hX:∀(w w':World) (args:Array Value),w.heap=w'.heap→X w args→X w' args)
  (own:ownKnob C.prog.godebug=none) (started:os.Started) (noInit:C.prog.inits.idxOf? f=none) (hfn:C.prog.funcs[f]? =some fn)
  (witness:∃(w:World) (tape:Tape) (i:Input),w.os=os∧(w.forCall tape i).Shaped C.prog∧i.vars= []∧Input.okWide C.prog (w.forCall tape i) .any w.heap.size f i ∧
   ((s.pre enc C.prog fn conds apart (w.forCall tape i).memory i.args∧X (w.forCall tape i).memory i.args)∧sizedMet enc C.prog fn (OpenSpec.ofChange s) apart (w.forCall tape i).memory i.args)∧a.holds C.prog (lone (Frame.enter C.prog f i.args .normal) [] (w.forCall tape i)))
  (contract:∀(W:World) (base:Nat) (args:Array Value) (ds gs:List (DataW H)) (before:List MemPlace),
   (∀(j:Nat) t v,fn.params[j]? =some t→args[j]? =some v→Value.okWide C.prog W .any base t v) →
   DataW.Whole enc C.prog fn.params.toList s.vars apart W args.toList ds gs before →
   conds.all (PathCond.test C.prog ⟨fn.params.toList,ds,s.plain.varTypes C.prog,gs⟩)=true →
   (DataW.weightsEach C.prog (fn.params.toList++s.plain.varTypes C.prog) (ds++gs)).all (· ≤reachBytes)=true→X W args→W.ShapedOpen C.prog →
   a.holds C.prog (lone (Frame.enter C.prog f args .normal) [] W) →
   Calls C.prog f args W fun e W'=>∃v,e= .returned v∧s.post enc C.prog fn apart fresh handsOn again W args v W') :
  ReturnsInHanded a C os f .any (fun w args=>(s.pre enc C.prog fn conds apart w args∧X w args)∧sizedMet enc C.prog fn (OpenSpec.ofChange s) apart w args) (s.post enc C.prog fn apart fresh handsOn again):=by
 refine returnsInHanded_of_calls own started noInit witness ?_
 intro w tape i _ hsh _ hok hpre hholds
 obtain⟨_,_,_,fn',hfn',_,_,_,_,hval⟩:=hok
 have e:fn'=fn:=Option.some.inj (hfn'.symm.trans hfn)
 subst e
 obtain⟨⟨⟨ds,gs,before,hw,hc⟩,hx⟩,hz⟩:=hpre
 have hw':=DataW.Whole.of_heap (w':=w.forCall tape i) (by rfl) hw
 refine(contract (w.forCall tape i) w.heap.size i.args ds gs before hval hw' hc (hz.weights hw) (hX _ _ _ (by rfl) hx) hsh hholds).mono fun e W' ⟨v,he,hp⟩=> ?_
 subst he
 exact ChangeSpec.post_blind hp
end Go.Proofs.YtdmlghfggninbaaGreatDoor
