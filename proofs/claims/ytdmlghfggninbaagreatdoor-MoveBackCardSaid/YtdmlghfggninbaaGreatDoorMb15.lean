/- PlainY, MvA, MvF, PlainZ in one text. Conditions: as each part says. -/
import Derived.Test.YtdmlghfggninbaaGreatDoorMb11
import Derived.Test.YtdmlghfggninbaaGreatDoorMb13
import Derived.Test.YtdmlghfggninbaaGreatDoorMb20
import Derived.Test.YtdmlghfggninbaaGreatDoorMb9
import Derived.Test.YtdmlghfggninbaaGreatDoorMb10
import Derived.Test.YtdmlghfggninbaaGreatDoorMb17
set_option linter.unusedVariables false
set_option linter.unusedSimpArgs false
set_option maxHeartbeats 4000000
set_option maxRecDepth 100000
namespace Go.Proofs.YtdmlghfggninbaaGreatDoor
open Go.RowKit Go.Lib Go.Maps
def filesX(P:PNode)(x:Idn):List Rcp:=(P.files.filter fun q=>decide (repR q.2=x)).map (·.2)
def subN(P:PNode)(x:Idn)(L:HldL):PNode:=⟨P.files.filter fun q=>decide (repR q.2=x),[(x,L)]⟩
theorem j9q(P:PNode)(x:Idn):(ofN P x).length=(filesX P x).length:=by unfold ofN filesX;rw[List.length_map,List.length_map]
theorem j9r{P:PNode}(h:NodeOk P)(x:Idn):(ofN P x).map (j5u P)=(filesX P x).map fun r=>X4 r++ [10]:=by
 unfold ofN filesX
 rw[List.map_map,List.map_map]
 refine List.map_congr_left fun q hq=> ?_
 have hg:=Z5 U3 h.fsrt (List.mem_filter.1 hq).1
 show X4 (recN q.1 P).2++ [10]=X4 q.2++ [10]
 unfold recN
 rw[hg]
theorem NodeOk.fileK{P:PNode}(h:NodeOk P){q:Bytes×Rcp}(hq:q∈P.files):RcpK q.2∧q.2.name=q.1:=by
 obtain⟨s,hn,hs,e,_⟩:=h.file q.1 q.2 (Z5 U3 h.fsrt hq)
 refine⟨⟨by rw[e,z1g hn hs],by rw[e];exact q1u _,fun x hx=> ?_⟩,by rw[e];rfl⟩
 rw[e]at hx
 obtain⟨p,_,rfl⟩:=List.mem_map.1 (show x∈V8 s from hx)
 exact q1u _
theorem NodeOk.filesX{P:PNode}(h:NodeOk P)(x:Idn):∀r∈filesX P x,RcpK r:=fun r hr=>by
 obtain⟨q,hq,rfl⟩:=List.mem_map.1 hr
 exact(h.fileK (List.mem_filter.1 hq).1).1
theorem j9s{s:Bytes}(h:J7 s=true):(10:UInt8)∉s:=fun hm=>by
 unfold J7 at h
 rw[Bool.and_eq_true]at h
 exact absurd (List.all_eq_true.1 h.2 10 hm) (by decide)
theorem j9t(p:Nat):(10:UInt8)∉hex8 p:=fun h=>by
 unfold hex8 hexL at h
 obtain⟨j,_,hj⟩:=List.mem_map.1 h
 exact z4r _ (Nat.mod_lt _ (by decide)) hj
theorem j9u:∀ {L:IdL},(∀x∈L,0≤x.2)→(10:UInt8)∉z0x L
 | [],_=>by unfold z0x;simp
 | y::r,h=>by
  unfold z0x
  obtain⟨k,hk⟩:∃k:Nat,y.2=(k:Int):=⟨y.2.toNat,by have:=h y List.mem_cons_self;omega⟩
  rw[hk]
  intro hm
  rcases List.mem_cons.1 hm with e|hm
  ·exact absurd e (by decide)
  ·rcases List.mem_append.1 hm with hm|hm
   ·exact z4s _ _ hm
   ·exact j9u (fun x hx=>h x (List.mem_cons_of_mem _ hx)) hm
theorem j9v{r:Rcp}(h:RcpK r):(10:UInt8)∉X4 r:=by
 obtain⟨h1,h2,_,_,_⟩:=R0 h.ok
 obtain⟨k,hk⟩:∃k:Nat,r.len=(k:Int):=⟨r.len.toNat,by omega⟩
 unfold X4
 rw[hk,G8]
 intro hm
 rcases List.mem_append.1 hm with hm|hm
 ·exact j9s h1 hm
 ·rcases List.mem_cons.1 hm with e|hm
  ·exact absurd e (by decide)
  ·rcases List.mem_append.1 hm with hm|hm
   ·exact z4q k 10 (by decide) hm
   ·rcases List.mem_cons.1 hm with e|hm
    ·exact absurd e (by decide)
    ·rcases List.mem_append.1 hm with hm|hm
     ·exact j9t _ hm
     ·exact j9u (fun x hx=>(h.id0 x hx).2) hm
theorem j9w{r:Rcp}(h:RcpK r):Y6 (X4 r)= .ok r:=z1z h.ok h.p h.i
theorem j9x:∀ {rs:List Rcp},(∀r∈rs,RcpK r)→U9 ((rs.map fun r=>X4 r++ [10]).flatten)=some rs
 | [],_=>j5v
 | r::t,h=>by
  have hr:=h r List.mem_cons_self
  rw[List.map_cons,List.flatten_cons,List.append_assoc]
  have hc:J1 10 (X4 r++([10]++(t.map fun r=>X4 r++ [10]).flatten))=some (X4 r,(t.map fun r=>X4 r++ [10]).flatten):=q2k _ _ _ (j9v hr)
  rw[j5y (by simp) hc (j9w hr),j9x (fun r hr=>h r (List.mem_cons_of_mem _ hr))];rfl
def j9y(k n:Nat):Bytes:=j5s++32::(itoa (k:Int)++32::itoa (n:Int))
theorem j9z(k n:Nat):j5t k n=j9y k n++ [10]:=by unfold j5t j9y;simp
theorem k0a(k n:Nat):(10:UInt8)∉j9y k n:=by
 unfold j9y
 rw[G8,G8]
 intro hm
 rcases List.mem_append.1 hm with hm|hm
 ·exact absurd hm (by decide)
 ·rcases List.mem_cons.1 hm with e|hm
  ·exact absurd e (by decide)
  ·rcases List.mem_append.1 hm with hm|hm
   ·exact z4q k 10 (by decide) hm
   ·rcases List.mem_cons.1 hm with e|hm
    ·exact absurd e (by decide)
    ·exact z4q n 10 (by decide) hm
theorem k0b(k n:Nat):K5 32 (j9y k n)= [j5s,decDigits k,decDigits n]:=by
 unfold j9y K5
 rw[G8,G8,q9s 32 j5s _ [] (by decide),q9s 32 (decDigits k) _ [] (z1m k),q9r 32 (decDigits n) [] (z1m n)];rfl
theorem num6{k:Nat}(h:k<1000000):V1 (decDigits k) 6=some k:=q9d k 6 (by omega) (by rw[decDigits_length];exact D7 k 5 (by omega))
theorem k0c{P:PNode}(h:NodeOk P)(x:Idn)(L:HldL):V0 P x L=j9y (filesX P x).length (Y9 L).length++10::(((filesX P x).map fun r=>X4 r++ [10]).flatten++Y9 L):=by
 unfold V0
 rw[j9z,j9r h,j9q,List.append_assoc];rfl
theorem NodeOk.binL{P:PNode}(h:NodeOk P){x:Idn}{L:HldL}(hg:Q1 P.bins x=some L):BinOk 7500 L∧L.length≤250:=⟨h.bin7 hg,(h.bin _ _ hg).2.2.1⟩
theorem k0d{P:PNode}(h:NodeOk P){x:Idn}{L:HldL}(hg:Q1 P.bins x=some L)(hl:(V0 P x L).length+8≤40000):R4 (V0 P x L++hex8 (prOf (V0 P x L)))= .ok (filesX P x,L):=by
 obtain⟨hb,hb2⟩:=h.binL hg
 have h8:(hex8 (prOf (V0 P x L))).length=8:=X8 _ _
 have hfl:(filesX P x).length≤30:=by
  unfold filesX
  rw[List.length_map]
  exact Nat.le_trans (List.length_filter_le _ _) h.flen
 have htl:(Y9 L).length≤(V0 P x L).length:=by rw[k0c h];simp only[List.length_append,List.length_cons];omega
 have hlen:(V0 P x L++hex8 (prOf (V0 P x L))).length-8=(V0 P x L).length:=by rw[List.length_append,h8];omega
 unfold R4
 rw[if_neg (by rw[List.length_append,h8];omega),if_neg (by rw[List.length_append,h8];omega),hlen,List.take_left',List.drop_left',q3x _ (q1u _)]
 ·have hc:J1 10 (V0 P x L)=some (j9y (filesX P x).length (Y9 L).length,((filesX P x).map fun r=>X4 r++ [10]).flatten++Y9 L):=by
   rw[k0c h]
   exact q2k _ _ _ (k0a _ _)
  rw[hc]
  simp only[k0b,if_true]
  simp only[num6 (show(filesX P x).length<1000000 by omega),num6 (show(Y9 L).length<1000000 by omega)]
  have hd:((((filesX P x).map fun r=>X4 r++ [10]).flatten++Y9 L).length-(Y9 L).length)=(((filesX P x).map fun r=>X4 r++ [10]).flatten).length:=by rw[List.length_append];omega
  rw[if_neg (by rw[List.length_append];omega),hd,List.take_left',List.drop_left']
  ·rw[j9x (h.filesX x)]
   simp only
   rw[z4y (hb.mono (by decide)) (by omega)]
   simp
  ·rfl
  ·rfl
 ·rfl
 ·rfl
theorem k0e{K V:Type}[DecidableEq K]{lit:K→Lit}{lt:K→K→Bool}{ok okw:K→Prop}(E:KeyEmb lit lt ok okw){L:List (K×V)}(hs:K1 lt L)(p:K×V→Bool){k:K}{v:V}(h:Q1 (L.filter p) k=some v):Q1 L k=some v∧p (k,v)=true:=by
 have hm:=Y4 h
 obtain⟨h1,h2⟩:=List.mem_filter.1 hm
 exact⟨Z5 E hs h1,h2⟩
theorem k0f{K V:Type}[DecidableEq K]{lit:K→Lit}{lt:K→K→Bool}{ok okw:K→Prop}(E:KeyEmb lit lt ok okw){L:List (K×V)}(hs:K1 lt L)(p:K×V→Bool){k:K}{v:V}(h:Q1 L k=some v)(hp:p (k,v)=true):Q1 (L.filter p) k=some v:=
 Z5 E (hs.filter p) (q:=(k,v)) (List.mem_filter.2 ⟨Y4 h,hp⟩)
theorem k0g(F:List (Bytes×Rcp))(x y:Idn):useN (F.filter fun q=>decide (repR q.2=x)) x y=useN F x y:=by
 unfold useN
 induction F with
 | nil=>rfl
 | cons q r ih=>
  rw[List.filter_cons]
  by_cases h:repR q.2=x
  ·rw[if_pos (by simp[h]),List.map_cons,List.sum_cons,List.map_cons,List.sum_cons,ih]
  ·rw[if_neg (by simp[h]),List.map_cons,List.sum_cons,ih,if_neg h];omega
theorem NodeOk.sub{P:PNode}(h:NodeOk P){x:Idn}{L:HldL}(hg:Q1 P.bins x=some L):NodeOk (subN P x L):=by
 have hone:∀y L',Q1 [(x,L)] y=some L'→y=x∧L'=L:=fun y L' e=>by
  rw[J3]at e
  by_cases hy:x=y
  ·rw[if_pos hy]at e
   injection e with e
   exact⟨hy.symm,e.symm⟩
  ·rw[if_neg hy]at e;cases e
 refine⟨h.fsrt.filter _,List.pairwise_singleton _ _,Nat.le_trans (List.length_filter_le _ _) h.flen,fun k r hk=> ?_,fun y L' hy=> ?_⟩
 ·obtain⟨h1,h2⟩:=k0e U3 h.fsrt _ hk
  have hx:repR r=x:=by simpa using h2
  obtain⟨s,a1,a2,a3,L',a4,a5⟩:=h.file k r h1
  refine⟨s,a1,a2,a3,L',?_,a5⟩
  rw[hx,hg]at a4
  injection a4 with a4
  show Q1 [(x,L)] (repR r)=some L'
  rw[hx,J3,if_pos rfl,a4]
 ·obtain⟨rfl,rfl⟩:=hone y L' hy
  obtain⟨b1,b2,b3,b4,k,r,b5,b6⟩:=h.bin _ _ hg
  refine⟨b1,b2,b3,fun z=>by rw[b4 z];exact(k0g P.files _ z).symm,k,r,k0f U3 h.fsrt _ b5 (by simp[b6]),b6⟩
theorem k0h(P:PNode)(x:Idn)(L:HldL):U5 (subN P x L)=filesX P x:=rfl
theorem k0i{P:PNode}(h:NodeOk P){x:Idn}{L:HldL}(hg:Q1 P.bins x=some L):(G7 (filesX P x) [⟨x,L⟩]).1=0:=by
 have:=(h.sub hg).check
 have e:G7 (filesX P x) [⟨x,L⟩]=G7 (U5 (subN P x L)) (R2 (subN P x L)):=rfl
 rw[e,this]
theorem k0j{L:HldL}{n:Int}(h:BinOk n L)(hl:L.length≤250):(q0f L).1=0:=by
 have hat:∀i (hi:i<L.length),z4m L i L[i]=0:=fun i hi=>by
  have hk:=h.all L[i] (List.getElem_mem hi)
  unfold z4m
  rw[if_pos (by unfold z4l;rw[Bool.and_eq_true,decide_eq_true_iff];exact⟨M4.2 hk.len,hk.uses.1⟩)]
  unfold D3
  by_cases h0:i=0
  ·subst h0
   rw[if_pos rfl]
   exact z4b hk.id.symm
  ·rw[if_neg h0,List.getElem?_eq_getElem (by omega:i-1<L.length)]
   exact z4a hk.id.symm ((List.pairwise_iff_getElem.1 h.srt) (i-1) i (by omega) hi (by omega))
 have key:∀k,k≤L.length→FillSt L k:=by
  intro k
  induction k with
  | zero=>exact fun _=>FillSt.start L
  | succ k ih=>exact fun hk=>(ih (by omega)).next (by omega) (hat k (by omega))
 unfold q0f
 rw[if_neg (by omega),(key L.length (zl _)).done]
theorem k0k{fs:List Rcp}(hs:fs.Pairwise fun a b=>bytesBefore a.name b.name=true):j6o fs []=fs.map fun r=>(r.name,r):=by
 have e:j6o fs []=z8i bytesBefore (fs.map fun r=>(r.name,r)):=by
  unfold j6o z8i
  rw[List.foldl_map]
 rw[e]
 refine z8m U3 ?_ (List.Perm.refl _)
 unfold K1
 rw[List.pairwise_map]
 exact hs
theorem k0l{P:PNode}(h:NodeOk P)(x:Idn):((filesX P x).map fun r=>(r.name,r))=P.files.filter fun q=>decide (repR q.2=x):=by
 unfold Go.Proofs.YtdmlghfggninbaaGreatDoor.filesX
 rw[List.map_map]
 conv=>rhs;rw[←List.map_id (P.files.filter fun q=>decide (repR q.2=x))]
 refine List.map_congr_left fun q hq=> ?_
 show(q.2.name,q.2)=q
 rw[(h.fileK (List.mem_filter.1 hq).1).2]
theorem k0m{P:PNode}(h:NodeOk P){x:Idn}{L:HldL}(hg:Q1 P.bins x=some L):j6b (filesX P x) x L ⟨[],[]⟩=subN P x L:=by
 have hs:=(h.sub hg).fsS
 rw[k0h]at hs
 show(⟨j6o (filesX P x) [],[(x,L)]⟩:PNode)=_
 rw[k0k hs,k0l h];rfl
theorem k0n(P:PNode)(x:Idn)(L:HldL):ofN (subN P x L) x=ofN P x:=by
 unfold ofN subN
 rw[List.filter_filter]
 simp
theorem k0o{P:PNode}(h:NodeOk P){x:Idn}{L:HldL}(hg:Q1 P.bins x=some L):inFL (filesX P x) L ⟨[],[]⟩=(subN P x L,ofN P x,0)∧filesX P x≠ []:=by
 obtain⟨_,_,_,_,k,r,h5,h6⟩:=h.bin x L hg
 have hm:r∈filesX P x:=List.mem_map_of_mem (f:=fun q:Bytes×Rcp=>q.2) (List.mem_filter.2 ⟨Y4 h5,by simp[h6]⟩)
 have hrep:∀r∈filesX P x,repR r=x:=fun r hr=>by
  obtain⟨q,hq,rfl⟩:=List.mem_map.1 hr
  simpa using(List.mem_filter.1 hq).2
 have hne:filesX P x≠ []:=List.ne_nil_of_mem hm
 have hfl:(filesX P x).length≤30:=by
  unfold Go.Proofs.YtdmlghfggninbaaGreatDoor.filesX
  rw[List.length_map]
  exact Nat.le_trans (List.length_filter_le _ _) h.flen
 have hck:=k0i h hg
 have hts:=k0m h hg
 have hos:=k0n P x L
 obtain⟨hb,hb2⟩:=h.binL hg
 have hfi:=k0j hb hb2
 refine⟨?_,hne⟩
 generalize filesX P x=fs at *
 cases fs with
 | nil=>exact absurd rfl hne
 | cons r0 t=>
  have hx:repR r0=x:=hrep r0 List.mem_cons_self
  unfold inFL
  simp only
  rw[hx]
  rw[if_neg (by rw[Bool.not_eq_true,List.any_eq_false];exact fun r hr=>by simp[hrep r (List.mem_cons_of_mem _ hr)]),if_neg (by simp[hck]),if_neg (by rw[Bool.not_eq_true,Bool.or_eq_false_iff];exact⟨rfl,List.any_eq_false.2 fun r _=>by simp[Q1]⟩),
   if_neg (by show ¬ 30<0+(r0::t).length;omega),if_neg (by simp[hfi]),hts,hos]
theorem k0p(n fm bm:Nat)(F:FL)(B:BL)(hP:NodeW (Q0 F B))(x:Idn)(w:World)(h:ONode n fm bm F B w) :
  Calls Tryz.prog 49 #[.pointer (some ⟨n,0,none⟩),idV x] w fun e w'=>∃v,e= .returned v∧w'.ownsRow w.heap.size 9 1 v (ofN (Q0 F B) x).length ((ofN (Q0 F B) x).map VT)∧Below w.heap.size w w':=by
 have hb1:Below w.heap.size w (w.alloc (.cells #[.int .u32 (x.1:Int),.int .i64 x.2] 25)):=(zb _ w).alloc (zl _) _
 have HB1:=zh hb1
 have BX1:=zh (Box2.mk' w (.int .u32 (x.1:Int)) (.int .i64 x.2) 25)
 have HC:=zh (fun w' (hb:Below w.heap.size w w')=>j5r n fm bm F B (z4z.1 hP.fsrt) (ONode.keysFW hP) (by simpa[Q0,W5]using hP.flen) (fun q hq=>(hP.fk (q.1,q.2.r) (List.mem_map_of_mem (f:=fun p:Bytes×FE=>(p.1,p.2.r)) hq)).2) x w' (h.keepH hb.size fun k hk _=>hb.block k hk))
 clear h hP hb1
 obtain⟨x0,x1,_,_⟩:=BX1.out
 go_enter Tryz.func49,Tryz.ntmps49
 go_wp2_with fail
 refine(HC.out _ HB1.out).mono ?_
 rintro e w2 ⟨v,rfl,ho,hb⟩
 have HO:=zh (M2 ho HB1.out.size)
 have HB2:=zh (HB1.out.trans (hb.mono HB1.out.size))
 clear ho hb
 go_wp2
 go_ret
 exact⟨v,rfl,HO.out,HB2.out⟩
theorem Node.ofC{n:Nat}{P:PNode}{f:Foot}(hP:NodeOk P)(x:Idn)(w:World)(h:Node n P f w) :
  Calls Tryz.prog 49 #[.pointer (some ⟨n,0,none⟩),idV x] w fun e w'=>∃v,e= .returned v∧w'.ownsRow w.heap.size 9 1 v (ofN P x).length ((ofN P x).map VT)∧Below w.heap.size w w':=by
 obtain⟨fm,bm,F,B,ho,rfl,rfl⟩:=h.at
 exact k0p n fm bm F B hP.w x w ho
def accO(P:PNode)(x:Idn)(L:HldL)(k:Nat):Bytes:=j5t (ofN P x).length (Y9 L).length++(((ofN P x).take k).map (j5u P)).flatten
theorem k0q(P:PNode)(x:Idn)(L:HldL):accO P x L 0=j5t (ofN P x).length (Y9 L).length:=by unfold accO;simp
theorem k0r(P:PNode)(x:Idn)(L:HldL)(k:Nat)(hk:k<(ofN P x).length):accO P x L (k+1)=accO P x L k++j5u P (ofN P x)[k]:=by
 unfold accO
 rw[List.take_succ_eq_append_getElem hk,List.map_append,List.flatten_append];simp
theorem k0s(P:PNode)(x:Idn)(L:HldL):accO P x L (ofN P x).length++Y9 L=V0 P x L:=by
 unfold accO V0
 rw[List.take_length,List.append_assoc]
theorem k0t{P:PNode}(h:NodeOk P){x:Idn}{nm:Bytes}(hm:nm∈ofN P x):∃r,recN nm P=(0,r)∧RcpK r∧X6 nm∧j5u P nm=X4 r++ [10]:=by
 obtain⟨r,hr,_⟩:=j6y h.fsrt hm
 have hk:=(h.fileK (Y4 hr)).1
 have hn:=j7b h hm
 have e:recN nm P=(0,r):=by unfold recN;rw[hr]
 exact⟨r,e,hk,by unfold X6 maxLen;omega,by unfold j5u;rw[e]⟩
theorem k0u:(⟨#[108,111,97,100,32]⟩:ByteArray).size=5:=rfl
theorem k0v{P:PNode}(h:NodeOk P)(x:Idn):(ofN P x).length≤30:=by
 unfold ofN
 rw[List.length_map]
 exact Nat.le_trans (List.length_filter_le _ _) h.flen
def k0w(a:Nat→Addr)(q:Bytes×Int)(w:World)(e:Ending)(w':World):Prop:=∃r,e= .returned (.tuple #[VT q.1,r])∧ES a r q.2∧Below w.heap.size w w'
theorem k0x(a:Nat→Addr){n:Nat}{P:PNode}{f:Foot}(hP:NodeOk P)(x:Idn)(hx:IdOk x)(hg:Q1 P.bins x=none)(w:World)(h:Node n P f w)(hs:SomeS [4] a w) :
  Calls Tryz.prog 18 #[.pointer (some ⟨n,0,none⟩),idV x] w (k0w a (outN P x) w):=by
 have hb1:Below w.heap.size w (w.alloc (.cells #[.int .u32 (x.1:Int),.int .i64 x.2] 25)):=(zb _ w).alloc (zl _) _
 have HE:Hid (outN P x=([],5)):=zh (by unfold outN;rw[hg])
 have HBN:=zh (Node.binC hP x hx _ (h.below hb1))
 unfold j3b at HBN
 rw[hg]at HBN
 have HS:=zh hs
 have HB1:=zh hb1
 have BX1:=zh (Box2.mk' w (.int .u32 (x.1:Int)) (.int .i64 x.2) 25)
 obtain⟨x0,x1,_,_⟩:=BX1.out
 rw[HE.out]
 clear h hP hx hg hs hb1
 go_enter Tryz.func18,Tryz.ntmps18
 go_wp2_with fail
 refine HBN.out.mono ?_
 rintro e w2 ⟨rfl,hb2⟩
 have HB2:=zh (HB1.out.trans (hb2.mono HB1.out.size))
 have s4:w2.cell? ⟨0,0,none⟩=some (sval a 4):=(HS.out.below HB2.out) 4 (by simp)
 unfold sval at s4
 clear hb2 x0 x1
 go_wp2
 go_region
 go_wp2
 go_ret2
 exact⟨_,rfl,ES.sent a 4 (by decide),HB2.out.drew⟩
theorem k0y(a:Nat→Addr){n:Nat}{P:PNode}{f:Foot}(hP:NodeOk P)(x:Idn)(hx:IdOk x){L:HldL}(hg:Q1 P.bins x=some L)(w:World)(h:Node n P f w)(hs:SomeS [1,2,3,4,6,8] a w)(ht:Tabs w) :
  Calls Tryz.prog 18 #[.pointer (some ⟨n,0,none⟩),idV x] w (k0w a (outN P x) w):=by
 have hb1:Below w.heap.size w (w.alloc (.cells #[.int .u32 (x.1:Int),.int .i64 x.2] 25)):=(zb _ w).alloc (zl _) _
 have HE:Hid (outN P x=(V0 P x L++hex8 (prOf (V0 P x L)),0)):=zh (by unfold outN;rw[hg])
 obtain⟨hbo,hbl⟩:=hP.binL hg
 have HBN:=zh (Node.binC hP x hx _ (h.below hb1))
 unfold j3b at HBN
 rw[hg]at HBN
 have HP:=zh hP
 have HN:=zh h
 have HS:=zh hs
 have HT:=zh ht
 have HBO:=zh hbo
 have hn30:=k0v hP x
 have HTL:Hid ((Y9 L).length≤25000):=zh (by
  have:=z4x (l:=L) (fun y hy=>(hbo.all y hy).mono (by decide))
  omega)
 have HB1:=zh hb1
 have BX1:=zh (Box2.mk' w (.int .u32 (x.1:Int)) (.int .i64 x.2) 25)
 have BXB:Hid (∀w',Below (w.alloc (.cells #[.int .u32 (x.1:Int),.int .i64 x.2] 25)).heap.size (w.alloc (.cells #[.int .u32 (x.1:Int),.int .i64 x.2] 25)) w'→w'.cell? ⟨w.heap.size,0,none⟩=some (.int .u32 (x.1:Int))∧w'.cell? ⟨w.heap.size,1,none⟩=some (.int .i64 x.2)):=zh (fun w' hb=>by
  obtain⟨y0,y1,_,_⟩:=BX1.out.below hb BX1.out.lt
  exact⟨y0,y1⟩)
 obtain⟨x0,x1,_,_⟩:=BX1.out
 rw[HE.out]
 clear h hP hx hg hs hb1 ht hbo BX1
 go_enter Tryz.func18,Tryz.ntmps18
 go_wp2_with fail
 generalize w.alloc (.cells #[.int .u32 (x.1:Int),.int .i64 x.2] 25)=w1 at *
 refine HBN.out.mono ?_
 rintro e w2 ⟨b2,mb2,rfl,hob,_,_,hb2⟩
 have HB2:=zh (HB1.out.trans (hb2.mono HB1.out.size))
 have HOB:=zh hob
 have H12:=zh hb2
 obtain⟨y0,y1⟩:=BXB.out w2 hb2
 have HOF:=zh (Node.ofC HP.out x w2 (HN.out.below HB2.out))
 clear hb2 hob x0 x1 HBN
 go_wp2_with fail
 refine HOF.out.mono ?_
 rintro e w3 ⟨vn,rfl,hon,hb3⟩
 obtain⟨NA,nc,hvn,hnc,hnx⟩:=V7 hon
 subst hvn
 have HNX:=zh hnx
 have HB3:=zh (HB2.out.trans (hb3.mono HB2.out.size))
 have HAL:=zh (k2q b2 mb2 L 7500 HBO.out (by omega) w3 (HOB.out.below hb3))
 clear hon hb3 hnx y0 y1 HOF
 go_wp2_with fail
 refine HAL.out.mono ?_
 rintro e w4 ⟨v4,rfl,hown4,hb4⟩
 have HB34:=zh hb4
 have HB4:=zh (HB3.out.trans (hb4.mono HB3.out.size))
 have HTX:=zh (j0p v4 L (fun y hy=>by
  have hk:=HBO.out.all y hy
  have h1:=hk.uses
  have h2:=hk.len
  exact⟨⟨hk.idok,by omega,by omega⟩,by omega⟩) (by omega) w4.heap.size w4 (RdL.own hown4) (zl _) (HT.out.below HB4.out))
 clear hown4 hb4 HAL
 go_wp2_with fail
 refine HTX.out.mono ?_
 rintro e w5 ⟨rfl,hb5⟩
 have HB35:=zh (HB34.out.trans (hb5.mono HB34.out.size))
 have HB5:=zh (HB4.out.trans (hb5.mono HB4.out.size))
 have HIT:=zh (q6y ((ofN P x).length:Int) (by omega) (by omega) w5 (HT.out.below HB5.out))
 have htz:(bs (Y9 L)).size=(Y9 L).length:=Q8 _
 have hs1:(bs (itoa ((ofN P x).length:Int))).size≤21:=by rw[Q8];exact itoa_length_le _ (by omega) (by omega)
 have hs2:(bs (itoa ((Y9 L).length:Int))).size≤21:=by rw[Q8];exact itoa_length_le _ (by omega) (by have:=HTL.out;omega)
 have htz2:(bs (Y9 L)).size≤25000:=by rw[htz];exact HTL.out
 have HTZ:=zh htz
 have HHD:Hid (⟨#[108,111,97,100,32]⟩++bs (itoa ((ofN P x).length:Int))++⟨#[32]⟩++bs (itoa ((Y9 L).length:Int))++⟨#[10]⟩=bs (accO P x L 0)):=zh (by
  rw[k0q]
  unfold j5t j5s
  rw[show([108,111,97,100]:Bytes)++32::(itoa ((ofN P x).length:Int)++32::(itoa ((Y9 L).length:Int)++ [10]))=(((([108,111,97,100,32]++itoa ((ofN P x).length:Int))++ [32])++itoa ((Y9 L).length:Int))++ [10]) by simp,←q6z,←q6z,←q6z,←q6z]
  rfl)
 have HIT2:=zh (fun w' (hb:Tabs w')=>q6y ((Y9 L).length:Int) (by omega) (by have:=HTL.out;omega) w' hb)
 clear hb5 htz HTX
 go_wp2_with fail
 refine HIT.out.mono ?_
 rintro e w6 ⟨rfl,hb6⟩
 have HB36:=zh (HB35.out.trans (hb6.mono HB35.out.size))
 have HB6:=zh (HB5.out.trans (hb6.mono HB5.out.size))
 clear hb6 HIT
 generalize bs (itoa ((ofN P x).length:Int))=T1 at *
 go_wp2_with fail
 rw[HTZ.out]
 refine(HIT2.out w6 (HT.out.below HB6.out)).mono ?_
 rintro e w7 ⟨rfl,hb7⟩
 have HB37:=zh (HB36.out.trans (hb7.mono HB36.out.size))
 have HB7:=zh (HB6.out.trans (hb7.mono HB6.out.size))
 clear hb7 HIT2
 generalize bs (itoa ((Y9 L).length:Int))=T2 at *
 go_wp2
 rw[HHD.out]
 have hz0:(bs (accO P x L 0)).size≤100:=by
  rw[←HHD.out]
  simp only[ByteArray.size_append,k0u,sz10,sz32]
  omega
 clear hs1 hs2 HHD
 go_loopg [9,42] (ofN P x).length (fun gh v9 v42 wr=>∃(k:Nat) (o:ByteArray),v9= .string o∧v42= .int .i64 k∧k≤(ofN P x).length∧gh=(ofN P x).length-k∧Hid (o=bs (accO P x L k))∧o.size≤100+5000*k∧Hid (Below w3.heap.size w3 wr))
 case atStart=>exact⟨0,_,rfl,rfl,Nat.zero_le _,rfl,zh rfl,by omega,HB37⟩
 case round=>
  obtain⟨k,o,rfl,rfl,hk,hgm,HO,hoz,HBr⟩:=hrel
  have HBw:=zh (HB3.out.trans (HBr.out.mono HB3.out.size))
  by_cases hkl:k<(ofN P x).length
  ·obtain⟨g,rfl,_,hg,hcell⟩:=HNX.out (by omega)
   have e0:=(HBr.out.cell (p:=⟨g,k,none⟩) hg).trans (hcell k (VT (ofN P x)[k]) (by rw[List.getElem?_map,List.getElem?_eq_getElem hkl];rfl))
   obtain⟨r,hrec,hrk,hso,hln⟩:=k0t HP.out (List.getElem_mem hkl)
   have HNXT:Hid (accO P x L (k+1)=accO P x L k++(X4 r++ [10])):=zh (by rw[k0r P x L k hkl,hln])
   have HRC:=zh (Node.recipeC a HP.out (ofN P x)[k] hso wr (HN.out.below HBw.out) ((HS.out.below HBw.out).sub (js:= [4]) (by decide)))
   rw[hrec]at HRC
   have HRK:=zh hrk
   have b1:(0:Int)≤(k:Int):=by omega
   have b2:(k:Int)<((ofN P x).length:Int):=by omega
   generalize(ofN P x)[k]=nm at *
   clear hcell hrec hrk hso hln
   go_wp2_with fail
   refine HRC.out.mono ?_
   rintro e w8 ⟨v8,r8,rfl,hev,⟨sl8,rfl,hr8⟩,hb8⟩
   obtain⟨rfl,_⟩:=hev.nil rfl
   obtain⟨A8,c8,hsl8⟩:∃A c,sl8= .slice A r.ids.length c:=by obtain⟨A,c,h,_⟩:=hr8;exact⟨A,c,h⟩
   subst hsl8
   have hba:Below w8.heap.size w8 (w8.alloc (.cells #[VT r.name,.int .i64 r.len,.int .u32 (r.print:Int),.slice A8 r.ids.length c8] 40)):=(zb _ _).alloc (zl _) _
   have HB8:=zh (HBw.out.trans ((hb8.trans (hba.mono hb8.size)).mono HBw.out.size))
   have HR8:=zh (HBr.out.trans ((hb8.trans (hba.mono hb8.size)).mono HBr.out.size))
   obtain⟨z0,z1,z2,z3,_⟩:=Box4.mk' w8 (VT r.name) (.int .i64 r.len) (.int .u32 (r.print:Int)) (.slice A8 r.ids.length c8) 40
   have hrc:=j4x a _ r HRK.out.rcpB (w8.alloc (.cells #[VT r.name,.int .i64 r.len,.int .u32 (r.print:Int),.slice A8 r.ids.length c8] 40)) ⟨_,rfl,(hr8.rd.keep hba (zl _)).more hba.size⟩ ((HS.out.below HB8.out).sub (js:= [1,2,3,6,8]) (by decide)) (HT.out.below HB8.out)
   have hrf:=HRK.out.ok
   rw[show VT (j4u r)= .string (bs (X4 r)) by unfold j4u;rw[if_pos hrf]]at hrc
   have HRT:=zh hrc
   have HRF:=zh hrf
   clear hev hr8 hb8 hba hrc hrf HRC e0
   go_wp2_with fail
   refine HRT.out.mono ?_
   rintro e w9 ⟨x9,rfl,hev9,hb9⟩
   obtain⟨rfl,_⟩:=hev9.nil HRF.out
   have HR9:=zh (HR8.out.trans (hb9.mono HR8.out.size))
   have hz9:(bs (X4 r)).size≤4000:=by rw[Q8];exact z1y HRF.out
   have HO':Hid (o++(bs (X4 r)++⟨#[10]⟩)=bs (accO P x L (k+1))):=zh (by rw[HO.out,HNXT.out,←q6z,←q6z];rfl)
   clear hev9 hb9 HRT z0 z1 z2 z3
   generalize bs (X4 r)=T3 at *
   go_wp2
   go_roundg ((ofN P x).length-(k+1))
   case measure=>omega
   case rel=>exact⟨k+1,_,rfl,by go_num,hkl,rfl,HO',by simp only[ByteArray.size_append,sz10];omega,HR9⟩
  ·obtain rfl:k=(ofN P x).length:=by omega
   have hzz:o.size≤200000:=by omega
   have HBD:Hid (o++bs (Y9 L)=bs (V0 P x L)):=zh (by rw[HO.out,q6z,k0s])
   have hbz:(bs (V0 P x L)).size≤300000:=by rw[←HBD.out,ByteArray.size_append];omega
   clear HO hk hgm
   go_wp2_with fail
   rw[HBD.out]
   refine(q2b (bs (V0 P x L)) wr (by unfold maxLen;omega)).mono ?_
   rintro e w8 ⟨rfl,rfl⟩
   have HHX:=zh (q7c (prOf (bs (V0 P x L)).data.toList) (q1u _) wr (HT.out.below HBw.out))
   rw[Q3]at HHX ⊢
   have hxz:(bs (hex8 (prOf (V0 P x L)))).size≤8:=by rw[Q8];exact Nat.le_of_eq (X8 _ _)
   have HFIN:Hid (bs (V0 P x L)++bs (hex8 (prOf (V0 P x L)))=bs (V0 P x L++hex8 (prOf (V0 P x L)))):=zh (q6z _ _)
   clear HBD
   go_wp2_with fail
   refine HHX.out.mono ?_
   rintro e w9 ⟨rfl,hb9⟩
   have HB9:=zh (HBw.out.trans (hb9.mono HBw.out.size))
   clear hb9 HHX
   go_wp2
   go_ret2
   exact⟨_,by rw[HFIN.out];rfl,ES.none a,HB9.out⟩
theorem k0z(a:Nat→Addr){n:Nat}{P:PNode}{f:Foot}(hP:NodeOk P)(x:Idn)(hx:IdOk x)(w:World)(h:Node n P f w)(hs:SomeS [1,2,3,4,6,8] a w)(ht:Tabs w) :
  Calls Tryz.prog 18 #[.pointer (some ⟨n,0,none⟩),idV x] w (k0w a (outN P x) w):=by
 cases hg:Q1 P.bins x with
 | none=>exact k0x a hP x hx hg w h (hs.sub (by decide))
 | some L=>exact k0y a hP x hx hg w h hs ht
def NamesPost(a:Nat→Addr)(n:Nat)(f:Foot)(q:PNode×List Bytes×Int)(w:World)(e:Ending)(w':World):Prop:=
 ∃v r,e= .returned (.tuple #[v,r])∧w'.ownsRow w.heap.size 9 1 v q.2.1.length (q.2.1.map VT)∧ES a r q.2.2∧NodeTo n f q.1 w w'
theorem NodeTo.step{n:Nat}{f f':Foot}{P' P2:PNode}{w w' w2:World}(h1:Node n P' f' w')(h2:FrS f.S w w')(h3:f.new f' w.heap.size)(ht:NodeTo n f' P2 w' w2):NodeTo n f P2 w w2:=by
 obtain⟨f2,k1,k2,k3⟩:=ht
 exact⟨f2,k1,h2.trans k2 fun i hi=>(h3 i).1 hi,h3.trans k3 h2.size⟩
theorem NodeTo.after{n:Nat}{f:Foot}{P':PNode}{w w1 w2:World}(hb:Below w.heap.size w w1)(ht:NodeTo n f P' w1 w2):NodeTo n f P' w w2:=by
 obtain⟨f2,k1,k2,k3⟩:=ht
 exact⟨f2,k1,(FrS.of_below (S:=f.S) hb).trans k2 fun i hi=> .inl hi,fun k=>⟨fun h=>((k3 k).1 h).imp id (fun h=>Nat.le_trans hb.size h),fun h=>((k3 k).2 h).imp id (fun h=>Nat.le_trans hb.size h)⟩⟩
theorem k1b(a:Nat→Addr){n:Nat}{P:PNode}{f:Foot}(hP:NodeOk P)(x:Idn)(hx:IdOk x)(hg:Q1 P.bins x=none)(w:World)(h:Node n P f w)(hs:SomeS [4] a w) :
  Calls Tryz.prog 24 #[.pointer (some ⟨n,0,none⟩),idV x] w (NamesPost a n f (j6c x P) w):=by
 have hb1:Below w.heap.size w (w.alloc (.cells #[.int .u32 (x.1:Int),.int .i64 x.2] 25)):=(zb _ w).alloc (zl _) _
 have HE:Hid (j6c x P=(P,[],5)):=zh (by unfold j6c;rw[hg])
 have HBN:=zh (Node.binC hP x hx _ (h.below hb1))
 unfold j3b at HBN
 rw[hg]at HBN
 have HS:=zh hs
 have HN:=zh h
 have HB1:=zh hb1
 have BX1:=zh (Box2.mk' w (.int .u32 (x.1:Int)) (.int .i64 x.2) 25)
 obtain⟨x0,x1,_,_⟩:=BX1.out
 rw[HE.out]
 clear h hP hx hg hs hb1
 go_enter Tryz.func24,Tryz.ntmps24
 go_wp2_with fail
 refine HBN.out.mono ?_
 rintro e w2 ⟨rfl,hb2⟩
 have HB2:=zh (HB1.out.trans (hb2.mono HB1.out.size))
 have s4:w2.cell? ⟨0,0,none⟩=some (sval a 4):=(HS.out.below HB2.out) 4 (by simp)
 unfold sval at s4
 clear hb2 x0 x1
 go_wp2
 go_region
 go_wp2
 go_ret2
 exact⟨_,_,rfl,World.ownsRow_nil _ _ _ _,ES.sent a 4 (by decide),NodeTo.stay HN.out HB2.out.drew⟩
theorem k1c(a:Nat→Addr){n:Nat}{P:PNode}{f:Foot}(hP:NodeOk P)(x:Idn)(hx:IdOk x){L:HldL}(hg:Q1 P.bins x=some L)(w:World)(h:Node n P f w)(hs:∀w',FrS f.S w w'→SomeS [4,10] a w') :
  Calls Tryz.prog 24 #[.pointer (some ⟨n,0,none⟩),idV x] w (NamesPost a n f (j6c x P) w):=by
 have hb1:Below w.heap.size w (w.alloc (.cells #[.int .u32 (x.1:Int),.int .i64 x.2] 25)):=(zb _ w).alloc (zl _) _
 have HE:Hid (j6c x P=(awayK x P (ofN P x).length,ofN P x,0)):=zh (by unfold j6c;rw[hg,j6v])
 have HBN:=zh (Node.binC hP x hx _ (h.below hb1))
 unfold j3b at HBN
 rw[hg]at HBN
 have HP:=zh hP
 have HN:=zh h
 have HS:=zh hs
 have hn30:=k0v hP x
 have HB1:=zh hb1
 have BX1:=zh (Box2.mk' w (.int .u32 (x.1:Int)) (.int .i64 x.2) 25)
 have BXB:Hid (∀w',Below (w.alloc (.cells #[.int .u32 (x.1:Int),.int .i64 x.2] 25)).heap.size (w.alloc (.cells #[.int .u32 (x.1:Int),.int .i64 x.2] 25)) w'→w'.cell? ⟨w.heap.size,0,none⟩=some (.int .u32 (x.1:Int))∧w'.cell? ⟨w.heap.size,1,none⟩=some (.int .i64 x.2)):=zh (fun w' hb=>by
  obtain⟨y0,y1,_,_⟩:=BX1.out.below hb BX1.out.lt
  exact⟨y0,y1⟩)
 obtain⟨x0,x1,_,_⟩:=BX1.out
 rw[HE.out]
 clear h hP hx hg hs hb1 BX1
 go_enter Tryz.func24,Tryz.ntmps24
 go_wp2_with fail
 generalize w.alloc (.cells #[.int .u32 (x.1:Int),.int .i64 x.2] 25)=w1 at *
 refine HBN.out.mono ?_
 rintro e w2 ⟨b2,mb2,rfl,hob,_,_,hb2⟩
 have HB2:=zh (HB1.out.trans (hb2.mono HB1.out.size))
 obtain⟨y0,y1⟩:=BXB.out w2 hb2
 have HOF:=zh (Node.ofC HP.out x w2 (HN.out.below HB2.out))
 clear hb2 hob x0 x1 HBN
 go_wp2_with fail
 refine HOF.out.mono ?_
 rintro e w3 ⟨vn,rfl,hon,hb3⟩
 have HON:=zh (M2 hon HB2.out.size)
 obtain⟨NA,nc,hvn,hnc,hnx⟩:=V7 HON.out
 subst hvn
 have HNX:=zh hnx
 have HB3:=zh (HB2.out.trans (hb3.mono HB2.out.size))
 have HNF:Hid (∀g,w.heap.size≤g→¬f.S g):=zh (fun g hg hs=>by have:=HN.out.lt g (.inl hs);omega)
 clear hon hb3 hnx y0 y1 HOF
 go_wp2
 go_loopg [23] (ofN P x).length (fun gh v23 wr=>∃(k:Nat) (f':Foot),v23= .int .i64 k∧k≤(ofN P x).length∧gh=(ofN P x).length-k∧Hid (Node n (awayK x P k) f' wr)∧Hid (FrS f.S w3 wr)∧Hid (f.new f' w3.heap.size))
 case atStart=>exact⟨0,f,rfl,Nat.zero_le _,rfl,zh (HN.out.below HB3.out),zh (FrS.refl _ _),zh (Foot.new_refl _ _)⟩
 case round=>
  obtain⟨k,f',rfl,hk,hgm,HNr,HFr,HNW⟩:=hrel
  by_cases hkl:k<(ofN P x).length
  ·obtain⟨g,rfl,hge,hg,hcell⟩:=HNX.out (by omega)
   have e0:=(HFr.out.cell (p:=⟨g,k,none⟩) hg (HNF.out g hge)).trans (hcell k (VT (ofN P x)[k]) (by rw[List.getElem?_map,List.getElem?_eq_getElem hkl];rfl))
   have hnm:=j7b HP.out (List.getElem_mem hkl)
   have hcd:=j7a HP.out x k hkl
   have hnx:=j6u x P k hkl
   have HDC:=zh (Node.dropC a (HP.out.awayK x k) (ofN P x)[k] (by unfold X6 maxLen;omega) wr HNr.out (HS.out wr ((FrS.of_below HB3.out).trans HFr.out fun i hi=> .inl hi)))
   rw[hcd,←hnx]at HDC
   have b1:(0:Int)≤(k:Int):=by omega
   have b2:(k:Int)<((ofN P x).length:Int):=by omega
   generalize(ofN P x)[k]=nm at *
   clear hcell hnm hcd hnx
   go_wp2_with fail
   refine HDC.out.mono ?_
   rintro e w4 ⟨r4,rfl,hes,ht⟩
   obtain⟨rfl,_⟩:=hes.nil rfl
   obtain⟨f4,h4,hF4,hn4⟩:=NodeTo.step HNr.out HFr.out HNW.out ht
   have H4:=zh h4
   have HF4:=zh hF4
   have HN4:=zh hn4
   clear hes ht h4 hF4 hn4 HDC e0
   go_wp2
   go_roundg ((ofN P x).length-(k+1))
   case measure=>omega
   case rel=>exact⟨k+1,f4,by go_num,hkl,rfl,H4,HF4,HN4⟩
  ·obtain rfl:k=(ofN P x).length:=by omega
   have HFIN:=zh (j8p HON.out HFr.out fun g hg=>HNF.out g (Y7 HON.out hg))
   go_wp2
   go_ret2
   exact⟨_,_,rfl,HFIN.out,ES.none a,NodeTo.after HB3.out ⟨f',HNr.out,HFr.out,HNW.out⟩⟩
theorem k1d(a:Nat→Addr){n:Nat}{P:PNode}{f:Foot}(hP:NodeOk P)(x:Idn)(hx:IdOk x)(w:World)(h:Node n P f w)(hs:∀w',FrS f.S w w'→SomeS [4,10] a w') :
  Calls Tryz.prog 24 #[.pointer (some ⟨n,0,none⟩),idV x] w (NamesPost a n f (j6c x P) w):=by
 cases hg:Q1 P.bins x with
 | none=>exact k1b a hP x hx hg w h ((hs w (FrS.refl _ _)).sub (by decide))
 | some L=>exact k1c a hP x hx hg w h hs
theorem k1e{s:Bytes}{q:List Rcp×HldL}(h:R4 s= .ok q):K9 (s.drop (s.length-8))=some (prOf (s.take (s.length-8))):=by
 unfold R4 at h
 split at h
 ·cases h
 ·split at h
  ·cases h
  ·split at h
   ·next mark _ hm=>
    rw[hm]
    split at h
    ·split at h
     ·split at h
      ·split at h
       ·cases h
       ·split at h
        ·cases h
        ·split at h
         ·split at h
          ·next e=>rw[e]
          ·cases h
         ·cases h
      ·cases h
     ·cases h
    ·cases h
   ·cases h
theorem k1f{b:Bytes}{k:Nat}(hk:k<b.length){c:UInt8}(hc:b[k]≠c)(q:List Rcp×HldL):R4 ((b++hex8 (prOf b)).set k c)≠ .ok q:=by
 intro h
 have h8:(hex8 (prOf b)).length=8:=X8 _ _
 have hs:(b++hex8 (prOf b)).set k c=b.set k c++hex8 (prOf b):=List.set_append_left _ _ hk
 rw[hs]at h
 have hm:=k1e h
 have hl:(b.set k c++hex8 (prOf b)).length-8=(b.set k c).length:=by rw[List.length_append,h8];omega
 rw[hl,List.take_left',List.drop_left',q3x _ (q1u _)]at hm
 ·injection hm with hm
  have h1:b.set k c=b.take k++c::b.drop (k+1):=List.set_eq_take_append_cons_drop.trans (by rw[if_pos hk])
  have h2:b=b.take k++b[k]::b.drop (k+1):=by rw[←List.drop_eq_getElem_cons hk,List.take_append_drop]
  have h3:=q3l (b.take k) (b.drop (k+1)) c b[k] (fun e=>hc e.symm)
  rw[←h1,←h2]at h3
  exact h3 hm.symm
 ·rfl
 ·rfl
theorem k1g{b:Bytes}{k:Nat}(hk:k<b.length){c:UInt8}(hc:b[k]≠c)(P:PNode):∃d,inN ((b++hex8 (prOf b)).set k c) P=(P,[],d)∧d≠0:=by
 unfold inN
 cases h:R4 ((b++hex8 (prOf b)).set k c)with
 | ok q=>exact absurd h (k1f hk hc q)
 | error d=>
  refine⟨d,rfl,fun e=> ?_⟩
  subst e
  revert h
  unfold R4
  repeat' split
  all_goals intro h;first|cases h|(injection h with h;exact absurd h (by decide))
theorem k1h{P:PNode}(h:NodeOk P){x:Idn}{L:HldL}(hg:Q1 P.bins x=some L){nm:Bytes}(hm:nm∈ofN P x):getN nm (subN P x L)=getN nm P∧(getN nm P).2=0:=by
 obtain⟨r,hr,hx⟩:=j6y h.fsrt hm
 have h2:Q1 (subN P x L).files nm=some r:=k0f U3 h.fsrt _ hr (by simp[hx])
 have hb:binN (subN P x L) (repR r)=binN P (repR r):=by
  unfold binN
  rw[hx,hg]
  show(Q1 [(x,L)] x).getD []=_
  rw[J3,if_pos rfl]
 unfold getN
 rw[hr,h2]
 simp only
 rw[hb]
 exact⟨rfl,trivial⟩
theorem k1j{P:PNode}(h:NodeOk P){x:Idn}{L:HldL}(hg:Q1 P.bins x=some L):inFL (filesX P x) L (subN P x L)=(subN P x L,[],6):=by
 obtain⟨_,hne⟩:=k0o h hg
 have hck:=k0i h hg
 have hrep:∀r∈filesX P x,repR r=x:=fun r hr=>by
  obtain⟨q,hq,rfl⟩:=List.mem_map.1 hr
  simpa using(List.mem_filter.1 hq).2
 have hs:(Q1 (subN P x L).bins x).isSome=true:=by
  show(Q1 [(x,L)] x).isSome=true
  rw[J3,if_pos rfl];rfl
 generalize subN P x L=Q at *
 generalize filesX P x=fs at *
 cases fs with
 | nil=>exact absurd rfl hne
 | cons r0 t=>
  have hx:repR r0=x:=hrep r0 List.mem_cons_self
  unfold inFL
  simp only
  rw[hx]
  rw[if_neg (by rw[Bool.not_eq_true,List.any_eq_false];exact fun r hr=>by simp[hrep r (List.mem_cons_of_mem _ hr)]),if_neg (by simp[hck]),if_pos (by rw[hs];rfl)]
theorem k1k(nm:Bytes)(Q:PNode):(M1 nm Q).1.files=K3 nm Q.files:=by
 unfold M1
 split
 ·next h=>exact(z6o h).symm
 ·rfl
theorem k1l(x:Idn)(P:PNode)(k:Nat)(hk:k≤(ofN P x).length):(awayK x P k).files=P.files.filter fun q=> !decide (q.1∈(ofN P x).take k):=by
 induction k with
 | zero=>exact(List.filter_eq_self.2 (by simp)).symm
 | succ k ih=>
  rw[j6u x P k (by omega),k1k,ih (by omega)]
  unfold K3
  rw[List.filter_filter]
  refine List.filter_congr fun q _=> ?_
  have hm:q.1∈(ofN P x).take (k+1)↔q.1∈(ofN P x).take k∨q.1=(ofN P x)[k]:=by rw[List.take_succ_eq_append_getElem (by omega:k<(ofN P x).length),List.mem_append,List.mem_singleton]
  rw[decide_eq_decide.2 hm,Bool.decide_or,Bool.not_or,Bool.and_comm]
theorem k1m{P:PNode}(h:NodeOk P){x:Idn}{q:Bytes×Rcp}(hq:q∈P.files):q.1∈ofN P x↔repR q.2=x:=by
 have hg:=Z5 U3 h.fsrt hq
 constructor
 ·intro hm
  obtain⟨r,hr,hx⟩:=j6y h.fsrt hm
  rw[hg]at hr
  injection hr with hr
  rw[hr];exact hx
 ·intro hx
  unfold ofN
  exact List.mem_map_of_mem (f:=fun q:Bytes×Rcp=>q.1) (List.mem_filter.2 ⟨hq,by simp[hx]⟩)
theorem k1n{α:Type}(p:α→Bool):∀l:List α,(l.filter p).length+(l.filter fun a=> !p a).length=l.length
 | []=>rfl
 | a::t=>by
  have:=k1n p t
  rw[List.filter_cons,List.filter_cons]
  cases p a<;>simp<;>omega
theorem k1o{P:PNode}(h:NodeOk P)(x:Idn):(J4 (awayK x P (ofN P x).length)).length+(ofN P x).length=(J4 P).length:=by
 have h1:(awayK x P (ofN P x).length).files=P.files.filter fun q=> !decide (repR q.2=x):=by
  rw[k1l x P _ (zl _),List.take_length]
  refine List.filter_congr fun q hq=> ?_
  rw[Bool.not_inj_iff,decide_eq_decide]
  exact k1m h hq
 have h2:=k1n (fun q:Bytes×Rcp=>decide (repR q.2=x)) P.files
 unfold J4
 rw[List.length_map,List.length_map,h1]
 unfold ofN
 rw[List.length_map]
 omega
theorem k1p{α:Type}[DecidableEq α]:∀ {l m:List α},l.Nodup→(∀a∈l,a∈m)→l.length≤m.length
 | [],_,_,_=>Nat.zero_le _
 | a::t,m,hn,hs=>by
  rw[List.nodup_cons]at hn
  have ha:=hs a List.mem_cons_self
  have:=k1p (m:=m.erase a) hn.2 fun b hb=>(List.mem_erase_of_ne (fun e=>hn.1 (by rw[←e];exact hb))).2 (hs b (List.mem_cons_of_mem _ hb))
  rw[List.length_erase_of_mem ha]at this
  have hp:=List.length_pos_of_mem ha
  rw[List.length_cons];omega
theorem k1q{K V:Type}[DecidableEq K]{L:List (K×V)}{k:K}:k∈L.map (·.1)↔(Q1 L k).isSome=true:=by
 cases hg:Q1 L k with
 | none=>
  have:=V4.1 hg
  constructor
  ·intro h
   obtain⟨p,hp,e⟩:=List.mem_map.1 h
   exact absurd e (this p hp)
  ·intro h;cases h
 | some v=>exact⟨fun _=>rfl,fun _=>List.mem_map_of_mem (f:=fun p:K×V=>p.1) (Y4 hg)⟩
theorem k1r{L:List (Idn×HldL)}(h:K1 Q2 L):(L.map (·.1)).Nodup:=by
 unfold K1 at h
 rw[List.Nodup,List.pairwise_map]
 exact h.imp fun hab=>M0.ne hab
theorem k1s{A B:List (Idn×HldL)}(hA:K1 Q2 A)(hB:K1 Q2 B)(h:∀k,(Q1 A k).isSome=(Q1 B k).isSome):A.length=B.length:=by
 have h1:=k1p (k1r hA) (fun k hk=>k1q.2 (h k▸k1q.1 hk):∀k∈A.map (·.1),k∈B.map (·.1))
 have h2:=k1p (k1r hB) (fun k hk=>k1q.2 ((h k).symm▸k1q.1 hk):∀k∈B.map (·.1),k∈A.map (·.1))
 rw[List.length_map,List.length_map]at h1 h2
 omega
theorem k1t{B:List (Idn×HldL)}(hB:K1 Q2 B){x:Idn}{L:HldL}(hg:Q1 B x=some L):(K3 x B).length+1=B.length:=by
 have h:=z6p M0 (fun _=>(1:Int)) hB hg
 have hone:∀l:List (Idn×HldL),(l.map fun _=>(1:Int)).sum=(l.length:Int):=fun l=>by
  induction l with
  | nil=>rfl
  | cons a t ih=>rw[List.map_cons,List.sum_cons,ih,List.length_cons];omega
 rw[hone,hone]at h
 omega
theorem k1u{P:PNode}(h:NodeOk P){x:Idn}{L:HldL}(hg:Q1 P.bins x=some L):(U0 (awayK x P (ofN P x).length)).length+1=(U0 P).length:=by
 have hQ:=h.awayK x (ofN P x).length
 have hf:=j6x x P (ofN P x).length (zl _)
 rw[List.take_length]at hf
 generalize awayK x P (ofN P x).length=Q at *
 have hk:∀y,(Q1 Q.bins y).isSome=(Q1 (K3 x P.bins) y).isSome:=fun y=>by
  rw[z5h]
  by_cases hy:y=x
  ·rw[if_pos hy]
   cases hb:Q1 Q.bins y with
   | none=>rfl
   | some L'=>
    obtain⟨_,_,_,_,k,r,h5,h6⟩:=hQ.bin y L' hb
    rw[hf]at h5
    split at h5
    ·cases h5
    ·next hn=>exact absurd ((k1m h (Y4 h5)).2 (h6.trans hy)) hn
  ·rw[if_neg hy,Bool.eq_iff_iff]
   constructor
   ·intro hs
    obtain⟨L',hb⟩:=Option.isSome_iff_exists.1 hs
    obtain⟨_,_,_,_,k,r,h5,h6⟩:=hQ.bin y L' hb
    rw[hf]at h5
    split at h5
    ·cases h5
    ·obtain⟨_,_,_,_,L2,h7,_⟩:=h.file k r h5
     rw[h6]at h7
     rw[h7];rfl
   ·intro hs
    obtain⟨L',hb⟩:=Option.isSome_iff_exists.1 hs
    obtain⟨_,_,_,_,k,r,h5,h6⟩:=h.bin y L' hb
    have h8:Q1 Q.files k=some r:=by
     rw[hf,if_neg (fun hm=>hy (h6.symm.trans ((k1m h (Y4 h5)).1 hm)))]
     exact h5
    obtain⟨_,_,_,_,L2,h7,_⟩:=hQ.file k r h8
    rw[h6]at h7
    rw[h7];rfl
 have h1:=k1s hQ.bsrt (z5f h.bsrt x) hk
 have h2:=k1t h.bsrt hg
 unfold U0
 rw[List.length_map,List.length_map]
 omega
theorem k1v{P:PNode}{x:Idn}{L:HldL}(hg:Q1 P.bins x=some L):j6c x P=(awayK x P (ofN P x).length,ofN P x,0):=by unfold j6c;rw[hg,j6v]
end Go.Proofs.YtdmlghfggninbaaGreatDoor
