/- Read, AppM, Same, Bldr, HeldN, App in one text. Conditions: as each part says. -/
import Derived.Test.YtdmlghfggninbaaGreatDoorMb12
import Derived.Deep.Onto
import Derived.Maps.AppendAt
import Derived.Laws.OwnMore
import Derived.Deep.RegionLaw
import Derived.Test.YtdmlghfggninbaaGreatDoorMb30
import Derived.Test.YtdmlghfggninbaaGreatDoorChecked
import Derived.WalkKit
import Derived.Handy
import Derived.Lib.Hide
import Derived.Deep.QuietTactic
import Derived.BigQuiet
import Derived.Lib.Builder
import Derived.Lib.AppendStr
import Derived.Shelf.Strings.BuilderX
set_option linter.unusedVariables false
set_option linter.unusedSimpArgs false
set_option maxHeartbeats 2000000
set_option maxRecDepth 100000
namespace Go.Proofs.YtdmlghfggninbaaGreatDoor
open Go.RowKit
def Rd(w:World)(B:Nat)(v:Value)(xs:List Value):Prop:=
 ∃A c,v= .slice A xs.length c∧xs.length≤c∧(xs≠ []→∃g o,A=some ⟨g,o,none⟩∧g<B∧∀k u,xs[k]? =some u→w.cell? ⟨g,o+k,none⟩=some u)
theorem Rd.nil(w:World)(B:Nat):Rd w B (.slice none 0 0) []:=⟨none,0,rfl,zl _,fun h=>absurd rfl h⟩
theorem Rd.keep{w w':World}{B:Nat}{v:Value}{xs:List Value}(h:Rd w B v xs)(hk:∀p:Addr,p.block<B→w'.cell? p=w.cell? p):Rd w' B v xs:=by
 obtain⟨A,c,hv,hnc,hx⟩:=h
 refine⟨A,c,hv,hnc,fun hn=> ?_⟩
 obtain⟨g,o,hA,hg,hc⟩:=hx hn
 exact⟨g,o,hA,hg,fun k u hu=>(hk _ hg).trans (hc k u hu)⟩
theorem Rd.below{w w':World}{B:Nat}{v:Value}{xs:List Value}(h:Rd w B v xs)(hb:Below B w w'):Rd w' B v xs:=h.keep fun _ hp=>hb.cell hp
theorem Rd.more{w:World}{B B':Nat}{v:Value}{xs:List Value}(h:Rd w B v xs)(hB:B≤B'):Rd w B' v xs:=by
 obtain⟨A,c,hv,hnc,hx⟩:=h
 refine⟨A,c,hv,hnc,fun hn=> ?_⟩
 obtain⟨g,o,hA,hg,hc⟩:=hx hn
 exact⟨g,o,hA,by omega,hc⟩
theorem Rd.own{w:World}{base n:Nat}{e:TypeId}{v:Value}{xs:List Value}(h:w.ownsRow base e 1 v n xs):Rd w w.heap.size v xs:=by
 have hl:=h.1
 rcases h.2 with⟨rfl,h0⟩|⟨g,cap,cur,rfl,hb,hh,hnc,hcm,hcs,htk⟩
 ·subst h0
  have:xs= []:=List.eq_nil_of_length_eq_zero (by omega)
  subst this
  exact Rd.nil _ _
 ·have hn:n=xs.length:=by omega
  subst hn
  refine⟨_,cap,rfl,hnc,fun _=>⟨g,0,rfl,(Array.getElem?_eq_some_iff.1 hh).1,fun k u hu=> ?_⟩⟩
  have hk:k<xs.length:=(List.getElem?_eq_some_iff.1 hu).1
  have h1:cur[k]? =some u:=by
   rw[←htk]at hu
   rw[List.getElem?_take]at hu
   rw[if_pos (by omega)]at hu
   simpa using hu
  simp[World.cell?,hh,h1]
theorem Rd.drop{w:World}{B:Nat}{A:Option Addr}{n c:Nat}{xs:List Value}(h:Rd w B (.slice A n c) xs)(k:Nat)(hk:k<n) :
  ∃g o,A=some ⟨g,o,none⟩∧Rd w B (.slice (some ⟨g,o+k,none⟩) (n-k) (c-k)) (xs.drop k):=by
 obtain⟨A',c',hv,hnc,hx⟩:=h
 injection hv with h1 h2 h3
 subst h1;subst h2;subst h3
 obtain⟨g,o,hA,hg,hc⟩:=hx (by intro h0;subst h0;simp at hk)
 refine⟨g,o,hA,_,_,by rw[List.length_drop],by rw[List.length_drop];omega,fun _=>⟨g,o+k,rfl,hg,fun j u hu=> ?_⟩⟩
 rw[List.getElem?_drop]at hu
 rw[Nat.add_assoc]
 exact hc _ u hu
theorem Rd.take{w:World}{B:Nat}{A:Option Addr}{n c:Nat}{xs:List Value}(h:Rd w B (.slice A n c) xs)(k:Nat)(hk:k≤n):Rd w B (.slice A k c) (xs.take k):=by
 obtain⟨A',c',hv,hnc,hx⟩:=h
 injection hv with h1 h2 h3
 subst h1;subst h2;subst h3
 refine⟨_,_,by rw[List.length_take,Nat.min_eq_left hk],by rw[List.length_take];omega,fun hn=> ?_⟩
 obtain⟨g,o,hA,hg,hc⟩:=hx (by intro h0;subst h0;simp at hn)
 refine⟨g,o,hA,hg,fun j u hu=>hc j u ?_⟩
 rw[List.getElem?_take]at hu
 split at hu
 ·exact hu
 ·cases hu
theorem Rd.cut{w:World}{B g o:Nat}{n c:Nat}{xs:List Value}(h:Rd w B (.slice (some ⟨g,o,none⟩) n c) xs)(k:Nat)(hk:k≤n) :
  Rd w B (.slice (if c=k then some ⟨g,o,none⟩else some ⟨g,o+k,none⟩) (n-k) (c-k)) (xs.drop k):=by
 obtain⟨A',c',hv,hnc,hx⟩:=h
 injection hv with h1 h2 h3
 subst h2;subst h3
 refine⟨_,_,by rw[List.length_drop],by rw[List.length_drop];omega,fun hn=> ?_⟩
 have hlt:k<xs.length:=by
  rcases Nat.lt_or_ge k xs.length with h|h
  ·exact h
  ·exact absurd (List.drop_eq_nil_of_le h) hn
 rw[if_neg (by omega)]
 obtain⟨g',o',hA,hg,hc⟩:=hx (by intro h0;subst h0;simp at hlt)
 rw[←h1]at hA
 injection hA with hA
 injection hA with e1 e2
 subst e1;subst e2
 refine⟨g,o+k,rfl,hg,fun j u hu=> ?_⟩
 rw[List.getElem?_drop]at hu
 rw[Nat.add_assoc]
 exact hc _ u hu
theorem Rd.len{w:World}{B:Nat}{A:Option Addr}{n c:Nat}{xs:List Value}(h:Rd w B (.slice A n c) xs):xs.length=n:=by
 obtain⟨A',c',hv,_,_⟩:=h
 injection hv with _ h2 _
 exact h2.symm
theorem q9v{α:Type}{f:α→Value}{xs:List α}{k:Nat}(h:k<xs.length):xs.map f≠ []:=by
 intro h0;rw[List.map_eq_nil_iff]at h0;rw[h0]at h;simp at h
theorem V3{B:Nat}{a w:World}(h:Below B a w)(n:Nat):Below B a (w.drewN n):=⟨h.os,h.tape,h.output,h.size,h.block⟩
end Go.Proofs.YtdmlghfggninbaaGreatDoor
namespace Go.Proofs.YtdmlghfggninbaaGreatDoor
open Go.RowKit Go.Lib
def RdC(w:World)(B size:Nat)(v:Value)(m:Nat)(xs:List Value):Prop:=
 ∃A c,v= .slice A m c∧xs.length=m*size∧m≤c∧(0<m→∃g o,A=some ⟨g,o,none⟩∧g<B∧∀k u,xs[k]? =some u→w.cell? ⟨g,o+k,none⟩=some u)
theorem q0n(g o j:Nat):(⟨g,o,none⟩:Addr).add j=⟨g,o+j,none⟩:=by unfold Addr.add;split<;>simp_all
theorem RdC.below{w w':World}{B size m:Nat}{v:Value}{xs:List Value}(h:RdC w B size v m xs)(hb:Below B w w'):RdC w' B size v m xs:=by
 obtain⟨A,c,hv,hl,hc,hx⟩:=h
 refine⟨A,c,hv,hl,hc,fun h0=> ?_⟩
 obtain⟨g,o,hA,hg,hcell⟩:=hx h0
 exact⟨g,o,hA,hg,fun k u hu=>(hb.cell (p:=⟨g,o+k,none⟩) hg).trans (hcell k u hu)⟩
section
variable {P:Program}
theorem q9w(w:World)(base:Nat)(t ty e:TypeId)(i:TypeInfo)(z:Value)(size bytes:Nat)(ht:P.underlying t=some (.slice e))(hi:P.info? e=some i)(hz:i.zero=some z)
  (hsize:i.size=size) (hby:i.bytes=bytes) (hzs:z.cells.size=size) (hsz:0<size) (v:Value) (n:Nat) (xs:List Value) (hown:w.ownsRow base e size v n xs)
  (B:Nat) (x:Value) (m:Nat) (ns:List Value) (hx:RdC w B size x m ns) (h1:∀u∈ns,u.oneCell'=true) (h63:n+m≤maxLen) (hbytes:(n+m)*bytes≤140737488355328) (hbase:base≤w.heap.size) :
  ∃v' w',(Builtin.append_ #[t,t] ty #[v,x]).run P w= .ok v' w'∧w'.ownsRow base e size v' (n+m) (xs++ns)∧w.grownBy w' v.ownBlock:=by
 obtain⟨A,c,rfl,hl,hlc,hc⟩:=hx
 by_cases h0:m=0
 ·subst h0
  obtain rfl:ns= []:=List.eq_nil_of_length_eq_zero (by omega)
  have hr:(Builtin.append_ #[t,t] ty #[v,.slice A 0 c]).run P w= .ok v w:=by
   rcases hown.2 with⟨rfl,rfl⟩|⟨g,cap,cur,rfl,_,_,hnc,_⟩
   ·cases A<;>simp[Builtin.append_,run_underlying ht,sizeOf,typeInfo,hi,Builtin.lenOf,Builtin.firstCells,loadCells,loadCellsFrom]
   ·cases A<;>simp[Builtin.append_,run_underlying ht,sizeOf,typeInfo,hi,Builtin.lenOf,Builtin.firstCells,hnc,storeCells,loadCells,loadCellsFrom]
  exact⟨v,w,hr,by rw[List.append_nil];exact hown,⟨rfl,rfl,rfl,zl _,fun _ _ _=>rfl⟩⟩
 ·obtain⟨g,o,rfl,hg,hc⟩:=hc (by omega)
  obtain⟨v',w',hr,h2,h3,_,_⟩:=run_append_own_at (P:=P) w base t ty e i z size bytes ht hi hz hsize hby hzs hsz v n xs hown ⟨g,o,none⟩ m c ns hl (fun j u hu=>by rw[q0n];exact hc j u hu) h1 h63 hbytes hbase
  exact⟨v',w',hr,h2,h3⟩
theorem Q5{w:World}{ops:Array Oper}{rest:List Oper}{o:Oper}{a:Act}{Q:Exit→Act→World→Prop}(hgd:o.guard=none)(s x:Operand)(t:TypeId)
  (ho:o.op= .call {callee:= .builtin .append,args:= #[s,x],argTypes:= #[t,t]})
  (base:Nat) (e:TypeId) (i:TypeInfo) (z:Value) (size bytes:Nat) (ht:P.underlying t=some (.slice e)) (hi:P.info? e=some i) (hz:i.zero=some z)
  (hsize:i.size=size) (hby:i.bytes=bytes) (hzs:z.cells.size=size) (hsz:0<size)
  (v:Value) (n:Nat) (xs:List Value) (hs:a.eval s=v) (hown:w.ownsRow base e size v n xs)
  (B:Nat) (vx:Value) (m:Nat) (ns:List Value) (hx:a.eval x=vx) (hr:RdC w B size vx m ns) (h1:∀u∈ns,u.oneCell'=true) (h63:n+m≤maxLen) (hbytes:(n+m)*bytes≤140737488355328) (hbase:base≤w.heap.size)
  (h:∀v' w',w'.ownsRow base e size v' (n+m) (xs++ns)→w.grownBy w' v.ownBlock→wpList P ops Q rest (a.put o.dst v') w') :
  wpList P ops Q (o::rest) a w:=by
 refine wpList_plain hgd fun K hK=> ?_
 obtain⟨v',w',hr,h2,h3⟩:=q9w (P:=P) w base t o.type e i z size bytes ht hi hz hsize hby hzs hsz v n xs hown B vx m ns hr h1 h63 hbytes hbase
 unfold Oper.wp execOp
 simp only[ho,resolve,invoke,builtin,Sem.run_bind,Sem.run_pure,Result.andThen_ok,List.map_toArray,List.map_cons,List.map_nil,hs,hx,hr]
 exact hK _ _ (h v' w' h2 h3)
end
theorem RdC.takeM{w:World}{B size n c:Nat}{A:Option Addr}{xs:List Value}(h:RdC w B size (.slice A n c) n xs)(k:Nat)(hk:k≤n):RdC w B size (.slice A k c) k (xs.take (k*size)):=by
 obtain⟨A',c',hv,hl,hlc,hx⟩:=h
 injection hv with h1 h2 h3
 subst h1;subst h3
 refine⟨A,c,rfl,by rw[List.length_take,hl];exact Nat.min_eq_left (Nat.mul_le_mul_right _ hk),by omega,fun h0=> ?_⟩
 obtain⟨g,o,hA,hg,hc⟩:=hx (by omega)
 refine⟨g,o,hA,hg,fun j u hu=>hc j u ?_⟩
 rw[List.getElem?_take]at hu
 split at hu
 ·exact hu
 ·cases hu
theorem RdC.cutM{w:World}{B size n c:Nat}{A:Option Addr}{xs:List Value}(h:RdC w B size (.slice A n c) n xs)(k:Nat)(hk:k≤n) :
  RdC w B size (.slice (if c=k then A else A.map (fun x=>x.add (k*size))) (n-k) (c-k)) (n-k) (xs.drop (k*size)):=by
 obtain⟨A',c',hv,hl,hlc,hx⟩:=h
 injection hv with h1 h2 h3
 subst h1;subst h3
 refine⟨_,_,rfl,by rw[List.length_drop,hl,Nat.sub_mul],by omega,fun h0=> ?_⟩
 rw[if_neg (by omega)]
 obtain⟨g,o,rfl,hg,hc⟩:=hx (by omega)
 refine⟨g,o+k*size,by rw[Option.map_some,q0n],hg,fun j u hu=> ?_⟩
 rw[List.getElem?_drop]at hu
 rw[Nat.add_assoc]
 exact hc _ u hu
theorem q9x{α:Type}{xs ys:List α}{k:Nat}(h:xs.take k=ys.take k)(hx:k<xs.length)(hy:k<ys.length)(e:xs[k]=ys[k]):xs.take (k+1)=ys.take (k+1):=by
 rw[List.take_succ_eq_append_getElem hx,List.take_succ_eq_append_getElem hy,h,e]
abbrev VT(b:Bytes):Value:= .string (bs b)
theorem q9y(va vb:Value)(xs ys:List Bytes)(B:Nat)(w:World)(ha:Rd w B va (xs.map VT))(hb:Rd w B vb (ys.map VT))(hx:xs.length≤2^62)(hy:ys.length≤2^62) :
  Calls Tryz.prog 23 #[va,vb] w fun e w'=>e= .returned (.bool (decide (xs=ys)))∧∃n,w'=w.drewN n:=by
 obtain⟨A,c,rfl,_,ha⟩:=ha
 obtain⟨A',c',rfl,_,hb⟩:=hb
 rw[List.length_map,List.length_map]
 by_cases hl:xs.length=ys.length
 ·by_cases h0:xs.length=0
  ·have e1:xs= []:=List.eq_nil_of_length_eq_zero h0
   have e2:ys= []:=List.eq_nil_of_length_eq_zero (by omega)
   subst e1;subst e2
   go_enter Tryz.func23,Tryz.ntmps23
   go_wp2
   go_rounds 1
   go_ret
   exact⟨rfl,0,rfl⟩
  ·obtain⟨g,o,rfl,_,hca⟩:=ha (by intro h;apply h0;rw[←List.length_map (f:=VT),h];rfl)
   obtain⟨g',o',rfl,_,hcb⟩:=hb (by intro h;apply h0;rw[hl,←List.length_map (f:=VT),h];rfl)
   have HA:=zh hca
   have HB:=zh hcb
   have HL:=zh hl
   have hl1:((xs.length:Int) !=(ys.length:Int))=false:=by rw[hl];simp
   have hl2:=Nat.le_of_eq hl
   have hl3:=Nat.le_of_eq hl.symm
   clear hca hcb hl h0 ha hb
   go_enter Tryz.func23,Tryz.ntmps23
   go_wp2
   go_loopw [5] (fun vi wr=>∃(k m:Nat),vi= .int .i64 k∧k≤xs.length∧wr=w.drewN m∧Hid (xs.take k=ys.take k)) (fun vi _=>xs.length-(RowKit.intOf vi).toNat)
   case atStart=>exact⟨0,0,rfl,Nat.zero_le _,rfl,rfl⟩
   case round=>
    obtain⟨k,m,rfl,hk,rfl,ht⟩:=hrel
    by_cases hlt:k<xs.length
    ·have hlt':k<ys.length:=by omega
     have c1:w.cell? ⟨g,o+k,none⟩=some (.string (bs xs[k])):=HA.out k _ (by simp[hlt])
     have c2:w.cell? ⟨g',o'+k,none⟩=some (.string (bs ys[k])):=HB.out k _ (by simp[hlt'])
     have b1:(0:Int)≤(k:Int):=by omega
     have b2:(k:Int)<(xs.length:Int):=by omega
     have b3:(k:Int)<(ys.length:Int):=by omega
     by_cases he:xs[k]=ys[k]
     ·have hq:((bs xs[k]).toList==(bs ys[k]).toList)=true:=by rw[q0x];simpa using he
      have HE:=zh he
      clear he
      go_wp2
      go_quiet (fail)
      go_wp2
      go_roundw
      case rel=>exact⟨k+1,_,by go_num,by omega,rfl,q9x ht.out hlt hlt' HE.out⟩
      case measure=>simp[RowKit.intOf];omega
     ·have hq:((bs xs[k]).toList==(bs ys[k]).toList)=false:=by rw[q0x];simpa using he
      have hne:decide (xs=ys)=false:=by
       rw[decide_eq_false_iff_not];rintro rfl;exact he rfl
      have HN:=zh hne
      clear he hne
      go_wp2
      go_quiet (fail)
      go_wp2
      go_ret
      exact⟨by rw[HN.out];rfl,_,World.drewN_drewN _ _ _⟩
    ·obtain rfl:k=xs.length:=by omega
     have hq:decide (xs=ys)=true:=by
      have h:=ht.out
      rw[List.take_of_length_le (zl _),List.take_of_length_le (by omega)]at h
      simpa using h
     have HQ:=zh hq
     clear hq
     go_wp2
     go_ret
     exact⟨by rw[HQ.out];rfl,_,rfl⟩
 ·have hne:decide (xs=ys)=false:=by
   rw[decide_eq_false_iff_not];rintro rfl;exact hl rfl
  rw[hne]
  have hl1:((xs.length:Int) !=(ys.length:Int))=true:=by simp;omega
  go_enter Tryz.func23,Tryz.ntmps23
  go_wp2
  go_ret
  exact⟨rfl,0,rfl⟩
theorem q9z:(Tryz.prog.info? 164).map (·.size)=some 2:=by kernel_rfl
theorem z0a:liesAt Tryz.prog Tryz.prog.depth 164 (2/Tryz.prog.cellsOf 164) 0 164 1=true:=by kernel_rfl
theorem z0b:(Tryz.prog.info? 5).map (fun i=>(i.zero,i.size,i.bytes))=some (some (.int .u8 0),1,1):=by kernel_rfl
theorem z0c(b:Nat)(w:World)(h0:w.cell? ⟨b,0,none⟩=some (.pointer (some ⟨b,0,none⟩))) :
  Calls Tryz.prog 162 #[.pointer (some ⟨b,0,none⟩)] w fun e w'=>e= .returned (.tuple #[])∧w'=w:=by
 obtain⟨j,hj,_⟩:=Option.map_eq_some_iff.1 q9z
 go_enter Tryz.func162,Tryz.ntmps162
 go_wp2
 rw[Lib.run_neq_ptr_same w _ Tryz.underlying162 hj]
 go_wp2
 go_end0
 exact⟨rfl,rfl⟩
theorem z0d(b:Nat)(w:World)(h0:w.cell? ⟨b,0,none⟩=some (.pointer none))(hsh:w.shape? b=some (164,2))(hfz:w.frozen? ⟨b,0,none⟩=false) :
  Calls Tryz.prog 162 #[.pointer (some ⟨b,0,none⟩)] w fun e w'=>e= .returned (.tuple #[])∧w'=w.setCell ⟨b,0,none⟩ (.pointer (some ⟨b,0,none⟩)):=by
 obtain⟨j,hj,hjs⟩:=Option.map_eq_some_iff.1 q9z
 go_enter Tryz.func162,Tryz.ntmps162
 go_wp2
 rw[Lib.run_to_unsafe w ⟨b,0,none⟩ Tryz.underlying162 Tryz.underlying231 hj (by rw[hjs];decide) hsh (Nat.zero_lt_succ 1)]
 simp only[Result.andThen]
 rw[Oper.upon_value]
 go_wp2
 rw[run_callFunc_extern Tryz.func204 (by kernel_rfl) (by kernel_rfl) (by kernel_rfl) (e:=Extern.AbiNoEscape.same) (by kernel_rfl)]
 rw[Lib.run_noEscape]
 simp only[Result.andThen]
 rw[Oper.upon_value]
 go_wp2
 rw[Lib.run_from_unsafe w ⟨b,0,none⟩ Tryz.underlying231 Tryz.underlying162 hj hsh z0a]
 simp only[Result.andThen]
 rw[Oper.upon_value]
 go_wp2
 go_end0
 exact⟨rfl,rfl⟩
theorem z0e(B b:Nat)(bs:List Value)(w:World)(h:Lib.IsBuilder 164 5 B b bs w) :
  Calls Tryz.prog 162 #[.pointer (some ⟨b,0,none⟩)] w fun e w'=>e= .returned (.tuple #[])∧(Lib.BuilderAt 164 5 B b (.pointer (some ⟨b,0,none⟩)) bs w'∧Below B w w'):=by
 rcases h with h|h
 ·refine(z0d b w h.cell0 h.shape h.frozen0).mono ?_
  rintro e w' ⟨rfl,rfl⟩
  exact⟨rfl,h.used _,(zb B w).setCell (p:=⟨b,0,none⟩) h.1 _⟩
 ·refine(z0c b w h.cell0).mono ?_
  rintro e w' ⟨rfl,rfl⟩
  exact⟨rfl,h,zb B _⟩
def SbHas(B b:Nat)(l:Bytes)(w:World):Prop:=Lib.IsBuilder 164 5 B b (Lib.byteCells l) w
theorem SbHas.fresh(w:World):SbHas w.heap.size w.heap.size [] (w.alloc (.cells #[.pointer none,.slice none 0 0] 164)):=Lib.fresh_isBuilder _ _ w
theorem SbHas.below{B b:Nat}{l:Bytes}{w w':World}(h:SbHas B b l w)(hb:Below w.heap.size w w'):SbHas B b l w':=by
 have key:∀p,Lib.BuilderAt 164 5 B b p (Lib.byteCells l) w→Lib.BuilderAt 164 5 B b p (Lib.byteCells l) w':=fun p hp=>by
  have hlt:=hp.lt
  obtain⟨hB,v,hbk,hown,hne⟩:=hp
  refine⟨hB,v,(hb.block b hlt).trans hbk,⟨hown.1,?_⟩,hne⟩
  rcases hown.2 with h|⟨g,cap,cur,hv,hg,hh,h3⟩
  ·exact .inl h
  ·exact .inr ⟨g,cap,cur,hv,hg,(hb.block g (Array.getElem?_eq_some_iff.1 hh).1).trans hh,h3⟩
 exact h.elim (fun x=> .inl (key _ x)) (fun x=> .inr (key _ x))
theorem z0f(B b:Nat)(l:Bytes)(s:ByteArray)(w:World)(h:SbHas B b l w)(hlen:l.length+s.size≤140737488355328)(hBw:B≤w.heap.size) :
  Calls Tryz.prog 106 #[.pointer (some ⟨b,0,none⟩),.string s] w fun e w'=>e= .returned (.tuple #[.int .i64 s.size,.nilIface])∧SbHas B b (l++s.data.toList) w'∧Below B w w':=by
 obtain⟨i0,hi,hz0,hz1,hz2⟩:=info_parts z0b
 have hcl:(Lib.byteCells l).length=l.length:=by simp[Lib.byteCells]
 have hcat:Lib.byteCells l++Lib.strCells s=Lib.byteCells (l++s.data.toList):=by simp[Lib.byteCells,Lib.strCells]
 have HC:=zh (z0e B b _ w h)
 clear h
 go_enter Tryz.func106,Tryz.ntmps106
 go_wp2_with fail
 refine HC.out.mono ?_
 rintro e w1 ⟨rfl,h1,hb1⟩
 obtain⟨hB,v,hbk,hown,hne⟩:=h1
 have c0:w1.cell? ⟨b,0,none⟩=some (.pointer (some ⟨b,0,none⟩)):=by rw[Lib.cell_of_heap hbk];rfl
 have c1:w1.cell? ⟨b,1,none⟩=some v:=by rw[Lib.cell_of_heap hbk];rfl
 go_wp2_with(at_builtin;refine Lib.wpList_append_own_string _ rfl _ _ 70 9 rfl B 5 i0 Tryz.underlying70 Tryz.underlying9 hi hz0 hz1 hz2 _ _ _ rfl hown s rfl ?c3 ?c4 ?c5 ?_)
 case c3=>unfold maxLen;omega
 case c4=>omega
 case c5=>have:=hb1.size;omega
 intro v' w2 hown' hgrow _
 have hlt:b<w1.heap.size:=(Array.getElem?_eq_some_iff.1 hbk).1
 have hb2:w2.heap[b]? =some (.cells #[.pointer (some ⟨b,0,none⟩),v] 164 (0,0)):=by
  rw[hgrow.block b hlt (fun e=>hne e.symm)]
  exact hbk
 have d0:w2.cell? ⟨b,0,none⟩=some (.pointer (some ⟨b,0,none⟩)):=by rw[Lib.cell_of_heap hb2];rfl
 have d1:w2.cell? ⟨b,1,none⟩=some v:=by rw[Lib.cell_of_heap hb2];rfl
 have f1:w2.frozen? ⟨b,1,none⟩=false:=Lib.frozen_of_heap hb2 1
 obtain⟨ao,n',cap,rfl⟩:∃ao n' cap,v'= .slice ao n' cap:=by
  rcases hown'.2 with⟨hv,_⟩|⟨g,cap,cur,hv,_⟩
  ·exact⟨_,_,_,hv⟩
  ·exact⟨_,_,_,hv⟩
 have HF:Hid (SbHas B b (l++s.data.toList) (w2.setCell ⟨b,1,none⟩ (.slice ao n' cap))):=zh (by
  unfold SbHas
  rw[←hcat]
  exact .inr (Lib.BuilderAt.put (T:=164) (e:=5) hB hb2 (bs':=Lib.byteCells l++Lib.strCells s) (by rw[List.length_append,Lib.strCells_length,hcl,hcat];exact hown') (by decide)))
 have HB:Hid (Below B w (w2.setCell ⟨b,1,none⟩ (.slice ao n' cap))):=zh ((hb1.grown hgrow (by have:=hb1.size;omega) (fun k hk=>(hown.lt k hk).1)).setCell (p:=⟨b,1,none⟩) hB _)
 clear hown hown' hgrow hbk hb2 hcat hcl hb1 hne c0 c1
 go_wp2
 go_ret2
 exact⟨rfl,HF.out,HB.out⟩
end Go.Proofs.YtdmlghfggninbaaGreatDoor
namespace Go.Proofs.YtdmlghfggninbaaGreatDoor
open Go.RowKit
section
variable {P:Program} {ops:Array Oper} {md:Region.Mode} {S:World→Prop} {n:Nat} {Q:Exit→Act→World→Prop} {f:Nat} {listed:Array Bool} {a:Act} {w:World}
theorem z0g(i:Nat){oi:Oper}(hi:ops[i]? =some oi)(hB:q4p md ops n i listed=true)(hw:Region.wanted oi (yielded ops a.tmps)=false)(hS:S w)
  (h:wpS P md ops S n (LS P md ops Q n) f (listed.setIfInBounds i true) (a.put oi.dst undef) w) :
  wpS P md ops S n (LS P md ops Q n) (f+1) listed a w:=by
 simp only[q4p,Bool.and_eq_true,decide_eq_true_eq]at hB
 obtain⟨⟨⟨⟨⟨⟨⟨h1,h2⟩,h3⟩,h4⟩,h5⟩,h6⟩,h7⟩,h8⟩:=hB
 exact q4m hi (Region.noSelect_spec h2) h5 h6 h3 h4 (fun listed a w hL=>seqB_ready hL.1) f listed a w (q4o h1) (Region.free_spec hi h7) (by simpa using h8)
  (.inr ⟨hw,rfl⟩) hS h
theorem kK(i:Nat){oi:Oper}(hS:S w)
  (h:wpS P md ops S n (LS P md ops Q n) f (listed.setIfInBounds i true) (a.put oi.dst undef) w)
  (hi:ops[i]? =some oi:=by exact rfl) (hB:q4p md ops n i listed=true:=by kernel_rfl) (hw:Region.wanted oi (yielded ops a.tmps)=false:=by kernel_rfl) :
  wpS P md ops S n (LS P md ops Q n) (f+1) listed a w:=z0g i hi hB hw hS h
end
end Go.Proofs.YtdmlghfggninbaaGreatDoor
namespace Go.Proofs.YtdmlghfggninbaaGreatDoor
open Go.RowKit Go.Lib
section
variable {P:Program}
end
end Go.Proofs.YtdmlghfggninbaaGreatDoor
