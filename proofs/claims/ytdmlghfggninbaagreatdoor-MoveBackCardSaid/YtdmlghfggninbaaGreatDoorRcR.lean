/- Walk of recipe.Read. Condition: the sentinels and tables that are read lie as named (RcW). -/
import Derived.Test.YtdmlghfggninbaaGreatDoorMb9
import Derived.Test.YtdmlghfggninbaaGreatDoorMb0
set_option linter.unusedVariables false
set_option linter.unusedSimpArgs false
namespace Go.Proofs.YtdmlghfggninbaaGreatDoor
open Go.RowKit Go.Lib
structure RcW(a:Nat→Addr)(w:World):Prop where
 s:SomeS [0,1,2,3,6,8] a w
 t:Tabs w
 m:MaxL w
 p:Perrs w
theorem RcW.below{a:Nat→Addr}{w w':World}(h:RcW a w)(hb:Below w.heap.size w w'):RcW a w':=⟨h.s.below hb,h.t.below hb,h.m.below hb,h.p.below hb⟩
theorem SomeS.subQ{ks js:List Nat}{a:Nat→Addr}{w:World}(h:SomeS ks a w)(hj:∀k∈js,k∈ks):SomeS js a w:=fun k hk=>h k (hj k hk)
theorem RcW.five{a:Nat→Addr}{w:World}(h:RcW a w):SomeS [1,2,3,6,8] a w:=h.s.subQ (by decide)
theorem k3c(t:ByteArray)(b:UInt8)(ht:t.size≤2^30)(w:World)(hm:MaxL w) :
  Calls Tryz.prog 120 #[.string t,.string ⟨#[b]⟩] w fun e w'=>e= .returned (.slice (some ⟨w.heap.size,0,none⟩) (K5 b t.data.toList).length (K5 b t.data.toList).length)∧w'=w.alloc (.cells ((K5 b t.data.toList).map VT).toArray 9):=by
 obtain⟨m,hm⟩:=hm
 have hc:countB t ⟨#[b]⟩=count t.data.toList [b]:=rfl
 have e1:(splitB ⟨#[b]⟩ 0 (countB t ⟨#[b]⟩) t).map (·.data.toList)=K5 b t.data.toList:=by
  rw[splitB_data]
  exact z2f b _ _ hc.symm
 have e2:(splitB ⟨#[b]⟩ 0 (countB t ⟨#[b]⟩) t).map Value.string=(K5 b t.data.toList).map VT:=by
  rw[←e1,List.map_map]
  refine List.map_congr_left (fun x _=> ?_)
  show Value.string x=Value.string (bs x.data.toList)
  rw[q0s]
 have e3:countB t ⟨#[b]⟩+1=(K5 b t.data.toList).length:=by
  rw[←e1,List.length_map]
  exact(splitB_all ⟨#[b]⟩ (zl 1) 0 _ t rfl).symm
 have h:=Tryz.strings_Split t ⟨#[b]⟩ m w (by omega) hm (zl 1)
 rw[e2,e3]at h
 exact h
theorem k3d(b:UInt8)(l:Bytes):∀cur,∀p∈D2 b cur l,p.length≤cur.length+l.length:=by
 induction l with
 | nil=>intro cur p hp;simp[D2]at hp;rw[hp];simp
 | cons c l ih=>
  intro cur p hp
  rw[D2]at hp
  split at hp
  ·rcases List.mem_cons.1 hp with rfl|hp
   ·simp
   ·have:=ih [] p hp;simp at this ⊢;omega
  ·have:=ih (cur++ [c]) p hp;simp at this ⊢;omega
theorem k3e{b:UInt8}{l p:Bytes}(h:p∈K5 b l):p.length≤l.length:=by
 have:=k3d b l [] p h
 simpa using this
theorem k3f{l:Bytes}{n k:Nat}(h:G4 l=some (n,k)):n<4294967296∧(k:Int)≤9223372036854775807:=by
 unfold G4 at h
 split at h
 ·cases h
 ·split at h
  ·next n' k' h1 h2=>
   injection h with h;injection h with e1 e2
   subst e1;subst e2
   exact⟨(q3y h1).1,(q9e (q9c h2).1).2⟩
  ·cases h
theorem k3g:∀(ws:List Bytes) (L:IdL),V6 ws=some L→L.length=ws.length∧∀x∈L,x.1<4294967296∧ -9223372036854775808≤x.2∧x.2≤9223372036854775807
 | [],L,h=>by injection h with h;subst h;exact⟨rfl,fun x hx=>by cases hx⟩
 | x::r,L,h=>by
  unfold V6 at h
  cases h1:G4 x with
  | none=>rw[h1]at h;cases h
  | some p=>
   obtain⟨n,k⟩:=p
   rw[h1]at h
   cases h2:V6 r with
   | none=>rw[h2]at h;cases h
   | some l=>
    rw[h2]at h
    injection h with h
    subst h
    obtain⟨q1,q2⟩:=k3g r l h2
    obtain⟨q3,q4⟩:=k3f h1
    refine⟨by simp[q1],fun y hy=> ?_⟩
    rcases List.mem_cons.1 hy with rfl|hy
    ·exact⟨q3,by show(-9223372036854775808:Int)≤(k:Int);omega,q4⟩
    ·exact q2 y hy
theorem k3h(ws:List Bytes):V6 ws=(V6 (ws.drop 0)).map ([]++ ·):=by rw[List.drop_zero];cases V6 ws<;>simp
theorem k3j{ws:List Bytes}{k n j:Nat}{done:IdL}(hk:k<ws.length)(h:G4 ws[k]=some (n,j))(hI:V6 ws=(V6 (ws.drop k)).map (done++ ·)):V6 ws=(V6 (ws.drop (k+1))).map ((done++ [(n,(j:Int))])++ ·):=by
 rw[hI,List.drop_eq_getElem_cons hk]
 conv=>lhs;unfold V6
 rw[h]
 cases V6 (ws.drop (k+1))with
 | none=>rfl
 | some l=>simp
theorem k3k{ws:List Bytes}{k:Nat}{done:IdL}(hk:k<ws.length)(h:G4 ws[k]=none)(hI:V6 ws=(V6 (ws.drop k)).map (done++ ·)):V6 ws=none:=by
 rw[hI,List.drop_eq_getElem_cons hk]
 conv=>lhs;unfold V6
 rw[h];rfl
theorem k3l{ws:List Bytes}{done:IdL}(hI:V6 ws=(V6 (ws.drop ws.length)).map (done++ ·)):V6 ws=some done:=by
 rw[hI,List.drop_eq_nil_of_le (zl _)];simp[V6]
def k3m(t:Bytes):Rcp:=match Y6 t with| .ok r=>r| .error _=>R8
def k3n(t:Bytes):Int×Int:=match Y6 t with| .ok _=>(0,-1)| .error f=>f
def k3o(a:Nat→Addr)(t:Bytes)(w:World)(e:Ending)(w':World):Prop:=
 ∃v x,e= .returned (.tuple #[v,x])∧EV a x (k3n t).1 (k3n t).2 w'∧RcpW w' w.heap.size w'.heap.size v (k3m t)∧Below w.heap.size w w'
theorem k3p{a:Nat→Addr}{t:Bytes}{w w':World}{f:Int×Int}{x:Value}(h:Y6 t= .error f)(hx:EV a x f.1 f.2 w')(hb:Below w.heap.size w w'):k3o a t w (.returned (.tuple #[R9,x])) w':=
 ⟨R9,x,rfl,by unfold k3n;rw[h];exact hx,by unfold k3m;rw[h];exact RcpW.zero _ _ _,hb⟩
theorem k3q{a:Nat→Addr}{t:Bytes}{w w':World}{r:Rcp}{v:Value}(h:Y6 t= .ok r)(hv:RcpW w' w.heap.size w'.heap.size v r)(hb:Below w.heap.size w w'):k3o a t w (.returned (.tuple #[v,.nilIface])) w':=
 ⟨v,_,rfl,by unfold k3n;rw[h];exact EV.none a _,by unfold k3m;rw[h];exact hv,hb⟩
theorem k3r{p q s:Bytes}{ws:List Bytes}{n u:Nat}(h1:V1 q 6=some n)(h2:K9 s=some u):z0z (p::q::s::ws)=z0y p n u (V6 ws):=by
 simp only[z0z,h1,h2]
theorem k3s{p q s:Bytes}{ws:List Bytes}(h:¬((V1 q 6).isSome=true∧(K9 s).isSome=true)):z0z (p::q::s::ws)= .error (1,-1):=by
 cases h1:V1 q 6 with
 | none=>simp only[z0z,h1]
 | some n=>
  cases h2:K9 s with
  | none=>simp only[z0z,h1,h2]
  | some u=>rw[h1,h2]at h;exact absurd ⟨rfl,rfl⟩ h
theorem k3t{L:List Bytes}(h:L.length<3):z0z L= .error (1,-1):=by
 match L,h with
 | [],_=>rfl
 | [_],_=>rfl
 | [_,_],_=>rfl
 | _::_::_::r,h=>simp at h;omega
theorem k3u{L:List Bytes}(h:¬L.length<3):∃p q s ws,L=p::q::s::ws:=by
 match L,h with
 | [],h=>simp at h
 | [_],h=>simp at h
 | [_,_],h=>simp at h
 | p::q::s::r,_=>exact⟨p,q,s,r,rfl⟩
set_option maxRecDepth 100000 in
set_option maxHeartbeats 4000000 in
theorem k3v(a:Nat→Addr)(t:ByteArray)(ht:t.size≤1000000000)(w:World)(h:RcW a w) :
  Calls Tryz.prog 123 #[.string t] w (k3o a t.data.toList w):=by
 obtain⟨i0,hi,hzz0,hzz1,hzz2⟩:=info_parts z8t
 have hz:=Z4 t
 have hb0:Below w.heap.size w (w.alloc (.cells #[.string ⟨#[]⟩,.int .i64 0,.int .u32 0,.slice none 0 0] 40)):=(zb _ w).alloc (zl _) _
 have hwr:Box4 w.heap.size (.string ⟨#[]⟩) (.int .i64 0) (.int .u32 0) (.slice none 0 0) (w.alloc (.cells #[.string ⟨#[]⟩,.int .i64 0,.int .u32 0,.slice none 0 0] 40)):=Box4.mk' _ _ _ _ _ _
 have HW00:=zh h
 have HW:=zh (h.below hb0)
 have HWR:=zh hwr
 have HB0:=zh hb0
 have hg0:4<w.heap.size:=World.block_lt_of_cell? w _ (h.s 0 (by simp))
 have hg1:5<w.heap.size:=World.block_lt_of_cell? w _ (h.s 1 (by simp))
 clear h hb0 hwr
 by_cases hbig:40000<t.size
 ·have hbi:(t.size:Int)>40000:=by omega
  have HE:Hid (Y6 t.data.toList= .error (2,-1)):=zh (if_pos (by omega))
  obtain⟨c0,c1,c2,c3,hf⟩:=HWR.out
  have f0:=hf 0
  have f1:=hf 1
  have f2:=hf 2
  have f3:=hf 3
  have hs1:(w.alloc (.cells #[.string ⟨#[]⟩,.int .i64 0,.int .u32 0,.slice none 0 0] 40)).cell? ⟨5,0,none⟩=some (sval a 1):=HW.out.s 1 (by simp)
  unfold sval at hs1
  have hne:¬(5=w.heap.size):=by omega
  obtain⟨d0,d1,d2,d3,_⟩:=HWR.out.set (.string ⟨#[]⟩) (.int .i64 0) (.int .u32 0) (.slice none 0 0)
  have HB9:=zh (Z7 HB0.out (zl _) (.string ⟨#[]⟩) (.int .i64 0) (.int .u32 0) (.slice none 0 0)).drew
  clear hf hz hbig
  go_enter Tryz.func123,Tryz.ntmps123
  go_wp2_with fail
  generalize w.alloc (.cells #[.string ⟨#[]⟩,.int .i64 0,.int .u32 0,.slice none 0 0] 40)=w0 at *
  go_wp2
  go_region
  go_wp2
  refine bodyPost_ret (v:= .tuple #[R9,.iface 376 (.pointer (some (a 1)))]) (by simp[results,Tryz.results123,go_sem,d0,d1,d2,d3,R9]) rfl ?_
  exact k3p HE.out (EV.sent a _ 1 (by decide)) HB9.out
 ·have hbi:¬(t.size:Int)>40000:=by omega
  have HR:Hid (Y6 t.data.toList=z0z (K5 32 t.data.toList)):=zh (if_neg (by omega))
  have HML:=zh (fun p (hp:p∈K5 32 t.data.toList)=>k3e hp)
  have HLN:=zh (q9u 32 t.data.toList [])
  have HSZ:Hid (t.data.toList.length≤40000):=zh (by omega)
  have HBT:=zh (q0s t)
  clear hz hbig
  go_enter Tryz.func123,Tryz.ntmps123
  go_wp2_with fail
  generalize w.alloc (.cells #[.string ⟨#[]⟩,.int .i64 0,.int .u32 0,.slice none 0 0] 40)=w1 at *
  refine(k3c t 32 (by omega) _ HW.out.m).mono ?_
  rintro e w2 ⟨rfl,hw2⟩
  have hb2:Below w1.heap.size w1 w2:=by rw[hw2];exact(zb _ _).alloc (zl _) _
  have hcell2:∀(k:Nat) (u:Value),((K5 32 t.data.toList).map VT)[k]? =some u→w2.cell? ⟨w1.heap.size,k,none⟩=some u:=fun k u hu=>by
   rw[hw2,World.cell?_alloc_at _ _ _ _ rfl]
   show((K5 32 t.data.toList).map VT).toArray[k]? =some u
   rw[List.getElem?_toArray];exact hu
  have HB2:=zh (HB0.out.trans (hb2.mono HB0.out.size))
  have hsz2:w2.heap.size=w1.heap.size+1:=by rw[hw2];simp
  have HSZ2:=zh hsz2
  have HW2:=zh (HW.out.below hb2)
  have HWR2:=zh (HWR.out.below hb2 HWR.out.lt)
  have HC2:=zh hcell2
  have HLN':Hid ((K5 32 t.data.toList).length≤40001):=zh (by have h1:=HLN.out;have h2:=HSZ.out;unfold K5;omega)
  clear hb2 hcell2 hsz2 hw2
  generalize hL:K5 32 t.data.toList=L at *
  by_cases h3:L.length<3
  ·have h3i:(L.length:Int)<3:=by omega
   have HE:Hid (Y6 t.data.toList= .error (1,-1)):=zh (by rw[HR.out];exact k3t h3)
   obtain⟨c0,c1,c2,c3,hf⟩:=HWR2.out
   have f0:=hf 0
   have f1:=hf 1
   have f2:=hf 2
   have f3:=hf 3
   have hs1:w2.cell? ⟨4,0,none⟩=some (sval a 0):=HW2.out.s 0 (by simp)
   unfold sval at hs1
   have hne:¬(4=w.heap.size):=by omega
   obtain⟨d0,d1,d2,d3,_⟩:=HWR2.out.set (.string ⟨#[]⟩) (.int .i64 0) (.int .u32 0) (.slice none 0 0)
   have HB9:=zh (Z7 HB2.out (zl _) (.string ⟨#[]⟩) (.int .i64 0) (.int .u32 0) (.slice none 0 0)).drew
   clear hf h3
   go_wp2
   go_region
   go_wp2
   refine bodyPost_ret (v:= .tuple #[R9,.iface 376 (.pointer (some (a 0)))]) (by simp[results,Tryz.results123,go_sem,d0,d1,d2,d3,R9]) rfl ?_
   exact k3p HE.out (EV.sent a _ 0 (by decide)) HB9.out
  ·have h3i:¬(L.length:Int)<3:=by omega
   obtain⟨p,q,s,ws,hLe⟩:=k3u h3
   subst hLe
   have k0:w2.cell? ⟨w1.heap.size,0,none⟩=some (.string (bs p)):=HC2.out 0 _ rfl
   have k1:w2.cell? ⟨w1.heap.size,1,none⟩=some (.string (bs q)):=HC2.out 1 _ rfl
   have k2:w2.cell? ⟨w1.heap.size,2,none⟩=some (.string (bs s)):=HC2.out 2 _ rfl
   have HP1:Hid (p.length≤40000):=zh (Nat.le_trans (HML.out p (by simp)) HSZ.out)
   have HQ1:Hid (q.length≤40000):=zh (Nat.le_trans (HML.out q (by simp)) HSZ.out)
   have HS1:Hid (s.length≤40000):=zh (Nat.le_trans (HML.out s (by simp)) HSZ.out)
   have HWM:Hid (∀x∈ws,x.length≤40000):=zh (fun x hx=>Nat.le_trans (HML.out x (by simp[hx])) HSZ.out)
   have HWC:Hid (∀k (hk:k<ws.length),w2.cell? ⟨w1.heap.size,3+k,none⟩=some (.string (bs ws[k]))):=zh (fun k hk=>HC2.out (3+k) _ (by rw[show 3+k=k+1+1+1 by omega];simp[hk]))
   have hwl:ws.length≤40000:=by have:=HLN'.out;simp at this;omega
   have hll:(p::q::s::ws).length=ws.length+3:=by simp
   have hqz:(bs q).size≤2^40:=by rw[Q8];have:=HQ1.out;omega
   have hsz3:(bs s).size≤2^40:=by rw[Q8];have:=HS1.out;omega
   have HQT:=zh (Q3 q)
   have HST:=zh (Q3 s)
   rw[hll]at h3i ⊢
   clear h3 HLN HLN' HML hll hL
   go_wp2_with fail
   by_cases hok:(V1 q 6).isSome=true∧(K9 s).isSome=true
   ·obtain⟨n,hn⟩:=Option.isSome_iff_exists.1 hok.1
    obtain⟨u,hu⟩:=Option.isSome_iff_exists.1 hok.2
    have HRE:Hid (Y6 t.data.toList=z0y p n u (V6 ws)):=zh (by rw[HR.out];exact k3r hn hu)
    have hun:=(q3y hu).1
    have hnb:=(q9e (q9c hn).1)
    refine(q9f (bs q) hqz 6 n (by decide) (by rw[HQT.out];exact hn) _ HW2.out.t).mono ?_
    rintro e w3 ⟨rfl,hb3⟩
    have K2:=(hb3.cell (p:=⟨w1.heap.size,2,none⟩) (by rw[HSZ2.out];exact Nat.lt_succ_self _)).trans k2
    have HW3:=zh (HW2.out.below hb3)
    go_wp2_with fail
    refine(q7i (bs s) hsz3 u (by rw[HST.out];exact hu) _ HW3.out.t).mono ?_
    rintro e w4 ⟨rfl,hb4⟩
    have hb24:=hb3.trans (hb4.mono hb3.size)
    have K0:=(hb24.cell (p:=⟨w1.heap.size,0,none⟩) (by rw[HSZ2.out];exact Nat.lt_succ_self _)).trans k0
    have HW4:=zh (HW2.out.below hb24)
    have HB24:=zh hb24
    clear hb3 hb4 hb24 hn hu hok
    by_cases hws:ws= []
    ·subst hws
     go_wp2
     have hA5:=(zb w4.heap.size w4).alloc (zl _) (.cells #[.string (bs p),.int .i64 (n:Int),.int .u32 (u:Int),.slice none 0 0] 40)
     have hbx5:Box4 w4.heap.size (.string (bs p)) (.int .i64 (n:Int)) (.int .u32 (u:Int)) (.slice none 0 0) (w4.alloc (.cells #[.string (bs p),.int .i64 (n:Int),.int .u32 (u:Int),.slice none 0 0] 40)):=Box4.mk' _ _ _ _ _ _
     generalize w4.alloc (.cells #[.string (bs p),.int .i64 (n:Int),.int .u32 (u:Int),.slice none 0 0] 40)=w5 at *
     have hA25:=HB24.out.trans (hA5.mono HB24.out.size)
     have HB5:=zh (HB2.out.trans (hA25.mono HB2.out.size))
     have HW5:=zh (HW2.out.below hA25)
     have HWR5:=zh (HWR2.out.below hA25 HWR2.out.lt)
     have hs2:=HSZ2.out
     have hs4:=HB24.out.size
     have hs5:=hA5.size
     have hlt0:=HWR2.out.lt
     have hlt45:=hbx5.lt
     have hlt5:w.heap.size<w5.heap.size:=by omega
     have HDL:Hid (([]:IdL).length≤1000000):=zh (by simp)
     have HDB:Hid (∀x∈([]:IdL),x.1<4294967296∧ -9223372036854775808≤x.2∧x.2≤9223372036854775807):=zh (fun x hx=>by cases hx)
     have HKD:Hid (0=([]:IdL).length):=zh rfl
     have HOE:Hid (w5.ownsRow w5.heap.size 25 2 (.slice none 0 0) 0 (U4 [])):=zh (World.ownsRow_nil _ _ _ _)
     have HRI:=zh (RdI.own HOE.out HKD.out)
     have HBXE:=zh hbx5
     have HRESE:=HWR5
     have HWE:=HW5
     have HBE:=HB5
     have HID:Hid (V6 []=some []):=zh rfl
     clear hA5 hA25
     refine wp_loop_rounds 1 ?_
     rw[rounds_succ]
     have hrb:RcpB ⟨p,(n:Int),u,([]:IdL)⟩:=⟨by have:=HP1.out;show p.length≤_;omega,hnb.1,hnb.2,hun,by show(([]:IdL):IdL).length≤_;have:=HDL.out;omega,HDB.out⟩
     have CK:=j4j a (.agg #[.string (bs p),.int .i64 (n:Int),.int .u32 (u:Int),(.slice none 0 0)]) ⟨p,(n:Int),u,([]:IdL)⟩ hrb w5 ⟨(.slice none 0 0),rfl,HRI.out⟩ HWE.out.five
     have HCK:=zh CK
     obtain⟨x0,x1,x2,x3,_⟩:=HBXE.out
     clear CK hrb
     go_wp2_with fail
     refine HCK.out.mono ?_
     rintro e w8 ⟨x,rfl,hev,hb8⟩
     obtain⟨y0,y1,y2,y3,_⟩:=HBXE.out.below hb8 HBXE.out.lt
     have hres:=HRESE.out.below hb8 HRESE.out.lt
     have HRES8:=zh hres
     obtain⟨c0,c1,c2,c3,hf⟩:=hres
     have f0:=hf 0
     have f1:=hf 1
     have f2:=hf 2
     have f3:=hf 3
     have HB8:=zh (HBE.out.trans (hb8.mono HBE.out.size))
     have HO8:=zh (Q4 HOE.out hb8)
     clear hf hb8
     by_cases hz0:(Z9 ⟨p,(n:Int),u,([]:IdL)⟩).1=0
     ·obtain⟨rfl,_⟩:=hev.nil hz0
      have HE:Hid (Y6 t.data.toList= .ok ⟨p,(n:Int),u,([]:IdL)⟩):=zh (by rw[HRE.out,HID.out];exact if_pos hz0)
      obtain⟨d0,d1,d2,d3,_⟩:=HRES8.out.set (.string (bs p)) (.int .i64 (n:Int)) (.int .u32 (u:Int)) (.slice none 0 0)
      have HB9:=zh (Z7 HB8.out (zl _) (.string (bs p)) (.int .i64 (n:Int)) (.int .u32 (u:Int)) (.slice none 0 0))
      have HP:Hid (RcpW ((((w8.setCell ⟨w.heap.size,0,none⟩ (.string (bs p))).setCell ⟨w.heap.size,1,none⟩ (.int .i64 (n:Int))).setCell ⟨w.heap.size,2,none⟩ (.int .u32 (u:Int))).setCell ⟨w.heap.size,3,none⟩ (.slice none 0 0)) w.heap.size ((((w8.setCell ⟨w.heap.size,0,none⟩ (.string (bs p))).setCell ⟨w.heap.size,1,none⟩ (.int .i64 (n:Int))).setCell ⟨w.heap.size,2,none⟩ (.int .u32 (u:Int))).setCell ⟨w.heap.size,3,none⟩ (.slice none 0 0)).heap.size (.agg #[.string (bs p),.int .i64 (n:Int),.int .u32 (u:Int),(.slice none 0 0)]) ⟨p,(n:Int),u,([]:IdL)⟩):=zh ⟨_,rfl,(RdB.own (z9d HO8.out hlt5 _ _ _ _) HKD.out).wide (Nat.le_of_lt hlt5) (zl _)⟩
      clear hev hz0
      go_wp2
      refine bodyPost_ret (v:= .tuple #[.agg #[.string (bs p),.int .i64 (n:Int),.int .u32 (u:Int),(.slice none 0 0)],.nilIface]) (by simp[results,Tryz.results123,go_sem,d0,d1,d2,d3]) rfl ?_
      exact k3q HE.out HP.out HB9.out
     ·obtain⟨T,q9,rfl⟩:=hev.some hz0
      have HE:Hid (Y6 t.data.toList= .error (Z9 ⟨p,(n:Int),u,([]:IdL)⟩)):=zh (by rw[HRE.out,HID.out];exact if_neg hz0)
      have HEV:=zh (z9f hev HRES8.out (.string ⟨#[]⟩) (.int .i64 0) (.int .u32 0) (.slice none 0 0))
      obtain⟨d0,d1,d2,d3,_⟩:=HRES8.out.set (.string ⟨#[]⟩) (.int .i64 0) (.int .u32 0) (.slice none 0 0)
      have HB9:=zh (Z7 HB8.out (zl _) (.string ⟨#[]⟩) (.int .i64 0) (.int .u32 0) (.slice none 0 0))
      clear hev hz0
      go_wp2
      refine bodyPost_ret (v:= .tuple #[R9,.iface T q9]) (by simp[results,Tryz.results123,go_sem,d0,d1,d2,d3,R9]) rfl ?_
      exact k3p HE.out HEV.out HB9.out
    ·go_wp2
     have hA5:=(zb w4.heap.size w4).alloc (zl _) (.cells #[.string (bs p),.int .i64 (n:Int),.int .u32 (u:Int),.slice none 0 0] 40)
     have hbx5:Box4 w4.heap.size (.string (bs p)) (.int .i64 (n:Int)) (.int .u32 (u:Int)) (.slice none 0 0) (w4.alloc (.cells #[.string (bs p),.int .i64 (n:Int),.int .u32 (u:Int),.slice none 0 0] 40)):=Box4.mk' _ _ _ _ _ _
     generalize w4.alloc (.cells #[.string (bs p),.int .i64 (n:Int),.int .u32 (u:Int),.slice none 0 0] 40)=w5 at *
     have hA25:=HB24.out.trans (hA5.mono HB24.out.size)
     have HB5:=zh (HB2.out.trans (hA25.mono HB2.out.size))
     have HW5:=zh (HW2.out.below hA25)
     have HWR5:=zh (HWR2.out.below hA25 HWR2.out.lt)
     have hs2:=HSZ2.out
     have hs4:=HB24.out.size
     have hs5:=hA5.size
     have hlt0:=HWR2.out.lt
     have hlt45:=hbx5.lt
     have hlt5:w.heap.size<w5.heap.size:=by omega
     have HWC5:Hid (∀k (hk:k<ws.length),w5.cell? ⟨w1.heap.size,3+k,none⟩=some (.string (bs ws[k]))):=zh (fun k hk=>(hA25.cell (p:=⟨w1.heap.size,3+k,none⟩) (by show w1.heap.size<w2.heap.size;omega)).trans (HWC.out k hk))
     clear hA5 hA25
     go_loopg [58] ws.length (fun gh vi wr=>∃(k:Nat) (done:IdL) (vs:Value),vi= .int .i64 k∧k≤ws.length∧gh=ws.length-k∧done.length=k∧Hid (V6 ws=(V6 (ws.drop k)).map (done++ ·))∧wr.ownsRow w5.heap.size 25 2 vs k (U4 done)∧w5.grownBy wr (some w4.heap.size)∧Box4 w4.heap.size (.string (bs p)) (.int .i64 (n:Int)) (.int .u32 (u:Int)) vs wr)
     case atStart=>exact⟨0,[],_,rfl,Nat.zero_le _,rfl,rfl,zh (k3h ws),World.ownsRow_nil _ _ _ _,⟨rfl,rfl,rfl,zl _,fun _ _ _=>rfl⟩,hbx5⟩
     case round=>
      obtain⟨k,done,vs,rfl,hk,hgm,hdl,hI,hrow,hg,hbx⟩:=hrel
      obtain⟨A,c,rfl⟩:=J0 hrow
      have hnew:∀b,b≠w4.heap.size→some b≠some w4.heap.size:=fun b hb e=>hb (Option.some.inj e)
      have hbl:Below w.heap.size w wr:=C4 HB5.out (by omega) (by omega) hg
      have HWr:Hid (RcW a wr):=zh (HW00.out.below hbl)
      by_cases hkl:k<ws.length
      ·have z0:=(hg.cell_far ⟨w1.heap.size,3+k,none⟩ (by show w1.heap.size<w5.heap.size;omega) (hnew _ (by show w1.heap.size≠w4.heap.size;omega))).trans (HWC5.out k hkl)
       have b1:(0:Int)≤(k:Int):=by omega
       have b2:(k:Int)<(ws.length:Int):=by omega
       have hxz:(bs ws[k]).size≤2^30:=by rw[Q8];have:=HWM.out ws[k] (List.getElem_mem hkl);omega
       have HXT:=zh (Q3 ws[k])
       have HROW:=zh hrow
       have HG:=zh hg
       have HBX:=zh hbx
       have HBL:=zh hbl
       clear hrow hg hbx hbl
       cases hx:G4 ws[k]with
       | none=>
        have HE:Hid (Y6 t.data.toList= .error (1,-1)):=zh (by rw[HRE.out,k3k hkl hx hI.out];rfl)
        have PR:=zh (q9n a (bs ws[k]) hxz (by rw[HXT.out];exact hx) wr HWr.out.t HWr.out.m HWr.out.p (HWr.out.s.subQ (by decide)))
        clear hx hI
        go_wp2_with fail
        refine PR.out.mono ?_
        rintro e w6 ⟨rfl,hb6⟩
        have hA6:=hb6.alloc hb6.size (.cells #[.int .u32 0,.int .i64 0] 25)
        have hres:=(z8z HG.out (hnew _ (by omega)) HWR5.out).below hA6 (z8z HG.out (hnew _ (by omega)) HWR5.out).lt
        have HRES:=zh hres
        obtain⟨c0,c1,c2,c3,hf⟩:=hres
        have f0:=hf 0
        have f1:=hf 1
        have f2:=hf 2
        have f3:=hf 3
        have hs1:(w6.alloc (.cells #[.int .u32 0,.int .i64 0] 25)).cell? ⟨4,0,none⟩=some (sval a 0):=(HWr.out.below hA6).s 0 (by simp)
        unfold sval at hs1
        have hne:¬(4=w.heap.size):=by omega
        obtain⟨d0,d1,d2,d3,_⟩:=HRES.out.set (.string ⟨#[]⟩) (.int .i64 0) (.int .u32 0) (.slice none 0 0)
        have HB9:=zh (Z7 (HBL.out.trans (hA6.mono HBL.out.size)) (zl _) (.string ⟨#[]⟩) (.int .i64 0) (.int .u32 0) (.slice none 0 0)).drew
        clear hf hb6 hA6
        unfold sval
        go_wp2
        go_region
        go_wp2
        refine bodyPost_ret (v:= .tuple #[R9,.iface 376 (.pointer (some (a 0)))]) (by simp[results,Tryz.results123,go_sem,d0,d1,d2,d3,R9]) rfl ?_
        exact k3p HE.out (EV.sent a _ 0 (by decide)) HB9.out
       | some nj=>
        obtain⟨nn,jj⟩:=nj
        obtain⟨hn32,hj64⟩:=k3f hx
        have HN:=zh (k3j hkl hx hI.out)
        have PR:=zh (q9k (bs ws[k]) hxz nn jj (by rw[HXT.out];exact hx) wr HWr.out.t HWr.out.m)
        clear hx hI
        go_wp2_with fail
        refine PR.out.mono ?_
        rintro e w6 ⟨rfl,hb6⟩
        have hA6:=hb6.alloc hb6.size (.cells #[.int .u32 (nn:Int),.int .i64 (jj:Int)] 25)
        have hbx6:=HBX.out.below hA6 HBX.out.lt
        have HBX6:=zh hbx6
        obtain⟨x0,x1,x2,x3,_⟩:=hbx6
        have ho6:=Q4 HROW.out hA6
        have HG6:=zh (z8u HG.out hA6)
        clear hb6 hA6
        go_wp2_with(at_builtin;refine wpList_append_own _ rfl _ _ 38 rfl w5.heap.size 25 i0 (.agg #[.int .u32 0,.int .i64 0]) 2 16 Tryz.underlying38 hi hzz0 hzz1 hzz2 rfl (by decide) _ _ _ rfl (ho6.alloc _) ⟨w6.heap.size+1,0,none⟩ 1 1 [.int .u32 (nn:Int),.int .i64 (jj:Int)] rfl rfl (by have:=z8s (w6.alloc (.cells #[.int .u32 (nn:Int),.int .i64 (jj:Int)] 25)) (.int .u32 (nn:Int)) (.int .i64 (jj:Int)) 25;simpa using this) (by simp[Value.oneCell']) (by unfold maxLen;omega) (by omega) (by have:=HG6.out.size;simp at this ⊢;omega) ?_;intro v8 w8 ho8 hg8 _;obtain⟨A8,c8,rfl⟩:=J0 ho8;have HBX8:=zh (z8z hg8 (z9a ho6 hlt45) (HBX6.out.below ((zb _ _).alloc (zl _) _) HBX6.out.lt));have c38:=HBX8.out.c3;have f38:=HBX8.out.f 3)
        go_roundg (ws.length-(k+1))
        case measure=>omega
        case rel=>exact⟨k+1,done++ [(nn,(jj:Int))],_,by go_num,hkl,rfl,by rw[List.length_append,hdl];rfl,HN,z9b (by rw[z8p];exact ho8) hlt45,z8w (z8x (z8u HG6.out ((zb _ _).alloc (zl _) _)) (zl _) (ho6.alloc _) hg8) _ _,HBX8.out.set3 _⟩
      ·obtain rfl:k=ws.length:=by omega
       have HDL:Hid (done.length≤1000000):=zh (by omega)
       have hid:=k3l hI.out
       have HDB:Hid (∀x∈done,x.1<4294967296∧ -9223372036854775808≤x.2∧x.2≤9223372036854775807):=zh (k3g _ _ hid).2
       have HKD:Hid (ws.length=done.length):=zh hdl.symm
       have HOE:=zh hrow
       have HRI:=zh (RdI.own HOE.out HKD.out)
       have HBXE:=zh hbx
       have HRESE:=zh (z8z hg (hnew _ (by omega)) HWR5.out)
       have HWE:=HWr
       have HBE:=zh hbl
       have HID:=zh hid
       clear hid hI hrow hbx hg hbl hdl
       have hrb:RcpB ⟨p,(n:Int),u,done⟩:=⟨by have:=HP1.out;show p.length≤_;omega,hnb.1,hnb.2,hun,by show(done:IdL).length≤_;have:=HDL.out;omega,HDB.out⟩
       have CK:=j4j a (.agg #[.string (bs p),.int .i64 (n:Int),.int .u32 (u:Int),(.slice A ws.length c)]) ⟨p,(n:Int),u,done⟩ hrb wr ⟨(.slice A ws.length c),rfl,HRI.out⟩ HWE.out.five
       have HCK:=zh CK
       obtain⟨x0,x1,x2,x3,_⟩:=HBXE.out
       clear CK hrb
       go_wp2_with fail
       refine HCK.out.mono ?_
       rintro e w8 ⟨x,rfl,hev,hb8⟩
       obtain⟨y0,y1,y2,y3,_⟩:=HBXE.out.below hb8 HBXE.out.lt
       have hres:=HRESE.out.below hb8 HRESE.out.lt
       have HRES8:=zh hres
       obtain⟨c0,c1,c2,c3,hf⟩:=hres
       have f0:=hf 0
       have f1:=hf 1
       have f2:=hf 2
       have f3:=hf 3
       have HB8:=zh (HBE.out.trans (hb8.mono HBE.out.size))
       have HO8:=zh (Q4 HOE.out hb8)
       clear hf hb8
       by_cases hz0:(Z9 ⟨p,(n:Int),u,done⟩).1=0
       ·obtain⟨rfl,_⟩:=hev.nil hz0
        have HE:Hid (Y6 t.data.toList= .ok ⟨p,(n:Int),u,done⟩):=zh (by rw[HRE.out,HID.out];exact if_pos hz0)
        obtain⟨d0,d1,d2,d3,_⟩:=HRES8.out.set (.string (bs p)) (.int .i64 (n:Int)) (.int .u32 (u:Int)) (.slice A ws.length c)
        have HB9:=zh (Z7 HB8.out (zl _) (.string (bs p)) (.int .i64 (n:Int)) (.int .u32 (u:Int)) (.slice A ws.length c))
        have HP:Hid (RcpW ((((w8.setCell ⟨w.heap.size,0,none⟩ (.string (bs p))).setCell ⟨w.heap.size,1,none⟩ (.int .i64 (n:Int))).setCell ⟨w.heap.size,2,none⟩ (.int .u32 (u:Int))).setCell ⟨w.heap.size,3,none⟩ (.slice A ws.length c)) w.heap.size ((((w8.setCell ⟨w.heap.size,0,none⟩ (.string (bs p))).setCell ⟨w.heap.size,1,none⟩ (.int .i64 (n:Int))).setCell ⟨w.heap.size,2,none⟩ (.int .u32 (u:Int))).setCell ⟨w.heap.size,3,none⟩ (.slice A ws.length c)).heap.size (.agg #[.string (bs p),.int .i64 (n:Int),.int .u32 (u:Int),(.slice A ws.length c)]) ⟨p,(n:Int),u,done⟩):=zh ⟨_,rfl,(RdB.own (z9d HO8.out hlt5 _ _ _ _) HKD.out).wide (Nat.le_of_lt hlt5) (zl _)⟩
        clear hev hz0
        go_wp2
        refine bodyPost_ret (v:= .tuple #[.agg #[.string (bs p),.int .i64 (n:Int),.int .u32 (u:Int),(.slice A ws.length c)],.nilIface]) (by simp[results,Tryz.results123,go_sem,d0,d1,d2,d3]) rfl ?_
        exact k3q HE.out HP.out HB9.out
       ·obtain⟨T,q9,rfl⟩:=hev.some hz0
        have HE:Hid (Y6 t.data.toList= .error (Z9 ⟨p,(n:Int),u,done⟩)):=zh (by rw[HRE.out,HID.out];exact if_neg hz0)
        have HEV:=zh (z9f hev HRES8.out (.string ⟨#[]⟩) (.int .i64 0) (.int .u32 0) (.slice none 0 0))
        obtain⟨d0,d1,d2,d3,_⟩:=HRES8.out.set (.string ⟨#[]⟩) (.int .i64 0) (.int .u32 0) (.slice none 0 0)
        have HB9:=zh (Z7 HB8.out (zl _) (.string ⟨#[]⟩) (.int .i64 0) (.int .u32 0) (.slice none 0 0))
        clear hev hz0
        go_wp2
        refine bodyPost_ret (v:= .tuple #[R9,.iface T q9]) (by simp[results,Tryz.results123,go_sem,d0,d1,d2,d3,R9]) rfl ?_
        exact k3p HE.out HEV.out HB9.out
   ·have HE:Hid (Y6 t.data.toList= .error (1,-1)):=zh (by rw[HR.out];exact k3s hok)
    have hor:(V1 q 6).isSome=false∨((V1 q 6).isSome=true∧(K9 s).isSome=false):=by
     cases h1:(V1 q 6).isSome with
     | false=>exact .inl rfl
     | true=>exact .inr ⟨rfl,by cases h2:(K9 s).isSome with|false=>rfl|true=>exact absurd ⟨h1,h2⟩ hok⟩
    have HOR:=zh hor
    clear hor hok
    have NB:=q9m (bs q) hqz 6 (by decide) w2 HW2.out.t HW2.out.p
    rw[HQT.out]at NB
    refine NB.mono ?_
    rintro e w3 ⟨z1,rfl,hb3⟩
    have K2:=(hb3.cell (p:=⟨w1.heap.size,2,none⟩) (by rw[HSZ2.out];exact Nat.lt_succ_self _)).trans k2
    have HW3:=zh (HW2.out.below hb3)
    clear NB
    go_wp2_with fail
    have UB:=q9l (bs s) hsz3 w3 HW3.out.t HW3.out.p
    rw[HST.out]at UB
    refine UB.mono ?_
    rintro e w4 ⟨z2,rfl,hb4⟩
    have hb24:=hb3.trans (hb4.mono hb3.size)
    obtain⟨c0,c1,c2,c3,hf⟩:=HWR2.out.below hb24 HWR2.out.lt
    have f0:=hf 0
    have f1:=hf 1
    have f2:=hf 2
    have f3:=hf 3
    have hs1:w4.cell? ⟨4,0,none⟩=some (sval a 0):=(HW2.out.below hb24).s 0 (by simp)
    unfold sval at hs1
    have hne:¬(4=w.heap.size):=by omega
    obtain⟨d0,d1,d2,d3,_⟩:=(HWR2.out.below hb24 HWR2.out.lt).set (.string ⟨#[]⟩) (.int .i64 0) (.int .u32 0) (.slice none 0 0)
    have HB9:=zh (Z7 (HB2.out.trans (hb24.mono HB2.out.size)) (zl _) (.string ⟨#[]⟩) (.int .i64 0) (.int .u32 0) (.slice none 0 0)).drew
    generalize(V1 q 6).isSome=o1 at *
    generalize(K9 s).isSome=o2 at *
    have hor:=HOR.out
    clear hf UB HOR hb3 hb4 hb24
    rcases hor with rfl|⟨rfl,rfl⟩
    ·go_wp2
     go_region
     go_wp2
     refine bodyPost_ret (v:= .tuple #[R9,.iface 376 (.pointer (some (a 0)))]) (by simp[results,Tryz.results123,go_sem,d0,d1,d2,d3,R9]) rfl ?_
     exact k3p HE.out (EV.sent a _ 0 (by decide)) HB9.out
    ·go_wp2
     go_region
     go_wp2
     refine bodyPost_ret (v:= .tuple #[R9,.iface 376 (.pointer (some (a 0)))]) (by simp[results,Tryz.results123,go_sem,d0,d1,d2,d3,R9]) rfl ?_
     exact k3p HE.out (EV.sent a _ 0 (by decide)) HB9.out
end Go.Proofs.YtdmlghfggninbaaGreatDoor
