/- Walk of move.load: files and pieces of a text. Condition: the sentinels and tables that are read lie as named (RcW). -/
import Derived.Test.YtdmlghfggninbaaGreatDoorMb15
import Derived.Test.YtdmlghfggninbaaGreatDoorRcR
import Derived.Test.YtdmlghfggninbaaGreatDoorMb7
import Derived.Test.YtdmlghfggninbaaGreatDoorMb17
import Derived.OwnWalk
set_option linter.unusedVariables false
set_option linter.unusedSimpArgs false
namespace Go.Proofs.YtdmlghfggninbaaGreatDoor
open Go.RowKit Go.Lib Go.Maps
theorem k6b{s:Bytes}(h:40000<s.length):R4 s= .error 2:=by unfold R4;rw[if_pos h]
theorem k6c{s:Bytes}(h:s.length<8):R4 s= .error 1:=by unfold R4;rw[if_neg (by omega),if_pos h]
structure LdS(s q e:Bytes):Prop where
 l:s.length≤40000
 l8:8≤s.length
 q:q=s.take (s.length-8)
 e:e=s.drop (s.length-8)
section
variable {s q e hd rest b c u:Bytes} {mark n m:Nat}
theorem LdS.start(h:LdS s q e):R4 s=match J1 10 q,K9 e with
 | some (h,rest),some mark=>match K5 32 h with
  | [a,b,c]=>if a=j5s then match V1 b 6,V1 c 6 with
    | some n,some m=>if rest.length<m then .error 1 else match U9 (rest.take (rest.length-m))with
     | none=> .error 1
     | some fs=>if(Y5 (rest.drop (rest.length-m))).2.1=0∧fs.length=n then
       if mark=prOf q then .ok (fs,(Y5 (rest.drop (rest.length-m))).1)else .error 9
      else .error 1
    | _,_=> .error 1
   else .error 1
  | _=> .error 1
 | _,_=> .error 1:=by
 unfold R4
 rw[if_neg (by have:=h.l;omega),if_neg (by have:=h.l8;omega),←h.q,←h.e]
 rfl
theorem LdS.cut(h:LdS s q e)(hc:J1 10 q=none):R4 s= .error 1:=by rw[h.start,hc]
theorem LdS.nomark(h:LdS s q e)(hu:K9 e=none):R4 s= .error 1:=by
 rw[h.start,hu]
 cases J1 10 q<;>rfl
theorem LdS.three(h:LdS s q e)(hc:J1 10 q=some (hd,rest))(h3:(K5 32 hd).length≠3):R4 s= .error 1:=by
 rw[h.start,hc]
 cases K9 e with
 | none=>rfl
 | some mark=>
  simp only
  split
  ·next hw=>rw[hw]at h3;exact absurd rfl h3
  ·rfl
theorem LdS.word(h:LdS s q e)(hc:J1 10 q=some (hd,rest))(hw:K5 32 hd= [u,b,c])(hx:u≠j5s):R4 s= .error 1:=by
 rw[h.start,hc]
 cases K9 e with
 | none=>rfl
 | some mark=>simp only[hw];rw[if_neg hx]
structure LdH(s q e hd rest b c:Bytes)(mark:Nat):Prop where
 s:LdS s q e
 hc:J1 10 q=some (hd,rest)
 hu:K9 e=some mark
 hw:K5 32 hd= [j5s,b,c]
theorem LdH.start(h:LdH s q e hd rest b c mark):R4 s=match V1 b 6,V1 c 6 with
  | some n,some m=>if rest.length<m then .error 1 else match U9 (rest.take (rest.length-m))with
   | none=> .error 1
   | some fs=>if(Y5 (rest.drop (rest.length-m))).2.1=0∧fs.length=n then
     if mark=prOf q then .ok (fs,(Y5 (rest.drop (rest.length-m))).1)else .error 9
    else .error 1
  | _,_=> .error 1:=by
 rw[h.s.start,h.hc,h.hu]
 simp only[h.hw,if_true]
theorem LdH.num1(h:LdH s q e hd rest b c mark)(hn:V1 b 6=none):R4 s= .error 1:=by rw[h.start,hn]
theorem LdH.num2(h:LdH s q e hd rest b c mark)(hm:V1 c 6=none):R4 s= .error 1:=by
 rw[h.start,hm]
 cases V1 b 6<;>rfl
theorem LdH.big(h:LdH s q e hd rest b c mark)(hm:V1 c 6=some m)(hl:rest.length<m):R4 s= .error 1:=by
 rw[h.start,hm]
 cases V1 b 6 with
 | none=>rfl
 | some n=>simp only;rw[if_pos hl]
structure LdN(s q e hd rest b c ls tx:Bytes)(mark n:Nat):Prop where
 h:LdH s q e hd rest b c mark
 hn:V1 b 6=some n
 ex:∃m,V1 c 6=some m∧m≤rest.length∧ls=rest.take (rest.length-m)∧tx=rest.drop (rest.length-m)
variable {ls tx:Bytes} {fs:List Rcp}
theorem LdN.start(h:LdN s q e hd rest b c ls tx mark n):R4 s=match U9 ls with
   | none=> .error 1
   | some fs=>if(Y5 tx).2.1=0∧fs.length=n then if mark=prOf q then .ok (fs,(Y5 tx).1)else .error 9 else .error 1:=by
 obtain⟨m,h1,h2,rfl,rfl⟩:=h.ex
 rw[h.h.start,h.hn,h1]
 simp only
 rw[if_neg (by omega)]
theorem LdN.files(h:LdN s q e hd rest b c ls tx mark n)(hf:U9 ls=none):R4 s= .error 1:=by rw[h.start,hf]
theorem LdN.pieces(h:LdN s q e hd rest b c ls tx mark n)(hf:U9 ls=some fs)(hr:¬((Y5 tx).2.1=0∧fs.length=n)):R4 s= .error 1:=by rw[h.start,hf];simp only;rw[if_neg hr]
theorem LdN.sum(h:LdN s q e hd rest b c ls tx mark n)(hf:U9 ls=some fs)(hr:(Y5 tx).2.1=0∧fs.length=n)(hm:mark≠prOf q):R4 s= .error 9:=by rw[h.start,hf];simp only;rw[if_pos hr,if_neg hm]
theorem LdN.fine(h:LdN s q e hd rest b c ls tx mark n)(hf:U9 ls=some fs)(hr:(Y5 tx).2.1=0∧fs.length=n)(hm:mark=prOf q):R4 s= .ok (fs,(Y5 tx).1):=by rw[h.start,hf];simp only;rw[if_pos hr,if_pos hm]
end
def rcB(lo:Nat):RowK Rcp where
 n:=4
 cells:=fun r sl=> [VT r.name,.int .i64 r.len,.int .u32 (r.print:Int),sl]
 len:=fun _ _=>rfl
 m:=fun r=>r.ids.length
 rd:=fun w B r sl=>RdI w B sl r.ids∧∀g,sl.ownBlock=some g→0<r.ids.length→lo≤g
 one:=fun h=>rcK.one h.1
 keep:=fun h hb h1=>⟨RdI.keep h.1 hb h1,h.2⟩
 more:=fun h hB=>⟨RdI.more h.1 hB,h.2⟩
 far:=fun h hg hB hf=>⟨RdC.farR h.1 hg hB hf,h.2⟩
 lt:=fun h h0 e=>RdC.ltR h.1 h0 e
theorem OwX.rsB{w:World}{lo base:Nat}{T:TypeId}{v:Value}{l:List Rcp}(h:OwX (rcB lo) w base T v l):RsRd w w.heap.size v l:=by
 obtain⟨A,c,hv,hc,hx⟩:=h.form
 refine⟨A,c,hv,hc,fun h0=> ?_⟩
 obtain⟨g,hA,_,hg,hcell⟩:=hx h0
 refine⟨g,0,hA,hg,fun k hk=> ?_⟩
 obtain⟨sl,hsl,hcs⟩:=hcell k hk
 have at_:∀j u,j<4→((rcB lo).cells l[k] sl)[j]? =some u→w.cell? ⟨g,0+k*4+j,none⟩=some u:=fun j u hj hu=>by rw[Nat.zero_add];exact hcs j u hj hu
 exact⟨sl,hsl.1,at_ 0 _ (by decide) rfl,at_ 1 _ (by decide) rfl,at_ 2 _ (by decide) rfl,at_ 3 _ (by decide) rfl⟩
theorem OwX.low{α:Type}{K:RowK α}{w:World}{base b0:Nat}{T:TypeId}{v:Value}{l:List α}(h:OwX K w base T v l)(hb:b0≤base):OwX K w b0 T v l:=by
 obtain⟨E,he,ho,hx⟩:=h
 exact⟨E,he,M2 ho hb,hx⟩
def LoadTo(a:Nat→Addr)(s:Bytes)(w:World)(e:Ending)(w':World):Prop:=
 (∃c r,R4 s= .error c∧c≠0∧e= .returned (.tuple #[.slice none 0 0,.slice none 0 0,r])∧ES a r c∧Below w.heap.size w w') ∨
  ∃fs L v1 v2,R4 s= .ok (fs,L)∧e= .returned (.tuple #[v1,v2,.nilIface])∧OwX (rcB w.heap.size) w' w.heap.size 40 v1 fs∧RdL w' w'.heap.size v2 L∧Below w.heap.size w w'
theorem LoadTo.bad{a:Nat→Addr}{s:Bytes}{w w':World}{k:Nat}(h:R4 s= .error ((k:Int)+1))(hk:k<12)(hb:Below w.heap.size w w'):LoadTo a s w (.returned (.tuple #[.slice none 0 0,.slice none 0 0,.iface 376 (.pointer (some (a k)))])) w':=
 .inl ⟨_,_,h,by omega,rfl,ES.sent a k hk,hb⟩
structure MvW(a:Nat→Addr)(w:World):Prop where
 r:RcW a w
 s:SomeS [0,1,2,3,4,5,6,7,8,10] a w
theorem MvW.below{a:Nat→Addr}{w w':World}(h:MvW a w)(hb:Below w.heap.size w w'):MvW a w':=⟨h.r.below hb,h.s.below hb⟩
theorem MvW.text{a:Nat→Addr}{w:World}(h:MvW a w):w.cell? ⟨4,0,none⟩=some (.iface 376 (.pointer (some (a 0)))):=h.s 0 (by simp)
theorem MvW.bound{a:Nat→Addr}{w:World}(h:MvW a w):w.cell? ⟨5,0,none⟩=some (.iface 376 (.pointer (some (a 1)))):=h.s 1 (by simp)
theorem MvW.esum{a:Nat→Addr}{w:World}(h:MvW a w):w.cell? ⟨8,0,none⟩=some (.iface 376 (.pointer (some (a 8)))):=h.s 8 (by simp)
theorem k6d{b:UInt8}{l d r:Bytes}(h:U6 b l=(d,r,true)):J1 b l=some (d,r):=by
 cases hc:J1 b l with
 | none=>rw[k3x hc]at h;cases h
 | some q=>
  rw[k3w (d:=q.1) (r:=q.2) hc]at h
  injection h with h1 h2
  injection h2 with h2 _
  rw[←h1,←h2]
theorem k6e{b:UInt8}{l d r:Bytes}(h:U6 b l=(d,r,false)):J1 b l=none:=by
 cases hc:J1 b l with
 | none=>rfl
 | some q=>rw[k3w (d:=q.1) (r:=q.2) hc]at h;cases h
theorem k6f{t:Bytes}{f:Int×Int}(h:Y6 t= .error f):f.1≠0:=by
 unfold Y6 at h
 split at h
 ·injection h with h;subst h;decide
 ·unfold z0z at h
  split at h
  ·split at h
   ·unfold z0y at h
    split at h
    ·split at h
     ·cases h
     ·next h0=>injection h with h;subst h;exact h0
    ·injection h with h;subst h;decide
   ·injection h with h;subst h;decide
  ·injection h with h;subst h;decide
theorem k6g(l:Bytes):(bs l).toList=l:=by rw[ByteArray.toList_eq,Q3]
theorem k6h(l:Bytes)(hl:l.length≤2^40)(w:World)(htab:Tabs w)(hp:Perrs w) :
  Calls Tryz.prog 121 #[.string (bs l)] w fun e w'=>∃x:Int,e= .returned (.tuple #[.int .u32 x,.bool (K9 l).isSome])∧(∀m,K9 l=some m→x=(m:Int))∧Below w.heap.size w w':=by
 cases h:K9 l with
 | none=>
  refine(q7j (bs l) (by rw[Q8];exact hl) (by rw[Q3];exact h) w htab hp).mono ?_
  rintro e w' ⟨rfl,hb⟩
  exact⟨_,rfl,fun m hm=>(by cases hm),hb⟩
 | some n=>
  refine(q7i (bs l) (by rw[Q8];exact hl) n (by rw[Q3];exact h) w htab).mono ?_
  rintro e w' ⟨rfl,hb⟩
  exact⟨_,rfl,fun m hm=>(by injection hm with hm;rw[hm]),hb⟩
set_option maxRecDepth 100000 in
set_option maxHeartbeats 8000000 in
theorem k6i(a:Nat→Addr)(s:Bytes)(hs:s.length≤1000000000)(w:World)(h:MvW a w) :
  Calls Tryz.prog 62 #[.string (bs s)] w (LoadTo a s w):=by
 have hz:(bs s).size=s.length:=Q8 s
 have HW:=zh h
 have HBT:=zh h.bound
 have HTX:=zh h.text
 obtain⟨i0,hi,hz0,hz1,hz2⟩:=info_parts k2y
 clear h
 by_cases hl:40000<s.length
 ·have hbi:((bs s).size:Int)>40000:=by omega
  have se:=HBT.out
  have HL:=zh (k6b hl)
  clear hl hz
  go_enter Tryz.func62,Tryz.ntmps62
  go_wp2
  go_region
  go_wp2
  go_ret3
  exact LoadTo.bad (k:=1) HL.out (by decide) (zb _ w).drew
 ·have hbi:¬((bs s).size:Int)>40000:=by omega
  by_cases h8:s.length<8
  ·have hbj:((bs s).size:Int)<8:=by omega
   have se:=HTX.out
   have HL:=zh (k6c h8)
   clear hl hz h8
   go_enter Tryz.func62,Tryz.ntmps62
   go_wp2
   go_region
   go_wp2
   go_ret3
   exact LoadTo.bad (k:=0) HL.out (by decide) (zb _ w).drew
  ·have hbj:¬((bs s).size:Int)<8:=by omega
   obtain⟨q,hq⟩:∃q,q=s.take (s.length-8):=⟨_,rfl⟩
   obtain⟨u,hu⟩:∃u,u=s.drop (s.length-8):=⟨_,rfl⟩
   have HD:=zh (LdS.mk (by omega) (by omega) hq hu)
   have hql:q.length≤40000:=by rw[hq,List.length_take];omega
   have hul:u.length≤40000:=by rw[hu,List.length_drop];omega
   obtain⟨n,hn⟩:∃n:Nat,n=s.length-8:=⟨_,rfl⟩
   have hn8:((bs s).size:Int)-8=(n:Int):=by omega
   have E1:Hid ((bs s).extract 0 n=bs q):=zh (by rw[q0v,Q3,List.drop_zero,hq,hn])
   have E2:Hid ((bs s).extract n (bs s).size=bs u):=zh (by rw[q0v,Q3,hu,hn,hz,List.take_length])
   have b1:(0:Int)≤(n:Int):=by omega
   have b2:(n:Int)≤((bs s).size:Int):=by omega
   have HNN:=zh hn8
   clear hq hu hn hl h8 hz
   go_enter Tryz.func62,Tryz.ntmps62
   obtain⟨c1,c2,bb,hcr⟩:∃c1 c2 bb,U6 10 q=(c1,c2,bb):=⟨_,_,_,rfl⟩
   have hcl:=k3y 10 q
   have HC:=zh (k3z q 10 (by omega) w.drew (HW.out.below (zb _ w).drew).r.m)
   rw[hcr]at HC hcl
   rw[show VT c1= .string (bs c1)from rfl,show VT c2= .string (bs c2)from rfl]at HC
   have HCR:=zh hcr
   have hc1:c1.length≤40000:=Nat.le_trans hcl.1 hql
   have hc2:c2.length≤40000:=Nat.le_trans hcl.2 hql
   have HWB:Hid (Below w.heap.size w w.drew):=zh (zb _ w).drew
   clear hcl hcr
   go_wp2
   go_region
   go_wp2_with fail
   rw[E1.out,E2.out]
   generalize w.drew=w1 at *
   clear HNN hn8 E1 E2 b1 b2 hbi hbj
   refine HC.out.mono ?_
   rintro e w2 ⟨rfl,hb2⟩
   have HB2:=zh (HWB.out.trans (hb2.mono HWB.out.size))
   have hsp:=k3c (bs c1) 32 (by rw[Q8];omega) w2 (HW.out.below HB2.out).r.m
   rw[Q3]at hsp
   have HSP:=zh hsp
   clear hb2 HC HWB hsp
   go_wp2_with fail
   refine HSP.out.mono ?_
   rintro e w3 ⟨rfl,hw3⟩
   have hb3:Below w2.heap.size w2 w3:=by rw[hw3];exact(zb _ _).alloc (zl _) _
   have HCE:Hid (∀(k:Nat) (x:Value),((K5 32 c1).map VT)[k]? =some x→w3.cell? ⟨w2.heap.size,k,none⟩=some x):=zh (fun k x hx=>by
    rw[hw3,World.cell?_alloc_at _ _ _ _ rfl]
    show((K5 32 c1).map VT).toArray[k]? =some x
    rw[List.getElem?_toArray];exact hx)
   have hg3:w2.heap.size<w3.heap.size:=by rw[hw3];simp
   have HB3:=zh (HB2.out.trans (hb3.mono HB2.out.size))
   have HUN:=zh (k6h u (by omega) w3 (HW.out.below HB3.out).r.t (HW.out.below HB3.out).r.p)
   clear hb3 hw3 HSP
   generalize w2.heap.size=g at *
   go_wp2_with fail
   refine HUN.out.mono ?_
   rintro e w4 ⟨xm,rfl,hxm,hb4⟩
   have HB4:=zh (HB3.out.trans (hb4.mono HB3.out.size))
   have HCE4:Hid (∀(k:Nat) (x:Value),((K5 32 c1).map VT)[k]? =some x→w4.cell? ⟨g,k,none⟩=some x):=zh (fun k x hx=>(hb4.cell (p:=⟨g,k,none⟩) hg3).trans (HCE.out k x hx))
   have HW4:=zh (HW.out.below HB4.out)
   have HXM:=zh hxm
   clear hb4 hxm HUN HCE hg3
   generalize hbb:(K9 u).isSome=b2 at *
   cases bb with
   | false=>
    have HL:=zh (HD.out.cut (k6e HCR.out))
    clear hbb
    have se:=HW4.out.text
    go_wp2
    go_region
    go_wp2
    go_ret3
    exact LoadTo.bad (k:=0) (HL.out) (by decide) (HB4.out.drew)
   | true=>
    cases b2 with
    | false=>
     have HL:=zh (HD.out.nomark (by cases h:K9 u with|none=>rfl|some m=>rw[h]at hbb;cases hbb))
     clear hbb
     have se:=HW4.out.text
     go_wp2
     go_region
     go_wp2
     go_ret3
     exact LoadTo.bad (k:=0) (HL.out) (by decide) (HB4.out.drew)
    | true=>
     obtain⟨mark,hmk⟩:=Option.isSome_iff_exists.1 hbb
     obtain rfl:=HXM.out mark hmk
     have HMK:=zh hmk
     have HBC:=zh (k6d HCR.out)
     have HML:=zh (fun p (hp:p∈K5 32 c1)=>Nat.le_trans (k3e hp) hc1)
     clear hbb hmk HXM HCR
     generalize hL:K5 32 c1=L at *
     by_cases h3:L.length=3
     ·obtain⟨x0,xb,xc,rfl⟩:∃a b c,L= [a,b,c]:=by
       match L,h3 with
       | [a,b,c],_=>exact⟨a,b,c,rfl⟩
      have k0:w4.cell? ⟨g,0,none⟩=some (.string (bs x0)):=HCE4.out 0 _ rfl
      have k1:w4.cell? ⟨g,1,none⟩=some (.string (bs xb)):=HCE4.out 1 _ rfl
      have k2:w4.cell? ⟨g,2,none⟩=some (.string (bs xc)):=HCE4.out 2 _ rfl
      have h3i:(([x0,xb,xc].length:Int) !=3)=false:=rfl
      by_cases hx0:x0=j5s
      ·have hw0:((bs x0).toList != [108,111,97,100])=false:=by rw[k6g,hx0];rfl
       have hw1:((bs x0).toList== [108,111,97,100])=true:=by rw[k6g,hx0];rfl
       have h3j:(((3:Nat):Int) !=3)=false:=rfl
       have HH:=zh (LdH.mk HD.out HBC.out HMK.out (by rw[hL,hx0]))
       have hxb:xb.length≤40000:=HML.out xb (by simp)
       have hxc:xc.length≤40000:=HML.out xc (by simp)
       have HN1:=zh (k4c xb (by omega) 6 (by decide) w4 HW4.out.r.t HW4.out.r.p)
       have HN2:=zh (fun w5 (hb:Below w4.heap.size w4 w5)=>k4c xc (by omega) 6 (by decide) w5 (HW4.out.below hb).r.t (HW4.out.below hb).r.p)
       have hg4:g<w4.heap.size:=World.block_lt_of_cell? w4 _ k0
       have HK2:=zh k2
       clear hL h3 hx0 HCE4 HML
       generalize hv1:q9b xb 6=v1 at *
       generalize hv2:q9b xc 6=v2 at *
       have HV1:=zh hv1
       have HV2:=zh hv2
       generalize ho1:(V1 xb 6).isSome=o1 at *
       generalize ho2:(V1 xc 6).isSome=o2 at *
       have HO1:=zh ho1
       have HO2:=zh ho2
       clear hv1 hv2 ho1 ho2
       go_wp2_with fail
       refine HN1.out.mono ?_
       rintro e w5 ⟨rfl,hb5⟩
       have HB45:=zh hb5
       have j2:=(hb5.cell (p:=⟨g,2,none⟩) hg4).trans HK2.out
       clear hb5 k0 k1 k2 HN1
       go_wp2_with fail
       refine(HN2.out w5 HB45.out).mono ?_
       rintro e w6 ⟨rfl,hb6⟩
       have HB6:=zh (HB4.out.trans ((HB45.out.trans (hb6.mono HB45.out.size)).mono HB4.out.size))
       have HW6:=zh (HW.out.below HB6.out)
       clear hb6 HN2 j2 HB45 HK2 hg4 HB4 HW4
       cases o1 with
       | false=>
        have HL:=zh (HH.out.num1 (by cases h:V1 xb 6 with|none=>rfl|some m=>have:=HO1.out;rw[h]at this;cases this))
        have se:=HW6.out.text
        go_wp2
        go_region
        go_wp2
        go_ret3
        exact LoadTo.bad (k:=0) (HL.out) (by decide) (HB6.out.drew)
       | true=>
        cases o2 with
        | false=>
         have HL:=zh (HH.out.num2 (by cases h:V1 xc 6 with|none=>rfl|some m=>have:=HO2.out;rw[h]at this;cases this))
         have se:=HW6.out.text
         go_wp2
         go_region
         go_wp2
         go_ret3
         exact LoadTo.bad (k:=0) (HL.out) (by decide) (HB6.out.drew)
        | true=>
         obtain⟨n1,hn1⟩:=Option.isSome_iff_exists.1 HO1.out
         obtain⟨n2,hn2⟩:=Option.isSome_iff_exists.1 HO2.out
         obtain rfl:v1=(n1:Int):=by rw[←HV1.out];unfold q9b;rw[hn1];rfl
         obtain rfl:v2=(n2:Int):=by rw[←HV2.out];unfold q9b;rw[hn2];rfl
         have hz2:(bs c2).size=c2.length:=Q8 c2
         have HN1':=zh hn1
         have HN2':=zh hn2
         clear hn1 hn2 HO1 HO2 HV1 HV2
         by_cases hbig:c2.length<n2
         ·have hbg:(n2:Int)>((bs c2).size:Int):=by omega
          have HL:=zh (HH.out.big HN2'.out hbig)
          clear hbig hz2
          have se:=HW6.out.text
          go_wp2
          go_region
          go_wp2
          go_ret3
          exact LoadTo.bad (k:=0) (HL.out) (by decide) (HB6.out.drew)
         ·have hbg:¬(n2:Int)>((bs c2).size:Int):=by omega
          obtain⟨k,hk⟩:∃k:Nat,k=c2.length-n2:=⟨_,rfl⟩
          have hke:((bs c2).size:Int)-(n2:Int)=(k:Int):=by omega
          obtain⟨ls,hls⟩:∃ls,ls=c2.take k:=⟨_,rfl⟩
          obtain⟨tx,htx⟩:∃tx,tx=c2.drop k:=⟨_,rfl⟩
          have E3:Hid ((bs c2).extract 0 k=bs ls):=zh (by rw[q0v,Q3,List.drop_zero,hls])
          have E4:Hid ((bs c2).extract k (bs c2).size=bs tx):=zh (by rw[q0v,Q3,hz2,List.take_length,htx])
          have HNN:=zh (LdN.mk (n:=n1) (ls:=ls) (tx:=tx) HH.out HN1'.out ⟨n2,HN2'.out,by omega,by rw[hls,hk],by rw[htx,hk]⟩)
          have hk4:k≤40000:=by omega
          have q1:(0:Int)≤(k:Int):=by omega
          have q2:(k:Int)≤((bs c2).size:Int):=by omega
          have hlsl:ls.length≤40000:=by rw[hls,List.length_take];omega
          have htxl:tx.length≤40000:=by rw[htx,List.length_drop];omega
          have HB7:Hid (Below w.heap.size w w6.drew):=zh HB6.out.drew
          have HBD:Hid (decide ((bs c2).size<n2)=false):=zh (decide_eq_false (by omega))
          clear hk hls htx hbig HN1' HN2' hz2
          go_wp2
          go_region
          go_wp2_with fail
          rw[E3.out,E4.out]
          generalize w6.drew=w7 at *
          clear hke E3 E4 q1 q2 hbg HW6 HB6
          go_wp2
          try simp only[HBD.out]
          go_loopg [17,19] ls.length (fun gh v17 v19 wr=>∃(t:Bytes) (fs:List Rcp),v17= .string (bs t)∧gh=t.length∧fs.length+t.length≤40000∧Hid (U9 ls=(U9 t).map (fs++ ·))∧Hid (OwX (rcB w.heap.size) wr w7.heap.size 40 v19 fs)∧Hid (Below w7.heap.size w7 wr))
          case atStart=>exact⟨ls,[],rfl,rfl,by simpa using hlsl,zh (by cases U9 ls<;>rfl),zh (OwX.nil _ _ _),zh (zb _ _)⟩
          case round=>
           obtain⟨t,fs,rfl,hgm,hfl,HF,HO,HBr⟩:=hrel
           obtain⟨A19,c19,hv19⟩:=HO.out.slice
           subst hv19
           have HWr:=zh (HW.out.below (HB7.out.trans (HBr.out.mono HB7.out.size)))
           by_cases ht0:t= []
           ·have hte:(!(bs t).toList.isEmpty)=false:=by rw[k6g,ht0];rfl
            have hte':((bs t).toList != [])=false:=by rw[k6g,ht0];rfl
            have HFE:=zh (show U9 ls=some fs by rw[HF.out,ht0,j5v];show some (fs++ [])=_;rw[List.append_nil])
            clear ht0 HF
            have HRD:=zh (j2b a tx (by omega) wr HWr.out.r.t HWr.out.r.m HWr.out.r.p (HWr.out.s.sub (by decide)))
            unfold j1w at HRD
            have HOC:=zh (fun(h:(Y5 tx).2.1=0∧fs.length=n1)=>HNN.out.fine HFE.out h)
            go_wp2_with fail
            refine HRD.out.mono ?_
            rintro e w8 ⟨v8,r8,rfl,hev,hrl,hb8⟩
            have HB8:=zh (HB7.out.trans ((HBr.out.trans (hb8.mono HBr.out.size)).mono HB7.out.size))
            have HW8:=zh (HW.out.below HB8.out)
            have HO8:=zh ((HO.out.below hb8).low HB7.out.size)
            have HRL:=zh (RdL.own hrl)
            clear hrl hb8 HRD HO
            by_cases hcd:(Y5 tx).2.1=0
            ·obtain⟨rfl,_⟩:=hev.nil hcd
             clear hev
             by_cases hfn:fs.length=n1
             ·have hfi:((fs.length:Int) !=(n1:Int))=false:=by rw[bne_eq_false_iff_eq];omega
              have hqz:(bs q).size≤maxLen:=by rw[Q8];unfold maxLen;omega
              have HPO:=q2b (bs q) w8 hqz
              rw[Q3]at HPO
              have HPO:=zh HPO
              have HRE:=zh (And.intro hcd hfn)
              clear hcd hfn hqz
              go_wp2_with fail
              refine HPO.out.mono ?_
              rintro e w9 ⟨rfl,rfl⟩
              by_cases hmk:mark=prOf q
              ·have hmi:(((mark:Nat):Int) !=((prOf q:Nat):Int))=false:=by rw[bne_eq_false_iff_eq,hmk]
               have HLF:=zh (HNN.out.fine HFE.out HRE.out hmk)
               clear hmk
               go_wp2
               go_ret3
               exact .inr ⟨_,_,_,_,HLF.out,rfl,HO8.out,HRL.out,HB8.out⟩
              ·have hmi:(((mark:Nat):Int) !=((prOf q:Nat):Int))=true:=by rw[bne_iff_ne];omega
               have HLF:=zh (HNN.out.sum HFE.out HRE.out hmk)
               clear hmk
               have se:=HW8.out.esum
               go_wp2
               go_region
               go_wp2
               go_ret3
               exact LoadTo.bad (k:=8) (HLF.out) (by decide) (HB8.out.drew)
             ·have hfi:((fs.length:Int) !=(n1:Int))=true:=by rw[bne_iff_ne];omega
              have HLF:=zh (HNN.out.pieces HFE.out (fun h=>hfn h.2))
              clear hcd hfn
              have se:=HW8.out.text
              go_wp2
              go_region
              go_wp2
              go_ret3
              exact LoadTo.bad (k:=0) (HLF.out) (by decide) (HB8.out.drew)
            ·obtain⟨ty,pv,rfl⟩:=hev.some hcd
             have HLF:=zh (HNN.out.pieces HFE.out (fun h=>hcd h.1))
             clear hev hcd
             have se:=HW8.out.text
             go_wp2
             go_region
             go_wp2
             go_ret3
             exact LoadTo.bad (k:=0) (HLF.out) (by decide) (HB8.out.drew)
           ·have hte:(!(bs t).toList.isEmpty)=true:=by rw[k6g];cases t with|nil=>exact absurd rfl ht0|cons _ _=>rfl
            have hte':((bs t).toList != [])=true:=by rw[k6g];exact bne_iff_ne.2 ht0
            cases hc:J1 10 t with
            | none=>
             have HF0:=zh (show U9 ls=none by rw[HF.out,j5w ht0 hc];rfl)
             have hcc:=k3z t 10 (by omega) wr HWr.out.r.m
             rw[k3x hc,show VT t= .string (bs t)from rfl]at hcc
             have HCC:=zh hcc
             clear hcc hc ht0 HF
             go_wp2_with fail
             refine HCC.out.mono ?_
             rintro e w8 ⟨rfl,hb8⟩
             have HB8:=zh (HBr.out.trans (hb8.mono HBr.out.size))
             have hrr:=k3v a (bs t) (by rw[Q8];omega) w8 (HWr.out.below hb8).r
             unfold k3o at hrr
             rw[Q3]at hrr
             have HRR:=zh hrr
             clear hrr hb8 HCC
             go_wp2_with fail
             refine HRR.out.mono ?_
             rintro e w9 ⟨v9,x9,rfl,_,⟨sl8,rfl,hr8⟩,hb9⟩
             obtain⟨A8,c8,rfl⟩:∃A c,sl8= .slice A (k3m t).ids.length c:=by obtain⟨A,c,h,_⟩:=hr8;exact⟨A,c,h⟩
             have HB9:=zh ((HB8.out.trans (hb9.mono HB8.out.size)).alloc (Nat.le_trans HB8.out.size hb9.size) (.cells #[VT (k3m t).name,.int .i64 (k3m t).len,.int .u32 ((k3m t).print:Int),.slice A8 (k3m t).ids.length c8] 40))
             have HBX:=zh (HB7.out.trans (HB9.out.mono HB7.out.size))
             have se:=(HW.out.below HBX.out).text
             clear hr8 hb9 HRR
             go_wp2
             go_region
             go_wp2
             go_ret3
             exact LoadTo.bad (k:=0) (HNN.out.files HF0.out) (by decide) HBX.out.drew
            | some qq=>
             obtain⟨l1,r1⟩:=qq
             have hcc:=k3z t 10 (by omega) wr HWr.out.r.m
             rw[k3w hc,show VT l1= .string (bs l1)from rfl,show VT r1= .string (bs r1)from rfl]at hcc
             have HCC:=zh hcc
             have hl1:l1.length+1+r1.length=t.length:=by
              obtain⟨e,_⟩:=D8 _ _ _ _ hc
              rw[e,List.length_append,List.length_cons];omega
             have HSC:=zh hc
             have HT0:=zh ht0
             clear hcc hc ht0
             go_wp2_with fail
             refine HCC.out.mono ?_
             rintro e w8 ⟨rfl,hb8⟩
             have HB8:=zh (HBr.out.trans (hb8.mono HBr.out.size))
             have hrr:=k3v a (bs l1) (by rw[Q8];omega) w8 (HWr.out.below hb8).r
             unfold k3o at hrr
             rw[Q3]at hrr
             have HRR:=zh hrr
             have HOr:=zh (HO.out.below hb8)
             have hz8:wr.heap.size≤w8.heap.size:=hb8.size
             clear hrr hb8 HCC HO
             go_wp2_with fail
             refine HRR.out.mono ?_
             rintro e w9 ⟨v9,x9,rfl,hev,⟨sl8,rfl,hr8⟩,hb9⟩
             cases hrd:Y6 l1 with
             | error fl=>
              rw[show k3m l1=R8 by unfold k3m;rw[hrd]]at hr8 ⊢
              obtain⟨ty,pv,rfl⟩:=hev.some (by unfold k3n;rw[hrd];exact k6f hrd)
              obtain⟨A8,c8,rfl⟩:∃A c,sl8= .slice A R8.ids.length c:=by obtain⟨A,c,h,_⟩:=hr8;exact⟨A,c,h⟩
              have HF0:=zh (show U9 ls=none by rw[HF.out,j5x HT0.out HSC.out hrd];rfl)
              have HB9:=zh ((HB8.out.trans (hb9.mono HB8.out.size)).alloc (Nat.le_trans HB8.out.size hb9.size) (.cells #[VT R8.name,.int .i64 R8.len,.int .u32 (R8.print:Int),.slice A8 R8.ids.length c8] 40))
              have HBX:=zh (HB7.out.trans (HB9.out.mono HB7.out.size))
              have se:=(HW.out.below HBX.out).text
              clear hr8 hb9 HRR hev hrd
              go_wp2
              go_region
              go_wp2
              go_ret3
              exact LoadTo.bad (k:=0) (HNN.out.files HF0.out) (by decide) HBX.out.drew
             | ok r=>
              rw[show k3m l1=r by unfold k3m;rw[hrd]]at hr8 ⊢
              obtain⟨rfl,_⟩:=hev.nil (by unfold k3n;rw[hrd])
              obtain⟨A8,c8,rfl⟩:∃A c,sl8= .slice A r.ids.length c:=by obtain⟨A,c,h,_⟩:=hr8;exact⟨A,c,h⟩
              have HF1:Hid (U9 ls=(U9 r1).map ((fs++ [r])++ ·)):=zh (by
               rw[HF.out,j5y HT0.out HSC.out hrd]
               cases U9 r1 with
               | none=>rfl
               | some gs=>show some (fs++r::gs)=some (fs++ [r]++gs);rw[List.append_assoc];rfl)
              have hfar:∀q,(Value.slice A19 fs.length c19).ownBlock=some q→0<r.ids.length→(Value.slice A8 r.ids.length c8).ownBlock≠some q:=fun q hq h0 e=>by
               have h1:=HOr.out.ltX hq
               obtain⟨A,c,he,hc,hx⟩:=hr8
               obtain⟨b,o,hA,hlo,_⟩:=hx h0
               injection he with e1 _ _
               rw[e1,hA]at e
               have:b=q:=by simpa[Value.ownBlock]using e
               omega
              have hlow:∀q,(Value.slice A8 r.ids.length c8).ownBlock=some q→0<r.ids.length→w.heap.size≤q:=fun q e h0=>by
               obtain⟨A,c,he,hc,hx⟩:=hr8
               obtain⟨b,o,hA,hlo,_⟩:=hx h0
               injection he with e1 _ _
               rw[e1,hA]at e
               have:b=q:=by simpa[Value.ownBlock]using e
               have:=HB7.out.size
               have:=HB8.out.size
               omega
              have haw:Below w9.heap.size w9 (w9.alloc (.cells #[VT r.name,.int .i64 r.len,.int .u32 (r.print:Int),.slice A8 r.ids.length c8] 40)):=(zb _ _).alloc (zl _) _
              have haw2:Below w9.heap.size w9 ((w9.alloc (.cells #[VT r.name,.int .i64 r.len,.int .u32 (r.print:Int),.slice A8 r.ids.length c8] 40)).alloc (.cells #[VT r.name,.int .i64 r.len,.int .u32 (r.print:Int),.slice A8 r.ids.length c8] 40)):=haw.alloc haw.size _
              obtain⟨z0,z1,z2,z3,_⟩:=Box4.mk' w9 (VT r.name) (.int .i64 r.len) (.int .u32 (r.print:Int)) (.slice A8 r.ids.length c8) 40
              have HX9:=zh ((HOr.out.below hb9).below haw2)
              obtain⟨E,hE,ho,hex⟩:=HX9.out
              have hEl:E.length=fs.length:=by rw[←hE,List.length_map]
              have hya:(rcB w.heap.size).rd ((w9.alloc (.cells #[VT r.name,.int .i64 r.len,.int .u32 (r.print:Int),.slice A8 r.ids.length c8] 40)).alloc (.cells #[VT r.name,.int .i64 r.len,.int .u32 (r.print:Int),.slice A8 r.ids.length c8] 40)) ((w9.alloc (.cells #[VT r.name,.int .i64 r.len,.int .u32 (r.print:Int),.slice A8 r.ids.length c8] 40)).alloc (.cells #[VT r.name,.int .i64 r.len,.int .u32 (r.print:Int),.slice A8 r.ids.length c8] 40)).heap.size r (.slice A8 r.ids.length c8):=⟨(hr8.rd.keep haw2 (zl _)).more haw2.size,hlow⟩
              have hok:=ho
              rw[hEl]at hok
              have hok2:((w9.alloc (.cells #[VT r.name,.int .i64 r.len,.int .u32 (r.print:Int),.slice A8 r.ids.length c8] 40)).alloc (.cells #[VT r.name,.int .i64 r.len,.int .u32 (r.print:Int),.slice A8 r.ids.length c8] 40)).ownsRow w7.heap.size 40 4 (.slice A19 fs.length c19) fs.length ((rcB w.heap.size).row E):=hok
              have HOK2:=zh hok2
              have HNE:=zh (k3a (w9.alloc (.cells #[VT r.name,.int .i64 r.len,.int .u32 (r.print:Int),.slice A8 r.ids.length c8] 40)) (VT r.name) (.int .i64 r.len) (.int .u32 (r.print:Int)) (.slice A8 r.ids.length c8) 40)
              have HBA2:=zh (HB8.out.trans ((hb9.trans (haw2.mono hb9.size)).mono HB8.out.size))
              have HE:=zh hE
              have HHO:=zh ho
              have HEX:=zh hex
              have HYA:=zh hya
              have HEL:=zh hEl
              have HFAR:=zh hfar
              have HONE:=zh ((rcB w.heap.size).one (a:=r) hya)
              have hwa:(w9.alloc (.cells #[VT r.name,.int .i64 r.len,.int .u32 (r.print:Int),.slice A8 r.ids.length c8] 40)).heap.size=w9.heap.size+1:=by simp
              have HWA:=zh hwa
              clear haw haw2 hE ho hex hya hok hok2 hEl hfar hlow hr8 hb9 HRR hev hrd hwa HOr hz8
              go_wp2_with(first|(at_builtin;refine wpList_append_own_at _ rfl (.tmp 135) (.tmp 137) 31 rfl w7.heap.size 40 i0 (.agg #[.string ByteArray.empty,.int .i64 0,.int .u32 0,.slice none 0 0]) 4 56 Tryz.underlying31 hi hz0 hz1 hz2 rfl (by decide) (.slice A19 fs.length c19) fs.length ((rcB w.heap.size).row E) rfl HOK2.out ⟨w9.heap.size+1,0,none⟩ 1 1 [VT r.name,.int .i64 r.len,.int .u32 (r.print:Int),.slice A8 r.ids.length c8] rfl rfl (by rw[←HWA.out];exact HNE.out) HONE.out (by unfold maxLen;omega) (by omega) HBA2.out.size ?_;intro v10 w10 hown10 hg10 _ hat10)|fail)
              have HO10:=zh (OwX.snoc HE.out HHO.out HEX.out (a:=r) HYA.out HFAR.out (by rw[HEL.out];exact hown10) hg10 hat10)
              have HB10:=zh (HBA2.out.grown hg10 HBA2.out.size (fun q hq=>Y7 HHO.out hq))
              clear hown10 hg10 hat10
              go_wp2
              go_roundg r1.length
              case measure=>omega
              case rel=>exact⟨r1,fs++ [r],rfl,rfl,by rw[List.length_append,List.length_singleton];omega,HF1,HO10,HB10⟩
      ·have hw0:((bs x0).toList != [108,111,97,100])=true:=by rw[k6g];exact bne_iff_ne.2 hx0
       have hw1:((bs x0).toList== [108,111,97,100])=false:=by rw[k6g];exact beq_eq_false_iff_ne.2 hx0
       have h3j:(((3:Nat):Int) !=3)=false:=rfl
       have HL:=zh (HD.out.word HBC.out hL hx0)
       clear hL h3 hx0
       have se:=HW4.out.text
       go_wp2
       go_region
       go_wp2
       go_ret3
       exact LoadTo.bad (k:=0) (HL.out) (by decide) (HB4.out.drew)
     ·have h3i:((L.length:Int) !=3)=true:=by rw[bne_iff_ne];omega
      have HL:=zh (HD.out.three HBC.out (by rw[hL];exact h3))
      clear hL h3
      have se:=HW4.out.text
      go_wp2
      go_region
      go_wp2
      go_ret3
      exact LoadTo.bad (k:=0) (HL.out) (by decide) (HB4.out.drew)
end Go.Proofs.YtdmlghfggninbaaGreatDoor
