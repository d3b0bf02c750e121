/- MvE, MvG in one text. Conditions: as each part says. -/
import Derived.Test.YtdmlghfggninbaaGreatDoorMb18
import Derived.Test.YtdmlghfggninbaaGreatDoorMb15
import Derived.Test.YtdmlghfggninbaaGreatDoorMb19
import Derived.Test.YtdmlghfggninbaaGreatDoorMb22
import Derived.Test.YtdmlghfggninbaaGreatDoorMb20
import Derived.Test.YtdmlghfggninbaaGreatDoorMb1
set_option linter.unusedVariables false
set_option linter.unusedSimpArgs false
set_option maxHeartbeats 16000000
set_option maxRecDepth 100000
namespace Go.Proofs.YtdmlghfggninbaaGreatDoor
open Go.RowKit Go.Lib Go.Maps
def LwB(L:HldL):Prop:=L.length≤1000000∧∀x∈L,HldW x∧x.text.length≤1000000000
theorem k8n:∀(n:Nat) (acc:HldL) (s:Bytes),s.length≤n→acc.length+s.length≤40000→(∀x∈acc,HldW x∧x.text.length≤1000000000)→LwB (z4c acc s).1:=by
 intro n
 induction n with
 | zero=>
  intro acc s hs hl ha
  have:s= []:=List.length_eq_zero_iff.1 (by omega)
  subst this
  rw[z4d]
  exact⟨by show acc.length≤_;omega,ha⟩
 | succ n ih=>
  intro acc s hs hl ha
  by_cases h0:s= []
  ·subst h0
   rw[z4d]
   exact⟨by show acc.length≤_;omega,ha⟩
  ·cases ho:oneF s with
   | none=>rw[z4e h0 ho];exact⟨Nat.zero_le _,fun _ h=>absurd h List.not_mem_nil⟩
   | some q=>
    obtain⟨x,r⟩:=q
    have hr:=z3s ho
    by_cases hm:B7 acc.getLast? x=0
    ·rw[z4f h0 ho hm]
     refine ih _ _ (by omega) (by rw[List.length_append,List.length_singleton];omega) fun y hy=> ?_
     rcases List.mem_append.1 hy with hy|hy
     ·exact ha y hy
     ·rw[List.mem_singleton.1 hy]
      obtain⟨head,rest,i,u,p,m,k,h1,_,h3,h4,h5,rfl,_⟩:=z3r ho
      obtain⟨h6,h7⟩:=k4e h3
      have h8:=k4f h4
      refine⟨⟨⟨h7,by show(-9223372036854775808:Int)≤(m:Int);omega,by show(m:Int)≤_;omega⟩,by show(-9223372036854775808:Int)≤(k:Int);omega,by show(k:Int)≤_;omega⟩,?_⟩
      show(rest.take m).length≤_
      rw[List.length_take]
      omega
    ·rw[z4g h0 ho hm];exact⟨Nat.zero_le _,fun _ h=>absurd h List.not_mem_nil⟩
theorem k8o{u:Bytes}(hu:u.length≤40000):LwB (Y5 u).1:=by
 unfold Y5
 rw[if_neg (by omega)]
 exact k8n u.length [] u (zl _) (by simpa using hu) fun _ h=>absurd h List.not_mem_nil
theorem k8p(w:World)(x:Value)(t:TypeId):(w.alloc (.cells #[x] t)).cell? ⟨w.heap.size,0,none⟩=some x:=by
 rw[World.cell?_alloc_at _ _ _ _ rfl];rfl
theorem k8q(w:World)(x y z:Value)(t:TypeId):(w.alloc (.cells #[x,y,z] t)).cell? ⟨w.heap.size,0,none⟩=some x∧(w.alloc (.cells #[x,y,z] t)).cell? ⟨w.heap.size,1,none⟩=some y∧(w.alloc (.cells #[x,y,z] t)).cell? ⟨w.heap.size,2,none⟩=some z:=by
 refine⟨?_,?_,?_⟩<;>(rw[World.cell?_alloc_at _ _ _ _ rfl];rfl)
theorem LdRd.one{w:World}{B g:Nat}{y:Load}{sl:Value}(hg:g<B)(hr:RdL w B sl y.l)(c0:w.cell? ⟨g,0,none⟩=some (.int .u32 (y.rep.1:Int)))(c1:w.cell? ⟨g,1,none⟩=some (.int .i64 y.rep.2))(c2:w.cell? ⟨g,2,none⟩=some sl) :
  LdRd w B (.slice (some ⟨g,0,none⟩) 1 1) [y]:=by
 refine⟨_,1,rfl,zl _,fun _=>⟨g,0,rfl,hg,fun k hk=> ?_⟩⟩
 have:k=0:=by simp at hk;omega
 subst this
 exact⟨sl,hr,by simpa using c0,by simpa using c1,by simpa using c2⟩
section
variable {s:Bytes} {P:PNode} {fs t:List Rcp} {r0:Rcp} {L:HldL} {c:Int}
theorem k8r(h:R4 s= .error c):inN s P=(P,[],c):=by unfold inN;rw[h]
theorem k8s(h:R4 s= .ok (fs,L)):inN s P=inFL fs L P:=by unfold inN;rw[h]
structure InA(P:PNode)(r0:Rcp)(t:List Rcp)(L:HldL):Prop where
 rep:(r0::t).any (fun r=> !decide (repR r=repR r0))=false
structure InB(P:PNode)(r0:Rcp)(t:List Rcp)(L:HldL):Prop where
 a:InA P r0 t L
 chk:(G7 (r0::t) [⟨repR r0,L⟩]).1=0
structure InC(P:PNode)(r0:Rcp)(t:List Rcp)(L:HldL):Prop where
 b:InB P r0 t L
 nob:Q1 P.bins (repR r0)=none
 nof:(r0::t).any (fun r=>decide (r.name∈J4 P))=false
theorem k8t(P:PNode)(nm:Bytes):decide (nm∈J4 P)=(Q1 P.files nm).isSome:=by
 cases hg:Q1 P.files nm with
 | none=>
  have:=V4.1 hg
  refine decide_eq_false fun hm=> ?_
  unfold J4 at hm
  obtain⟨q,hq,e⟩:=List.mem_map.1 hm
  exact this q hq e
 | some r=>
  refine decide_eq_true ?_
  unfold J4
  exact List.mem_map_of_mem (f:=fun q:Bytes×Rcp=>q.1) (Y4 hg)
theorem k8u:(r0::t).any (fun r=> !decide (repR r=repR r0))=t.any (fun r=> !decide (repR r=repR r0)):=by rw[List.any_cons];simp
theorem k8v:inFL [] L P=(P,[],3):=rfl
theorem k8w(h:(r0::t).any (fun r=> !decide (repR r=repR r0))=true):inFL (r0::t) L P=(P,[],3):=by
 rw[k8u]at h
 unfold inFL;simp only;rw[if_pos h]
theorem InA.chk(h:InA P r0 t L)(hc:(G7 (r0::t) [⟨repR r0,L⟩]).1≠0):inFL (r0::t) L P=(P,[],(G7 (r0::t) [⟨repR r0,L⟩]).1):=by
 have h1:=h.rep
 rw[k8u]at h1
 unfold inFL;simp only;rw[if_neg (by rw[h1];decide),if_pos hc]
theorem InB.there(h:InB P r0 t L)(hc:(Q1 P.bins (repR r0)).isSome=true∨(r0::t).any (fun r=>decide (r.name∈J4 P))=true):inFL (r0::t) L P=(P,[],6):=by
 have h1:=h.a.rep
 rw[k8u]at h1
 unfold inFL;simp only;rw[if_neg (by rw[h1];decide),if_neg (by simp[h.chk]),if_pos (by
  rw[Bool.or_eq_true]
  exact hc.imp id fun h2=>by rw[←h2];exact congrArg _ (funext fun r=>(k8t P r.name).symm))]
theorem InC.start(h:InC P r0 t L):inFL (r0::t) L P=if 30<P.files.length+(r0::t).length then(P,[],7)else if(q0f L).1≠0 then(P,[],(q0f L).1)
  else(j6b (r0::t) (repR r0) L P,ofN (j6b (r0::t) (repR r0) L P) (repR r0),0):=by
 have h1:=h.b.a.rep
 rw[k8u]at h1
 unfold inFL;simp only;rw[if_neg (by rw[h1];decide),if_neg (by simp[h.b.chk]),if_neg (by
  rw[Bool.not_eq_true,Bool.or_eq_false_iff]
  refine⟨by rw[h.nob];rfl,?_⟩
  rw[←h.nof];exact congrArg _ (funext fun r=>(k8t P r.name).symm))]
theorem InC.ok(h:InC P r0 t L)(hl:¬ 30<P.files.length+(r0::t).length)(hf:(q0f L).1=0):InOk (r0::t) L P r0 t where
 e:=rfl
 rep:=fun r hr=>by
  have h1:=h.b.a.rep
  rw[k8u]at h1
  have:=List.any_eq_false.1 h1 r hr
  simpa using this
 chk:=h.b.chk
 nob:=h.nob
 nof:=fun r hr=>by
  have h1:=List.any_eq_false.1 h.nof r hr
  rw[k8t]at h1
  cases hg:Q1 P.files r.name with
  | none=>rfl
  | some _=>rw[hg]at h1;exact absurd rfl h1
 len:=by omega
 fill:=hf
 out:=by rw[h.start,if_neg hl,if_neg (by simp[hf])]
end
theorem MvW.shape{a:Nat→Addr}{w:World}(h:MvW a w):w.cell? ⟨1,0,none⟩=some (.iface 376 (.pointer (some (a 2)))):=h.s 2 (by simp)
theorem MvW.exist{a:Nat→Addr}{w:World}(h:MvW a w):w.cell? ⟨2,0,none⟩=some (.iface 376 (.pointer (some (a 5)))):=h.s 5 (by simp)
theorem MvW.full{a:Nat→Addr}{w:World}(h:MvW a w):w.cell? ⟨3,0,none⟩=some (.iface 376 (.pointer (some (a 6)))):=h.s 6 (by simp)
theorem NamesPost.bad{a:Nat→Addr}{n:Nat}{P:PNode}{f:Foot}{w w':World}{c:Int}{r:Value}{q:PNode×List Bytes×Int}(h:Node n P f w)(hq:q=(P,[],c))(hr:ES a r c)(hb:Below w.heap.size w w'):NamesPost a n f q w (.returned (.tuple #[.slice none 0 0,r])) w':=by
 subst hq
 exact⟨_,_,rfl,World.ownsRow_nil _ _ _ _,hr,NodeTo.stay h hb⟩
theorem k8x{P:PNode}{x:Idn}{w w':World}{e:Ending}(h:j3b P x w e w'):∃p:Option Addr,e= .returned (.pointer p)∧p.isSome=(Q1 P.bins x).isSome∧Below w.heap.size w w':=by
 unfold j3b at h
 cases hg:Q1 P.bins x with
 | none=>
  rw[hg]at h
  exact⟨none,h.1,rfl,h.2⟩
 | some L=>
  rw[hg]at h
  obtain⟨b2,mb2,rfl,_,_,_,hb⟩:=h
  exact⟨_,rfl,rfl,hb⟩
theorem k8y{w:World}{base n:Nat}{e:TypeId}{v:Value}{xs:List Value}(h:w.ownsRow base e 1 v n xs)(hn:xs.length=n):Rd w w.heap.size v xs:=by
 obtain⟨A,c,hv,hc,hx⟩:=V7 h
 subst hn
 refine⟨A,c,hv,hc,fun h0=> ?_⟩
 obtain⟨g,hA,_,hg,hcell⟩:=hx (List.length_pos_iff.2 h0)
 exact⟨g,0,hA,hg,fun k u hu=>by rw[Nat.zero_add];exact hcell k u hu⟩
theorem Node.takeC{n:Nat}{P:PNode}{f:Foot}(hP:NodeOk P){fs t:List Rcp}{L:HldL}{r0:Rcp}(hI:InOk fs L P r0 t)(hk:∀r∈fs,RcpK r){lo b mb:Nat}{v:Value}(w:World)(h:Node n P f w)(hlo:f.lt lo)(hox:OwX (rcB lo) w lo 40 v fs)(ho:OBin b mb L w)(hb:lo≤b)(hmb:lo≤mb) :
  Calls Tryz.prog 71 #[.pointer (some ⟨n,0,none⟩),v,idV (repR r0),.pointer (some ⟨b,0,none⟩)] w fun e w'=>e= .returned (.tuple #[])∧∃f',Node n (j6b fs (repR r0) L P) f' w'∧FrS f.S w w'∧f.new f' lo:=by
 obtain⟨fm,bm,F,B,hn,rfl,rfl⟩:=h.at
 obtain⟨E,rfl,hr,hx⟩:=hox
 have hm:mb∉fm::bm::B.map (fun q=>q.2.mb):=fun hm=>by
  have:=hlo mb (.inl (by
   rcases List.mem_cons.1 hm with e|hm
   ·exact .inl e
   ·rcases List.mem_cons.1 hm with e|hm
    ·exact .inr (.inl e)
    ·obtain⟨q,hq,e⟩:=List.mem_map.1 hm
     exact .inr (.inr ⟨q,hq,e⟩)))
  omega
 have e1:(Q0 F B).files.length=F.length:=List.length_map ..
 have e2:(Q0 F B).bins.length=B.length:=List.length_map ..
 have e3:(E.map (·.1)).length=E.length:=List.length_map ..
 have l1:=hI.len
 have l2:=hP.blen
 have l3:=hP.flen
 have hno:∀q∈B,q.1≠repR r0:=fun q hq=>V4.1 hI.nob (q.1,q.2.L) (List.mem_map_of_mem (f:=fun p:Idn×BE=>(p.1,p.2.L)) hq)
 have hr0:=hk r0 (by rw[hI.e];exact List.mem_cons_self)
 refine(k6w n fm bm F B E lo lo v (repR r0) b mb L (ONode.srtF hP) (hn.keysF hP) (ONode.srtB hP) (hn.keysB hP) (fun y hy=> ?_) (j6g hr0) (by omega) (by omega) hno w hn hr (fun y hy=>(hx y hy).1.1) ho hm).mono ?_
 ·have:=(hk y.1 (List.mem_map_of_mem hy)).name
  unfold X6 maxLen;omega
 rintro e w' ⟨rfl,h1,h2⟩
 have hp:Q0 (k6q E F) (Q9 Q2 (repR r0) ⟨L,b,mb⟩ B)=j6b (E.map (·.1)) (repR r0) L (Q0 F B):=by
  unfold Q0 j6b
  rw[k6r,z5d];rfl
 refine⟨rfl,_,hp▸h1.node,h2.mono fun k hk=>hk.imp id .inl,fun k=>⟨fun hk=> ?_,fun hk=> ?_⟩⟩
 ·rcases hk with e|e|⟨q,hq,e⟩
  ·exact .inl (.inl e)
  ·exact .inl (.inr (.inl e))
  ·rcases V9 hq with e4|hq
   ·rw[e4]at e;exact .inr (by have:mb=k:=e;omega)
   ·exact .inl (.inr (.inr ⟨q,hq,e⟩))
 ·rcases hk with e|⟨q,hq,e⟩|⟨q,hq,e,hne⟩
  ·exact .inl (.inl e)
  ·rcases V9 hq with e4|hq
   ·rw[e4]at e;exact .inr (by have:b=k:=e;omega)
   ·exact .inl (.inr (.inl ⟨q,hq,e⟩))
  ·rcases k6u _ _ _ hq with hq|⟨y,hy,e4⟩
   ·exact .inl (.inr (.inr ⟨q,hq,e,hne⟩))
   ·rw[e4]at e hne
    exact .inr ((hx y hy).1.2 k e (List.length_pos_iff.2 hne))
theorem Node.ofW{n:Nat}{P:PNode}{f:Foot}(hP:NodeW P)(x:Idn)(w:World)(h:Node n P f w) :
  Calls Tryz.prog 49 #[.pointer (some ⟨n,0,none⟩),idV x] w fun e w'=>∃v,e= .returned v∧w'.ownsRow w.heap.size 9 1 v (ofN P x).length ((ofN P x).map VT)∧Below w.heap.size w w':=by
 obtain⟨fm,bm,F,B,ho,rfl,rfl⟩:=h.at
 exact k0p n fm bm F B hP x w ho
theorem k8z(a:Nat→Addr){n:Nat}{P:PNode}{f:Foot}(hP:NodeOk P)(s:Bytes)(hs:s.length≤1000000000)(w:World)(h:Node n P f w)(hw:MvW a w) :
  Calls Tryz.prog 21 #[.pointer (some ⟨n,0,none⟩),.string (bs s)] w (NamesPost a n f (inN s P) w):=by
 have HP:=zh hP
 have HN:=zh h
 have HW:=zh hw
 have HLD:=zh (k6i a s hs w hw)
 have hnl:=hP.flen
 have hbl:=hP.blen
 clear hP h hw
 go_enter Tryz.func21,Tryz.ntmps21
 go_wp2_with fail
 refine HLD.out.mono ?_
 rintro e w1 (⟨cd,r,hl,hcd,rfl,hes,hb1⟩|⟨fs,L,v1,v2,hl,rfl,hox,hrl,hb1⟩)
 ·have HL:=zh (k8r (P:=P) hl)
  obtain⟨ty,pv,rfl⟩:=hes.some hcd
  have HES:=zh hes
  have HB:=zh (hb1.alloc hb1.size (.cells #[.slice none 0 0] 31))
  clear hl hes hb1 HLD
  go_wp2
  go_ret2
  exact NamesPost.bad HN.out HL.out HES.out HB.out
 ·have HL:=zh (k8s (P:=P) hl)
  obtain⟨hfk,hfl,u,hul,hLu⟩:=j6t hl
  have HFK:=zh hfk
  obtain⟨A1,c1,rfl⟩:=hox.slice
  obtain⟨A2,c2,rfl⟩:∃A c,v2= .slice A L.length c:=by obtain⟨A,c,h,_⟩:=hrl;exact⟨A,c,h⟩
  have HLW:Hid (LwB L):=zh (by
   rw[hLu]
   exact k8o hul)
  have hb2:Below w1.heap.size w1 (w1.alloc (.cells #[.slice A1 fs.length c1] 31)):=(zb _ _).alloc (zl _) _
  have HB2:=zh (hb1.trans (hb2.mono hb1.size))
  have CF:=zh (k8p w1 (.slice A1 fs.length c1) 31)
  have hbf:w1.heap.size<(w1.alloc (.cells #[.slice A1 fs.length c1] 31)).heap.size:=by simp
  have OX2:=zh (hox.below hb2)
  have RL2:=zh ((hrl.keep hb2 (zl _)).more hb2.size)
  have c6:=CF.out
  clear hl hfk hox hrl hb1 hb2 HLD hLu hul
  by_cases h0:fs.length=0
  ·have HE:Hid (fs= []):=zh (List.length_eq_zero_iff.1 h0)
   have hz2:((fs.length:Int)==0)=true:=by rw[h0];rfl
   clear h0
   go_wp2_with fail
   generalize w1.alloc (.cells #[.slice A1 fs.length c1] 31)=w2 at *
   generalize w1.heap.size=bf at *
   have se:=(HW.out.below HB2.out).shape
   go_wp2
   go_region
   go_wp2
   go_ret2
   exact NamesPost.bad HN.out (by rw[HL.out,HE.out];exact k8v) (ES.sent a 2 (by decide)) HB2.out.drew
  ·obtain⟨r0,t,HE⟩:∃r0 t,Hid (fs=r0::t):=by
    cases fs with
    | nil=>exact absurd rfl h0
    | cons r0 t=>exact⟨r0,t,zh rfl⟩
   obtain⟨_,_,he1,hc1,hx1⟩:=OX2.out.rsB
   obtain⟨g,o,hA1,hg1,hcell⟩:=hx1 (by omega)
   injection he1 with e1 e2 e3
   subst e1;subst e3;subst hA1
   obtain⟨s0,hs0,x0,x1,x2,x3⟩:=hcell 0 (by omega)
   have he0:fs[0]'(by omega)=r0:=by simp only[HE.out];rfl
   simp only[he0,Nat.zero_mul,Nat.add_zero]at hs0 x0 x1 x2 x3
   have hz2:((fs.length:Int)==0)=false:=beq_eq_false_iff_ne.2 (by omega)
   have b2:(0:Int)<(fs.length:Int):=by omega
   have hids:∀r∈fs,r.ids.length≤1000000:=fun r hr=>by have:=(HFK.out r hr).ids;omega
   have hm0:r0∈fs:=by rw[HE.out];exact List.mem_cons_self
   have HC1:=zh (k6k w1.heap.size (fun r=> !decide (repR r=repR r0)) (.slice (some ⟨g,o,none⟩) fs.length c1) fs (by omega) _ OX2.out.rsB (fun x hx sl w' hb hsl=>k6n x r0 t sl w1.heap.size (.slice (some ⟨g,o,none⟩) fs.length c1) w' (hids x hx) (hids r0 hm0) hsl ((hb.cell (p:=⟨w1.heap.size,0,none⟩) hbf).trans CF.out) (by rw[←HE.out];exact OX2.out.rsB.below hb)))
   obtain⟨x,hxe⟩:∃x,repR r0=x:=⟨_,rfl⟩
   have HXE:=zh hxe
   have HIX:=zh (j6g (HFK.out r0 hm0))
   rw[hxe]at HIX
   have HIDS:=zh hids
   have HM0:=zh hm0
   have HS0:=zh hs0
   have HX0:=zh (And.intro x0 (And.intro x1 (And.intro x2 x3)))
   clear he0 hc1 hx1 hcell hids hm0 hs0 x0 x1 x2 x3 hxe h0
   go_wp2_with fail
   generalize w1.alloc (.cells #[.slice (some ⟨g,o,none⟩) fs.length c1] 31)=w2 at *
   generalize w1.heap.size=bf at *
   refine HC1.out.mono ?_
   rintro e w3 ⟨rfl,hb3⟩
   have HB3:=zh (HB2.out.trans (hb3.mono HB2.out.size))
   have OX3:=zh (OX2.out.below hb3)
   have RL3:=zh ((RL2.out.keep hb3 (zl _)).more hb3.size)
   have d6:=(hb3.cell (p:=⟨bf,0,none⟩) hbf).trans CF.out
   have hbf3:=Nat.lt_of_lt_of_le hbf hb3.size
   have HS3:=zh ((HS0.out.keep hb3 (zl _)).more hb3.size)
   have y0:=(hb3.cell (p:=⟨g,o,none⟩) hg1).trans HX0.out.1
   have y1:=(hb3.cell (p:=⟨g,o+1,none⟩) hg1).trans HX0.out.2.1
   have y2:=(hb3.cell (p:=⟨g,o+2,none⟩) hg1).trans HX0.out.2.2.1
   have y3:=(hb3.cell (p:=⟨g,o+3,none⟩) hg1).trans HX0.out.2.2.2
   clear hb3 c6 HC1
   by_cases hany:fs.any (fun r=> !decide (repR r=repR r0))=true
   ·rw[hany]
    have se:=(HW.out.below HB3.out).shape
    go_wp2
    go_region
    go_wp2
    go_ret2
    exact NamesPost.bad HN.out (by rw[HL.out,HE.out,k8w (by rw[←HE.out];exact hany)];rfl) (ES.sent a 2 (by decide)) HB3.out.drew
   ·rw[Bool.not_eq_true]at hany
    rw[hany]
    have HIA:Hid (InA P r0 t L):=zh ⟨by rw[←HE.out];exact hany⟩
    have HR:Hid (Calls Tryz.prog 65 #[.agg #[VT r0.name,.int .i64 r0.len,.int .u32 (r0.print:Int),s0]] w3 fun e w'=>e= .returned (idV x)∧Below w3.heap.size w3 w'):=zh (by rw[←HXE.out];exact W0 _ r0 (HIDS.out r0 HM0.out) w3 ⟨_,rfl,HS3.out⟩)
    clear hany
    go_wp2_with fail
    refine HR.out.mono ?_
    rintro e w4 ⟨rfl,hb4⟩
    have hb5:Below w4.heap.size w4 (w4.alloc (.cells #[.int .u32 (x.1:Int),.int .i64 x.2] 25)):=(zb _ _).alloc (zl _) _
    have hb45:=hb4.trans (hb5.mono hb4.size)
    have HB5:=zh (HB3.out.trans (hb45.mono HB3.out.size))
    have OX5:=zh (OX3.out.below hb45)
    have RL5:=zh ((RL3.out.keep hb45 (zl _)).more hb45.size)
    have BX5:=zh (Box2.mk' w4 (.int .u32 (x.1:Int)) (.int .i64 x.2) 25)
    have D6:=zh ((hb45.cell (p:=⟨bf,0,none⟩) hbf3).trans d6)
    have hbf5:=Nat.lt_of_lt_of_le hbf3 hb45.size
    have hbxge:w.heap.size≤w4.heap.size:=Nat.le_trans HB3.out.size hb4.size
    clear hb4 hb45 y0 y1 y2 y3 d6 HR
    have hb6:Below (w4.alloc (.cells #[.int .u32 (x.1:Int),.int .i64 x.2] 25)).heap.size (w4.alloc (.cells #[.int .u32 (x.1:Int),.int .i64 x.2] 25)) ((w4.alloc (.cells #[.int .u32 (x.1:Int),.int .i64 x.2] 25)).alloc (.cells #[.int .u32 (x.1:Int),.int .i64 x.2,.slice A2 L.length c2] 113)):=(zb _ _).alloc (zl _) _
    have hz6:(w4.alloc (.cells #[.int .u32 (x.1:Int),.int .i64 x.2] 25)).heap.size<((w4.alloc (.cells #[.int .u32 (x.1:Int),.int .i64 x.2] 25)).alloc (.cells #[.int .u32 (x.1:Int),.int .i64 x.2,.slice A2 L.length c2] 113)).heap.size:=by simp
    have OX6:=zh (OX5.out.below hb6)
    have RL6:=zh ((RL5.out.keep hb6 (zl _)).more hb6.size)
    have BX6:=zh (BX5.out.below hb6 BX5.out.lt)
    have E6:=zh ((hb6.cell (p:=⟨bf,0,none⟩) hbf5).trans D6.out)
    have hbf6:=Nat.lt_of_lt_of_le hbf5 hb6.size
    have hxb6:=BX6.out.lt
    have HB6:=zh (HB5.out.trans (hb6.mono HB5.out.size))
    obtain⟨u0,u1,u2⟩:=k8q (w4.alloc (.cells #[.int .u32 (x.1:Int),.int .i64 x.2] 25)) (.int .u32 (x.1:Int)) (.int .i64 x.2) (.slice A2 L.length c2) 113
    have hsz:(w4.alloc (.cells #[.int .u32 (x.1:Int),.int .i64 x.2] 25)).heap.size=w4.heap.size+1:=by simp
    rw[hsz]at hz6 u0 u1 u2
    have HCK:=zh (k8l a (.slice (some ⟨g,o,none⟩) fs.length c1) (.slice (some ⟨w4.heap.size+1,0,none⟩) 1 1) fs [⟨x,L⟩] (by omega) (fun r hr=>(HFK.out r hr).rcpB) (by simp) (fun y hy=>by rw[List.mem_singleton.1 hy];exact HLW.out.1) (fun y hy=>by rw[List.mem_singleton.1 hy];exact HLW.out.2) _ OX6.out.rsB (LdRd.one hz6 RL6.out u0 u1 u2) ((HW.out.s.below HB6.out).sub (by decide)))
    unfold k8k at HCK
    obtain⟨z0,z1,_,_⟩:=BX5.out
    have d6:=D6.out
    clear hb5 hb6 u0 u1 u2 hbf5 hz6 hsz
    go_wp2_with fail
    generalize(w4.alloc (.cells #[.int .u32 (x.1:Int),.int .i64 x.2] 25)).alloc (.cells #[.int .u32 (x.1:Int),.int .i64 x.2,.slice A2 L.length c2] 113)=w6 at *
    generalize w4.heap.size=bx at *
    refine HCK.out.mono ?_
    rintro e w7 ⟨xe,rfl,hev,hb7⟩
    have HB7:=zh (HB6.out.trans (hb7.mono HB6.out.size))
    have OX7:=zh (OX6.out.below hb7)
    have RL7:=zh ((RL6.out.keep hb7 (zl _)).more hb7.size)
    have BX7:=zh (BX6.out.below hb7 BX6.out.lt)
    have E7:=zh ((hb7.cell (p:=⟨bf,0,none⟩) hbf6).trans E6.out)
    have hbf7:=Nat.lt_of_lt_of_le hbf6 hb7.size
    have hxb7:=BX7.out.lt
    clear hb7 z0 z1 d6 hbf6 hxb6 HCK
    by_cases hc:(G7 fs [⟨x,L⟩]).1=0
    ·obtain⟨rfl,_⟩:=hev.nil hc
     have HIB:Hid (InB P r0 t L):=zh ⟨HIA.out,by rw[←HE.out,HXE.out];exact hc⟩
     have HNM:=zh (Node.namesC HP.out w7 (HN.out.below HB7.out))
     clear hev hc
     go_wp2_with fail
     refine HNM.out.mono ?_
     rintro e w8 ⟨vn,rfl,hon,hb8⟩
     have HRN:=zh (k8y hon (by rw[List.length_map]))
     obtain⟨AN,cn,rfl⟩:∃A c,vn= .slice A (J4 P).length c:=by obtain⟨A,c,h,_⟩:=V7 hon;exact⟨A,c,h⟩
     have hb9:Below w8.heap.size w8 (w8.alloc (.cells #[.slice AN (J4 P).length cn] 60)):=(zb _ _).alloc (zl _) _
     have hb89:=hb8.trans (hb9.mono hb8.size)
     have HB9:=zh (HB7.out.trans (hb89.mono HB7.out.size))
     have OX9:=zh (OX7.out.below hb89)
     have RL9:=zh ((RL7.out.keep hb89 (zl _)).more hb89.size)
     have BX9:=zh (BX7.out.below hb89 BX7.out.lt)
     have E9:=zh ((hb89.cell (p:=⟨bf,0,none⟩) hbf7).trans E7.out)
     have HRN9:=zh ((HRN.out.keep fun p hp=>hb9.cell hp).more hb9.size)
     have CN:=zh (k8p w8 (.slice AN (J4 P).length cn) 60)
     have hbn:w8.heap.size<(w8.alloc (.cells #[.slice AN (J4 P).length cn] 60)).heap.size:=by simp
     have hbf9:=Nat.lt_of_lt_of_le hbf7 hb89.size
     have hxb9:=BX9.out.lt
     have HBN:=zh (Node.binC HP.out x HIX.out.1 _ (HN.out.below HB9.out))
     obtain⟨z0,z1,_,_⟩:=BX9.out
     have d6:=E9.out
     have dn:=CN.out
     clear hon hb8 hb9 hb89 HNM
     go_wp2_with fail
     generalize w8.alloc (.cells #[.slice AN (J4 P).length cn] 60)=w9 at *
     generalize w8.heap.size=bn at *
     refine HBN.out.mono ?_
     intro e w10 hbin
     obtain⟨p,rfl,hp,hb10⟩:=k8x hbin
     have HB10:=zh (HB9.out.trans (hb10.mono HB9.out.size))
     have OX10:=zh (OX9.out.below hb10)
     have RL10:=zh ((RL9.out.keep hb10 (zl _)).more hb10.size)
     have BX10:=zh (BX9.out.below hb10 BX9.out.lt)
     have E10:=zh ((hb10.cell (p:=⟨bf,0,none⟩) hbf9).trans E9.out)
     have CN10:=zh ((hb10.cell (p:=⟨bn,0,none⟩) hbn).trans CN.out)
     have HRN10:=zh ((HRN9.out.keep fun p hp=>hb10.cell hp).more hb10.size)
     have hbf10:=Nat.lt_of_lt_of_le hbf9 hb10.size
     have hbn10:=Nat.lt_of_lt_of_le hbn hb10.size
     clear hbin hb10 z0 z1 d6 dn HBN
     cases p with
     | some q=>
      have HIE:Hid (inFL fs L P=(P,[],6)):=zh (by rw[HE.out];exact HIB.out.there (.inl (by rw[HXE.out,←hp];rfl)))
      clear hp
      have d6:=E10.out
      have se:=(HW.out.below HB10.out).exist
      go_wp2
      go_region
      go_wp2
      go_ret2
      exact NamesPost.bad HN.out (by rw[HL.out,HIE.out];rfl) (ES.sent a 5 (by decide)) HB10.out.drew
     | none=>
      have HNB:Hid (Q1 P.bins (repR r0)=none):=zh (by
       rw[HXE.out]
       cases hg:Q1 P.bins x with
       | none=>rfl
       | some _=>rw[hg]at hp;cases hp)
      have hnn:(J4 P).length≤1000000:=by
       have:(J4 P).length=P.files.length:=List.length_map ..
       omega
      have HC2:=zh (k6m bn (fun r=>decide (r.name∈J4 P)) (.slice (some ⟨g,o,none⟩) fs.length c1) fs (by omega) w10 OX10.out.rsB (fun y hy sl w' hb hsl=>k6p y sl bn (.slice AN (J4 P).length cn) (J4 P) hnn w' hsl ((hb.cell (p:=⟨bn,0,none⟩) hbn10).trans CN10.out) ((HRN10.out.keep fun p hp=>hb.cell hp).more hb.size)))
      have d6:=E10.out
      clear hp
      go_wp2_with fail
      refine HC2.out.mono ?_
      rintro e w11 ⟨rfl,hb11⟩
      have HB11:=zh (HB10.out.trans (hb11.mono HB10.out.size))
      have OX11:=zh (OX10.out.below hb11)
      have RL11:=zh ((RL10.out.keep hb11 (zl _)).more hb11.size)
      have BX11:=zh (BX10.out.below hb11 BX10.out.lt)
      have E11:=zh ((hb11.cell (p:=⟨bf,0,none⟩) hbf10).trans E10.out)
      have CN11:=zh ((hb11.cell (p:=⟨bn,0,none⟩) hbn10).trans CN10.out)
      have hbf11:=Nat.lt_of_lt_of_le hbf10 hb11.size
      clear hb11 d6 HC2
      by_cases hnm:fs.any (fun r=>decide (r.name∈J4 P))=true
      ·rw[hnm]
       have HIE:Hid (inFL fs L P=(P,[],6)):=zh (by rw[HE.out];exact HIB.out.there (.inr (by rw[←HE.out];exact hnm)))
       clear hnm
       have se:=(HW.out.below HB11.out).exist
       go_wp2
       go_region
       go_wp2
       go_ret2
       exact NamesPost.bad HN.out (by rw[HL.out,HIE.out];rfl) (ES.sent a 5 (by decide)) HB11.out.drew
      ·rw[Bool.not_eq_true]at hnm
       rw[hnm]
       have HIC:Hid (InC P r0 t L):=zh ⟨HIB.out,HNB.out,by rw[←HE.out];exact hnm⟩
       have d6:=E11.out
       have dn:=CN11.out
       have hnl2:(J4 P).length=P.files.length:=List.length_map ..
       clear hnm
       by_cases hg:30<P.files.length+fs.length
       ·have hgt:(30:Int)<((J4 P).length:Int)+(fs.length:Int):=by omega
        have HIE:Hid (inFL fs L P=(P,[],7)):=zh (by rw[HE.out,HIC.out.start,if_pos (by rw[←HE.out];exact hg)])
        clear hg hnl2
        have se:=(HW.out.below HB11.out).full
        go_wp2
        go_region
        go_wp2
        go_ret2
        exact NamesPost.bad HN.out (by rw[HL.out,HIE.out];rfl) (ES.sent a 6 (by decide)) HB11.out.drew
       ·have hgt:¬(30:Int)<((J4 P).length:Int)+(fs.length:Int):=by omega
        have HNG:=zh hg
        have HNW:=zh (z9o w11)
        clear hg hnl2
        go_wp2_with fail
        refine HNW.out.mono ?_
        rintro e w12 ⟨b,mb,rfl,hob,hbge,hmge,hb12⟩
        have HB12:=zh (HB11.out.trans (hb12.mono HB11.out.size))
        have HFI:=zh (k7f a b mb [] (.slice A2 L.length c2) L (by have:=HLW.out.1;omega) HLW.out.2 w12.heap.size w12 hob ((RL11.out.keep hb12 (zl _)).more hb12.size) (zl _) ((HW.out.s.below HB12.out).sub (by decide)))
        have HBW:=zh hb12
        clear hob hb12 HNW d6 dn hgt
        go_wp2_with fail
        refine HFI.out.mono ?_
        rintro e w13 ⟨r,mb',rfl,hev,hob,hmb,hgb⟩
        have hb13:Below w11.heap.size w11 w13:=HBW.out.grown hgb HBW.out.size (fun k he=>by injection he with he;omega)
        have HB13:=zh (HB11.out.trans (hb13.mono HB11.out.size))
        have OX13:=zh (OX11.out.below hb13)
        have BX13:=zh (BX11.out.below hb13 BX11.out.lt)
        have d6:=(hb13.cell (p:=⟨bf,0,none⟩) hbf11).trans E11.out
        have HMB:Hid (w.heap.size≤b∧w.heap.size≤mb'):=zh (by
         have h1:=HB11.out.size
         have h2:=HB12.out.size
         refine⟨by omega,?_⟩
         rcases hmb with e|e<;>omega)
        clear hb13 hmb hgb hbge hmge HFI
        by_cases hf:(q0f L).1=0
        ·obtain⟨rfl,_⟩:=hev.nil hf
         rw[if_pos hf]at hob
         have HIO:Hid (InOk fs L P r0 t):=zh (by
          have:=HIC.out.ok (by rw[←HE.out];exact HNG.out) hf
          rw[←HE.out]at this
          exact this)
         have HTK:=zh (Node.takeC HP.out HIO.out HFK.out w13 (HN.out.below HB13.out) HN.out.lt OX13.out hob HMB.out.1 HMB.out.2)
         have HNW:=zh (HIO.out.w HP.out HFK.out)
         have HOU:=zh HIO.out.out
         rw[HXE.out]at HTK HNW HOU
         obtain⟨z0,z1,_,_⟩:=BX13.out
         clear hev hf hob
         go_wp2_with fail
         refine HTK.out.mono ?_
         rintro e w14 ⟨rfl,f',h14,hfr,hnew⟩
         have hxb13:=BX13.out.lt
         have hns:¬f.S bx:=fun hs=>by have:=HN.out.lt bx (.inl hs);omega
         have q0:=(hfr.cell (p:=⟨bx,0,none⟩) hxb13 hns).trans z0
         have q1:=(hfr.cell (p:=⟨bx,1,none⟩) hxb13 hns).trans z1
         have HOF:=zh (Node.ofW HNW.out x w14 h14)
         have H14:=zh h14
         have HFR:=zh ((FrS.of_below (S:=f.S) HB13.out).trans hfr fun _ h=> .inl h)
         have HNEW:=zh hnew
         clear h14 hfr hnew z0 z1 d6 HTK hns hxb13
         go_wp2_with fail
         refine HOF.out.mono ?_
         rintro e w15 ⟨v,rfl,hown,hb15⟩
         have HOWN:=zh (M2 hown HFR.out.size)
         have HB15:=zh hb15
         clear hown hb15 HOF q0 q1
         go_wp2
         go_ret2
         rw[HL.out,HOU.out]
         exact⟨_,_,rfl,HOWN.out,ES.none a,f',H14.out.below HB15.out,HFR.out.thenB HB15.out,HNEW.out⟩
        ·obtain⟨ty,pv,rfl⟩:=hev.some hf
         have HIE:Hid (inFL fs L P=(P,[],(q0f L).1)):=zh (by
          rw[HE.out,HIC.out.start,if_neg (by rw[←HE.out];exact HNG.out),if_pos hf])
         have HBR:=zh (z9z a _ _ _ w13 hev)
         clear hev hf hob d6
         go_wp2_with fail
         refine HBR.out.mono ?_
         rintro e w14 ⟨xe,rfl,hes,hb14⟩
         have HB14:=zh (HB13.out.trans (hb14.mono HB13.out.size))
         have HES:=zh hes
         clear hes hb14
         go_wp2
         go_ret2
         exact NamesPost.bad HN.out (by rw[HL.out,HIE.out]) HES.out HB14.out
    ·obtain⟨ty,pv,rfl⟩:=hev.some hc
     have HIE:Hid (inFL fs L P=(P,[],(G7 fs [⟨x,L⟩]).1)):=zh (by
      rw[HE.out,HIA.out.chk (by rw[←HE.out,HXE.out];exact hc),HXE.out])
     have HBR:=zh (z9z a _ _ _ w7 hev)
     clear hev hc
     go_wp2_with fail
     refine HBR.out.mono ?_
     rintro e w8 ⟨xe,rfl,hes,hb8⟩
     have HB8:=zh (HB7.out.trans (hb8.mono HB7.out.size))
     have HES:=zh hes
     clear hes hb8
     go_wp2
     go_ret2
     exact NamesPost.bad HN.out (by rw[HL.out,HIE.out]) HES.out HB8.out
end Go.Proofs.YtdmlghfggninbaaGreatDoor
namespace Go.Proofs.YtdmlghfggninbaaGreatDoor
open Go.RowKit Go.Lib Go.Maps Go.WideMaps
theorem Node.notS{n:Nat}{P:PNode}{f:Foot}{w:World}(h:Node n P f w){g:Nat}{es:Array Value}{T:TypeId}{z:Nat×Nat}(hc:w.heap[g]? =some (.cells es T z)):¬f.S g:=by
 obtain⟨fm,bm,F,B,ho,rfl,rfl⟩:=h.at
 intro hs
 rcases hs with e|e|⟨q,hq,e⟩
 ·obtain⟨es,c,h1⟩:=ho.files.isMap
  rw[e,h1]at hc;cases hc
 ·obtain⟨es,c,h1⟩:=ho.bins.isMap
  rw[e,h1]at hc;cases hc
 ·obtain⟨es,c,h1⟩:=(ho.bin q hq).isMap
  rw[←e,h1]at hc;cases hc
theorem Node.rowS{n:Nat}{P:PNode}{f:Foot}{w w':World}(h:Node n P f w)(hF:FrS f.S w w'){base m size:Nat}{e:TypeId}{v:Value}{xs:List Value}(hr:w.ownsRow base e size v m xs):w'.ownsRow base e size v m xs:=
 j8p hr hF fun g hg=>by
  rcases hr.2 with⟨rfl,_⟩|⟨g',cap,cur,rfl,_,hh,_⟩
  ·cases hg
  ·injection hg with hg
   have hg:g'=g:=hg
   subst hg
   exact h.notS hh
structure N2(base n o:Nat)(P Q:PNode)(f g:Foot)(w0 w:World):Prop where
 l:NIn base n P f w0 w
 r:NIn base o Q g w0 w
 ap:f.ap g
section
variable {base n o:Nat} {P Q P':PNode} {f g:Foot} {w0 w w':World}
theorem N2.below(h:N2 base n o P Q f g w0 w)(hb:Below w.heap.size w w'):N2 base n o P Q f g w0 w':=⟨h.l.below hb,h.r.below hb,h.ap⟩
theorem N2.swap(h:N2 base n o P Q f g w0 w):N2 base o n Q P g f w0 w:=⟨h.r,h.l,h.ap.symm⟩
theorem N2.left(h:N2 base n o P Q f g w0 w)(ht:NodeTo n f P' w w'):∃f',N2 base n o P' Q f' g w0 w'∧FrS f.S w w':=by
 obtain⟨f',h1,h2,h3⟩:=ht
 have hb:=h2.below h.l.bel h.l.sz h.l.ge
 refine⟨f',⟨⟨h1,fun k hk=>((h3 k).1 hk).elim (h.l.ge k) (fun hB=>Nat.le_trans h.l.sz hB),hb,Nat.le_trans h.l.sz h2.size⟩,⟨Thing.far h.r.node h2 h.ap,h.r.ge,hb,Nat.le_trans h.l.sz h2.size⟩,h.ap.step h3 h.r.node.lt⟩,h2⟩
theorem N2.right(h:N2 base n o P Q f g w0 w)(ht:NodeTo o g P' w w'):∃g',N2 base n o P P' f g' w0 w'∧FrS g.S w w':=by
 obtain⟨g',h1,h2⟩:=h.swap.left ht
 exact⟨g',h1.swap,h2⟩
theorem N2.new(h:NIn base n P f w0 w)(hn:Node o ⟨[],[]⟩ g w')(hg:g.ge w.heap.size)(hb:Below w.heap.size w w'):N2 base n o P ⟨[],[]⟩ f g w0 w':=
 ⟨h.below hb,NIn.new hn (fun k hk=>Nat.le_trans h.sz (hg k hk)) (h.below hb).bel (h.below hb).sz,(Foot.ap_of_ge hg h.node.lt).symm⟩
end
theorem k9a{P:PNode}{x:Idn}{L:HldL}(hg:Q1 P.bins x=some L):outN P x=(V0 P x L++hex8 (prOf (V0 P x L)),0):=by unfold outN;rw[hg]
theorem k9b{P:PNode}(h:NodeOk P){x:Idn}{L:HldL}(hg:Q1 P.bins x=some L)(hl:(outN P x).1.length≤40000):inN (outN P x).1 ⟨[],[]⟩=(subN P x L,ofN P x,0):=by
 rw[k9a hg]at hl ⊢
 have h8:(hex8 (prOf (V0 P x L))).length=8:=X8 _ _
 rw[List.length_append,h8]at hl
 unfold inN
 rw[k0d h hg hl]
 exact(k0o h hg).1
theorem k9c:Q1 nd1.bins (idOf hlo)=some hl1:=by
 show Q1 [(idOf hlo,hl1)] (idOf hlo)=_
 rw[J3,if_pos rfl]
theorem k9d:ofN nd1 (idOf hlo)= [[97]]:=by
 unfold ofN nd1
 rw[List.filter_cons,if_pos (by rw[decide_eq_true_iff];exact j8g)];rfl
theorem k9e:getN [97] nd1=(hlo,0):=by
 have e:Q1 nd1.files [97]=some (Q7 [97] hlo):=by
  show Q1 [(([97]:Bytes),Q7 [97] hlo)] [97]=_
  rw[J3,if_pos rfl]
 have hb:binN nd1 (repR (Q7 [97] hlo))=hl1:=by
  rw[show repR (Q7 [97] hlo)=idOf hlo from j8g]
  unfold binN
  rw[k9c];rfl
 unfold getN
 rw[e]
 simp only
 rw[hb,show(Q7 [97] hlo).ids= [idOf hlo]from j8d,List.map_cons,List.map_nil]
 have:z6q hl1 (idOf hlo)=hlo:=by unfold z6q;rw[j8e];rfl
 rw[this];rfl
theorem k9f:(outN nd1 (idOf hlo)).1.length≤40000:=by
 rw[k9a k9c]
 have h8:(hex8 (prOf (V0 nd1 (idOf hlo) hl1))).length=8:=X8 _ _
 rw[List.length_append,h8]
 decide+kernel
theorem k9g(a:Nat→Addr)(w:World)(hw:MvW a w)(h9:SomeS [9] a w) :
  Calls Tryz.prog 16 #[] w fun e w'=>e= .returned (.bool true)∧Below w.heap.size w w':=by
 have ok1:NodeOk nd1:=by have:=NodeOk.nil.put [97] hlo;rw[j8h]at this;exact this
 have hks:∀w',Below w.heap.size w w'→SomeS [0,1,2,3,4,5,6,7,8,9,10] a w':=fun w' hb k hk=>by
  by_cases h:k=9
  ·subst h;exact(h9.below hb) 9 (by simp)
  ·exact(hw.below hb).s k (by simp at hk ⊢;omega)
 have HKS:=zh hks
 have HW:=zh hw
 have HP1:=zh (fun n f w' (h:Node n ⟨[],[]⟩ f w') (hb:Below w.heap.size w w')=>Node.putC a NodeOk.nil [97] hlo (by unfold X6 maxLen;decide) w' h ((hks w' hb).sub (js:= [1,3,5,6,9]) (by decide)))
 have OK:=zh ok1
 have HOI:=zh (k9b ok1 k9c k9f)
 have HOS:=zh (k9a k9c)
 have HGN:=zh (k1h ok1 k9c (nm:= [97]) (by rw[k9d];exact List.mem_cons_self))
 have HLN:=zh k9f
 rw[j8h]at HP1
 rw[k9d]at HOI
 rw[k9e]at HGN
 have hix:IdOk (idOf hlo):=(z6y (by decide)).1
 have HIX:=zh hix
 have hcmp:((bs hlo).toList== [104,101,108,108,111])=true:=by rw[ByteArray.toList_eq,Q3];rfl
 clear hw h9 ok1 hks hix
 go_enter Tryz.func16,Tryz.ntmps16
 go_wp2_with fail
 refine(j3a w).mono ?_
 rintro e w1 ⟨n,f,rfl,hn,hge,hb1⟩
 have H1:=zh (NIn.new hn hge hb1 hb1.size)
 clear hn hge hb1
 go_wp2_with fail
 refine(j3a w1).mono ?_
 rintro e w2 ⟨o,g,rfl,hn,hge,hb2⟩
 have H2:=zh (N2.new H1.out hn hge hb2)
 clear hn hge hb2
 go_wp2_with fail
 refine(HP1.out n f w2 H2.out.l.node H2.out.l.bel).mono ?_
 rintro e w3 ⟨r3,rfl,hev3,ht3⟩
 obtain⟨rfl,_⟩:=hev3.nil rfl
 obtain⟨f3,h3,_⟩:=H2.out.left ht3
 have H3:=zh h3
 have HRP:=zh (Node.repsC OK.out w3 h3.l.node)
 clear hev3 ht3 h3
 go_wp2_with fail
 refine HRP.out.mono ?_
 rintro e w4 ⟨v4,rfl,hr4,hb4⟩
 have H4:=zh (H3.out.below hb4)
 obtain⟨A4,c4,hv4,hl4,hc4,hx4⟩:RdI w4 w4.heap.size v4 [idOf hlo]:=RdC.ownP hr4
 obtain⟨g4,o4,rfl,hg4,hcell⟩:=hx4 (by decide)
 subst hv4
 have x0:=hcell 0 _ rfl
 have x1:=hcell 1 _ rfl
 rw[Nat.add_zero]at x0
 have HOU:=zh (k0z a OK.out (idOf hlo) HIX.out w4 H4.out.l.node ((HKS.out w4 H4.out.l.bel).sub (by decide)) (HW.out.below H4.out.l.bel).r.t)
 clear hr4 hb4 hcell hl4 hc4 hx4 HRP
 have HZ0:Hid ((outN nd1 (idOf hlo)).2=0):=zh (by rw[HOS.out])
 have okq:NodeOk (subN nd1 (idOf hlo) hl1):=OK.out.sub k9c
 have OKQ:=zh okq
 clear okq
 generalize subN nd1 (idOf hlo) hl1=Q at *
 clear HOS
 unfold k0w at HOU
 generalize outN nd1 (idOf hlo)=S at *
 generalize idOf hlo=x at *
 go_wp2_with fail
 refine HOU.out.mono ?_
 rintro e w5 ⟨r5,rfl,hes5,hb5⟩
 obtain⟨rfl,_⟩:=hes5.nil HZ0.out
 have H5:=zh (H4.out.below hb5)
 have HIN:=zh (k8z a NodeOk.nil S.1 (by have:=HLN.out;omega) w5 H5.out.r.node (HW.out.below H5.out.l.bel))
 rw[HOI.out]at HIN
 clear hes5 hb5 x0 x1 HOU
 go_wp2_with fail
 refine HIN.out.mono ?_
 rintro e w6 ⟨v6,r6,rfl,hown,hes6,ht6⟩
 obtain⟨rfl,_⟩:=hes6.nil rfl
 obtain⟨g6,h6,_⟩:=H5.out.right ht6
 have H6:=zh h6
 obtain⟨A6,c6,hv6⟩:∃A c,v6= .slice A 1 c:=by obtain⟨A,c,h,_⟩:=V7 hown;exact⟨A,c,h⟩
 subst hv6
 have HRD:=zh (k8y hown rfl)
 have HGT:=zh (Node.getC a OKQ.out [97] (by unfold X6 maxLen;decide) w6 H6.out.r.node ((HKS.out w6 H6.out.l.bel).sub (by decide)))
 rw[HGN.out.1]at HGT
 unfold j5c at HGT
 clear hown hes6 ht6 h6 HIN
 go_wp2_with fail
 refine HGT.out.mono ?_
 rintro e w7 ⟨r7,rfl,hes7,hb7⟩
 obtain⟨rfl,_⟩:=hes7.nil rfl
 have H7:=zh (H6.out.below hb7)
 have HRD7:=zh ((HRD.out.keep fun p hp=>hb7.cell hp).more hb7.size)
 have hb8:Below w7.heap.size w7 (w7.alloc (.cells #[VT [97]] 9)):=(zb _ _).alloc (zl _) _
 have hz8:w7.heap.size<(w7.alloc (.cells #[VT [97]] 9)).heap.size:=by simp
 have H8:=zh (H7.out.below hb8)
 have HST:=zh (q9y (.slice A6 1 c6) (.slice (some ⟨w7.heap.size,0,none⟩) 1 1) [[97]] [[97]] (w7.alloc (.cells #[VT [97]] 9)).heap.size (w7.alloc (.cells #[VT [97]] 9)) ((HRD7.out.keep fun p hp=>hb8.cell hp).more hb8.size) ⟨_,1,rfl,zl _,fun _=>⟨w7.heap.size,0,rfl,hz8,fun k u hu=>by
  match k,hu with
  | 0,hu=>injection hu with hu;rw[←hu];exact k8p _ _ _
  | k+1,hu=>simp at hu⟩⟩ (by decide) (by decide))
 clear hes7 hb7 hb8 hz8 HGT
 go_wp2_with fail
 refine HST.out.mono ?_
 rintro e w9 ⟨rfl,k,rfl⟩
 have HB9:Hid (Below w.heap.size w ((w7.alloc (.cells #[VT [97]] 9)).drewN k)):=zh (V3 H8.out.l.bel k)
 go_wp2
 go_ret
 exact⟨rfl,HB9.out⟩
end Go.Proofs.YtdmlghfggninbaaGreatDoor
