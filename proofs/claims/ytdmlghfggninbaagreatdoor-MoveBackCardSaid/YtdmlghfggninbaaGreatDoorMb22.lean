/- ScG, ScH in one text. Conditions: as each part says. -/
import Derived.Test.YtdmlghfggninbaaGreatDoorScF
import Derived.Test.YtdmlghfggninbaaGreatDoorMb17
import Derived.Test.YtdmlghfggninbaaGreatDoorMb20
set_option linter.unusedVariables false
set_option linter.unusedSimpArgs false
set_option maxHeartbeats 8000000
set_option maxRecDepth 100000
namespace Go.Proofs.YtdmlghfggninbaaGreatDoor
open Go.RowKit Go.Lib
theorem k7z{q:Option Rcp}{r:Rcp}{ls:List Load}(h:M7 q r ls=0):(Z9 r).1=0:=by
 by_cases h0:(Z9 r).1=0
 ·exact h0
 ·rw[z7i h0]at h;exact absurd h h0
theorem k8a{fs:List Rcp}{k:Nat}(hk:k<fs.length):M5 fs (k+1)=some fs[k]:=by
 unfold M5
 rw[if_neg (by omega),Nat.add_sub_cancel,List.getElem?_eq_getElem hk]
theorem k8b{ls:List Load}{fs:List Rcp}{k i:Nat}(hk:k<fs.length):z7p ls (M5 fs k) i (fs.drop k)=if M7 (M5 fs k) fs[k] ls≠0 then(M7 (M5 fs k) fs[k] ls,(i:Int))else z7p ls (M5 fs (k+1)) (i+1) (fs.drop (k+1)):=by
 rw[List.drop_eq_getElem_cons hk,k8a hk];rfl
theorem k8c(ls:List Load)(q:Option Rcp)(i:Nat)(fs:List Rcp):z7p ls q i (fs.drop fs.length)=(0,-1):=by rw[List.drop_length];rfl
def k8d(ls:List Load)(k:Nat):Option Load:=if k=0 then none else ls[k-1]?
theorem k8e{ls:List Load}{k:Nat}(hk:k<ls.length):k8d ls (k+1)=some ls[k]:=by
 unfold k8d
 rw[if_neg (by omega),Nat.add_sub_cancel,List.getElem?_eq_getElem hk]
theorem k8f{fs:List Rcp}{ls:List Load}{k i:Nat}(hk:k<ls.length):z7q fs (k8d ls k) i (ls.drop k)=if z7o fs (k8d ls k) ls[k]≠0 then(z7o fs (k8d ls k) ls[k],(i:Int))else z7q fs (k8d ls (k+1)) (i+1) (ls.drop (k+1)):=by
 rw[List.drop_eq_getElem_cons hk,k8e hk];rfl
theorem k8g(fs:List Rcp)(q:Option Load)(i:Nat)(ls:List Load):z7q fs q i (ls.drop ls.length)=(0,-1):=by rw[List.drop_length];rfl
theorem k8h{fs:List Rcp}{b:Load}:z7o fs none b=oneS fs b.rep b.l:=by unfold z7o;rw[if_neg (by simp)]
theorem k8i{fs:List Rcp}{p b:Load}:z7o fs (some p) b=if Q2 p.rep b.rep=true then oneS fs b.rep b.l else 8:=by
 unfold z7o
 by_cases h:Q2 p.rep b.rep=true
 ·rw[if_pos h,if_neg (by simp[h])]
 ·rw[if_neg h,if_pos (by simp[h])]
theorem k8j{r:Rcp}(hb:RcpB r)(h:(Z9 r).1=0):r.ids.length≤250∧∀x∈r.ids,R5 x:=by
 have hi:r.ids.length≤250∧(X9 r.len 0 0 r.ids).1=0:=by
  unfold Z9 at h
  split at h
  ·exact absurd h (by decide)
  ·split at h
   ·exact absurd h (by decide)
   ·split at h
    ·exact absurd h (by decide)
    ·next h3=>exact⟨by omega,h⟩
 have hall:∀(l:IdL) (i:Nat) (n:Int),(X9 r.len i n l).1=0→∀x∈l,1≤x.2∧x.2≤64:=by
  intro l
  induction l with
  | nil=>intro _ _ _ x hx;cases hx
  | cons y t ih=>
   intro n i h0 x hx
   unfold X9 at h0
   split at h0
   ·exact absurd (show(3:Int)=0 from h0) (by decide)
   ·next h1=>
    rcases List.mem_cons.1 hx with rfl|hx
    ·omega
    ·exact ih _ _ h0 x hx
 refine⟨hi.1,fun x hx=> ?_⟩
 have h1:=hall _ _ _ hi.2 x hx
 have h2:=hb.i x hx
 exact⟨⟨h2.1,h2.2.1,h2.2.2⟩,by omega⟩
def k8k(a:Nat→Addr)(F:Int×Int)(w:World)(e:Ending)(w':World):Prop:=∃x,e= .returned x∧EV a x F.1 F.2 w'∧Below w.heap.size w w'
theorem k8l(a:Nat→Addr)(vf vb:Value)(fs:List Rcp)(ls:List Load)(hfl:fs.length≤1000000)(hrb:∀r∈fs,RcpB r)(hll:ls.length≤1000000)(hlb:∀y∈ls,y.l.length≤1000000)(hlw:∀y∈ls,∀x∈y.l,HldW x∧x.text.length≤1000000000)(w:World)(hf:RsRd w w.heap.size vf fs)(hl:LdRd w w.heap.size vb ls)(hs:SomeS [1,2,3,4,6,7,8,10] a w) :
  Calls Tryz.prog 66 #[vf,vb] w (k8k a (G7 fs ls) w):=by
 obtain⟨FA,fc,hvf,_⟩:=id hf
 obtain⟨A,c,hvl,hcap,hcells⟩:=id hl
 have HF:=zh hf
 have HLD:=zh hl
 have HS:=zh hs
 have HRB:=zh hrb
 have HLB:=zh hlb
 have HLW:=zh hlw
 have HC:=zh hcells
 subst hvf
 subst hvl
 clear hf hl hs hrb hlw hcells
 by_cases h30:30<fs.length
 ·have h30i:(fs.length:Int)>30:=by omega
  have HCK:Hid (G7 fs ls=(7,-1)):=zh (if_pos h30)
  have s6:w.cell? ⟨3,0,none⟩=some (sval a 6):=HS.out 6 (by simp)
  unfold sval at s6
  have HQ:Hid (k8k a (G7 fs ls) w (.returned (.iface 376 (.pointer (some (a 6))))) w):=zh ⟨_,rfl,by rw[HCK.out];exact EV.sent a _ 6 (by decide),zb _ _⟩
  clear h30
  go_enter Tryz.func66,Tryz.ntmps66
  go_wp2
  go_ret
  exact HQ.out
 ·have h30i:¬(fs.length:Int)>30:=by omega
  have HC1:Hid (G7 fs ls=if(z7p ls none 0 fs).1≠0 then z7p ls none 0 fs else z7q fs none 0 ls):=zh (if_neg h30)
  have hfl30:fs.length≤30:=by omega
  clear h30
  go_enter Tryz.func66,Tryz.ntmps66
  go_wp2
  go_loopg [16] fs.length (fun gh v16 wr=>∃k:Nat,v16= .int .i64 k∧k≤fs.length∧gh=fs.length-k∧Hid (z7p ls none 0 fs=z7p ls (M5 fs k) k (fs.drop k))∧Hid (∀r∈fs.take k,(Z9 r).1=0)∧Hid (Below w.heap.size w wr))
  case atStart=>exact⟨0,rfl,Nat.zero_le _,rfl,zh rfl,zh (fun r hr=>by simp at hr),zh (zb _ _)⟩
  case round=>
   obtain⟨k,rfl,hk,hgm,HFK,HOK,HBr⟩:=hrel
   by_cases hkl:k<fs.length
   ·have b1:(0:Int)≤(k:Int):=by omega
    have b2:(k:Int)<(fs.length:Int):=by omega
    have HSF:=zh (k7k a (.slice FA fs.length fc) (.slice A ls.length c) fs ls hfl hll HLB.out k hkl (HRB.out _ (List.getElem_mem hkl)) wr ((HF.out.keep HBr.out (zl _)).more HBr.out.size) ((HLD.out.keep HBr.out (zl _)).more HBr.out.size) ((HS.out.below HBr.out).sub (js:= [1,2,3,4,6,7,8]) (by decide)))
    go_wp2_with fail
    refine HSF.out.mono ?_
    rintro e w4 ⟨x,rfl,hes,hb4⟩
    have HB4:=zh (HBr.out.trans (hb4.mono HBr.out.size))
    clear hb4 HSF
    by_cases hc:M7 (M5 fs k) fs[k] ls=0
    ·obtain⟨rfl,_⟩:=hes.nil hc
     have HN:=zh (HFK.out.trans ((k8b hkl).trans (if_neg (by rw[hc];simp))))
     have HOK2:Hid (∀r∈fs.take (k+1),(Z9 r).1=0):=zh (fun r hr=>by
      rw[List.take_succ_eq_append_getElem hkl]at hr
      rcases List.mem_append.1 hr with hr|hr
      ·exact HOK.out r hr
      ·rw[List.mem_singleton.1 hr];exact k7z hc)
     clear hc hes
     go_wp2
     go_roundg (fs.length-(k+1))
     case measure=>omega
     case rel=>exact⟨k+1,by go_num,hkl,rfl,HN,HOK2,HB4⟩
    ·have HCK:=zh (HFK.out.trans ((k8b hkl).trans (if_pos hc)))
     have HCK2:Hid (G7 fs ls=(M7 (M5 fs k) fs[k] ls,(k:Int))):=zh (by rw[HC1.out,HCK.out,if_pos hc])
     rcases hes with⟨rfl,h0⟩|⟨q,hq,rfl,hcq⟩
     ·exact absurd h0 hc
     ·have HQ:Hid (k8k a (G7 fs ls) w (.returned (.iface 170 (.pointer (some ⟨w4.heap.size,0,none⟩)))) (w4.alloc (.cells #[.int .i64 (k:Int),.iface 376 (.pointer (some (a q)))] 173))):=zh ⟨_,rfl,by rw[HCK2.out];simp only;rw[hcq];exact q4x a w4 q hq _ _,HB4.out.alloc HB4.out.size _⟩
      unfold sval
      clear hc hcq
      go_wp2
      go_ret
      exact HQ.out
   ·obtain rfl:k=fs.length:=by omega
    obtain⟨wo,hwo⟩:∃x,x=wr:=⟨_,rfl⟩
    subst hwo
    have HCK:Hid (G7 fs ls=z7q fs none 0 ls):=zh (by
     have h:=HFK.out
     rw[k8c]at h
     rw[HC1.out,h,if_neg (by simp)])
    have HOKS:Hid (∀r∈fs,r.ids.length≤250∧∀x∈r.ids,R5 x):=zh (fun r hr=>k8j (HRB.out r hr) (HOK.out r (by rw[List.take_length];exact hr)))
    have HB0:=HBr
    clear HFK HOK HC1 hk hgm
    go_wp2
    go_loopg [33] ls.length (fun gh v33 wr=>∃k:Nat,v33= .int .i64 k∧k≤ls.length∧gh=ls.length-k∧Hid (z7q fs none 0 ls=z7q fs (k8d ls k) k (ls.drop k))∧Hid (Below wo.heap.size wo wr))
    case atStart=>exact⟨0,rfl,Nat.zero_le _,rfl,zh rfl,zh (zb _ _)⟩
    case round=>
     obtain⟨k,rfl,hk,hgm,HLK,HBq⟩:=hrel
     by_cases hkl:k<ls.length
     ·obtain⟨g,o,rfl,hg,hx⟩:=HC.out (by omega)
      obtain⟨sl,hsl,x0,x1,x2⟩:=hx k hkl
      obtain⟨SA,sc,hsv,_⟩:=hsl.form
      subst hsv
      have HBw:=zh (HB0.out.trans (HBq.out.mono HB0.out.size))
      have y0:=(HBw.out.cell (p:=⟨g,o+k*3,none⟩) hg).trans x0
      have y1:=(HBw.out.cell (p:=⟨g,o+k*3+1,none⟩) hg).trans x1
      have y2:=(HBw.out.cell (p:=⟨g,o+k*3+2,none⟩) hg).trans x2
      have hyl:=HLB.out ls[k] (List.getElem_mem hkl)
      have hyw:=HLW.out ls[k] (List.getElem_mem hkl)
      have b1:(0:Int)≤(k:Int):=by omega
      have b2:(k:Int)<(ls.length:Int):=by omega
      obtain⟨y,hy⟩:∃y,ls[k]=y:=⟨_,rfl⟩
      rw[hy]at hsl x0 x1 x2 y0 y1 y2 hyl hyw
      have HY:=zh hy
      have hb4:Below wr.heap.size wr (wr.alloc (.cells #[.int .u32 (y.rep.1:Int),.int .i64 y.rep.2,.slice SA y.l.length sc] 113)):=(zb _ _).alloc (zl _) _
      have HB4:=zh (HBw.out.trans (hb4.mono HBw.out.size))
      have BX4:=zh (Box3.mk' wr (.int .u32 (y.rep.1:Int)) (.int .i64 y.rep.2) (.slice SA y.l.length sc) 113)
      have HOC:=zh (k7y a (.slice FA fs.length fc) (.slice SA y.l.length sc) fs hfl30 HOKS.out y.rep y.l hyl hyw (wr.alloc (.cells #[.int .u32 (y.rep.1:Int),.int .i64 y.rep.2,.slice SA y.l.length sc] 113)) ((HF.out.keep HB4.out (zl _)).more HB4.out.size) ((hsl.keep HB4.out (zl _)).more HB4.out.size) ((HS.out.below HB4.out).sub (js:= [2,7,8,10]) (by decide)))
      have hb4q:=HBq.out.trans (hb4.mono HBq.out.size)
      have HB4Q:=zh hb4q
      clear x0 x1 x2 hb4 hsl hyl hyw hy hb4q
      obtain⟨z0,z1,z2⟩:=BX4.out
      go_wp2_with fail
      generalize wr.alloc (.cells #[.int .u32 (y.rep.1:Int),.int .i64 y.rep.2,.slice SA y.l.length sc] 113)=w4 at *
      refine HOC.out.mono ?_
      rintro e w5 ⟨x,rfl,hes,hb5⟩
      have HB5:=zh (HB4Q.out.trans (hb5.mono HB4Q.out.size))
      have HB9:=zh (HB4.out.trans (hb5.mono HB4.out.size))
      have BX5:=zh (BX4.out.below hb5 BX4.out.lt)
      clear hb5 HOC z0 z1 z2 y0 y1 y2
      by_cases hk0:k=0
      ·have hpl:k8d ls k=none:=if_pos hk0
       have HL0:=zh (fun(hc:oneS fs y.rep y.l=0)=>HLK.out.trans ((k8f hkl).trans (if_neg (by rw[hpl,HY.out,k8h,hc];simp))))
       have HLc:=zh (fun(hc:oneS fs y.rep y.l≠0)=>HCK.out.trans (HLK.out.trans ((k8f hkl).trans ((if_pos (by rw[hpl,HY.out,k8h];exact hc)).trans (by rw[hpl,HY.out,k8h])))))
       have b7:¬((k:Int)>0):=by omega
       have HK0:=zh hk0
       clear hk0 hpl
       go_wp2
       have hT0:Below w5.heap.size w5 w5.drew:=(zb _ _).drew
       refine kR (fun w'=>Below w5.heap.size w5 w') 13 ?_
       refine kT 0 hT0 ?_
       refine kS 1 (v:= .bool false) rfl hT0 (fun w' hS=>by have W3:=HK0.out;go_simp) ?_
       refine kT 2 hT0 ?_
       refine kK 3 hT0 ?_
       refine kK 4 hT0 ?_
       refine kK 5 hT0 ?_
       refine kK 6 hT0 ?_
       refine kK 7 hT0 ?_
       refine kK 8 hT0 ?_
       refine kK 9 hT0 ?_
       refine kK 10 hT0 ?_
       refine kK 11 hT0 ?_
       refine kK 12 hT0 (kF ?_)
       try simp only[Act.put,zM]
       simp only[List.drop_succ_cons,List.drop_zero]
       have HB7:=zh (HB5.out.trans (hT0.mono HB5.out.size))
       have HB8:=zh (HB0.out.trans (HB7.out.mono HB0.out.size))
       clear hT0
       by_cases hc:oneS fs y.rep y.l=0
       ·obtain⟨rfl,_⟩:=hes.nil hc
        have HN2:=zh (HL0.out hc)
        clear hes hc
        go_wp2
        go_roundg (ls.length-(k+1))
        case measure=>omega
        case rel=>exact⟨k+1,by go_num,hkl,rfl,HN2,HB7⟩
       ·have HF:=zh (HLc.out hc)
        rcases hes with⟨rfl,h0⟩|⟨q,hq,rfl,hcq⟩
        ·exact absurd h0 hc
        ·have HQ:Hid (k8k a (G7 fs ls) w (.returned (.iface 170 (.pointer (some ⟨w5.drew.heap.size,0,none⟩)))) (w5.drew.alloc (.cells #[.int .i64 (k:Int),.iface 376 (.pointer (some (a q)))] 173))):=zh ⟨_,rfl,by rw[HF.out];simp only;rw[hcq];exact q4x a w5.drew q hq _ _,HB8.out.alloc HB8.out.size _⟩
         unfold sval
         clear hc hcq
         go_wp2
         go_ret
         exact HQ.out
      ·obtain⟨j,rfl⟩:∃j,k=j+1:=⟨k-1,by omega⟩
       obtain⟨_,_,d0,d1,_⟩:=hx j (by omega)
       have hg5:g<w5.heap.size:=Nat.lt_of_lt_of_le hg HB9.out.size
       have D0:=zh ((HB9.out.cell (p:=⟨g,o+j*3,none⟩) hg).trans d0)
       have D1:=zh ((HB9.out.cell (p:=⟨g,o+j*3+1,none⟩) hg).trans d1)
       have hpl:k8d ls (j+1)=some ls[j]:=k8e (by omega)
       generalize hlj:ls[j]=p at *
       have b3:(j:Int)+1>0:=by omega
       have HWR:Hid (IntKind.i64.wrap (j:Int)=(j:Int)):=zh (IntWalk.i64_in _ (by omega))
       have b4:(j:Int)<(ls.length:Int):=by omega
       have b5:j<ls.length:=by omega
       clear d0 d1 hk0 hlj hx
       cases hlt:Q2 p.rep y.rep with
       | true=>
        have HLT:Hid (C5 p.rep.1 y.rep.1 p.rep.2 y.rep.2=true):=zh hlt
        have HL0:=zh (fun(hc:oneS fs y.rep y.l=0)=>HLK.out.trans ((k8f hkl).trans (if_neg (by rw[hpl,HY.out,k8i,if_pos hlt,hc];simp))))
        have HLc:=zh (fun(hc:oneS fs y.rep y.l≠0)=>HCK.out.trans (HLK.out.trans ((k8f hkl).trans ((if_pos (by rw[hpl,HY.out,k8i,if_pos hlt];exact hc)).trans (by rw[hpl,HY.out,k8i,if_pos hlt])))))
        clear hlt hpl
        go_wp2
        have hT0:Below w5.heap.size w5 w5.drew:=(zb _ _).drew
        refine kR (fun w'=>Below w5.heap.size w5 w') 13 ?_
        refine kT 0 hT0 ?_
        refine kT 1 hT0 ?_
        refine kT 2 hT0 ?_
        refine kT 3 hT0 ?_
        refine kT 4 hT0 ?_
        refine kS 5 (v:= .int .i64 (j:Int)) rfl hT0 (fun w' hS=>by have W1:=b3;have W2:=HWR.out;go_simp) ?_
        refine kT 6 hT0 ?_
        refine kT 7 hT0 ?_
        refine kS 8 rfl hT0 (fun w' hS=>by have A0:=(hS.cell (p:=⟨g,o+j*3,none⟩) hg5).trans D0.out;have A1:=(hS.cell (p:=⟨g,o+j*3+1,none⟩) hg5).trans D1.out;go_simp;rfl) ?_
        refine kT 9 hT0 ?_
        refine kS 10 rfl hT0 (fun w' hS=>by obtain⟨A0,A1,A2⟩:=BX5.out.below hS BX5.out.lt;go_simp;rfl) ?_
        refine kC 11 (fun K hK=> ?_)
        go_simp
        refine(z0p p.rep.1 y.rep.1 p.rep.2 y.rep.2 _).mono ?_
        rintro e w6 ⟨rfl,hbw6⟩
        have hT1:Below w5.heap.size w5 w6:=hT0.trans (hbw6.mono hT0.size)
        refine hK _ _ hT1 ?_
        clear hK K
        try simp only[Act.put,zM]
        rw[HLT.out]
        refine kT 12 hT1 (kF ?_)
        try simp only[Act.put,zM]
        simp only[List.drop_succ_cons,List.drop_zero]
        have HB7:=zh (HB5.out.trans (hT1.mono HB5.out.size))
        have HB8:=zh (HB0.out.trans (HB7.out.mono HB0.out.size))
        clear hT0 hT1 hbw6
        by_cases hc:oneS fs y.rep y.l=0
        ·obtain⟨rfl,_⟩:=hes.nil hc
         have HN2:=zh (HL0.out hc)
         clear hes hc
         go_wp2
         go_roundg (ls.length-(j+1+1))
         case measure=>omega
         case rel=>exact⟨j+1+1,by go_num,hkl,rfl,HN2,HB7⟩
        ·have HF:=zh (HLc.out hc)
         rcases hes with⟨rfl,h0⟩|⟨q,hq,rfl,hcq⟩
         ·exact absurd h0 hc
         ·have HQ:Hid (k8k a (G7 fs ls) w (.returned (.iface 170 (.pointer (some ⟨w6.heap.size,0,none⟩)))) (w6.alloc (.cells #[.int .i64 ((j:Int)+1),.iface 376 (.pointer (some (a q)))] 173))):=zh ⟨_,rfl,by rw[HF.out];simp only;rw[hcq];exact q4x a w6 q hq _ _,HB8.out.alloc HB8.out.size _⟩
          unfold sval
          clear hc hcq
          go_wp2
          go_ret
          exact HQ.out
       | false=>
        have HLT:Hid (C5 p.rep.1 y.rep.1 p.rep.2 y.rep.2=false):=zh hlt
        have HF:=zh (HCK.out.trans (HLK.out.trans ((k8f hkl).trans ((if_pos (by rw[hpl,HY.out,k8i,if_neg (by rw[hlt];simp)];simp)).trans (by rw[hpl,HY.out,k8i,if_neg (by rw[hlt];simp)])))))
        clear hlt hpl hes
        go_wp2
        have hT0:Below w5.heap.size w5 w5.drew:=(zb _ _).drew
        refine kR (fun w'=>Below w5.heap.size w5 w') 13 ?_
        refine kT 0 hT0 ?_
        refine kT 1 hT0 ?_
        refine kT 2 hT0 ?_
        refine kT 3 hT0 ?_
        refine kT 4 hT0 ?_
        refine kS 5 (v:= .int .i64 (j:Int)) rfl hT0 (fun w' hS=>by have W1:=b3;have W2:=HWR.out;go_simp) ?_
        refine kT 6 hT0 ?_
        refine kT 7 hT0 ?_
        refine kS 8 rfl hT0 (fun w' hS=>by have A0:=(hS.cell (p:=⟨g,o+j*3,none⟩) hg5).trans D0.out;have A1:=(hS.cell (p:=⟨g,o+j*3+1,none⟩) hg5).trans D1.out;go_simp;rfl) ?_
        refine kT 9 hT0 ?_
        refine kS 10 rfl hT0 (fun w' hS=>by obtain⟨A0,A1,A2⟩:=BX5.out.below hS BX5.out.lt;go_simp;rfl) ?_
        refine kC 11 (fun K hK=> ?_)
        go_simp
        refine(z0p p.rep.1 y.rep.1 p.rep.2 y.rep.2 _).mono ?_
        rintro e w6 ⟨rfl,hbw6⟩
        have hT1:Below w5.heap.size w5 w6:=hT0.trans (hbw6.mono hT0.size)
        refine hK _ _ hT1 ?_
        clear hK K
        try simp only[Act.put,zM]
        rw[HLT.out]
        refine kT 12 hT1 (kF ?_)
        try simp only[Act.put,zM]
        simp only[List.drop_succ_cons,List.drop_zero]
        have HB7:=zh (HB5.out.trans (hT1.mono HB5.out.size))
        have HB8:=zh (HB0.out.trans (HB7.out.mono HB0.out.size))
        clear hT0 hT1 hbw6
        have s7:w6.cell? ⟨7,0,none⟩=some (sval a 7):=(HS.out.below HB8.out) 7 (by simp)
        unfold sval at s7
        have HQ:Hid (k8k a (G7 fs ls) w (.returned (.iface 170 (.pointer (some ⟨w6.heap.size,0,none⟩)))) (w6.alloc (.cells #[.int .i64 ((j:Int)+1),.iface 376 (.pointer (some (a 7)))] 173))):=zh ⟨_,rfl,by rw[HF.out];exact q4x a w6 7 (by decide) _ _,HB8.out.alloc HB8.out.size _⟩
        go_wp2
        go_ret
        exact HQ.out
     ·obtain rfl:k=ls.length:=by omega
      have HQ:Hid (k8k a (G7 fs ls) w (.returned .nilIface) wr):=zh ⟨_,rfl,by rw[HCK.out,HLK.out,k8g];exact EV.none a _,HB0.out.trans (HBq.out.mono HB0.out.size)⟩
      go_wp2
      go_ret
      exact HQ.out
end Go.Proofs.YtdmlghfggninbaaGreatDoor
namespace Go.Proofs.YtdmlghfggninbaaGreatDoor
open Go.RowKit Go.Lib Go.Maps Go.WideMaps
theorem NodeOk.rcpB{P:PNode}(h:NodeOk P):∀r∈U5 P,RcpB r:=by
 intro r hr
 obtain⟨q,hq,rfl⟩:=List.mem_map.1 hr
 obtain⟨s,hn,hs,e,_⟩:=h.file q.1 q.2 (Z5 U3 h.fsrt hq)
 rw[e]
 exact j5b hn hs
theorem NodeOk.loadLen{P:PNode}(h:NodeOk P):∀y∈R2 P,y.l.length≤1000000:=by
 intro y hy
 obtain⟨q,hq,rfl⟩:=List.mem_map.1 hy
 obtain⟨_,_,hl,_⟩:=h.bin q.1 q.2 (Z5 M0 h.bsrt hq)
 show q.2.length≤1000000
 omega
theorem NodeOk.loadW{P:PNode}(h:NodeOk P):∀y∈R2 P,∀x∈y.l,HldW x∧x.text.length≤1000000000:=by
 intro y hy x hx
 obtain⟨q,hq,rfl⟩:=List.mem_map.1 hy
 have hb:=h.bin7 (Z5 M0 h.bsrt hq)
 have hx:=hb.all x hx
 have h1:=hx.uses
 have h2:=hx.len
 exact⟨⟨hx.idok,by omega,by omega⟩,by omega⟩
theorem k8m(a:Nat→Addr){n:Nat}{P:PNode}{f:Foot}(hP:NodeOk P)(w:World)(h:Node n P f w)(hs:SomeS [1,2,3,4,6,7,8,10] a w) :
  Calls Tryz.prog 28 #[.pointer (some ⟨n,0,none⟩)] w fun e w'=>e= .returned .nilIface∧Below w.heap.size w w':=by
 obtain⟨i0,hi,hz0,hz1,hz2⟩:=info_parts k2y
 obtain⟨i1,hj,hy0,hy1,hy2⟩:=info_parts k2z
 have HP:=zh hP
 have HN:=zh h
 have HS:=zh hs
 have hfl:=hP.flen
 have hbl:=hP.blen
 have hnl:(J4 P).length=P.files.length:=List.length_map _
 have HNM:=zh (Node.namesC hP w h)
 rw[hnl]at HNM
 clear hP h hs hnl
 go_enter Tryz.func28,Tryz.ntmps28
 go_wp2_with fail
 refine HNM.out.mono ?_
 rintro e w1 ⟨vn,rfl,hon,hb1⟩
 obtain⟨NA,nc,hvn,hnc,hnx⟩:=V7 hon
 subst hvn
 have HNX:=zh hnx
 have HB1:=zh hb1
 have HN1:=zh (HN.out.below hb1)
 clear hon hb1 hnx HNM
 go_wp2
 go_loopg [3,17] P.files.length (fun gh v3 v17 wr=>∃k:Nat,v17= .int .i64 k∧k≤P.files.length∧gh=P.files.length-k∧Hid (OwX rcK wr w1.heap.size 40 v3 ((U5 P).take k))∧Hid (Below w1.heap.size w1 wr))
 case atStart=>exact⟨0,rfl,Nat.zero_le _,rfl,zh (OwX.nil _ _ _),zh (zb _ _)⟩
 case round=>
  obtain⟨k,rfl,hk,hgm,HO,HBr⟩:=hrel
  have hlk:((U5 P).take k).length=k:=by rw[List.length_take];unfold U5;rw[List.length_map];omega
  obtain⟨A3,c3,hv3⟩:=HO.out.slice
  rw[hlk]at hv3
  subst hv3
  by_cases hkl:k<P.files.length
  ·obtain⟨g,rfl,_,hg,hcell⟩:=HNX.out (by omega)
   have hnm:=hcell k (VT P.files[k].1) (by rw[List.getElem?_map];unfold J4;rw[List.getElem?_map,List.getElem?_eq_getElem hkl];rfl)
   have e0:=(HBr.out.cell (p:=⟨g,k,none⟩) hg).trans hnm
   have HB2:=zh (HB1.out.trans (HBr.out.mono HB1.out.size))
   have hrec:=j8q HP.out hkl
   have hfk:(U5 P).take (k+1)=(U5 P).take k++ [P.files[k].2]:=by
    rw[List.take_succ_eq_append_getElem (by unfold U5;rw[List.length_map];exact hkl)]
    unfold U5;rw[List.getElem_map]
   have hso:X6 P.files[k].1:=by
    obtain⟨_,hn,_⟩:=HP.out.file _ _ (Z5 U3 HP.out.fsrt (List.getElem_mem hkl))
    exact j8r hn
   have HRC:=zh (Node.recipeC a HP.out P.files[k].1 hso wr (HN1.out.below HBr.out) ((HS.out.below HB2.out).sub (js:= [4]) (by decide)))
   rw[hrec]at HRC
   have HFK:=zh hfk
   have b1:(0:Int)≤(k:Int):=by omega
   have b2:(k:Int)<(P.files.length:Int):=by omega
   generalize P.files[k].1=nm at *
   generalize P.files[k].2=r at *
   clear hcell hnm hrec hfk hso
   go_wp2_with fail
   refine HRC.out.mono ?_
   rintro e w4 ⟨v4,r4,rfl,hev,⟨sl4,rfl,hr4⟩,hb4⟩
   obtain⟨rfl,_⟩:=hev.nil rfl
   obtain⟨A4,c4,hsl4⟩:∃A c,sl4= .slice A r.ids.length c:=by obtain⟨A,c,h,_⟩:=hr4;exact⟨A,c,h⟩
   subst hsl4
   have HB4:=zh (HB2.out.trans (hb4.mono HB2.out.size))
   have HBq:=zh (HBr.out.trans (hb4.mono HBr.out.size))
   have hfar:∀q,(Value.slice A3 k c3).ownBlock=some q→0<r.ids.length→(Value.slice A4 r.ids.length c4).ownBlock≠some q:=fun q hq h0 e=>by
    have:=HO.out.ltX hq
    obtain⟨A,c,he,hc,hx⟩:=hr4
    obtain⟨b,o,hA,hlo,_⟩:=hx h0
    injection he with e1 _ _
    rw[e1,hA]at e
    have:b=q:=by simpa[Value.ownBlock]using e
    omega
   have HFAR:=zh hfar
   have HR4:=zh hr4.rd
   have HO4:=zh (HO.out.below hb4)
   have hz4:w.heap.size≤w4.heap.size:=HB4.out.size
   clear hev hr4 hb4 hfar HRC HO
   have haw:Below w4.heap.size w4 (w4.alloc (.cells #[VT r.name,.int .i64 r.len,.int .u32 (r.print:Int),.slice A4 r.ids.length c4] 40)):=(zb _ _).alloc (zl _) _
   have haw2:Below w4.heap.size w4 ((w4.alloc (.cells #[VT r.name,.int .i64 r.len,.int .u32 (r.print:Int),.slice A4 r.ids.length c4] 40)).alloc (.cells #[VT r.name,.int .i64 r.len,.int .u32 (r.print:Int),.slice A4 r.ids.length c4] 40)):=haw.alloc haw.size _
   obtain⟨z0,z1,z2,z3,_⟩:=Box4.mk' w4 (VT r.name) (.int .i64 r.len) (.int .u32 (r.print:Int)) (.slice A4 r.ids.length c4) 40
   have HX4:=zh (HO4.out.below haw2)
   obtain⟨E,hE,ho,hex⟩:=HX4.out
   have hEl:E.length=k:=by rw[←hlk,←hE,List.length_map]
   have hya:RdI ((w4.alloc (.cells #[VT r.name,.int .i64 r.len,.int .u32 (r.print:Int),.slice A4 r.ids.length c4] 40)).alloc (.cells #[VT r.name,.int .i64 r.len,.int .u32 (r.print:Int),.slice A4 r.ids.length c4] 40)) ((w4.alloc (.cells #[VT r.name,.int .i64 r.len,.int .u32 (r.print:Int),.slice A4 r.ids.length c4] 40)).alloc (.cells #[VT r.name,.int .i64 r.len,.int .u32 (r.print:Int),.slice A4 r.ids.length c4] 40)).heap.size (.slice A4 r.ids.length c4) r.ids:=(HR4.out.keep haw2 (zl _)).more haw2.size
   have hok:=ho
   rw[hEl]at hok
   have hok2:((w4.alloc (.cells #[VT r.name,.int .i64 r.len,.int .u32 (r.print:Int),.slice A4 r.ids.length c4] 40)).alloc (.cells #[VT r.name,.int .i64 r.len,.int .u32 (r.print:Int),.slice A4 r.ids.length c4] 40)).ownsRow w1.heap.size 40 4 (.slice A3 k c3) k (rcK.row E):=hok
   have HOK2:=zh hok2
   have HNE:=zh (k3a (w4.alloc (.cells #[VT r.name,.int .i64 r.len,.int .u32 (r.print:Int),.slice A4 r.ids.length c4] 40)) (VT r.name) (.int .i64 r.len) (.int .u32 (r.print:Int)) (.slice A4 r.ids.length c4) 40)
   have HBA2:=zh (HBq.out.trans (haw2.mono HBq.out.size))
   have HE:=zh hE
   have HHO:=zh ho
   have HEX:=zh hex
   have HYA:=zh hya
   have HEL:=zh hEl
   have HONE:=zh (rcK.one (a:=r) hya)
   have hwa:(w4.alloc (.cells #[VT r.name,.int .i64 r.len,.int .u32 (r.print:Int),.slice A4 r.ids.length c4] 40)).heap.size=w4.heap.size+1:=by simp
   clear haw haw2 hE ho hex hya hok hok2 hEl
   go_wp2_with(first|(at_builtin;refine wpList_append_own_at _ rfl (.tmp 30) (.tmp 32) 31 rfl w1.heap.size 40 i0 (.agg #[.string ByteArray.empty,.int .i64 0,.int .u32 0,.slice none 0 0]) 4 56 Tryz.underlying31 hi hz0 hz1 hz2 rfl (by decide) (.slice A3 k c3) k (rcK.row E) rfl HOK2.out ⟨w4.heap.size+1,0,none⟩ 1 1 [VT r.name,.int .i64 r.len,.int .u32 (r.print:Int),.slice A4 r.ids.length c4] rfl rfl (by rw[←hwa];exact HNE.out) HONE.out (by unfold maxLen;omega) (by omega) HBA2.out.size ?_;intro v7 w7 hown7 hg7 _ hat7)|fail)
   have HO7:=zh (OwX.snoc HE.out HHO.out HEX.out (a:=r) HYA.out HFAR.out (by rw[HEL.out];exact hown7) hg7 hat7)
   have HB7:=zh (HBA2.out.grown hg7 HBA2.out.size (fun q hq=>Y7 HHO.out hq))
   rw[←HFK.out]at HO7
   clear hown7 hg7 hat7
   go_wp2
   go_roundg (P.files.length-(k+1))
   case measure=>omega
   case rel=>exact⟨k+1,by go_num,hkl,rfl,HO7,HB7⟩
  ·obtain rfl:k=P.files.length:=by omega
   obtain⟨wo,hwo⟩:∃x,x=wr:=⟨_,rfl⟩
   subst hwo
   have hfe:(U5 P).take P.files.length=U5 P:=List.take_of_length_le (by unfold U5;rw[List.length_map];exact zl _)
   rw[hfe]at HO
   have hfn:(U5 P).length=P.files.length:=by unfold U5;rw[List.length_map]
   have HB2:=zh (HB1.out.trans (HBr.out.mono HB1.out.size))
   have HRP:=zh (Node.repsC HP.out wo (HN1.out.below HBr.out))
   have hrl:(U0 P).length=P.bins.length:=List.length_map _
   unfold j2w at HRP
   rw[hrl]at HRP
   have HN5:=zh (HN1.out.below HBr.out)
   clear hfe hk hgm
   go_wp2_with fail
   refine HRP.out.mono ?_
   rintro e w5 ⟨vr,rfl,hor,hb5⟩
   obtain⟨RA,rc,hvr⟩:=J0 hor
   subst hvr
   have hrd:RdI w5 w5.heap.size (.slice RA P.bins.length rc) (U0 P):=RdI.own hor hrl.symm
   obtain⟨RA',rc',hvr',_,hrx⟩:=hrd.form
   rw[hrl]at hvr'
   injection hvr' with hv1 _ hv3
   subst hv1;subst hv3
   have HRX:=zh hrx
   have HB5:=zh (HB2.out.trans (hb5.mono HB2.out.size))
   have HO5:=zh (HO.out.below hb5)
   have HN6:=zh (HN5.out.below hb5)
   clear hor hb5 hrd hrx HRP HO HN5
   go_wp2
   go_loopg [8,38] P.bins.length (fun gh v8 v38 wr=>∃k:Nat,v38= .int .i64 k∧k≤P.bins.length∧gh=P.bins.length-k∧Hid (OwX ldK wr w5.heap.size 113 v8 ((R2 P).take k))∧Hid (Below w5.heap.size w5 wr))
   case atStart=>exact⟨0,rfl,Nat.zero_le _,rfl,zh (OwX.nil _ _ _),zh (zb _ _)⟩
   case round=>
    obtain⟨k,rfl,hk,hgm,HQ,HBq⟩:=hrel
    have hlk:((R2 P).take k).length=k:=by rw[List.length_take];unfold R2;rw[List.length_map];omega
    obtain⟨A8,c8,hv8⟩:=HQ.out.slice
    rw[hlk]at hv8
    subst hv8
    have HBw:=zh (HB5.out.trans (HBq.out.mono HB5.out.size))
    by_cases hkl:k<P.bins.length
    ·obtain⟨g,o,rfl,hg,hcell⟩:=HRX.out (by omega)
     obtain⟨i0',i1'⟩:=hcell k (by omega)
     have hrk:(U0 P)[k]'(by omega)=P.bins[k].1:=by unfold U0;rw[List.getElem_map]
     rw[hrk]at i0' i1'
     have e0:=(HBq.out.cell (p:=⟨g,o+k*2,none⟩) hg).trans i0'
     have e1:=(HBq.out.cell (p:=⟨g,o+k*2+1,none⟩) hg).trans i1'
     have hbk:=HP.out.binK hkl
     have hfk:(R2 P).take (k+1)=(R2 P).take k++ [⟨P.bins[k].1,P.bins[k].2⟩]:=by
      rw[List.take_succ_eq_append_getElem (by unfold R2;rw[List.length_map];exact hkl)]
      unfold R2;rw[List.getElem_map]
     have HFK:=zh hfk
     obtain⟨hxo,_,hll,_⟩:=HP.out.bin _ _ hbk
     have hok7:=HP.out.bin7 hbk
     have b1:(0:Int)≤(k:Int):=by omega
     have b2:(k:Int)<(P.bins.length:Int):=by omega
     generalize P.bins[k].1=x at *
     generalize P.bins[k].2=L at *
     have hb6:Below wr.heap.size wr (wr.alloc (.cells #[.int .u32 (x.1:Int),.int .i64 x.2] 25)):=(zb _ _).alloc (zl _) _
     have HB6:=zh (HBq.out.trans (hb6.mono HBq.out.size))
     have HQ6:=zh (HQ.out.below hb6)
     have BX6:=zh (Box2.mk' wr (.int .u32 (x.1:Int)) (.int .i64 x.2) 25)
     have HBC:Hid (∀w',Below w5.heap.size w5 w'→Calls Tryz.prog 14 #[.pointer (some ⟨n,0,none⟩),idV x] w' fun e w''=>∃b2 mb2,e= .returned (.pointer (some ⟨b2,0,none⟩))∧OBin b2 mb2 L w''∧w'.heap.size≤b2∧w'.heap.size≤mb2∧Below w'.heap.size w' w''):=zh (fun w' hb=>by
      have:=Node.binC HP.out x hxo.1 w' (HN6.out.below hb)
      unfold j3b at this
      rw[hbk]at this
      exact this)
     have HOK7:=zh hok7
     clear i0' i1' hcell hrk hbk hfk hb6 hok7
     go_wp2
     generalize wr.alloc (.cells #[.int .u32 (x.1:Int),.int .i64 x.2] 25)=w6 at *
     have hS0:Below w6.heap.size w6 w6.drew:=(zb _ _).drew
     refine kR (fun w'=>Below w6.heap.size w6 w') 8 ?_
     refine kT 0 hS0 ?_
     refine kS 1 rfl hS0 (fun w' hS=>by obtain⟨A0,A1,_,_⟩:=BX6.out.below hS BX6.out.lt;go_simp;rfl) ?_
     refine kT 2 hS0 ?_
     refine kS 3 rfl hS0 (fun w' hS=>by obtain⟨A0,A1,_,_⟩:=BX6.out.below hS BX6.out.lt;go_simp;rfl) ?_
     refine kC 4 (fun K hK=> ?_)
     go_simp
     refine(HBC.out _ (HB6.out.trans (hS0.mono HB6.out.size))).mono ?_
     rintro e w7 ⟨b2,mb2,rfl,hob,_,_,hbw7⟩
     have hS1:Below w6.heap.size w6 w7:=hS0.trans (hbw7.mono hS0.size)
     refine hK _ _ hS1 ?_
     clear hK K
     try simp only[Act.put,zM]
     refine kC 5 (fun K hK=> ?_)
     go_simp
     refine(k2q b2 mb2 L 7500 HOK7.out (by omega) w7 hob).mono ?_
     rintro e w8 ⟨v7,rfl,hown7,hbw8⟩
     obtain⟨A7,c7,hv7⟩:=J0 hown7
     subst hv7
     have hS2:Below w6.heap.size w6 w7:=hS1
     have hS3:Below w6.heap.size w6 w8:=hS1.trans (hbw8.mono hS1.size)
     refine hK _ _ hS3 ?_
     clear hK K
     try simp only[Act.put,zM]
     refine kT 6 hS3 ?_
     refine kC 7 (fun K hK=> ?_)
     go_simp
     have haw:Below w8.heap.size w8 (w8.alloc (.cells #[.int .u32 (x.1:Int),.int .i64 x.2,.slice A7 L.length c7] 113)):=(zb _ _).alloc (zl _) _
     have hS4:Below w6.heap.size w6 (w8.alloc (.cells #[.int .u32 (x.1:Int),.int .i64 x.2,.slice A7 L.length c7] 113)):=hS3.trans (haw.mono hS3.size)
     refine hK _ _ hS4 (kF ?_)
     clear hK K
     try simp only[Act.put,zM]
     try simp only[Act.put,zM]
     simp only[List.drop_succ_cons,List.drop_zero]
     have HBA:=zh (HB6.out.trans (hS4.mono HB6.out.size))
     have HX7:=zh (HQ6.out.below hS4)
     obtain⟨E,hE,ho,hex⟩:=HX7.out
     have hEl:E.length=k:=by rw[←hlk,←hE,List.length_map]
     have hya:RdL (w8.alloc (.cells #[.int .u32 (x.1:Int),.int .i64 x.2,.slice A7 L.length c7] 113)) (w8.alloc (.cells #[.int .u32 (x.1:Int),.int .i64 x.2,.slice A7 L.length c7] 113)).heap.size (.slice A7 L.length c7) L:=RdL.more (RdL.keep (RdL.own hown7) haw (zl _)) haw.size
     have HFAR:Hid (∀q,(Value.slice A8 k c8).ownBlock=some q→0<L.length→(Value.slice A7 L.length c7).ownBlock≠some q):=zh (fun q hq _ e=>by
      have h1:=HQ6.out.ltX hq
      have h2:=Y7 hown7 e
      have h3:=hS2.size
      omega)
     have hok:=ho
     rw[hEl]at hok
     have hok2:(w8.alloc (.cells #[.int .u32 (x.1:Int),.int .i64 x.2,.slice A7 L.length c7] 113)).ownsRow w5.heap.size 113 3 (.slice A8 k c8) k (ldK.row E):=hok
     have HOK2:=zh hok2
     have HNE:=zh (k3b w8 (.int .u32 (x.1:Int)) (.int .i64 x.2) (.slice A7 L.length c7) 113)
     have HE:=zh hE
     have HHO:=zh ho
     have HEX:=zh hex
     have HYA:=zh hya
     have HEL:=zh hEl
     have HONE:=zh (ldK.one (a:=⟨x,L⟩) hya)
     clear haw hE ho hex hya hok hok2 hEl hS0 hS1 hS2 hS3 hS4 hown7 hob hbw7 hbw8
     go_wp2_with(first|(at_builtin;go_loud (refine wpList_append_own_at _ rfl (.tmp 42) (.tmp 49) 114 rfl w5.heap.size 113 i1 (.agg #[.int .u32 0,.int .i64 0,.slice none 0 0]) 3 40 Tryz.underlying114 hj hy0 hy1 hy2 rfl (by decide) (.slice A8 k c8) k (ldK.row E) rfl HOK2.out ⟨w8.heap.size,0,none⟩ 1 1 [.int .u32 (x.1:Int),.int .i64 x.2,.slice A7 L.length c7] rfl rfl HNE.out HONE.out (by unfold maxLen;omega) (by omega) HBA.out.size ?_;intro v9 w9 hown9 hg9 _ hat9))|fail)
     have HO9:=zh (OwX.snoc HE.out HHO.out HEX.out (a:=⟨x,L⟩) HYA.out HFAR.out (by rw[HEL.out];exact hown9) hg9 hat9)
     have HB9:=zh (HBA.out.grown hg9 HBA.out.size (fun q hq=>Y7 HHO.out hq))
     rw[←HFK.out]at HO9
     clear hown9 hg9 hat9
     go_wp2
     go_roundg (P.bins.length-(k+1))
     case measure=>omega
     case rel=>exact⟨k+1,by go_num,hkl,rfl,HO9,HB9⟩
    ·obtain rfl:k=P.bins.length:=by omega
     have hle:(R2 P).take P.bins.length=R2 P:=List.take_of_length_le (by unfold R2;rw[List.length_map];exact zl _)
     have hll:(R2 P).length=P.bins.length:=by unfold R2;rw[List.length_map]
     rw[hle]at HQ
     have HCK:=zh (k8l a (.slice A3 P.files.length c3) (.slice A8 P.bins.length c8) (U5 P) (R2 P) (by omega) HP.out.rcpB (by omega) HP.out.loadLen HP.out.loadW wr (HO5.out.below HBq.out).rs HQ.out.ls (HS.out.below HBw.out))
     rw[HP.out.check]at HCK
     unfold k8k at HCK
     clear hle
     go_wp2_with fail
     refine HCK.out.mono ?_
     rintro e w9 ⟨x,rfl,hev,hb9⟩
     obtain⟨rfl,_⟩:=hev.nil rfl
     have HB9:=zh (HBw.out.trans (hb9.mono HBw.out.size))
     clear hev hb9 HCK
     go_wp2
     go_ret
     exact⟨rfl,HB9.out⟩
end Go.Proofs.YtdmlghfggninbaaGreatDoor
