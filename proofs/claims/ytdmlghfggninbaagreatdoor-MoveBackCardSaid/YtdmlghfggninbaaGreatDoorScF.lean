/- Walk of scrub.one: is one bin right? Condition: the sentinels that are read lie as named (SomeS). -/
import Derived.Test.YtdmlghfggninbaaGreatDoorMb21
import Derived.Test.YtdmlghfggninbaaGreatDoorBfM
set_option linter.unusedVariables false
set_option linter.unusedSimpArgs false
namespace Go.Proofs.YtdmlghfggninbaaGreatDoor
open Go.RowKit Go.Lib Go.Maps Go.WideMaps
def k7p(L:HldL)(k:Nat):Option Hld:=if k=0 then none else L[k-1]?
theorem k7q{L:HldL}{k:Nat}(hk:k<L.length):k7p L (k+1)=some L[k]:=by
 unfold k7p
 rw[if_neg (by omega),Nat.add_sub_cancel,List.getElem?_eq_getElem hk]
theorem k7r{fs:List Rcp}{x:Idn}{L:HldL}{k:Nat}(hk:k<L.length):oneL fs x (k7p L k) (L.drop k)=if D3 L k L[k]≠0 then D3 L k L[k]else if L[k].uses≠useS fs x L[k].id then 11 else oneL fs x (k7p L (k+1)) (L.drop (k+1)):=by
 rw[List.drop_eq_getElem_cons hk,k7q hk];rfl
theorem k7s(fs:List Rcp)(x:Idn)(q:Option Hld)(L:HldL):oneL fs x q (L.drop L.length)=0:=by rw[List.drop_length];rfl
theorem k7t{fs:List Rcp}{x:Idn}{L:HldL}{k:Nat}{c:Int}(hk:k<L.length)(h:D3 L k L[k]=c)(hc:c≠0):oneL fs x (k7p L k) (L.drop k)=c:=by rw[k7r hk,if_pos (by rw[h];exact hc),h]
theorem k7u{fs:List Rcp}{x:Idn}{L:HldL}{k:Nat}(hk:k<L.length)(h:D3 L k L[k]=0)(hu:L[k].uses≠useS fs x L[k].id):oneL fs x (k7p L k) (L.drop k)=11:=by rw[k7r hk,if_neg (by rw[h];simp),if_pos hu]
theorem k7v{fs:List Rcp}{x:Idn}{L:HldL}{k:Nat}(hk:k<L.length)(h:D3 L k L[k]=0)(hu:L[k].uses=useS fs x L[k].id):oneL fs x (k7p L k) (L.drop k)=oneL fs x (k7p L (k+1)) (L.drop (k+1)):=by rw[k7r hk,if_neg (by rw[h];simp),if_neg (by simp[hu])]
def k7w(a:Nat→Addr)(c:Int)(w:World)(e:Ending)(w':World):Prop:=∃x,e= .returned x∧ES a x c∧Below w.heap.size w w'
theorem k7x{L:HldL}{k:Nat}(hk:k<L.length)(h0:k=0)(e:idOf L[k].text=L[k].id):D3 L k L[k]=0:=by
 subst h0
 exact k5u hk e
set_option maxRecDepth 100000 in
set_option maxHeartbeats 8000000 in
theorem k7y(a:Nat→Addr)(vf vl:Value)(fs:List Rcp)(hfl:fs.length≤30)(hok:∀r∈fs,r.ids.length≤250∧∀x∈r.ids,R5 x)(rep:Idn)(L:HldL)(hl:L.length≤1000000)(hL:∀x∈L,HldW x∧x.text.length≤1000000000)(w:World)(hf:RsRd w w.heap.size vf fs)(hv:RdL w w.heap.size vl L)(hs:SomeS [2,7,8,10] a w) :
  Calls Tryz.prog 129 #[vf,idV rep,vl] w (k7w a (oneS fs rep L) w):=by
 have hb1:Below w.heap.size w (w.alloc (.cells #[.int .u32 (rep.1:Int),.int .i64 rep.2] 25)):=(zb _ _).alloc (zl _) _
 have HU:=zh (k7o vf fs hfl hok rep (w.alloc (.cells #[.int .u32 (rep.1:Int),.int .i64 rep.2] 25)) (hf.below hb1))
 obtain⟨FA,fc,hvf,_⟩:=id hf
 subst hvf
 obtain⟨A,c,hvl,hcap,hcells⟩:=hv.form
 subst hvl
 have HB1:=zh hb1
 have HC:=zh hcells
 have HS:=zh hs
 have HLW:=zh hL
 clear hb1 hcells hs hf hv hok hL
 go_enter Tryz.func129,Tryz.ntmps129
 go_wp2_with fail
 refine HU.out.mono ?_
 rintro e w2 ⟨mb,U,rfl,hM,hUM,hb2⟩
 have HB2:=zh (HB1.out.trans (hb2.mono HB1.out.size))
 have HM:=zh hM
 have HUM:=zh hUM
 have HS2:=zh (HS.out.below HB2.out)
 have hnb:=z8d fs rep
 clear hb2 hM hUM HU HB1 HS
 by_cases hn0:nS fs rep=0
 ·have hi0:(((nS fs rep:Nat):Int)==0)=true:=by rw[hn0];rfl
  have hi1:((nS fs rep:Nat):Int)=0:=by omega
  have HO:Hid (oneS fs rep L=3):=zh (if_pos hn0)
  have s2:w2.cell? ⟨1,0,none⟩=some (sval a 2):=HS2.out 2 (by simp)
  unfold sval at s2
  have HQ:Hid (k7w a (oneS fs rep L) w (.returned (.iface 376 (.pointer (some (a 2))))) w2):=zh ⟨_,rfl,by rw[HO.out];exact ES.sent a 2 (by decide),HB2.out⟩
  clear hn0
  go_wp2
  go_ret
  exact HQ.out
 ·have hi0:(((nS fs rep:Nat):Int)==0)=false:=by rw[beq_eq_false_iff_ne];omega
  have hi1:¬((nS fs rep:Nat):Int)=0:=by omega
  have HO:Hid (oneS fs rep L=oneL fs rep none L):=zh (if_neg hn0)
  clear hn0
  generalize nS fs rep=nn at *
  go_wp2
  go_loopg [22] L.length (fun gh v22 wr=>∃k:Nat,v22= .int .i64 k∧k≤L.length∧gh=L.length-k∧Hid (oneL fs rep none L=oneL fs rep (k7p L k) (L.drop k))∧Hid (Below w2.heap.size w2 wr))
  case atStart=>exact⟨0,rfl,Nat.zero_le _,rfl,zh rfl,zh (zb _ _)⟩
  case round=>
   obtain⟨k,rfl,hk,hgm,HOK,HBr⟩:=hrel
   by_cases hkl:k<L.length
   ·obtain⟨g,o,rfl,hg,hx⟩:=HC.out (by omega)
    have hg2:g<w2.heap.size:=Nat.lt_of_lt_of_le hg HB2.out.size
    have HX:Hid (True∧∀j (hj:j<L.length),w2.cell? ⟨g,o+j*4,none⟩=some (.int .u32 (L[j].id.1:Int))∧w2.cell? ⟨g,o+j*4+1,none⟩=some (.int .i64 L[j].id.2)∧w2.cell? ⟨g,o+j*4+2,none⟩=some (.int .i64 L[j].uses)∧w2.cell? ⟨g,o+j*4+3,none⟩=some (.string (bs L[j].text))):=zh ⟨trivial,fun j hj=>by
     obtain⟨x0,x1,x2,x3⟩:=hx j hj
     exact⟨(HB2.out.cell (p:=⟨g,o+j*4,none⟩) hg).trans x0,(HB2.out.cell (p:=⟨g,o+j*4+1,none⟩) hg).trans x1,(HB2.out.cell (p:=⟨g,o+j*4+2,none⟩) hg).trans x2,(HB2.out.cell (p:=⟨g,o+j*4+3,none⟩) hg).trans x3⟩⟩
    obtain⟨x0,x1,x2,x3⟩:=HX.out.2 k hkl
    have y0:=(HBr.out.cell (p:=⟨g,o+k*4,none⟩) hg2).trans x0
    have y1:=(HBr.out.cell (p:=⟨g,o+k*4+1,none⟩) hg2).trans x1
    have y2:=(HBr.out.cell (p:=⟨g,o+k*4+2,none⟩) hg2).trans x2
    have y3:=(HBr.out.cell (p:=⟨g,o+k*4+3,none⟩) hg2).trans x3
    obtain⟨hhw,htx⟩:=HLW.out L[k] (List.getElem_mem hkl)
    have b1:(0:Int)≤(k:Int):=by omega
    have b2:(k:Int)<(L.length:Int):=by omega
    obtain⟨h,hh⟩:∃h,L[k]=h:=⟨_,rfl⟩
    rw[hh]at x0 x1 x2 x3 y0 y1 y2 y3 hhw htx
    have HLE:=zh hh
    have HLK:Hid (∀w',AlMap Tryz.prog 25 Z6 intV mb U w'→(Instr.lookup 256 (.map (some mb)) (.agg #[.int .u32 (h.id.1:Int),.int .i64 h.id.2]) false).run Tryz.prog w'= .ok (.int .i64 (useS fs rep h.id)) w'):=zh (fun w' hm=>by
     have:=hm.at idRd HUM.out.keys Tryz.underlying256 (k7m w') hhw.1
     rw[←HUM.out.val h.id]
     refine this.trans ?_
     cases Q1 U h.id<;>rfl)
    obtain⟨_,hu1,hu2⟩:=hhw
    have hb3:Below wr.heap.size wr (wr.alloc (.cells #[.int .u32 (h.id.1:Int),.int .i64 h.id.2,.int .i64 h.uses,.string (bs h.text)] 150)):=(zb _ _).alloc (zl _) _
    have HB3:=zh (HBr.out.trans (hb3.mono HBr.out.size))
    have BX3:=zh (Box4.mk' wr (.int .u32 (h.id.1:Int)) (.int .i64 h.id.2) (.int .i64 h.uses) (.string (bs h.text)) 150)
    clear hx x0 x1 x2 x3 hb3 hh
    by_cases hid:idOf h.text=h.id
    ·obtain⟨q1,q2⟩:=j0a hid
     have HID:=zh hid
     clear hid
     go_wp2
     generalize wr.alloc (.cells #[.int .u32 (h.id.1:Int),.int .i64 h.id.2,.int .i64 h.uses,.string (bs h.text)] 150)=w3 at *
     have hS0:Below w3.heap.size w3 w3.drew:=(zb _ _).drew
     refine kR (fun w'=>Below w3.heap.size w3 w') 6 ?_
     refine kT 0 hS0 ?_
     refine kS 1 rfl hS0 (fun w' hS=>by obtain⟨A0,A1,A2,A3,_⟩:=BX3.out.below hS BX3.out.lt;go_simp;rfl) ?_
     refine kT 3 hS0 ?_
     refine kS 4 rfl hS0 (fun w' hS=>by obtain⟨A0,A1,A2,A3,_⟩:=BX3.out.below hS BX3.out.lt;go_simp;rfl) ?_
     refine kC 2 (fun K hK=> ?_)
     go_simp
     refine(k5s h.text (by unfold maxLen;omega) _).mono ?_
     rintro e w4 ⟨rfl,hbw4⟩
     have hS1:Below w3.heap.size w3 w4:=hS0.trans (hbw4.mono hS0.size)
     refine hK _ _ hS1 ?_
     clear hK K
     try simp only[Act.put,zM]
     refine kT 5 hS1 (kF ?_)
     try simp only[Act.put,zM]
     simp only[List.drop_succ_cons,List.drop_zero]
     have HB4:=zh (HB3.out.trans (hS1.mono HB3.out.size))
     have BX4:=zh (BX3.out.below hS1 BX3.out.lt)
     clear hS0 hS1 hbw4
     clear q1 q2
     by_cases hk0:k=0
     ·have HM0:Hid (D3 L k L[k]=0):=zh (k7x hkl hk0 (HLE.out.symm▸HID.out))
      have HNX:=zh (fun h'=>HOK.out.trans (k7v (fs:=fs) (x:=rep) hkl HM0.out (HLE.out.symm▸h')))
      have HNU:=zh (fun h'=>HOK.out.trans (k7u (fs:=fs) (x:=rep) hkl HM0.out (HLE.out.symm▸h')))
      have b7:¬((k:Int)>0):=by omega
      have HK0:=zh hk0
      clear hk0
      go_wp2
      have hT0:Below w4.heap.size w4 w4.drew:=(zb _ _).drew
      refine kR (fun w'=>Below w4.heap.size w4 w') 14 ?_
      refine kT 0 hT0 ?_
      refine kS 1 (v:= .bool false) rfl hT0 (fun w' hS=>by have W3:=HK0.out;go_simp) ?_
      refine kT 2 hT0 ?_
      refine kK 3 hT0 ?_
      refine kK 4 hT0 ?_
      refine kK 5 hT0 ?_
      refine kK 6 hT0 ?_
      refine kK 7 hT0 ?_
      refine kK 8 hT0 ?_
      refine kK 9 hT0 ?_
      refine kK 10 hT0 ?_
      refine kK 11 hT0 ?_
      refine kK 12 hT0 ?_
      refine kT 13 hT0 (kF ?_)
      try simp only[Act.put,zM]
      simp only[List.drop_succ_cons,List.drop_zero]
      have HB5:=zh (HB4.out.trans (hT0.mono HB4.out.size))
      have BX5:=zh (BX4.out.below hT0 BX4.out.lt)
      clear hT0
      have HM5:=zh (HM.out.below HB5.out)
      by_cases hu:h.uses=useS fs rep h.id
      ·have HN2:=zh (HNX.out hu)
       have u1:(h.uses !=useS fs rep h.id)=false:=by rw[bne_eq_false_iff_eq];exact hu
       have u2:(h.uses==useS fs rep h.id)=true:=by rw[beq_iff_eq];exact hu
       clear hu
       generalize useS fs rep h.id=u at *
       go_wp2
       have hU0:Below w4.drew.heap.size w4.drew w4.drew.drew:=(zb _ _).drew
       refine kR (fun w'=>Below w4.drew.heap.size w4.drew w') 7 ?_
       refine kT 0 hU0 ?_
       refine kS 1 rfl hU0 (fun w' hS=>by obtain⟨A0,A1,A2,A3,_⟩:=BX5.out.below hS BX5.out.lt;go_simp;rfl) ?_
       refine kT 2 hU0 ?_
       refine kT 3 hU0 ?_
       refine kS 4 rfl hU0 (fun w' hS=>by obtain⟨A0,A1,A2,A3,_⟩:=BX5.out.below hS BX5.out.lt;go_simp;rfl) ?_
       refine kS 5 rfl hU0 (fun w' hS=>by have B0:=HLK.out w' (HM5.out.below hS);go_simp;rfl) ?_
       refine kT 6 hU0 (kF ?_)
       try simp only[Act.put,zM]
       simp only[List.drop_succ_cons,List.drop_zero]
       have HB6:=zh (HB5.out.trans (hU0.mono HB5.out.size))
       clear hU0
       go_wp2
       go_roundg (L.length-(k+1))
       case measure=>omega
       case rel=>exact⟨k+1,by go_num,hkl,rfl,HN2,HB6⟩
      ·have HZ:=zh (HNU.out hu)
       have u1:(h.uses !=useS fs rep h.id)=true:=by rw[bne_iff_ne];exact hu
       have u2:(h.uses==useS fs rep h.id)=false:=by rw[beq_eq_false_iff_ne];exact hu
       clear hu
       generalize useS fs rep h.id=u at *
       go_wp2
       have hU0:Below w4.drew.heap.size w4.drew w4.drew.drew:=(zb _ _).drew
       refine kR (fun w'=>Below w4.drew.heap.size w4.drew w') 7 ?_
       refine kT 0 hU0 ?_
       refine kS 1 rfl hU0 (fun w' hS=>by obtain⟨A0,A1,A2,A3,_⟩:=BX5.out.below hS BX5.out.lt;go_simp;rfl) ?_
       refine kT 2 hU0 ?_
       refine kT 3 hU0 ?_
       refine kS 4 rfl hU0 (fun w' hS=>by obtain⟨A0,A1,A2,A3,_⟩:=BX5.out.below hS BX5.out.lt;go_simp;rfl) ?_
       refine kS 5 rfl hU0 (fun w' hS=>by have B0:=HLK.out w' (HM5.out.below hS);go_simp;rfl) ?_
       refine kT 6 hU0 (kF ?_)
       try simp only[Act.put,zM]
       simp only[List.drop_succ_cons,List.drop_zero]
       have HB6:=zh (HB5.out.trans (hU0.mono HB5.out.size))
       clear hU0
       have s10:w4.drew.drew.cell? ⟨10,0,none⟩=some (sval a 10):=(HS2.out.below HB6.out) 10 (by simp)
       unfold sval at s10
       have HQ:Hid (k7w a (oneS fs rep L) w (.returned (.iface 376 (.pointer (some (a 10))))) w4.drew.drew):=zh ⟨_,rfl,by rw[HO.out,HZ.out];exact ES.sent a 10 (by decide),HB2.out.trans (HB6.out.mono HB2.out.size)⟩
       go_wp2
       go_ret
       exact HQ.out
     ·obtain⟨j,rfl⟩:∃j,k=j+1:=⟨k-1,by omega⟩
      obtain⟨d0,d1,_,_⟩:=HX.out.2 j (by omega)
      have hMN:=k5v hkl (HLE.out.symm▸HID.out)
      rw[HLE.out]at hMN
      have hg4:g<w4.heap.size:=Nat.lt_of_lt_of_le hg2 HB4.out.size
      have D0:=zh ((HB4.out.cell (p:=⟨g,o+j*4,none⟩) hg2).trans d0)
      have D1:=zh ((HB4.out.cell (p:=⟨g,o+j*4+1,none⟩) hg2).trans d1)
      generalize hlj:L[j]=p at *
      clear d0 d1 hk0 hlj
      have b3:(j:Int)+1>0:=by omega
      have HWR:Hid (IntKind.i64.wrap (j:Int)=(j:Int)):=zh (IntWalk.i64_in _ (by omega))
      have b4:(j:Int)<(L.length:Int):=by omega
      have b5:j<L.length:=by omega
      cases hlt:Q2 p.id h.id with
      | true=>
       have HLT:Hid (C5 p.id.1 h.id.1 p.id.2 h.id.2=true):=zh hlt
       have HM0:Hid (D3 L (j+1) L[j+1]=0):=zh (by rw[HLE.out,hMN,hlt];rfl)
       clear hMN hlt
       have HNX:=zh (fun h'=>HOK.out.trans (k7v (fs:=fs) (x:=rep) hkl HM0.out (HLE.out.symm▸h')))
       have HNU:=zh (fun h'=>HOK.out.trans (k7u (fs:=fs) (x:=rep) hkl HM0.out (HLE.out.symm▸h')))
       go_wp2
       have hT0:Below w4.heap.size w4 w4.drew:=(zb _ _).drew
       refine kR (fun w'=>Below w4.heap.size w4 w') 14 ?_
       refine kT 0 hT0 ?_
       refine kT 1 hT0 ?_
       refine kT 2 hT0 ?_
       refine kT 3 hT0 ?_
       refine kT 4 hT0 ?_
       refine kS 5 (v:= .int .i64 (j:Int)) rfl hT0 (fun w' hS=>by have W1:=b3;have W2:=HWR.out;go_simp) ?_
       refine kT 6 hT0 ?_
       refine kT 7 hT0 ?_
       refine kS 8 rfl hT0 (fun w' hS=>by have A0:=(hS.cell (p:=⟨g,o+j*4,none⟩) hg4).trans D0.out;have A1:=(hS.cell (p:=⟨g,o+j*4+1,none⟩) hg4).trans D1.out;go_simp;rfl) ?_
       refine kT 9 hT0 ?_
       refine kS 10 rfl hT0 (fun w' hS=>by obtain⟨A0,A1,A2,A3,_⟩:=BX4.out.below hS BX4.out.lt;go_simp;rfl) ?_
       refine kC 11 (fun K hK=> ?_)
       go_simp
       refine(z0p p.id.1 h.id.1 p.id.2 h.id.2 _).mono ?_
       rintro e w5 ⟨rfl,hbw5⟩
       have hT1:Below w4.heap.size w4 w5:=hT0.trans (hbw5.mono hT0.size)
       refine hK _ _ hT1 ?_
       clear hK K
       try simp only[Act.put,zM]
       rw[HLT.out]
       refine kT 12 hT1 ?_
       refine kT 13 hT1 (kF ?_)
       try simp only[Act.put,zM]
       simp only[List.drop_succ_cons,List.drop_zero]
       have HB5:=zh (HB4.out.trans (hT1.mono HB4.out.size))
       have BX5:=zh (BX4.out.below hT1 BX4.out.lt)
       clear hT0 hT1 hbw5
       have HM5:=zh (HM.out.below HB5.out)
       by_cases hu:h.uses=useS fs rep h.id
       ·have HN2:=zh (HNX.out hu)
        have u1:(h.uses !=useS fs rep h.id)=false:=by rw[bne_eq_false_iff_eq];exact hu
        have u2:(h.uses==useS fs rep h.id)=true:=by rw[beq_iff_eq];exact hu
        clear hu
        generalize useS fs rep h.id=u at *
        go_wp2
        have hU0:Below w5.heap.size w5 w5.drew:=(zb _ _).drew
        refine kR (fun w'=>Below w5.heap.size w5 w') 7 ?_
        refine kT 0 hU0 ?_
        refine kS 1 rfl hU0 (fun w' hS=>by obtain⟨A0,A1,A2,A3,_⟩:=BX5.out.below hS BX5.out.lt;go_simp;rfl) ?_
        refine kT 2 hU0 ?_
        refine kT 3 hU0 ?_
        refine kS 4 rfl hU0 (fun w' hS=>by obtain⟨A0,A1,A2,A3,_⟩:=BX5.out.below hS BX5.out.lt;go_simp;rfl) ?_
        refine kS 5 rfl hU0 (fun w' hS=>by have B0:=HLK.out w' (HM5.out.below hS);go_simp;rfl) ?_
        refine kT 6 hU0 (kF ?_)
        try simp only[Act.put,zM]
        simp only[List.drop_succ_cons,List.drop_zero]
        have HB6:=zh (HB5.out.trans (hU0.mono HB5.out.size))
        clear hU0
        go_wp2
        go_roundg (L.length-(j+1+1))
        case measure=>omega
        case rel=>exact⟨j+1+1,by go_num,hkl,rfl,HN2,HB6⟩
       ·have HZ:=zh (HNU.out hu)
        have u1:(h.uses !=useS fs rep h.id)=true:=by rw[bne_iff_ne];exact hu
        have u2:(h.uses==useS fs rep h.id)=false:=by rw[beq_eq_false_iff_ne];exact hu
        clear hu
        generalize useS fs rep h.id=u at *
        go_wp2
        have hU0:Below w5.heap.size w5 w5.drew:=(zb _ _).drew
        refine kR (fun w'=>Below w5.heap.size w5 w') 7 ?_
        refine kT 0 hU0 ?_
        refine kS 1 rfl hU0 (fun w' hS=>by obtain⟨A0,A1,A2,A3,_⟩:=BX5.out.below hS BX5.out.lt;go_simp;rfl) ?_
        refine kT 2 hU0 ?_
        refine kT 3 hU0 ?_
        refine kS 4 rfl hU0 (fun w' hS=>by obtain⟨A0,A1,A2,A3,_⟩:=BX5.out.below hS BX5.out.lt;go_simp;rfl) ?_
        refine kS 5 rfl hU0 (fun w' hS=>by have B0:=HLK.out w' (HM5.out.below hS);go_simp;rfl) ?_
        refine kT 6 hU0 (kF ?_)
        try simp only[Act.put,zM]
        simp only[List.drop_succ_cons,List.drop_zero]
        have HB6:=zh (HB5.out.trans (hU0.mono HB5.out.size))
        clear hU0
        have s10:w5.drew.cell? ⟨10,0,none⟩=some (sval a 10):=(HS2.out.below HB6.out) 10 (by simp)
        unfold sval at s10
        have HQ:Hid (k7w a (oneS fs rep L) w (.returned (.iface 376 (.pointer (some (a 10))))) w5.drew):=zh ⟨_,rfl,by rw[HO.out,HZ.out];exact ES.sent a 10 (by decide),HB2.out.trans (HB6.out.mono HB2.out.size)⟩
        go_wp2
        go_ret
        exact HQ.out
      | false=>
       have HLT:Hid (C5 p.id.1 h.id.1 p.id.2 h.id.2=false):=zh hlt
       have HZ:Hid (oneL fs rep none L=8):=zh (HOK.out.trans (k7t hkl (by rw[HLE.out,hMN,hlt];rfl) (by decide)))
       clear hMN hlt
       go_wp2
       have hT0:Below w4.heap.size w4 w4.drew:=(zb _ _).drew
       refine kR (fun w'=>Below w4.heap.size w4 w') 14 ?_
       refine kT 0 hT0 ?_
       refine kT 1 hT0 ?_
       refine kT 2 hT0 ?_
       refine kT 3 hT0 ?_
       refine kT 4 hT0 ?_
       refine kS 5 (v:= .int .i64 (j:Int)) rfl hT0 (fun w' hS=>by have W1:=b3;have W2:=HWR.out;go_simp) ?_
       refine kT 6 hT0 ?_
       refine kT 7 hT0 ?_
       refine kS 8 rfl hT0 (fun w' hS=>by have A0:=(hS.cell (p:=⟨g,o+j*4,none⟩) hg4).trans D0.out;have A1:=(hS.cell (p:=⟨g,o+j*4+1,none⟩) hg4).trans D1.out;go_simp;rfl) ?_
       refine kT 9 hT0 ?_
       refine kS 10 rfl hT0 (fun w' hS=>by obtain⟨A0,A1,A2,A3,_⟩:=BX4.out.below hS BX4.out.lt;go_simp;rfl) ?_
       refine kC 11 (fun K hK=> ?_)
       go_simp
       refine(z0p p.id.1 h.id.1 p.id.2 h.id.2 _).mono ?_
       rintro e w5 ⟨rfl,hbw5⟩
       have hT1:Below w4.heap.size w4 w5:=hT0.trans (hbw5.mono hT0.size)
       refine hK _ _ hT1 ?_
       clear hK K
       try simp only[Act.put,zM]
       rw[HLT.out]
       refine kT 12 hT1 ?_
       refine kT 13 hT1 (kF ?_)
       try simp only[Act.put,zM]
       simp only[List.drop_succ_cons,List.drop_zero]
       have HB5:=zh (HB4.out.trans (hT1.mono HB4.out.size))
       clear hT0 hT1 hbw5
       have s7:w5.cell? ⟨7,0,none⟩=some (sval a 7):=(HS2.out.below HB5.out) 7 (by simp)
       unfold sval at s7
       have HQ:Hid (k7w a (oneS fs rep L) w (.returned (.iface 376 (.pointer (some (a 7))))) w5):=zh ⟨_,rfl,by rw[HO.out,HZ.out];exact ES.sent a 7 (by decide),HB2.out.trans (HB5.out.mono HB2.out.size)⟩
       go_wp2
       go_ret
       exact HQ.out
    ·have HZ:Hid (oneL fs rep none L=9):=zh (HOK.out.trans (k7t hkl (k5t hkl (HLE.out.symm▸hid)) (by decide)))
     have hne:=j0b hid
     clear hid
     rcases hne with q1|⟨q1,q2⟩
     ·go_wp2
      generalize wr.alloc (.cells #[.int .u32 (h.id.1:Int),.int .i64 h.id.2,.int .i64 h.uses,.string (bs h.text)] 150)=w3 at *
      have hS0:Below w3.heap.size w3 w3.drew:=(zb _ _).drew
      refine kR (fun w'=>Below w3.heap.size w3 w') 6 ?_
      refine kT 0 hS0 ?_
      refine kS 1 rfl hS0 (fun w' hS=>by obtain⟨A0,A1,A2,A3,_⟩:=BX3.out.below hS BX3.out.lt;go_simp;rfl) ?_
      refine kT 3 hS0 ?_
      refine kS 4 rfl hS0 (fun w' hS=>by obtain⟨A0,A1,A2,A3,_⟩:=BX3.out.below hS BX3.out.lt;go_simp;rfl) ?_
      refine kC 2 (fun K hK=> ?_)
      go_simp
      refine(k5s h.text (by unfold maxLen;omega) _).mono ?_
      rintro e w4 ⟨rfl,hbw4⟩
      have hS1:Below w3.heap.size w3 w4:=hS0.trans (hbw4.mono hS0.size)
      refine hK _ _ hS1 ?_
      clear hK K
      try simp only[Act.put,zM]
      refine kT 5 hS1 (kF ?_)
      try simp only[Act.put,zM]
      simp only[List.drop_succ_cons,List.drop_zero]
      have HB4:=zh (HB3.out.trans (hS1.mono HB3.out.size))
      have BX4:=zh (BX3.out.below hS1 BX3.out.lt)
      clear hS0 hS1 hbw4
      have s8:w4.cell? ⟨8,0,none⟩=some (sval a 8):=(HS2.out.below HB4.out) 8 (by simp)
      unfold sval at s8
      have HQ:Hid (k7w a (oneS fs rep L) w (.returned (.iface 376 (.pointer (some (a 8))))) w4):=zh ⟨_,rfl,by rw[HO.out,HZ.out];exact ES.sent a 8 (by decide),HB2.out.trans (HB4.out.mono HB2.out.size)⟩
      go_wp2
      go_ret
      exact HQ.out
     ·go_wp2
      generalize wr.alloc (.cells #[.int .u32 (h.id.1:Int),.int .i64 h.id.2,.int .i64 h.uses,.string (bs h.text)] 150)=w3 at *
      have hS0:Below w3.heap.size w3 w3.drew:=(zb _ _).drew
      refine kR (fun w'=>Below w3.heap.size w3 w') 6 ?_
      refine kT 0 hS0 ?_
      refine kS 1 rfl hS0 (fun w' hS=>by obtain⟨A0,A1,A2,A3,_⟩:=BX3.out.below hS BX3.out.lt;go_simp;rfl) ?_
      refine kT 3 hS0 ?_
      refine kS 4 rfl hS0 (fun w' hS=>by obtain⟨A0,A1,A2,A3,_⟩:=BX3.out.below hS BX3.out.lt;go_simp;rfl) ?_
      refine kC 2 (fun K hK=> ?_)
      go_simp
      refine(k5s h.text (by unfold maxLen;omega) _).mono ?_
      rintro e w4 ⟨rfl,hbw4⟩
      have hS1:Below w3.heap.size w3 w4:=hS0.trans (hbw4.mono hS0.size)
      refine hK _ _ hS1 ?_
      clear hK K
      try simp only[Act.put,zM]
      refine kT 5 hS1 (kF ?_)
      try simp only[Act.put,zM]
      simp only[List.drop_succ_cons,List.drop_zero]
      have HB4:=zh (HB3.out.trans (hS1.mono HB3.out.size))
      have BX4:=zh (BX3.out.below hS1 BX3.out.lt)
      clear hS0 hS1 hbw4
      have s8:w4.cell? ⟨8,0,none⟩=some (sval a 8):=(HS2.out.below HB4.out) 8 (by simp)
      unfold sval at s8
      have HQ:Hid (k7w a (oneS fs rep L) w (.returned (.iface 376 (.pointer (some (a 8))))) w4):=zh ⟨_,rfl,by rw[HO.out,HZ.out];exact ES.sent a 8 (by decide),HB2.out.trans (HB4.out.mono HB2.out.size)⟩
      go_wp2
      go_ret
      exact HQ.out
   ·obtain rfl:k=L.length:=by omega
    have HQ:Hid (k7w a (oneS fs rep L) w (.returned .nilIface) wr):=zh ⟨_,rfl,by rw[HO.out,HOK.out,k7s];exact ES.none a,HB2.out.trans (HBr.out.mono HB2.out.size)⟩
    go_wp2
    go_ret
    exact HQ.out
end Go.Proofs.YtdmlghfggninbaaGreatDoor
