/- BfL, BfG in one text. Conditions: as each part says. -/
import Derived.Test.YtdmlghfggninbaaGreatDoorBrR
import Derived.Test.YtdmlghfggninbaaGreatDoorMb10
import Derived.Test.YtdmlghfggninbaaGreatDoorMb2
set_option linter.unusedVariables false
set_option linter.unusedSimpArgs false
namespace Go.Proofs.YtdmlghfggninbaaGreatDoor
open Go.RowKit Go.Lib
theorem k6x{l:HldL}{i:Nat}{h:Hld}(e:¬(1≤h.text.length∧h.text.length≤64∧0≤h.uses)):z4m l i h=2:=by
 unfold z4m
 rw[if_neg]
 unfold z4l
 rw[Bool.and_eq_true,M4,decide_eq_true_iff]
 exact fun h=>e ⟨h.1.1,h.1.2,h.2⟩
theorem k6y{l:HldL}{i:Nat}{h:Hld}(e:1≤h.text.length∧h.text.length≤64∧0≤h.uses):z4m l i h=D3 l i h:=by
 unfold z4m
 rw[if_pos]
 unfold z4l
 rw[Bool.and_eq_true,M4,decide_eq_true_iff]
 exact⟨⟨e.1,e.2.1⟩,e.2.2⟩
theorem k6z{l:HldL}(h:250<l.length):q0f l=(7,-1):=by unfold q0f;rw[if_pos h]
theorem k7a{l:HldL}(h:¬ 250<l.length):q0f l=B4 l 0 l:=by unfold q0f;rw[if_neg h]
end Go.Proofs.YtdmlghfggninbaaGreatDoor
namespace Go.Proofs.YtdmlghfggninbaaGreatDoor
open Go.RowKit Go.Lib Go.Maps Go.WideMaps
def k7b(a:Nat→Addr)(b mb:Nat)(L0 L:HldL)(w:World)(e:Ending)(w':World):Prop:=
 ∃r mb',e= .returned r∧EV a r (q0f L).1 (q0f L).2 w'∧OBin b mb' (if(q0f L).1=0 then L else L0) w'∧(mb'=mb∨w.heap.size≤mb')∧w.grownBy w' (some b)
theorem k7c{a:Nat→Addr}{b mb:Nat}{L0 L:HldL}{w w':World}{c t:Int}{r:Value}(h:q0f L=(c,t))(hc:c≠0)(hr:EV a r c t w')(ho:OBin b mb L0 w)(hb:Below w.heap.size w w'):k7b a b mb L0 L w (.returned r) w':=by
 unfold k7b
 rw[h]
 exact⟨_,mb,rfl,hr,by rw[if_neg hc];exact ho.below hb,.inl rfl,X7 hb⟩
theorem OBin.turn{b mb M:Nat}{L0 L:HldL}{w:World}(ho:OBin b mb L0 w)(hm:w.ownsMap Tryz.prog 25 K6 M L.length (V5 L))(hne:b≠M):OBin b M L (w.setCell ⟨b,0,none⟩ (.map (some M))):=
 ⟨by simp[World.setCell,Array.getElem?_modify,ho.row],World.ownsMap.setCell hm (Ne.symm hne) _,hne⟩
theorem k7d{a:Nat→Addr}{b mb M:Nat}{L0 L:HldL}{w wr:World}(h:q0f L=(0,-1))(ho:OBin b mb L0 w)(hm:wr.ownsMap Tryz.prog 25 K6 M L.length (V5 L))(hM:w.heap.size≤M)(hb:Below w.heap.size w wr) :
  k7b a b mb L0 L w (.returned .nilIface) (wr.setCell ⟨b,0,none⟩ (.map (some M))):=by
 have hbl:=ho.lt
 unfold k7b
 rw[h]
 exact⟨_,M,rfl,EV.none a _,by rw[if_pos rfl];exact(ho.below hb).turn hm (by omega),.inr hM,z8w (X7 hb) 0 _⟩
theorem k7e(h:Hld):∀L:HldL,h∈setB h L
 | []=>List.mem_singleton.2 rfl
 | y::r=>by
  unfold setB
  split
  ·exact List.mem_cons_self
  ·split
   ·exact List.mem_cons_self
   ·exact List.mem_cons_of_mem _ (k7e h r)
set_option maxRecDepth 100000 in
set_option maxHeartbeats 8000000 in
theorem k7f(a:Nat→Addr)(b mb:Nat)(L0:HldL)(v:Value)(L:HldL)(hl:L.length≤2^40)(hL:∀x∈L,HldW x∧x.text.length≤1000000000)(B:Nat)(w:World)(hO:OBin b mb L0 w)(hv:RdL w B v L)(hBw:B≤w.heap.size)(hs:SomeS [1,6,7,8] a w) :
  Calls Tryz.prog 70 #[.pointer (some ⟨b,0,none⟩),v] w (k7b a b mb L0 L w):=by
 have HV:=zh hv
 have HO:=zh hO
 have HS:=zh hs
 have hbl:=hO.lt
 obtain⟨A,c,rfl,hc,hx⟩:=hv.form
 have HX:=zh hx
 have HL:=zh hL
 clear hx hL hv
 by_cases h4:250<L.length
 ·have h4i:(L.length:Int)>250:=by omega
  have HG:=zh (k6z h4)
  have s6:w.cell? ⟨3,0,none⟩=some (sval a 6):=hs 6 (by simp)
  unfold sval at s6
  clear hs h4 hO
  go_enter Tryz.func70,Tryz.ntmps70
  go_wp2
  go_ret
  exact k7c HG.out (by decide) (EV.sent a _ 6 (by decide)) HO.out (zb _ _)
 ·have h4i:¬(L.length:Int)>250:=by omega
  have HR:=zh (k7a h4)
  have hmm:= @run_makeMap Tryz.prog
  have HM0:Hid ((w.alloc (.map #[] 0)).ownsMap Tryz.prog 25 K6 w.heap.size 0 (V5 (L.take 0))):=zh (World.ownsMap_made w Tryz.prog 25 K6)
  clear hs hO
  go_enter Tryz.func70,Tryz.ntmps70
  go_wp2
  go_loopg [16] L.length (fun gh v16 wr=>∃k:Nat,v16= .int .i64 k∧k≤L.length∧gh=L.length-k∧Hid (FillSt L k)∧Hid (wr.ownsMap Tryz.prog 25 K6 w.heap.size (L.take k).length (V5 (L.take k)))∧Hid (Below w.heap.size w wr))
  case atStart=>exact⟨0,rfl,Nat.zero_le _,rfl,zh (FillSt.start L),HM0,zh ((zb _ _).alloc (zl _) _)⟩
  case round=>
   obtain⟨k,rfl,hk,hgm,hst,HM,HB⟩:=hrel
   by_cases hkl:k<L.length
   ·obtain⟨g,o,rfl,hg,hcells⟩:=HX.out (by omega)
    obtain⟨x0,x1,x2,x3⟩:=hcells k hkl
    have hgl:g<w.heap.size:=Nat.lt_of_lt_of_le hg hBw
    have b1:(0:Int)≤(k:Int):=by omega
    have b2:(k:Int)<(L.length:Int):=by omega
    obtain⟨hxw,htl⟩:=HL.out L[k] (List.getElem_mem hkl)
    have HSN:=zh (hst.out.next hkl)
    have HSH:=zh (hst.out.hit hkl)
    have HSET:=zh (hst.out.set hkl)
    have HTK:=zh (fun n hn=>hst.out.taken hk n hn)
    have HFB:=zh (k6x (l:=L) (i:=k) (h:=L[k]))
    have HFO:=zh (k6y (l:=L) (i:=k) (h:=L[k]))
    have HTL:Hid ((L.take k).length=k):=zh (by rw[List.length_take];omega)
    have HTL1:Hid ((L.take (k+1)).length=k+1):=zh (by rw[List.length_take];omega)
    have HMX:Hid (∃n:Int,∀x∈L,x.uses≤n):=zh ⟨9223372036854775807,fun x hx=>(HL.out x hx).1.2.2⟩
    have HB0:=zh (HB.out.alloc HB.out.size (.cells #[.int .u32 (L[k].id.1:Int),.int .i64 L[k].id.2,.int .i64 L[k].uses,.string (bs L[k].text)] 150))
    have HMA:=zh (k6a a (.slice (some ⟨g,o,none⟩) L.length c) L hl (fun x hx=>by have:=(HL.out x hx).2;omega) k hkl B (wr.alloc (.cells #[.int .u32 (L[k].id.1:Int),.int .i64 L[k].id.2,.int .i64 L[k].uses,.string (bs L[k].text)] 150)) (HV.out.below (HB0.out.mono hBw)) (Nat.le_trans hBw HB0.out.size) (show SomeS [7,8] a _ from(HS.out.below HB0.out).partR (by decide)))
    clear hcells
    generalize D3 L k L[k]=mk at *
    generalize z4m L k L[k]=fa at *
    generalize L[k]=x at *
    have p0:=(HB.out.cell (p:=⟨g,o+k*4,none⟩) hgl).trans x0
    have p1:=(HB.out.cell (p:=⟨g,o+k*4+1,none⟩) hgl).trans x1
    have p2:=(HB.out.cell (p:=⟨g,o+k*4+2,none⟩) hgl).trans x2
    have p3:=(HB.out.cell (p:=⟨g,o+k*4+3,none⟩) hgl).trans x3
    have HX4:=zh (Box4.mk' wr (.int .u32 (x.id.1:Int)) (.int .i64 x.id.2) (.int .i64 x.uses) (.string (bs x.text)) 150)
    have HM1:Hid ((wr.alloc (.cells #[.int .u32 (x.id.1:Int),.int .i64 x.id.2,.int .i64 x.uses,.string (bs x.text)] 150)).ownsMap Tryz.prog 25 K6 w.heap.size (L.take k).length (V5 (L.take k))):=zh (HM.out.alloc _)
    have HZ1:Hid (wr.heap.size<(wr.alloc (.cells #[.int .u32 (x.id.1:Int),.int .i64 x.id.2,.int .i64 x.uses,.string (bs x.text)] 150)).heap.size):=zh (by simp)
    have HWW:Hid (w.heap.size≤wr.heap.size):=zh HB.out.size
    have HXW:=zh hxw
    have HTX:Hid ((bs x.text).size≤1000000000):=zh (by rw[Q8];exact htl)
    have HML:Hid (w.heap.size<wr.heap.size):=zh HM.out.lt
    clear x0 x1 x2 x3 hxw htl hst
    go_wp2_with fail
    generalize wr.alloc (.cells #[.int .u32 (x.id.1:Int),.int .i64 x.id.2,.int .i64 x.uses,.string (bs x.text)] 150)=w1 at *
    refine HMA.out.mono ?_
    rintro e w2 ⟨r8,rfl,hes,hb2⟩
    have HES:=zh hes
    have HX2:=zh (HX4.out.below hb2 HZ1.out)
    have HB2:=zh (HB0.out.trans (hb2.mono HB0.out.size))
    have HM2:Hid (w2.ownsMap Tryz.prog 25 K6 w.heap.size (L.take k).length (V5 (L.take k))):=zh (HM1.out.kept (X7 (r:=none) hb2) (by simp))
    clear hes hb2 p0 p1 p2 p3
    obtain⟨y0,y1,y2,y3,_⟩:=HX2.out
    have RT:=zh (z9p (bs x.text) HTX.out w2)
    rw[Q3]at RT
    have s1:w2.cell? ⟨5,0,none⟩=some (sval a 1):=(HS.out.below HB2.out) 1 (by simp)
    unfold sval at s1
    cases hr:q0m x.text with
    | false=>
     rw[hr]at RT
     obtain rfl:=HFB.out (fun h=>by rw[M4.2 ⟨h.1,h.2.1⟩]at hr;cases hr)
     have HG:Hid (q0f L=(2,(k:Int))):=zh (by rw[HR.out];exact HSH.out (by decide))
     clear hr
     go_wp2_with fail
     refine RT.out.mono ?_
     rintro e w3 ⟨rfl,rfl⟩
     go_wp2
     go_ret
     exact k7c HG.out (by decide) (q4x a w2 1 (by decide) (k:Int) 173) HO.out (HB2.out.alloc HB2.out.size _)
    | true=>
     rw[hr]at RT
     by_cases h3:x.uses<0
     ·obtain rfl:=HFB.out (by omega)
      have HG:Hid (q0f L=(2,(k:Int))):=zh (by rw[HR.out];exact HSH.out (by decide))
      clear hr
      go_wp2_with fail
      refine RT.out.mono ?_
      rintro e w3 ⟨rfl,rfl⟩
      go_wp2
      go_ret
      exact k7c HG.out (by decide) (q4x a w2 1 (by decide) (k:Int) 173) HO.out (HB2.out.alloc HB2.out.size _)
     ·have hri:=M4.1 hr
      obtain rfl:=HFO.out ⟨hri.1,hri.2,by omega⟩
      clear hr hri
      rcases HES.out with⟨rfl,h0⟩|⟨k9,hk9,rfl,hcd⟩
      ·have HN:=zh (HSN.out h0)
       obtain⟨n,hn⟩:=HMX.out
       have hbk:=HTK.out n hn
       have HSR:=zh hbk.srt
       have HID:=zh hbk.idok0
       have HST:=zh (HSET.out h0)
       have HB1n:=zh (HN.out.taken (by omega) n hn)
       have HIX:Hid (IdOk x.id∧0≤x.id.2):=zh (by
        have hm:x∈L.take (k+1):=by rw[←HST.out];exact k7e x (L.take k)
        exact HB1n.out.idok0 x hm)
       have HKEY:=zh (keyI HIX.out.1)
       have HLEN:Hid ((L.take k).length<maxLen):=zh (by rw[HTL.out];unfold maxLen;omega)
       clear h0 hbk
       go_wp2_with fail
       refine RT.out.mono ?_
       rintro e w3 ⟨rfl,rfl⟩
       go_wp2_with(first|(at_mapUpdate;refine wpList_mapUpdate_in _ rfl _ _ _ 155 rfl 25 150 lawI Tryz.underlying155 K6 w.heap.size (L.take k).length (V5 (L.take k)) rfl HM2.out HLEN.out (idV x.id) (hldV x) _ rfl rfl HKEY.out (hldU x) [] (z9h HXW.out) ?_;intro w8 hown8 hturn8)|fail)
       have hm8:=hown8
       rw[z3d HSR.out HID.out x HIX.out,HST.out]at hm8
       have HM8:=zh (z9n hm8)
       have HB8:=zh (C4 HB2.out HB2.out.size (zl _) hturn8.grown)
       clear hown8 hturn8 hm8
       go_wp2
       go_roundg (L.length-(k+1))
       case measure=>omega
       case rel=>exact⟨k+1,by go_num,hkl,rfl,HN,HM8,HB8⟩
      ·have HG:Hid (q0f L=(fa,(k:Int))):=zh (by rw[HR.out];exact HSH.out (by omega))
       have HNZ:Hid (fa≠0):=zh (by omega)
       have HCD:=zh hcd
       have HK9:=zh hk9
       unfold sval
       clear hcd hk9
       go_wp2_with fail
       refine RT.out.mono ?_
       rintro e w3 ⟨rfl,rfl⟩
       go_wp2
       go_ret
       refine k7c HG.out HNZ.out ?_ HO.out (HB2.out.alloc HB2.out.size _)
       rw[HCD.out]
       exact q4x a w2 k9 HK9.out (k:Int) 173
   ·obtain rfl:k=L.length:=by omega
    have HG:Hid (q0f L=(0,-1)):=zh (by rw[HR.out];exact hst.out.done)
    have hm:=HM.out
    rw[List.take_length]at hm
    have HML:=zh hm
    have hob:=HO.out.below HB.out
    have c0:=hob.cell
    have f0:wr.frozen? ⟨b,0,none⟩=false:=Lib.frozen_of_heap hob.row 0
    clear hst hm hob
    go_wp2
    go_ret
    exact k7d HG.out HO.out HML.out (zl _) HB.out
end Go.Proofs.YtdmlghfggninbaaGreatDoor
