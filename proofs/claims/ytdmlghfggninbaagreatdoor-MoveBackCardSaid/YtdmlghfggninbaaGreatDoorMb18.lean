/- MvC, MvD in one text. Conditions: as each part says. -/
import Derived.Test.YtdmlghfggninbaaGreatDoorMvB
import Derived.Test.YtdmlghfggninbaaGreatDoorMb17
import Derived.Test.YtdmlghfggninbaaGreatDoorMb10
import Derived.Test.YtdmlghfggninbaaGreatDoorMb8
import Derived.Test.YtdmlghfggninbaaGreatDoorMb13
set_option linter.unusedVariables false
set_option linter.unusedSimpArgs false
set_option maxHeartbeats 4000000
set_option maxRecDepth 100000
namespace Go.Proofs.YtdmlghfggninbaaGreatDoor
open Go.RowKit Go.Lib Go.Maps
def rcV(r:Rcp)(sl:Value):Value:= .agg #[VT r.name,.int .i64 r.len,.int .u32 (r.print:Int),sl]
theorem k6j(b:Nat)(p:Rcp→Bool)(v:Value)(fs:List Rcp)(hl:fs.length≤1000000)(w:World)(hv:RsRd w w.heap.size v fs)(hF:∀x∈fs,∀sl w',Below w.heap.size w w'→RdI w' w'.heap.size sl x.ids→Calls Tryz.prog 64 #[rcV x sl,.pointer (some ⟨b,0,none⟩)] w' fun e w''=>e= .returned (.bool (p x))∧Below w'.heap.size w' w'') :
  Calls Tryz.prog 125 #[v,.func (.func 64) #[] #[.pointer (some ⟨b,0,none⟩)]] w fun e w'=>e= .returned (.int .i64 (ixP p fs))∧Below w.heap.size w w':=by
 obtain⟨A,c,rfl,hcap,hcells⟩:=hv
 have HX:=zh hcells
 have HF:=zh hF
 clear hcells hF
 go_enter Tryz.func125,Tryz.ntmps125
 go_wp2
 go_loopg [8] fs.length (fun gh vi wr=>∃(k:Nat),vi= .int .i64 k∧k≤fs.length∧gh=fs.length-k∧Hid (∀j (hj:j<k) (hl:j<fs.length),p fs[j]=false)∧Hid (Below w.heap.size w wr))
 case atStart=>exact⟨0,rfl,Nat.zero_le _,rfl,zh (fun j hj=>absurd hj (Nat.not_lt_zero _)),zh (zb _ _)⟩
 case round=>
  obtain⟨k,rfl,hk,hgm,HI,HB⟩:=hrel
  by_cases hkl:k<fs.length
  ·obtain⟨g,o,rfl,hg,hx⟩:=HX.out (by omega)
   obtain⟨sl,hsl,x0,x1,x2,x3⟩:=hx k hkl
   have y0:=(HB.out.cell (p:=⟨g,o+k*4,none⟩) hg).trans x0
   have y1:=(HB.out.cell (p:=⟨g,o+k*4+1,none⟩) hg).trans x1
   have y2:=(HB.out.cell (p:=⟨g,o+k*4+2,none⟩) hg).trans x2
   have y3:=(HB.out.cell (p:=⟨g,o+k*4+3,none⟩) hg).trans x3
   have b1:(0:Int)≤(k:Int):=by omega
   have b2:(k:Int)<(fs.length:Int):=by omega
   have hc:=HF.out fs[k] (List.getElem_mem hkl) sl wr HB.out ((hsl.keep HB.out (zl _)).more HB.out.size)
   unfold rcV at hc
   have HC:=zh hc
   clear hx x0 x1 x2 x3 hc hsl
   go_wp2_with fail
   refine HC.out.mono ?_
   rintro e w2 ⟨rfl,hb2⟩
   have HB2:=zh (HB.out.trans (hb2.mono HB.out.size))
   clear hb2 HC y0 y1 y2 y3
   cases hp:p fs[k]with
   | true=>
    have HQ:=zh (k2r hkl (fun j hj=>HI.out j hj (by omega)) hp)
    clear hp
    go_wp2
    go_ret
    exact⟨by rw[HQ.out];rfl,HB2.out⟩
   | false=>
    have HI2:Hid (∀j (hj:j<k+1) (hl:j<fs.length),p fs[j]=false):=zh (fun j hj hl=>by
     by_cases e:j=k
     ·subst e;exact hp
     ·exact HI.out j (by omega) hl)
    clear hp
    go_wp2
    go_roundg (fs.length-(k+1))
    case measure=>omega
    case rel=>exact⟨k+1,by go_num,hkl,rfl,HI2,HB2⟩
  ·obtain rfl:k=fs.length:=by omega
   have HQ:=zh (k2s (fun j hj=>HI.out j hj hj))
   go_wp2
   go_ret
   exact⟨by rw[HQ.out];rfl,HB.out⟩
theorem k6k(b:Nat)(p:Rcp→Bool)(v:Value)(fs:List Rcp)(hl:fs.length≤1000000)(w:World)(hv:RsRd w w.heap.size v fs)(hF:∀x∈fs,∀sl w',Below w.heap.size w w'→RdI w' w'.heap.size sl x.ids→Calls Tryz.prog 64 #[rcV x sl,.pointer (some ⟨b,0,none⟩)] w' fun e w''=>e= .returned (.bool (p x))∧Below w'.heap.size w' w'') :
  Calls Tryz.prog 63 #[v,.func (.func 64) #[] #[.pointer (some ⟨b,0,none⟩)]] w fun e w'=>e= .returned (.bool (fs.any p))∧Below w.heap.size w w':=by
 have HC:=zh (k6j b p v fs hl w hv hF)
 have HQ:=zh (k2t p fs)
 obtain⟨A,c,rfl,_⟩:=hv
 clear hF
 go_enter Tryz.func63,Tryz.ntmps63
 go_wp2_with fail
 refine HC.out.mono ?_
 rintro e w2 ⟨rfl,hb2⟩
 have HB2:=zh hb2
 clear hb2 HC
 go_wp2
 go_ret
 exact⟨by rw[←HQ.out];rfl,HB2.out⟩
theorem k6l(b:Nat)(p:Rcp→Bool)(v:Value)(fs:List Rcp)(hl:fs.length≤1000000)(w:World)(hv:RsRd w w.heap.size v fs)(hF:∀x∈fs,∀sl w',Below w.heap.size w w'→RdI w' w'.heap.size sl x.ids→Calls Tryz.prog 67 #[rcV x sl,.pointer (some ⟨b,0,none⟩)] w' fun e w''=>e= .returned (.bool (p x))∧Below w'.heap.size w' w'') :
  Calls Tryz.prog 125 #[v,.func (.func 67) #[] #[.pointer (some ⟨b,0,none⟩)]] w fun e w'=>e= .returned (.int .i64 (ixP p fs))∧Below w.heap.size w w':=by
 obtain⟨A,c,rfl,hcap,hcells⟩:=hv
 have HX:=zh hcells
 have HF:=zh hF
 clear hcells hF
 go_enter Tryz.func125,Tryz.ntmps125
 go_wp2
 go_loopg [8] fs.length (fun gh vi wr=>∃(k:Nat),vi= .int .i64 k∧k≤fs.length∧gh=fs.length-k∧Hid (∀j (hj:j<k) (hl:j<fs.length),p fs[j]=false)∧Hid (Below w.heap.size w wr))
 case atStart=>exact⟨0,rfl,Nat.zero_le _,rfl,zh (fun j hj=>absurd hj (Nat.not_lt_zero _)),zh (zb _ _)⟩
 case round=>
  obtain⟨k,rfl,hk,hgm,HI,HB⟩:=hrel
  by_cases hkl:k<fs.length
  ·obtain⟨g,o,rfl,hg,hx⟩:=HX.out (by omega)
   obtain⟨sl,hsl,x0,x1,x2,x3⟩:=hx k hkl
   have y0:=(HB.out.cell (p:=⟨g,o+k*4,none⟩) hg).trans x0
   have y1:=(HB.out.cell (p:=⟨g,o+k*4+1,none⟩) hg).trans x1
   have y2:=(HB.out.cell (p:=⟨g,o+k*4+2,none⟩) hg).trans x2
   have y3:=(HB.out.cell (p:=⟨g,o+k*4+3,none⟩) hg).trans x3
   have b1:(0:Int)≤(k:Int):=by omega
   have b2:(k:Int)<(fs.length:Int):=by omega
   have hc:=HF.out fs[k] (List.getElem_mem hkl) sl wr HB.out ((hsl.keep HB.out (zl _)).more HB.out.size)
   unfold rcV at hc
   have HC:=zh hc
   clear hx x0 x1 x2 x3 hc hsl
   go_wp2_with fail
   refine HC.out.mono ?_
   rintro e w2 ⟨rfl,hb2⟩
   have HB2:=zh (HB.out.trans (hb2.mono HB.out.size))
   clear hb2 HC y0 y1 y2 y3
   cases hp:p fs[k]with
   | true=>
    have HQ:=zh (k2r hkl (fun j hj=>HI.out j hj (by omega)) hp)
    clear hp
    go_wp2
    go_ret
    exact⟨by rw[HQ.out];rfl,HB2.out⟩
   | false=>
    have HI2:Hid (∀j (hj:j<k+1) (hl:j<fs.length),p fs[j]=false):=zh (fun j hj hl=>by
     by_cases e:j=k
     ·subst e;exact hp
     ·exact HI.out j (by omega) hl)
    clear hp
    go_wp2
    go_roundg (fs.length-(k+1))
    case measure=>omega
    case rel=>exact⟨k+1,by go_num,hkl,rfl,HI2,HB2⟩
  ·obtain rfl:k=fs.length:=by omega
   have HQ:=zh (k2s (fun j hj=>HI.out j hj hj))
   go_wp2
   go_ret
   exact⟨by rw[HQ.out];rfl,HB.out⟩
theorem k6m(b:Nat)(p:Rcp→Bool)(v:Value)(fs:List Rcp)(hl:fs.length≤1000000)(w:World)(hv:RsRd w w.heap.size v fs)(hF:∀x∈fs,∀sl w',Below w.heap.size w w'→RdI w' w'.heap.size sl x.ids→Calls Tryz.prog 67 #[rcV x sl,.pointer (some ⟨b,0,none⟩)] w' fun e w''=>e= .returned (.bool (p x))∧Below w'.heap.size w' w'') :
  Calls Tryz.prog 63 #[v,.func (.func 67) #[] #[.pointer (some ⟨b,0,none⟩)]] w fun e w'=>e= .returned (.bool (fs.any p))∧Below w.heap.size w w':=by
 have HC:=zh (k6l b p v fs hl w hv hF)
 have HQ:=zh (k2t p fs)
 obtain⟨A,c,rfl,_⟩:=hv
 clear hF
 go_enter Tryz.func63,Tryz.ntmps63
 go_wp2_with fail
 refine HC.out.mono ?_
 rintro e w2 ⟨rfl,hb2⟩
 have HB2:=zh hb2
 clear hb2 HC
 go_wp2
 go_ret
 exact⟨by rw[←HQ.out];rfl,HB2.out⟩
theorem k6n(r r0:Rcp)(t:List Rcp)(sl:Value)(b:Nat)(vf:Value)(w:World)(h1:r.ids.length≤1000000)(h0:r0.ids.length≤1000000)(hsl:RdI w w.heap.size sl r.ids)(hc:w.cell? ⟨b,0,none⟩=some vf)(hv:RsRd w w.heap.size vf (r0::t)) :
  Calls Tryz.prog 64 #[rcV r sl,.pointer (some ⟨b,0,none⟩)] w fun e w'=>e= .returned (.bool (!decide (repR r=repR r0)))∧Below w.heap.size w w':=by
 obtain⟨A,c,rfl,_,hx⟩:=hv
 obtain⟨g,o,rfl,hg,hcell⟩:=hx (Nat.succ_pos _)
 obtain⟨s0,hs0,x0,x1,x2,x3⟩:=hcell 0 (Nat.succ_pos _)
 rw[Nat.zero_mul,Nat.add_zero]at x0 x1 x2 x3
 simp only[List.getElem_cons_zero]at hs0 x0 x1 x2
 have hba:Below w.heap.size w (w.alloc (.cells #[VT r.name,.int .i64 r.len,.int .u32 (r.print:Int),sl] 40)):=(zb _ _).alloc (zl _) _
 have hb1:b<(w.alloc (.cells #[VT r.name,.int .i64 r.len,.int .u32 (r.print:Int),sl] 40)).heap.size:=Nat.lt_of_lt_of_le (World.block_lt_of_cell? w _ hc) hba.size
 have hg1:g<(w.alloc (.cells #[VT r.name,.int .i64 r.len,.int .u32 (r.print:Int),sl] 40)).heap.size:=Nat.lt_of_lt_of_le hg hba.size
 have C1:=zh ((hba.cell (p:=⟨b,0,none⟩) (World.block_lt_of_cell? w _ hc)).trans hc)
 have X0:=zh ((hba.cell (p:=⟨g,o,none⟩) hg).trans x0)
 have X1:=zh ((hba.cell (p:=⟨g,o+1,none⟩) hg).trans x1)
 have X2:=zh ((hba.cell (p:=⟨g,o+2,none⟩) hg).trans x2)
 have X3:=zh ((hba.cell (p:=⟨g,o+3,none⟩) hg).trans x3)
 have BX1:=zh (Box4.mk' w (VT r.name) (.int .i64 r.len) (.int .u32 (r.print:Int)) sl 40)
 have HR1:Hid (∀w',Below (w.alloc (.cells #[VT r.name,.int .i64 r.len,.int .u32 (r.print:Int),sl] 40)).heap.size (w.alloc (.cells #[VT r.name,.int .i64 r.len,.int .u32 (r.print:Int),sl] 40)) w'→Calls Tryz.prog 65 #[.agg #[VT r.name,.int .i64 r.len,.int .u32 (r.print:Int),sl]] w' fun e w''=>e= .returned (idV (Z8 r.ids))∧Below w'.heap.size w' w''):=zh (fun w' hb=>W0 _ r h1 w' ⟨_,rfl,(((hsl.keep hba (zl _)).more hba.size).keep hb (zl _)).more hb.size⟩)
 have HR2:Hid (∀w',Below (w.alloc (.cells #[VT r.name,.int .i64 r.len,.int .u32 (r.print:Int),sl] 40)).heap.size (w.alloc (.cells #[VT r.name,.int .i64 r.len,.int .u32 (r.print:Int),sl] 40)) w'→Calls Tryz.prog 65 #[.agg #[VT r0.name,.int .i64 r0.len,.int .u32 (r0.print:Int),s0]] w' fun e w''=>e= .returned (idV (Z8 r0.ids))∧Below w'.heap.size w' w''):=zh (fun w' hb=>W0 _ r0 h0 w' ⟨_,rfl,(((hs0.keep hba (zl _)).more hba.size).keep hb (zl _)).more hb.size⟩)
 have HB1:=zh hba
 clear hx hcell hs0 x0 x1 x2 x3 hba hsl hc hg
 unfold rcV repR
 by_cases he:Z8 r.ids=Z8 r0.ids
 ·have HQ:Hid ((!decide (Z8 r.ids=Z8 r0.ids))=false):=zh (by simp[he])
  obtain⟨t1,t2⟩:=j0a he
  clear he
  go_enter Tryz.func64,Tryz.ntmps64
  go_wp2_with fail
  generalize w.alloc (.cells #[VT r.name,.int .i64 r.len,.int .u32 (r.print:Int),sl] 40)=w1 at *
  go_wp2
  have hS0:Below w1.heap.size w1 w1.drew:=(zb _ _).drew
  refine kR (fun w'=>Below w1.heap.size w1 w') 6 ?_
  refine kS 0 rfl hS0 (fun w' hS=>by obtain⟨A0,A1,A2,A3,_⟩:=BX1.out.below hS BX1.out.lt;go_simp;rfl) ?_
  refine kS 2 rfl hS0 (fun w' hS=>by have A0:=(hS.cell (p:=⟨b,0,none⟩) hb1).trans C1.out;go_simp;rfl) ?_
  refine kT 3 hS0 ?_
  refine kS 4 rfl hS0 (fun w' hS=>by have A0:=(hS.cell (p:=⟨g,o,none⟩) hg1).trans X0.out;have A1:=(hS.cell (p:=⟨g,o+1,none⟩) hg1).trans X1.out;have A2:=(hS.cell (p:=⟨g,o+2,none⟩) hg1).trans X2.out;have A3:=(hS.cell (p:=⟨g,o+3,none⟩) hg1).trans X3.out;go_simp;rfl) ?_
  refine kC 1 (fun K hK=> ?_)
  go_simp
  refine(HR1.out _ hS0).mono ?_
  rintro e w2 ⟨rfl,hbw2⟩
  have hS1:Below w1.heap.size w1 w2:=hS0.trans (hbw2.mono hS0.size)
  refine hK _ _ hS1 ?_
  clear hK K
  try simp only[Act.put,zM]
  refine kC 5 (fun K hK=> ?_)
  go_simp
  refine(HR2.out _ hS1).mono ?_
  rintro e w3 ⟨rfl,hbw3⟩
  have hS2:Below w1.heap.size w1 w3:=hS1.trans (hbw3.mono hS1.size)
  refine hK _ _ hS2 (kF ?_)
  clear hK K
  try simp only[Act.put,zM]
  try simp only[Act.put,zM]
  simp only[List.drop_succ_cons,List.drop_zero]
  have HF:=zh (HB1.out.trans (hS2.mono HB1.out.size))
  clear hS0 hS1 hS2 hbw2 hbw3
  go_wp2
  go_ret
  exact⟨by rw[HQ.out];rfl,HF.out⟩
 ·have HQ:Hid ((!decide (Z8 r.ids=Z8 r0.ids))=true):=zh (by simp[he])
  rcases j0b he with t1|⟨t1,t2⟩
  ·clear he
   go_enter Tryz.func64,Tryz.ntmps64
   go_wp2_with fail
   generalize w.alloc (.cells #[VT r.name,.int .i64 r.len,.int .u32 (r.print:Int),sl] 40)=w1 at *
   go_wp2
   have hS0:Below w1.heap.size w1 w1.drew:=(zb _ _).drew
   refine kR (fun w'=>Below w1.heap.size w1 w') 6 ?_
   refine kS 0 rfl hS0 (fun w' hS=>by obtain⟨A0,A1,A2,A3,_⟩:=BX1.out.below hS BX1.out.lt;go_simp;rfl) ?_
   refine kS 2 rfl hS0 (fun w' hS=>by have A0:=(hS.cell (p:=⟨b,0,none⟩) hb1).trans C1.out;go_simp;rfl) ?_
   refine kT 3 hS0 ?_
   refine kS 4 rfl hS0 (fun w' hS=>by have A0:=(hS.cell (p:=⟨g,o,none⟩) hg1).trans X0.out;have A1:=(hS.cell (p:=⟨g,o+1,none⟩) hg1).trans X1.out;have A2:=(hS.cell (p:=⟨g,o+2,none⟩) hg1).trans X2.out;have A3:=(hS.cell (p:=⟨g,o+3,none⟩) hg1).trans X3.out;go_simp;rfl) ?_
   refine kC 1 (fun K hK=> ?_)
   go_simp
   refine(HR1.out _ hS0).mono ?_
   rintro e w2 ⟨rfl,hbw2⟩
   have hS1:Below w1.heap.size w1 w2:=hS0.trans (hbw2.mono hS0.size)
   refine hK _ _ hS1 ?_
   clear hK K
   try simp only[Act.put,zM]
   refine kC 5 (fun K hK=> ?_)
   go_simp
   refine(HR2.out _ hS1).mono ?_
   rintro e w3 ⟨rfl,hbw3⟩
   have hS2:Below w1.heap.size w1 w3:=hS1.trans (hbw3.mono hS1.size)
   refine hK _ _ hS2 (kF ?_)
   clear hK K
   try simp only[Act.put,zM]
   try simp only[Act.put,zM]
   simp only[List.drop_succ_cons,List.drop_zero]
   have HF:=zh (HB1.out.trans (hS2.mono HB1.out.size))
   clear hS0 hS1 hS2 hbw2 hbw3
   go_wp2
   go_ret
   exact⟨by rw[HQ.out];rfl,HF.out⟩
  ·clear he
   go_enter Tryz.func64,Tryz.ntmps64
   go_wp2_with fail
   generalize w.alloc (.cells #[VT r.name,.int .i64 r.len,.int .u32 (r.print:Int),sl] 40)=w1 at *
   go_wp2
   have hS0:Below w1.heap.size w1 w1.drew:=(zb _ _).drew
   refine kR (fun w'=>Below w1.heap.size w1 w') 6 ?_
   refine kS 0 rfl hS0 (fun w' hS=>by obtain⟨A0,A1,A2,A3,_⟩:=BX1.out.below hS BX1.out.lt;go_simp;rfl) ?_
   refine kS 2 rfl hS0 (fun w' hS=>by have A0:=(hS.cell (p:=⟨b,0,none⟩) hb1).trans C1.out;go_simp;rfl) ?_
   refine kT 3 hS0 ?_
   refine kS 4 rfl hS0 (fun w' hS=>by have A0:=(hS.cell (p:=⟨g,o,none⟩) hg1).trans X0.out;have A1:=(hS.cell (p:=⟨g,o+1,none⟩) hg1).trans X1.out;have A2:=(hS.cell (p:=⟨g,o+2,none⟩) hg1).trans X2.out;have A3:=(hS.cell (p:=⟨g,o+3,none⟩) hg1).trans X3.out;go_simp;rfl) ?_
   refine kC 1 (fun K hK=> ?_)
   go_simp
   refine(HR1.out _ hS0).mono ?_
   rintro e w2 ⟨rfl,hbw2⟩
   have hS1:Below w1.heap.size w1 w2:=hS0.trans (hbw2.mono hS0.size)
   refine hK _ _ hS1 ?_
   clear hK K
   try simp only[Act.put,zM]
   refine kC 5 (fun K hK=> ?_)
   go_simp
   refine(HR2.out _ hS1).mono ?_
   rintro e w3 ⟨rfl,hbw3⟩
   have hS2:Below w1.heap.size w1 w3:=hS1.trans (hbw3.mono hS1.size)
   refine hK _ _ hS2 (kF ?_)
   clear hK K
   try simp only[Act.put,zM]
   try simp only[Act.put,zM]
   simp only[List.drop_succ_cons,List.drop_zero]
   have HF:=zh (HB1.out.trans (hS2.mono HB1.out.size))
   clear hS0 hS1 hS2 hbw2 hbw3
   go_wp2
   go_ret
   exact⟨by rw[HQ.out];rfl,HF.out⟩
theorem k6o(v:Value)(L:List Bytes)(x:Bytes)(hl:L.length≤1000000)(w:World)(hv:Rd w w.heap.size v (L.map VT)) :
  Calls Tryz.prog 68 #[v,.string (bs x)] w fun e w'=>e= .returned (.bool (decide (x∈L)))∧w'=w:=by
 obtain⟨A,c,rfl,hlc,hx⟩:=hv
 rw[List.length_map]
 rcases Nat.eq_zero_or_pos L.length with h0|h0
 ·have:L= []:=List.length_eq_zero_iff.1 h0
  subst this
  exact(Tryz.slices_Contains_string_empty A c (bs x) w).mono fun e w' ⟨h1,h2⟩=>⟨by rw[h1];rfl,h2⟩
 ·obtain⟨g,o,rfl,hg,hcell⟩:=hx (fun e=>by have:=congrArg List.length e;rw[List.length_map,List.length_nil]at this;omega)
  have hcs:∀j,j<(L.map bs).length→w.cell? ⟨g,o+j,none⟩=some (.string ((L.map bs).getD j ByteArray.empty)):=fun j hj=>by
   rw[List.length_map]at hj
   rw[hcell j (VT L[j]) (by rw[List.getElem?_map,List.getElem?_eq_getElem hj];rfl),List.getD_eq_getElem?_getD,List.getElem?_map,List.getElem?_eq_getElem hj];rfl
  refine(Tryz.slices_Contains_string g o L.length c (L.map bs) (bs x) w (by rw[List.length_map];exact zl _) (by omega) hcs).mono fun e w' ⟨h1,h2⟩=>⟨?_,h2⟩
  rw[h1,List.take_of_length_le (by rw[List.length_map];exact zl _)]
  congr 2
  rw[Bool.eq_iff_iff,Lib.containsS_iff,decide_eq_true_iff,List.mem_map]
  exact⟨fun⟨y,hy,e⟩=>by have:=congrArg (fun q=>q.data.toList) e;simp only[Q3]at this;rw[←this];exact hy,fun h=>⟨x,h,rfl⟩⟩
theorem k6p(r:Rcp)(sl:Value)(b:Nat)(vn:Value)(N:List Bytes)(hl:N.length≤1000000)(w:World)(hsl:RdI w w.heap.size sl r.ids)(hc:w.cell? ⟨b,0,none⟩=some vn)(hv:Rd w w.heap.size vn (N.map VT)) :
  Calls Tryz.prog 67 #[rcV r sl,.pointer (some ⟨b,0,none⟩)] w fun e w'=>e= .returned (.bool (decide (r.name∈N)))∧Below w.heap.size w w':=by
 have hba:Below w.heap.size w (w.alloc (.cells #[VT r.name,.int .i64 r.len,.int .u32 (r.print:Int),sl] 40)):=(zb _ _).alloc (zl _) _
 have c1:=(hba.cell (p:=⟨b,0,none⟩) (World.block_lt_of_cell? w _ hc)).trans hc
 obtain⟨z0,z1,z2,z3,_⟩:=Box4.mk' w (VT r.name) (.int .i64 r.len) (.int .u32 (r.print:Int)) sl 40
 have HCT:=zh (k6o vn N r.name hl (w.alloc (.cells #[VT r.name,.int .i64 r.len,.int .u32 (r.print:Int),sl] 40)) ((hv.below hba).more hba.size))
 have HB:=zh hba
 obtain⟨A,c,rfl,_⟩:=hv
 rw[List.length_map]at HCT
 clear hsl hba hc
 unfold rcV
 go_enter Tryz.func67,Tryz.ntmps67
 go_wp2_with fail
 refine HCT.out.mono ?_
 rintro e w2 ⟨rfl,rfl⟩
 go_wp2
 go_ret
 exact⟨rfl,HB.out⟩
end Go.Proofs.YtdmlghfggninbaaGreatDoor
namespace Go.Proofs.YtdmlghfggninbaaGreatDoor
open Go.RowKit Go.Lib Go.Maps Go.WideMaps
def k6q(E:List (Rcp×Value))(F:FL):FL:=E.foldl (fun F x=>Q9 bytesBefore x.1.name (⟨x.1,x.2⟩:FE) F) F
theorem k6r(E:List (Rcp×Value)):∀F:FL,K7 FE.r (k6q E F)=j6o (E.map (·.1)) (K7 FE.r F):=by
 induction E with
 | nil=>exact fun F=>rfl
 | cons x t ih=>
  intro F
  show K7 FE.r (k6q t (Q9 bytesBefore x.1.name ⟨x.1,x.2⟩ F))=j6o (t.map (·.1)) (Q9 bytesBefore x.1.name x.1 (K7 FE.r F))
  rw[ih,z5d]
theorem k6s(E:List (Rcp×Value))(F:FL)(k:Nat)(hk:k<E.length):k6q (E.take (k+1)) F=Q9 bytesBefore E[k].1.name ⟨E[k].1,E[k].2⟩ (k6q (E.take k) F):=by
 unfold k6q
 rw[List.take_succ_eq_append_getElem hk,List.foldl_append];rfl
theorem k6t(E:List (Rcp×Value)):∀F:FL,K1 bytesBefore F→K1 bytesBefore (k6q E F):=by
 induction E with
 | nil=>exact fun F h=>h
 | cons x t ih=>exact fun F h=>ih _ (z5j U3 h _ _)
theorem k6u(E:List (Rcp×Value)):∀(F:FL) (q:Bytes×FE),q∈k6q E F→q∈F∨∃x∈E,q=(x.1.name,⟨x.1,x.2⟩):=by
 induction E with
 | nil=>exact fun F q h=> .inl h
 | cons x t ih=>
  intro F q h
  rcases ih _ q h with h|⟨y,hy,e⟩
  ·rcases V9 h with e|h
   ·exact .inr ⟨x,List.mem_cons_self,e⟩
   ·exact .inl h
  ·exact .inr ⟨y,List.mem_cons_of_mem _ hy,e⟩
theorem k6v(E:List (Rcp×Value)):∀F:FL,(k6q E F).length≤F.length+E.length:=by
 induction E with
 | nil=>exact fun F=>zl _
 | cons x t ih=>
  intro F
  have h1:=ih (Q9 bytesBefore x.1.name ⟨x.1,x.2⟩ F)
  have h2:=q0g (lt:=bytesBefore) (k:=x.1.name) (v:=(⟨x.1,x.2⟩:FE)) (L:=F)
  show(k6q t (Q9 bytesBefore x.1.name ⟨x.1,x.2⟩ F)).length≤_
  rw[List.length_cons];omega
theorem rowE{w:World}{base lo:Nat}{v:Value}{E:List (Rcp×Value)}(h:w.ownsRow base 40 4 v E.length ((rcB lo).row E)):∃A c,v= .slice A E.length c∧E.length≤c∧(0<E.length→∃g,A=some ⟨g,0,none⟩∧g<w.heap.size∧∀k (hk:k<E.length),
  w.cell? ⟨g,k*4,none⟩=some (VT E[k].1.name)∧w.cell? ⟨g,k*4+1,none⟩=some (.int .i64 E[k].1.len)∧w.cell? ⟨g,k*4+2,none⟩=some (.int .u32 (E[k].1.print:Int))∧w.cell? ⟨g,k*4+3,none⟩=some E[k].2):=by
 rcases h.2 with⟨hv,h0⟩|⟨g,cap,cur,hv,_,hh,hnc,_⟩
 ·exact⟨none,0,by rw[hv,h0],by omega,fun h=>absurd h (by omega)⟩
 ·refine⟨_,cap,hv,hnc,fun _=>⟨g,rfl,(Array.getElem?_eq_some_iff.1 hh).1,fun k hk=> ?_⟩⟩
  subst hv
  have at_:∀j u,j<4→((rcB lo).cells E[k].1 E[k].2)[j]? =some u→w.cell? ⟨g,k*4+j,none⟩=some u:=fun j u hj hu=>by
   have h2:=(rcB lo).row_at E k hk j hj
   rw[show(rcB lo).n=4 from rfl]at h2
   rw[h.cellAt (k*4+j) (by omega),h2,hu]
  exact⟨at_ 0 _ (by decide) rfl,at_ 1 _ (by decide) rfl,at_ 2 _ (by decide) rfl,at_ 3 _ (by decide) rfl⟩
theorem k6w(n fm bm:Nat)(F:FL)(B:BL)(E:List (Rcp×Value))(lo base:Nat)(v:Value)(x:Idn)(b mb:Nat)(L:HldL)(hsF:K1 bytesBefore F)(hkF:∀p∈F,X6 p.1)(hsB:K1 Q2 B)(hkB:∀p∈B,R5 p.1)(hkE:∀y∈E,X6 y.1.name)(hx:R5 x)(hlF:F.length+E.length<100000)(hlB:B.length<100000)(hno:∀q∈B,q.1≠x)
  (w:World) (h:ONode n fm bm F B w) (hr:w.ownsRow base 40 4 v E.length ((rcB lo).row E)) (hrd:∀y∈E,RdI w w.heap.size y.2 y.1.ids) (ho:OBin b mb L w) (hmb:mb∉fm::bm::B.map (fun q=>q.2.mb)) :
  Calls Tryz.prog 71 #[.pointer (some ⟨n,0,none⟩),v,idV x,.pointer (some ⟨b,0,none⟩)] w fun e w'=>e= .returned (.tuple #[])∧ONode n fm bm (k6q E F) (Q9 Q2 x ⟨L,b,mb⟩ B) w'∧FrS (fun k=>k=fm∨k=bm) w w':=by
 have hb1:Below w.heap.size w (w.alloc (.cells #[.int .u32 (x.1:Int),.int .i64 x.2] 25)):=(zb _ w).alloc (zl _) _
 obtain⟨A,c,rfl,hc,hxx⟩:=rowE hr
 have HX:=zh hxx
 have HRD:=zh hrd
 have HSF:=zh hsF
 have HKF:=zh hkF
 have HSB:=zh hsB
 have HKB:=zh hkB
 have HKE:=zh hkE
 have HIX:=zh hx
 have HN1:=zh (h.below hb1)
 have HO1:=zh (ho.below hb1)
 have HB1:=zh hb1
 have HNM:=zh hmb
 have HNO:=zh hno
 have BX1:=zh (Box2.mk' w (.int .u32 (x.1:Int)) (.int .i64 x.2) 25)
 clear hxx hr hrd hsF hkF hsB hkB hkE hx h ho hb1 hmb hno
 go_enter Tryz.func71,Tryz.ntmps71
 go_wp2
 generalize w.alloc (.cells #[.int .u32 (x.1:Int),.int .i64 x.2] 25)=w1 at *
 go_loopg [12] E.length (fun gh v12 wr=>∃k:Nat,v12= .int .i64 k∧k≤E.length∧gh=E.length-k∧Hid (ONode n fm bm (k6q (E.take k) F) B wr)∧Hid (Stay w1 wr)∧Hid (FrS (fun k=>k=fm) w1 wr))
 case atStart=>exact⟨0,rfl,Nat.zero_le _,rfl,HN1,zh (Stay.refl _),zh (FrS.refl _ _)⟩
 case round=>
  obtain⟨k,rfl,hk,hgm,HN,HST,HFR⟩:=hrel
  by_cases hkl:k<E.length
  ·obtain⟨g,rfl,hg,hcells⟩:=HX.out (by omega)
   obtain⟨x0,x1,x2,x3⟩:=hcells k hkl
   have y0:=HST.out _ _ ((HB1.out.cell (p:=⟨g,k*4,none⟩) hg).trans x0)
   have y1:=HST.out _ _ ((HB1.out.cell (p:=⟨g,k*4+1,none⟩) hg).trans x1)
   have y2:=HST.out _ _ ((HB1.out.cell (p:=⟨g,k*4+2,none⟩) hg).trans x2)
   have y3:=HST.out _ _ ((HB1.out.cell (p:=⟨g,k*4+3,none⟩) hg).trans x3)
   have hsl:=HRD.out E[k] (List.getElem_mem hkl)
   have HNX:=zh (k6s E F k hkl)
   have hso:=HKE.out E[k] (List.getElem_mem hkl)
   have hln:(k6q (E.take k) F).length≤100000:=by
    have:=k6v (E.take k) F
    rw[List.length_take]at this
    omega
   have HSRT:=zh (k6t (E.take k) F HSF.out)
   have HKEY:Hid (∀p∈k6q (E.take k) F,X6 p.1):=zh (fun p hp=>by
    rcases k6u _ _ _ hp with h|⟨y,hy,e⟩
    ·exact HKF.out p h
    ·rw[e];exact HKE.out y (List.mem_of_mem_take hy))
   have b1:(0:Int)≤(k:Int):=by omega
   have b2:(k:Int)<(E.length:Int):=by omega
   generalize E[k].1=r at *
   generalize E[k].2=sl at *
   obtain⟨A8,c8,rfl⟩:∃A c,sl= .slice A r.ids.length c:=by obtain⟨A,c,h,_⟩:=hsl;exact⟨A,c,h⟩
   have hba:Below wr.heap.size wr (wr.alloc (.cells #[VT r.name,.int .i64 r.len,.int .u32 (r.print:Int),.slice A8 r.ids.length c8] 40)):=(zb _ _).alloc (zl _) _
   have HN2:=zh (HN.out.below hba)
   have hstb:Stay wr (wr.alloc (.cells #[VT r.name,.int .i64 r.len,.int .u32 (r.print:Int),.slice A8 r.ids.length c8] 40)):=fun p u hu=>(hba.cell (World.block_lt_of_cell? wr _ hu)).trans hu
   have HST2:=zh (HST.out.trans hstb)
   have HFR2:=zh (HFR.out.thenB hba)
   have BX2:=zh (Box4.mk' wr (VT r.name) (.int .i64 r.len) (.int .u32 (r.print:Int)) (.slice A8 r.ids.length c8) 40)
   have HSL:=zh ((((hsl.keep HB1.out (zl _)).more HB1.out.size).stay HST2.out).more HFR2.out.size)
   have hnl:=HN2.out.nlt
   have C0:=zh HN2.out.c0
   have HSO:=zh hso
   clear hcells x0 x1 x2 x3 hsl hba hstb hso HN HST HFR
   go_wp2_with fail
   generalize wr.alloc (.cells #[VT r.name,.int .i64 r.len,.int .u32 (r.print:Int),.slice A8 r.ids.length c8] 40)=w3 at *
   go_wp2
   have hS0:Below w3.heap.size w3 w3.drew:=(zb _ _).drew
   refine kR (fun w'=>Below w3.heap.size w3 w') 7 ?_
   refine kT 0 hS0 ?_
   refine kT 1 hS0 ?_
   refine kT 2 hS0 ?_
   refine kS 3 rfl hS0 (fun w' hS=>by have A0:=(hS.cell (p:=⟨n,0,none⟩) hnl).trans C0.out;go_simp;rfl) ?_
   refine kT 4 hS0 ?_
   refine kS 5 rfl hS0 (fun w' hS=>by obtain⟨A0,_,_,_,_⟩:=BX2.out.below hS BX2.out.lt;go_simp;rfl) ?_
   refine kS 6 rfl hS0 (fun w' hS=>by obtain⟨A0,A1,A2,A3,_⟩:=BX2.out.below hS BX2.out.lt;go_simp;rfl) (kF ?_)
   try simp only[Act.put,zM]
   simp only[List.drop_succ_cons,List.drop_zero]
   clear hS0
   go_wp2_with(first|(at_mapUpdate;refine wpList_mapUpdate_own _ rfl _ _ _ 78 rfl 9 40 j2c Tryz.underlying78 rawE fm (k6q (E.take k) F).length (alD C9 feV (k6q (E.take k) F)) rfl (HN2.out.below (zb _ _).drew).files (by unfold maxLen;omega) (strV r.name) _ (C9 r.name) rfl rfl (j2d HSO.out) (.held (feV ⟨r,.slice A8 r.ids.length c8⟩)) [] rfl ?_;intro w5 hown5 hg5)|fail)
   have hm5:=AlMap.put j2f HSRT.out HKEY.out r.name (⟨r,.slice A8 r.ids.length c8⟩:FE) HSO.out hown5
   have hst5:=j3p (HN2.out.below (zb _ _).drew).files.isMap hg5
   have HN5:Hid (ONode n fm bm (k6q (E.take (k+1)) F) B w5):=zh (by
    rw[HNX.out]
    refine(HN2.out.below (zb _ _).drew).setF hg5 hst5 hm5 fun q hq=> ?_
    rcases V9 hq with e|e
    ·rw[e];exact .inr ((HSL.out.stay (Stay.drew hst5)).more hg5.size)
    ·exact .inl e)
   have HST5:=zh (HST2.out.trans (Stay.trans (Stay.drew (Stay.refl w3)) hst5))
   have HFR5:=zh ((HFR2.out.thenB (zb _ w3).drew).trans (FrS.of_gb (S:=fun k=>k=fm) hg5 rfl) fun _ h=> .inl h)
   clear hown5 hg5 hm5 hst5
   go_wp2
   go_roundg (E.length-(k+1))
   case measure=>omega
   case rel=>exact⟨k+1,by go_num,hkl,rfl,HN5,HST5,HFR5⟩
  ·obtain rfl:k=E.length:=by omega
   rw[List.take_length]at HN
   obtain⟨y0,y1⟩:wr.cell? ⟨w.heap.size,0,none⟩=some (.int .u32 (x.1:Int))∧wr.cell? ⟨w.heap.size,1,none⟩=some (.int .i64 x.2):=⟨HST.out _ _ BX1.out.c0,HST.out _ _ BX1.out.c1⟩
   have hnl:=HN.out.nlt
   have C1:=zh HN.out.c1
   have Y:=zh (And.intro y0 y1)
   have hyl:=World.block_lt_of_cell? wr _ y0
   clear y0 y1 hk hgm
   go_wp2
   have hS0:Below wr.heap.size wr wr.drew:=(zb _ _).drew
   refine kR (fun w'=>Below wr.heap.size wr w') 6 ?_
   refine kT 0 hS0 ?_
   refine kT 1 hS0 ?_
   refine kT 2 hS0 ?_
   refine kS 3 rfl hS0 (fun w' hS=>by have A0:=(hS.cell (p:=⟨n,1,none⟩) hnl).trans C1.out;go_simp;rfl) ?_
   refine kS 4 rfl hS0 (fun w' hS=>by have A0:=(hS.cell (p:=⟨w.heap.size,0,none⟩) hyl).trans Y.out.1;have A1:=(hS.cell (p:=⟨w.heap.size,1,none⟩) hyl).trans Y.out.2;go_simp;rfl) ?_
   refine kT 5 hS0 (kF ?_)
   try simp only[Act.put,zM]
   simp only[List.drop_succ_cons,List.drop_zero]
   clear hS0
   go_wp2_with(first|(at_mapUpdate;refine wpList_mapUpdate_own _ rfl _ _ _ 79 rfl 25 47 lawI Tryz.underlying79 rawE bm B.length (alD Z6 beV B) rfl (HN.out.below (zb _ _).drew).bins (by unfold maxLen;omega) (idV x) _ (Z6 x) rfl rfl (keyI HIX.out.1) (.held (beV ⟨L,b,mb⟩)) [] rfl ?_;intro w5 hown5 hg5)|fail)
   have hm5:=AlMap.put idRd HSB.out HKB.out x (⟨L,b,mb⟩:BE) HIX.out hown5
   have hst5:=j3p (HN.out.below (zb _ _).drew).bins.isMap hg5
   have hfm:=HNM.out
   rw[List.mem_cons,List.mem_cons]at hfm
   have hbw:wr.heap[b]? =w1.heap[b]? :=HFR.out.block b HO1.out.lt (fun e=>by
    obtain⟨es,clock,e1⟩:=HN1.out.files.isMap
    have:=HO1.out.row
    rw[show b=fm from e,e1]at this;cases this)
   have hmw:wr.heap[mb]? =w1.heap[mb]? :=HFR.out.block mb HO1.out.map.lt (fun e=>hfm (.inl e))
   have hor:=(HO1.out.keep hbw hmw).below (zb _ wr).drew
   have hbb:b≠bm:=fun e=>by
    obtain⟨es,clock,e1⟩:=HN.out.bins.isMap
    have:=hor.row
    rw[e]at this
    rw[show wr.drew.heap[bm]? =wr.heap[bm]? from rfl,e1]at this;cases this
   have HN5:Hid (ONode n fm bm (k6q E F) (Q9 Q2 x ⟨L,b,mb⟩ B) w5):=zh (by
    have hp:=j8x (lt:=Q2) (k:=x) (v:=(⟨L,b,mb⟩:BE)) (L:=B) HNO.out
    refine(HN.out.below (zb _ _).drew).setB hg5 hst5 hm5 (fun q hq=> ?_) ?_
    ·rcases V9 hq with e|e
     ·rw[e]
      exact .inr (hor.keep (hg5.block b hor.lt (fun e=>hbb (by injection e))) (hg5.block mb hor.map.lt (fun e=>hfm (.inr (.inl (by injection e))))))
     ·exact .inl e
    ·have hq:=((hp.map (fun q:Idn×BE=>q.2.mb)).cons bm).cons fm
     refine hq.nodup_iff.2 ?_
     have hnd:=HN.out.nd
     rw[List.nodup_cons,List.nodup_cons]at hnd ⊢
     rw[List.map_cons,List.nodup_cons,List.mem_cons,List.mem_cons,List.mem_cons]
     rw[List.mem_cons]at hnd
     exact⟨fun h=>h.elim (fun e=>hnd.1 (.inl e)) (fun h=>h.elim (fun e=>hfm (.inl e.symm)) (fun h=>hnd.1 (.inr h))),fun h=>h.elim (fun e=>hfm (.inr (.inl e.symm))) hnd.2.1,fun h=>hfm (.inr (.inr h)),hnd.2.2⟩)
   have HFR5:Hid (FrS (fun k=>k=fm∨k=bm) w w5):=zh ((((FrS.of_below (S:=fun k=>k=fm∨k=bm) HB1.out).trans HFR.out fun _ h=> .inl (.inl h)).thenB (zb _ wr).drew).trans (FrS.of_gb (S:=fun k=>k=bm) hg5 rfl) fun _ h=> .inl (.inr h))
   clear hown5 hg5 hm5 hst5 hbw hmw hor hbb
   go_wp2
   go_end0
   exact⟨rfl,HN5.out,HFR5.out⟩
end Go.Proofs.YtdmlghfggninbaaGreatDoor
