/- PrU, PrF, CutB, CutR in one text. Conditions: as each part says. -/
import Derived.Test.YtdmlghfggninbaaGreatDoorMb12
import Derived.Test.YtdmlghfggninbaaGreatDoorShelf
import Derived.Lib.ConvBytes
import Derived.Lib.AtoiErrMem
import Derived.Laws.IdiomStrings
import Derived.Deep.RegionHeld
import Derived.Lib.ItoaMem
import Derived.Deep.Onto
set_option linter.unusedVariables false
set_option linter.unusedSimpArgs false
set_option maxHeartbeats 4000000
set_option maxRecDepth 100000
namespace Go.Proofs.YtdmlghfggninbaaGreatDoor
open Go.RowKit Go.Lib
theorem or32(c:UInt8):bits .or .u8 (c.toNat:Int) 32=((c.toNat ||| 32:Nat):Int):=by
 have h:∀i:Fin 256,bits .or .u8 (i.1:Int) 32=((i.1 ||| 32:Nat):Int):=by decide+kernel
 exact h ⟨c.toNat,c.toNat_lt⟩
theorem q5q(c:UInt8):c.toNat ||| 32<256:=Nat.or_lt_two_pow (n:=8) c.toNat_lt (by decide)
theorem q5r(c:UInt8)(h0:48≤c.toNat)(h1:c.toNat≤57):q3r c=some (c.toNat-48):=by unfold q3r;rw[if_pos ⟨h0,h1⟩]
theorem q5s(c:UInt8)(h:¬(48≤c.toNat∧c.toNat≤57))(h0:97≤c.toNat ||| 32)(h1:c.toNat ||| 32≤122):q3r c=some ((c.toNat ||| 32)-87):=by unfold q3r;rw[if_neg h,if_pos ⟨h0,h1⟩]
theorem q5t(c:UInt8)(h:¬(48≤c.toNat∧c.toNat≤57))(h0:¬(97≤c.toNat ||| 32∧c.toNat ||| 32≤122)):q3r c=none:=by unfold q3r;rw[if_neg h,if_neg h0]
theorem q5u{acc:Nat}{c:UInt8}{r:Bytes}{d:Nat}(h:q3r c=some d)(hd:d<16)(ho:acc*16+d<4294967296):U7 acc (c::r)=U7 (acc*16+d) r:=by
 simp only[U7,h];rw[if_neg (by omega),if_neg (by omega)]
theorem q5v{acc:Nat}{c:UInt8}{r:Bytes}{d:Nat}(h:q3r c=some d)(hd:d<16)(ho:4294967296≤acc*16+d):U7 acc (c::r)= .error true:=by
 simp only[U7,h];rw[if_neg (by omega),if_pos ho]
theorem q5w{acc:Nat}{c:UInt8}{r:Bytes}{d:Nat}(h:q3r c=some d)(hd:16≤d):U7 acc (c::r)= .error false:=by
 simp only[U7,h];rw[if_pos hd]
theorem q5x{acc:Nat}{c:UInt8}{r:Bytes}(h:q3r c=none):U7 acc (c::r)= .error false:=by
 simp only[U7,h]
def q5y(e:Except Bool Nat)(x:Int)(r:Value):Prop:=
 (∃n,e= .ok n∧x=(n:Int)∧r= .nilIface)∨(e= .error false∧x=0∧r= .iface 340 (.int .i64 2))∨(e= .error true∧x=4294967295∧r= .iface 340 (.int .i64 1))
theorem q5z(t:ByteArray)(ht:t.size≤2^40)(w:World) :
  Calls Tryz.prog 219 #[.string t,.int .i64 16,.int .i64 32] w fun e w'=>∃x r,e= .returned (.tuple #[.int .u64 x,r])∧q5y (B5 t.data.toList) x r∧Below w.heap.size w w':=by
 by_cases h0:t.size=0
 ·have hl:t.data.toList= []:=by
   have:=Z4 t
   exact List.eq_nil_of_length_eq_zero (by omega)
  have e0:t=⟨#[]⟩:=q0t (by rw[hl])
  subst e0
  go_enter Tryz.func219,Tryz.ntmps219
  go_wp2
  go_ret2
  exact⟨_,_,rfl,.inr (.inl ⟨rfl,rfl,rfl⟩),zb _ _⟩
 ·have hpos:t.data.toList≠ []:=fun e=>by
   have:=Z4 t
   rw[e,List.length_nil]at this;exact h0 this
  have hne:t.toList.isEmpty=false:=by
   rw[ByteArray.toList_eq]
   cases hq:t.data.toList with
   | nil=>exact absurd hq hpos
   | cons _ _=>rfl
  obtain⟨bl,hbl⟩:∃bl,t.data.toList=bl:=⟨_,rfl⟩
  have hbs:bl.length=t.size:=by rw[←hbl,Z4]
  have hP:Hid (B5 t.data.toList=U7 0 bl):=zh (by rw[←hbl];unfold B5;rw[if_neg hpos])
  have hcv:=Lib.run_convert_string_bytes (P:=Tryz.prog) w 9 70 5 t (u:= .string) Tryz.underlying9 Tryz.underlying70 Tryz.underlying5
  have hB:∀j,(hj:j<t.size)→(Lib.bytesWorld w 5 t).cell? ⟨w.heap.size,j,none⟩=some (.int .u8 (bl.getD j 0).toNat):=fun j hj=>by rw[←hbl];exact Lib.bytesWorld_cell w 5 t j hj
  have hb:=Lib.bytesWorld_below w 5 t
  go_enter Tryz.func219,Tryz.ntmps219
  go_wp2
  have HBS:=zh hbs
  have HBB:=zh hB
  clear hbl hbs hB hcv hpos hne h0
  generalize Lib.bytesWorld w 5 t=W1 at *
  go_loop [12,13,101] (fun vu vn vi=>∃(k acc:Nat) (a:Int),vu= .bool false∧vn= .int .u64 a∧vi= .int .i64 k∧k≤t.size∧Hid (a=(acc:Int)∧acc<4294967296∧U7 0 bl=U7 acc (bl.drop k))) (fun _ _ vi=>t.size-(RowKit.intOf vi).toNat)
  case atStart=>exact⟨0,0,0,rfl,rfl,rfl,by omega,rfl,by omega,rfl⟩
  case round=>
   obtain⟨k,acc,a,rfl,rfl,rfl,hk,hh0⟩:=hrel
   obtain⟨ha,hacc,hh⟩:=hh0.out
   have a0:0≤a:=by omega
   have a1:a<4294967296:=by omega
   clear hh0
   by_cases hkn:k<t.size
   ·have hkb:k<bl.length:=by rw[HBS.out];exact hkn
    have hc:=HBB.out k hkn
    have hdrop:bl.drop k=bl[k]::bl.drop (k+1):=List.drop_eq_getElem_cons hkb
    have hget:bl.getD k 0=bl[k]:=by simp[List.getD,List.getElem?_eq_getElem hkb]
    have hdec:=hh
    rw[hdrop]at hdec
    rw[hget]at hc
    generalize bl[k]=c at hc hdec
    have hc256:c.toNat<256:=c.toNat_lt
    have hor:=or32 c
    have horl:=q5q c
    clear hdrop hget hh hkb
    by_cases hdig:48≤c.toNat∧c.toNat≤57
    ·obtain⟨hd0,hd1⟩:=hdig
     have hv:=q5r c hd0 hd1
     have hnu:((c.toNat:Int)==95)=false:=by rw[beq_eq_false_iff_ne];omega
     by_cases hov:4294967296≤acc*16+(c.toNat-48)
     ·have HD:=zh (hdec.trans (q5v hv (by omega) hov))
      have iov:(4294967295:Int)<a*16+((c.toNat:Int)-48):=by omega
      clear hdec hv hov hor horl ha hacc
      go_wp2
      go_ret2
      exact⟨_,_,rfl,.inr (.inr ⟨by rw[hP.out];exact HD.out,rfl,rfl⟩),hb⟩
     ·have HD:=zh (hdec.trans (q5u hv (by omega) (by omega)))
      have iov:¬(4294967295:Int)<a*16+((c.toNat:Int)-48):=by omega
      have hq:a*16+((c.toNat:Int)-48)=((acc*16+(c.toNat-48):Nat):Int):=by omega
      have HQ:Hid (a*16+((c.toNat:Int)-48)=((acc*16+(c.toNat-48):Nat):Int)∧acc*16+(c.toNat-48)<4294967296∧U7 0 bl=U7 (acc*16+(c.toNat-48)) (bl.drop (k+1))):=zh ⟨hq,by omega,HD.out⟩
      clear hdec hv hov hor horl hq ha hacc
      go_wp2
      go_round
      case rel=>exact⟨k+1,acc*16+(c.toNat-48),a*16+((c.toNat:Int)-48),rfl,by first|rfl|(congr 1;omega),by go_num,hkn,HQ⟩
      case measure=>simp[RowKit.intOf];omega
    ·have hnd:=hdig
     by_cases hlet:97≤c.toNat ||| 32∧c.toNat ||| 32≤122
     ·obtain⟨hm0,hm1⟩:=hlet
      have hv:=q5s c hnd hm0 hm1
      have hnu:((c.toNat:Int)==95)=false:=by
       rw[beq_eq_false_iff_ne]
       intro e
       have e2:c.toNat=95:=by omega
       rw[e2]at hm1;revert hm1;decide
      have hnd1:¬(48:Int)≤(c.toNat:Int)∨¬(c.toNat:Int)≤57:=by omega
      generalize c.toNat ||| 32=m at *
      by_cases hbig:16≤m-87
      ·have HD:=zh (hdec.trans (q5w hv hbig))
       have ib:(103:Int)≤(m:Int):=by omega
       clear hdec hv hbig hdig hnd ha hacc
       go_wp2_with(go_at_call 272;refine(Tryz.internal_strconv_lower _ _).mono ?_;rintro e w' ⟨rfl,rfl⟩)
       all_goals go_ret2
       all_goals exact⟨_,_,rfl,.inr (.inl ⟨by rw[hP.out];exact HD.out,rfl,rfl⟩),hb⟩
      ·by_cases hov:4294967296≤acc*16+(m-87)
       ·have HD:=zh (hdec.trans (q5v hv (by omega) hov))
        have ib:(m:Int)≤102:=by omega
        have iov:(4294967295:Int)<a*16+((m:Int)-87):=by omega
        clear hdec hv hbig hdig hnd hov ha hacc
        go_wp2_with(go_at_call 272;refine(Tryz.internal_strconv_lower _ _).mono ?_;rintro e w' ⟨rfl,rfl⟩)
        all_goals go_ret2
        all_goals exact⟨_,_,rfl,.inr (.inr ⟨by rw[hP.out];exact HD.out,rfl,rfl⟩),hb⟩
       ·have HD:=zh (hdec.trans (q5u hv (by omega) (by omega)))
        have ib:(m:Int)≤102:=by omega
        have iov:¬(4294967295:Int)<a*16+((m:Int)-87):=by omega
        have hq:a*16+((m:Int)-87)=((acc*16+(m-87):Nat):Int):=by omega
        have HQ:Hid (a*16+((m:Int)-87)=((acc*16+(m-87):Nat):Int)∧acc*16+(m-87)<4294967296∧U7 0 bl=U7 (acc*16+(m-87)) (bl.drop (k+1))):=zh ⟨hq,by omega,HD.out⟩
        clear hdec hv hbig hdig hnd hov hq ha hacc
        go_wp2_with(go_at_call 272;refine(Tryz.internal_strconv_lower _ _).mono ?_;rintro e w' ⟨rfl,rfl⟩)
        all_goals exact⟨⟨k+1,acc*16+(m-87),a*16+((m:Int)-87),rfl,by congr 1;omega,by go_num,hkn,HQ⟩,by simp[RowKit.intOf];omega⟩
     ·have HD:=zh (hdec.trans (q5x (q5t c hnd hlet)))
      generalize c.toNat ||| 32=m at *
      have hu0:=bits_lo_u8 .or 95 32
      have hu1:=bits_hi_u8 .or 95 32
      have hml:¬((97:Int)≤(m:Int)∧(m:Int)≤122):=by omega
      clear hdec hlet ha hacc
      go_wp2_with(go_at_call 272;refine(Tryz.internal_strconv_lower _ _).mono ?_;rintro e w' ⟨rfl,rfl⟩)
      all_goals go_ret2
      all_goals exact⟨_,_,rfl,.inr (.inl ⟨by rw[hP.out];exact HD.out,rfl,rfl⟩),hb⟩
   ·obtain rfl:k=t.size:=by omega
    have HD:Hid (U7 0 bl= .ok acc):=zh (by rw[hh,List.drop_eq_nil_of_le (by rw[HBS.out];exact zl _)];rfl)
    have HA:=zh ha
    clear ha hacc hh
    go_wp2
    go_ret2
    exact⟨_,_,rfl,.inl ⟨acc,by rw[hP.out];exact HD.out,HA.out,rfl⟩,hb⟩
theorem q6a:bits BinOp.and IntKind.u64 16 (IntKind.u64.wrap (-16))=16:=by decide+kernel
theorem q6b:IntKind.u64.wrap (16*285870213051353865)/288230376151711744=15:=by decide+kernel
theorem TZ16(w:World)(h:w.cell? ⟨18,15,none⟩=some (.int .u8 4)):Calls Tryz.prog 263 #[.int .u64 16] w fun e w'=>e= .returned (.int .i64 4)∧w=w':=by
 have e1:=q6a
 have e2:=q6b
 go_enter Tryz.func263,Tryz.ntmps263
 go_wp2
 go_ret
 exact⟨rfl,rfl⟩
def digs:ByteArray:=⟨#[48,49,50,51,52,53,54,55,56,57,97,98,99,100,101,102,103,104,105,106,107,108,109,110,111,112,113,114,115,116,117,118,119,120,121,122]⟩
theorem q6c(v:Nat):bits .and .u64 (v:Int) 15=((v%16:Nat):Int):=by
 show IntKind.u64.wrap ((BitVec.ofInt 64 (v:Int) &&& BitVec.ofInt 64 15).toNat:Int)=_
 have h:(BitVec.ofInt 64 (v:Int) &&& BitVec.ofInt 64 15).toNat=v%16:=by
  rw[BitVec.toNat_and,BitVec.ofInt_natCast,BitVec.toNat_ofNat,show(BitVec.ofInt 64 15).toNat=2^4-1 from rfl,Nat.and_two_pow_sub_one_eq_mod]
  omega
 rw[h]
 simp[IntKind.wrap,IntKind.bits,IntKind.signed]
 omega
theorem q6d(d:Nat)(hd:d<16):∃h:d<digs.size,digs[d]=hexc d:=
 (show ∀e:Fin 16,∃h:e.1<digs.size,digs[e.1]=hexc e.1 by decide+kernel) ⟨d,hd⟩
theorem q6e(z:Int)(d:Nat)(hz:z=(d:Int))(hd:d<16)(w:World) :
  (Instr.index 9 (.string ⟨#[48,49,50,51,52,53,54,55,56,57,97,98,99,100,101,102,103,104,105,106,107,108,109,110,111,112,113,114,115,116,117,118,119,120,121,122]⟩) (.int .u64 z)).run Tryz.prog w= .ok (.int .u8 ((hexc d).toNat:Int)) w:=by
 subst hz
 obtain⟨h1,h2⟩:=q6d d hd
 have e:((d:Int)).toNat=d:=by omega
 rw[show(⟨#[48,49,50,51,52,53,54,55,56,57,97,98,99,100,101,102,103,104,105,106,107,108,109,110,111,112,113,114,115,116,117,118,119,120,121,122]⟩:ByteArray)=digs from rfl,run_index_string w 9 digs .u64 _ Tryz.underlying9,dif_pos ⟨by omega,by omega⟩]
 simp only[e]
 rw[h2]
structure Hx(b n k:Nat)(w:World):Prop where
 isb:∀j,j<65→∃c,w.cell? ⟨b,j,none⟩=some (.int .u8 c)
 nof:∀j,j<65→w.frozen? ⟨b,j,none⟩=false
 dig:∀j,j<k→w.cell? ⟨b,64-j,none⟩=some (.int .u8 ((q3m n j).toNat:Int))
theorem Hx.start(n:Nat)(w:World)(b:Nat)(hb:b=w.heap.size):Hx b n 0 (w.alloc (.cells (Array.replicate 65 (.int .u8 0)) 335)) where
 isb j hj:=⟨0,by rw[World.cell?_alloc_at _ _ _ _ hb,Array.getElem?_replicate,if_pos hj]⟩
 nof j hj:=by subst hb;exact World.frozen?_alloc_new _ _ _ _
 dig j hj:=absurd hj (Nat.not_lt_zero _)
theorem Hx.step{b n k:Nat}{w:World}(h:Hx b n k w)(hk:k<65):Hx b n (k+1) (w.setCell ⟨b,64-k,none⟩ (.int .u8 ((q3m n k).toNat:Int))) where
 isb j hj:=by
  by_cases he:j=64-k
  ·subst he
   obtain⟨c,hc⟩:=h.isb (64-k) (by omega)
   exact⟨_,World.cell?_setCell_same _ _ _ hc⟩
  ·obtain⟨c,hc⟩:=h.isb j hj
   exact⟨c,by rw[World.cell?_setCell_other _ _ _ _ (by intro e;injection e;omega)];exact hc⟩
 nof j hj:=by rw[World.frozen?_setCell];exact h.nof j hj
 dig j hj:=by
  by_cases he:j=k
  ·subst he
   obtain⟨c,hc⟩:=h.isb (64-j) (by omega)
   exact World.cell?_setCell_same _ _ _ hc
  ·rw[World.cell?_setCell_other _ _ _ _ (by intro e;injection e;omega)];exact h.dig j (by omega)
theorem q6f(n:Nat)(hn:n<4294967296)(w:World)(h:w.cell? ⟨18,15,none⟩=some (.int .u8 4)) :
  Calls Tryz.prog 208 #[.slice none 0 0,.int .u64 (n:Int),.int .i64 16,.bool false,.bool false] w fun e w'=>
   ∃L,1≤L∧L≤8∧n<16^L∧e= .returned (.tuple #[.slice none 0 0,.string (bs (hexL n L))])∧Below w.heap.size w w':=by
 have hz:∀o,(w.alloc o).cell? ⟨18,15,none⟩=some (.int .u8 4):=fun o=>by
  rw[World.cell?_alloc_some _ _ _ (by rw[h];rfl)];exact h
 go_enter Tryz.func208,Tryz.ntmps208
 go_wp2_with(first|(go_at_call 263;refine(TZ16 _ (hz _)).mono ?_;rintro e w1 ⟨rfl,rfl⟩)|go_in)
 go_loopw [1,13] (fun vu vi wr=>∃k:Nat,k≤7∧vu= .int .u64 (n/16^k:Nat)∧vi= .int .i64 (65-(k:Int))∧Hx w.heap.size n k wr∧Below w.heap.size w wr) (fun vu _ _=>(RowKit.intOf vu).toNat)
 case atStart=>exact⟨0,by omega,by simp,rfl,by rw[show Tryz.zeroCells335=Array.replicate 65 (.int .u8 0)from rfl];exact Hx.start n w _ rfl,(zb _ w).alloc (zl _) _⟩
 case round=>
  obtain⟨k,hk,rfl,rfl,hx,hb⟩:=hrel
  have hv:n/16^k<4294967296:=Nat.lt_of_le_of_lt (Nat.div_le_self _ _) hn
  have hd:q3m n k=hexc (n/16^k%16):=rfl
  have hnx:n/16^(k+1)=n/16^k/16:=by rw[Nat.pow_succ,Nat.div_div_eq_div_mul]
  by_cases hge:16≤n/16^k
  ·have hst:=hx.step (k:=k) (by omega)
   rw[hd]at hst
   generalize n/16^k=v at *
   have HST:=zh hst
   obtain⟨c,hc⟩:=hx.isb (65-k-1) (by omega)
   have hf:=hx.nof (65-k-1) (by omega)
   have hidx:=q6e (bits .and .u64 (v:Int) 15) (v%16) (q6c v) (Nat.mod_lt _ (by decide))
   have b1:(16:Int)≤(v:Int):=by omega
   clear hst hd hge
   go_wp2
   have hk7:k≤6:=by
    rcases Nat.lt_or_ge k 7 with h7|h7
    ·omega
    ·obtain rfl:k=7:=by omega
     rw[Nat.div_eq_of_lt (show n<16^(7+1) by omega)]at hnx
     omega
   go_round
   case rel=>
    refine⟨k+1,by omega,by rw[hnx];rfl,by go_num,?_,?_⟩
    ·rw[show 65-k-1=64-k by omega];exact HST.out
    ·exact hb.setCell (zl _) _
   case measure=>simp[RowKit.intOf];omega
  ·have hlt:n<16^(k+1):=by
    rw[Nat.pow_succ]
    have hp:0<16^k:=Nat.pow_pos (by decide)
    have:=(Nat.div_lt_iff_lt_mul hp).1 (show n/16^k<16 by omega)
    rw[Nat.mul_comm];exact this
   have hst:=hx.step (k:=k) (by omega)
   rw[hd,Nat.mod_eq_of_lt (show n/16^k<16 by omega)]at hst
   generalize n/16^k=v at *
   have HST:=zh hst
   obtain⟨c,hc⟩:=hx.isb (65-k-1) (by omega)
   have hf:=hx.nof (65-k-1) (by omega)
   have hidx:=q6e (v:Int) v rfl (by omega)
   have b1:¬(16:Int)≤(v:Int):=by omega
   have hsl:∀W,(Instr.sliceAt 335 (.pointer (some ⟨w.heap.size,0,none⟩)) (some (.int .i64 (65-(k:Int)-1))) none none).run Tryz.prog W= .ok (.slice (some ⟨w.heap.size,65-k-1,none⟩) (hexL n (k+1)).length (hexL n (k+1)).length) W:=fun W=>by
    rw[run_sliceAt_array_l W 335 ⟨w.heap.size,0,none⟩ (by simp[Program.arrayLen,Program.elem,Tryz.underlying335]) .i64 (65-(k:Int)-1) (by omega) (by rw[show Tryz.prog.arrayLen 335=65 from rfl];omega)]
    rw[show Tryz.prog.arrayLen 335=65 from rfl,show Tryz.prog.elem 335=5 from rfl,X8]
    go_simp
    omega
   have hcv:=run_convert_bytes_back (P:=Tryz.prog) (wr.setCell ⟨w.heap.size,65-k-1,none⟩ (.int .u8 ((hexc v).toNat:Int))) 70 9 5 ⟨w.heap.size,65-k-1,none⟩ (hexL n (k+1)).length (hexL n (k+1)) Tryz.underlying70 Tryz.underlying5 Tryz.underlying9 (fun j hj=>by
    rw[X8]at hj
    have:=HST.out.dig (k-j) (by omega)
    rw[show 64-(k-j)=65-k-1+j by omega,show 64-k=65-k-1 by omega]at this
    rw[Lib.add_plain,this]
    simp[hexL])
   clear hst hd hge
   go_wp2
   have hb':=hb.setCell (p:=⟨w.heap.size,65-k-1,none⟩) (zl _) (.int .u8 ((hexc v).toNat:Int))
   go_ret2
   exact⟨k+1,by omega,by omega,hlt,rfl,hb'⟩
theorem q6g(n:Nat)(hn:n<4294967296)(w:World)(h:w.cell? ⟨18,15,none⟩=some (.int .u8 4)) :
  Calls Tryz.prog 112 #[.int .u64 (n:Int),.int .i64 16] w fun e w'=>∃L,1≤L∧L≤8∧n<16^L∧e= .returned (.string (bs (hexL n L)))∧Below w.heap.size w w':=by
 go_enter Tryz.func112,Tryz.ntmps112
 go_wp2_with(first|(go_at_call 165;go_in)|fail)
 refine(q6f n hn _ h).mono ?_
 rintro e w1 ⟨L,h1,h2,h3,rfl,hb⟩
 go_wp2
 go_ret
 exact⟨L,h1,h2,h3,rfl,hb⟩
end Go.Proofs.YtdmlghfggninbaaGreatDoor
namespace Go.Proofs.YtdmlghfggninbaaGreatDoor
open Go.RowKit Go.Lib Go.Shelf
attribute [local go_sem] Oper.semAt_some
theorem q6h:(Tryz.prog.info? 9).map (fun i=>(i.zero,i.size,i.bytes))=some (some (.string ByteArray.empty),1,16):=by kernel_rfl
abbrev VI(n:Nat):Value:= .int .i64 (n:Int)
abbrev VS(l:Bytes):Value:= .string (bs l)
def q6i(s:ByteArray)(pre:List (Sp s.size)):List Value:=pre.map fun x=> .string (s.extract x.1.1 x.1.2)
theorem q6j(s:ByteArray)(pre:List (Sp s.size))(x:Sp s.size):q6i s (pre++ [x])=q6i s pre++ [.string (s.extract x.1.1 x.1.2)]:=by simp[q6i]
theorem q6k(n:Nat)(hn:1≤n)(s:ByteArray)(hs:s.size≤2^40)(w:World) :
  CallsIn Fence.wide n Tryz.prog 86 #[.string s] w fun e W'=>∃v,e= .returned v∧W'.ownsRow w.heap.size 9 1 v (pieces s.data.toList).length ((pieces s.data.toList).map VS)∧Below w.heap.size w W':=by
 obtain⟨i0,hi,hz0,hz1,hz2⟩:=info_parts q6h
 refine callsIn_of_wp_marks Tryz.func86 rfl trivial ?_ rfl
 simp only[Tryz.ntmps86,List.size_toArray,List.length_cons,List.length_nil,Nat.reduceAdd,Nat.reduceSub,Array.replicate_succ,Array.replicate_zero,List.push_toArray,List.append_toArray,List.nil_append,List.cons_append]
 gi_wp2_with (refine⟨trivial,?_⟩;gi_at_call 155;refine(q5i _ _ _).mono ?_;rintro e w' ⟨rfl,rfl⟩)
 have hN:(q0y 0 (pieces s.data.toList)).length≤2^40:=by
  rw[q1a];have:=B2 s.data.toList;rw[←Z4]at this;omega
 generalize hZ:q0y 0 (pieces s.data.toList)=Z at *
 have bS:=Boxed.new w 9 (.string s)
 have bO:=Boxed.new (w.alloc (.cells #[.string s] 9)) 60 (.slice none 0 0)
 rw[World.size_alloc]at bO
 have bN:=Boxed.new ((w.alloc (.cells #[.string s] 9)).alloc (.cells #[.slice none 0 0] 60)) 9 (.string s)
 rw[World.size_alloc,World.size_alloc]at bN
 have hB0:Below w.heap.size w (((w.alloc (.cells #[.string s] 9)).alloc (.cells #[.slice none 0 0] 60)).alloc (.cells #[.string s] 9)):=
  (((zb _ w).alloc (zl _) _).alloc (by simp) _).alloc (by simp;omega) _
 have hst:=q5j (n-1) (w.heap.size+1+1) w.heap.size s hs _ (by simp) bN.cell
 rw[hZ]at hst
 refine wpIn_rangeFunc_ownG q3z hn (gf:=200) (lb:= #[.pointer (some ⟨w.heap.size+1+1,0,none⟩)]) rfl trivial (enters_of Tryz.func200 (by kernel_rfl) rfl)
  hst belowK_t (belowK_b (by simp;omega)) (zb _ _) (fun _=>rfl)
  (fun(pre:List (Sp s.size)) W=>((∃v,Boxed W (w.heap.size+1) 60 v∧W.ownsRow (w.heap.size+1) 9 1 v pre.length (q6i s pre)∧True)∧Below w.heap.size w W)∧Boxed W w.heap.size 9 (.string s))
  (fun _ _ _=>False)
  (OwnFrom.and (OwnFrom.and (Own.from (holdsRow_own (w.heap.size+1) (w.heap.size+1) 60 9 1 (fun pre:List (Sp s.size)=>pre.length) (q6i s) (fun(_:List (Sp s.size)) _=>True)) _) (ownFrom_below (zl _) (by simp;omega))) (Own.from (boxed_own (β:=List (Sp s.size)) w.heap.size 9 (fun _=> .string s)) _))
  (fun _ _ _ _ _ hs _ _=>hs)
  ⟨⟨⟨_,bO.alloc _,World.ownsRow_nil _ _ _ _,trivial⟩,hB0⟩,(bS.alloc _).alloc _⟩
  (fun x=> {tmps:= #[.string s,.pointer (some ⟨w.heap.size,0,none⟩),.slice none 0 0,.pointer (some ⟨w.heap.size+1,0,none⟩),VI x.1.1,VI x.1.2,.string s,.func (.func 200) #[] #[.pointer (some ⟨w.heap.size+1+1,0,none⟩)],VI x.1.1,VI x.1.2,undef,undef,undef,undef,undef,undef,undef,undef],defers:= []}) ?assign ?body ?done ?stop
 case assign=>
  intro l x W K hK
  gi_wp2
  exact hK
 case body=>
  rintro l pre ⟨⟨f,k⟩,hx1,hx2⟩ W ⟨⟨⟨v,hv,hrow,_⟩,hB⟩,hS⟩ hlt
  have hc:=hv.cell
  have hcs:=hS.cell
  gi_wp2
  refine q4u (fun W'=>W'.cell? ⟨w.heap.size+1,0,none⟩=some v∧W'.cell? ⟨w.heap.size,0,none⟩=some (.string s)) 6 (by kernel_rfl) (by kernel_rfl) (by kernel_rfl) (fun _ _ h=>h) ?_
  refine q4r 0 rfl (by kernel_rfl) rfl ⟨hc,hcs⟩ (by rintro W' ⟨h1,h2⟩;go_simp;rfl) ?_
  have hk1:(0:Int)≤(f:Int):=by omega
  have hk2:(f:Int)≤(k:Int):=by simp at hx1;omega
  have hk3:(k:Int)≤(s.size:Int):=by simp at hx2;omega
  refine q4r 1 rfl (by kernel_rfl) rfl ⟨hc,hcs⟩ (by rintro W' ⟨h1,h2⟩;go_simp;rfl) ?_
  refine q4r 2 rfl (by kernel_rfl) rfl ⟨hc,hcs⟩ (by rintro W' ⟨h1,h2⟩;go_simp;rfl) ?_
  refine q4r 3 rfl (by kernel_rfl) rfl ⟨hc,hcs⟩ (by rintro W' ⟨h1,h2⟩;go_simp;rfl) ?_
  refine q4r 4 rfl (by kernel_rfl) rfl ⟨hc,hcs⟩ (by rintro W' ⟨h1,h2⟩;go_simp;rfl) ?_
  refine q4s 5 rfl (by kernel_rfl) (by decide) rfl (fun K hK=> ?_)
  go_simp
  refine hK _ _ ⟨(hv.alloc _).cell,(hS.alloc _).cell⟩ (kF ?_)
  clear hK K
  simp only[List.drop_succ_cons,List.drop_zero]
  have hlen:pre.length+1≤2^40:=by omega
  go_wp2_with(at_builtin;refine wpList_append_own _ rfl _ _ 60 rfl (w.heap.size+1) 9 i0 (.string ByteArray.empty) 1 16 Tryz.underlying60 hi hz0 hz1 hz2 rfl (by decide) _ _ _ rfl (hrow.alloc _).drew ⟨W.heap.size,0,none⟩ 1 1 [.string (s.extract f k)] rfl rfl (cell_one_new W _ _) (by simp[Value.oneCell']) (by unfold maxLen;omega) (by omega) (by have:=hS.lt;simp;omega) ?_;intro v' w1 hown' hgrow _;obtain⟨g',cap',rfl⟩:=ownsRow_succ hown';obtain⟨hv1,hv2,hr2,hk2,hb2⟩:=hv.appended (by decide) hrow hS.lt (zl _) hown' ⟨hgrow.os,hgrow.tape,hgrow.output,hgrow.size,hgrow.block⟩;have hc1:=hv1.cell;have hf1:=hv1.frozen)
  have hb3:=hb2.mono (Nat.le_succ _)
  exact⟨hk2.from _,hb3,⟨⟨_,hv2,by rw[q6j,List.length_append];exact hr2,trivial⟩,hB.trans hb3⟩,(hb2.block _ (Nat.lt_succ_self _)).trans hS⟩
 case done=>
  rintro D ys W hD hys ⟨⟨⟨v,hv,hrow,_⟩,hB⟩,hS⟩ hK
  have hc:=hv.cell
  gi_wp2
  refine⟨by simp,.inl ⟨_,_,rfl,run_takeDeferred hK,?_⟩⟩
  refine⟨_,results_tmp rfl _ _ _,v,rfl,?_,hB.trans (belowK_b (w:=w) (zl _) W D _ _ (by simp at hD;omega) hK rfl rfl)⟩
  have hrow':=ownsRow_putObj hrow (.deferred none) hK rfl
  have hp:pieces s.data.toList=ys.map (fun x=>(s.data.toList.take x.1.2).drop x.1.1):=by
   rw[←q1h,hZ,←hys,List.map_map];rfl
  rw[hp,List.length_map,List.map_map]
  have he:(VS∘fun x:Sp s.size=>(s.data.toList.take x.1.2).drop x.1.1)=fun x=>Value.string (s.extract x.1.1 x.1.2):=by
   funext x;simp only[Function.comp,VS,q0v]
  rw[he]
  exact hrow'.mono (Nat.le_succ _)
 case stop=>
  rintro D c pre W _ _ h _
  exact h.elim
theorem q6l(s:ByteArray)(hs:s.size≤2^40)(w:World) :
  Calls Tryz.prog 86 #[.string s] w fun e W'=>∃v,e= .returned v∧W'.ownsRow w.heap.size 9 1 v (pieces s.data.toList).length ((pieces s.data.toList).map VS)∧Below w.heap.size w W':=
 callsIn_wide.1 (q6k 1 (zl _) s hs w)
end Go.Proofs.YtdmlghfggninbaaGreatDoor
namespace Go.Proofs.YtdmlghfggninbaaGreatDoor
open Go.RowKit Go.Lib
def Done(L:Bytes)(done:List Bytes)(f k:Nat):Prop:=done++pcs ((L.take k).drop f) (L.drop k)=pieces L
theorem q6m{L:Bytes}{done:List Bytes}{f k:Nat}(h:Done L done f k)(hf:f≤k)(hk:k<L.length)(he:W8 ((L.take (k+1)).drop f)=true∨k+1=L.length) :
  Done L (done++ [(L.take (k+1)).drop f]) (k+1) (k+1):=by
 unfold Done at h ⊢
 rw[←h,List.drop_eq_getElem_cons hk,q0z,←q1k L f k hf hk,List.append_assoc,q1m]
 by_cases hb:W8 ((L.take (k+1)).drop f)=true
 ·rw[if_pos hb];rfl
 ·have hl:=he.resolve_left hb
  have hd:L.drop (k+1)= []:=List.drop_eq_nil_of_le (by omega)
  rw[if_neg hb,if_pos hd,hd];rfl
theorem q6n{L:Bytes}{done:List Bytes}{f k:Nat}(h:Done L done f k)(hf:f≤k)(hk:k+1<L.length)(he:W8 ((L.take (k+1)).drop f)=false) :
  Done L done f (k+1):=by
 have hk':k<L.length:=by omega
 unfold Done at h ⊢
 rw[←h,List.drop_eq_getElem_cons hk',q0z,←q1k L f k hf hk',if_neg (by rw[he];simp),if_neg (by intro h0;have:=congrArg List.length h0;simp at this;omega)]
theorem q6o{L:Bytes}{done:List Bytes}{f:Nat}(h:Done L done f L.length):done=pieces L:=by
 unfold Done at h
 rw[←h,List.drop_eq_nil_of_le (zl _)];simp[pcs]
theorem q6p{L:Bytes}{done:List Bytes}{f k:Nat}(h:Done L done f k):done.length≤L.length:=by
 have:=B2 L
 unfold Done at h
 rw[←h,List.length_append]at this
 omega
theorem q6q(L:Bytes)(f k:Nat)(hk:k<L.length)(hn:16≤k+1-f):sum8 ((L.take (k+1)).drop f)=(((L.drop (k-7)).take 8).map (·.toNat)).sum:=by
 unfold sum8
 rw[q1l L f (k+1) (by omega),List.drop_drop,show f+(k+1-f-8)=k-7 from by omega,List.drop_take,show k+1-(k-7)=8 from by omega]
def q6r(L:Bytes)(k j:Nat):Nat:=(((L.drop (k-7)).take j).map (·.toNat)).sum
theorem q6s(L:Bytes)(k:Nat):q6r L k 0=0:=by simp[q6r]
theorem q6t(s:ByteArray)(k j:Nat)(h:k-7+j<s.size):q6r s.data.toList k (j+1)=q6r s.data.toList k j+s[k-7+j].toNat:=by
 unfold q6r
 have hl:j<(s.data.toList.drop (k-7)).length:=by rw[List.length_drop,←Z4];omega
 rw[List.take_succ_eq_append_getElem hl,List.map_append,List.sum_append]
 simp only[List.map_cons,List.map_nil,List.sum_cons,List.sum_nil,Nat.add_zero,List.getElem_drop]
 rfl
theorem q6u(s:ByteArray)(k m:Nat)(h1:k-7≤m)(hm:m<s.size):q6r s.data.toList k (m+1-(k-7))=q6r s.data.toList k (m-(k-7))+s[m].toNat:=by
 have h:=q6t s k (m-(k-7)) (by omega)
 rw[show m+1-(k-7)=m-(k-7)+1 from by omega,h]
 simp only[show k-7+(m-(k-7))=m from by omega]
theorem q6v(L:Bytes)(k j:Nat)(hj:j≤8):q6r L k j≤2040:=by
 have key:∀l:Bytes,(l.map (·.toNat)).sum≤255*l.length:=by
  intro l
  induction l with
  | nil=>simp
  | cons b l ih=>have:=b.toNat_lt;simp only[List.map_cons,List.sum_cons,List.length_cons];omega
 have h1:=key ((L.drop (k-7)).take j)
 have h2:((L.drop (k-7)).take j).length≤j:=List.length_take_le _ _
 unfold q6r
 omega
theorem q6w{w1:World}{base f k:Nat}{s:ByteArray}{v':Value}{done:List Bytes}(h:w1.ownsRow base 9 1 v' (done.length+1) (done.map VS++ [.string (s.extract f (k+1))])) :
  w1.ownsRow base 9 1 v' (done++ [(s.data.toList.take (k+1)).drop f]).length ((done++ [(s.data.toList.take (k+1)).drop f]).map VS):=by
 rw[List.length_append,List.map_append,List.map_cons,List.map_nil,VS,←q0v];exact h
theorem q6x(s:ByteArray)(hs:s.size≤2^40)(w:World) :
  Calls Tryz.prog 91 #[.string s] w fun e W'=>∃v,e= .returned v∧W'.ownsRow w.heap.size 9 1 v (pieces s.data.toList).length ((pieces s.data.toList).map VS)∧Below w.heap.size w W':=by
 obtain⟨i0,hi,hz0,hz1,hz2⟩:=info_parts q6h
 have HZ:=zh (Z4 s)
 go_enter Tryz.func91,Tryz.ntmps91
 go_wp2
 go_loopw [3,4,5] (fun vo vf vi wr=>∃(f k:Nat) (done:List Bytes),vf= .int .i64 f∧vi= .int .i64 k∧f≤k∧k≤s.size∧k-f<64∧Hid (Done s.data.toList done f k)∧wr.ownsRow w.heap.size 9 1 vo done.length (done.map VS)∧Below w.heap.size w wr)
  (fun _ _ vi _=>s.size-(RowKit.intOf vi).toNat)
 case atStart=>exact⟨0,0,[],rfl,rfl,zl _,Nat.zero_le _,by omega,rfl,World.ownsRow_nil _ _ _ _,zb _ _⟩
 case round=>
  obtain⟨f,k,done,rfl,rfl,hfk,hk,h64,hd,hrow,hB⟩:=hrel
  by_cases hlt:k<s.size
  ·by_cases hn:k+1-f<16
   ·have hb:W8 ((s.data.toList.take (k+1)).drop f)=false:=by
     unfold W8;rw[q1l _ _ _ (by rw[←HZ.out];omega),if_neg (by omega),if_pos hn]
    have HB:=zh hb
    clear hb
    have hlen:=q6p hd.out
    rw[←HZ.out]at hlen
    by_cases hl:k+1=s.size
    ·have HD:=zh (q6m hd.out hfk (by rw[←HZ.out];exact hlt) (.inr (by rw[←HZ.out];exact hl)))
     have HL:=zh hl
     have hl1:(k:Int)=(s.size:Int)-1:=by omega
     have HL1:=zh (beq_iff_eq.2 hl1)
     have hl2:((k:Int)==(s.size:Int)-1)=true:=HL1.out
     clear hl hl1 HL1
     go_wp2
     refine wp_loop_rounds 1 ?_
     rw[rounds_succ]
     go_wp2_with(at_builtin;refine wpList_append_own _ rfl _ _ 60 rfl w.heap.size 9 i0 (.string ByteArray.empty) 1 16 Tryz.underlying60 hi hz0 hz1 hz2 rfl (by decide) _ _ _ rfl (hrow.alloc _) ⟨wr.heap.size,0,none⟩ 1 1 [.string (s.extract f (k+1))] rfl rfl (cell_one_new _ _ _) (by simp[Value.oneCell']) (by unfold maxLen;omega) (by omega) (by have:=hB.size;simp;omega) ?_;intro v' w1 hown' hgrow _)
     go_roundw
     case rel=>exact⟨k+1,k+1,_,by go_num,by go_num,zl _,by omega,by omega,HD,q6w hown',X5 hB hB.size hrow hgrow⟩
     case measure=>simp[RowKit.intOf];omega
    ·have HD:=zh (q6n hd.out hfk (by rw[←HZ.out];omega) HB.out)
     have hl2:((k:Int)==(s.size:Int)-1)=false:=by rw[beq_eq_false_iff_ne];omega
     go_wp2
     refine wp_loop_rounds 1 ?_
     rw[rounds_succ]
     go_wp2
     go_roundw
     case rel=>exact⟨f,k+1,done,rfl,by go_num,by omega,by omega,by omega,HD,hrow,hB⟩
     case measure=>simp[RowKit.intOf];omega
   ·have hlen:=q6p hd.out
    rw[←HZ.out]at hlen
    go_wp2
    have hS8:=q6q s.data.toList f k (by rw[←HZ.out];exact hlt) (by omega)
    obtain⟨wo,rfl⟩:∃wo:World,wo=wr:=⟨_,rfl⟩
    go_loopw [7,8] (fun vs vk wx=>∃m:Nat,k-7≤m∧m≤k+1∧vs= .int .i64 (q6r s.data.toList k (m-(k-7)))∧vk= .int .i64 m∧wx=wo) (fun _ vk _=>(k+1-(RowKit.intOf vk)).toNat)
    case atStart=>exact⟨k-7,zl _,by omega,by rw[Nat.sub_self,q6s];rfl,by congr 1;omega,rfl⟩
    case round=>
     obtain⟨m,hm1,hm2,rfl,rfl,rfl⟩:=hrel
     have hp8:=q6v s.data.toList k (m-(k-7)) (by omega)
     by_cases hm:m≤k
     ·have HP:=zh (q6u s k m hm1 (by omega))
      have hb:=(s[m]'(by omega)).toNat_lt
      go_wp2
      go_roundw
      case rel=>exact⟨m+1,by omega,by omega,by rw[HP.out,Int.natCast_add],by go_num,trivial⟩
      case measure=>simp[RowKit.intOf];omega
     ·obtain rfl:m=k+1:=by omega
      have hE:W8 ((s.data.toList.take (k+1)).drop f)=if 64≤k+1-f then true else q6r s.data.toList k (k+1-(k-7))%16==15:=by
       unfold W8
       rw[q1l _ _ _ (by rw[←HZ.out];omega),hS8,show k+1-(k-7)=8 from by omega]
       by_cases h:64≤k+1-f
       ·rw[if_pos h,if_pos h]
       ·rw[if_neg h,if_neg h,if_neg hn];rfl
      clear hS8
      generalize q6r s.data.toList k (k+1-(k-7))=S at *
      have HE:=zh hE
      clear hE
      by_cases h64':k+1-f=64
      ·have HD:=zh (q6m hd.out hfk (by rw[←HZ.out];exact hlt) (.inl (by rw[HE.out,if_pos (by omega)])))
       have q1:((k:Int)+1-f==64)=true:=by rw[beq_iff_eq];omega
       have H6:=zh h64'
       clear h64'
       go_wp2_with(at_builtin;refine wpList_append_own _ rfl _ _ 60 rfl w.heap.size 9 i0 (.string ByteArray.empty) 1 16 Tryz.underlying60 hi hz0 hz1 hz2 rfl (by decide) _ _ _ rfl (hrow.alloc _) ⟨wr.heap.size,0,none⟩ 1 1 [.string (s.extract f (k+1))] rfl rfl (cell_one_new _ _ _) (by simp[Value.oneCell']) (by unfold maxLen;omega) (by omega) (by have:=hB.size;simp;omega) ?_;intro v' w1 hown' hgrow _)
       go_roundw
       case rel=>exact⟨k+1,k+1,_,by go_num,by go_num,zl _,by omega,by omega,HD,q6w hown',X5 hB hB.size hrow hgrow⟩
       case measure=>simp[RowKit.intOf];omega
      ·have q1:((k:Int)+1-f==64)=false:=by rw[beq_eq_false_iff_ne];omega
       by_cases h15:S%16=15
       ·have HD:=zh (q6m hd.out hfk (by rw[←HZ.out];exact hlt) (.inl (by rw[HE.out,if_neg (by omega),h15];rfl)))
        have q2:((S:Int)%16==15)=true:=by rw[beq_iff_eq];omega
        have H5:=zh h15
        clear h15
        go_wp2_with(at_builtin;refine wpList_append_own _ rfl _ _ 60 rfl w.heap.size 9 i0 (.string ByteArray.empty) 1 16 Tryz.underlying60 hi hz0 hz1 hz2 rfl (by decide) _ _ _ rfl (hrow.alloc _) ⟨wr.heap.size,0,none⟩ 1 1 [.string (s.extract f (k+1))] rfl rfl (cell_one_new _ _ _) (by simp[Value.oneCell']) (by unfold maxLen;omega) (by omega) (by have:=hB.size;simp;omega) ?_;intro v' w1 hown' hgrow _)
        go_roundw
        case rel=>exact⟨k+1,k+1,_,by go_num,by go_num,zl _,by omega,by omega,HD,q6w hown',X5 hB hB.size hrow hgrow⟩
        case measure=>simp[RowKit.intOf];omega
       ·have q2:((S:Int)%16==15)=false:=by rw[beq_eq_false_iff_ne];omega
        by_cases hl:k+1=s.size
        ·have HD:=zh (q6m hd.out hfk (by rw[←HZ.out];exact hlt) (.inr (by rw[←HZ.out];exact hl)))
         have HL:=zh hl
         have hl2:((k:Int)==(s.size:Int)-1)=true:=by rw[beq_iff_eq];omega
         clear hl
         go_wp2_with(at_builtin;refine wpList_append_own _ rfl _ _ 60 rfl w.heap.size 9 i0 (.string ByteArray.empty) 1 16 Tryz.underlying60 hi hz0 hz1 hz2 rfl (by decide) _ _ _ rfl (hrow.alloc _) ⟨wr.heap.size,0,none⟩ 1 1 [.string (s.extract f (k+1))] rfl rfl (cell_one_new _ _ _) (by simp[Value.oneCell']) (by unfold maxLen;omega) (by omega) (by have:=hB.size;simp;omega) ?_;intro v' w1 hown' hgrow _)
         go_roundw
         case rel=>exact⟨k+1,k+1,_,by go_num,by go_num,zl _,by omega,by omega,HD,q6w hown',X5 hB hB.size hrow hgrow⟩
         case measure=>simp[RowKit.intOf];omega
        ·have HD:=zh (q6n hd.out hfk (by rw[←HZ.out];omega) (by rw[HE.out,if_neg (by omega)];simp[h15]))
         have hl2:((k:Int)==(s.size:Int)-1)=false:=by rw[beq_eq_false_iff_ne];omega
         go_wp2
         go_roundw
         case rel=>exact⟨f,k+1,done,rfl,by go_num,by omega,by omega,by omega,HD,hrow,hB⟩
         case measure=>simp[RowKit.intOf];omega
  ·obtain rfl:k=s.size:=by omega
   have hf:=q6o (by rw[←HZ.out];exact hd.out)
   have HF:=zh hf
   clear hf
   go_wp2
   go_ret
   exact⟨_,rfl,by rw[←HF.out];exact hrow,hB⟩
end Go.Proofs.YtdmlghfggninbaaGreatDoor
