/- NdQ, NlA, NdD, NdR, NdX, ScB, ScC in one text. Conditions: as each part says. -/
import Derived.Test.YtdmlghfggninbaaGreatDoorNdC
import Derived.Test.YtdmlghfggninbaaGreatDoorMb32
import Derived.Test.YtdmlghfggninbaaGreatDoorMb8
import Derived.Test.YtdmlghfggninbaaGreatDoorMb11
import Derived.Test.YtdmlghfggninbaaGreatDoorMb14
import Derived.Test.YtdmlghfggninbaaGreatDoorMb17
set_option linter.unusedVariables false
set_option linter.unusedSimpArgs false
set_option maxHeartbeats 8000000
set_option maxRecDepth 100000
namespace Go.Proofs.YtdmlghfggninbaaGreatDoor
open Go.RowKit Go.Lib Go.Maps Go.WideMaps
def NodeTo(n:Nat)(f:Foot)(P':PNode)(w w':World):Prop:=∃f',Node n P' f' w'∧FrS f.S w w'∧f.new f' w.heap.size
theorem NodeTo.below{n:Nat}{f:Foot}{P':PNode}{w w' w2:World}(h:NodeTo n f P' w w')(hb:Below w'.heap.size w' w2):NodeTo n f P' w w2:=by
 obtain⟨f',h1,h2,h3⟩:=h
 exact⟨f',h1.below hb,h2.thenB hb,h3⟩
theorem NodeTo.stay{n:Nat}{f:Foot}{P:PNode}{w w':World}(h:Node n P f w)(hb:Below w.heap.size w w'):NodeTo n f P w w':=⟨f,h.below hb,FrS.of_below hb,Foot.new_refl _ _⟩
theorem Node.below{n:Nat}{f:Foot}{P:PNode}{w w':World}(h:Node n P f w)(hb:Below w.heap.size w w'):Node n P f w':=Thing.below h hb
theorem Node.putC(a:Nat→Addr){n:Nat}{P:PNode}{f:Foot}(hP:NodeOk P)(nm s:Bytes)(hn:X6 nm)(w:World)(h:Node n P f w)(hs:SomeS [1,3,5,6,9] a w) :
  Calls Tryz.prog 30 #[.pointer (some ⟨n,0,none⟩),.string (bs nm),.string (bs s)] w fun e w'=>∃r,e= .returned (.tuple #[.int .i64 (putN nm s P).2.1,r])∧EV a r (putN nm s P).2.2 (-1) w'∧NodeTo n f (putN nm s P).1 w w':=by
 obtain⟨fm,bm,F,B,ho,rfl,rfl⟩:=h.at
 exact(j7u a n fm bm F B hP nm s hn w ho hs).mono fun e w' ⟨r,f',h1,h2,h3,h4,h5⟩=>⟨r,h1,h2.ev w',f',h3,h4,h5⟩
theorem Node.putS(a:Nat→Addr){n:Nat}{P:PNode}{f:Foot}(hP:NodeOk P)(nm s:Bytes)(hn:X6 nm)(w:World)(h:Node n P f w)(hs:SomeS [1,3,5,6,9] a w) :
  Calls Tryz.prog 30 #[.pointer (some ⟨n,0,none⟩),.string (bs nm),.string (bs s)] w fun e w'=>∃r,e= .returned (.tuple #[.int .i64 (putN nm s P).2.1,r])∧ES a r (putN nm s P).2.2∧NodeTo n f (putN nm s P).1 w w':=by
 obtain⟨fm,bm,F,B,ho,rfl,rfl⟩:=h.at
 exact(j7u a n fm bm F B hP nm s hn w ho hs).mono fun e w' ⟨r,f',h1,h2,h3,h4,h5⟩=>⟨r,h1,h2,f',h3,h4,h5⟩
theorem Node.getC(a:Nat→Addr){n:Nat}{P:PNode}{f:Foot}(hP:NodeOk P)(nm:Bytes)(hn:X6 nm)(w:World)(h:Node n P f w)(hs:SomeS [1,2,3,4,6,8] a w) :
  Calls Tryz.prog 29 #[.pointer (some ⟨n,0,none⟩),.string (bs nm)] w (j5c a (getN nm P) w):=by
 obtain⟨fm,bm,F,B,ho,rfl,rfl⟩:=h.at
 exact j5e a n fm bm F B hP nm hn w ho hs
theorem Node.recipeC(a:Nat→Addr){n:Nat}{P:PNode}{f:Foot}(hP:NodeOk P)(nm:Bytes)(hn:X6 nm)(w:World)(h:Node n P f w)(hs:SomeS [4] a w) :
  Calls Tryz.prog 10 #[.pointer (some ⟨n,0,none⟩),.string (bs nm)] w fun e w'=>∃v r,e= .returned (.tuple #[v,r])∧EV a r (recN nm P).1 (-1) w'∧RcpW w' w.heap.size w'.heap.size v (recN nm P).2∧Below w.heap.size w w':=by
 obtain⟨fm,bm,F,B,ho,rfl,rfl⟩:=h.at
 exact j5a a n fm bm F B hP.w nm hn w ho hs
theorem Node.binC{n:Nat}{P:PNode}{f:Foot}(hP:NodeOk P)(x:Idn)(hx:IdOk x)(w:World)(h:Node n P f w) :
  Calls Tryz.prog 14 #[.pointer (some ⟨n,0,none⟩),idV x] w (j3b P x w):=by
 obtain⟨fm,bm,F,B,ho,rfl,rfl⟩:=h.at
 exact j3c n fm bm F B hP.w x hx w ho
theorem Node.sizeC{n:Nat}{P:PNode}{f:Foot}(hP:NodeOk P)(w:World)(h:Node n P f w) :
  Calls Tryz.prog 31 #[.pointer (some ⟨n,0,none⟩)] w fun e w'=>e= .returned (.int .i64 (D5 P))∧Below w.heap.size w w':=by
 obtain⟨fm,bm,F,B,ho,rfl,rfl⟩:=h.at
 exact j3i n fm bm F B hP w ho
end Go.Proofs.YtdmlghfggninbaaGreatDoor
namespace Go.Proofs.YtdmlghfggninbaaGreatDoor
open Go.RowKit Go.Lib
def j7v(x:ActN):Bool:=decide (20<x.kind.length)||decide (30<x.nm.length)||(decide (600<x.s.length)&&decide (x.s.length≠4001))
def j7w(l:List ActN)(most:Nat):Int:=if(decide (most<l.length)||l.any j7v)=true then 1 else 0
theorem j7x{l:List ActN}{k:Nat}(hk:k<l.length)(h:(l.take k).any j7v=false)(hx:j7v l[k]=false):(l.take (k+1)).any j7v=false:=by
 rw[List.take_succ_eq_append_getElem hk,List.any_append,h,List.any_cons,hx];rfl
theorem j7y{l:List ActN}{k most:Nat}(hk:k<l.length)(hx:j7v l[k]=true):j7w l most=1:=by
 unfold j7w
 rw[if_pos]
 rw[Bool.or_eq_true]
 exact .inr (List.any_eq_true.2 ⟨_,List.getElem_mem hk,hx⟩)
theorem j7z{l:List ActN}{most:Nat}(h:j7w l most=0):l.length≤most∧∀x∈l,x.kind.length≤20∧x.nm.length≤30∧(x.s.length≤600∨x.s.length=4001):=by
 unfold j7w at h
 by_cases h1:(decide (most<l.length)||l.any j7v)=true
 ·rw[if_pos h1]at h;cases h
 ·rw[Bool.not_eq_true,Bool.or_eq_false_iff,decide_eq_false_iff_not]at h1
  refine⟨by omega,fun x hx=> ?_⟩
  have:=List.any_eq_false.1 h1.2 x hx
  unfold j7v at this
  simp at this
  omega
theorem j8a(l:List ActN)(most:Nat):j7w l most=0∨j7w l most=1:=by unfold j7w;split<;>simp
theorem j8b(v:Value)(l:List ActN)(hl:l.length≤maxLen)(hz:∀x∈l,x.kind.length≤maxLen∧x.nm.length≤maxLen∧x.s.length≤maxLen)(most:Nat)(hm:most≤1000)(B:Nat)(w:World)(hv:ActNRd w B v l) :
  Calls Tryz.prog 7 #[v,.int .i64 most] w fun e w'=>e= .returned (.int .i64 (j7w l most))∧w=w':=by
 obtain⟨A,c,rfl,hlc,hx⟩:=hv
 have HX:=zh hx
 have HZ:=zh hz
 clear hx hz
 unfold maxLen at hl
 by_cases h80:most<l.length
 ·have h80i:(l.length:Int)>(most:Int):=by omega
  have HP:Hid (j7w l most=1):=zh (by unfold j7w;rw[decide_eq_true h80];rfl)
  go_enter Tryz.func7,Tryz.ntmps7
  go_wp2
  go_ret
  exact⟨by rw[HP.out];rfl,rfl⟩
 ·have h80i:¬(l.length:Int)>(most:Int):=by omega
  go_enter Tryz.func7,Tryz.ntmps7
  go_wp2
  go_loopg [5] l.length (fun gh vi wr=>∃k:Nat,vi= .int .i64 k∧k≤l.length∧gh=l.length-k∧Hid ((l.take k).any j7v=false)∧w=wr)
  case atStart=>exact⟨0,rfl,Nat.zero_le _,rfl,zh rfl,rfl⟩
  case round=>
   obtain⟨k,rfl,hk,hgm,hno,rfl⟩:=hrel
   by_cases hkl:k<l.length
   ·obtain⟨g,o,rfl,hg,hcells⟩:=HX.out (by omega)
    obtain⟨d0,d1,d2⟩:=hcells k hkl
    have b1:(0:Int)≤(k:Int):=by omega
    have b2:(k:Int)<(l.length:Int):=by omega
    have hsz:=HZ.out l[k] (List.getElem_mem hkl)
    unfold maxLen at hsz
    have Z0:Hid ((bs l[k].kind).size=l[k].kind.length):=zh (Q8 _)
    have Z1:Hid ((bs l[k].nm).size=l[k].nm.length):=zh (Q8 _)
    have Z2:Hid ((bs l[k].s).size=l[k].s.length):=zh (Q8 _)
    have HHIT:Hid (j7v l[k]=true→j7w l most=1):=zh (fun h=>j7y hkl h)
    have HNXT:Hid (j7v l[k]=false→(l.take (k+1)).any j7v=false):=zh (fun h=>j7x hkl hno.out h)
    clear hcells
    by_cases h1:20<l[k].kind.length
    ·have h1i:((bs l[k].kind).size:Int)>20:=by rw[Z0.out];omega
     have HP:=zh (HHIT.out (by unfold j7v;rw[decide_eq_true h1];rfl))
     clear h1
     go_wp2
     go_ret
     exact⟨by rw[HP.out];rfl,rfl⟩
    ·have h1i:¬((bs l[k].kind).size:Int)>20:=by rw[Z0.out];omega
     by_cases h2:30<l[k].nm.length
     ·have h2i:((bs l[k].nm).size:Int)>30:=by rw[Z1.out];omega
      have HP:=zh (HHIT.out (by unfold j7v;rw[decide_eq_true h2,Bool.or_true];rfl))
      clear h1 h2
      go_wp2
      go_ret
      exact⟨by rw[HP.out];rfl,rfl⟩
     ·have h2i:¬((bs l[k].nm).size:Int)>30:=by rw[Z1.out];omega
      by_cases h3:600<l[k].s.length
      ·have h3i:((bs l[k].s).size:Int)>600:=by rw[Z2.out];omega
       by_cases h4:l[k].s.length=4001
       ·have h4i:(((bs l[k].s).size:Int) !=4001)=false:=by rw[Z2.out,bne_eq_false_iff_eq];omega
        have HN:=zh (HNXT.out (by unfold j7v;simp[h1,h2,h4]))
        clear h1 h2 h3 h4
        go_wp2
        go_roundg (l.length-(k+1))
        case measure=>omega
        case rel=>exact⟨k+1,by go_num,hkl,rfl,HN,rfl⟩
       ·have h4i:(((bs l[k].s).size:Int) !=4001)=true:=by rw[Z2.out,bne_iff_ne];omega
        have HP:=zh (HHIT.out (by unfold j7v;simp[h3,h4]))
        clear h1 h2 h3 h4
        go_wp2
        go_ret
        exact⟨by rw[HP.out];rfl,rfl⟩
      ·have h3i:¬((bs l[k].s).size:Int)>600:=by rw[Z2.out];omega
       have HN:=zh (HNXT.out (by unfold j7v;simp[h1,h2,h3]))
       clear h1 h2 h3
       go_wp2
       go_roundg (l.length-(k+1))
       case measure=>omega
       case rel=>exact⟨k+1,by go_num,hkl,rfl,HN,rfl⟩
   ·obtain rfl:k=l.length:=by omega
    have HP:Hid (j7w l most=0):=zh (by
     have h:=hno.out
     rw[List.take_length]at h
     unfold j7w;rw[decide_eq_false h80,h];rfl)
    clear hno
    go_wp2
    go_ret
    exact⟨by rw[HP.out];rfl,rfl⟩
structure NIn(base n:Nat)(P:PNode)(f:Foot)(w0 w:World):Prop where
 node:Node n P f w
 ge:∀k,f.S k→base≤k
 bel:Below base w0 w
 sz:base≤w.heap.size
theorem NIn.below{base n:Nat}{P:PNode}{f:Foot}{w0 w w':World}(h:NIn base n P f w0 w)(hb:Below w.heap.size w w'):NIn base n P f w0 w':=⟨h.node.below hb,h.ge,h.bel.trans (hb.mono h.sz),Nat.le_trans h.sz hb.size⟩
theorem NIn.to{base n:Nat}{P P':PNode}{f:Foot}{w0 w w':World}(h:NIn base n P f w0 w)(ht:NodeTo n f P' w w'):∃f',NIn base n P' f' w0 w':=by
 obtain⟨f',h1,h2,h3⟩:=ht
 exact⟨f',h1,fun k hk=>((h3 k).1 hk).elim (h.ge k) (fun hB=>Nat.le_trans h.sz hB),h2.below h.bel h.sz h.ge,Nat.le_trans h.sz h2.size⟩
def hlo:Bytes:= [104,101,108,108,111]
def hl1:HldL:= [⟨idOf hlo,1,hlo⟩]
def hl2:HldL:= [⟨idOf hlo,2,hlo⟩]
theorem j8c:pieces hlo= [hlo]:=by decide
theorem j8d:V8 hlo= [idOf hlo]:=by unfold V8;rw[j8c];rfl
theorem j8e:getB hl1 (idOf hlo)=some ⟨idOf hlo,1,hlo⟩:=by unfold getB hl1;rw[List.find?_cons];simp
theorem j8f:putB hlo []=(hl1,idOf hlo,true,0):=by
 unfold putB
 rw[if_neg (by decide)];rfl
def nd1:PNode:=⟨[([97],Q7 [97] hlo)],[(idOf hlo,hl1)]⟩
theorem j8g:Z8 (V8 hlo)=idOf hlo:=by rw[j8d];rfl
theorem j8h:putN [97] hlo ⟨[],[]⟩=(nd1,5,0):=by
 have hp:K4 (pieces hlo) (binN ⟨[],[]⟩ (Z8 (V8 hlo))) 0=(hl1,5,0):=by
  rw[j8c,show binN ⟨[],[]⟩ (Z8 (V8 hlo))= []from rfl,j7o j8f];rfl
 rw[j7n (by decide) (by decide) (by decide) (by decide) hp,if_pos rfl,j8g];rfl
theorem NIn.new{base n:Nat}{f:Foot}{w0 w:World}(hn:Node n ⟨[],[]⟩ f w)(hg:f.ge base)(hb:Below base w0 w)(hz:base≤w.heap.size):NIn base n ⟨[],[]⟩ f w0 w:=⟨hn,fun k hk=>hg k (.inl hk),hb,hz⟩
end Go.Proofs.YtdmlghfggninbaaGreatDoor
namespace Go.Proofs.YtdmlghfggninbaaGreatDoor
open Go.RowKit Go.Lib Go.Maps Go.WideMaps
def j8i(a:Nat→Addr)(n fm bm:Nat)(F:FL)(B:BL)(nm:Bytes)(w:World)(e:Ending)(w':World):Prop:=
 ∃r f',e= .returned r∧ES a r (M1 nm (Q0 F B)).2∧Node n (M1 nm (Q0 F B)).1 f' w'∧FrS (J5 n fm bm F B).S w w'∧(J5 n fm bm F B).new f' w.heap.size
theorem j8j{x:Idn}{r:IdL}{L L':HldL}{c:Int}(h:G0 x L=(L',c)):U1 (x::r) L=if c=0 then U1 r L' else(L',c):=by
 rw[U1,h]
theorem j8k{F:FL}{B B':BL}{x:Idn}{L:HldL}(h:ofN (Q0 F B) x≠ []):z6r (K7 FE.r F) x L (K7 BE.L B')=Q9 Q2 x L (K7 BE.L B'):=by
 unfold z6r
 rw[if_pos]
 obtain⟨y,hy⟩:=List.exists_mem_of_ne_nil _ h
 unfold ofN Q0 at hy
 obtain⟨q,hq,_⟩:=List.mem_map.1 hy
 exact List.any_eq_true.2 ⟨q,(List.mem_filter.1 hq).1,(List.mem_filter.1 hq).2⟩
theorem j8l{F:FL}{B B':BL}{x:Idn}{L:HldL}(h:ofN (Q0 F B) x= []):z6r (K7 FE.r F) x L (K7 BE.L B')=K3 x (K7 BE.L B'):=by
 unfold z6r
 rw[if_neg]
 intro ha
 obtain⟨q,hq,hq2⟩:=List.any_eq_true.1 ha
 unfold ofN Q0 at h
 rw[List.map_eq_nil_iff]at h
 have:q∈(K7 FE.r F).filter fun q=>decide (repR q.2=x):=List.mem_filter.2 ⟨hq,hq2⟩
 rw[h]at this
 cases this
theorem j8m(a:Nat→Addr)(n fm bm:Nat)(F:FL)(B:BL)(hP:NodeOk (Q0 F B))(nm:Bytes)(hn:X6 nm)(hgf:Q1 F nm=none)(w:World)(h:ONode n fm bm F B w)(hs:SomeS [4,10] a w) :
  Calls Tryz.prog 33 #[.pointer (some ⟨n,0,none⟩),.string (bs nm)] w (j8i a n fm bm F B nm w):=by
 have LK:=fun w' (h':ONode n fm bm F B w')=>h'.files.look j2f (h.keysF hP) Tryz.underlying78 (j2g w') hn
 have c0:=h.c0
 have hd:M1 nm (Q0 F B)=(Q0 F B,5):=by unfold M1;rw[show Q1 (Q0 F B).files nm=none by show Q1 (K7 FE.r F) nm=_;rw[G9,hgf];rfl]
 rw[hgf]at LK
 simp only[Option.map_none,Option.getD_none,Option.isSome_none]at LK
 have lk:=LK w h
 have hb1:Below w.heap.size w (w.alloc (.cells #[.string ByteArray.empty,.int .i64 0,.int .u32 0,.slice none 0 0] 40)):=(zb _ w).alloc (zl _) _
 have s4:(w.alloc (.cells #[.string ByteArray.empty,.int .i64 0,.int .u32 0,.slice none 0 0] 40)).cell? ⟨0,0,none⟩=some (sval a 4):=(hs.below hb1) 4 (by simp)
 unfold sval at s4
 have HFIN:Hid (∀w',Below w.heap.size w w'→j8i a n fm bm F B nm w (.returned (sval a 4)) w'):=zh (fun w' hb=>⟨_,_,rfl,by rw[hd];exact ES.sent a 4 (by decide),by rw[hd];exact(h.below hb).node,FrS.of_below hb,Foot.new_refl _ _⟩)
 have HB1:=zh hb1
 clear LK hgf h hP hn hs hd hb1
 go_enter Tryz.func33,Tryz.ntmps33
 go_wp2
 go_ret
 exact HFIN.out _ HB1.out
theorem j8n(a:Nat→Addr)(n fm bm:Nat)(F:FL)(B:BL)(hP:NodeOk (Q0 F B))(nm:Bytes)(hn:X6 nm)(fe:FE)(hgf:Q1 F nm=some fe)(w:World)(h:ONode n fm bm F B w)(hs:SomeS [4,10] a w) :
  Calls Tryz.prog 33 #[.pointer (some ⟨n,0,none⟩),.string (bs nm)] w (j8i a n fm bm F B nm w):=by
 have LK:=fun w' (h':ONode n fm bm F B w')=>h'.files.look j2f (h.keysF hP) Tryz.underlying78 (j2g w') hn
 have c0:=h.c0
 obtain⟨hrd,hil,hgp⟩:=h.file hP hgf
 obtain⟨s,hnm,hsz,hr,L,hgL,_⟩:=hP.file nm fe.r hgp
 obtain⟨be,hgb,hbL⟩:∃be,Q1 B (repR fe.r)=some be∧be.L=L:=by
  have:Q1 (K7 BE.L B) (repR fe.r)=some L:=hgL
  rw[G9]at this
  cases hb:Q1 B (repR fe.r)with
  | none=>rw[hb]at this;cases this
  | some be=>rw[hb]at this;injection this with this;exact⟨be,rfl,this⟩
 subst hbL
 have hbin:binN (Q0 F B) (repR fe.r)=be.L:=by unfold binN;rw[hgL];rfl
 obtain⟨hda,hst⟩:=hP.drops hgp
 rw[hbin]at hda hst
 have hok7:=(hP.theBin (repR fe.r)).1
 have hl7:=(hP.theBin (repR fe.r)).2.1
 rw[hbin]at hok7 hl7
 have hdn:M1 nm (Q0 F B)=(⟨K3 nm (K7 FE.r F),z6r (K3 nm (K7 FE.r F)) (repR fe.r) (U1 fe.r.ids be.L).1 (K7 BE.L B)⟩,0):=by
  unfold M1
  rw[hgp]
  simp only
  rw[hbin];rfl
 have hxo:R5 (repR fe.r):=(hP.bin _ _ hgL).1
 have HIX:Hid (∀x∈fe.r.ids,IdOk x):=zh (fun x hx=>by
  rw[show fe.r.ids=V8 s by rw[hr];rfl]at hx
  obtain⟨p,hp,rfl⟩:=List.mem_map.1 hx
  exact(z6y (W9 s p hp)).1)
 have LKB:=fun w' (h':ONode n fm bm F B w')=>h'.bins.at idRd (h.keysB hP) Tryz.underlying79 (j2h w') hxo.1
 rw[hgb]at LKB
 simp only[Option.map_some,Option.getD_some]at LKB
 unfold beV at LKB
 rw[hgf]at LK
 simp only[Option.map_some,Option.getD_some,Option.isSome_some]at LK
 unfold feV at LK
 obtain⟨SA,sc,hsl⟩:∃A c,fe.sl= .slice A fe.r.ids.length c:=by obtain⟨A,c,h,_⟩:=hrd;exact⟨A,c,h⟩
 rw[hsl]at LK hrd
 have lk:=LK w h
 have HOB:Hid (∀w',ONode n fm bm F B w'→OBin be.b be.mb be.L w'):=zh (fun w' h'=>h'.bin (_,be) (Y4 hgb))
 have hrep:Z8 fe.r.ids=repR fe.r:=rfl
 generalize repR fe.r=X at *
 have HREP:=zh hrep
 have HLB:=zh LKB
 have HN:=zh h
 have HP:=zh hP
 have HRD:=zh hrd
 have HS:=zh hs
 have HXO:=zh hxo
 have HNM:=zh hn
 have HDN:=zh hdn
 have HDA:=zh hda
 have HOK7:Hid (BinOk 7500 be.L∧be.L.length≤250):=zh ⟨hok7,hl7⟩
 clear LK LKB hgf h hP hn hs hrd hgp hgL hr hgb hbin hda hst hok7 hl7 hdn hxo hrep hnm hsz
 have hb1:Below w.heap.size w (w.alloc (.cells #[VT fe.r.name,.int .i64 fe.r.len,.int .u32 (fe.r.print:Int),.slice SA fe.r.ids.length sc] 40)):=(zb _ w).alloc (zl _) _
 have HX1:=zh (Box4.mk' w (VT fe.r.name) (.int .i64 fe.r.len) (.int .u32 (fe.r.print:Int)) (.slice SA fe.r.ids.length sc) 40)
 have HB1:=zh hb1
 have hz1:=hb1.size
 have HRP:=zh (W0 (.agg #[VT fe.r.name,.int .i64 fe.r.len,.int .u32 (fe.r.print:Int),.slice SA fe.r.ids.length sc]) fe.r (by omega) (w.alloc (.cells #[VT fe.r.name,.int .i64 fe.r.len,.int .u32 (fe.r.print:Int),.slice SA fe.r.ids.length sc] 40)) ⟨_,rfl,(HRD.out.keep hb1 (zl _)).more hz1⟩)
 rw[HREP.out]at HRP
 obtain⟨e0,e1,e2,e3,_⟩:=HX1.out
 clear hb1
 go_enter Tryz.func33,Tryz.ntmps33
 go_wp2_with fail
 refine HRP.out.mono ?_
 rintro e w2 ⟨rfl,hb2⟩
 have HX2:=zh (HX1.out.below hb2 HX1.out.lt)
 have HB2:=zh (HB1.out.trans (hb2.mono hz1))
 have hb3:Below w2.heap.size w2 (w2.alloc (.cells #[.int .u32 (X.1:Int),.int .i64 X.2] 25)):=(zb _ _).alloc (zl _) _
 have HX3:=zh (HX2.out.below hb3 HX2.out.lt)
 have HB3:=zh (HB2.out.trans (hb3.mono HB2.out.size))
 have HY3:=zh (Box2.mk' w2 (.int .u32 (X.1:Int)) (.int .i64 X.2) 25)
 have HN3:=zh (HN.out.below HB3.out)
 have hx2:w.heap.size<w2.heap.size:=HX2.out.lt
 clear hb2 hb3 e0 e1 e2 e3 lk c0 HRP HX1 HB1 HX2 HB2
 go_wp2
 generalize w2.alloc (.cells #[.int .u32 (X.1:Int),.int .i64 X.2] 25)=w3 at *
 have hS0:Below w3.heap.size w3 w3.drew:=(zb _ _).drew
 refine kR (fun w'=>Below w3.heap.size w3 w') 7 ?_
 refine kT 0 hS0 ?_
 refine kT 1 hS0 ?_
 refine kT 2 hS0 ?_
 refine kS 3 rfl hS0 (fun w' hS=>by have A0:=(HN3.out.below hS).c1;go_simp;rfl) ?_
 refine kS 4 rfl hS0 (fun w' hS=>by have A0:=(HY3.out.below hS HY3.out.lt).c0;have A1:=(HY3.out.below hS HY3.out.lt).c1;go_simp;rfl) ?_
 refine kS 5 rfl hS0 (fun w' hS=>by have A0:=HLB.out w' (HN3.out.below hS);go_simp;rfl) ?_
 refine kC 6 (fun K hK=> ?_)
 go_simp
 refine(j1r be.b be.mb be.L _ (HOB.out _ (HN3.out.below hS0))).mono ?_
 rintro e w4 ⟨b2,mb2,rfl,ho4,hb4,hmb4,hbw4⟩
 have hS1:Below w3.heap.size w3 w4:=hS0.trans (hbw4.mono hS0.size)
 refine hK _ _ hS1 (kF ?_)
 clear hK K
 try simp only[Act.put,zM]
 try simp only[Act.put,zM]
 simp only[List.drop_succ_cons,List.drop_zero]
 have HX4:=zh (HX3.out.below hS1 HX3.out.lt)
 have HY4:=zh (HY3.out.below hS1 HY3.out.lt)
 have HB4:=zh (HB3.out.trans (hS1.mono HB3.out.size))
 have HO4:=zh ho4
 have hy3:w2.heap.size<w3.heap.size:=HY3.out.lt
 have hdz:w3.drew.heap.size=w3.heap.size:=rfl
 rw[hdz]at hb4 hmb4
 have HNE:Hid (w.heap.size≠mb2∧w2.heap.size≠mb2∧w.heap.size≤b2∧w.heap.size≤mb2):=zh ⟨by omega,by omega,by omega,by omega⟩
 have hz4:=HB4.out.size
 obtain⟨e0,e1,e2,e3,_⟩:=HX4.out
 clear hS0 hS1 hbw4 ho4 hb4 hmb4 HX3 HY3 HB3 HN3 hdz
 go_wp2
 clear e0 e1 e2 e3
 go_loopg [36] fe.r.ids.length (fun gh v36 wr=>∃(k:Nat) (Lk:HldL),v36= .int .i64 k∧k≤fe.r.ids.length∧gh=fe.r.ids.length-k∧Hid (U1 (fe.r.ids.drop k) Lk=U1 fe.r.ids be.L)∧Hid (BinOk 7500 Lk∧Lk.length≤250)∧Hid (OBin b2 mb2 Lk wr)∧Hid (w4.grownBy wr (some mb2)))
 case atStart=>exact⟨0,be.L,rfl,Nat.zero_le _,rfl,zh (by rw[List.drop_zero]),HOK7,HO4,zh ⟨rfl,rfl,rfl,zl _,fun _ _ _=>rfl⟩⟩
 case round=>
  obtain⟨k,Lk,rfl,hk,hgm,HDK,HBK,HOK,HGB⟩:=hrel
  have HBr:Hid (Below w.heap.size w wr):=zh (C4 HB4.out HB4.out.size HNE.out.2.2.2 HGB.out)
  by_cases hkl:k<fe.r.ids.length
  ·obtain⟨A',c',hvv,_,hx⟩:=HRD.out.form
   obtain⟨g,o,hA,hg,hcell⟩:=hx (by omega)
   injection hvv with hv1 _ hv3
   subst hv1
   subst hv3
   subst hA
   obtain⟨x0,x1⟩:=hcell k hkl
   have d0:=(HBr.out.cell (p:=⟨g,o+k*2,none⟩) hg).trans x0
   have d1:=(HBr.out.cell (p:=⟨g,o+k*2+1,none⟩) hg).trans x1
   have b1:(0:Int)≤(k:Int):=by omega
   have b2':(k:Int)<(fe.r.ids.length:Int):=by omega
   have hix:=HIX.out fe.r.ids[k] (List.getElem_mem hkl)
   have hda:=HDK.out
   rw[List.drop_eq_getElem_cons hkl]at hda
   have hlk:=HBK.out.2
   generalize fe.r.ids[k]=y at *
   have hb5:Below wr.heap.size wr (wr.alloc (.cells #[.int .u32 (y.1:Int),.int .i64 y.2] 25)):=(zb _ _).alloc (zl _) _
   have HDR:=zh (j0x a b2 mb2 Lk 7500 (by decide) HBK.out.1 (by omega) y hix (wr.alloc (.cells #[.int .u32 (y.1:Int),.int .i64 y.2] 25)) (HOK.out.below hb5) (HS.out.below (HBr.out.trans (hb5.mono HBr.out.size))))
   have hokd:=z3n HBK.out.1 y
   have hlnd:=length_drop HBK.out.1.srt (x:=y)
   unfold j0v at HDR
   cases hdb:G0 y Lk with|mk L' c'=>
   rw[j8j hdb]at hda
   rw[hdb]at HDR hokd hlnd
   simp only at HDR hokd hlnd
   have hc:c'=0:=by
    by_cases hc:c'=0
    ·exact hc
    ·rw[if_neg hc]at hda
     have:=HDA.out
     rw[←hda]at this
     exact absurd this hc
   subst hc
   rw[if_pos rfl]at hda
   have HDK':=zh hda
   have HBK':Hid (BinOk 7500 L'∧L'.length≤250):=zh ⟨hokd,by omega⟩
   have HB5:=zh hb5
   clear hcell hx x0 x1 hix hda hdb hokd hlnd hb5 HDK
   go_wp2_with fail
   refine HDR.out.mono ?_
   rintro e w6 ⟨r6,rfl,hes,ho6,hg6⟩
   obtain⟨rfl,_⟩:=hes.nil rfl
   have HO6:=zh ho6
   have HG6:=zh ((z8u HGB.out HB5.out).trans hg6)
   clear hes ho6 hg6 d0 d1
   go_wp2
   go_roundg (fe.r.ids.length-(k+1))
   case measure=>omega
   case rel=>exact⟨k+1,L',by go_num,hkl,rfl,HDK',HBK',HO6,HG6⟩
  ·obtain rfl:k=fe.r.ids.length:=by omega
   have hda:=HDK.out
   rw[List.drop_length]at hda
   have hL':(U1 fe.r.ids be.L).1=Lk:=by rw[←hda];rfl
   have hdn:=HDN.out
   rw[hL']at hdn
   have hnr:=HN.out.below HBr.out
   have hsF:=ONode.srtF HP.out
   have hsB:=ONode.srtB HP.out
   have hkF:=hnr.keysF HP.out
   have hkB:=hnr.keysB HP.out
   have hfl:F.length≤30:=by simpa[Q0,W5]using HP.out.flen
   have c0:=hnr.c0
   obtain⟨y0r,y1r,_,_⟩:=z8y HGB.out HNE.out.2.1 HY4.out
   obtain⟨wa,h1,h2,h3,h4⟩:=AlMap.drop j2f hnr.files hkF Tryz.underlying78 nm HNM.out 0
   have hA:ONode n fm bm (K3 nm F) B wa:=hnr.setF h4 h3 h2 (fun q hq=> .inl (j3n hq))
   have hfmw:fm<w.heap.size:=HN.out.files.blt
   have hbmw:bm<w.heap.size:=HN.out.bins.blt
   have hobA:OBin b2 mb2 Lk wa:=HOK.out.grown h4 (by intro e;injection e with e;have:=HNE.out.2.2.1;omega) (by intro e;injection e with e;have:=HNE.out.2.2.2;omega)
   have hAd:ONode n fm bm (K3 nm F) B wa.drew:=hA.below (zb _ _).drew
   have hobd:OBin b2 mb2 Lk wa.drew:=hobA.below (zb _ _).drew
   obtain⟨wb,k1,k2,k3,k4⟩:=AlMap.upd idRd hAd.bins hsB hkB Tryz.underlying79 (by have:=HP.out.blenF;unfold maxLen;omega) X ⟨Lk,b2,mb2⟩ HXO.out
   unfold beV at k1
   have hnew:mb2∉B.map (fun q=>q.2.mb):=fun hm=>by
    obtain⟨q,hq,e⟩:=List.mem_map.1 hm
    have:=(HN.out.bin q hq).map.lt
    have:=HNE.out.2.2.2
    omega
   have hnd0:=HN.out.nd
   rw[List.nodup_cons,List.nodup_cons]at hnd0
   have hmb:=HNE.out.2.2.2
   have hbb:=HNE.out.2.2.1
   have hND:(fm::bm::(Q9 Q2 X ⟨Lk,b2,mb2⟩ B).map (fun q=>q.2.mb)).Nodup:=by
    rw[List.nodup_cons,List.nodup_cons]
    refine⟨fun hm=> ?_,fun hm=> ?_,j3j (fun q:BE=>q.mb) hnd0.2.2 hnew⟩
    ·rcases List.mem_cons.1 hm with e|hm
     ·exact hnd0.1 (List.mem_cons.2 (.inl e))
     ·rcases C2 (fun q:BE=>q.mb) hm with e|e
      ·simp only at e;omega
      ·exact hnd0.1 (List.mem_cons_of_mem _ e)
    ·rcases C2 (fun q:BE=>q.mb) hm with e|e
     ·simp only at e;omega
     ·exact hnd0.2.1 e
   have hB:ONode n fm bm (K3 nm F) (Q9 Q2 X ⟨Lk,b2,mb2⟩ B) wb:=hAd.setB k4 k3 k2 (fun q hq=>by
    rcases V9 hq with rfl|hq
    ·exact .inr (hobd.grown k4 (by intro e;injection e with e;omega) (by intro e;injection e with e;omega))
    ·exact .inl hq) hND
   have HFR:Hid (FrS (J5 n fm bm F B).S w wb):=zh (((FrS.of_below (S:=(J5 n fm bm F B).S) HBr.out).trans (FrS.of_gb (S:=(J5 n fm bm F B).S) h4 (.inl rfl)) (fun _ h=> .inl h)).trans ((FrS.of_below (S:=(J5 n fm bm F B).S) ((zb wa.heap.size wa).drew)).trans (FrS.of_gb (S:=(J5 n fm bm F B).S) k4 (.inr (.inl rfl))) (fun _ h=> .inl h)) (fun _ h=> .inl h))
   have HBN:=zh hB
   have HDN':=zh hdn
   have c1:=hA.c1
   have y0:=h3 _ _ y0r
   have y1:=h3 _ _ y1r
   have HYB:Hid (wb.cell? ⟨w2.heap.size,0,none⟩=some (.int .u32 (X.1:Int))∧wb.cell? ⟨w2.heap.size,1,none⟩=some (.int .i64 X.2)):=zh ⟨k3 _ _ y0,k3 _ _ y1⟩
   have HOF:=zh (j5r n fm bm (K3 nm F) (Q9 Q2 X ⟨Lk,b2,mb2⟩ B) (z5f hsF nm) (fun p hp=>hkF p (j3n hp)) (Nat.le_trans (z5i F nm) hfl) (fun q hq=>HP.out.ids (q.1,q.2.r) (List.mem_map_of_mem (f:=fun p:Bytes×FE=>(p.1,p.2.r)) (j3n hq))) X wb hB)
   have HKB:=zh (show ∀p∈Q9 Q2 X ⟨Lk,b2,mb2⟩ B,R5 p.1 from fun p hp=>by
    rcases V9 hp with rfl|hp
    ·exact HXO.out
    ·exact hkB p hp)
   have HNEW:Hid (∀q∈Q9 Q2 X ⟨Lk,b2,mb2⟩ B,q∈B∨(w.heap.size≤q.2.b∧w.heap.size≤q.2.mb)):=zh (fun q hq=>by
    rcases V9 hq with rfl|hq
    ·exact .inr ⟨hbb,hmb⟩
    ·exact .inl hq)
   have HND:=zh hND
   clear hda hL' hdn hnr hsF hsB hkF hkB hfl h2 h3 h4 hA hobA hAd hobd k2 k3 k4 hnew hnd0 hND hB hfmw hbmw hmb hbb y0r y1r
   go_wp2
   have hS0:Stay wa wa.drew:=Stay.refl _
   refine kR (fun w'=>Stay wa w') 6 ?_
   refine kT 0 hS0 ?_
   refine kT 1 hS0 ?_
   refine kT 2 hS0 ?_
   refine kS 3 rfl hS0 (fun w' hS=>by have A0:=hS _ _ c1;go_simp;rfl) ?_
   refine kS 4 rfl hS0 (fun w' hS=>by have A0:=hS _ _ y0;have A1:=hS _ _ y1;go_simp;rfl) ?_
   refine kT 5 hS0 (kF ?_)
   try simp only[Act.put,zM]
   simp only[List.drop_succ_cons,List.drop_zero]
   obtain⟨z0,z1⟩:=HYB.out
   clear hS0 y0 y1 c1
   go_wp2_with fail
   refine HOF.out.mono ?_
   rintro e wc ⟨vo,rfl,hoo,hbc⟩
   obtain⟨Ao,co,rfl⟩:=J0 hoo
   have HNC:=zh (HBN.out.below hbc)
   have HFC:=zh (HFR.out.thenB hbc)
   have y0:=(hbc.cell (p:=⟨w2.heap.size,0,none⟩) (World.block_lt_of_cell? wb _ z0)).trans z0
   have y1:=(hbc.cell (p:=⟨w2.heap.size,1,none⟩) (World.block_lt_of_cell? wb _ z1)).trans z1
   clear hoo hbc z0 z1
   by_cases hof:ofN (Q0 (K3 nm F) (Q9 Q2 X ⟨Lk,b2,mb2⟩ B)) X= []
   ·have hl0:((ofN (Q0 (K3 nm F) (Q9 Q2 X ⟨Lk,b2,mb2⟩ B)) X).length:Int)=0:=by rw[hof];rfl
    have hncd:=HNC.out.below (zb wc.heap.size wc).drew
    obtain⟨wd,m1,m2,m3,m4⟩:=AlMap.drop idRd hncd.bins HKB.out Tryz.underlying79 X HXO.out 0
    rw[j3k]at m2
    have hD:ONode n fm bm (K3 nm F) (K3 X B) wd:=hncd.setB m4 m3 m2 (fun q hq=>by
     have h1:q∈K3 X (Q9 Q2 X ⟨Lk,b2,mb2⟩ B):=by rw[j3k];exact hq
     exact .inl (j3n h1)) (by
      have h0:=HN.out.nd
      refine h0.sublist (List.Sublist.cons_cons _ (List.Sublist.cons_cons _ ?_))
      exact List.Sublist.map _ List.filter_sublist)
    have HFIN:Hid (j8i a n fm bm F B nm w (.returned .nilIface) wd):=zh (by
     have ht:=j8l (F:=K3 nm F) (B:=Q9 Q2 X ⟨Lk,b2,mb2⟩ B) (B':=B) (L:=Lk) hof
     rw[z5e]at ht
     have hdn:=HDN'.out
     rw[ht]at hdn
     refine⟨.nilIface,J5 n fm bm (K3 nm F) (K3 X B),rfl,by rw[hdn];exact ES.none a,?_,(HFC.out.thenB (zb wc.heap.size wc).drew).trans (FrS.of_gb (S:=(J5 n fm bm F B).S) m4 (.inr (.inl rfl))) (fun _ h=> .inl h),j3o (fun q hq=>j3n hq) (fun q hq=> .inl (j3n hq))⟩
     rw[hdn]
     have:=hD.node
     unfold Q0 at this
     rw[z5e,z5e]at this
     exact this)
    have c1:=HNC.out.c1
    clear hof hncd m2 m3 m4 hD
    go_wp2
    have hS0:Stay wc wc.drew:=Stay.refl _
    refine kR (fun w'=>Stay wc w') 5 ?_
    refine kT 0 hS0 ?_
    refine kT 1 hS0 ?_
    refine kT 2 hS0 ?_
    refine kS 3 rfl hS0 (fun w' hS=>by have A0:=hS _ _ c1;go_simp;rfl) ?_
    refine kS 4 rfl hS0 (fun w' hS=>by have A0:=hS _ _ y0;have A1:=hS _ _ y1;go_simp;rfl) (kF ?_)
    try simp only[Act.put,zM]
    simp only[List.drop_succ_cons,List.drop_zero]
    clear hS0
    go_wp2
    go_ret
    exact HFIN.out
   ·have hl0:((ofN (Q0 (K3 nm F) (Q9 Q2 X ⟨Lk,b2,mb2⟩ B)) X).length:Int)≠0:=by
     have:=List.length_pos_iff.2 hof;omega
    have hl0':(((ofN (Q0 (K3 nm F) (Q9 Q2 X ⟨Lk,b2,mb2⟩ B)) X).length:Int)==0)=false:=beq_eq_false_iff_ne.2 hl0
    have HFIN:Hid (j8i a n fm bm F B nm w (.returned .nilIface) wc):=zh (by
     have ht:=j8k (F:=K3 nm F) (B:=Q9 Q2 X ⟨Lk,b2,mb2⟩ B) (B':=B) (L:=Lk) hof
     rw[z5e]at ht
     have hdn:=HDN'.out
     rw[ht]at hdn
     refine⟨.nilIface,J5 n fm bm (K3 nm F) (Q9 Q2 X ⟨Lk,b2,mb2⟩ B),rfl,by rw[hdn];exact ES.none a,?_,HFC.out,j3o (fun q hq=>j3n hq) HNEW.out⟩
     rw[hdn]
     have:=HNC.out.node
     unfold Q0 at this
     rw[z5e,z5d]at this
     exact this)
    clear hof hl0
    go_wp2
    go_ret
    exact HFIN.out
theorem j8o(a:Nat→Addr)(n fm bm:Nat)(F:FL)(B:BL)(hP:NodeOk (Q0 F B))(nm:Bytes)(hn:X6 nm)(w:World)(h:ONode n fm bm F B w)(hs:SomeS [4,10] a w) :
  Calls Tryz.prog 33 #[.pointer (some ⟨n,0,none⟩),.string (bs nm)] w (j8i a n fm bm F B nm w):=by
 cases hgf:Q1 F nm with
 | none=>exact j8m a n fm bm F B hP nm hn hgf w h hs
 | some fe=>exact j8n a n fm bm F B hP nm hn fe hgf w h hs
theorem Node.dropC(a:Nat→Addr){n:Nat}{P:PNode}{f:Foot}(hP:NodeOk P)(nm:Bytes)(hn:X6 nm)(w:World)(h:Node n P f w)(hs:SomeS [4,10] a w) :
  Calls Tryz.prog 33 #[.pointer (some ⟨n,0,none⟩),.string (bs nm)] w fun e w'=>∃r,e= .returned r∧ES a r (M1 nm P).2∧NodeTo n f (M1 nm P).1 w w':=by
 obtain⟨fm,bm,F,B,ho,rfl,rfl⟩:=h.at
 exact(j8o a n fm bm F B hP nm hn w ho hs).mono fun e w' ⟨r,f',h1,h2,h3,h4,h5⟩=>⟨r,h1,h2,f',h3,h4,h5⟩
theorem Node.sweepC{n:Nat}{P:PNode}{f:Foot}(hP:NodeOk P)(w:World)(h:Node n P f w) :
  Calls Tryz.prog 35 #[.pointer (some ⟨n,0,none⟩)] w fun e w'=>e= .returned (.int .i64 (D5 P-D5 (M9 P)))∧NodeTo n f (M9 P) w w':=by
 obtain⟨fm,bm,F,B,ho,rfl,rfl⟩:=h.at
 exact(j4e n fm bm F B hP w ho).mono fun e w' ⟨f',h1,h3,h4,h5⟩=>⟨h1,f',h3,h4,h5⟩
theorem Node.namesC{n:Nat}{P:PNode}{f:Foot}(hP:NodeOk P)(w:World)(h:Node n P f w) :
  Calls Tryz.prog 27 #[.pointer (some ⟨n,0,none⟩)] w fun e w'=>∃v,e= .returned v∧w'.ownsRow w.heap.size 9 1 v (J4 P).length ((J4 P).map VT)∧Below w.heap.size w w':=by
 obtain⟨fm,bm,F,B,ho,rfl,rfl⟩:=h.at
 exact j5j n fm bm F B hP.w w ho
theorem C8{w:World}{base n size g:Nat}{e:TypeId}{v:Value}{xs:List Value}(h:w.ownsRow base e size v n xs)(hg:v.ownBlock=some g):g<w.heap.size:=by
 rcases h.2 with⟨rfl,_⟩|⟨g',cap,cur,rfl,_,hh,_⟩
 ·cases hg
 ·injection hg with hg
  have hg:g'=g:=hg
  subst hg
  exact(Array.getElem?_eq_some_iff.1 hh).1
theorem j8p{w w':World}{T:Nat→Prop}{base n size:Nat}{e:TypeId}{v:Value}{xs:List Value}(h:w.ownsRow base e size v n xs)(hg:FrS T w w')(hne:∀g,v.ownBlock=some g→¬T g):w'.ownsRow base e size v n xs:=by
 refine⟨h.1,?_⟩
 rcases h.2 with h1|⟨g,cap,cur,hv,hgb,hh,h3⟩
 ·exact .inl h1
 ·exact .inr ⟨g,cap,cur,hv,hgb,(hg.block g (Array.getElem?_eq_some_iff.1 hh).1 (hne g (by rw[hv];rfl))).trans hh,h3⟩
structure KM(base n b7:Nat)(P:PNode)(f:Foot)(v7:Value)(m7:Nat)(A:List Bytes)(v8:Value)(m8:Nat)(C:List Bytes)(w0 w:World):Prop where
 nin:NIn base n P f w0 w
 r7:w.ownsRow b7 9 1 v7 m7 (A.map VT)
 r8:w.ownsRow b7 9 1 v8 m8 (C.map VT)
 a7:∀g,v7.ownBlock=some g→¬f.S g∧¬f.R g
 a8:∀g,v8.ownBlock=some g→¬f.S g∧¬f.R g
 ap:∀g,v7.ownBlock=some g→v8.ownBlock≠some g
 hb:base≤b7
 hz:b7≤w.heap.size
section
variable {base n b7 m7 m8:Nat} {P P':PNode} {f:Foot} {v7 v8 v':Value} {A C:List Bytes} {w0 w w':World}
theorem KM.below(h:KM base n b7 P f v7 m7 A v8 m8 C w0 w)(hb:Below w.heap.size w w'):KM base n b7 P f v7 m7 A v8 m8 C w0 w':=
 ⟨h.nin.below hb,Q4 h.r7 hb,Q4 h.r8 hb,h.a7,h.a8,h.ap,h.hb,Nat.le_trans h.hz hb.size⟩
theorem KM.to(h:KM base n b7 P f v7 m7 A v8 m8 C w0 w)(ht:NodeTo n f P' w w'):∃f',KM base n b7 P' f' v7 m7 A v8 m8 C w0 w':=by
 obtain⟨f',h1,h2,h3⟩:=ht
 have far:∀ {v:Value} {m:Nat} {xs:List Value},w.ownsRow b7 9 1 v m xs→(∀g,v.ownBlock=some g→¬f.S g∧¬f.R g)→∀g,v.ownBlock=some g→¬f'.S g∧¬f'.R g:=fun {v m xs} ho ha g hg=>
  ⟨fun hs=>((h3 g).1 hs).elim (ha g hg).1 (fun hB=>by have:=C8 ho hg;omega),fun hs=>((h3 g).2 hs).elim (ha g hg).2 (fun hB=>by have:=C8 ho hg;omega)⟩
 exact⟨f',⟨h1,fun k hk=>((h3 k).1 hk).elim (h.nin.ge k) (fun hB=>Nat.le_trans h.nin.sz hB),h2.below h.nin.bel h.nin.sz h.nin.ge,Nat.le_trans h.nin.sz h2.size⟩,
  j8p h.r7 h2 (fun g hg=>(h.a7 g hg).1),j8p h.r8 h2 (fun g hg=>(h.a8 g hg).1),far h.r7 h.a7,far h.r8 h.a8,h.ap,h.hb,Nat.le_trans h.hz h2.size⟩
theorem KM.swap{bq m:Nat}{vx vy:Value}{X Y:List Bytes}(h:KM base n b7 P f v7 m7 A v8 m8 C w0 w)(hl:f.lt bq)(hbq:base≤bq)(hzq:bq≤w.heap.size)(hx:w.ownsRow bq 9 1 vx m (X.map VT))(hy:w.ownsRow bq 9 1 vy m (Y.map VT))(hap:∀g,vx.ownBlock=some g→vy.ownBlock≠some g) :
  KM base n bq P f vx m X vy m Y w0 w:=
 ⟨h.nin,hx,hy,fun g e=>⟨fun hs=>by have:=hl g (.inl hs);have:=Y7 hx e;omega,fun hs=>by have:=hl g (.inr hs);have:=Y7 hx e;omega⟩,
  fun g e=>⟨fun hs=>by have:=hl g (.inl hs);have:=Y7 hy e;omega,fun hs=>by have:=hl g (.inr hs);have:=Y7 hy e;omega⟩,hap,hbq,hzq⟩
end
structure Box3(b:Nat)(x y z:Value)(w:World):Prop where
 c0:w.cell? ⟨b,0,none⟩=some x
 c1:w.cell? ⟨b,1,none⟩=some y
 c2:w.cell? ⟨b,2,none⟩=some z
theorem Box3.lt{b:Nat}{x y z:Value}{w:World}(h:Box3 b x y z w):b<w.heap.size:=World.block_lt_of_cell? w _ h.c0
theorem Box3.below{b B:Nat}{x y z:Value}{w w':World}(h:Box3 b x y z w)(hb:Below B w w')(hB:b<B):Box3 b x y z w':=
 ⟨(hb.cell (p:=⟨b,0,none⟩) hB).trans h.c0,(hb.cell (p:=⟨b,1,none⟩) hB).trans h.c1,(hb.cell (p:=⟨b,2,none⟩) hB).trans h.c2⟩
theorem Box3.mk'(w:World)(x y z:Value)(t:TypeId):Box3 w.heap.size x y z (w.alloc (.cells #[x,y,z] t)):=
 ⟨by rw[World.cell?_alloc_at _ _ _ _ rfl];rfl,by rw[World.cell?_alloc_at _ _ _ _ rfl];rfl,by rw[World.cell?_alloc_at _ _ _ _ rfl];rfl⟩
def U0(P:PNode):IdL:=P.bins.map (·.1)
theorem Node.repsC{n:Nat}{P:PNode}{f:Foot}(hP:NodeOk P)(w:World)(h:Node n P f w) :
  Calls Tryz.prog 26 #[.pointer (some ⟨n,0,none⟩)] w (j2w (U0 P) w):=by
 obtain⟨fm,bm,F,B,ho,rfl,rfl⟩:=h.at
 have hk:U0 (Q0 F B)=R3 B:=by unfold U0 Q0 K7 R3;rw[List.map_map];rfl
 rw[hk]
 refine j2z n fm bm F B (ONode.srtB hP) (ho.keysB hP) ?_ w ho
 have:=hP.blen
 have hb:(Q0 F B).bins.length=B.length:=W5 _ _
 have:=hP.flen
 omega
theorem j8q{P:PNode}(h:NodeOk P){k:Nat}(hk:k<P.files.length):recN P.files[k].1 P=(0,P.files[k].2):=by
 have:=Z5 U3 h.fsrt (List.getElem_mem hk)
 unfold recN
 rw[show P.files[k]=(P.files[k].1,P.files[k].2)from rfl]at this
 rw[this]
theorem j8r{nm:Bytes}(h:J7 nm=true):X6 nm:=by
 have:nm.length≤12:=z1w h
 unfold X6 maxLen;omega
theorem NodeOk.binK{P:PNode}(h:NodeOk P){k:Nat}(hk:k<P.bins.length):Q1 P.bins P.bins[k].1=some P.bins[k].2:=Z5 M0 h.bsrt (List.getElem_mem hk)
end Go.Proofs.YtdmlghfggninbaaGreatDoor
namespace Go.Proofs.YtdmlghfggninbaaGreatDoor
open Go.RowKit Go.Lib
abbrev ldV(x:Load)(sl:Value):Value:= .agg #[.int .u32 (x.rep.1:Int),.int .i64 x.rep.2,sl]
theorem j8s(p:Load→Bool)(b:Nat)(v:Value)(L:List Load)(hl:L.length≤1000000)(w:World)(hv:LdRd w w.heap.size v L)(hF:∀x∈L,∀A n c w',Below w.heap.size w w'→Calls Tryz.prog 183 #[ldV x (.slice A n c),.pointer (some ⟨b,0,none⟩)] w' fun e w''=>e= .returned (.bool (p x))∧Below w'.heap.size w' w'') :
  Calls Tryz.prog 182 #[v,.func (.func 183) #[] #[.pointer (some ⟨b,0,none⟩)]] w fun e w'=>e= .returned (.int .i64 (ixP p L))∧Below w.heap.size w w':=by
 obtain⟨A,c,rfl,hcap,hcells⟩:=hv
 have HX:=zh hcells
 have HF:=zh hF
 clear hcells hF
 go_enter Tryz.func182,Tryz.ntmps182
 go_wp2
 go_loopg [8] L.length (fun gh vi wr=>∃(k:Nat),vi= .int .i64 k∧k≤L.length∧gh=L.length-k∧Hid (∀j (hj:j<k) (hl:j<L.length),p L[j]=false)∧Hid (Below w.heap.size w wr))
 case atStart=>exact⟨0,rfl,Nat.zero_le _,rfl,zh (fun j hj=>absurd hj (Nat.not_lt_zero _)),zh (zb _ _)⟩
 case round=>
  obtain⟨k,rfl,hk,hgm,HI,HB⟩:=hrel
  by_cases hkl:k<L.length
  ·obtain⟨g,o,rfl,hg,hx⟩:=HX.out (by omega)
   obtain⟨sl,hrl,x0,x1,x2⟩:=hx k hkl
   obtain⟨LA,lc,rfl,_⟩:=hrl.form
   have y0:=(HB.out.cell (p:=⟨g,o+k*3,none⟩) hg).trans x0
   have y1:=(HB.out.cell (p:=⟨g,o+k*3+1,none⟩) hg).trans x1
   have y2:=(HB.out.cell (p:=⟨g,o+k*3+2,none⟩) hg).trans x2
   clear x0 x1 x2
   have b1:(0:Int)≤(k:Int):=by omega
   have b2:(k:Int)<(L.length:Int):=by omega
   have HC:=zh (HF.out L[k] (List.getElem_mem hkl) LA L[k].l.length lc wr HB.out)
   have hmem:=hkl
   clear hx
   go_wp2_with fail
   refine HC.out.mono ?_
   rintro e w2 ⟨rfl,hb2⟩
   have HB2:=zh (HB.out.trans (hb2.mono HB.out.size))
   clear hb2 HC
   cases hp:p L[k]with
   | true=>
    have HQ:=zh (k2r hkl (fun j hj=>HI.out j hj (by omega)) hp)
    clear hp
    go_wp2
    go_ret
    exact⟨by rw[HQ.out];rfl,HB2.out⟩
   | false=>
    have HI2:Hid (∀j (hj:j<k+1) (hl:j<L.length),p L[j]=false):=zh (fun j hj hl=>by
     by_cases e:j=k
     ·subst e;exact hp
     ·exact HI.out j (by omega) hl)
    clear hp
    go_wp2
    go_roundg (L.length-(k+1))
    case measure=>omega
    case rel=>exact⟨k+1,by go_num,hkl,rfl,HI2,HB2⟩
  ·obtain rfl:k=L.length:=by omega
   have HQ:=zh (k2s (fun j hj=>HI.out j hj hj))
   go_wp2
   go_ret
   exact⟨by rw[HQ.out];rfl,HB.out⟩
theorem j8t(x:Load)(A:Option Addr)(n c:Nat)(rep:Idn)(b:Nat)(w:World)(hb:Box2 b (.int .u32 (rep.1:Int)) (.int .i64 rep.2) w) :
  Calls Tryz.prog 183 #[ldV x (.slice A n c),.pointer (some ⟨b,0,none⟩)] w fun e w'=>e= .returned (.bool (decide (x.rep=rep)))∧Below w.heap.size w w':=by
 obtain⟨⟨i1,i2⟩,l⟩:=x
 obtain⟨x1,x2⟩:=rep
 have hb1:Below w.heap.size w (w.alloc (.cells #[.int .u32 (i1:Int),.int .i64 i2,.slice A n c] 113)):=(zb _ _).alloc (zl _) _
 obtain⟨c0,c1,c2⟩:=Box3.mk' w (.int .u32 (i1:Int)) (.int .i64 i2) (.slice A n c) 113
 obtain⟨d0,d1,_,_⟩:=hb.below hb1 hb.lt
 have HB1:=zh hb1
 show Calls Tryz.prog 183 #[ldV ⟨(i1,i2),l⟩ (.slice A n c),.pointer (some ⟨b,0,none⟩)] w fun e w'=>e= .returned (.bool (decide ((i1,i2)=(x1,x2))))∧Below w.heap.size w w'
 simp only at d0 d1
 clear hb1 hb
 by_cases h1:i1=x1
 ·subst h1
  by_cases h2:i2=x2
  ·subst h2
   rw[decide_eq_true rfl]
   go_enter Tryz.func183,Tryz.ntmps183
   go_wp2
   go_ret
   exact⟨rfl,HB1.out⟩
  ·rw[decide_eq_false (fun e=>h2 (congrArg Prod.snd e))]
   go_enter Tryz.func183,Tryz.ntmps183
   go_wp2
   go_ret
   exact⟨rfl,HB1.out⟩
 ·have h1i:¬((i1:Int)=(x1:Int)):=by omega
  rw[decide_eq_false (fun e=>h1 (congrArg Prod.fst e))]
  go_enter Tryz.func183,Tryz.ntmps183
  go_wp2
  go_ret
  exact⟨rfl,HB1.out⟩
theorem j8u(p:Idn→Bool)(b b2:Nat)(v:Value)(L:IdL)(hl:L.length≤1000000)(w:World)(hv:RdI w w.heap.size v L)(hF:∀x∈L,∀w',Below w.heap.size w w'→Calls Tryz.prog 185 #[idV x,.pointer (some ⟨b,0,none⟩),.pointer (some ⟨b2,0,none⟩)] w' fun e w''=>e= .returned (.bool (p x))∧Below w'.heap.size w' w'') :
  Calls Tryz.prog 222 #[v,.func (.func 185) #[] #[.pointer (some ⟨b,0,none⟩),.pointer (some ⟨b2,0,none⟩)]] w fun e w'=>e= .returned (.int .i64 (ixP p L))∧Below w.heap.size w w':=by
 obtain⟨A,c,rfl,hcap,hcells⟩:=hv.form
 have HX:=zh hcells
 have HF:=zh hF
 clear hcells hv hF
 go_enter Tryz.func222,Tryz.ntmps222
 go_wp2
 go_loopg [8] L.length (fun gh vi wr=>∃(k:Nat),vi= .int .i64 k∧k≤L.length∧gh=L.length-k∧Hid (∀j (hj:j<k) (hl:j<L.length),p L[j]=false)∧Hid (Below w.heap.size w wr))
 case atStart=>exact⟨0,rfl,Nat.zero_le _,rfl,zh (fun j hj=>absurd hj (Nat.not_lt_zero _)),zh (zb _ _)⟩
 case round=>
  obtain⟨k,rfl,hk,hgm,HI,HB⟩:=hrel
  by_cases hkl:k<L.length
  ·obtain⟨g,o,rfl,hg,hx⟩:=HX.out (by omega)
   obtain⟨x0,x1⟩:=hx k hkl
   have y0:=(HB.out.cell (p:=⟨g,o+k*2,none⟩) hg).trans x0
   have y1:=(HB.out.cell (p:=⟨g,o+k*2+1,none⟩) hg).trans x1
   clear x0 x1
   have b1:(0:Int)≤(k:Int):=by omega
   have b2:(k:Int)<(L.length:Int):=by omega
   have HC:=zh (HF.out L[k] (List.getElem_mem hkl) wr HB.out)
   have hmem:=hkl
   clear hx
   go_wp2_with fail
   refine HC.out.mono ?_
   rintro e w2 ⟨rfl,hb2⟩
   have HB2:=zh (HB.out.trans (hb2.mono HB.out.size))
   clear hb2 HC
   cases hp:p L[k]with
   | true=>
    have HQ:=zh (k2r hkl (fun j hj=>HI.out j hj (by omega)) hp)
    clear hp
    go_wp2
    go_ret
    exact⟨by rw[HQ.out];rfl,HB2.out⟩
   | false=>
    have HI2:Hid (∀j (hj:j<k+1) (hl:j<L.length),p L[j]=false):=zh (fun j hj hl=>by
     by_cases e:j=k
     ·subst e;exact hp
     ·exact HI.out j (by omega) hl)
    clear hp
    go_wp2
    go_roundg (L.length-(k+1))
    case measure=>omega
    case rel=>exact⟨k+1,by go_num,hkl,rfl,HI2,HB2⟩
  ·obtain rfl:k=L.length:=by omega
   have HQ:=zh (k2s (fun j hj=>HI.out j hj hj))
   go_wp2
   go_ret
   exact⟨by rw[HQ.out];rfl,HB.out⟩
theorem j8v(p:Idn→Bool)(b b2:Nat)(v:Value)(L:IdL)(hl:L.length≤1000000)(w:World)(hv:RdI w w.heap.size v L)(hF:∀x∈L,∀w',Below w.heap.size w w'→Calls Tryz.prog 185 #[idV x,.pointer (some ⟨b,0,none⟩),.pointer (some ⟨b2,0,none⟩)] w' fun e w''=>e= .returned (.bool (p x))∧Below w'.heap.size w' w'') :
  Calls Tryz.prog 184 #[v,.func (.func 185) #[] #[.pointer (some ⟨b,0,none⟩),.pointer (some ⟨b2,0,none⟩)]] w fun e w'=>e= .returned (.bool (L.any p))∧Below w.heap.size w w':=by
 have HC:=zh (j8u p b b2 v L hl w hv hF)
 have HQ:=zh (k2t p L)
 obtain⟨A,c,rfl,_⟩:=hv.form
 clear hv hF
 go_enter Tryz.func184,Tryz.ntmps184
 go_wp2_with fail
 refine HC.out.mono ?_
 rintro e w2 ⟨rfl,hb2⟩
 have HB2:=zh hb2
 clear hb2 HC
 go_wp2
 go_ret
 exact⟨by rw[←HQ.out];rfl,HB2.out⟩
theorem j8w(x:Idn)(v:Value)(ls:List Load)(hl:∀y∈ls,y.l.length≤1000000)(k:Nat)(hk:k<ls.length)(b b2:Nat)(w:World)(hv:LdRd w w.heap.size v ls)(hb:w.cell? ⟨b,0,none⟩=some v)(hb2:w.cell? ⟨b2,0,none⟩=some (.int .i64 (k:Int))) :
  Calls Tryz.prog 185 #[idV x,.pointer (some ⟨b,0,none⟩),.pointer (some ⟨b2,0,none⟩)] w fun e w'=>e= .returned (.bool (!(ls[k].l.any fun h=>decide (h.id=x))))∧Below w.heap.size w w':=by
 obtain⟨A,c,rfl,hcap,hcells⟩:=hv
 obtain⟨g,o,rfl,hg,hx⟩:=hcells (by omega)
 obtain⟨sl,hrl,_,_,x2⟩:=hx k hk
 obtain⟨LA,lc,hsl,_⟩:=hrl.form
 subst hsl
 have hll:=hl ls[k] (List.getElem_mem hk)
 generalize ls[k].l=L at *
 have b1:(0:Int)≤(k:Int):=by omega
 have b3:(k:Int)<(ls.length:Int):=by omega
 have hbl:b<w.heap.size:=World.block_lt_of_cell? w ⟨b,0,none⟩ hb
 have hbl2:b2<w.heap.size:=World.block_lt_of_cell? w ⟨b2,0,none⟩ hb2
 have hb1:Below w.heap.size w (w.alloc (.cells #[.int .u32 (x.1:Int),.int .i64 x.2] 25)):=(zb _ _).alloc (zl _) _
 have hbx:=Box2.mk' w (.int .u32 (x.1:Int)) (.int .i64 x.2) 25
 have HBX:=zh hbx
 have HB1:=zh hb1
 have E0:=zh ((hb1.cell (p:=⟨b,0,none⟩) hbl).trans hb)
 have E1:=zh ((hb1.cell (p:=⟨b2,0,none⟩) hbl2).trans hb2)
 have E2:=zh ((hb1.cell (p:=⟨g,o+k*3+2,none⟩) hg).trans x2)
 have HRL:=zh ((hrl.keep hb1 (zl _)).more hb1.size)
 have hz1:=hb1.size
 have hgl:g<(w.alloc (.cells #[.int .u32 (x.1:Int),.int .i64 x.2] 25)).heap.size:=by omega
 have hbl':b<(w.alloc (.cells #[.int .u32 (x.1:Int),.int .i64 x.2] 25)).heap.size:=by omega
 have hbl2':b2<(w.alloc (.cells #[.int .u32 (x.1:Int),.int .i64 x.2] 25)).heap.size:=by omega
 clear hcells hx hb hb2 hb1 hbx hrl x2 hz1
 go_enter Tryz.func185,Tryz.ntmps185
 go_wp2_with fail
 generalize w.alloc (.cells #[.int .u32 (x.1:Int),.int .i64 x.2] 25)=w1 at *
 have hS0:Below w1.heap.size w1 w1.drew:=(zb _ _).drew
 refine kR (fun w'=>Below w1.heap.size w1 w') 7 ?_
 refine kS 0 rfl hS0 (fun w' hS=>by have E:=(hS.cell (p:=⟨b,0,none⟩) hbl').trans E0.out;go_simp;rfl) ?_
 refine kS 1 rfl hS0 (fun w' hS=>by have E:=(hS.cell (p:=⟨b2,0,none⟩) hbl2').trans E1.out;go_simp;rfl) ?_
 refine kT 2 hS0 ?_
 refine kT 3 hS0 ?_
 refine kS 4 rfl hS0 (fun w' hS=>by have E:=(hS.cell (p:=⟨g,o+k*3+2,none⟩) hgl).trans E2.out;go_simp;rfl) ?_
 refine kS 5 rfl hS0 (fun w' hS=>by have E0:=(HBX.out.below hS HBX.out.lt).c0;have E1:=(HBX.out.below hS HBX.out.lt).c1;go_simp;rfl) ?_
 refine kC 6 (fun K hK=> ?_)
 go_simp
 refine(k2x (.slice LA L.length lc) L hll x _ ((HRL.out.keep hS0 (zl _)).more hS0.size)).mono ?_
 rintro e w2 ⟨rfl,hbw2⟩
 have hS1:Below w1.heap.size w1 w2:=hS0.trans (hbw2.mono hS0.size)
 refine hK _ _ hS1 (kF ?_)
 clear hK K
 try simp only[Act.put,zM]
 try simp only[Act.put,zM]
 simp only[List.drop_succ_cons,List.drop_zero]
 have HB2:=zh (HB1.out.trans (hS1.mono HB1.out.size))
 clear hS0 hS1 hbw2
 go_wp2
 go_ret
 exact⟨rfl,HB2.out⟩
end Go.Proofs.YtdmlghfggninbaaGreatDoor
