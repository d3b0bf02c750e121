/- Walks of bin.marked and of the reference's MarkedError: is a piece what its ID says, above the one ahead? Condition: the sentinels that are read lie as named (SomeS). -/
import Derived.Test.YtdmlghfggninbaaGreatDoorMb3
import Derived.Test.YtdmlghfggninbaaGreatDoorMb10
import Derived.Test.YtdmlghfggninbaaGreatDoorMb31
import Derived.Test.YtdmlghfggninbaaGreatDoorMb1
import Derived.Test.YtdmlghfggninbaaGreatDoorMb32
set_option linter.unusedVariables false
set_option linter.unusedSimpArgs false
set_option maxHeartbeats 2000000
set_option maxRecDepth 100000
namespace Go.Proofs.YtdmlghfggninbaaGreatDoor
open Go.RowKit Go.Lib
theorem k5s(t:Bytes)(ht:t.length≤maxLen)(w:World):Calls Tryz.prog 126 #[.string (bs t)] w fun e w'=>e= .returned (idV (idOf t))∧Below w.heap.size w w':=by
 have:=q7e (bs t) w (by rw[Q8];exact ht)
 rw[Q3,Q8]at this
 exact this
theorem k5t{L:HldL}{k:Nat}(hk:k<L.length)(e:¬idOf L[k].text=L[k].id):D3 L k L[k]=9:=z3y e
theorem k5u{L:HldL}(hk:0<L.length)(e:idOf L[0].text=L[0].id):D3 L 0 L[0]=0:=z4b e
theorem k5v{L:HldL}{j:Nat}(hk:j+1<L.length)(e:idOf L[j+1].text=L[j+1].id):D3 L (j+1) L[j+1]=if Q2 L[j].id L[j+1].id=true then 0 else 8:=by
 unfold D3
 rw[if_neg (by omega),Nat.add_sub_cancel,List.getElem?_eq_getElem (by omega:j<L.length)]
 cases h:Q2 L[j].id L[j+1].id with
 | true=>rw[z4a e h];rfl
 | false=>rw[z3z e h];rfl
theorem k5w(a:Nat→Addr)(v:Value)(L:HldL)(hl:L.length≤2^40)(hL:∀x∈L,x.text.length≤2^40)(k:Nat)(hk:k<L.length)(hid:¬idOf L[k].text=L[k].id)(B:Nat)(w:World)(hv:RdL w B v L)(hB:B≤w.heap.size)(hs:SomeS [7,8] a w) :
  Calls Tryz.prog 132 #[v,.int .i64 ((k:Nat):Int)] w fun e w'=>∃r,e= .returned r∧ES a r (D3 L k L[k])∧Below w.heap.size w w':=by
 obtain⟨A,c,rfl,hc,hx⟩:=hv.form
 obtain⟨g,o,rfl,hg,hcells⟩:=hx (by omega)
 have hgl:g<w.heap.size:=Nat.lt_of_lt_of_le hg hB
 obtain⟨c0,c1,c2,c3⟩:=hcells k hk
 have HIDC:=zh (fun w'=>k5s L[k].text (by have:=hL L[k] (List.getElem_mem hk);unfold maxLen;omega) w')
 have C0:Hid (w.cell? ⟨g,o+k*4,none⟩=some (.int .u32 (L[k].id.1:Int))):=zh (c0)
 have C1:Hid (w.cell? ⟨g,o+k*4+1,none⟩=some (.int .i64 L[k].id.2)):=zh (c1)
 have C3:Hid (w.cell? ⟨g,o+k*4+3,none⟩=some (.string (bs L[k].text))):=zh (c3)
 have b1:(0:Int)≤(k:Int):=by omega
 have b2:(k:Int)<(L.length:Int):=by omega
 have HS:=zh hs
 clear hs
 have HID2:=j0b hid
 rcases HID2 with q1|⟨q1,q2⟩
 ·have HM:=zh (k5t hk hid)
  clear hcells c0 c1 c2 c3 hx hid hL hv
  go_enter Tryz.func132,Tryz.ntmps132
  go_wp2
  have hS0:Below w.heap.size w w.drew:=(zb _ _).drew
  refine kR (fun w'=>Below w.heap.size w w') 11 ?_
  refine kT 0 hS0 ?_
  refine kT 1 hS0 ?_
  refine kT 2 hS0 ?_
  refine kT 3 hS0 ?_
  refine kS 4 rfl hS0 (fun w' hS=>by have A3:=(hS.cell (p:=⟨g,o+k*4+3,none⟩) hgl).trans C3.out;go_simp;rfl) ?_
  refine kT 6 hS0 ?_
  refine kT 7 hS0 ?_
  refine kT 8 hS0 ?_
  refine kT 9 hS0 ?_
  refine kS 10 rfl hS0 (fun w' hS=>by have A0:=(hS.cell (p:=⟨g,o+k*4,none⟩) hgl).trans C0.out;have A1:=(hS.cell (p:=⟨g,o+k*4+1,none⟩) hgl).trans C1.out;go_simp;rfl) ?_
  refine kC 5 (fun K hK=> ?_)
  go_simp
  refine(HIDC.out _).mono ?_
  rintro e w1 ⟨rfl,hbw1⟩
  have hS1:Below w.heap.size w w1:=hS0.trans (hbw1.mono hS0.size)
  refine hK _ _ hS1 (kF ?_)
  clear hK K
  try simp only[Act.put,zM]
  try simp only[Act.put,zM]
  simp only[List.drop_succ_cons,List.drop_zero]
  have HS1:=zh hS1
  clear hS0 hS1 hbw1
  have s8:w1.cell? ⟨8,0,none⟩=some (sval a 8):=((HS.out.below HS1.out)) 8 (by simp)
  unfold sval at s8
  go_wp2
  go_ret
  exact⟨_,rfl,by rw[HM.out];exact ES.sent a 8 (by decide),HS1.out⟩
 ·have HM:=zh (k5t hk hid)
  clear hcells c0 c1 c2 c3 hx hid hL hv
  go_enter Tryz.func132,Tryz.ntmps132
  go_wp2
  have hS0:Below w.heap.size w w.drew:=(zb _ _).drew
  refine kR (fun w'=>Below w.heap.size w w') 11 ?_
  refine kT 0 hS0 ?_
  refine kT 1 hS0 ?_
  refine kT 2 hS0 ?_
  refine kT 3 hS0 ?_
  refine kS 4 rfl hS0 (fun w' hS=>by have A3:=(hS.cell (p:=⟨g,o+k*4+3,none⟩) hgl).trans C3.out;go_simp;rfl) ?_
  refine kT 6 hS0 ?_
  refine kT 7 hS0 ?_
  refine kT 8 hS0 ?_
  refine kT 9 hS0 ?_
  refine kS 10 rfl hS0 (fun w' hS=>by have A0:=(hS.cell (p:=⟨g,o+k*4,none⟩) hgl).trans C0.out;have A1:=(hS.cell (p:=⟨g,o+k*4+1,none⟩) hgl).trans C1.out;go_simp;rfl) ?_
  refine kC 5 (fun K hK=> ?_)
  go_simp
  refine(HIDC.out _).mono ?_
  rintro e w1 ⟨rfl,hbw1⟩
  have hS1:Below w.heap.size w w1:=hS0.trans (hbw1.mono hS0.size)
  refine hK _ _ hS1 (kF ?_)
  clear hK K
  try simp only[Act.put,zM]
  try simp only[Act.put,zM]
  simp only[List.drop_succ_cons,List.drop_zero]
  have HS1:=zh hS1
  clear hS0 hS1 hbw1
  have s8:w1.cell? ⟨8,0,none⟩=some (sval a 8):=((HS.out.below HS1.out)) 8 (by simp)
  unfold sval at s8
  go_wp2
  go_ret
  exact⟨_,rfl,by rw[HM.out];exact ES.sent a 8 (by decide),HS1.out⟩
theorem k5x(a:Nat→Addr)(v:Value)(L:HldL)(hl:L.length≤2^40)(hL:∀x∈L,x.text.length≤2^40)(hk:0<L.length)(hid:idOf L[0].text=L[0].id)(B:Nat)(w:World)(hv:RdL w B v L)(hB:B≤w.heap.size)(hs:SomeS [7,8] a w) :
  Calls Tryz.prog 132 #[v,.int .i64 ((0:Nat):Int)] w fun e w'=>∃r,e= .returned r∧ES a r (D3 L 0 L[0])∧Below w.heap.size w w':=by
 obtain⟨A,c,rfl,hc,hx⟩:=hv.form
 obtain⟨g,o,rfl,hg,hcells⟩:=hx (by omega)
 have hgl:g<w.heap.size:=Nat.lt_of_lt_of_le hg hB
 obtain⟨c0,c1,c2,c3⟩:=hcells 0 hk
 have HIDC:=zh (fun w'=>k5s L[0].text (by have:=hL L[0] (List.getElem_mem hk);unfold maxLen;omega) w')
 have C0:Hid (w.cell? ⟨g,o,none⟩=some (.int .u32 (L[0].id.1:Int))):=zh (by simpa using c0)
 have C1:Hid (w.cell? ⟨g,o+1,none⟩=some (.int .i64 L[0].id.2)):=zh (by simpa using c1)
 have C3:Hid (w.cell? ⟨g,o+3,none⟩=some (.string (bs L[0].text))):=zh (by simpa using c3)
 have b1:(0:Int)≤(0:Int):=by omega
 have b2:(0:Int)<(L.length:Int):=by omega
 obtain⟨q1,q2⟩:=j0a hid
 have HM:=zh (k5u hk hid)
 clear hs
 clear hcells c0 c1 c2 c3 hx hid hL hv
 go_enter Tryz.func132,Tryz.ntmps132
 go_wp2
 have hS0:Below w.heap.size w w.drew:=(zb _ _).drew
 refine kR (fun w'=>Below w.heap.size w w') 11 ?_
 refine kT 0 hS0 ?_
 refine kT 1 hS0 ?_
 refine kT 2 hS0 ?_
 refine kT 3 hS0 ?_
 refine kS 4 rfl hS0 (fun w' hS=>by have A3:=(hS.cell (p:=⟨g,o+3,none⟩) hgl).trans C3.out;go_simp;rfl) ?_
 refine kT 6 hS0 ?_
 refine kT 7 hS0 ?_
 refine kT 8 hS0 ?_
 refine kT 9 hS0 ?_
 refine kS 10 rfl hS0 (fun w' hS=>by have A0:=(hS.cell (p:=⟨g,o,none⟩) hgl).trans C0.out;have A1:=(hS.cell (p:=⟨g,o+1,none⟩) hgl).trans C1.out;go_simp;rfl) ?_
 refine kC 5 (fun K hK=> ?_)
 go_simp
 refine(HIDC.out _).mono ?_
 rintro e w1 ⟨rfl,hbw1⟩
 have hS1:Below w.heap.size w w1:=hS0.trans (hbw1.mono hS0.size)
 refine hK _ _ hS1 (kF ?_)
 clear hK K
 try simp only[Act.put,zM]
 try simp only[Act.put,zM]
 simp only[List.drop_succ_cons,List.drop_zero]
 have HS1:=zh hS1
 clear hS0 hS1 hbw1
 go_wp2
 have hT0:Below w1.heap.size w1 w1.drew:=(zb _ _).drew
 refine kR (fun w'=>Below w1.heap.size w1 w') 15 ?_
 refine kT 0 hT0 ?_
 refine kT 1 hT0 ?_
 refine kT 2 hT0 ?_
 refine kK 3 hT0 ?_
 refine kK 4 hT0 ?_
 refine kK 5 hT0 ?_
 refine kK 6 hT0 ?_
 refine kK 7 hT0 ?_
 refine kK 8 hT0 ?_
 refine kK 9 hT0 ?_
 refine kK 10 hT0 ?_
 refine kK 11 hT0 ?_
 refine kK 12 hT0 ?_
 refine kK 13 hT0 ?_
 refine kK 14 hT0 (kF ?_)
 try simp only[Act.put,zM]
 simp only[List.drop_succ_cons,List.drop_zero]
 have HT1:=zh hT0
 clear hT0
 go_wp2
 go_ret
 exact⟨_,rfl,by rw[HM.out];exact ES.none a,HS1.out.trans (HT1.out.mono HS1.out.size)⟩
theorem k5y(a:Nat→Addr)(v:Value)(L:HldL)(hl:L.length≤2^40)(hL:∀x∈L,x.text.length≤2^40)(j:Nat)(hk:j+1<L.length)(hid:idOf L[j+1].text=L[j+1].id)(hlt:Q2 L[j].id L[j+1].id=true)(B:Nat)(w:World)(hv:RdL w B v L)(hB:B≤w.heap.size)(hs:SomeS [7,8] a w) :
  Calls Tryz.prog 132 #[v,.int .i64 (((j+1):Nat):Int)] w fun e w'=>∃r,e= .returned r∧ES a r (D3 L (j+1) L[(j+1)])∧Below w.heap.size w w':=by
 obtain⟨A,c,rfl,hc,hx⟩:=hv.form
 obtain⟨g,o,rfl,hg,hcells⟩:=hx (by omega)
 have hgl:g<w.heap.size:=Nat.lt_of_lt_of_le hg hB
 obtain⟨c0,c1,c2,c3⟩:=hcells (j+1) hk
 have HIDC:=zh (fun w'=>k5s L[(j+1)].text (by have:=hL L[(j+1)] (List.getElem_mem hk);unfold maxLen;omega) w')
 have C0:Hid (w.cell? ⟨g,o+(j+1)*4,none⟩=some (.int .u32 (L[(j+1)].id.1:Int))):=zh (c0)
 have C1:Hid (w.cell? ⟨g,o+(j+1)*4+1,none⟩=some (.int .i64 L[(j+1)].id.2)):=zh (c1)
 have C3:Hid (w.cell? ⟨g,o+(j+1)*4+3,none⟩=some (.string (bs L[(j+1)].text))):=zh (c3)
 have b1:(0:Int)≤(j:Int)+1:=by omega
 have b2:(j:Int)+1<(L.length:Int):=by omega
 obtain⟨q1,q2⟩:=j0a hid
 have HM:=zh (show D3 L (j+1) L[j+1]=0 by rw[k5v hk hid,hlt];rfl)
 have HS:=zh hs
 clear hs
 obtain⟨d0,d1,d2,d3⟩:=hcells j (by omega)
 clear d2 d3
 have D0:=zh d0
 have D1:=zh d1
 have HLT:Hid (C5 L[j].id.1 L[j+1].id.1 L[j].id.2 L[j+1].id.2=true):=zh hlt
 clear hcells c0 c1 c2 c3 d0 d1 hx hid hL hv hlt
 go_enter Tryz.func132,Tryz.ntmps132
 go_wp2
 have hS0:Below w.heap.size w w.drew:=(zb _ _).drew
 refine kR (fun w'=>Below w.heap.size w w') 11 ?_
 refine kT 0 hS0 ?_
 refine kT 1 hS0 ?_
 refine kT 2 hS0 ?_
 refine kT 3 hS0 ?_
 refine kS 4 rfl hS0 (fun w' hS=>by have A3:=(hS.cell (p:=⟨g,o+(j+1)*4+3,none⟩) hgl).trans C3.out;go_simp;rfl) ?_
 refine kT 6 hS0 ?_
 refine kT 7 hS0 ?_
 refine kT 8 hS0 ?_
 refine kT 9 hS0 ?_
 refine kS 10 rfl hS0 (fun w' hS=>by have A0:=(hS.cell (p:=⟨g,o+(j+1)*4,none⟩) hgl).trans C0.out;have A1:=(hS.cell (p:=⟨g,o+(j+1)*4+1,none⟩) hgl).trans C1.out;go_simp;rfl) ?_
 refine kC 5 (fun K hK=> ?_)
 go_simp
 refine(HIDC.out _).mono ?_
 rintro e w1 ⟨rfl,hbw1⟩
 have hS1:Below w.heap.size w w1:=hS0.trans (hbw1.mono hS0.size)
 refine hK _ _ hS1 (kF ?_)
 clear hK K
 try simp only[Act.put,zM]
 try simp only[Act.put,zM]
 simp only[List.drop_succ_cons,List.drop_zero]
 have HS1:=zh hS1
 have hgl1:g<w1.heap.size:=Nat.lt_of_lt_of_le hgl hS1.size
 have E0:=zh ((hS1.cell (p:=⟨g,o+j*4,none⟩) hgl).trans D0.out)
 have E1:=zh ((hS1.cell (p:=⟨g,o+j*4+1,none⟩) hgl).trans D1.out)
 have F0:=zh ((hS1.cell (p:=⟨g,o+(j+1)*4,none⟩) hgl).trans C0.out)
 have F1:=zh ((hS1.cell (p:=⟨g,o+(j+1)*4+1,none⟩) hgl).trans C1.out)
 clear hS0 hS1 hbw1
 have b3:(j:Int)+1>0:=by omega
 have HWR:Hid (IntKind.i64.wrap (j:Int)=(j:Int)):=zh (IntWalk.i64_in _ (by omega))
 have b4:(j:Int)<(L.length:Int):=by omega
 have b5:j<L.length:=by omega
 go_wp2
 have hT0:Below w1.heap.size w1 w1.drew:=(zb _ _).drew
 refine kR (fun w'=>Below w1.heap.size w1 w') 15 ?_
 refine kT 0 hT0 ?_
 refine kT 1 hT0 ?_
 refine kT 2 hT0 ?_
 refine kT 3 hT0 ?_
 refine kT 4 hT0 ?_
 refine kS 5 (v:= .int .i64 (j:Int)) rfl hT0 (fun w' hS=>by have W1:=b3;have W2:=HWR.out;go_simp) ?_
 refine kT 6 hT0 ?_
 refine kT 7 hT0 ?_
 refine kS 8 rfl hT0 (fun w' hS=>by have A0:=(hS.cell (p:=⟨g,o+j*4,none⟩) hgl1).trans E0.out;have A1:=(hS.cell (p:=⟨g,o+j*4+1,none⟩) hgl1).trans E1.out;go_simp;rfl) ?_
 refine kT 9 hT0 ?_
 refine kT 10 hT0 ?_
 refine kT 11 hT0 ?_
 refine kT 12 hT0 ?_
 refine kS 13 rfl hT0 (fun w' hS=>by have A0:=(hS.cell (p:=⟨g,o+(j+1)*4,none⟩) hgl1).trans F0.out;have A1:=(hS.cell (p:=⟨g,o+(j+1)*4+1,none⟩) hgl1).trans F1.out;go_simp;rfl) ?_
 refine kC 14 (fun K hK=> ?_)
 go_simp
 refine(z0p L[j].id.1 L[j+1].id.1 L[j].id.2 L[j+1].id.2 _).mono ?_
 rintro e w2 ⟨rfl,hbw2⟩
 have hT1:Below w1.heap.size w1 w2:=hT0.trans (hbw2.mono hT0.size)
 refine hK _ _ hT1 (kF ?_)
 clear hK K
 try simp only[Act.put,zM]
 try simp only[Act.put,zM]
 simp only[List.drop_succ_cons,List.drop_zero]
 rw[HLT.out]
 have HB2:=zh (HS1.out.trans (hT1.mono HS1.out.size))
 clear hT0 hT1 hbw2
 go_wp2
 go_ret
 exact⟨_,rfl,by rw[HM.out];exact ES.none a,HB2.out⟩
theorem k5z(a:Nat→Addr)(v:Value)(L:HldL)(hl:L.length≤2^40)(hL:∀x∈L,x.text.length≤2^40)(j:Nat)(hk:j+1<L.length)(hid:idOf L[j+1].text=L[j+1].id)(hlt:Q2 L[j].id L[j+1].id=false)(B:Nat)(w:World)(hv:RdL w B v L)(hB:B≤w.heap.size)(hs:SomeS [7,8] a w) :
  Calls Tryz.prog 132 #[v,.int .i64 (((j+1):Nat):Int)] w fun e w'=>∃r,e= .returned r∧ES a r (D3 L (j+1) L[(j+1)])∧Below w.heap.size w w':=by
 obtain⟨A,c,rfl,hc,hx⟩:=hv.form
 obtain⟨g,o,rfl,hg,hcells⟩:=hx (by omega)
 have hgl:g<w.heap.size:=Nat.lt_of_lt_of_le hg hB
 obtain⟨c0,c1,c2,c3⟩:=hcells (j+1) hk
 have HIDC:=zh (fun w'=>k5s L[(j+1)].text (by have:=hL L[(j+1)] (List.getElem_mem hk);unfold maxLen;omega) w')
 have C0:Hid (w.cell? ⟨g,o+(j+1)*4,none⟩=some (.int .u32 (L[(j+1)].id.1:Int))):=zh (c0)
 have C1:Hid (w.cell? ⟨g,o+(j+1)*4+1,none⟩=some (.int .i64 L[(j+1)].id.2)):=zh (c1)
 have C3:Hid (w.cell? ⟨g,o+(j+1)*4+3,none⟩=some (.string (bs L[(j+1)].text))):=zh (c3)
 have b1:(0:Int)≤(j:Int)+1:=by omega
 have b2:(j:Int)+1<(L.length:Int):=by omega
 obtain⟨q1,q2⟩:=j0a hid
 have HM:=zh (show D3 L (j+1) L[j+1]=8 by rw[k5v hk hid,hlt];rfl)
 have HS:=zh hs
 clear hs
 obtain⟨d0,d1,d2,d3⟩:=hcells j (by omega)
 clear d2 d3
 have D0:=zh d0
 have D1:=zh d1
 have HLT:Hid (C5 L[j].id.1 L[j+1].id.1 L[j].id.2 L[j+1].id.2=false):=zh hlt
 clear hcells c0 c1 c2 c3 d0 d1 hx hid hL hv hlt
 go_enter Tryz.func132,Tryz.ntmps132
 go_wp2
 have hS0:Below w.heap.size w w.drew:=(zb _ _).drew
 refine kR (fun w'=>Below w.heap.size w w') 11 ?_
 refine kT 0 hS0 ?_
 refine kT 1 hS0 ?_
 refine kT 2 hS0 ?_
 refine kT 3 hS0 ?_
 refine kS 4 rfl hS0 (fun w' hS=>by have A3:=(hS.cell (p:=⟨g,o+(j+1)*4+3,none⟩) hgl).trans C3.out;go_simp;rfl) ?_
 refine kT 6 hS0 ?_
 refine kT 7 hS0 ?_
 refine kT 8 hS0 ?_
 refine kT 9 hS0 ?_
 refine kS 10 rfl hS0 (fun w' hS=>by have A0:=(hS.cell (p:=⟨g,o+(j+1)*4,none⟩) hgl).trans C0.out;have A1:=(hS.cell (p:=⟨g,o+(j+1)*4+1,none⟩) hgl).trans C1.out;go_simp;rfl) ?_
 refine kC 5 (fun K hK=> ?_)
 go_simp
 refine(HIDC.out _).mono ?_
 rintro e w1 ⟨rfl,hbw1⟩
 have hS1:Below w.heap.size w w1:=hS0.trans (hbw1.mono hS0.size)
 refine hK _ _ hS1 (kF ?_)
 clear hK K
 try simp only[Act.put,zM]
 try simp only[Act.put,zM]
 simp only[List.drop_succ_cons,List.drop_zero]
 have HS1:=zh hS1
 have hgl1:g<w1.heap.size:=Nat.lt_of_lt_of_le hgl hS1.size
 have E0:=zh ((hS1.cell (p:=⟨g,o+j*4,none⟩) hgl).trans D0.out)
 have E1:=zh ((hS1.cell (p:=⟨g,o+j*4+1,none⟩) hgl).trans D1.out)
 have F0:=zh ((hS1.cell (p:=⟨g,o+(j+1)*4,none⟩) hgl).trans C0.out)
 have F1:=zh ((hS1.cell (p:=⟨g,o+(j+1)*4+1,none⟩) hgl).trans C1.out)
 clear hS0 hS1 hbw1
 have b3:(j:Int)+1>0:=by omega
 have HWR:Hid (IntKind.i64.wrap (j:Int)=(j:Int)):=zh (IntWalk.i64_in _ (by omega))
 have b4:(j:Int)<(L.length:Int):=by omega
 have b5:j<L.length:=by omega
 go_wp2
 have hT0:Below w1.heap.size w1 w1.drew:=(zb _ _).drew
 refine kR (fun w'=>Below w1.heap.size w1 w') 15 ?_
 refine kT 0 hT0 ?_
 refine kT 1 hT0 ?_
 refine kT 2 hT0 ?_
 refine kT 3 hT0 ?_
 refine kT 4 hT0 ?_
 refine kS 5 (v:= .int .i64 (j:Int)) rfl hT0 (fun w' hS=>by have W1:=b3;have W2:=HWR.out;go_simp) ?_
 refine kT 6 hT0 ?_
 refine kT 7 hT0 ?_
 refine kS 8 rfl hT0 (fun w' hS=>by have A0:=(hS.cell (p:=⟨g,o+j*4,none⟩) hgl1).trans E0.out;have A1:=(hS.cell (p:=⟨g,o+j*4+1,none⟩) hgl1).trans E1.out;go_simp;rfl) ?_
 refine kT 9 hT0 ?_
 refine kT 10 hT0 ?_
 refine kT 11 hT0 ?_
 refine kT 12 hT0 ?_
 refine kS 13 rfl hT0 (fun w' hS=>by have A0:=(hS.cell (p:=⟨g,o+(j+1)*4,none⟩) hgl1).trans F0.out;have A1:=(hS.cell (p:=⟨g,o+(j+1)*4+1,none⟩) hgl1).trans F1.out;go_simp;rfl) ?_
 refine kC 14 (fun K hK=> ?_)
 go_simp
 refine(z0p L[j].id.1 L[j+1].id.1 L[j].id.2 L[j+1].id.2 _).mono ?_
 rintro e w2 ⟨rfl,hbw2⟩
 have hT1:Below w1.heap.size w1 w2:=hT0.trans (hbw2.mono hT0.size)
 refine hK _ _ hT1 (kF ?_)
 clear hK K
 try simp only[Act.put,zM]
 try simp only[Act.put,zM]
 simp only[List.drop_succ_cons,List.drop_zero]
 rw[HLT.out]
 have HB2:=zh (HS1.out.trans (hT1.mono HS1.out.size))
 clear hT0 hT1 hbw2
 have s7:w2.cell? ⟨7,0,none⟩=some (sval a 7):=((HS.out.below HB2.out)) 7 (by simp)
 unfold sval at s7
 go_wp2
 go_ret
 exact⟨_,rfl,by rw[HM.out];exact ES.sent a 7 (by decide),HB2.out⟩
theorem k6a(a:Nat→Addr)(v:Value)(L:HldL)(hl:L.length≤2^40)(hL:∀x∈L,x.text.length≤2^40)(k:Nat)(hk:k<L.length)(B:Nat)(w:World)(hv:RdL w B v L)(hB:B≤w.heap.size)(hs:SomeS [7,8] a w) :
  Calls Tryz.prog 132 #[v,.int .i64 (k:Int)] w fun e w'=>∃r,e= .returned r∧ES a r (D3 L k L[k])∧Below w.heap.size w w':=by
 by_cases hid:idOf L[k].text=L[k].id
 ·cases k with
  | zero=>exact k5x a v L hl hL hk hid B w hv hB hs
  | succ j=>
   cases hlt:Q2 L[j].id L[j+1].id with
   | true=>exact k5y a v L hl hL j hk hid hlt B w hv hB hs
   | false=>exact k5z a v L hl hL j hk hid hlt B w hv hB hs
 ·exact k5w a v L hl hL k hk hid B w hv hB hs
end Go.Proofs.YtdmlghfggninbaaGreatDoor
