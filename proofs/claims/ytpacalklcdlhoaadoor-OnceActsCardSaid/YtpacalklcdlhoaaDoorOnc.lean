/- once.Table: what it is in memory; walks of New, Ask, Note. Condition: the sentinels that are read lie as named. -/
import Derived.Test.YtpacalklcdlhoaaDoorName
import Derived.Test.YtpacalklcdlhoaaDoorTapD
import Derived.Maps.OwnSet
import Derived.OwnWalk
import Derived.StringKeys
import Derived.Maps.OwnOps
import Derived.Maps.Views
namespace Go.Proofs.YtpacalklcdlhoaaDoor
open Go.RowKit Go.Lib Go.Maps Go.WideMaps

/-- an answer, as it reads -/
def ansD (n : Int) (s : Bytes) : DataW Unit := .agg [.lit (.int .i64 n), .lit (.string s)]
def ansElem : Value → Option (DataW Unit × List MemPlace)
  | .agg cs => match cs.toList with
    | [.int .i64 n, .string s] => if (Lit.int .i64 n).wf = true then some (ansD n s.data.toList, []) else none
    | _ => none
  | _ => none
theorem ansElem_mk (n : Int) (s : ByteArray) (h : (Lit.int .i64 n).wf = true) : ansElem (.agg #[.int .i64 n, .string s]) = some (ansD n s.data.toList, []) := if_pos h
theorem ansElem_inv {v : Value} {z : DataW Unit × List MemPlace} (h : ansElem v = some z) : ∃ n s, v = .agg #[.int .i64 n, .string (bs s)] ∧ z = (ansD n s, []) ∧ (Lit.int .i64 n).wf = true := by
  unfold ansElem at h
  split at h
  · next cs =>
    split at h
    · next n s hcs =>
      split at h
      · next hw =>
        injection h with h
        refine ⟨n, s.data.toList, ?_, h.symm, hw⟩
        have : cs = #[.int .i64 n, .string s] := by rw [← Array.toArray_toList (xs := cs), hcs]
        rw [this]; rfl
      · cases h
    · cases h
  · cases h
theorem ansD_inj {n m : Int} {s t : Bytes} (h : ansD n s = ansD m t) : n = m ∧ s = t := by
  unfold ansD at h
  injection h with h
  injection h with h1 h2
  injection h1 with h1
  injection h1 with _ h1
  injection h2 with h2 _
  injection h2 with h2
  injection h2 with h2
  exact ⟨h1, h2⟩
theorem lawS : Keyed Tryd.prog 9 := string_keyed Tryd.underlying9
theorem zeroA (w : World) : (zeroValue 113).run Tryd.prog w = .ok (.agg #[.int .i64 0, .string ByteArray.empty]) w := by kernel_rfl
theorem zeroAns : ansElem (.agg #[.int .i64 0, .string ByteArray.empty]) = some (ansD 0 [], []) := ansElem_mk 0 ByteArray.empty (by decide)
/-- the table in block b, its map in block mb -/
structure OTab (b mb : Nat) (D : DataW Unit) (cnt : Nat) (w : World) : Prop where
  row : w.heap[b]? = some (.cells #[.map (some mb)] 111 (0, 0))
  map : w.ownsMap Tryd.prog 9 ansElem mb cnt D
  ne : b ≠ mb
theorem OTab.lt {b mb cnt : Nat} {D : DataW Unit} {w : World} (h : OTab b mb D cnt w) : b < w.heap.size := (Array.getElem?_eq_some_iff.1 h.row).1
theorem OTab.cell {b mb cnt : Nat} {D : DataW Unit} {w : World} (h : OTab b mb D cnt w) : w.cell? ⟨b, 0, none⟩ = some (.map (some mb)) := by rw [cell_of_row w b 0 _ _ _ h.row]; rfl
theorem OTab.below {b mb cnt : Nat} {D : DataW Unit} {w w' : World} (h : OTab b mb D cnt w) (hb : Below w.heap.size w w') : OTab b mb D cnt w' :=
  ⟨(hb.block b h.lt).trans h.row, h.map.kept (row := none) ⟨hb.os, hb.tape, hb.output, hb.size, fun k hk _ => hb.block k hk⟩ (by simp), h.ne⟩
theorem OTab.val {b mb cnt : Nat} {D : DataW Unit} {w : World} (h : OTab b mb D cnt w) (t : ByteArray) (ht : t.size ≤ maxLen) : ∃ an s, D.atKey (.string t.data.toList) (ansD 0 []) = ansD an s ∧ (Lit.int .i64 an).wf = true := by
  obtain ⟨v, ps, _, hv⟩ := h.map.look_ok lawS Tryd.underlying109 (zeroA w) zeroAns (keyOf_string_mk Tryd.underlying9 ht)
  obtain ⟨n, s, _, h2, h3⟩ := ansElem_inv hv
  injection h2 with h2 _
  exact ⟨n, s, h2, h3⟩
theorem wpList_lookup_ans (w : World) {ops : Array Oper} {rest : List Oper} {o : Oper} {a : Act} {Q : Exit → Act → World → Prop} (hg : o.guard = none) (m x : Operand) (hop : o.op = Op.lookup 109 m x true)
    (b mb cnt : Nat) (D : DataW Unit) (hT : OTab b mb D cnt w) (hm : a.eval m = .map (some mb)) (t : ByteArray) (ht : t.size ≤ maxLen) (hx : a.eval x = .string t) (an : Int) (s : Bytes) (hval : D.atKey (.string t.data.toList) (ansD 0 []) = ansD an s)
    (hK : wpList Tryd.prog ops Q rest (a.put o.dst (.tuple #[.agg #[.int .i64 an, .string (bs s)], .bool (Maps.has D (.string t.data.toList))])) w) :
    wpList Tryd.prog ops Q (o :: rest) a w :=
  wpList_lookup_own_ok w hg m x 109 hop 9 113 lawS Tryd.underlying109 ansElem (zeroA w) (ansD 0 []) [] zeroAns mb cnt D hm hT.map (.string t) _ hx (keyOf_string_mk Tryd.underlying9 ht) (fun v ps hv => by
    obtain ⟨n', s', rfl, h2, _⟩ := ansElem_inv hv
    injection h2 with h2 _
    rw [hval] at h2
    obtain ⟨rfl, rfl⟩ := ansD_inj h2
    exact hK)
/-! ### the walks -/
theorem ONew_any (w : World) : Calls Tryd.prog 38 #[] w fun e w' => ∃ b mb, e = .returned (.pointer (some ⟨b, 0, none⟩)) ∧ OTab b mb (.map []) 0 w' ∧ w.heap.size ≤ b ∧ w.heap.size ≤ mb ∧ Below w.heap.size w w' := by
  have hmm := @run_makeMap Tryd.prog
  go_enter Tryd.func38, Tryd.ntmps38
  go_wp2
  go_ret
  have h1 := World.ownsMap_made w Tryd.prog 9 ansElem
  refine ⟨_, w.heap.size, rfl, ⟨by have := heap_alloc_new (w.alloc (.map #[] 0)) (.cells #[.map (some w.heap.size)] 111); simpa using this, h1.alloc _, by simp⟩, by simp, Nat.le_refl _, ((Below.refl _ _).alloc (Nat.le_refl _) _).alloc (by simp) _⟩
/-- what asking answers -/
def askV (a : Nat → Addr) (D : DataW Unit) (t : Bytes) (n an : Int) (s : Bytes) : Value :=
  if isName t = false then .tuple #[.string ⟨#[]⟩, .bool false, sval a 3]
  else if Maps.has D (.string t) = true ∧ n = an then .tuple #[.string (bs s), .bool true, .nilIface]
  else if n ≠ wrap64 (an + 1) then .tuple #[.string ⟨#[]⟩, .bool false, sval a 7] else .tuple #[.string ⟨#[]⟩, .bool false, .nilIface]
set_option maxRecDepth 100000 in
set_option maxHeartbeats 1000000 in
theorem OAsk_any (a : Nat → Addr) (b mb cnt : Nat) (D : DataW Unit) (t : ByteArray) (ht : t.size ≤ maxLen) (n an : Int) (s : Bytes) (hval : D.atKey (.string t.data.toList) (ansD 0 []) = ansD an s) (w : World) (hT : OTab b mb D cnt w) (hs : SomeS [3, 6, 7] a w) :
    Calls Tryd.prog 39 #[.pointer (some ⟨b, 0, none⟩), .string t, .int .i64 n] w fun e w' => e = .returned (askV a D t.data.toList n an s) ∧ Below w.heap.size w w' := by
  have c0 := hT.cell
  have ht63 : t.size ≤ 9223372036854775807 := by unfold maxLen at ht; omega
  have HT := Lib.hid hT
  have HV := Lib.hid hval
  have hb9 : Below w.heap.size w (w.alloc (.cells #[.int .i64 an, .string (bs s)] 113)) := (Below.refl _ _).alloc (Nat.le_refl _) _
  have HB9 := Lib.hid hb9
  have S3 : Hid (∀ w', Below w.heap.size w w' → w'.cell? ⟨7, 0, none⟩ = some (sval a 3)) := Lib.hid fun w' h => (hs.below h) 3 (by simp)
  have S7 : Hid (∀ w', Below w.heap.size w w' → w'.cell? ⟨8, 0, none⟩ = some (sval a 7)) := Lib.hid fun w' h => (hs.below h) 7 (by simp)
  clear hT hval hb9 hs
  cases hN : isName t.data.toList with
  | false =>
    have HJ : Hid (askV a D t.data.toList n an s = .tuple #[.string ⟨#[]⟩, .bool false, sval a 3]) := Lib.hid (if_pos hN)
    have HN := Lib.hid hN
    clear hN
    go_enter Tryd.func39, Tryd.ntmps39
    go_wp2_with (first | (at_lookup; refine wpList_lookup_ans _ rfl _ _ rfl b mb cnt D HT.out rfl t ht rfl an s HV.out ?_) | fail)
    refine (RcName_any t ht63 _).mono ?_
    rintro e w1 ⟨rfl, hb1⟩
    rw [HN.out]
    have hb2 := HB9.out.trans (hb1.mono HB9.out.size)
    have s3 := S3.out w1 hb2
    unfold sval at s3 HJ
    go_wp2
    go_quiet (fail)
    go_wp2
    go_ret3
    exact ⟨by rw [HJ.out]; rfl, below_drewN hb2 _⟩
  | true =>
    have hnf : ¬ isName t.data.toList = false := by rw [hN]; simp
    cases hH : Maps.has D (.string t.data.toList) with
    | true =>
      by_cases hn : n = an
      · have HJ : Hid (askV a D t.data.toList n an s = .tuple #[.string (bs s), .bool true, .nilIface]) := Lib.hid ((if_neg hnf).trans (if_pos ⟨hH, hn⟩))
        have hni : (n == an) = true := by rw [hn]; simp
        have HN := Lib.hid hN
        have HH := Lib.hid hH
        clear hN hH hnf hn
        go_enter Tryd.func39, Tryd.ntmps39
        go_wp2_with (first | (at_lookup; refine wpList_lookup_ans _ rfl _ _ rfl b mb cnt D HT.out rfl t ht rfl an s HV.out ?_; rw [HH.out]) | fail)
        refine (RcName_any t ht63 _).mono ?_
        rintro e w1 ⟨rfl, hb1⟩
        rw [HN.out]
        have hb2 := HB9.out.trans (hb1.mono HB9.out.size)
        have hrow := (hb1.block w.heap.size (by simp)).trans (heap_alloc_new w (.cells #[.int .i64 an, .string (bs s)] 113))
        have d0 := cell_of_row w1 w.heap.size 0 _ _ _ hrow
        have d1 := cell_of_row w1 w.heap.size 1 _ _ _ hrow
        clear hrow
        go_wp2
        go_ret3
        exact ⟨by rw [HJ.out]; rfl, hb2⟩
      · have hni : (n == an) = false := by simpa using hn
        have hng : ¬ (Maps.has D (.string t.data.toList) = true ∧ n = an) := fun h => hn h.2
        by_cases hw : n = wrap64 (an + 1)
        · have HJ : Hid (askV a D t.data.toList n an s = .tuple #[.string ⟨#[]⟩, .bool false, .nilIface]) := Lib.hid ((if_neg hnf).trans ((if_neg hng).trans (if_neg (not_not_intro hw))))
          have hwi : (n != wrap64 (an + 1)) = false := by rw [hw]; simp
          have HN := Lib.hid hN
          have HH := Lib.hid hH
          clear hN hH hnf hw hng hn
          go_enter Tryd.func39, Tryd.ntmps39
          go_wp2_with (first | (at_lookup; refine wpList_lookup_ans _ rfl _ _ rfl b mb cnt D HT.out rfl t ht rfl an s HV.out ?_; rw [HH.out]) | fail)
          refine (RcName_any t ht63 _).mono ?_
          rintro e w1 ⟨rfl, hb1⟩
          rw [HN.out]
          have hb2 := HB9.out.trans (hb1.mono HB9.out.size)
          have hrow := (hb1.block w.heap.size (by simp)).trans (heap_alloc_new w (.cells #[.int .i64 an, .string (bs s)] 113))
          have d0 := cell_of_row w1 w.heap.size 0 _ _ _ hrow
          have d1 := cell_of_row w1 w.heap.size 1 _ _ _ hrow
          clear hrow
          go_wp2
          go_ret3
          exact ⟨by rw [HJ.out]; rfl, hb2⟩
        · have HJ : Hid (askV a D t.data.toList n an s = .tuple #[.string ⟨#[]⟩, .bool false, sval a 7]) := Lib.hid ((if_neg hnf).trans ((if_neg hng).trans (if_pos hw)))
          have hwi : (n != wrap64 (an + 1)) = true := by simpa using hw
          have HN := Lib.hid hN
          have HH := Lib.hid hH
          clear hN hH hnf hw hng hn
          go_enter Tryd.func39, Tryd.ntmps39
          go_wp2_with (first | (at_lookup; refine wpList_lookup_ans _ rfl _ _ rfl b mb cnt D HT.out rfl t ht rfl an s HV.out ?_; rw [HH.out]) | fail)
          refine (RcName_any t ht63 _).mono ?_
          rintro e w1 ⟨rfl, hb1⟩
          rw [HN.out]
          have hb2 := HB9.out.trans (hb1.mono HB9.out.size)
          have hrow := (hb1.block w.heap.size (by simp)).trans (heap_alloc_new w (.cells #[.int .i64 an, .string (bs s)] 113))
          have d0 := cell_of_row w1 w.heap.size 0 _ _ _ hrow
          have d1 := cell_of_row w1 w.heap.size 1 _ _ _ hrow
          clear hrow
          have s7 := S7.out w1 hb2
          unfold sval at s7 HJ
          go_wp2
          go_quiet (fail)
          go_wp2
          go_ret3
          exact ⟨by rw [HJ.out]; rfl, below_drewN hb2 _⟩
    | false =>
      have hng : ¬ (Maps.has D (.string t.data.toList) = true ∧ n = an) := fun h => by rw [hH] at h; exact absurd h.1 (by simp)
      by_cases hw : n = wrap64 (an + 1)
      · have HJ : Hid (askV a D t.data.toList n an s = .tuple #[.string ⟨#[]⟩, .bool false, .nilIface]) := Lib.hid ((if_neg hnf).trans ((if_neg hng).trans (if_neg (not_not_intro hw))))
        have hwi : (n != wrap64 (an + 1)) = false := by rw [hw]; simp
        have HN := Lib.hid hN
        have HH := Lib.hid hH
        clear hN hH hnf hw hng
        go_enter Tryd.func39, Tryd.ntmps39
        go_wp2_with (first | (at_lookup; refine wpList_lookup_ans _ rfl _ _ rfl b mb cnt D HT.out rfl t ht rfl an s HV.out ?_; rw [HH.out]) | fail)
        refine (RcName_any t ht63 _).mono ?_
        rintro e w1 ⟨rfl, hb1⟩
        rw [HN.out]
        have hb2 := HB9.out.trans (hb1.mono HB9.out.size)
        have hrow := (hb1.block w.heap.size (by simp)).trans (heap_alloc_new w (.cells #[.int .i64 an, .string (bs s)] 113))
        have d0 := cell_of_row w1 w.heap.size 0 _ _ _ hrow
        have d1 := cell_of_row w1 w.heap.size 1 _ _ _ hrow
        clear hrow
        go_wp2
        go_ret3
        exact ⟨by rw [HJ.out]; rfl, hb2⟩
      · have HJ : Hid (askV a D t.data.toList n an s = .tuple #[.string ⟨#[]⟩, .bool false, sval a 7]) := Lib.hid ((if_neg hnf).trans ((if_neg hng).trans (if_pos hw)))
        have hwi : (n != wrap64 (an + 1)) = true := by simpa using hw
        have HN := Lib.hid hN
        have HH := Lib.hid hH
        clear hN hH hnf hw hng
        go_enter Tryd.func39, Tryd.ntmps39
        go_wp2_with (first | (at_lookup; refine wpList_lookup_ans _ rfl _ _ rfl b mb cnt D HT.out rfl t ht rfl an s HV.out ?_; rw [HH.out]) | fail)
        refine (RcName_any t ht63 _).mono ?_
        rintro e w1 ⟨rfl, hb1⟩
        rw [HN.out]
        have hb2 := HB9.out.trans (hb1.mono HB9.out.size)
        have hrow := (hb1.block w.heap.size (by simp)).trans (heap_alloc_new w (.cells #[.int .i64 an, .string (bs s)] 113))
        have d0 := cell_of_row w1 w.heap.size 0 _ _ _ hrow
        have d1 := cell_of_row w1 w.heap.size 1 _ _ _ hrow
        clear hrow
        have s7 := S7.out w1 hb2
        unfold sval at s7 HJ
        go_wp2
        go_quiet (fail)
        go_wp2
        go_ret3
        exact ⟨by rw [HJ.out]; rfl, below_drewN hb2 _⟩
end Go.Proofs.YtpacalklcdlhoaaDoor
