/- Walk of the reference's Table.Note. No conditions but bounds. -/
import Derived.Test.YtpacalklcdlhoaaDoorRefH
import Derived.Test.YtpacalklcdlhoaaDoorAppM
namespace Go.Proofs.YtpacalklcdlhoaaDoor
open Go.RowKit Go.Lib

theorem info_last : (Tryd.prog.info? 121).map (fun i => (i.zero, i.size, i.bytes)) = some (some (.agg #[.string ByteArray.empty, .int .i64 0, .string ByteArray.empty]), 3, 40) := by kernel_rfl
theorem cell_new3 (w : World) (x y z : Value) (t : TypeId) : ∀ j u, [x, y, z][j]? = some u → (w.alloc (.cells #[x, y, z] t)).cell? ((⟨w.heap.size, 0, none⟩ : Addr).add j) = some u := by
  intro j u hj
  have hr := heap_alloc_new w (.cells #[x, y, z] t)
  rw [add_eqM, Nat.zero_add, cell_of_row _ w.heap.size j _ _ _ hr]
  match j, hj with
  | 0, hj => exact hj
  | 1, hj => exact hj
  | 2, hj => exact hj
  | j + 3, hj => simp at hj
theorem lastRow_set : ∀ (L : Tb) (k : Nat), k < L.length → ∀ y, lastRow (L.set k y) = (((lastRow L).set (k * 3) (VT y.1)).set (k * 3 + 1) (.int .i64 y.2.1)).set (k * 3 + 2) (VT y.2.2)
  | [], k, h, _ => absurd h (by simp)
  | x :: r, 0, _, y => rfl
  | x :: r, k + 1, h, y => by
    have ih := lastRow_set r k (by simpa using h) y
    have e1 : (k + 1) * 3 = k * 3 + 1 + 1 + 1 := by omega
    show lastCells x ++ lastRow (r.set k y) = (((lastCells x ++ lastRow r).set ((k + 1) * 3) (VT y.1)).set ((k + 1) * 3 + 1) (.int .i64 y.2.1)).set ((k + 1) * 3 + 2) (VT y.2.2)
    rw [ih, e1]
    rfl
theorem lastRow_take (L : Tb) (k : Nat) : (lastRow L).take (k * 3) = lastRow (L.take k) := by
  induction L generalizing k with
  | nil => simp [lastRow]
  | cons x r ih =>
    cases k with
    | zero => simp [lastRow]
    | succ k =>
      show (lastCells x ++ lastRow r).take ((k + 1) * 3) = lastCells x ++ lastRow (r.take k)
      rw [← ih, show (k + 1) * 3 = (lastCells x).length + k * 3 by simp [lastCells]; omega, List.take_length_add_append]
theorem lastRow_drop (L : Tb) (k : Nat) : (lastRow L).drop (k * 3) = lastRow (L.drop k) := by
  induction L generalizing k with
  | nil => simp [lastRow]
  | cons x r ih =>
    cases k with
    | zero => simp [lastRow]
    | succ k =>
      show (lastCells x ++ lastRow r).drop ((k + 1) * 3) = lastRow (r.drop k)
      rw [← ih, show (k + 1) * 3 = (lastCells x).length + k * 3 by simp [lastCells]; omega, List.drop_length_add_append]
theorem lastRow_one (L : Tb) : ∀ u ∈ lastRow L, u.oneCell' = true := by
  intro u hu
  obtain ⟨x, _, hx⟩ := List.mem_flatMap.1 hu
  simp only [lastCells, List.mem_cons, List.not_mem_nil, or_false] at hx
  rcases hx with rfl | rfl | rfl <;> rfl
theorem below_grownM {base n size : Nat} {e : TypeId} {w0 w w' : World} {v : Value} {xs : List Value} (hB : Below base w0 w) (hb : base ≤ w.heap.size) (h : w.ownsRow base e size v n xs) (hg : w.grownBy w' v.ownBlock) : Below base w0 w' :=
  hB.grown hg hb (fun b he => own_ge h he)
theorem own_formM {w : World} {base n size : Nat} {e : TypeId} {v : Value} {xs : List Value} (h : w.ownsRow base e size v n xs) : ∃ A c, v = .slice A n c := by
  rcases h.2 with ⟨rfl, rfl⟩ | ⟨g, cap, cur, rfl, _⟩
  · exact ⟨_, _, rfl⟩
  · exact ⟨_, _, rfl⟩
theorem RdC.ownM {w : World} {base n size : Nat} {e : TypeId} {v : Value} {xs : List Value} (h : w.ownsRow base e size v n xs) : RdC w w.heap.size size v n xs := by
  rcases h.2 with ⟨rfl, rfl⟩ | ⟨g, cap, cur, hv, _, hh, hnc, _⟩
  · exact ⟨none, 0, rfl, h.1, Nat.le_refl _, fun h => absurd h (Nat.lt_irrefl _)⟩
  · refine ⟨_, cap, hv, h.1, hnc, fun _ => ⟨g, 0, rfl, (Array.getElem?_eq_some_iff.1 hh).1, fun k u hu => ?_⟩⟩
    subst hv
    have hk : k < n * size := by rw [← h.1]; exact (List.getElem?_eq_some_iff.1 hu).1
    rw [Nat.zero_add, h.cellAt k hk]; exact hu
theorem RdC.nilM (w : World) (B size : Nat) (A : Option Addr) (c : Nat) : RdC w B size (.slice A 0 c) 0 [] := ⟨A, c, rfl, by simp, Nat.zero_le _, fun h => absurd h (Nat.lt_irrefl _)⟩
def anL (L : Tb) (t : TbB) : Int := ((getL L t).getD (0, [])).1
/-- what noting says in the reference -/
def noteC (L : Tb) (t : TbB) (n : Int) : Int :=
  if isName t = false then 4 else if n ≠ wrap64 (anL L t + 1) then 8 else if (getL L t).isSome = false ∧ 20 ≤ L.length then 7 else 0
def noteLs (L : Tb) (t : TbB) (n : Int) (x : TbB) : Tb := if noteC L t n = 0 then putL t n x L else L
/-- all but block rb, the row of v, and new ones stands -/
structure TFrame (rb : Nat) (v : Value) (w w' : World) : Prop where
  os : w'.os = w.os
  tape : w'.tape = w.tape
  output : w'.output = w.output
  size : w.heap.size ≤ w'.heap.size
  block : ∀ k, k < w.heap.size → k ≠ rb → v.ownBlock ≠ some k → w'.heap[k]? = w.heap[k]?
def RNotePost (rb base : Nat) (v : Value) (L : Tb) (t : TbB) (n : Int) (x : TbB) (w : World) (e : Ending) (w' : World) : Prop :=
  ∃ v', e = .returned (.int .i64 (noteC L t n)) ∧ RTab rb base v' (noteLs L t n x) w' ∧ (v' = v ∨ ∀ b, v'.ownBlock = some b → w.heap.size ≤ b) ∧ TFrame rb v w w'
theorem rnote_err {rb base : Nat} {v : Value} {L : Tb} {t : TbB} {n : Int} {x : TbB} {w : World} {c : Int} (hc : noteC L t n = c) (h0 : c ≠ 0) (h : RTab rb base v L w) : RNotePost rb base v L t n x w (.returned (.int .i64 c)) w :=
  ⟨v, by rw [hc], by unfold noteLs; rw [if_neg (by rw [hc]; exact h0)]; exact h, .inl rfl, ⟨rfl, rfl, rfl, Nat.le_refl _, fun _ _ _ _ => rfl⟩⟩
set_option maxRecDepth 100000 in
set_option maxHeartbeats 4000000 in
theorem RTNote_any (rb base : Nat) (v : Value) (L : Tb) (hs : Srt L) (hL : L.length ≤ 2 ^ 30) (t x : ByteArray) (ht : t.size ≤ 9223372036854775807) (n : Int) (w : World) (hbase : base ≤ w.heap.size) (h : RTab rb base v L w) :
    Calls Tryd.prog 42 #[.pointer (some ⟨rb, 0, none⟩), .string t, .int .i64 n, .string x] w (RNotePost rb base v L t.data.toList n x.data.toList w) := by
  obtain ⟨i0, hi, hz0, hz1, hz2⟩ := info_parts info_last
  have HR := Lib.hid h
  have HL : Hid (L.length ≤ 2 ^ 40) := Lib.hid (by omega)
  have hlen63 : L.length ≤ 1073741824 := by omega
  have HS := Lib.hid hs
  have HB := Lib.hid hbase
  have c0 := h.cell
  have hrbl := h.lt
  have f0 : w.frozen? ⟨rb, 0, none⟩ = false := frozen_of_row w rb 0 _ _ h.row
  obtain ⟨A, c, hv, hc⟩ := h.form
  subst hv
  have HC := Lib.hid hc
  have hbt : bs t.data.toList = t := by apply ba_ext; rw [bs_toList]
  have hbx : bs x.data.toList = x := by apply ba_ext; rw [bs_toList]
  have HBT := Lib.hid hbt
  have HBX := Lib.hid hbx
  clear hc h hs hL hbase hbt hbx
  cases hN : isName t.data.toList with
  | false =>
    have HP := Lib.hid (rnote_err (x := x.data.toList) (show noteC L t.data.toList n = 4 from if_pos hN) (by decide) HR.out)
    have HN := Lib.hid hN
    clear hN
    go_enter Tryd.func42, Tryd.ntmps42
    go_wp2_with fail
    refine (RIsName_any t ht w).mono ?_
    rintro e w1 ⟨rfl, rfl⟩
    rw [HN.out]
    go_wp2
    go_ret
    exact HP.out
  | true =>
    have hnf : ¬ isName t.data.toList = false := by rw [hN]; simp
    have HN := Lib.hid hN
    clear hN
    rcases first_or L t.data.toList with ⟨k, hk, he, hno⟩ | hno
    · have hgl := getL_at hk he hno
      have hal : anL L t.data.toList = L[k].2.1 := by unfold anL; rw [hgl]; rfl
      have FIND := Lib.hid (RFind_hit rb base _ L HL.out t w HR.out k hk he hno)
      obtain ⟨g, rfl, hcells⟩ := HC.out (by omega)
      obtain ⟨c1, c2, c3⟩ := hcells k hk
      have b1 : (0 : Int) ≤ (k : Int) := by omega
      have b2 : (k : Int) < (L.length : Int) := by omega
      clear hcells hno
      by_cases hw : n = wrap64 (L[k].2.1 + 1)
      · have hwi : (n != wrap64 (L[k].2.1 + 1)) = false := by rw [hw]; simp
        have hcode : noteC L t.data.toList n = 0 := (if_neg hnf).trans ((if_neg (by rw [hal]; exact not_not_intro hw)).trans (if_neg (fun h => by rw [hgl] at h; exact absurd h.1 (by simp))))
        have hput := putL_set (n := n) (s := x.data.toList) HS.out hk he
        have ho := HR.out.own
        have g0 := ho.frozenAt (k * 3)
        have g1 := ho.frozenAt (k * 3 + 1)
        have g2 := ho.frozenAt (k * 3 + 2)
        have hgr : g ≠ rb := HR.out.ne g rfl
        have HP : Hid (RNotePost rb base (.slice (some ⟨g, 0, none⟩) L.length c) L t.data.toList n x.data.toList w (.returned (.int .i64 0)) (((w.setCell ⟨g, k * 3, none⟩ (.string t)).setCell ⟨g, k * 3 + 1, none⟩ (.int .i64 n)).setCell ⟨g, k * 3 + 2, none⟩ (.string x))) := Lib.hid (by
          obtain ⟨o1, q1⟩ := ho.stored (k * 3) (.string t)
          obtain ⟨o2, q2⟩ := o1.stored (k * 3 + 1) (.int .i64 n)
          obtain ⟨o3, q3⟩ := o2.stored (k * 3 + 2) (.string x)
          have hrow : (((w.setCell ⟨g, k * 3, none⟩ (.string t)).setCell ⟨g, k * 3 + 1, none⟩ (.int .i64 n)).setCell ⟨g, k * 3 + 2, none⟩ (.string x)).heap[rb]? = w.heap[rb]? := (set_keep (Ne.symm hgr)).trans ((set_keep (Ne.symm hgr)).trans (set_keep (Ne.symm hgr)))
          have hl : lastRow (L.set k (t.data.toList, n, x.data.toList)) = _ := lastRow_set L k hk (t.data.toList, n, x.data.toList)
          have e1 : VT t.data.toList = .string t := by rw [← HBT.out]; simp [bs_toList, HBT.out]
          have e2 : VT x.data.toList = .string x := by rw [← HBX.out]; simp [bs_toList, HBX.out]
          simp only [e1, e2] at hl
          refine ⟨_, by rw [hcode], ?_, .inl rfl, ?_⟩
          · unfold noteLs
            rw [if_pos hcode, hput]
            exact ⟨hrow.trans HR.out.row, by rw [hl, List.length_set]; exact o3, HR.out.ne⟩
          · exact ⟨rfl, rfl, rfl, by simp, fun j _ _ h2 => by
              have hj : j ≠ g := fun e => h2 (by rw [e]; rfl)
              exact (set_keep hj).trans ((set_keep hj).trans (set_keep hj))⟩)
        clear hgl hal he hw hnf hcode hput ho hgr
        go_enter Tryd.func42, Tryd.ntmps42
        go_wp2_with fail
        refine (RIsName_any t ht w).mono ?_
        rintro e w1 ⟨rfl, rfl⟩
        rw [HN.out]
        go_wp2_with fail
        refine (FIND.out).mono ?_
        rintro e w1 ⟨rfl, rfl⟩
        go_wp2
        go_ret
        exact HP.out
      · have hwi : (n != wrap64 (L[k].2.1 + 1)) = true := by simpa using hw
        have HP := Lib.hid (rnote_err (x := x.data.toList) (show noteC L t.data.toList n = 8 from (if_neg hnf).trans (if_pos (by rw [hal]; exact hw))) (by decide) HR.out)
        clear hgl hal he hw hnf
        go_enter Tryd.func42, Tryd.ntmps42
        go_wp2_with fail
        refine (RIsName_any t ht w).mono ?_
        rintro e w1 ⟨rfl, rfl⟩
        rw [HN.out]
        go_wp2_with fail
        refine (FIND.out).mono ?_
        rintro e w1 ⟨rfl, rfl⟩
        go_wp2
        go_ret
        exact HP.out
    · have hgl := getL_none hno
      have hal : anL L t.data.toList = 0 := by unfold anL; rw [hgl]; rfl
      have h01 : wrap64 (0 + 1) = 1 := by unfold wrap64; rfl
      have FIND := Lib.hid (RFind_miss rb base _ L HL.out t w HR.out hno)
      have HNO := Lib.hid hno
      clear hno
      by_cases hw : n = 1
      · have hwi : (n != 1) = false := by rw [hw]; rfl
        have hwn : ¬ n ≠ wrap64 (anL L t.data.toList + 1) := by rw [hal, h01]; exact not_not_intro hw
        by_cases h20 : 20 ≤ L.length
        · have h20i : (20 : Int) ≤ (L.length : Int) := by omega
          have HP := Lib.hid (rnote_err (x := x.data.toList) (show noteC L t.data.toList n = 7 from (if_neg hnf).trans ((if_neg hwn).trans (if_pos ⟨by rw [hgl]; rfl, h20⟩))) (by decide) HR.out)
          clear hgl hal hw hnf hwn h01 h20
          go_enter Tryd.func42, Tryd.ntmps42
          go_wp2_with fail
          refine (RIsName_any t ht w).mono ?_
          rintro e w1 ⟨rfl, rfl⟩
          rw [HN.out]
          go_wp2_with fail
          refine (FIND.out).mono ?_
          rintro e w1 ⟨rfl, rfl⟩
          go_wp2
          go_ret
          exact HP.out
        · have h20i : ¬ (20 : Int) ≤ (L.length : Int) := by omega
          have hcode : noteC L t.data.toList n = 0 := (if_neg hnf).trans ((if_neg hwn).trans (if_neg (fun h => h20 h.2)))
          have HCD := Lib.hid hcode
          have HRD : Hid (RdC w w.heap.size 3 (.slice A L.length c) L.length (lastRow L)) := Lib.hid (RdC.ownM HR.out.own)
          have hcap : L.length ≤ c := by
            obtain ⟨_, _, hv0, _, h1, _⟩ := HRD.out
            injection hv0 with _ _ h3
            omega
          clear hgl hal hw hnf hwn h01 hcode h20
          go_enter Tryd.func42, Tryd.ntmps42
          go_wp2_with fail
          refine (RIsName_any t ht w).mono ?_
          rintro e w1 ⟨rfl, rfl⟩
          rw [HN.out]
          go_wp2_with fail
          refine (FIND.out).mono ?_
          rintro e w1 ⟨rfl, rfl⟩
          go_wp2
          go_loop [12] (fun va => ∃ j : Nat, va = .int .i64 j ∧ j ≤ L.length ∧ Hid (∀ i (hi : i < L.length), i < j → bytesBefore L[i].1 t.data.toList = true)) (fun va => L.length - (intOf va).toNat)
          case atStart => exact ⟨0, rfl, Nat.zero_le _, fun i _ h => absurd h (Nat.not_lt_zero _)⟩
          case round =>
            obtain ⟨j, rfl, hj, hbef⟩ := hrel
            by_cases hjl : j < L.length
            · have b1 : (0 : Int) ≤ (j : Int) := by omega
              have b2 : (j : Int) < (L.length : Int) := by omega
              have hcmp : Op.bytesLess (bs L[j].1).toList t.toList = bytesBefore L[j].1 t.data.toList := by rw [before_less, ByteArray.toList_eq, bs_toList, ByteArray.toList_eq]
              obtain ⟨g, hA, hcells⟩ := HC.out (by omega)
              obtain ⟨c1, _, _⟩ := hcells j hjl
              subst hA
              by_cases hb : bytesBefore L[j].1 t.data.toList = true
              · have hbi : Op.bytesLess (bs L[j].1).toList t.toList = true := hcmp.trans hb
                have HN2 : Hid (∀ i (hi : i < L.length), i < j + 1 → bytesBefore L[i].1 t.data.toList = true) := Lib.hid fun i hi h => by
                  rcases Nat.lt_or_ge i j with h1 | h1
                  · exact hbef.out i hi h1
                  · obtain rfl : i = j := by omega
                    exact hb
                clear hcells hcmp hb hbef
                go_wp2
                go_round
                case rel => exact ⟨j + 1, by go_num, hjl, HN2⟩
                case measure => simp [intOf]; omega
              · have hb' : bytesBefore L[j].1 t.data.toList = false := by simpa using hb
                have hbi : Op.bytesLess (bs L[j].1).toList t.toList = false := hcmp.trans hb'
                have h2 : ∀ (hj : j < L.length), bytesBefore L[j].1 t.data.toList = false := fun _ => hb'
                clear hcells hcmp hb hb'
                have hput := putL_ins (t := t.data.toList) (n := n) (s := x.data.toList) (L := L) hj hbef.out h2 HNO.out
                have HT1 : Hid (RdC w w.heap.size 3 (.slice (some ⟨g, 0, none⟩) j c) j ((lastRow L).take (j * 3))) := Lib.hid (HRD.out.takeM j hj)
                have HT3 : Hid (RdC w w.heap.size 3 (.slice (some ⟨g, j * 3, none⟩) (L.length - j) (c - j)) (L.length - j) ((lastRow L).drop (j * 3))) := Lib.hid (by have h := HRD.out.cutM j hj; rw [if_neg (by omega), Option.map_some, add_eqM, Nat.zero_add] at h; exact h)
                have HO1 : Hid (∀ u ∈ (lastRow L).take (j * 3), u.oneCell' = true) := Lib.hid (fun u hu => lastRow_one L u (List.mem_of_mem_take hu))
                have HO3 : Hid (∀ u ∈ (((lastRow L).drop (j * 3)) : List Value), u.oneCell' = true) := Lib.hid (fun u hu => lastRow_one L u (List.mem_of_mem_drop hu))
                obtain ⟨PL, hPL⟩ : ∃ PL, PL = putL t.data.toList n x.data.toList L := ⟨_, rfl⟩
                have hpl : PL.length = 0 + j + 1 + (L.length - j) := by rw [hPL, hput, List.length_append, List.length_take, List.length_cons, List.length_drop]; omega
                have HPR : Hid (∀ (w7 : World) (v7 : Value), w7.ownsRow w.heap.size 121 3 v7 (0 + j + 1 + (L.length - j)) (([] ++ (lastRow L).take (j * 3)) ++ [.string t, .int .i64 n, .string x] ++ ((lastRow L).drop (j * 3))) → w7.ownsRow w.heap.size 121 3 v7 PL.length (lastRow PL)) := Lib.hid (fun w7 v7 ho => by
                  have e1 : VT t.data.toList = .string t := by rw [← HBT.out]; simp [bs_toList, HBT.out]
                  have e2 : VT x.data.toList = .string x := by rw [← HBX.out]; simp [bs_toList, HBX.out]
                  have hl : lastRow PL = ([] ++ (lastRow L).take (j * 3)) ++ [.string t, .int .i64 n, .string x] ++ ((lastRow L).drop (j * 3)) := by
                    rw [hPL, hput, lastRow_append, lastRow_take, lastRow_drop]
                    show lastRow (L.take j) ++ (lastCells (t.data.toList, n, x.data.toList) ++ lastRow (L.drop j)) = _
                    unfold lastCells
                    simp only [e1, e2]
                    simp [show lastRow [] = [] from rfl]
                  rw [hpl, hl]; exact ho)
                have HP : Hid (∀ (w7 : World) (v7 : Value), w7.ownsRow w.heap.size 121 3 v7 PL.length (lastRow PL) → Below w.heap.size w w7 → RNotePost rb base (.slice (some ⟨g, 0, none⟩) L.length c) L t.data.toList n x.data.toList w (.returned (.int .i64 0)) (w7.setCell ⟨rb, 0, none⟩ v7)) := Lib.hid (fun w7 v7 ho hb => by
                  refine ⟨v7, by rw [HCD.out], ?_, .inr fun b hb' => own_ge ho hb', ?_⟩
                  · unfold noteLs
                    rw [if_pos HCD.out, ← hPL]
                    have h1 : w7.heap[rb]? = _ := (hb.block rb hrbl).trans HR.out.row
                    exact ⟨set_row h1, (ownsRow_setCell_below ho (a := ⟨rb, 0, none⟩) hrbl v7).mono HB.out, fun b hb' => by have := own_ge ho hb'; omega⟩
                  · exact ⟨hb.os, hb.tape, hb.output, by have := hb.size; simpa using this, fun i hi h1 _ => (set_keep h1).trans (hb.block i hi)⟩)
                have q1 : (0 : Int) ≤ (j : Int) := by omega
                have q2 : (j : Int) ≤ (L.length : Int) := by omega
                have q3 : (j : Int) ≤ (c : Int) := by omega
                clear hput hpl hPL h2 hbef
                go_wp2_with (first | (at_builtin; refine wpList_append_rdM rfl (.tmp 74) (.tmp 80) 78 rfl w.heap.size 121 i0 (.agg #[.string ByteArray.empty, .int .i64 0, .string ByteArray.empty]) 3 40 Tryd.underlying78 hi hz0 hz1 hz2 rfl (by decide) _ 0 [] rfl (World.ownsRow_nil _ _ _ _) w.heap.size _ j ((lastRow L).take (j * 3)) rfl HT1.out HO1.out (by unfold maxLen; omega) (by omega) (Nat.le_refl _) ?_; intro v5 w5 ho5 hg5; have hS5 : Below w.heap.size w w5 := below_grownM (Below.refl _ _) (Nat.le_refl _) (World.ownsRow_nil w w.heap.size 121 3) hg5; have c05 := (hS5.cell (p := ⟨rb, 0, none⟩) hrbl).trans c0) | (at_builtin; refine wpList_append_own _ rfl (.tmp 82) (.tmp 87) 78 rfl w.heap.size 121 i0 (.agg #[.string ByteArray.empty, .int .i64 0, .string ByteArray.empty]) 3 40 Tryd.underlying78 hi hz0 hz1 hz2 rfl (by decide) _ _ _ rfl (ho5.alloc _) ⟨w5.heap.size, 0, none⟩ 1 1 [.string t, .int .i64 n, .string x] rfl rfl (cell_new3 _ _ _ _ _) (by simp [Value.oneCell']) (by unfold maxLen; omega) (by omega) (by have := hS5.size; simp; omega) ?_; intro v6 w6 ho6 hg6 _; have hS6 : Below w.heap.size w w6 := below_append hS5 hS5.size ho5 hg6; have c06 := (hS6.cell (p := ⟨rb, 0, none⟩) hrbl).trans c0) | (at_builtin; refine wpList_append_rdM rfl (.tmp 90) (.tmp 96) 78 rfl w.heap.size 121 i0 (.agg #[.string ByteArray.empty, .int .i64 0, .string ByteArray.empty]) 3 40 Tryd.underlying78 hi hz0 hz1 hz2 rfl (by decide) _ _ _ rfl ho6 w.heap.size _ (L.length - j) ((lastRow L).drop (j * 3)) rfl (HT3.out.below hS6) HO3.out (by unfold maxLen; omega) (by omega) hS6.size ?_; intro v7 w7 ho7 hg7; have hS7 : Below w.heap.size w w7 := below_grownM hS6 hS6.size ho6 hg7; have ho8 := HPR.out w7 v7 ho7; obtain ⟨A7, c7, hv7⟩ := own_formM ho8; subst hv7; have hrow7 := (hS7.block rb hrbl).trans HR.out.row; have d0 := cell_of_row w7 rb 0 _ _ _ hrow7; have e0 := frozen_of_row w7 rb 0 _ _ hrow7) | fail)
                go_ret
                exact HP.out _ _ ho8 hS7
            · obtain rfl : j = L.length := by omega
              have h2 : ∀ (hj : L.length < L.length), bytesBefore L[L.length].1 t.data.toList = false := fun hj => absurd hj (Nat.lt_irrefl _)
              by_cases hcl : c = L.length
              · subst hcl
                have hput := putL_ins (t := t.data.toList) (n := n) (s := x.data.toList) (L := L) hj hbef.out h2 HNO.out
                have HT1 : Hid (RdC w w.heap.size 3 (.slice A L.length L.length) L.length ((lastRow L).take (L.length * 3))) := Lib.hid (HRD.out.takeM L.length hj)
                have HT3 := Lib.hid trivial
                have HO1 : Hid (∀ u ∈ (lastRow L).take (L.length * 3), u.oneCell' = true) := Lib.hid (fun u hu => lastRow_one L u (List.mem_of_mem_take hu))
                have HO3 : Hid (∀ u ∈ ([] : List Value), u.oneCell' = true) := Lib.hid (fun u hu => absurd hu List.not_mem_nil)
                obtain ⟨PL, hPL⟩ : ∃ PL, PL = putL t.data.toList n x.data.toList L := ⟨_, rfl⟩
                have hpl : PL.length = 0 + L.length + 1 + 0 := by rw [hPL, hput, List.length_append, List.length_take, List.length_cons, List.length_drop]; omega
                have HPR : Hid (∀ (w7 : World) (v7 : Value), w7.ownsRow w.heap.size 121 3 v7 (0 + L.length + 1 + 0) (([] ++ (lastRow L).take (L.length * 3)) ++ [.string t, .int .i64 n, .string x] ++ []) → w7.ownsRow w.heap.size 121 3 v7 PL.length (lastRow PL)) := Lib.hid (fun w7 v7 ho => by
                  have e1 : VT t.data.toList = .string t := by rw [← HBT.out]; simp [bs_toList, HBT.out]
                  have e2 : VT x.data.toList = .string x := by rw [← HBX.out]; simp [bs_toList, HBX.out]
                  have hl : lastRow PL = ([] ++ (lastRow L).take (L.length * 3)) ++ [.string t, .int .i64 n, .string x] ++ [] := by
                    rw [hPL, hput, lastRow_append, lastRow_take, List.drop_of_length_le (Nat.le_refl _)]
                    show lastRow (L.take L.length) ++ (lastCells (t.data.toList, n, x.data.toList) ++ lastRow []) = _
                    unfold lastCells
                    simp only [e1, e2]
                    simp [show lastRow [] = [] from rfl]
                  rw [hpl, hl]; exact ho)
                have HP : Hid (∀ (w7 : World) (v7 : Value), w7.ownsRow w.heap.size 121 3 v7 PL.length (lastRow PL) → Below w.heap.size w w7 → RNotePost rb base (.slice A L.length L.length) L t.data.toList n x.data.toList w (.returned (.int .i64 0)) (w7.setCell ⟨rb, 0, none⟩ v7)) := Lib.hid (fun w7 v7 ho hb => by
                  refine ⟨v7, by rw [HCD.out], ?_, .inr fun b hb' => own_ge ho hb', ?_⟩
                  · unfold noteLs
                    rw [if_pos HCD.out, ← hPL]
                    have h1 : w7.heap[rb]? = _ := (hb.block rb hrbl).trans HR.out.row
                    exact ⟨set_row h1, (ownsRow_setCell_below ho (a := ⟨rb, 0, none⟩) hrbl v7).mono HB.out, fun b hb' => by have := own_ge ho hb'; omega⟩
                  · exact ⟨hb.os, hb.tape, hb.output, by have := hb.size; simpa using this, fun i hi h1 _ => (set_keep h1).trans (hb.block i hi)⟩)
                have q1 : (0 : Int) ≤ (L.length : Int) := by omega
                have q2 : (L.length : Int) ≤ (L.length : Int) := by omega
                have q3 : (L.length : Int) ≤ (L.length : Int) := by omega
                clear hput hpl hPL h2 hbef
                go_wp2_with (first | (at_builtin; refine wpList_append_rdM rfl (.tmp 74) (.tmp 80) 78 rfl w.heap.size 121 i0 (.agg #[.string ByteArray.empty, .int .i64 0, .string ByteArray.empty]) 3 40 Tryd.underlying78 hi hz0 hz1 hz2 rfl (by decide) _ 0 [] rfl (World.ownsRow_nil _ _ _ _) w.heap.size _ L.length ((lastRow L).take (L.length * 3)) rfl HT1.out HO1.out (by unfold maxLen; omega) (by omega) (Nat.le_refl _) ?_; intro v5 w5 ho5 hg5; have hS5 : Below w.heap.size w w5 := below_grownM (Below.refl _ _) (Nat.le_refl _) (World.ownsRow_nil w w.heap.size 121 3) hg5; have c05 := (hS5.cell (p := ⟨rb, 0, none⟩) hrbl).trans c0) | (at_builtin; refine wpList_append_own _ rfl (.tmp 82) (.tmp 87) 78 rfl w.heap.size 121 i0 (.agg #[.string ByteArray.empty, .int .i64 0, .string ByteArray.empty]) 3 40 Tryd.underlying78 hi hz0 hz1 hz2 rfl (by decide) _ _ _ rfl (ho5.alloc _) ⟨w5.heap.size, 0, none⟩ 1 1 [.string t, .int .i64 n, .string x] rfl rfl (cell_new3 _ _ _ _ _) (by simp [Value.oneCell']) (by unfold maxLen; omega) (by omega) (by have := hS5.size; simp; omega) ?_; intro v6 w6 ho6 hg6 _; have hS6 : Below w.heap.size w w6 := below_append hS5 hS5.size ho5 hg6; have c06 := (hS6.cell (p := ⟨rb, 0, none⟩) hrbl).trans c0) | (at_builtin; refine wpList_append_rdM rfl (.tmp 90) (.tmp 96) 78 rfl w.heap.size 121 i0 (.agg #[.string ByteArray.empty, .int .i64 0, .string ByteArray.empty]) 3 40 Tryd.underlying78 hi hz0 hz1 hz2 rfl (by decide) _ _ _ rfl ho6 w.heap.size _ 0 [] rfl (RdC.nilM _ _ _ _ _) HO3.out (by unfold maxLen; omega) (by omega) hS6.size ?_; intro v7 w7 ho7 hg7; have hS7 : Below w.heap.size w w7 := below_grownM hS6 hS6.size ho6 hg7; have ho8 := HPR.out w7 v7 ho7; obtain ⟨A7, c7, hv7⟩ := own_formM ho8; subst hv7; have hrow7 := (hS7.block rb hrbl).trans HR.out.row; have d0 := cell_of_row w7 rb 0 _ _ _ hrow7; have e0 := frozen_of_row w7 rb 0 _ _ hrow7) | fail)
                go_ret
                exact HP.out _ _ ho8 hS7
              · have hcl2 : ¬ L.length = c := fun h => hcl h.symm
                have hput := putL_ins (t := t.data.toList) (n := n) (s := x.data.toList) (L := L) hj hbef.out h2 HNO.out
                have HT1 : Hid (RdC w w.heap.size 3 (.slice A L.length c) L.length ((lastRow L).take (L.length * 3))) := Lib.hid (HRD.out.takeM L.length hj)
                have HT3 := Lib.hid trivial
                have HO1 : Hid (∀ u ∈ (lastRow L).take (L.length * 3), u.oneCell' = true) := Lib.hid (fun u hu => lastRow_one L u (List.mem_of_mem_take hu))
                have HO3 : Hid (∀ u ∈ ([] : List Value), u.oneCell' = true) := Lib.hid (fun u hu => absurd hu List.not_mem_nil)
                obtain ⟨PL, hPL⟩ : ∃ PL, PL = putL t.data.toList n x.data.toList L := ⟨_, rfl⟩
                have hpl : PL.length = 0 + L.length + 1 + 0 := by rw [hPL, hput, List.length_append, List.length_take, List.length_cons, List.length_drop]; omega
                have HPR : Hid (∀ (w7 : World) (v7 : Value), w7.ownsRow w.heap.size 121 3 v7 (0 + L.length + 1 + 0) (([] ++ (lastRow L).take (L.length * 3)) ++ [.string t, .int .i64 n, .string x] ++ []) → w7.ownsRow w.heap.size 121 3 v7 PL.length (lastRow PL)) := Lib.hid (fun w7 v7 ho => by
                  have e1 : VT t.data.toList = .string t := by rw [← HBT.out]; simp [bs_toList, HBT.out]
                  have e2 : VT x.data.toList = .string x := by rw [← HBX.out]; simp [bs_toList, HBX.out]
                  have hl : lastRow PL = ([] ++ (lastRow L).take (L.length * 3)) ++ [.string t, .int .i64 n, .string x] ++ [] := by
                    rw [hPL, hput, lastRow_append, lastRow_take, List.drop_of_length_le (Nat.le_refl _)]
                    show lastRow (L.take L.length) ++ (lastCells (t.data.toList, n, x.data.toList) ++ lastRow []) = _
                    unfold lastCells
                    simp only [e1, e2]
                    simp [show lastRow [] = [] from rfl]
                  rw [hpl, hl]; exact ho)
                have HP : Hid (∀ (w7 : World) (v7 : Value), w7.ownsRow w.heap.size 121 3 v7 PL.length (lastRow PL) → Below w.heap.size w w7 → RNotePost rb base (.slice A L.length c) L t.data.toList n x.data.toList w (.returned (.int .i64 0)) (w7.setCell ⟨rb, 0, none⟩ v7)) := Lib.hid (fun w7 v7 ho hb => by
                  refine ⟨v7, by rw [HCD.out], ?_, .inr fun b hb' => own_ge ho hb', ?_⟩
                  · unfold noteLs
                    rw [if_pos HCD.out, ← hPL]
                    have h1 : w7.heap[rb]? = _ := (hb.block rb hrbl).trans HR.out.row
                    exact ⟨set_row h1, (ownsRow_setCell_below ho (a := ⟨rb, 0, none⟩) hrbl v7).mono HB.out, fun b hb' => by have := own_ge ho hb'; omega⟩
                  · exact ⟨hb.os, hb.tape, hb.output, by have := hb.size; simpa using this, fun i hi h1 _ => (set_keep h1).trans (hb.block i hi)⟩)
                have q1 : (0 : Int) ≤ (L.length : Int) := by omega
                have q2 : (L.length : Int) ≤ (L.length : Int) := by omega
                have q3 : (L.length : Int) ≤ (c : Int) := by omega
                clear hput hpl hPL h2 hbef
                go_wp2_with (first | (at_builtin; refine wpList_append_rdM rfl (.tmp 74) (.tmp 80) 78 rfl w.heap.size 121 i0 (.agg #[.string ByteArray.empty, .int .i64 0, .string ByteArray.empty]) 3 40 Tryd.underlying78 hi hz0 hz1 hz2 rfl (by decide) _ 0 [] rfl (World.ownsRow_nil _ _ _ _) w.heap.size _ L.length ((lastRow L).take (L.length * 3)) rfl HT1.out HO1.out (by unfold maxLen; omega) (by omega) (Nat.le_refl _) ?_; intro v5 w5 ho5 hg5; have hS5 : Below w.heap.size w w5 := below_grownM (Below.refl _ _) (Nat.le_refl _) (World.ownsRow_nil w w.heap.size 121 3) hg5; have c05 := (hS5.cell (p := ⟨rb, 0, none⟩) hrbl).trans c0) | (at_builtin; refine wpList_append_own _ rfl (.tmp 82) (.tmp 87) 78 rfl w.heap.size 121 i0 (.agg #[.string ByteArray.empty, .int .i64 0, .string ByteArray.empty]) 3 40 Tryd.underlying78 hi hz0 hz1 hz2 rfl (by decide) _ _ _ rfl (ho5.alloc _) ⟨w5.heap.size, 0, none⟩ 1 1 [.string t, .int .i64 n, .string x] rfl rfl (cell_new3 _ _ _ _ _) (by simp [Value.oneCell']) (by unfold maxLen; omega) (by omega) (by have := hS5.size; simp; omega) ?_; intro v6 w6 ho6 hg6 _; have hS6 : Below w.heap.size w w6 := below_append hS5 hS5.size ho5 hg6; have c06 := (hS6.cell (p := ⟨rb, 0, none⟩) hrbl).trans c0) | (at_builtin; refine wpList_append_rdM rfl (.tmp 90) (.tmp 96) 78 rfl w.heap.size 121 i0 (.agg #[.string ByteArray.empty, .int .i64 0, .string ByteArray.empty]) 3 40 Tryd.underlying78 hi hz0 hz1 hz2 rfl (by decide) _ _ _ rfl ho6 w.heap.size _ 0 [] rfl (RdC.nilM _ _ _ _ _) HO3.out (by unfold maxLen; omega) (by omega) hS6.size ?_; intro v7 w7 ho7 hg7; have hS7 : Below w.heap.size w w7 := below_grownM hS6 hS6.size ho6 hg7; have ho8 := HPR.out w7 v7 ho7; obtain ⟨A7, c7, hv7⟩ := own_formM ho8; subst hv7; have hrow7 := (hS7.block rb hrbl).trans HR.out.row; have d0 := cell_of_row w7 rb 0 _ _ _ hrow7; have e0 := frozen_of_row w7 rb 0 _ _ hrow7) | fail)
                go_ret
                exact HP.out _ _ ho8 hS7
      · have hwi : (n != 1) = true := by simpa using hw
        have HP := Lib.hid (rnote_err (x := x.data.toList) (show noteC L t.data.toList n = 8 from (if_neg hnf).trans (if_pos (by rw [hal, h01]; exact hw))) (by decide) HR.out)
        clear hgl hal hw hnf h01
        go_enter Tryd.func42, Tryd.ntmps42
        go_wp2_with fail
        refine (RIsName_any t ht w).mono ?_
        rintro e w1 ⟨rfl, rfl⟩
        rw [HN.out]
        go_wp2_with fail
        refine (FIND.out).mono ?_
        rintro e w1 ⟨rfl, rfl⟩
        go_wp2
        go_ret
        exact HP.out
end Go.Proofs.YtpacalklcdlhoaaDoor
