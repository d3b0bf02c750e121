/- Walks of the reference's nodesFault, NodesFault. No conditions but bounds. -/
import Derived.Test.YtpacalklcdlhoaaGreatDoorOwnC
import Derived.Test.YtpacalklcdlhoaaGreatDoorPrW
namespace Go.Proofs.YtpacalklcdlhoaaGreatDoor
open Go.RowKit Go.Lib

theorem RBare_any (c : Int) (w : World) : Calls Tryz.prog 34 #[.int .i64 c] w fun e w' => e = .returned (.agg #[.int .i64 c, .int .i64 (-1)]) ∧ Below w.heap.size w w' := by
  have hb0 : Below w.heap.size w (w.alloc (.cells #[.int .i64 c, .int .i64 (-1)] 32)) := (Below.refl _ w).alloc (Nat.le_refl _) _
  go_enter Tryz.func34, Tryz.ntmps34
  go_wp2
  go_returns
  exact ⟨rfl, hb0⟩
theorem RFine_any (w : World) : Calls Tryz.prog 57 #[] w fun e w' => e = .returned (.agg #[.int .i64 0, .int .i64 (-1)]) ∧ Below w.heap.size w w' := by
  have hb0 : Below w.heap.size w (w.alloc (.cells #[.int .i64 0, .int .i64 (-1)] 32)) := (Below.refl _ w).alloc (Nat.le_refl _) _
  go_enter Tryz.func57, Tryz.ntmps57
  go_wp2
  go_returns
  exact ⟨rfl, hb0⟩
set_option maxRecDepth 100000 in
set_option maxHeartbeats 2000000 in
theorem RnodesFault_any (v : Value) (l : List Int) (w : World) (hv : Rd w w.heap.size v (l.map VI')) (hl : l.length ≤ 2 ^ 40) :
    Calls Tryz.prog 35 #[v] w fun e w' => e = .returned (.agg #[.int .i64 (nodesErr 0 none l).1, .int .i64 (nodesErr 0 none l).2]) ∧ Below w.heap.size w w' := by
  have hb0 : Below w.heap.size w (w.alloc (.cells #[.int .i64 0, .int .i64 0] 32)) := (Below.refl _ w).alloc (Nat.le_refl _) _
  have hc0 : (w.alloc (.cells #[.int .i64 0, .int .i64 0] 32)).cell? ⟨w.heap.size, 0, none⟩ = some (.int .i64 0) := by rw [World.cell?_alloc_at _ _ _ _ rfl]; rfl
  have hc1 : (w.alloc (.cells #[.int .i64 0, .int .i64 0] 32)).cell? ⟨w.heap.size, 1, none⟩ = some (.int .i64 0) := by rw [World.cell?_alloc_at _ _ _ _ rfl]; rfl
  have hf : ∀ j, (w.alloc (.cells #[.int .i64 0, .int .i64 0] 32)).frozen? ⟨w.heap.size, j, none⟩ = false := fun j => World.frozen?_alloc_new _ _ _ _
  have f0 := hf 0
  have f1 := hf 1
  have hv0 := hv.below hb0
  obtain ⟨A, c, rfl, _, hx⟩ := hv0
  rw [List.length_map]
  have HV := Lib.hid hx
  have fin : ∀ (q : Nat) (x y : Int), ∀ (W : World), W = (w.alloc (.cells #[.int .i64 0, .int .i64 0] 32)).drewN q → W.cell? ⟨w.heap.size, 0, none⟩ = some (.int .i64 0) → True := fun _ _ _ _ _ _ => trivial
  clear hx hf hv fin
  go_enter Tryz.func35, Tryz.ntmps35
  go_wp2
  generalize w.alloc (.cells #[.int .i64 0, .int .i64 0] 32) = w0 at *
  go_loopg [3] l.length (fun gh vi wr => ∃ k : Nat, vi = .int .i64 k ∧ k ≤ l.length ∧ gh = l.length - k ∧ (∃ q, wr = w0.drewN q) ∧ Hid (nodesErr 0 none l = nodesErr k (if k = 0 then none else l[k - 1]?) (l.drop k)))
  case atStart => exact ⟨0, rfl, Nat.zero_le _, rfl, ⟨0, rfl⟩, Lib.hid rfl⟩
  case round =>
    obtain ⟨k, rfl, hk, rfl, ⟨q, rfl⟩, hN⟩ := hrel
    by_cases hlt : k < l.length
    · obtain ⟨g, o, rfl, hg, hc⟩ := HV.out (map_ne hlt)
      have c1 : w0.cell? ⟨g, o + k, none⟩ = some (.int .i64 l[k]) := hc k _ (by simp [hlt])
      have hd : l.drop k = l[k] :: l.drop (k + 1) := List.drop_eq_getElem_cons hlt
      have b1 : (k : Int) < (l.length : Int) := by omega
      have b2 : (0 : Int) ≤ (k : Int) := by omega
      by_cases hn : nodeOk l[k]
      · obtain ⟨n1, n2⟩ := hn
        have hn : nodeOk l[k] := ⟨n1, n2⟩
        by_cases h0 : k = 0
        · subst h0
          have HE : Hid (nodesErr 0 none l = nodesErr (0 + 1) (if 0 + 1 = 0 then none else l[0 + 1 - 1]?) (l.drop (0 + 1))) := Lib.hid (by
            rw [hN.out, hd, nodesErr_next _ _ _ _ hn (fun q e => by cases e), if_neg (by omega), show l[0 + 1 - 1]? = some l[0] from List.getElem?_eq_getElem hlt])
          have c1' : w0.cell? ⟨g, o, none⟩ = some (.int .i64 l[0]) := c1
          clear hn hd hc hN c1
          go_wp2
          go_roundg (l.length - (0 + 1))
          case measure => omega
          case rel => exact ⟨0 + 1, by go_num, hlt, rfl, ⟨q, rfl⟩, HE⟩
        · have hk1 : k - 1 < l.length := by omega
          have c2 : w0.cell? ⟨g, o + (k - 1), none⟩ = some (.int .i64 l[k - 1]) := hc (k - 1) _ (by simp [hk1])
          have hp : (if k = 0 then none else l[k - 1]?) = some l[k - 1] := by rw [if_neg h0]; exact List.getElem?_eq_getElem hk1
          have b3 : (0 : Int) < (k : Int) := by omega
          have b4 : (0 : Int) ≤ (k : Int) - 1 := by omega
          have b5 : (k : Int) - 1 < (l.length : Int) := by omega
          by_cases hq : l[k] ≤ l[k - 1]
          · have HE : Hid (nodesErr 0 none l = (8, (k : Int))) := Lib.hid (by rw [hN.out, hd, hp, nodesErr_order _ _ _ _ hn hq])
            clear hn hd hc hp hN h0
            have t0 := fun n => (rd_cells (w0.drewN n) w.heap.size _ _ (.int .i64 8) (.int .i64 (k : Int)) hc0 hc1).1
            have t1 := fun n => (rd_cells (w0.drewN n) w.heap.size _ _ (.int .i64 8) (.int .i64 (k : Int)) hc0 hc1).2
            have t2 : ∀ n, ((w0.drewN n).setCell ⟨w.heap.size, 0, none⟩ (.int .i64 8)).cell? ⟨w.heap.size, 0, none⟩ = some (.int .i64 8) := fun n => World.cell?_setCell_same _ _ _ hc0
            have hb7 := fun n => (((below_drewN hb0 n).setCell (p := ⟨w.heap.size, 0, none⟩) (Nat.le_refl _) (.int .i64 8)).setCell (p := ⟨w.heap.size, 1, none⟩) (Nat.le_refl _) (.int .i64 (k : Int)))
            go_wp2
            go_quiet (fail)
            go_wp2
            refine bodyPost_ret (v := .agg #[.int .i64 8, .int .i64 (k : Int)]) (by simp [results, Tryz.results35, go_sem, t0, t1, t2]) rfl ?_
            exact ⟨by rw [HE.out], hb7 _⟩
          · have HE : Hid (nodesErr 0 none l = nodesErr (k + 1) (if k + 1 = 0 then none else l[k + 1 - 1]?) (l.drop (k + 1))) := Lib.hid (by
              rw [hN.out, hd, hp, nodesErr_next _ _ _ _ hn (fun q e => by injection e with e; omega), if_neg (by omega), show l[k + 1 - 1]? = some l[k] from List.getElem?_eq_getElem hlt])
            clear hn hd hc hp hN h0
            go_wp2
            go_quiet (fail)
            go_wp2
            go_roundg (l.length - (k + 1))
            case measure => omega
            case rel => exact ⟨k + 1, by go_num, hlt, rfl, ⟨_, rfl⟩, HE⟩
      · have HE : Hid (nodesErr 0 none l = (2, (k : Int))) := Lib.hid (by rw [hN.out, hd, nodesErr_bound _ _ _ _ hn])
        have hn2 : l[k] < 1 ∨ 6 < l[k] := by unfold nodeOk at hn; omega
        clear hn hd hc hN
        rcases hn2 with n1 | n1
        · have t0 := fun n => (rd_cells (w0.drewN n) w.heap.size _ _ (.int .i64 2) (.int .i64 (k : Int)) hc0 hc1).1
          have t1 := fun n => (rd_cells (w0.drewN n) w.heap.size _ _ (.int .i64 2) (.int .i64 (k : Int)) hc0 hc1).2
          have t2 : ∀ n, ((w0.drewN n).setCell ⟨w.heap.size, 0, none⟩ (.int .i64 2)).cell? ⟨w.heap.size, 0, none⟩ = some (.int .i64 2) := fun n => World.cell?_setCell_same _ _ _ hc0
          have hb7 := fun n => (((below_drewN hb0 n).setCell (p := ⟨w.heap.size, 0, none⟩) (Nat.le_refl _) (.int .i64 2)).setCell (p := ⟨w.heap.size, 1, none⟩) (Nat.le_refl _) (.int .i64 (k : Int)))
          go_wp2
          refine bodyPost_ret (v := .agg #[.int .i64 2, .int .i64 (k : Int)]) (by simp [results, Tryz.results35, go_sem, t0, t1, t2]) rfl ?_
          exact ⟨by rw [HE.out], hb7 _⟩
        · have t0 := fun n => (rd_cells (w0.drewN n) w.heap.size _ _ (.int .i64 2) (.int .i64 (k : Int)) hc0 hc1).1
          have t1 := fun n => (rd_cells (w0.drewN n) w.heap.size _ _ (.int .i64 2) (.int .i64 (k : Int)) hc0 hc1).2
          have t2 : ∀ n, ((w0.drewN n).setCell ⟨w.heap.size, 0, none⟩ (.int .i64 2)).cell? ⟨w.heap.size, 0, none⟩ = some (.int .i64 2) := fun n => World.cell?_setCell_same _ _ _ hc0
          have hb7 := fun n => (((below_drewN hb0 n).setCell (p := ⟨w.heap.size, 0, none⟩) (Nat.le_refl _) (.int .i64 2)).setCell (p := ⟨w.heap.size, 1, none⟩) (Nat.le_refl _) (.int .i64 (k : Int)))
          go_wp2
          refine bodyPost_ret (v := .agg #[.int .i64 2, .int .i64 (k : Int)]) (by simp [results, Tryz.results35, go_sem, t0, t1, t2]) rfl ?_
          exact ⟨by rw [HE.out], hb7 _⟩
    · obtain rfl : k = l.length := by omega
      have HE : Hid (nodesErr 0 none l = (0, -1)) := Lib.hid (by rw [hN.out, List.drop_eq_nil_of_le (Nat.le_refl _)]; rfl)
      have hz0 : w.heap.size < w0.heap.size := World.block_lt_of_cell? w0 _ hc0
      go_wp2_with fail
      refine (RFine_any _).mono ?_
      rintro e w2 ⟨rfl, hb2⟩
      have d0 := (hb2.cell (p := ⟨w.heap.size, 0, none⟩) hz0).trans hc0
      have d1 := (hb2.cell (p := ⟨w.heap.size, 1, none⟩) hz0).trans hc1
      have g0 : w2.frozen? ⟨w.heap.size, 0, none⟩ = false := (hb2.frozen (p := ⟨w.heap.size, 0, none⟩) hz0).trans f0
      have g1 : w2.frozen? ⟨w.heap.size, 1, none⟩ = false := (hb2.frozen (p := ⟨w.heap.size, 1, none⟩) hz0).trans f1
      obtain ⟨t0, t1⟩ := rd_cells w2 w.heap.size _ _ (.int .i64 0) (.int .i64 (-1)) d0 d1
      have t2 : (w2.setCell ⟨w.heap.size, 0, none⟩ (.int .i64 0)).cell? ⟨w.heap.size, 0, none⟩ = some (.int .i64 0) := World.cell?_setCell_same _ _ _ d0
      have hb3 : Below w.heap.size w w2 := (below_drewN hb0 q).trans (hb2.mono hb0.size)
      have hb7 := (hb3.setCell (p := ⟨w.heap.size, 0, none⟩) (Nat.le_refl _) (.int .i64 0)).setCell (p := ⟨w.heap.size, 1, none⟩) (Nat.le_refl _) (.int .i64 (-1))
      clear hb2 hb3
      go_wp2
      refine bodyPost_ret (v := .agg #[.int .i64 0, .int .i64 (-1)]) (by simp [results, Tryz.results35, go_sem, t0, t1, t2]) rfl ?_
      exact ⟨by rw [HE.out], hb7⟩
theorem RNodesFault_any (v : Value) (l : List Int) (w : World) (hv : Rd w w.heap.size v (l.map VI')) (hl : l.length ≤ 2 ^ 40) :
    Calls Tryz.prog 8 #[v] w fun e w' => e = .returned (.agg #[.int .i64 (checkErr l).1, .int .i64 (checkErr l).2]) ∧ Below w.heap.size w w' := by
  have hb0 : Below w.heap.size w (w.alloc (.cells #[.int .i64 0, .int .i64 0] 32)) := (Below.refl _ w).alloc (Nat.le_refl _) _
  have hc0 : (w.alloc (.cells #[.int .i64 0, .int .i64 0] 32)).cell? ⟨w.heap.size, 0, none⟩ = some (.int .i64 0) := by rw [World.cell?_alloc_at _ _ _ _ rfl]; rfl
  have hc1 : (w.alloc (.cells #[.int .i64 0, .int .i64 0] 32)).cell? ⟨w.heap.size, 1, none⟩ = some (.int .i64 0) := by rw [World.cell?_alloc_at _ _ _ _ rfl]; rfl
  have hf : ∀ j, (w.alloc (.cells #[.int .i64 0, .int .i64 0] 32)).frozen? ⟨w.heap.size, j, none⟩ = false := fun j => World.frozen?_alloc_new _ _ _ _
  have f0 := hf 0
  have f1 := hf 1
  have hz0 : w.heap.size < (w.alloc (.cells #[.int .i64 0, .int .i64 0] 32)).heap.size := by simp
  have HV := Lib.hid ((hv.below hb0).more hb0.size)
  obtain ⟨A, c, hvv, _, _⟩ := hv
  rw [List.length_map] at hvv
  subst hvv
  clear hf
  have main : ∀ (w0 w2 : World) (x y : Int), Below w.heap.size w w0 → w.heap.size < w0.heap.size → w0.cell? ⟨w.heap.size, 0, none⟩ = some (.int .i64 0) → w0.cell? ⟨w.heap.size, 1, none⟩ = some (.int .i64 0) → w0.frozen? ⟨w.heap.size, 0, none⟩ = false → w0.frozen? ⟨w.heap.size, 1, none⟩ = false → Below w0.heap.size w0 w2 →
      w2.cell? ⟨w.heap.size, 0, none⟩ = some (.int .i64 0) ∧ w2.cell? ⟨w.heap.size, 1, none⟩ = some (.int .i64 0) ∧ w2.frozen? ⟨w.heap.size, 0, none⟩ = false ∧ w2.frozen? ⟨w.heap.size, 1, none⟩ = false ∧
      ((w2.setCell ⟨w.heap.size, 0, none⟩ (.int .i64 x)).setCell ⟨w.heap.size, 1, none⟩ (.int .i64 y)).cell? ⟨w.heap.size, 0, none⟩ = some (.int .i64 x) ∧ ((w2.setCell ⟨w.heap.size, 0, none⟩ (.int .i64 x)).setCell ⟨w.heap.size, 1, none⟩ (.int .i64 y)).cell? ⟨w.heap.size, 1, none⟩ = some (.int .i64 y) ∧
      (w2.setCell ⟨w.heap.size, 0, none⟩ (.int .i64 x)).cell? ⟨w.heap.size, 0, none⟩ = some (.int .i64 x) ∧ Below w.heap.size w ((w2.setCell ⟨w.heap.size, 0, none⟩ (.int .i64 x)).setCell ⟨w.heap.size, 1, none⟩ (.int .i64 y)) := by
    intro w0 w2 x y hb0 hz0 hc0 hc1 f0 f1 hb2
    have d0 := (hb2.cell (p := ⟨w.heap.size, 0, none⟩) hz0).trans hc0
    have d1 := (hb2.cell (p := ⟨w.heap.size, 1, none⟩) hz0).trans hc1
    obtain ⟨t0, t1⟩ := rd_cells w2 w.heap.size _ _ (.int .i64 x) (.int .i64 y) d0 d1
    exact ⟨d0, d1, (hb2.frozen (p := ⟨w.heap.size, 0, none⟩) hz0).trans f0, (hb2.frozen (p := ⟨w.heap.size, 1, none⟩) hz0).trans f1, t0, t1, World.cell?_setCell_same _ _ _ d0,
      ((hb0.trans (hb2.mono hb0.size)).setCell (p := ⟨w.heap.size, 0, none⟩) (Nat.le_refl _) _).setCell (p := ⟨w.heap.size, 1, none⟩) (Nat.le_refl _) _⟩
  have MAIN := Lib.hid main
  clear main
  by_cases h0 : l = []
  · subst h0
    have HE : Hid (checkErr [] = (5, -1)) := Lib.hid rfl
    go_enter Tryz.func8, Tryz.ntmps8
    go_wp2_with fail
    generalize w.alloc (.cells #[.int .i64 0, .int .i64 0] 32) = w0 at *
    refine (RBare_any 5 _).mono ?_
    rintro e w2 ⟨rfl, hb2⟩
    obtain ⟨d0, d1, g0, g1, t0, t1, t2, hb7⟩ := MAIN.out w0 w2 5 (-1) hb0 hz0 hc0 hc1 f0 f1 hb2
    clear hb2
    go_wp2
    refine bodyPost_ret (v := .agg #[.int .i64 5, .int .i64 (-1)]) (by simp [results, Tryz.results8, go_sem, t0, t1, t2]) rfl ?_
    exact ⟨by rw [HE.out], hb7⟩
  · have hq : ((l.length : Int) == 0) = false := by
      have : l.length ≠ 0 := fun e => h0 (List.length_eq_zero_iff.1 e)
      simpa using this
    have HE : Hid (checkErr l = nodesErr 0 none l) := Lib.hid (by unfold checkErr; rw [if_neg h0])
    clear h0
    go_enter Tryz.func8, Tryz.ntmps8
    go_wp2_with fail
    generalize w.alloc (.cells #[.int .i64 0, .int .i64 0] 32) = w0 at *
    refine (RnodesFault_any _ l w0 HV.out hl).mono ?_
    rintro e w2 ⟨rfl, hb2⟩
    generalize nodesErr 0 none l = r at *
    obtain ⟨r1, r2⟩ := r
    obtain ⟨d0, d1, g0, g1, t0, t1, t2, hb7⟩ := MAIN.out w0 w2 r1 r2 hb0 hz0 hc0 hc1 f0 f1 hb2
    clear hb2
    go_wp2
    refine bodyPost_ret (v := .agg #[.int .i64 r1, .int .i64 r2]) (by simp [results, Tryz.results8, go_sem, t0, t1, t2]) rfl ?_
    exact ⟨by rw [HE.out], hb7⟩
end Go.Proofs.YtpacalklcdlhoaaGreatDoor
