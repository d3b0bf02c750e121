/- Walks of owner.each, Check. Condition: the sentinels that are read lie as named (SomeS). -/
import Derived.Test.YtpacalklcdlhoaaGreatDoorEv
import Derived.Test.YtpacalklcdlhoaaGreatDoorPlainO
import Derived.Test.YtpacalklcdlhoaaGreatDoorRead
import Derived.Test.YtpacalklcdlhoaaGreatDoorHeld
import Derived.Deep.QuietTactic
import Derived.BigQuiet
import Derived.Deep.LoopGhost
namespace Go.Proofs.YtpacalklcdlhoaaGreatDoor
open Go.RowKit Go.Lib

abbrev VI' (n : Int) : Value := .int .i64 n
theorem onode_yes (n : Int) (w : World) (h : nodeOk n) : Calls Tryz.prog 39 #[.int .i64 n] w fun e w' => e = .returned (.bool true) ∧ w = w' := by
  obtain ⟨h1, h2⟩ := h
  go_enter Tryz.func39, Tryz.ntmps39
  go_wp2
  go_ret
  exact ⟨rfl, rfl⟩
theorem onode_no (n : Int) (w : World) (h : ¬ nodeOk n) : Calls Tryz.prog 39 #[.int .i64 n] w fun e w' => e = .returned (.bool false) ∧ w = w' := by
  by_cases h1 : n < 1
  · clear h
    go_enter Tryz.func39, Tryz.ntmps39
    go_wp2
    go_ret
    exact ⟨rfl, rfl⟩
  · have h2 : ¬ n ≤ 6 := by unfold nodeOk at h; omega
    have h3 : decide (n ≤ 6) = false := decide_eq_false h2
    clear h
    go_enter Tryz.func39, Tryz.ntmps39
    go_wp2
    go_ret
    exact ⟨rfl, rfl⟩
set_option maxRecDepth 100000 in
set_option maxHeartbeats 1000000 in
theorem oeach_any (a : Nat → Addr) (v : Value) (l : List Int) (B : Nat) (w : World) (hv : Rd w B v (l.map VI')) (hl : l.length ≤ 2 ^ 62) (hs : SomeS [1, 7] a w) :
    Calls Tryz.prog 33 #[v] w fun e w' => ∃ r, e = .returned r ∧ EV a r (nodesErr 0 none l).1 (nodesErr 0 none l).2 w' ∧ Below w.heap.size w w' := by
  obtain ⟨A, c, rfl, _, hv⟩ := hv
  rw [List.length_map]
  have HV := Lib.hid hv
  have s1 : w.cell? ⟨2, 0, none⟩ = some (sval a 1) := hs 1 (by simp)
  have s7 : w.cell? ⟨7, 0, none⟩ = some (sval a 7) := hs 7 (by simp)
  unfold sval at s1 s7
  clear hv hs
  go_enter Tryz.func33, Tryz.ntmps33
  go_wp2
  go_loopg [7] l.length (fun gh vi wr => w = wr ∧ ∃ k : Nat, vi = .int .i64 k ∧ k ≤ l.length ∧ gh = l.length - k ∧ Hid (nodesErr 0 none l = nodesErr k (if k = 0 then none else l[k - 1]?) (l.drop k)))
  case atStart => exact ⟨rfl, 0, rfl, Nat.zero_le _, rfl, Lib.hid rfl⟩
  case round =>
    obtain ⟨rfl, k, rfl, hk, rfl, hN⟩ := hrel
    by_cases hlt : k < l.length
    · obtain ⟨g, o, rfl, hg, hc⟩ := HV.out (map_ne hlt)
      have c1 : w.cell? ⟨g, o + k, none⟩ = some (.int .i64 l[k]) := hc k _ (by simp [hlt])
      have hd : l.drop k = l[k] :: l.drop (k + 1) := List.drop_eq_getElem_cons hlt
      have b1 : (k : Int) < (l.length : Int) := by omega
      have b2 : (0 : Int) ≤ (k : Int) := by omega
      by_cases hn : nodeOk l[k]
      · by_cases h0 : k = 0
        · subst h0
          have HE : Hid (nodesErr 0 none l = nodesErr (0 + 1) (if 0 + 1 = 0 then none else l[0 + 1 - 1]?) (l.drop (0 + 1))) := Lib.hid (by
            rw [hN.out, hd, nodesErr_next _ _ _ _ hn (fun q e => by cases e), if_neg (by omega), show l[0 + 1 - 1]? = some l[0] from List.getElem?_eq_getElem hlt])
          have HN := Lib.hid hn
          have c1' : w.cell? ⟨g, o, none⟩ = some (.int .i64 l[0]) := c1
          clear hn hd hc hN c1
          go_wp2_with (go_at_call 39; refine (onode_yes _ _ HN.out).mono ?_; rintro e w5 ⟨rfl, rfl⟩)
          go_roundg (l.length - (0 + 1))
          case measure => omega
          case rel => exact ⟨rfl, 0 + 1, by go_num, hlt, rfl, HE⟩
        · have hk1 : k - 1 < l.length := by omega
          have c2 : w.cell? ⟨g, o + (k - 1), none⟩ = some (.int .i64 l[k - 1]) := hc (k - 1) _ (by simp [hk1])
          have hp : (if k = 0 then none else l[k - 1]?) = some l[k - 1] := by rw [if_neg h0]; exact List.getElem?_eq_getElem hk1
          have b3 : (0 : Int) < (k : Int) := by omega
          by_cases hq : l[k] ≤ l[k - 1]
          · have HE : Hid (nodesErr 0 none l = (8, (k : Int))) := Lib.hid (by rw [hN.out, hd, hp, nodesErr_order _ _ _ _ hn hq])
            have HN := Lib.hid hn
            clear hn hd hc hp hN h0
            go_wp2_with (go_at_call 39; refine (onode_yes _ _ HN.out).mono ?_; rintro e w5 ⟨rfl, rfl⟩)
            go_ret
            exact ⟨_, rfl, by rw [HE.out]; exact EV_mk a w 7 (by decide) _ _, (Below.refl _ w).alloc (Nat.le_refl _) _⟩
          · have HE : Hid (nodesErr 0 none l = nodesErr (k + 1) (if k + 1 = 0 then none else l[k + 1 - 1]?) (l.drop (k + 1))) := Lib.hid (by
              rw [hN.out, hd, hp, nodesErr_next _ _ _ _ hn (fun q e => by injection e with e; omega), if_neg (by omega), show l[k + 1 - 1]? = some l[k] from List.getElem?_eq_getElem hlt])
            have HN := Lib.hid hn
            clear hn hd hc hp hN h0
            go_wp2_with (go_at_call 39; refine (onode_yes _ _ HN.out).mono ?_; rintro e w5 ⟨rfl, rfl⟩)
            go_roundg (l.length - (k + 1))
            case measure => omega
            case rel => exact ⟨rfl, k + 1, by go_num, hlt, rfl, HE⟩
      · have HE : Hid (nodesErr 0 none l = (2, (k : Int))) := Lib.hid (by rw [hN.out, hd, nodesErr_bound _ _ _ _ hn])
        have HN := Lib.hid hn
        clear hn hd hc
        go_wp2_with (go_at_call 39; refine (onode_no _ _ HN.out).mono ?_; rintro e w5 ⟨rfl, rfl⟩)
        go_ret
        exact ⟨_, rfl, by rw [HE.out]; exact EV_mk a w 1 (by decide) _ _, (Below.refl _ w).alloc (Nat.le_refl _) _⟩
    · obtain rfl : k = l.length := by omega
      have HE : Hid (nodesErr 0 none l = (0, -1)) := Lib.hid (by rw [hN.out, List.drop_eq_nil_of_le (Nat.le_refl _)]; rfl)
      go_wp2
      go_ret
      exact ⟨_, rfl, by rw [HE.out]; exact EV.none a w, Below.refl _ _⟩
theorem oCheck_any (a : Nat → Addr) (v : Value) (l : List Int) (B : Nat) (w : World) (hv : Rd w B v (l.map VI')) (hl : l.length ≤ 2 ^ 62) (hs : SomeS [1, 4, 7] a w) :
    Calls Tryz.prog 7 #[v] w fun e w' => ∃ r, e = .returned r ∧ EV a r (checkErr l).1 (checkErr l).2 w' ∧ Below w.heap.size w w' := by
  obtain ⟨A, c, hvv, hlc, hx⟩ := hv
  rw [List.length_map] at hvv
  subst hvv
  have s4 : w.cell? ⟨0, 0, none⟩ = some (sval a 4) := hs 4 (by simp)
  have HS := Lib.hid (show SomeS [1, 7] a w from fun k hk => hs k (by simp at hk ⊢; omega))
  have HV : Hid (Rd w B (.slice A l.length c) (l.map VI')) := ⟨A, c, by rw [List.length_map], hlc, hx⟩
  unfold sval at s4
  clear hs hx
  by_cases h0 : l = []
  · subst h0
    go_enter Tryz.func7, Tryz.ntmps7
    go_wp2
    go_ret
    exact ⟨_, rfl, EV.sent a w 4 (by decide), Below.refl _ _⟩
  · have hq : ((l.length : Int) == 0) = false := by
      have : l.length ≠ 0 := fun e => h0 (List.length_eq_zero_iff.1 e)
      simpa using this
    have HE : Hid (checkErr l = nodesErr 0 none l) := Lib.hid (by unfold checkErr; rw [if_neg h0])
    clear h0
    go_enter Tryz.func7, Tryz.ntmps7
    go_wp2_with fail
    refine (oeach_any a _ l B _ HV.out hl HS.out).mono ?_
    rintro e w1 ⟨r, rfl, hr, hb⟩
    have HR := Lib.hid hr
    clear hr
    go_wp2
    go_ret
    exact ⟨_, rfl, by rw [HE.out]; exact HR.out, hb⟩
end Go.Proofs.YtpacalklcdlhoaaGreatDoor
