/- Walks of strconv.ParseUint (base 16), print.Unhex, strconv.Atoi, print.Number, print.Read. Condition: strconv's two error variables hold errors (Perrs), the tables and ErrText lie as named. -/
import Derived.Test.YtbokckjlgjnnjaaGreatDoorPrU
import Derived.Test.YtbokckjlgjnnjaaGreatDoorPrT
import Derived.Test.YtbokckjlgjnnjaaGreatDoorPlainC
import Derived.Test.YtbokckjlgjnnjaaGreatDoorEv
import Derived.Test.YtbokckjlgjnnjaaGreatDoorAtoi
namespace Go.Proofs.YtbokckjlgjnnjaaGreatDoor
open Go.RowKit Go.Lib

theorem ParseUint_ok (t : ByteArray) (ht : t.size ≤ 2 ^ 40) (n : Nat) (h : parseHex t.data.toList = .ok n) (w : World) :
    Calls Tryz.prog 105 #[.string t, .int .i64 16, .int .i64 32] w fun e w' => e = .returned (.tuple #[.int .u64 (n : Int), .nilIface]) ∧ Below w.heap.size w w' := by
  have H := Lib.hid h
  clear h
  go_enter Tryz.func105, Tryz.ntmps105
  go_wp2_with fail
  refine (IParseUint_16 t ht _).mono ?_
  rintro e w1 ⟨x, r, rfl, hp, hb⟩
  rcases hp with ⟨m, h1, rfl, rfl⟩ | ⟨h1, _, _⟩ | ⟨h1, _, _⟩
  · have hm : m = n := by rw [H.out] at h1; injection h1 with h1; exact h1.symm
    subst hm
    clear h1
    go_wp2
    go_ret2
    exact ⟨rfl, hb⟩
  · rw [H.out] at h1; cases h1
  · rw [H.out] at h1; cases h1
theorem ParseUint_bad (t : ByteArray) (ht : t.size ≤ 2 ^ 40) (h : ∀ n, parseHex t.data.toList ≠ .ok n) (w : World) (hp : Perrs w) :
    Calls Tryz.prog 105 #[.string t, .int .i64 16, .int .i64 32] w fun e w' => ∃ x T q, e = .returned (.tuple #[.int .u64 x, .iface T q]) ∧ Below w.heap.size w w' := by
  have H := Lib.hid h
  have HP := Lib.hid hp
  clear h hp
  go_enter Tryz.func105, Tryz.ntmps105
  go_wp2_with fail
  refine (IParseUint_16 t ht _).mono ?_
  rintro e w1 ⟨x, r, rfl, hp, hb⟩
  have HP1 := HP.out.below hb
  rcases hp with ⟨m, h1, rfl, rfl⟩ | ⟨h1, rfl, rfl⟩ | ⟨h1, rfl, rfl⟩
  · exact absurd h1 (H.out m)
  · obtain ⟨T, q, hs⟩ := HP1.s
    have HS := Lib.hid hs
    clear h1 hs HP1
    go_wp2_with fail
    refine (Tryz.strconv_toError_syntax _ t _ _ _ _ (by omega) HS.out (.inr ⟨_, _, rfl⟩)).mono ?_
    rintro e w2 ⟨N, rfl, _, _, hb2⟩
    have hb3 := hb.trans (hb2.mono hb.size)
    clear hb hb2
    go_wp2
    go_ret2
    exact ⟨_, _, _, rfl, hb3⟩
  · obtain ⟨T, q, hs⟩ := HP1.r
    have HS := Lib.hid hs
    clear h1 hs HP1
    go_wp2_with fail
    refine (Tryz.strconv_toError_range _ t _ _ _ _ (by omega) HS.out (.inr ⟨_, _, rfl⟩)).mono ?_
    rintro e w2 ⟨N, rfl, _, _, hb2⟩
    have hb3 := hb.trans (hb2.mono hb.size)
    clear hb hb2
    go_wp2
    go_ret2
    exact ⟨_, _, _, rfl, hb3⟩
theorem neq_of_beq {a b : ByteArray} {x : Bool} (h : (a.toList == b.toList) = x) : (a.toList != b.toList) = !x := by rw [bne, h]
theorem PUnhex_some (t : ByteArray) (ht : t.size ≤ 2 ^ 40) (n : Nat) (h : unhexOf t.data.toList = some n) (w : World) (htab : Tabs w) :
    Calls Tryz.prog 75 #[.string t] w fun e w' => e = .returned (.tuple #[.int .u32 (n : Int), .bool true]) ∧ Below w.heap.size w w' := by
  obtain ⟨hn, ht8⟩ := unhexOf_some h
  have hpx : parseHex t.data.toList = .ok n := by rw [ht8]; exact parseHex_hex8 n hn
  have hq : ((bs (hex8 n)).toList == t.toList) = true := by
    rw [← bs_of t, bs_beq, ht8]; simp
  have hq2 := neq_of_beq hq
  have H := Lib.hid hpx
  have HT := Lib.hid htab
  clear h ht8 hpx htab
  go_enter Tryz.func75, Tryz.ntmps75
  go_wp2_with fail
  refine (ParseUint_ok t ht n H.out _).mono ?_
  rintro e w1 ⟨rfl, hb⟩
  have HT1 := Lib.hid (HT.out.below hb)
  go_wp2_with fail
  refine (Hex_any n hn _ HT1.out).mono ?_
  rintro e w2 ⟨rfl, hb2⟩
  have hb3 := hb.trans (hb2.mono hb.size)
  clear hb hb2
  go_wp2
  go_ret2
  exact ⟨rfl, hb3⟩
theorem PUnhex_none (t : ByteArray) (ht : t.size ≤ 2 ^ 40) (h : unhexOf t.data.toList = none) (w : World) (htab : Tabs w) (hp : Perrs w) :
    Calls Tryz.prog 75 #[.string t] w fun e w' => e = .returned (.tuple #[.int .u32 0, .bool false]) ∧ Below w.heap.size w w' := by
  have HT := Lib.hid htab
  have HP := Lib.hid hp
  clear htab hp
  by_cases hok : ∃ n, parseHex t.data.toList = .ok n
  · obtain ⟨n, hpx⟩ := hok
    have hn := parseHex_lt hpx
    have hne : hex8 n ≠ t.data.toList := fun e => by
      unfold unhexOf at h
      rw [hpx] at h
      simp [e] at h
    have hq : ((bs (hex8 n)).toList == t.toList) = false := by
      rw [← bs_of t, bs_beq]; exact decide_eq_false hne
    have hq2 := neq_of_beq hq
    have H := Lib.hid hpx
    clear h hpx hne
    go_enter Tryz.func75, Tryz.ntmps75
    go_wp2_with fail
    refine (ParseUint_ok t ht n H.out _).mono ?_
    rintro e w1 ⟨rfl, hb⟩
    have HT1 := Lib.hid (HT.out.below hb)
    go_wp2_with fail
    refine (Hex_any n hn _ HT1.out).mono ?_
    rintro e w2 ⟨rfl, hb2⟩
    have hb3 := hb.trans (hb2.mono hb.size)
    clear hb hb2
    go_wp2
    go_ret2
    exact ⟨rfl, hb3⟩
  · have H := Lib.hid (fun n e => hok ⟨n, e⟩ : ∀ n, parseHex t.data.toList ≠ .ok n)
    clear h hok
    go_enter Tryz.func75, Tryz.ntmps75
    go_wp2_with fail
    refine (ParseUint_bad t ht H.out _ HP.out).mono ?_
    rintro e w1 ⟨x, T, q, rfl, hb⟩
    go_wp2
    go_ret2
    exact ⟨rfl, hb⟩
end Go.Proofs.YtbokckjlgjnnjaaGreatDoor
