/- Walk of the reference's ReadHelds. No conditions but bounds. -/
import Derived.Test.YtpanoplcamdnkaaGreatDoorBfM
import Derived.Test.YtpanoplcamdnkaaGreatDoorBfR
import Derived.Test.YtpanoplcamdnkaaGreatDoorRefI
namespace Go.Proofs.YtpanoplcamdnkaaGreatDoor
open Go.RowKit Go.Lib

abbrev fltV (f : Int × Int) : Value := .agg #[.int .i64 f.1, .int .i64 f.2]
theorem RBareF_any (c : Int) (w : World) : Calls Tryz.prog 81 #[.int .i64 c] w fun e w' => e = .returned (fltV (c, -1)) ∧ Below w.heap.size w w' := by
  have hb1 := fun x y => ((Below.refl w.heap.size w).alloc (Nat.le_refl _) (.cells #[x, y] 76))
  go_enter Tryz.func81, Tryz.ntmps81
  go_wp2
  go_returns
  exact ⟨rfl, hb1 _ _⟩
theorem RFine_any (w : World) : Calls Tryz.prog 85 #[] w fun e w' => e = .returned (fltV (0, -1)) ∧ Below w.heap.size w w' := by
  have hb1 := fun x y => ((Below.refl w.heap.size w).alloc (Nat.le_refl _) (.cells #[x, y] 76))
  go_enter Tryz.func85, Tryz.ntmps85
  go_wp2
  go_returns
  exact ⟨rfl, hb1 _ _⟩
theorem numZ6_none {d : Bytes} (h : numOf d 6 = none) : numZ d 6 = -1 := by unfold numZ; rw [numR_eq d 6 (by decide), h]
theorem numZ6_some {d : Bytes} {n : Nat} (h : numOf d 6 = some n) : numZ d 6 = (n : Int) := by unfold numZ; rw [numR_eq d 6 (by decide), h]
theorem cut_atG (b : UInt8) (l : Bytes) (dn k : Nat) (hk : k < l.length) (h : dn ≤ k) (he : l[k] = b) (hno : ∀ j (hj : j < l.length), dn ≤ j → j < k → l[j] ≠ b) :
    byteCut b (l.drop dn) = some ((l.take k).drop dn, l.drop (k + 1)) := by
  have e : l.drop dn = (l.take k).drop dn ++ b :: l.drop (k + 1) := by
    have h1 : l = l.take k ++ b :: l.drop (k + 1) := by
      conv => lhs; rw [← List.take_append_drop k l]
      rw [List.drop_eq_getElem_cons hk, he]
    conv => lhs; rw [h1]
    rw [List.drop_append_of_le_length (by rw [List.length_take]; omega)]
  rw [e]
  refine byteCut_of b _ _ fun hm => ?_
  obtain ⟨i, hi, hx⟩ := List.getElem_of_mem hm
  rw [List.length_drop, List.length_take] at hi
  have hj : dn + i < l.length := by omega
  refine hno (dn + i) hj (by omega) (by omega) ?_
  rw [← hx]; simp
theorem cut_endG (b : UInt8) (l : Bytes) (dn : Nat) (hno : ∀ j (hj : j < l.length), dn ≤ j → l[j] ≠ b) : byteCut b (l.drop dn) = none := by
  rw [byteCut_none]
  intro hm
  obtain ⟨i, hi, hx⟩ := List.getElem_of_mem hm
  rw [List.length_drop] at hi
  refine hno (dn + i) (by omega) (by omega) ?_
  rw [← hx]; simp
theorem num_no32 {l : Bytes} {m k : Nat} (h : numOf l m = some k) : (32 : UInt8) ∉ l := fun hm => by
  rw [(numOf_some h).2.2] at hm
  have := decDigits_digit k 32 hm
  exact absurd this.1 (by decide)
/-- a head in two words, or it is none -/
theorem head_two {head i u : Bytes} (h : cutAll 32 head = [i, u]) : byteCut 32 head = some (i, u) := by
  unfold cutAll at h
  cases hc : byteCut 32 head with
  | none => rw [cutAux_none 32 _ [] ((byteCut_none 32 _).1 hc)] at h; cases h
  | some p =>
    obtain ⟨x, y⟩ := p
    obtain ⟨e1, e2⟩ := byteCut_some 32 _ x y hc
    rw [e1, cutAux_some 32 x y [] e2] at h
    injection h with h1 h2
    have hy : (32 : UInt8) ∉ y := fun hy => by
      cases hd : byteCut 32 y with
      | none => exact (byteCut_none 32 y).1 hd hy
      | some q =>
        obtain ⟨f1, f2⟩ := byteCut_some 32 y q.1 q.2 hd
        rw [f1, cutAux_some 32 q.1 q.2 [] f2] at h2
        injection h2 with _ h2
        exact cutAux_ne 32 q.2 [] h2
    rw [cutAux_none 32 y [] hy] at h2
    injection h2 with h2 _
    simp only [List.nil_append] at h1 h2
    rw [← h1, ← h2]
theorem oneF_words {s head rest : Bytes} (h1 : byteCut 10 s = some (head, rest)) (h : (cutAll 32 head).length ≠ 2) : oneF s = none := by
  cases h2 : byteCut 32 head with
  | none => exact oneF_none2 h1 h2
  | some p =>
    obtain ⟨i, u⟩ := p
    cases h4 : numOf u 6 with
    | none => exact oneF_none4 h1 h2 h4
    | some k =>
      exfalso
      obtain ⟨e1, e2⟩ := byteCut_some 32 _ i u h2
      apply h
      unfold cutAll
      rw [e1, cutAux_some 32 i u [] e2, cutAux_none 32 u [] (num_no32 h4)]
      rfl
theorem gb_box2r {w w' : World} {d : Nat} {x y : Value} {r : Option Nat} (h : w.grownBy w' r) (hne : some d ≠ r) (hx : Box2 d x y w) : Box2 d x y w' :=
  ⟨(h.cell_far ⟨d, 0, none⟩ hx.lt hne).trans hx.c0, (h.cell_far ⟨d, 1, none⟩ hx.lt hne).trans hx.c1, (h.frozen_far ⟨d, 0, none⟩ hx.lt hne).trans hx.f0, (h.frozen_far ⟨d, 1, none⟩ hx.lt hne).trans hx.f1⟩
def RReadPost (s : Bytes) (w : World) (e : Ending) (w' : World) : Prop := ∃ v, e = .returned (.tuple #[v, fltV (readHF s).2]) ∧ w'.ownsRow w.heap.size 82 4 v (readHF s).1.length (hldRow (readHF s).1) ∧ Below w.heap.size w w'
theorem rread_bad {s : Bytes} {w w' : World} {c t : Int} (h : readHF s = ([], c, t)) (hb : Below w.heap.size w w') : RReadPost s w (.returned (.tuple #[.slice none 0 0, fltV (c, t)])) w' := by
  unfold RReadPost
  rw [h]
  exact ⟨_, rfl, World.ownsRow_nil _ _ _ _, hb⟩
theorem rread_good {s : Bytes} {w w' : World} {v : Value} {L : HldL} {B : Nat} (h : readHF s = (L, 0, -1)) (hv : w'.ownsRow B 82 4 v L.length (hldRow L)) (hB : w.heap.size ≤ B) (hb : Below w.heap.size w w') : RReadPost s w (.returned (.tuple #[v, fltV (0, -1)])) w' := by
  unfold RReadPost
  rw [h]
  exact ⟨_, rfl, own_lower hv hB, hb⟩
theorem rd_two {w : World} {base : Nat} {v : Value} {i u : Bytes} (h : w.ownsRow base 9 1 v 2 [VT i, VT u]) : ∃ g o c, v = .slice (some ⟨g, o, none⟩) 2 c ∧ w.cell? ⟨g, o, none⟩ = some (.string (bs i)) ∧ w.cell? ⟨g, o + 1, none⟩ = some (.string (bs u)) := by
  obtain ⟨A, c, hv, _, hx⟩ := Rd.own h
  obtain ⟨g, o, rfl, hg, hc⟩ := hx (by simp)
  exact ⟨g, o, c, hv, hc 0 _ rfl, hc 1 _ rfl⟩
theorem len_two {α : Type} {l : List α} (h : l.length = 2) : ∃ a b, l = [a, b] := by
  match l, h with
  | [a, b], _ => exact ⟨a, b, rfl⟩
set_option maxRecDepth 100000 in
set_option maxHeartbeats 8000000 in
theorem RReadHelds_any (t : ByteArray) (ht : t.size ≤ 2 ^ 40) (w : World) :
    Calls Tryz.prog 42 #[.string t] w (RReadPost t.data.toList w) := by
  obtain ⟨i0, hi, hz0, hz1, hz2⟩ := info_parts info_held
  have HZ := Lib.hid (size_toList t)
  have hb0 : Below w.heap.size w (w.alloc (.cells #[.int .i64 0, .int .i64 0] 76)) := (Below.refl _ w).alloc (Nat.le_refl _) _
  have HBX0 := Lib.hid (Box2.mk' w (.int .i64 0) (.int .i64 0) 76)
  have HB0 := Lib.hid hb0
  by_cases h4 : 40000 < t.size
  · have h4i : (t.size : Int) > 40000 := by omega
    have HG : Hid (readHF t.data.toList = ([], 2, -1)) := Lib.hid (by unfold readHF; rw [if_pos (by rw [← size_toList]; exact h4)])
    clear hb0 h4
    go_enter Tryz.func42, Tryz.ntmps42
    go_wp2_with fail
    generalize w.alloc (.cells #[.int .i64 0, .int .i64 0] 76) = w0 at *
    refine (RBareF_any 2 w0).mono ?_
    rintro e w1 ⟨rfl, hb1⟩
    have HB := Lib.hid (HB0.out.trans (hb1.mono HB0.out.size))
    have HBX := Lib.hid (HBX0.out.below hb1 HBX0.out.lt)
    clear hb1
    obtain ⟨t0, t1, t2⟩ := HBX.out.rd (.int .i64 2) (.int .i64 (-1))
    have HB9 := Lib.hid (below_set2 HB.out (Nat.le_refl _) (.int .i64 2) (.int .i64 (-1)))
    obtain ⟨d0, d1, f0, f1⟩ := HBX.out
    go_wp2
    refine bodyPost_ret (v := .tuple #[.slice none 0 0, fltV (2, (-1))]) (by simp [results, Tryz.results42, go_sem, t0, t1, t2, fltV]) rfl ?_
    exact rread_bad HG.out HB9.out
  · have h4i : ¬ (t.size : Int) > 40000 := by omega
    have HR : Hid (readHF t.data.toList = readF [] t.data.toList) := Lib.hid (readHF_short (by rw [← size_toList]; exact h4))
    have HW0 : Hid (w.heap.size < (w.alloc (.cells #[.int .i64 0, .int .i64 0] 76)).heap.size) := Lib.hid (by simp)
    clear hb0
    go_enter Tryz.func42, Tryz.ntmps42
    go_wp2
    go_loopg [4, 5] t.size (fun gh v4 v5 wr => ∃ (dn : Nat) (acc : HldL), v5 = .int .i64 dn ∧ dn ≤ t.size ∧ gh = t.size - dn ∧ Hid (readHF t.data.toList = readF acc (t.data.toList.drop dn)) ∧ acc.length ≤ dn ∧ Hid (∀ x ∈ acc, x.text.length ≤ t.size) ∧ Hid (wr.ownsRow (w.heap.size + 1) 82 4 v4 acc.length (hldRow acc)) ∧ Hid (Box2 w.heap.size (.int .i64 0) (.int .i64 0) wr) ∧ Hid (Below w.heap.size w wr) ∧ w.heap.size + 1 ≤ wr.heap.size)
    case atStart => exact ⟨0, [], rfl, Nat.zero_le _, rfl, Lib.hid (by rw [List.drop_zero]; exact HR.out), Nat.le_refl _, Lib.hid (fun x hx => by cases hx), Lib.hid (World.ownsRow_nil _ _ _ _), HBX0, HB0, by simp⟩
    case round =>
      obtain ⟨dn, acc, rfl, hdn, hgm, hrd, hal, hax, hrow, hbx, hB, hsz⟩ := hrel
      have HB := hB
      have HBX := hbx
      by_cases hdl : dn < t.size
      · have hne : t.data.toList.drop dn ≠ [] := fun e => by
          have := congrArg List.length e
          rw [List.length_drop, List.length_nil, ← HZ.out] at this; omega
        have b0 : (dn : Int) < (t.size : Int) := by omega
        go_wp2
        go_loop [6] (fun vk => ∃ k : Nat, vk = .int .i64 k ∧ dn ≤ k ∧ k ≤ t.size ∧ Hid (∀ j (hj : j < t.data.toList.length), dn ≤ j → j < k → t.data.toList[j] ≠ 10)) (fun vk => t.size - (RowKit.intOf vk).toNat)
        case atStart => exact ⟨dn, rfl, Nat.le_refl _, hdn, Lib.hid (fun j _ h1 h2 => absurd h2 (by omega))⟩
        case round =>
          obtain ⟨k, rfl, hk0, hk, hno⟩ := hrel
          have b4 : (0 : Int) ≤ (dn : Int) := by omega
          have b3 : (dn : Int) ≤ (k : Int) := by omega
          have b6 : (k : Int) ≤ (t.size : Int) := by omega
          have b1 : (0 : Int) ≤ (k : Int) := by omega
          have HX := Lib.hid (extract_bs t dn k)
          have HXZ : Hid ((t.extract dn k).size ≤ 2 ^ 40) := Lib.hid (by rw [HX.out, bs_size, List.length_drop, List.length_take, ← HZ.out]; omega)
          have HXD : Hid ((t.extract dn k).data.toList = (t.data.toList.take k).drop dn) := Lib.hid (by rw [HX.out, bs_toList])
          by_cases hkl : k < t.size
          · have hkl' : k < t.data.toList.length := by rw [← HZ.out]; exact hkl
            have b2 : (k : Int) < (t.size : Int) := by omega
            have hc256 := t[k].toNat_lt
            by_cases he : t[k] = 10
            · have hei : ((t[k].toNat : Int) != 10) = false := by rw [he]; rfl
              have hcut := cut_atG 10 t.data.toList dn k hkl' hk0 he hno.out
              have b5 : ((k : Int) == (t.size : Int)) = false := by rw [beq_eq_false_iff_ne]; omega
              clear he hno
              go_wp2_with fail
              refine (RCut_any (t.extract dn k) 32 HXZ.out wr).mono ?_
              rintro e w1 ⟨v7, rfl, ho1, hb1⟩
              rw [HXD.out] at ho1
              have HB1 := Lib.hid (HB.out.trans (hb1.mono HB.out.size))
              have HBX1 := Lib.hid (HBX.out.below hb1 HBX.out.lt)
              have HROW1 := Lib.hid (own_belowI hrow.out hb1)
              have hsz1 := Nat.le_trans hsz hb1.size
              obtain ⟨A4, c4, rfl⟩ := own_formI hrow.out
              clear hb1
              by_cases hl : (cutAll 32 ((t.data.toList.take k).drop dn)).length = 2
              · obtain ⟨i, u, hiu⟩ := len_two hl
                rw [hiu] at ho1
                have hb2 := head_two hiu
                obtain ⟨g7, o7, c7, rfl, r0, r1⟩ := rd_two ho1
                have hzi : i.length ≤ 2 ^ 30 ∧ u.length ≤ 2 ^ 30 := by
                  obtain ⟨e1, _⟩ := byteCut_some _ _ _ _ hb2
                  have := congrArg List.length e1
                  rw [List.length_append, List.length_cons, List.length_drop, List.length_take, ← HZ.out] at this
                  omega
                have HZI := Lib.hid hzi
                have R1 := Lib.hid r1
                have hg7 : g7 < w1.heap.size := World.block_lt_of_cell? w1 _ r0
                clear ho1 hl hiu hzi r1
                go_wp2_with fail
                refine (RReadID_any (bs i) (by rw [bs_size]; exact HZI.out.1) w1).mono ?_
                rintro e w2 ⟨rfl, hb2w⟩
                rw [bs_toList]
                have HBX2 := Lib.hid (HBX1.out.below hb2w HBX1.out.lt)
                have HB2 := Lib.hid (HB1.out.trans (hb2w.mono HB1.out.size))
                have HROW2 := Lib.hid (own_belowI HROW1.out hb2w)
                have hsz2 := Nat.le_trans hsz1 hb2w.size
                have r1 := (hb2w.cell (p := ⟨g7, o7 + 1, none⟩) hg7).trans R1.out
                have hg72 : g7 < w2.heap.size := Nat.lt_of_lt_of_le hg7 hb2w.size
                clear hb2w r0
                cases hri : readId i with
                | none =>
                  have HG : Hid (readHF t.data.toList = ([], 1, (acc.length : Int))) := Lib.hid (by rw [hrd.out, readF_none hne (oneF_none3 hcut hb2 hri)])
                  have HNP := Lib.hid (Box2.mk' w2 (.int .u32 0) (.int .i64 0) 47)
                  have HB3 := Lib.hid (HB2.out.alloc HB2.out.size (.cells #[.int .u32 0, .int .i64 0] 47))
                  have HBX3 := Lib.hid (HBX2.out.alloc (.cells #[.int .u32 0, .int .i64 0] 47))
                  have r1' := (((Below.refl w2.heap.size w2).alloc (Nat.le_refl _) (.cells #[.int .u32 0, .int .i64 0] 47)).cell (p := ⟨g7, o7 + 1, none⟩) hg72).trans r1
                  rw [show idRes none = .tuple #[.agg #[.int .u32 0, .int .i64 0], .int .i64 1] from rfl]
                  clear hcut hb2 hri hrd r1
                  go_wp2_with fail
                  generalize w2.alloc (.cells #[.int .u32 0, .int .i64 0] 47) = w3 at *
                  refine (RNumberOf_any (bs u) 6 (by decide) w3).mono ?_
                  rintro e w4 ⟨rfl, rfl⟩
                  obtain ⟨t0, t1, t2⟩ := HBX3.out.rd (.int .i64 1) (.int .i64 (acc.length : Int))
                  have HB9 := Lib.hid (below_set2 HB3.out (Nat.le_refl _) (.int .i64 1) (.int .i64 (acc.length : Int)))
                  obtain ⟨d0, d1, f0, f1⟩ := HBX3.out
                  go_wp2
                  refine bodyPost_ret (v := .tuple #[.slice none 0 0, fltV (1, (acc.length : Int))]) (by simp [results, Tryz.results42, go_sem, t0, t1, t2, fltV]) rfl ?_
                  exact rread_bad HG.out HB9.out
                | some pn =>
                  obtain ⟨p, n⟩ := pn
                  rw [show idRes (some (p, n)) = .tuple #[.agg #[.int .u32 (p : Int), .int .i64 (n : Int)], .int .i64 0] from rfl]
                  have HX3 := Lib.hid (Box2.mk' w2 (.int .u32 (p : Int)) (.int .i64 (n : Int)) 47)
                  have HB3 := Lib.hid (HB2.out.alloc HB2.out.size (.cells #[.int .u32 (p : Int), .int .i64 (n : Int)] 47))
                  have HBX3 := Lib.hid (HBX2.out.alloc (.cells #[.int .u32 (p : Int), .int .i64 (n : Int)] 47))
                  have HROW3 := Lib.hid (own_belowI HROW2.out ((Below.refl w2.heap.size w2).alloc (Nat.le_refl _) (.cells #[.int .u32 (p : Int), .int .i64 (n : Int)] 47)))
                  have r1' := (((Below.refl w2.heap.size w2).alloc (Nat.le_refl _) (.cells #[.int .u32 (p : Int), .int .i64 (n : Int)] 47)).cell (p := ⟨g7, o7 + 1, none⟩) hg72).trans r1
                  have hsz3 : w.heap.size + 1 ≤ (w2.alloc (.cells #[.int .u32 (p : Int), .int .i64 (n : Int)] 47)).heap.size := by simp; omega
                  obtain ⟨hn6, hp4⟩ := readId_le hri
                  clear r1
                  go_wp2_with fail
                  generalize w2.alloc (.cells #[.int .u32 (p : Int), .int .i64 (n : Int)] 47) = w3 at *
                  refine (RNumberOf_any (bs u) 6 (by decide) w3).mono ?_
                  rintro e w4 ⟨rfl, rfl⟩
                  rw [bs_toList]
                  obtain ⟨x0, x1, _, _⟩ := HX3.out
                  cases hnu : numOf u 6 with
                  | none =>
                    rw [numZ6_none hnu]
                    have HG : Hid (readHF t.data.toList = ([], 1, (acc.length : Int))) := Lib.hid (by rw [hrd.out, readF_none hne (oneF_none4 hcut hb2 hnu)])
                    clear hcut hb2 hri hrd hnu
                    obtain ⟨t0, t1, t2⟩ := HBX3.out.rd (.int .i64 1) (.int .i64 (acc.length : Int))
                    have HB9 := Lib.hid (below_set2 HB3.out (Nat.le_refl _) (.int .i64 1) (.int .i64 (acc.length : Int)))
                    obtain ⟨d0, d1, f0, f1⟩ := HBX3.out
                    go_wp2
                    refine bodyPost_ret (v := .tuple #[.slice none 0 0, fltV (1, (acc.length : Int))]) (by simp [results, Tryz.results42, go_sem, t0, t1, t2, fltV]) rfl ?_
                    exact rread_bad HG.out HB9.out
                  | some m =>
                    rw [numZ6_some hnu]
                    have hm0 : ¬ (m : Int) < 0 := by omega
                    have hm6 := numOf_le6 hnu
                    have W1 : IntKind.i64.wrap ((k : Int) + 1 + (n : Int)) = (k : Int) + 1 + (n : Int) := IntWalk.i64_in _ (by omega)
                    have W2 : IntKind.i64.wrap ((k : Int) + (n : Int)) = (k : Int) + (n : Int) := IntWalk.i64_in _ (by omega)
                    have W3 : IntKind.i64.wrap ((k : Int) + (n : Int) + 2) = (k : Int) + (n : Int) + 2 := IntWalk.i64_in _ (by omega)
                    by_cases hlt : k + 1 + n < t.size
                    · have hltl : k + 1 + n < t.data.toList.length := by rw [← HZ.out]; exact hlt
                      have q1 : ¬ (t.size : Int) ≤ (k : Int) + 1 + (n : Int) := by omega
                      have q2 : (0 : Int) ≤ (k : Int) + 1 + (n : Int) := by omega
                      have q3 : (k : Int) + 1 + (n : Int) < (t.size : Int) := by omega
                      have hrn : (t.data.toList.drop (k + 1))[n]? = some (t[k + 1 + n]) := by
                        rw [List.getElem?_drop, List.getElem?_eq_getElem hltl]; rfl
                      have hc257 := t[k + 1 + n].toNat_lt
                      by_cases he2 : t[k + 1 + n] = 10
                      · have hei2 : ((t[k + 1 + n].toNat : Int) != 10) = false := by rw [he2]; rfl
                        rw [he2] at hrn
                        have hone := oneF_of hcut hb2 hri hnu hrn
                        have htx : ((t.data.toList.drop (k + 1)).take n) = ((t.data.toList.take (k + 1 + n)).drop (k + 1)) := by rw [List.drop_take]; congr 1; omega
                        have hdr : (t.data.toList.drop (k + 1)).drop (n + 1) = t.data.toList.drop (k + n + 2) := by rw [List.drop_drop]; congr 1; omega
                        rw [htx, hdr] at hone
                        have HTXT : Hid (t.extract (k + 1) (k + 1 + n) = bs ((t.data.toList.take (k + 1 + n)).drop (k + 1))) := Lib.hid (extract_bs t (k + 1) (k + 1 + n))
                        have HTL : Hid (((t.data.toList.take (k + 1 + n)).drop (k + 1)).length ≤ t.size) := Lib.hid (by rw [List.length_drop, List.length_take, ← HZ.out]; omega)
                        have HRD := Lib.hid (readF_step (acc := acc) hne hone)
                        have HRM := Lib.hid (readF_mark (acc := acc) hne hone)
                        clear hcut hb2 hri hnu hrn hone htx hdr he2
                        generalize (t.data.toList.take (k + 1 + n)).drop (k + 1) = txt at *
                        have HMK := Lib.hid (markAt_snoc acc ⟨(p, (n : Int)), (m : Int), txt⟩)
                        have p1 : (0 : Int) ≤ (k : Int) + 1 := by omega
                        have p2 : (k : Int) + 1 ≤ (k : Int) + 1 + (n : Int) := by omega
                        have p3 : (k : Int) + 1 + (n : Int) ≤ (t.size : Int) := by omega
                        have HW0 : Hid (IntKind.i64.wrap ((k : Int) + 1) = (k : Int) + 1) := Lib.hid (IntWalk.i64_in _ (by omega))
                        have HW1 := Lib.hid W1
                        have HLX := HX3.out.lt
                        obtain ⟨T1, hT1⟩ : ∃ T1, T1 = t.extract (k + 1) (k + 1 + n) := ⟨_, rfl⟩
                        rw [← hT1] at HTXT
                        have HT1 := Lib.hid hT1
                        clear hT1
                        go_wp2
                        have hS0 : Below w3.heap.size w3 w3.drew := (Below.refl _ _).drew
                        refine region_S (fun w' => Below w3.heap.size w3 w') 14 (by kernel_rfl) (by kernel_rfl) ?_
                        refine take_S 0 rfl (by kernel_rfl) (by kernel_rfl) hS0 (fun w' hS => by go_simp; rfl) ?_
                        refine take_S 1 rfl (by kernel_rfl) (by kernel_rfl) hS0 (fun w' hS => by have A0 := (HX3.out.below hS HLX).c0; have A1 := (HX3.out.below hS HLX).c1; go_simp; rfl) ?_
                        refine take_S 2 rfl (by kernel_rfl) (by kernel_rfl) hS0 (fun w' hS => by go_simp; rfl) ?_
                        refine take_S 3 rfl (by kernel_rfl) (by kernel_rfl) hS0 (fun w' hS => by go_simp; rfl) ?_
                        refine take_S 4 rfl (by kernel_rfl) (by kernel_rfl) hS0 (fun w' hS => by go_simp; rfl) ?_
                        refine take_S 5 (v := .int .i64 ((k : Int) + 1)) rfl (by kernel_rfl) (by kernel_rfl) hS0 (fun w' hS => by have V1 := HW0.out; go_simp) ?_
                        refine take_S 6 rfl (by kernel_rfl) (by kernel_rfl) hS0 (fun w' hS => by go_simp; rfl) ?_
                        refine take_S 7 (v := .int .i64 ((k : Int) + 1)) rfl (by kernel_rfl) (by kernel_rfl) hS0 (fun w' hS => by have V1 := HW0.out; go_simp) ?_
                        refine take_S 8 rfl (by kernel_rfl) (by kernel_rfl) hS0 (fun w' hS => by go_simp; rfl) ?_
                        refine take_S 9 rfl (by kernel_rfl) (by kernel_rfl) hS0 (fun w' hS => by have A0 := (HX3.out.below hS HLX).c0; have A1 := (HX3.out.below hS HLX).c1; go_simp; rfl) ?_
                        refine take_S 10 (v := .int .i64 ((k : Int) + 1 + (n : Int))) rfl (by kernel_rfl) (by kernel_rfl) hS0 (fun w' hS => by have V1 := HW1.out; go_simp) ?_
                        refine take_S 11 (v := .string T1) rfl (by kernel_rfl) (by kernel_rfl) hS0 (fun w' hS => by go_simp; rw [HT1.out]; congr 3 <;> omega) ?_
                        rw [HTXT.out]
                        refine take_S 12 rfl (by kernel_rfl) (by kernel_rfl) hS0 (fun w' hS => by go_simp; rfl) ?_
                        refine carry_S 13 rfl (by kernel_rfl) (by decide) (by kernel_rfl) (fun K hK => ?_)
                        go_simp
                        have hS1 : Below w3.heap.size w3 (w3.alloc (.cells #[.int .u32 (p : Int), .int .i64 (n : Int), .int .i64 (m : Int), .string (bs txt)] 82)).drew := ((Below.refl _ w3).alloc (Nat.le_refl _) _).drew
                        refine hK _ _ hS1 (forced_S (by kernel_rfl) ?_)
                        clear hK K
                        try simp only [Act.put, List.getElem_toArray, List.getElem_cons_succ, List.getElem_cons_zero, List.setIfInBounds_toArray, List.set_cons_zero, List.set_cons_succ]
                        simp only [List.drop_succ_cons, List.drop_zero]
                        have HROWd : Hid ((w3.alloc (.cells #[.int .u32 (p : Int), .int .i64 (n : Int), .int .i64 (m : Int), .string (bs txt)] 82)).drew.ownsRow (w.heap.size + 1) 82 4 (.slice A4 acc.length c4) acc.length (hldRow acc)) := Lib.hid (own_belowI HROW3.out hS1)
                        have HBW := Lib.hid (HB3.out.trans (hS1.mono HB3.out.size))
                        have HBXd := Lib.hid (HBX3.out.below hS1 HBX3.out.lt)
                        have HXd := Lib.hid (HX3.out.below hS1 HLX)
                        have hwz : w.heap.size + 1 ≤ ((w3.alloc (.cells #[.int .u32 (p : Int), .int .i64 (n : Int), .int .i64 (m : Int), .string (bs txt)] 82)).drew).heap.size := Nat.le_trans hsz3 hS1.size
                        have HCN : Hid (∀ j q, [Value.int .u32 (p : Int), .int .i64 (n : Int), .int .i64 (m : Int), .string (bs txt)][j]? = some q → (w3.alloc (.cells #[.int .u32 (p : Int), .int .i64 (n : Int), .int .i64 (m : Int), .string (bs txt)] 82)).drew.cell? ((⟨w3.heap.size, 0, none⟩ : Addr).add j) = some q) := Lib.hid (fun j q h => cell_newH w3 _ _ _ _ _ j q h)
                        clear hS0 hS1
                        generalize (w3.alloc (.cells #[.int .u32 (p : Int), .int .i64 (n : Int), .int .i64 (m : Int), .string (bs txt)] 82)).drew = w4 at *
                        go_wp2_with (at_builtin; refine wpList_append_own _ rfl _ _ 54 rfl (w.heap.size + 1) 82 i0 (.agg #[.int .u32 0, .int .i64 0, .int .i64 0, .string ByteArray.empty]) 4 40 Tryz.underlying54 hi hz0 hz1 hz2 rfl (by decide) _ _ _ rfl HROWd.out ⟨w3.heap.size, 0, none⟩ 1 1 [.int .u32 (p : Int), .int .i64 (n : Int), .int .i64 (m : Int), .string (bs txt)] rfl rfl HCN.out (by simp [Value.oneCell']) (by unfold maxLen; omega) (by omega) (by omega) ?_; intro v8 w8 ho8 hg8 _; obtain ⟨A8, c8, rfl⟩ := own_formI ho8)
                        have HROW8 : Hid (w8.ownsRow (w.heap.size + 1) 82 4 (.slice A8 (acc.length + 1) c8) (acc ++ [(⟨(p, (n : Int)), (m : Int), txt⟩ : Hld)]).length (hldRow (acc ++ [(⟨(p, (n : Int)), (m : Int), txt⟩ : Hld)]))) := Lib.hid (snoc_rowH ho8)
                        have HB8 := Lib.hid (HBW.out.grown hg8 (by omega) (fun b he => Nat.le_of_succ_le (own_ge HROWd.out he)))
                        have HBX8 := Lib.hid (gb_box2r hg8 (own_far HROWd.out (Nat.lt_succ_self _)) HBXd.out)
                        have HX8 := Lib.hid (gb_box2r hg8 (fun e => absurd ((HROW2.out.lt _ e.symm).2) (Nat.lt_irrefl _)) HXd.out)
                        have hsz8 := Nat.le_trans hwz hg8.size
                        have HAX2 : Hid (∀ y ∈ acc ++ [(⟨(p, (n : Int)), (m : Int), txt⟩ : Hld)], y.text.length ≤ t.size) := Lib.hid (fun y hy => by
                          rcases List.mem_append.1 hy with hy | hy
                          · exact hax.out y hy
                          · rw [List.mem_singleton.1 hy]; exact HTL.out)
                        have hl8 : (acc ++ [(⟨(p, (n : Int)), (m : Int), txt⟩ : Hld)]).length = acc.length + 1 := by simp
                        have HMA := Lib.hid (RMarked_any (.slice A8 (acc.length + 1) c8) (acc ++ [⟨(p, (n : Int)), (m : Int), txt⟩]) (by rw [hl8]; omega) (fun y hy => by have := HAX2.out y hy; omega) acc.length (by rw [hl8]; omega) w8.heap.size w8 (by have := RdL.own HROW8.out; exact this) (Nat.le_refl _))
                        clear ho8 hg8
                        refine HMA.out.mono ?_
                        rintro e w9 ⟨rfl, hb9⟩
                        rw [HMK.out (by rw [hl8]; omega)]
                        have HB9 := Lib.hid (HB8.out.trans (hb9.mono HB8.out.size))
                        have HROW9 := Lib.hid (own_belowI HROW8.out hb9)
                        have HBX9 := Lib.hid (HBX8.out.below hb9 HBX8.out.lt)
                        have HX9 := Lib.hid (HX8.out.below hb9 HX8.out.lt)
                        have hsz9 := Nat.le_trans hsz8 hb9.size
                        clear hb9
                        by_cases hmk : markB acc.getLast? ⟨(p, (n : Int)), (m : Int), txt⟩ = 0
                        · have HG : Hid (readHF t.data.toList = readF (acc ++ [⟨(p, (n : Int)), (m : Int), txt⟩]) (t.data.toList.drop (k + n + 2))) := Lib.hid (by rw [hrd.out, HRD.out hmk])
                          rw [hmk]
                          obtain ⟨y0, y1, _, _⟩ := HX9.out
                          clear hmk hrd
                          go_wp2
                          go_roundg (t.size - (k + n + 2))
                          case measure => omega
                          case rel => exact ⟨k + n + 2, acc ++ [⟨(p, (n : Int)), (m : Int), txt⟩], by go_num, by omega, rfl, HG, by rw [hl8]; omega, HAX2, HROW9, HBX9, HB9, hsz9⟩
                        · have HG : Hid (readHF t.data.toList = ([], markB acc.getLast? ⟨(p, (n : Int)), (m : Int), txt⟩, (acc.length : Int))) := Lib.hid (by rw [hrd.out, HRM.out hmk])
                          have hpos : markB acc.getLast? ⟨(p, (n : Int)), (m : Int), txt⟩ > 0 := by rcases markB_cases acc.getLast? ⟨(p, (n : Int)), (m : Int), txt⟩ with h | h | h <;> omega
                          have W9 : IntKind.i64.wrap (acc.length : Int) = (acc.length : Int) := IntWalk.i64_in _ (by omega)
                          clear hmk hrd
                          generalize markB acc.getLast? ⟨(p, (n : Int)), (m : Int), txt⟩ = cd at *
                          obtain ⟨t0, t1, t2⟩ := HBX9.out.rd (.int .i64 cd) (.int .i64 (acc.length : Int))
                          have HB9 := Lib.hid (below_set2 HB9.out (Nat.le_refl _) (.int .i64 cd) (.int .i64 (acc.length : Int)))
                          obtain ⟨d0, d1, f0, f1⟩ := HBX9.out
                          go_wp2
                          refine bodyPost_ret (v := .tuple #[.slice none 0 0, fltV (cd, (acc.length : Int))]) (by simp [results, Tryz.results42, go_sem, t0, t1, t2, fltV]) rfl ?_
                          exact rread_bad HG.out HB9.out
                      · have hei2 : ((t[k + 1 + n].toNat : Int) != 10) = true := by
                          rw [bne_iff_ne]
                          exact fun e => he2 (UInt8.toNat_inj.1 (by show _ = 10; omega))
                        have HG : Hid (readHF t.data.toList = ([], 1, (acc.length : Int))) := Lib.hid (by rw [hrd.out, readF_none hne (oneF_none5 hcut hb2 hri hnu (by rw [hrn]; intro e; injection e with e; exact he2 e))])
                        clear hcut hb2 hri hrd hnu hrn he2
                        obtain ⟨t0, t1, t2⟩ := HBX3.out.rd (.int .i64 1) (.int .i64 (acc.length : Int))
                        have HB9 := Lib.hid (below_set2 HB3.out (Nat.le_refl _) (.int .i64 1) (.int .i64 (acc.length : Int)))
                        obtain ⟨d0, d1, f0, f1⟩ := HBX3.out
                        go_wp2
                        refine bodyPost_ret (v := .tuple #[.slice none 0 0, fltV (1, (acc.length : Int))]) (by simp [results, Tryz.results42, go_sem, t0, t1, t2, fltV]) rfl ?_
                        exact rread_bad HG.out HB9.out
                    · have q1 : (t.size : Int) ≤ (k : Int) + 1 + (n : Int) := by omega
                      have hrn : (t.data.toList.drop (k + 1))[n]? = none := by rw [List.getElem?_drop, List.getElem?_eq_none (by rw [← HZ.out]; omega)]
                      have HG : Hid (readHF t.data.toList = ([], 1, (acc.length : Int))) := Lib.hid (by rw [hrd.out, readF_none hne (oneF_none5 hcut hb2 hri hnu (by rw [hrn]; intro e; cases e))])
                      clear hcut hb2 hri hrd hnu hrn
                      obtain ⟨t0, t1, t2⟩ := HBX3.out.rd (.int .i64 1) (.int .i64 (acc.length : Int))
                      have HB9 := Lib.hid (below_set2 HB3.out (Nat.le_refl _) (.int .i64 1) (.int .i64 (acc.length : Int)))
                      obtain ⟨d0, d1, f0, f1⟩ := HBX3.out
                      go_wp2
                      refine bodyPost_ret (v := .tuple #[.slice none 0 0, fltV (1, (acc.length : Int))]) (by simp [results, Tryz.results42, go_sem, t0, t1, t2, fltV]) rfl ?_
                      exact rread_bad HG.out HB9.out
              · have hli : (((cutAll 32 ((t.data.toList.take k).drop dn)).length : Int) == 2) = false := by rw [beq_eq_false_iff_ne]; omega
                have hli2 : (((cutAll 32 ((t.data.toList.take k).drop dn)).length : Int) != 2) = true := by rw [bne, hli]; rfl
                have HG : Hid (readHF t.data.toList = ([], 1, (acc.length : Int))) := Lib.hid (by rw [hrd.out, readF_none hne (oneF_words hcut hl)])
                obtain ⟨A7, c7, rfl⟩ := own_formI ho1
                clear ho1 hl hcut hrd
                obtain ⟨t0, t1, t2⟩ := HBX1.out.rd (.int .i64 1) (.int .i64 (acc.length : Int))
                have HB9 := Lib.hid (below_set2 HB1.out (Nat.le_refl _) (.int .i64 1) (.int .i64 (acc.length : Int)))
                obtain ⟨d0, d1, f0, f1⟩ := HBX1.out
                go_wp2
                refine bodyPost_ret (v := .tuple #[.slice none 0 0, fltV (1, (acc.length : Int))]) (by simp [results, Tryz.results42, go_sem, t0, t1, t2, fltV]) rfl ?_
                exact rread_bad HG.out HB9.out
            · have hei : ((t[k].toNat : Int) != 10) = true := by
                rw [bne_iff_ne]
                exact fun e => he (UInt8.toNat_inj.1 (by show _ = 10; omega))
              have HNO : Hid (∀ j (hj : j < t.data.toList.length), dn ≤ j → j < k + 1 → t.data.toList[j] ≠ 10) := Lib.hid (fun j hj h1 h2 => by
                rcases Nat.lt_or_ge j k with h | h
                · exact hno.out j hj h1 h
                · obtain rfl : j = k := by omega
                  exact he)
              clear he hno
              go_wp2
              go_round
              case rel => exact ⟨k + 1, by go_num, by omega, hkl, HNO⟩
              case measure => simp [RowKit.intOf]; omega
          · obtain rfl : k = t.size := by omega
            have hcut := cut_endG 10 t.data.toList dn (fun j hj h1 => hno.out j hj h1 (by rw [HZ.out]; exact hj))
            have HG : Hid (readHF t.data.toList = ([], 1, (acc.length : Int))) := Lib.hid (by rw [hrd.out, readF_none hne (oneF_none1 hcut)])
            clear hno hcut hrd
            go_wp2_with fail
            refine (RCut_any (t.extract dn t.size) 32 HXZ.out wr).mono ?_
            rintro e w1 ⟨v7, rfl, ho1, hb1⟩
            have HB1 := Lib.hid (HB.out.trans (hb1.mono HB.out.size))
            have HBX1 := Lib.hid (HBX.out.below hb1 HBX.out.lt)
            obtain ⟨A4, c4, rfl⟩ := own_formI hrow.out
            clear hb1 ho1
            have b5 : ((t.size : Int) == (t.size : Int)) = true := by simp
            obtain ⟨t0, t1, t2⟩ := HBX1.out.rd (.int .i64 1) (.int .i64 (acc.length : Int))
            have HB9 := Lib.hid (below_set2 HB1.out (Nat.le_refl _) (.int .i64 1) (.int .i64 (acc.length : Int)))
            obtain ⟨d0, d1, f0, f1⟩ := HBX1.out
            go_wp2
            refine bodyPost_ret (v := .tuple #[.slice none 0 0, fltV (1, (acc.length : Int))]) (by simp [results, Tryz.results42, go_sem, t0, t1, t2, fltV]) rfl ?_
            exact rread_bad HG.out HB9.out
      · obtain rfl : dn = t.size := by omega
        have HG : Hid (readHF t.data.toList = (acc, 0, -1)) := Lib.hid (by rw [hrd.out, List.drop_eq_nil_of_le (by rw [← HZ.out]; exact Nat.le_refl _), readF_nil])
        obtain ⟨A4, c4, rfl⟩ := own_formI hrow.out
        clear hrd hax
        go_wp2_with fail
        refine (RFine_any wr).mono ?_
        rintro e w1 ⟨rfl, hb1⟩
        have HB1 := Lib.hid (HB.out.trans (hb1.mono HB.out.size))
        have HBX1 := Lib.hid (HBX.out.below hb1 HBX.out.lt)
        have HROW1 := Lib.hid (own_belowI hrow.out hb1)
        obtain ⟨t0, t1, t2⟩ := HBX1.out.rd (.int .i64 0) (.int .i64 (-1))
        have HB9 := Lib.hid (below_set2 HB1.out (Nat.le_refl _) (.int .i64 0) (.int .i64 (-1)))
        have HROW9 := Lib.hid (own_setI (d := w.heap.size) (j := 1) (x := .int .i64 (-1)) (own_setI (d := w.heap.size) (j := 0) (x := .int .i64 0) HROW1.out (Nat.lt_succ_self _)) (Nat.lt_succ_self _))
        obtain ⟨d0, d1, f0, f1⟩ := HBX1.out
        clear hb1
        go_wp2
        refine bodyPost_ret (v := .tuple #[.slice A4 acc.length c4, fltV (0, -1)]) (by simp [results, Tryz.results42, go_sem, t0, t1, t2, fltV]) rfl ?_
        exact rread_good HG.out HROW9.out (Nat.le_succ _) HB9.out
end Go.Proofs.YtpanoplcamdnkaaGreatDoor
