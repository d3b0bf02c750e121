/- Walk of bin.Read: pieces out of a text. Condition: the library's tables and variables and the sentinels that are read lie as named. -/
import Derived.Test.YtpanoplcamdnkaaGreatDoorBfO
import Derived.Test.YtpanoplcamdnkaaGreatDoorBfM
namespace Go.Proofs.YtpanoplcamdnkaaGreatDoor
open Go.RowKit Go.Lib

theorem oneF_text {s : Bytes} {x : Hld} {r : Bytes} (h : oneF s = some (x, r)) : x.text.length ≤ s.length := by
  obtain ⟨head, rest, i, u, p, n, k, h1, _, _, _, _, rfl, _⟩ := oneF_inv h
  obtain ⟨rfl, _⟩ := byteCut_some _ _ _ _ h1
  show (rest.take n).length ≤ _
  simp only [List.length_append, List.length_cons, List.length_take]; omega
theorem markAt_snoc (acc : HldL) (x : Hld) (h : acc.length < (acc ++ [x]).length) : markAt (acc ++ [x]) acc.length (acc ++ [x])[acc.length] = markB acc.getLast? x := by
  unfold markAt
  rw [List.getElem_append_right (Nat.le_refl _)]
  simp only [Nat.sub_self, List.getElem_cons_zero]
  by_cases h0 : acc.length = 0
  · have : acc = [] := List.eq_nil_of_length_eq_zero h0
    subst this
    rfl
  · rw [if_neg h0, List.getElem?_append_left (by omega), List.getLast?_eq_getElem?]
theorem cell_newS (w : World) (o : Obj) (x y z u : Value) (t : TypeId) : ∀ j q, [x, y, z, u][j]? = some q → ((w.alloc o).alloc (.cells #[x, y, z, u] t)).cell? ((⟨w.heap.size + 1, 0, none⟩ : Addr).add j) = some q := by
  have := cell_newH (w.alloc o) x y z u t
  rwa [show (w.alloc o).heap.size = w.heap.size + 1 by simp] at this
theorem bs_listR (l : Bytes) : (bs l).toList = l := by rw [ByteArray.toList_eq, bs_toList]
theorem SomeS.partR {ks js : List Nat} {a : Nat → Addr} {w : World} (h : SomeS ks a w) (hj : ∀ k ∈ js, k ∈ ks) : SomeS js a w := fun k hk => h k (hj k hk)
def ReadPost (a : Nat → Addr) (s : Bytes) (w : World) (e : Ending) (w' : World) : Prop := ∃ v r, e = .returned (.tuple #[v, r]) ∧ EV a r (readHF s).2.1 (readHF s).2.2 w' ∧ w'.ownsRow w.heap.size 82 4 v (readHF s).1.length (hldRow (readHF s).1) ∧ Below w.heap.size w w'
theorem read_bad {a : Nat → Addr} {s : Bytes} {w w' : World} {r : Value} {c t : Int} (h : readHF s = ([], c, t)) (hr : EV a r c t w') (hb : Below w.heap.size w w') : ReadPost a s w (.returned (.tuple #[.slice none 0 0, r])) w' := by
  unfold ReadPost
  rw [h]
  exact ⟨_, _, rfl, hr, World.ownsRow_nil _ _ _ _, hb⟩
theorem read_good {a : Nat → Addr} {s : Bytes} {w w' : World} {v : Value} {L : HldL} (h : readHF s = (L, 0, -1)) (hv : w'.ownsRow w.heap.size 82 4 v L.length (hldRow L)) (hb : Below w.heap.size w w') : ReadPost a s w (.returned (.tuple #[v, .nilIface])) w' := by
  unfold ReadPost
  rw [h]
  exact ⟨_, _, rfl, EV.none a w', hv, hb⟩
theorem snoc_rowH {w : World} {base : Nat} {v : Value} {L : HldL} {x : Hld} (h : w.ownsRow base 82 4 v (L.length + 1) (hldRow L ++ hldC x)) : w.ownsRow base 82 4 v (L ++ [x]).length (hldRow (L ++ [x])) := by
  rw [hldRow_snoc, List.length_append]; exact h
theorem readHF_short {s : Bytes} (h : ¬ 40000 < s.length) : readHF s = readF [] s := by unfold readHF; rw [if_neg h]
set_option maxRecDepth 100000 in
set_option maxHeartbeats 4000000 in
theorem BnReadF_any (a : Nat → Addr) (s : Bytes) (hs : s.length ≤ 2 ^ 40) (w : World) (htab : Tabs w) (hm : MaxL w) (hp : Perrs w) (hs0 : SomeS [0, 1, 7, 8] a w) :
    Calls Tryz.prog 26 #[.string (bs s)] w (ReadPost a s w) := by
  have hsz : (bs s).size = s.length := bs_size s
  have HS := Lib.hid hs0
  by_cases h4 : 40000 < s.length
  · have h4i : (s.length : Int) > 40000 := by omega
    have HR : Hid (readHF s = ([], 2, -1)) := Lib.hid (by unfold readHF; rw [if_pos h4])
    have s1 : w.cell? ⟨3, 0, none⟩ = some (sval a 1) := hs0 1 (by simp)
    unfold sval at s1
    clear htab hm hp hs0 h4
    go_enter Tryz.func26, Tryz.ntmps26
    go_wp2
    go_quiet (fail)
    go_wp2
    go_ret2
    exact read_bad HR.out (EV.sent a _ 1 (by decide)) (below_drewN (Below.refl _ _) _)
  · have h4i : ¬ (s.length : Int) > 40000 := by omega
    have HR := Lib.hid (readHF_short h4)
    have HT := Lib.hid htab
    have HM := Lib.hid hm
    have HP := Lib.hid hp
    obtain ⟨i0, hi, hz0, hz1, hz2⟩ := info_parts info_held
    clear htab hm hp hs0
    go_enter Tryz.func26, Tryz.ntmps26
    go_wp2
    go_loopg [0, 4] s.length (fun gh v0 v4 wr => ∃ (s' : Bytes) (acc : HldL), v0 = VT s' ∧ gh = s'.length ∧ Hid (readHF s = readF acc s') ∧ acc.length + s'.length ≤ s.length ∧ Hid (∀ x ∈ acc, x.text.length ≤ s.length) ∧ wr.ownsRow w.heap.size 82 4 v4 acc.length (hldRow acc) ∧ Below w.heap.size w wr)
    case atStart => exact ⟨s, [], rfl, rfl, HR, by simp, Lib.hid (fun x hx => by cases hx), World.ownsRow_nil _ _ _ _, Below.refl _ _⟩
    case round =>
      obtain ⟨s', acc, rfl, hgm, hrd, hal, hax, hrow, hB⟩ := hrel
      have HROW := Lib.hid hrow
      have HB := Lib.hid hB
      by_cases hn : s' = []
      · subst hn
        have HG : Hid (readHF s = (acc, 0, -1)) := Lib.hid (by rw [hrd.out, readF_nil])
        obtain ⟨A, c, rfl⟩ := own_formI hrow
        clear hrd hax hrow hB
        have q1 : (bs ([] : Bytes)).toList.isEmpty = true := by rw [bs_listR]; rfl
        go_wp2
        go_ret2
        exact read_good HG.out HROW.out HB.out
      · have q1 : (bs s').toList.isEmpty = false := by rw [bs_listR]; simpa using hn
        have hs'30 : s'.length ≤ 2 ^ 30 := by omega
        have ONE := Lib.hid (BnOne_any a s' hs'30 wr (HT.out.below hB) (HM.out.below hB) (HP.out.below hB) ((HS.out.below hB).partR (by decide)))
        clear hrow hB
        cases ho : oneF s' with
        | none =>
          have HG : Hid (readHF s = ([], 1, (acc.length : Int))) := Lib.hid (by rw [hrd.out, readF_none hn ho])
          have HO := Lib.hid ho
          clear hrd hax ho
          go_wp2_with fail
          refine ONE.out.mono ?_
          rintro e w1 ⟨he, hb1⟩
          rw [HO.out] at he
          subst he
          have hB1 := HB.out.trans (hb1.mono HB.out.size)
          have hB2 := hB1.alloc hB1.size (.cells #[.int .u32 (hldZ.id.1 : Int), .int .i64 hldZ.id.2, .int .i64 hldZ.uses, .string (bs hldZ.text)] 82)
          have HX4 := Lib.hid (Box4.mk' w1 (.int .u32 (hldZ.id.1 : Int)) (.int .i64 hldZ.id.2) (.int .i64 hldZ.uses) (.string (bs hldZ.text)) 82)
          have HBW := Lib.hid hB2
          have HROW2 := Lib.hid (own_belowI (own_belowI HROW.out hb1) ((Below.refl w1.heap.size w1).alloc (Nat.le_refl _) (.cells #[.int .u32 (hldZ.id.1 : Int), .int .i64 hldZ.id.2, .int .i64 hldZ.uses, .string (bs hldZ.text)] 82)))
          have s0 : (w1.alloc (.cells #[.int .u32 (hldZ.id.1 : Int), .int .i64 hldZ.id.2, .int .i64 hldZ.uses, .string (bs hldZ.text)] 82)).cell? ⟨5, 0, none⟩ = some (sval a 0) := (HS.out.below hB2) 0 (by simp)
          unfold sval at s0
          have hwz : w.heap.size ≤ w1.heap.size := hB1.size
          clear hb1 hB1 hB2 q1
          go_wp2_with (at_builtin; refine wpList_append_own _ rfl _ _ 54 rfl w.heap.size 82 i0 (.agg #[.int .u32 0, .int .i64 0, .int .i64 0, .string ByteArray.empty]) 4 40 Tryz.underlying54 hi hz0 hz1 hz2 rfl (by decide) _ _ _ rfl (HROW2.out.alloc _) ⟨w1.heap.size + 1, 0, none⟩ 1 1 [.int .u32 0, .int .i64 0, .int .i64 0, .string ⟨#[]⟩] rfl rfl (cell_newS _ _ _ _ _ _ _) (by simp [Value.oneCell']) (by unfold maxLen; omega) (by omega) (by simp; omega) ?_; intro v8 w8 ho8 hg8 _; obtain ⟨A8, c8, rfl⟩ := own_formI ho8)
          have HB8 := Lib.hid (below_grownP (HBW.out.alloc HBW.out.size _) (by simp; omega) (HROW2.out.alloc _) hg8)
          have W1 : IntKind.i64.wrap (acc.length : Int) = (acc.length : Int) := IntWalk.i64_in _ (by omega)
          clear ho8 hg8
          go_wp2
          go_ret2
          exact read_bad HG.out (EV_mk a w8 0 (by decide) (acc.length : Int) 136) (HB8.out.alloc HB8.out.size _)
        | some q =>
          obtain ⟨x, r⟩ := q
          have HO := Lib.hid ho
          have hsh := oneF_shorter ho
          have htx := oneF_text ho
          have HAX2 : Hid (∀ y ∈ acc ++ [x], y.text.length ≤ s.length) := Lib.hid (fun y hy => by
            rcases List.mem_append.1 hy with hy | hy
            · exact hax.out y hy
            · rw [List.mem_singleton.1 hy]; omega)
          have HRD := Lib.hid (readF_step (acc := acc) hn ho)
          have HRM := Lib.hid (readF_mark (acc := acc) hn ho)
          have HMK := Lib.hid (markAt_snoc acc x)
          clear hax ho htx
          go_wp2_with fail
          refine ONE.out.mono ?_
          rintro e w1 ⟨he, hb1⟩
          rw [HO.out] at he
          subst he
          have hB1 := HB.out.trans (hb1.mono HB.out.size)
          have hB2 := hB1.alloc hB1.size (.cells #[.int .u32 (x.id.1 : Int), .int .i64 x.id.2, .int .i64 x.uses, .string (bs x.text)] 82)
          have HX4 := Lib.hid (Box4.mk' w1 (.int .u32 (x.id.1 : Int)) (.int .i64 x.id.2) (.int .i64 x.uses) (.string (bs x.text)) 82)
          have HBW := Lib.hid hB2
          have HROW2 := Lib.hid (own_belowI (own_belowI HROW.out hb1) ((Below.refl w1.heap.size w1).alloc (Nat.le_refl _) (.cells #[.int .u32 (x.id.1 : Int), .int .i64 x.id.2, .int .i64 x.uses, .string (bs x.text)] 82)))
          have s0 : (w1.alloc (.cells #[.int .u32 (x.id.1 : Int), .int .i64 x.id.2, .int .i64 x.uses, .string (bs x.text)] 82)).cell? ⟨5, 0, none⟩ = some (sval a 0) := (HS.out.below hB2) 0 (by simp)
          unfold sval at s0
          have hwz : w.heap.size ≤ w1.heap.size := hB1.size
          clear hb1 hB1 hB2 q1
          obtain ⟨x0, x1, x2, x3, _⟩ := HX4.out
          go_wp2_with (at_builtin; refine wpList_append_own _ rfl _ _ 54 rfl w.heap.size 82 i0 (.agg #[.int .u32 0, .int .i64 0, .int .i64 0, .string ByteArray.empty]) 4 40 Tryz.underlying54 hi hz0 hz1 hz2 rfl (by decide) _ _ _ rfl (HROW2.out.alloc _) ⟨w1.heap.size + 1, 0, none⟩ 1 1 [.int .u32 (x.id.1 : Int), .int .i64 x.id.2, .int .i64 x.uses, .string (bs x.text)] rfl rfl (cell_newS _ _ _ _ _ _ _) (by simp [Value.oneCell']) (by unfold maxLen; omega) (by omega) (by simp; omega) ?_; intro v8 w8 ho8 hg8 _; obtain ⟨A8, c8, rfl⟩ := own_formI ho8)
          have HROW8 := Lib.hid (snoc_rowH ho8)
          have HB8 := Lib.hid (below_grownP (HBW.out.alloc HBW.out.size _) (by simp; omega) (HROW2.out.alloc _) hg8)
          have W1 : IntKind.i64.wrap (acc.length : Int) = (acc.length : Int) := IntWalk.i64_in _ (by omega)
          have hl8 : (acc ++ [x]).length = acc.length + 1 := by simp
          have HMA := Lib.hid (BnMarked_any a (.slice A8 (acc.length + 1) c8) (acc ++ [x]) (by rw [hl8]; omega) (fun y hy => by have := HAX2.out y hy; omega) acc.length (by rw [hl8]; omega) w8.heap.size w8 (by have := RdL.own HROW8.out; exact this) (Nat.le_refl _) ((HS.out.below HB8.out).partR (by decide)))
          clear ho8 hg8 x0 x1 x2 x3
          go_wp2_with fail
          refine HMA.out.mono ?_
          rintro e w9 ⟨r8, rfl, hes, hb9⟩
          rw [HMK.out (by simp)] at hes
          have HB9 := Lib.hid (HB8.out.trans (hb9.mono HB8.out.size))
          have HROW9 := Lib.hid (own_belowI HROW8.out hb9)
          clear hb9
          by_cases hmk : markB acc.getLast? x = 0
          · have HG : Hid (readHF s = readF (acc ++ [x]) r) := Lib.hid (by rw [hrd.out, HRD.out hmk])
            obtain ⟨rfl, _⟩ := hes.nil hmk
            clear hes hmk hrd
            go_wp2
            go_roundg r.length
            case measure => omega
            case rel => exact ⟨r, acc ++ [x], rfl, rfl, HG, by rw [List.length_append]; simp; omega, HAX2, HROW9.out, HB9.out⟩
          · have HG : Hid (readHF s = ([], markB acc.getLast? x, (acc.length : Int))) := Lib.hid (by rw [hrd.out, HRM.out hmk])
            rcases hes with ⟨_, h0⟩ | ⟨k9, hk9, rfl, hcd⟩
            · exact absurd h0 hmk
            · have HK9 := Lib.hid hk9
              have HCD := Lib.hid hcd
              unfold sval
              clear hmk hrd hk9 hcd
              go_wp2
              go_ret2
              refine read_bad HG.out ?_ (HB9.out.alloc HB9.out.size _)
              rw [HCD.out]
              exact EV_mk a w9 k9 HK9.out (acc.length : Int) 136
end Go.Proofs.YtpanoplcamdnkaaGreatDoor
