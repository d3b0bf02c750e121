/- Walk of (*tape.Disk).write. Condition: the tables and the sentinels that are read lie as named (DIn). -/
import Derived.Test.YtpacalklcdlhoaaDoorTapD
import Derived.Test.YtpacalklcdlhoaaDoorTapQ
import Derived.Test.YtpacalklcdlhoaaDoorPlainS
namespace Go.Proofs.YtpacalklcdlhoaaDoor
open Go.RowKit Go.Lib

def DSt.is (d g : Nat) (s : DSt) (w : World) : Prop := DiskIs d g s.b s.off s.cut w
/-- the disk is in state s', its buffer in the same block or a new one; all else but its two blocks stands -/
def DPost (d g : Nat) (s' : DSt) (w w' : World) : Prop := ∃ g', s'.is d g' w' ∧ (g' = g ∨ w.heap.size ≤ g') ∧ Two d g w w'
/-- a disk in state s, above the tables -/
structure DIn (a : Nat → Addr) (W : World) (d g : Nat) (s : DSt) (w : World) : Prop where
  t : TapW W
  e : SomeS [1, 6, 11] a W
  b : Below W.heap.size W w
  hd : W.heap.size ≤ d
  hg : W.heap.size ≤ g
  is : s.is d g w
theorem DIn.tap {a : Nat → Addr} {W w : World} {d g : Nat} {s : DSt} (h : DIn a W d g s w) : TapW w := h.t.below h.b
theorem DIn.sen {a : Nat → Addr} {W w : World} {d g : Nat} {s : DSt} (h : DIn a W d g s w) : SomeS [1, 6, 11] a w := h.e.below h.b
theorem DIn.two {a : Nat → Addr} {W w w' : World} {d g : Nat} {s : DSt} (h : DIn a W d g s w) (k : Two d g w w') : Below W.heap.size W w' := h.b.trans (k.below h.hd h.hg h.b.size)
theorem DIn.post {a : Nat → Addr} {W w w' : World} {d g : Nat} {s s' : DSt} (h : DIn a W d g s w) (k : DPost d g s' w w') : ∃ g', DIn a W d g' s' w' ∧ (g' = g ∨ w.heap.size ≤ g') ∧ Two d g w w' := by
  obtain ⟨g', h1, h2, h3⟩ := k
  refine ⟨g', ⟨h.t, h.e, h.two h3, h.hd, ?_, h1⟩, h2, h3⟩
  have := h.hg; have := h.b.size
  rcases h2 with rfl | h2
  · assumption
  · omega
theorem DIn.below {a : Nat → Addr} {W w w' : World} {d g : Nat} {s : DSt} (h : DIn a W d g s w) (k : Below w.heap.size w w') : DIn a W d g s w' :=
  ⟨h.t, h.e, h.b.trans (k.mono h.b.size), h.hd, h.hg, DiskIs.below h.is k⟩
theorem SomeS.mono {ks ls : List Nat} {a : Nat → Addr} {w : World} (h : SomeS ks a w) (hs : ∀ k ∈ ls, k ∈ ks) : SomeS ls a w := fun k hk => h k (hs k hk)
theorem Buf.form {e : TypeId} {g : Nat} {l : List UInt8} {v : Value} {w : World} (h : Buf e g l v w) : ∃ c, v = .slice (some ⟨g, 0, none⟩) l.length c := by
  obtain ⟨cap, _, _, h1, _⟩ := h
  exact ⟨cap, h1⟩
/-- what stands behind an append that is stored -/
theorem wr_row {d g : Nat} {b : Bytes} {cut : Int} {v : Value} {w0 w6 : World} (h : DiskAt d g b false cut v w0) (hgr : w0.grownBy w6 (some g)) : w6.heap[d]? = some (.cells #[v, .bool false, .int .i64 cut] 94 (0, 0)) :=
  (hgr.block d h.lt (by simpa using Ne.symm h.ne)).trans h.row
theorem wr_fin {d g g' : Nat} {b y : Bytes} {cut : Int} {v v6 : Value} {w w0 w6 : World} (h : DiskAt d g b false cut v w0) (ht : Two d g w w0) (hb6 : Buf 5 g' (b ++ y) v6 w6) (hg6 : g' = g ∨ g' = w0.heap.size) (hgr : w0.grownBy w6 (some g)) :
    DPost d g ⟨b ++ y, false, cut⟩ w (w6.setCell ⟨d, 0, none⟩ v6) := by
  have hlt := h.lt
  have hn6 : g' ≠ d := by
    rcases hg6 with e | e <;> rw [e]
    · exact h.ne
    · omega
  exact ⟨g', ⟨v6, DiskAt.set0 (b := b) (g := g) (wr_row h hgr) hb6 hn6⟩, hg6.imp id (fun e => by rw [e]; exact ht.size), (ht.grown hgr).setCell 0 _⟩
def WrPost (a : Nat → Addr) (d g : Nat) (s : DSt) (x : Bytes) (w : World) (e : Ending) (w' : World) : Prop :=
  ∃ r, e = .returned r ∧ r = (if wrOk s x then .nilIface else sval a 11) ∧ DPost d g (wrSt s x) w w'
set_option maxRecDepth 100000 in
set_option maxHeartbeats 1000000 in
theorem TWrite_any (a : Nat → Addr) (W : World) (d g : Nat) (s : DSt) (x : ByteArray) (w : World) (hin : DIn a W d g s w) (hb : s.b.length + x.size ≤ 2 ^ 40) (hcut : s.cut ≤ 9223372036854775807) (hcut0 : -9223372036854775808 ≤ s.cut) :
    Calls Tryd.prog 57 #[.pointer (some ⟨d, 0, none⟩), .string x] w (WrPost a d g s x.data.toList w) := by
  have S11 : Hid (∀ w', Two d g w w' → w'.cell? ⟨4, 0, none⟩ = some (sval a 11)) := Lib.hid fun w' ht => (hin.e.below (hin.two ht)) 11 (by simp)
  have s11 : w.cell? ⟨4, 0, none⟩ = some (sval a 11) := hin.sen 11 (by simp)
  obtain ⟨b, off, cut⟩ := s
  obtain ⟨v, h⟩ := hin.is
  simp only at h hb hcut hcut0
  obtain ⟨i0, hi, hz0, hz1, hz2⟩ := info_parts info_u8T
  obtain ⟨c0, c1, c2, f0, f1, f2⟩ := h.cells
  have H := Lib.hid h
  have hxl : x.data.toList.length = x.size := (size_toList x).symm
  clear hin
  cases off with
  | true =>
    have HP : Hid (WrPost a d g ⟨b, true, cut⟩ x.data.toList w (.returned (sval a 11)) w) := Lib.hid ⟨_, rfl, by rw [wrOk_off]; rfl, g, ⟨v, H.out⟩, .inl rfl, Two.refl _ _ _⟩
    unfold sval at s11 HP
    clear h
    go_enter Tryd.func57, Tryd.ntmps57
    go_wp2
    go_ret
    exact HP.out
  | false =>
    obtain ⟨cp, rfl⟩ := h.buf.form
    have hne := h.ne
    have hlt := h.lt
    have hgl := h.buf.lt
    have HBUF := Lib.hid h.buf
    clear h
    by_cases hc0 : 0 ≤ cut
    · by_cases hc1 : cut < (x.size : Int)
      · have HX : Hid (x.extract 0 cut.toNat = bs (x.data.toList.take cut.toNat)) := Lib.hid (by rw [extract_bs]; simp)
        have hl2 : b.length + (x.extract 0 cut.toNat).size ≤ 2 ^ 40 := by simp; omega
        have FIN : Hid (∀ (w6 : World) (v6 : Value) (g' : Nat), Buf 5 g' (b ++ (x.extract 0 cut.toNat).data.toList) v6 w6 → (g' = g ∨ g' = w.drew.heap.size) → w.drew.grownBy w6 (some g) →
            Two d g w ((w6.setCell ⟨d, 0, none⟩ v6).setCell ⟨d, 1, none⟩ (.bool true)) ∧ WrPost a d g ⟨b, false, cut⟩ x.data.toList w (.returned (sval a 11)) ((w6.setCell ⟨d, 0, none⟩ v6).setCell ⟨d, 1, none⟩ (.bool true))) := Lib.hid (by
          intro w6 v6 g' hb6 hg6 hgr
          have hrow := (hgr.block d hlt (by simpa using Ne.symm hne)).trans H.out.row
          have hg6' : g' = g ∨ g' = w.heap.size := hg6
          have hn6 : g' ≠ d := by
            rcases hg6' with e | e <;> rw [e]
            · exact hne
            · omega
          have htwo : Two d g w ((w6.setCell ⟨d, 0, none⟩ v6).setCell ⟨d, 1, none⟩ (.bool true)) := (((Two.refl d g w).drew.grown hgr).setCell 0 _).setCell 1 _
          refine ⟨htwo, _, rfl, by rw [wrOk_cut b cut _ hc0 (by rw [hxl]; exact hc1)]; rfl, g', ⟨v6, ?_⟩, hg6'.imp id (fun h => by omega), htwo⟩
          have h1 := (DiskAt.set0 (b := b) (g := g) hrow hb6 hn6).set1 true
          rw [wrSt_cut b cut _ hc0 (by rw [hxl]; exact hc1)]
          rw [HX.out, bs_toList] at h1
          exact h1)
        have hc2 : cut ≤ (x.size : Int) := by omega
        have HLN : Hid ((b ++ (x.extract 0 cut.toNat).data.toList).length = b.length + cut.toNat) := Lib.hid (by rw [HX.out, bs_toList, List.length_append, List.length_take]; omega)
        have KEEP : Hid (∀ (w6 : World), w.drew.grownBy w6 (some g) → w6.heap[d]? = w.heap[d]?) := Lib.hid fun w6 hgr => hgr.block d hlt (by simpa using Ne.symm hne)
        go_enter Tryd.func57, Tryd.ntmps57
        go_wp2
        go_region_law (refine step_buf rfl (.tmp 28) (.tmp 34) 55 9 rfl 5 i0 Tryd.underlying55 Tryd.underlying9 hi hz0 hz1 hz2 g b _ rfl (HBUF.out.keep rfl) _ rfl hl2 ?_; intro v6 w6 g' hb6 hg6 hgr; obtain ⟨c6, hv6⟩ := hb6.form; rw [HLN.out] at hv6; subst hv6; have hrow6 := (KEEP.out w6 hgr).trans H.out.row; have d0 := cell_of_row w6 d 0 _ _ _ hrow6; have d1 := cell_of_row w6 d 1 _ _ _ hrow6; have e0 := frozen_of_row w6 d 0 _ _ hrow6; have e1 := frozen_of_row w6 d 1 _ _ hrow6)
        all_goals obtain ⟨htwo, hfin⟩ := FIN.out w6 _ g' hb6 hg6 hgr
        all_goals have c4 := S11.out _ htwo
        all_goals unfold sval at c4 hfin
        all_goals clear htwo
        all_goals have HFIN := Lib.hid hfin
        all_goals clear hfin
        all_goals go_wp2
        all_goals go_ret
        all_goals exact HFIN.out
      · have hc1n : ¬ (0 ≤ cut ∧ cut < (x.data.toList.length : Int)) := by rw [hxl]; omega
        have HD2 := Lib.hid (H.out.set2 (cut - (x.size : Int)))
        have HT2 := Lib.hid ((Two.refl d g w).setCell 2 (.int .i64 (cut - (x.size : Int))))
        have HLN : Hid ((b ++ x.data.toList).length = b.length + x.size) := Lib.hid (by rw [List.length_append, hxl])
        have FIN : Hid (∀ (w6 : World) (v6 : Value) (g' : Nat), Buf 5 g' (b ++ x.data.toList) v6 w6 → (g' = g ∨ g' = (w.setCell ⟨d, 2, none⟩ (.int .i64 (cut - (x.size : Int)))).heap.size) → (w.setCell ⟨d, 2, none⟩ (.int .i64 (cut - (x.size : Int)))).grownBy w6 (some g) →
            WrPost a d g ⟨b, false, cut⟩ x.data.toList w (.returned .nilIface) (w6.setCell ⟨d, 0, none⟩ v6)) := Lib.hid (by
          intro w6 v6 g' hb6 hg6 hgr
          refine ⟨_, rfl, by rw [wrOk_not b cut _ hc1n]; rfl, ?_⟩
          rw [wrSt_fits b cut _ hc0 (fun h => hc1n ⟨hc0, h⟩), hxl]
          exact wr_fin HD2.out HT2.out hb6 hg6 hgr)
        have hl2 : b.length + x.size ≤ 2 ^ 40 := hb
        clear hc1n s11 hxl
        go_enter Tryd.func57, Tryd.ntmps57
        go_wp2_with (first | (at_builtin; refine wpList_buf rfl (.tmp 60) (.tmp 61) 55 9 rfl 5 i0 Tryd.underlying55 Tryd.underlying9 hi hz0 hz1 hz2 g b _ rfl (HD2.out.buf) _ rfl hl2 ?_; intro v6 w6 g' hb6 hg6 hgr; obtain ⟨c6, hv6⟩ := hb6.form; rw [HLN.out] at hv6; subst hv6; have hrow6 := wr_row HD2.out hgr; have d0 := cell_of_row w6 d 0 _ _ _ hrow6; have e0 := frozen_of_row w6 d 0 _ _ hrow6) | fail)
        go_ret
        exact FIN.out _ _ _ hb6 hg6 hgr
    · have hc1n : ¬ (0 ≤ cut ∧ cut < (x.data.toList.length : Int)) := fun h => hc0 h.1
      have HLN : Hid ((b ++ x.data.toList).length = b.length + x.size) := Lib.hid (by rw [List.length_append, hxl])
      have FIN : Hid (∀ (w6 : World) (v6 : Value) (g' : Nat), Buf 5 g' (b ++ x.data.toList) v6 w6 → (g' = g ∨ g' = w.heap.size) → w.grownBy w6 (some g) →
          WrPost a d g ⟨b, false, cut⟩ x.data.toList w (.returned .nilIface) (w6.setCell ⟨d, 0, none⟩ v6)) := Lib.hid (by
        intro w6 v6 g' hb6 hg6 hgr
        refine ⟨_, rfl, by rw [wrOk_not b cut _ hc1n]; rfl, ?_⟩
        rw [wrSt_free b cut _ hc0]
        exact wr_fin H.out (Two.refl d g w) hb6 hg6 hgr)
      have hl2 : b.length + x.size ≤ 2 ^ 40 := hb
      clear hc1n s11 hxl
      go_enter Tryd.func57, Tryd.ntmps57
      go_wp2_with (first | (at_builtin; refine wpList_buf rfl (.tmp 60) (.tmp 61) 55 9 rfl 5 i0 Tryd.underlying55 Tryd.underlying9 hi hz0 hz1 hz2 g b _ rfl (H.out.buf) _ rfl hl2 ?_; intro v6 w6 g' hb6 hg6 hgr; obtain ⟨c6, hv6⟩ := hb6.form; rw [HLN.out] at hv6; subst hv6; have hrow6 := wr_row H.out hgr; have d0 := cell_of_row w6 d 0 _ _ _ hrow6; have e0 := frozen_of_row w6 d 0 _ _ hrow6) | fail)
      go_ret
      exact FIN.out _ _ _ hb6 hg6 hgr
end Go.Proofs.YtpacalklcdlhoaaDoor
