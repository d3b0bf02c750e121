/- Walk of tape.Recover. Condition: DIn. -/
import Derived.Test.YtpacalklcdlhoaaDoorTapE
namespace Go.Proofs.YtpacalklcdlhoaaDoor
open Go.RowKit Go.Lib

def RcPost (d g : Nat) (s : DSt) (w : World) (e : Ending) (w' : World) : Prop :=
  ∃ v, e = .returned (.tuple #[v, .nilIface]) ∧ w'.ownsRow w.heap.size 9 1 v (readAll s.b).length ((readAll s.b).map VT) ∧ (∀ b, v.ownBlock = some b → w.heap.size ≤ b) ∧ DPost d g (rcSt s) w w'
theorem readAll_take (b : Bytes) : b.take (recsOf (readAll b)).length = recsOf (readAll b) ∧ (recsOf (readAll b)).length ≤ b.length := by
  obtain ⟨t, h, _⟩ := readOf_front b.length b (Nat.le_refl _)
  have h' : b = recsOf (readAll b) ++ t := h
  refine ⟨?_, ?_⟩
  · have : b.take (recsOf (readAll b)).length = (recsOf (readAll b) ++ t).take (recsOf (readAll b)).length := by rw [← h']
    rw [this, List.take_left]
  · have := congrArg List.length h'
    rw [List.length_append] at this; omega
theorem own_set {w : World} {base n size b o : Nat} {e : TypeId} {v x : Value} {xs : List Value} (h : w.ownsRow base e size v n xs) (hb : b < base) : (w.setCell ⟨b, o, none⟩ x).ownsRow base e size v n xs := by
  refine ⟨h.1, ?_⟩
  rcases h.2 with h | ⟨g, cap, cur, hv, hg, hh, h3⟩
  · exact .inl h
  · exact .inr ⟨g, cap, cur, hv, hg, (set_keep (by omega)).trans hh, h3⟩
theorem own_two {w w' : World} {base n size d g : Nat} {e : TypeId} {v : Value} {xs : List Value} (h : w.ownsRow base e size v n xs) (ho : ∀ b, v.ownBlock = some b → b ≠ d ∧ b ≠ g) (k : Two d g w w') : w'.ownsRow base e size v n xs := by
  refine ⟨h.1, ?_⟩
  rcases h.2 with h | ⟨b, cap, cur, hv, hg, hh, h3⟩
  · exact .inl h
  · have hn := ho b (by rw [hv]; rfl)
    exact .inr ⟨b, cap, cur, hv, hg, (k.block b (Array.getElem?_eq_some_iff.1 hh).1 hn.1 hn.2).trans hh, h3⟩
theorem own_base {w : World} {base base' n size : Nat} {e : TypeId} {v : Value} {xs : List Value} (h : w.ownsRow base e size v n xs) (hb : base' ≤ base) : w.ownsRow base' e size v n xs := by
  refine ⟨h.1, ?_⟩
  rcases h.2 with h | ⟨g, cap, cur, hv, hg, h3⟩
  · exact .inl h
  · exact .inr ⟨g, cap, cur, hv, Nat.le_trans hb hg, h3⟩
set_option maxRecDepth 100000 in
set_option maxHeartbeats 1000000 in
theorem TRecover_any (a : Nat → Addr) (W : World) (d g : Nat) (s : DSt) (w : World) (hin : DIn a W d g s w) (hb : s.b.length ≤ 2 ^ 30) :
    Calls Tryd.prog 20 #[.pointer (some ⟨d, 0, none⟩)] w (RcPost d g s w) := by
  have HIN := Lib.hid hin
  obtain ⟨b, off, cut⟩ := s
  obtain ⟨v0, h0⟩ := hin.is
  simp only at hb h0
  have hdl := h0.lt
  have hsz : (bs b).size ≤ 2 ^ 30 := by rw [bs_size]; exact hb
  have HSZ := Lib.hid hsz
  clear hsz hin
  go_enter Tryd.func20, Tryd.ntmps20
  go_wp2_with fail
  refine (TOn_any d g b off cut w ⟨v0, h0⟩).mono ?_
  rintro e w1 ⟨rfl, ⟨v, h1⟩, ht1⟩
  obtain ⟨cp, rfl⟩ := h1.buf.form
  have hcv := buf_text h1.buf
  obtain ⟨c0, c1, c2, f0, f1, f2⟩ := h1.cells
  have HT1 := Lib.hid (HIN.out.t.below (HIN.out.two ht1))
  have H1 := Lib.hid h1
  have hT1 := Lib.hid ht1
  have hdl1 := h1.lt
  clear h0 h1 ht1
  go_wp2_with fail
  refine (Read_any (bs b) HSZ.out w1 HT1.out).mono ?_
  rintro e w2 ⟨vr, rfl, hrow, hB2⟩
  rw [bs_toList] at hrow
  have hlen : ((recsOf (readAll (bs b).data.toList)).length : Nat) = (recsOf (readAll b)).length := by rw [bs_toList]
  rw [hlen]
  obtain ⟨htk, hle⟩ := readAll_take b
  have H2 := Lib.hid (H1.out.below hB2)
  obtain ⟨c0, c1, c2, f0, f1, f2⟩ := H2.out.cells
  have HTK := Lib.hid htk
  have HR := Lib.hid hrow
  have HB2 := Lib.hid hB2
  have HLE := Lib.hid hle
  have hcp : b.length ≤ cp := by
    obtain ⟨cap, cur, fz, h1, _, h3, _⟩ := H2.out.buf
    injection h1 with _ _ h1
    omega
  generalize hq : (recsOf (readAll b)).length = q at *
  have hq1 : (q : Int) ≤ (cp : Int) := by omega
  have hq0 : (0 : Int) ≤ (q : Int) := by omega
  clear hlen htk hrow hB2 hle
  go_wp2
  go_ret2
  have hbuf := H2.out.buf.take q HLE.out
  rw [HTK.out] at hbuf
  exact ⟨vr, rfl, own_base (own_set HR.out hdl1) hT1.out.size, fun b hb => Nat.le_trans hT1.out.size (own_ge HR.out hb), g, ⟨_, DiskAt.set0 (b := b) (g := g) H2.out.row hbuf H2.out.ne⟩, .inl rfl, (hT1.out.trans (Two.of_below HB2.out) (.inl rfl)).setCell 0 _⟩
end Go.Proofs.YtpacalklcdlhoaaDoor
