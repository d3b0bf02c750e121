/- once.Table and the reference's side by side: noting and asking keep them one. Conditions as named. -/
import Derived.Test.YtpacalklcdlhoaaDoorOnk
namespace Go.Proofs.YtpacalklcdlhoaaDoor
open Go.RowKit Go.Lib Go.Maps

structure TIn (a : Nat → Addr) (W : World) (b mb cnt rb : Nat) (v : Value) (L : Tb) (w : World) : Prop where
  o : OIn a W b mb cnt (dataOf L) w
  r : RTab rb W.heap.size v L w
  s : Srt L
  d1 : rb ≠ b
  d2 : rb ≠ mb
  d3 : ∀ g, v.ownBlock = some g → g ≠ b ∧ g ≠ mb
theorem TIn.below {a : Nat → Addr} {W w w' : World} {b mb cnt rb : Nat} {v : Value} {L : Tb} (h : TIn a W b mb cnt rb v L w) (k : Below w.heap.size w w') : TIn a W b mb cnt rb v L w' := ⟨h.o.below k, h.r.below k, h.s, h.d1, h.d2, h.d3⟩
theorem TIn.len {a : Nat → Addr} {W w : World} {b mb cnt rb : Nat} {v : Value} {L : Tb} (h : TIn a W b mb cnt rb v L w) : L.length ≤ 20 := by rw [← size_data]; exact h.o.sz
theorem RTab.two {rb base d g : Nat} {v : Value} {L : Tb} {w w' : World} (h : RTab rb base v L w) (k : Two d g w w') (h1 : rb ≠ d) (h2 : rb ≠ g) (h3 : ∀ x, v.ownBlock = some x → x ≠ d ∧ x ≠ g) : RTab rb base v L w' := by
  refine ⟨(k.block rb h.lt h1 h2).trans h.row, ⟨h.own.1, ?_⟩, h.ne⟩
  rcases h.own.2 with h0 | ⟨b, cap, cur, hv, hg, hh, h4⟩
  · exact .inl h0
  · have hn := h3 b (by rw [hv]; rfl)
    exact .inr ⟨b, cap, cur, hv, hg, (k.block b (Array.getElem?_eq_some_iff.1 hh).1 hn.1 hn.2).trans hh, h4⟩
theorem OTab.frame {b mb cnt rb : Nat} {D : DataW Unit} {v : Value} {w w' : World} (h : OTab b mb D cnt w) (k : TFrame rb v w w') (h1 : b ≠ rb) (h2 : mb ≠ rb) (h3 : v.ownBlock ≠ some b) (h4 : v.ownBlock ≠ some mb) : OTab b mb D cnt w' := by
  have hl := h.map.lt
  obtain ⟨es, clock, hb, F⟩ := h.map
  exact ⟨(k.block b h.lt h1 h3).trans h.row, ⟨es, clock, (k.block mb hl h2 h4).trans hb, F⟩, h.ne⟩
theorem note_free {D : DataW Unit} {t : Bytes} {n an : Int} (h : noteNo D t n an = 0) : ¬ (Maps.has D (.string t) = false ∧ 20 ≤ Maps.size D) := fun hz => by
  unfold noteNo at h
  split at h
  · cases h
  · split at h
    · cases h
    · first | cases h | (rw [if_pos hz] at h; cases h)
theorem size_ls {a : Nat → Addr} {W w : World} {b mb cnt rb : Nat} {v : Value} {L : Tb} (h : TIn a W b mb cnt rb v L w) (t : Bytes) (n : Int) (x : Bytes) : Maps.size (dataOf (noteLs L t n x)) ≤ 20 := by
  unfold noteLs
  by_cases hc : noteC L t n = 0
  · rw [if_pos hc, ← put_data L h.s]
    exact size_note h.o.tab h.o.sz (note_free (noteC_zero.1 hc)) _
  · rw [if_neg hc]; exact h.o.sz
/-- noting here, then there -/
theorem TIn.note1 {a : Nat → Addr} {W : World} {b mb cnt rb : Nat} (hcnt : cnt < maxLen) {v : Value} {L : Tb} {T X : ByteArray} (hT : T.size ≤ maxLen) {n : Int} (hn : (Lit.int .i64 n).wf = true) :
    ∀ w, TIn a W b mb cnt rb v L w → Calls Tryd.prog 40 #[.pointer (some ⟨b, 0, none⟩), .string T, .int .i64 n, .string X] w fun e w' =>
      ∃ r, e = .returned r ∧ (∀ w0, Sents a w0 → ErrV a r (noteC L T.data.toList n) (-1) w0) ∧ OIn a W b mb (cnt + 1) (dataOf (noteLs L T.data.toList n X.data.toList)) w' ∧ RTab rb W.heap.size v L w' ∧ Two b mb w w' := fun w h => by
  refine (ONote_any a b mb cnt hcnt (dataOf L) T X hT n _ hn _ (dataOf_ans L T.data.toList) w h.o.tab (h.o.sen.someS _ (by decide))).mono fun e w' hp => ?_
  obtain ⟨r, rfl, hr, hTb, h2⟩ := hp
  rw [noteD_eq h.s] at hTb
  exact ⟨r, rfl, fun w0 h0 => by rw [hr]; exact errV_note h0 L _ n, ⟨hTb, h.o.e, h.o.bel.trans (h2.below h.o.hb h.o.hm h.o.bel.size), h.o.hb, h.o.hm, size_ls h _ _ _⟩, h.r.two h2 h.d1 h.d2 h.d3, h2⟩
theorem TIn.note2 {a : Nat → Addr} {W : World} {b mb cnt rb : Nat} {v : Value} {L : Tb} {T X : ByteArray} (hT : T.size ≤ 9223372036854775807) {n : Int} (hs : Srt L) (hL : L.length ≤ 20) (d1 : rb ≠ b) (d2 : rb ≠ mb) (d3 : ∀ g, v.ownBlock = some g → g ≠ b ∧ g ≠ mb) (hrb : W.heap.size ≤ rb) :
    ∀ w, OIn a W b mb (cnt + 1) (dataOf (noteLs L T.data.toList n X.data.toList)) w → RTab rb W.heap.size v L w → Calls Tryd.prog 42 #[.pointer (some ⟨rb, 0, none⟩), .string T, .int .i64 n, .string X] w fun e w' =>
      e = .returned (.int .i64 (noteC L T.data.toList n)) ∧ (∃ v', TIn a W b mb (cnt + 1) rb v' (noteLs L T.data.toList n X.data.toList) w') ∧ TFrame rb v w w' := fun w ho hr => by
  refine (RTNote_any rb W.heap.size v L hs (by omega) T X hT n w ho.bel.size hr).mono fun e w' hp => ?_
  obtain ⟨v', rfl, hR, hv', hf⟩ := hp
  have ob : OTab b mb _ (cnt + 1) w' := ho.tab.frame hf (Ne.symm d1) (Ne.symm d2) (fun e => (d3 b e).1 rfl) (fun e => (d3 mb e).2 rfl)
  have hbel : Below W.heap.size W w' := ho.bel.trans ⟨hf.os, hf.tape, hf.output, hf.size, fun k hk => hf.block k (Nat.lt_of_lt_of_le hk ho.bel.size) (by omega) (fun e => by
    have := own_ge hr.own e
    omega)⟩
  refine ⟨rfl, ⟨v', ⟨ob, ho.e, hbel, ho.hb, ho.hm, ho.sz⟩, hR, srt_note hs _ _ _, d1, d2, ?_⟩, hf⟩
  rcases hv' with rfl | hv'
  · exact d3
  · intro g hg
    have h1 := hv' g hg
    have h2 := ho.tab.lt
    have h3 := ho.tab.map.lt
    omega
theorem TIn.ask1 {a : Nat → Addr} {W : World} {b mb cnt rb : Nat} {v : Value} {L : Tb} {T : ByteArray} (hT : T.size ≤ maxLen) {n : Int} {V : Value} (hV : askV a (dataOf L) T.data.toList n (anL L T.data.toList) ((getL L T.data.toList).getD (0, [])).2 = V) :
    ∀ w, TIn a W b mb cnt rb v L w → Calls Tryd.prog 39 #[.pointer (some ⟨b, 0, none⟩), .string T, .int .i64 n] w fun e w' => e = .returned V ∧ Below w.heap.size w w' := fun w h =>
  OIn.ask hT (dataOf_ans L T.data.toList) hV w h.o
theorem TIn.ask2 {a : Nat → Addr} {W : World} {b mb cnt rb : Nat} {v : Value} {L : Tb} {T : ByteArray} (hT : T.size ≤ 9223372036854775807) {n : Int} {V : Value} (hV : askR L T.data.toList n = V) :
    ∀ w, TIn a W b mb cnt rb v L w → Calls Tryd.prog 43 #[.pointer (some ⟨rb, 0, none⟩), .string T, .int .i64 n] w fun e w' => e = .returned V ∧ w = w' := fun w h => by
  rw [← hV]
  exact RTAsk_any rb W.heap.size v L (by have := h.len; omega) T hT n w h.r
end Go.Proofs.YtpacalklcdlhoaaDoor
