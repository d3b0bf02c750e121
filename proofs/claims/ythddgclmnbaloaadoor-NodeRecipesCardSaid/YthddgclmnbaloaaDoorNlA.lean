/- Walks of the laws' LongActs, noded; a node that the call has made. Condition: the sentinels that are read lie as named (SomeS). -/
import Derived.Test.YthddgclmnbaloaaDoorOpenN
import Derived.Test.YthddgclmnbaloaaDoorNdQ
namespace Go.Proofs.YthddgclmnbaloaaDoor
open Go.RowKit Go.Lib

def longN (x : ActN) : Bool := decide (20 < x.kind.length) || decide (30 < x.nm.length) || (decide (600 < x.s.length) && decide (x.s.length ≠ 4001))
def longNs (l : List ActN) (most : Nat) : Int := if (decide (most < l.length) || l.any longN) = true then 1 else 0
theorem longN_next {l : List ActN} {k : Nat} (hk : k < l.length) (h : (l.take k).any longN = false) (hx : longN l[k] = false) : (l.take (k + 1)).any longN = false := by
  rw [List.take_succ_eq_append_getElem hk, List.any_append, h, List.any_cons, hx]; rfl
theorem longN_hit {l : List ActN} {k most : Nat} (hk : k < l.length) (hx : longN l[k] = true) : longNs l most = 1 := by
  unfold longNs
  rw [if_pos]
  rw [Bool.or_eq_true]
  exact .inr (List.any_eq_true.2 ⟨_, List.getElem_mem hk, hx⟩)
/-- acts that are not too long -/
theorem longNs_zero {l : List ActN} {most : Nat} (h : longNs l most = 0) : l.length ≤ most ∧ ∀ x ∈ l, x.kind.length ≤ 20 ∧ x.nm.length ≤ 30 ∧ (x.s.length ≤ 600 ∨ x.s.length = 4001) := by
  unfold longNs at h
  by_cases h1 : (decide (most < l.length) || l.any longN) = true
  · rw [if_pos h1] at h; cases h
  · rw [Bool.not_eq_true, Bool.or_eq_false_iff, decide_eq_false_iff_not] at h1
    refine ⟨by omega, fun x hx => ?_⟩
    have := List.any_eq_false.1 h1.2 x hx
    unfold longN at this
    simp at this
    omega
theorem longNs_cases (l : List ActN) (most : Nat) : longNs l most = 0 ∨ longNs l most = 1 := by unfold longNs; split <;> simp
set_option maxRecDepth 100000 in
set_option maxHeartbeats 2000000 in
theorem LongActs_any (v : Value) (l : List ActN) (hl : l.length ≤ maxLen) (hz : ∀ x ∈ l, x.kind.length ≤ maxLen ∧ x.nm.length ≤ maxLen ∧ x.s.length ≤ maxLen) (most : Nat) (hm : most ≤ 1000) (B : Nat) (w : World) (hv : ActNRd w B v l) :
    Calls Tryd.prog 6 #[v, .int .i64 most] w fun e w' => e = .returned (.int .i64 (longNs l most)) ∧ w = w' := by
  obtain ⟨A, c, rfl, hlc, hx⟩ := hv
  have HX := Lib.hid hx
  have HZ := Lib.hid hz
  clear hx hz
  unfold maxLen at hl
  by_cases h80 : most < l.length
  · have h80i : (l.length : Int) > (most : Int) := by omega
    have HP : Hid (longNs l most = 1) := Lib.hid (by unfold longNs; rw [decide_eq_true h80]; rfl)
    go_enter Tryd.func6, Tryd.ntmps6
    go_wp2
    go_ret
    exact ⟨by rw [HP.out]; rfl, rfl⟩
  · have h80i : ¬ (l.length : Int) > (most : Int) := by omega
    go_enter Tryd.func6, Tryd.ntmps6
    go_wp2
    go_loopg [5] l.length (fun gh vi wr => ∃ k : Nat, vi = .int .i64 k ∧ k ≤ l.length ∧ gh = l.length - k ∧ Hid ((l.take k).any longN = false) ∧ w = wr)
    case atStart => exact ⟨0, rfl, Nat.zero_le _, rfl, Lib.hid rfl, rfl⟩
    case round =>
      obtain ⟨k, rfl, hk, hgm, hno, rfl⟩ := hrel
      by_cases hkl : k < l.length
      · obtain ⟨g, o, rfl, hg, hcells⟩ := HX.out (by omega)
        obtain ⟨d0, d1, d2⟩ := hcells k hkl
        have b1 : (0 : Int) ≤ (k : Int) := by omega
        have b2 : (k : Int) < (l.length : Int) := by omega
        have hsz := HZ.out l[k] (List.getElem_mem hkl)
        unfold maxLen at hsz
        have Z0 : Hid ((bs l[k].kind).size = l[k].kind.length) := Lib.hid (bs_size _)
        have Z1 : Hid ((bs l[k].nm).size = l[k].nm.length) := Lib.hid (bs_size _)
        have Z2 : Hid ((bs l[k].s).size = l[k].s.length) := Lib.hid (bs_size _)
        have HHIT : Hid (longN l[k] = true → longNs l most = 1) := Lib.hid (fun h => longN_hit hkl h)
        have HNXT : Hid (longN l[k] = false → (l.take (k + 1)).any longN = false) := Lib.hid (fun h => longN_next hkl hno.out h)
        clear hcells
        by_cases h1 : 20 < l[k].kind.length
        · have h1i : ((bs l[k].kind).size : Int) > 20 := by rw [Z0.out]; omega
          have HP := Lib.hid (HHIT.out (by unfold longN; rw [decide_eq_true h1]; rfl))
          clear h1
          go_wp2
          go_ret
          exact ⟨by rw [HP.out]; rfl, rfl⟩
        · have h1i : ¬ ((bs l[k].kind).size : Int) > 20 := by rw [Z0.out]; omega
          by_cases h2 : 30 < l[k].nm.length
          · have h2i : ((bs l[k].nm).size : Int) > 30 := by rw [Z1.out]; omega
            have HP := Lib.hid (HHIT.out (by unfold longN; rw [decide_eq_true h2, Bool.or_true]; rfl))
            clear h1 h2
            go_wp2
            go_ret
            exact ⟨by rw [HP.out]; rfl, rfl⟩
          · have h2i : ¬ ((bs l[k].nm).size : Int) > 30 := by rw [Z1.out]; omega
            by_cases h3 : 600 < l[k].s.length
            · have h3i : ((bs l[k].s).size : Int) > 600 := by rw [Z2.out]; omega
              by_cases h4 : l[k].s.length = 4001
              · have h4i : (((bs l[k].s).size : Int) != 4001) = false := by rw [Z2.out, bne_eq_false_iff_eq]; omega
                have HN := Lib.hid (HNXT.out (by unfold longN; simp [h1, h2, h4]))
                clear h1 h2 h3 h4
                go_wp2
                go_roundg (l.length - (k + 1))
                case measure => omega
                case rel => exact ⟨k + 1, by go_num, hkl, rfl, HN, rfl⟩
              · have h4i : (((bs l[k].s).size : Int) != 4001) = true := by rw [Z2.out, bne_iff_ne]; omega
                have HP := Lib.hid (HHIT.out (by unfold longN; simp [h3, h4]))
                clear h1 h2 h3 h4
                go_wp2
                go_ret
                exact ⟨by rw [HP.out]; rfl, rfl⟩
            · have h3i : ¬ ((bs l[k].s).size : Int) > 600 := by rw [Z2.out]; omega
              have HN := Lib.hid (HNXT.out (by unfold longN; simp [h1, h2, h3]))
              clear h1 h2 h3
              go_wp2
              go_roundg (l.length - (k + 1))
              case measure => omega
              case rel => exact ⟨k + 1, by go_num, hkl, rfl, HN, rfl⟩
      · obtain rfl : k = l.length := by omega
        have HP : Hid (longNs l most = 0) := Lib.hid (by
          have h := hno.out
          rw [List.take_length] at h
          unfold longNs; rw [decide_eq_false h80, h]; rfl)
        clear hno
        go_wp2
        go_ret
        exact ⟨by rw [HP.out]; rfl, rfl⟩
/-! ### a node that the call has made -/
structure NIn (base n : Nat) (P : PNode) (f : Foot) (w0 w : World) : Prop where
  node : Node n P f w
  ge : ∀ k, f.S k → base ≤ k
  bel : Below base w0 w
  sz : base ≤ w.heap.size
theorem NIn.below {base n : Nat} {P : PNode} {f : Foot} {w0 w w' : World} (h : NIn base n P f w0 w) (hb : Below w.heap.size w w') : NIn base n P f w0 w' := ⟨h.node.below hb, h.ge, h.bel.trans (hb.mono h.sz), Nat.le_trans h.sz hb.size⟩
theorem NIn.to {base n : Nat} {P P' : PNode} {f : Foot} {w0 w w' : World} (h : NIn base n P f w0 w) (ht : NodeTo n f P' w w') : ∃ f', NIn base n P' f' w0 w' := by
  obtain ⟨f', h1, h2, h3⟩ := ht
  exact ⟨f', h1, fun k hk => ((h3 k).1 hk).elim (h.ge k) (fun hB => Nat.le_trans h.sz hB), h2.below h.bel h.sz h.ge, Nat.le_trans h.sz h2.size⟩
/-! ### noded -/
def hlo : Bytes := [104, 101, 108, 108, 111]
def hl1 : HldL := [⟨idOf hlo, 1, hlo⟩]
def hl2 : HldL := [⟨idOf hlo, 2, hlo⟩]
theorem pieces_hlo : pieces hlo = [hlo] := by decide
theorem ids_hlo : idsOf hlo = [idOf hlo] := by unfold idsOf; rw [pieces_hlo]; rfl
theorem get_hl1 : getB hl1 (idOf hlo) = some ⟨idOf hlo, 1, hlo⟩ := by unfold getB hl1; rw [List.find?_cons]; simp
theorem get_hl2 : getB hl2 (idOf hlo) = some ⟨idOf hlo, 2, hlo⟩ := by unfold getB hl2; rw [List.find?_cons]; simp
theorem put_hl1 : putB hlo [] = (hl1, idOf hlo, true, 0) := by
  unfold putB
  rw [if_neg (by decide)]; rfl
theorem put_hl2 : putB hlo hl1 = (hl2, idOf hlo, false, 0) := by
  unfold putB
  rw [if_neg (by decide), get_hl1]
  show (if hlo ≠ hlo then _ else (setB ⟨idOf hlo, 1 + 1, hlo⟩ hl1, idOf hlo, false, 0)) = _
  rw [if_neg (by simp)]
  unfold hl1 setB
  rw [if_pos rfl]; rfl
def nd1 : PNode := ⟨[([97], rcpOf [97] hlo)], [(idOf hlo, hl1)]⟩
def nd2 : PNode := ⟨[([97], rcpOf [97] hlo), ([98], rcpOf [98] hlo)], [(idOf hlo, hl2)]⟩
theorem rep_hlo : repOf (idsOf hlo) = idOf hlo := by rw [ids_hlo]; rfl
theorem putN_hl1 : putN [97] hlo ⟨[], []⟩ = (nd1, 5, 0) := by
  have hp : putAll (pieces hlo) (binN ⟨[], []⟩ (repOf (idsOf hlo))) 0 = (hl1, 5, 0) := by
    rw [pieces_hlo, show binN ⟨[], []⟩ (repOf (idsOf hlo)) = [] from rfl, putAll_next put_hl1]; rfl
  rw [putN_main (by decide) (by decide) (by decide) (by decide) hp, if_pos rfl, rep_hlo]; rfl
theorem putN_hl2 : putN [98] hlo nd1 = (nd2, 0, 0) := by
  have hb : binN nd1 (repOf (idsOf hlo)) = hl1 := by
    rw [rep_hlo]
    show (alGet [(idOf hlo, hl1)] (idOf hlo)).getD [] = hl1
    rw [alGet_cons, if_pos rfl]; rfl
  have hp : putAll (pieces hlo) (binN nd1 (repOf (idsOf hlo))) 0 = (hl2, 0, 0) := by
    rw [pieces_hlo, hb, putAll_next put_hl2]; rfl
  rw [putN_main (by decide) (by decide) (by show ¬ (alGet [(([97] : Bytes), rcpOf [97] hlo)] [98]).isSome = true; rw [alGet_cons, if_neg (by decide)]; decide) (by show ¬ 30 ≤ 1; decide) hp, if_pos rfl, rep_hlo]
  show (_, _, _) = _
  have e1 : alPut lesser (idOf hlo) hl2 nd1.bins = [(idOf hlo, hl2)] := by
    show alPut lesser (idOf hlo) hl2 [(idOf hlo, hl1)] = _
    unfold alPut
    rw [if_pos rfl]
  have e2 : alPut bytesBefore [98] (rcpOf [98] hlo) nd1.files = [([97], rcpOf [97] hlo), ([98], rcpOf [98] hlo)] := by
    show alPut bytesBefore [98] (rcpOf [98] hlo) [([97], rcpOf [97] hlo)] = _
    unfold alPut
    rw [if_neg (by decide), if_neg (by decide)]; rfl
  rw [e1, e2]; rfl
theorem getN_hl : getN [98] nd2 = (hlo, 0) := by
  have e : alGet nd2.files [98] = some (rcpOf [98] hlo) := by
    show alGet [(([97] : Bytes), rcpOf [97] hlo), ([98], rcpOf [98] hlo)] [98] = _
    rw [alGet_cons, if_neg (by decide), alGet_cons, if_pos rfl]
  have hb : binN nd2 (repR (rcpOf [98] hlo)) = hl2 := by
    rw [show repR (rcpOf [98] hlo) = idOf hlo from rep_hlo]
    show (alGet [(idOf hlo, hl2)] (idOf hlo)).getD [] = hl2
    rw [alGet_cons, if_pos rfl]; rfl
  unfold getN
  rw [e]
  simp only
  rw [hb, show (rcpOf [98] hlo).ids = [idOf hlo] from ids_hlo, List.map_cons, List.map_nil]
  have : textB hl2 (idOf hlo) = hlo := by unfold textB; rw [get_hl2]; rfl
  rw [this]; rfl
theorem size_nd2 : sizeN nd2 = 5 := rfl
theorem NIn.new {base n : Nat} {f : Foot} {w0 w : World} (hn : Node n ⟨[], []⟩ f w) (hg : f.ge base) (hb : Below base w0 w) (hz : base ≤ w.heap.size) : NIn base n ⟨[], []⟩ f w0 w := ⟨hn, fun k hk => hg k (.inl hk), hb, hz⟩
set_option maxRecDepth 100000 in
set_option maxHeartbeats 4000000 in
theorem noded_any (a : Nat → Addr) (w : World) (hs : SomeS [1, 2, 3, 4, 5, 6, 8, 9] a w) :
    Calls Tryd.prog 5 #[] w fun e w' => e = .returned (.bool true) ∧ Below w.heap.size w w' := by
  have HS := Lib.hid hs
  have ok1 : NodeOk nd1 := by have := NodeOk.nil.put [97] hlo; rw [putN_hl1] at this; exact this
  have ok2 : NodeOk nd2 := by have := ok1.put [98] hlo; rw [putN_hl2] at this; exact this
  have HP1 := Lib.hid (fun n f w' (h : NIn w.heap.size n ⟨[], []⟩ f w w') => Node.putC a NodeOk.nil [97] hlo (by unfold StrOk maxLen; decide) w' h.node ((hs.below h.bel).sub (js := [1, 3, 5, 6, 9]) (by decide)))
  have HP2 := Lib.hid (fun n f w' (h : NIn w.heap.size n nd1 f w w') => Node.putC a ok1 [98] hlo (by unfold StrOk maxLen; decide) w' h.node ((hs.below h.bel).sub (js := [1, 3, 5, 6, 9]) (by decide)))
  have HG := Lib.hid (fun n f w' (h : NIn w.heap.size n nd2 f w w') => Node.getC a ok2 [98] (by unfold StrOk maxLen; decide) w' h.node ((hs.below h.bel).sub (js := [1, 2, 3, 4, 6, 8]) (by decide)))
  have HZ := Lib.hid (fun n f w' (h : NIn w.heap.size n nd2 f w w') => Node.sizeC ok2 w' h.node)
  rw [putN_hl1] at HP1
  rw [putN_hl2] at HP2
  rw [getN_hl] at HG
  rw [size_nd2] at HZ
  unfold GetPost at HG
  have hcmp : ((bs hlo).toList == [104, 101, 108, 108, 111]) = true := by rw [ByteArray.toList_eq, bs_toList]; rfl
  clear hs ok1 ok2
  go_enter Tryd.func5, Tryd.ntmps5
  go_wp2_with fail
  refine (NdNew_any w).mono ?_
  rintro e w1 ⟨n, f, rfl, hn, hge, hb1⟩
  have H1 := Lib.hid (NIn.new hn hge hb1 hb1.size)
  clear hn hge hb1
  go_wp2_with fail
  refine (HP1.out n f w1 H1.out).mono ?_
  rintro e w2 ⟨r2, rfl, hev2, ht2⟩
  obtain ⟨rfl, _⟩ := hev2.nil rfl
  obtain ⟨f2, h2⟩ := H1.out.to ht2
  have H2 := Lib.hid h2
  clear hev2 ht2 h2
  go_wp2_with fail
  refine (HP2.out n f2 w2 H2.out).mono ?_
  rintro e w3 ⟨r3, rfl, hev3, ht3⟩
  obtain ⟨rfl, _⟩ := hev3.nil rfl
  obtain ⟨f3, h3⟩ := H2.out.to ht3
  have H3 := Lib.hid h3
  clear hev3 ht3 h3
  go_wp2_with fail
  refine (HG.out n f3 w3 H3.out).mono ?_
  rintro e w4 ⟨r4, rfl, hes4, hb4⟩
  obtain ⟨rfl, _⟩ := hes4.nil rfl
  have H4 := Lib.hid (H3.out.below hb4)
  clear hes4 hb4
  go_wp2_with fail
  refine (HZ.out n f3 w4 H4.out).mono ?_
  rintro e w5 ⟨rfl, hb5⟩
  have H5 := Lib.hid (H4.out.below hb5)
  clear hb5
  go_wp2
  go_ret
  exact ⟨rfl, H5.out.bel⟩
end Go.Proofs.YthddgclmnbaloaaDoor
