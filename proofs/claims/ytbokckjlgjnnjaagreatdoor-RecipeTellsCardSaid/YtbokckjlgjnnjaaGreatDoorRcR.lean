/- Walk of recipe.Read. Condition: the sentinels and tables that are read lie as named (RcW). -/
import Derived.Test.YtbokckjlgjnnjaaGreatDoorRcp1
import Derived.Test.YtbokckjlgjnnjaaGreatDoorPrW
namespace Go.Proofs.YtbokckjlgjnnjaaGreatDoor
open Go.RowKit Go.Lib

structure RcW (a : Nat → Addr) (w : World) : Prop where
  s : SomeS [0, 1, 2, 3, 6, 8] a w
  t : Tabs w
  m : MaxL w
  p : Perrs w
theorem RcW.below {a : Nat → Addr} {w w' : World} (h : RcW a w) (hb : Below w.heap.size w w') : RcW a w' := ⟨h.s.below hb, h.t.below hb, h.m.below hb, h.p.below hb⟩
theorem SomeS.sub {ks js : List Nat} {a : Nat → Addr} {w : World} (h : SomeS ks a w) (hj : ∀ k ∈ js, k ∈ ks) : SomeS js a w := fun k hk => h k (hj k hk)
theorem RcW.five {a : Nat → Addr} {w : World} (h : RcW a w) : SomeS [1, 2, 3, 6, 8] a w := h.s.sub (by decide)
/-- strings.Split at a byte -/
theorem Split_any (t : ByteArray) (b : UInt8) (ht : t.size ≤ 2 ^ 30) (w : World) (hm : MaxL w) :
    Calls Tryz.prog 73 #[.string t, .string ⟨#[b]⟩] w fun e w' => e = .returned (.slice (some ⟨w.heap.size, 0, none⟩) (cutAll b t.data.toList).length (cutAll b t.data.toList).length) ∧ w' = w.alloc (.cells ((cutAll b t.data.toList).map VT).toArray 9) := by
  obtain ⟨m, hm⟩ := hm
  have hc : countB t ⟨#[b]⟩ = count t.data.toList [b] := rfl
  have e1 : (splitB ⟨#[b]⟩ 0 (countB t ⟨#[b]⟩) t).map (·.data.toList) = cutAll b t.data.toList := by
    rw [splitB_data]
    exact splitK_cut b _ _ hc.symm
  have e2 : (splitB ⟨#[b]⟩ 0 (countB t ⟨#[b]⟩) t).map Value.string = (cutAll b t.data.toList).map VT := by
    rw [← e1, List.map_map]
    refine List.map_congr_left (fun x _ => ?_)
    show Value.string x = Value.string (bs x.data.toList)
    rw [bs_of]
  have e3 : countB t ⟨#[b]⟩ + 1 = (cutAll b t.data.toList).length := by
    rw [← e1, List.length_map]
    exact (splitB_all ⟨#[b]⟩ (Nat.le_refl 1) 0 _ t rfl).symm
  have h := Tryz.strings_Split t ⟨#[b]⟩ m w (by omega) hm (Nat.le_refl 1)
  rw [e2, e3] at h
  exact h
theorem cutAux_mem (b : UInt8) (l : Bytes) : ∀ cur, ∀ p ∈ cutAux b cur l, p.length ≤ cur.length + l.length := by
  induction l with
  | nil => intro cur p hp; simp [cutAux] at hp; rw [hp]; simp
  | cons c l ih =>
    intro cur p hp
    rw [cutAux] at hp
    split at hp
    · rcases List.mem_cons.1 hp with rfl | hp
      · simp
      · have := ih [] p hp; simp at this ⊢; omega
    · have := ih (cur ++ [c]) p hp; simp at this ⊢; omega
theorem cutAll_mem {b : UInt8} {l p : Bytes} (h : p ∈ cutAll b l) : p.length ≤ l.length := by
  have := cutAux_mem b l [] p h
  simpa using this
theorem readId_bounds {l : Bytes} {n k : Nat} (h : readId l = some (n, k)) : n < 4294967296 ∧ (k : Int) ≤ 9223372036854775807 := by
  unfold readId at h
  split at h
  · cases h
  · split at h
    · next n' k' h1 h2 =>
      injection h with h; injection h with e1 e2
      subst e1; subst e2
      exact ⟨(unhexOf_some h1).1, (atoiO_bounds (numOf_some h2).1).2⟩
    · cases h
theorem readIds_bounds : ∀ (ws : List Bytes) (L : IdL), readIds ws = some L → L.length = ws.length ∧ ∀ x ∈ L, x.1 < 4294967296 ∧ -9223372036854775808 ≤ x.2 ∧ x.2 ≤ 9223372036854775807
  | [], L, h => by injection h with h; subst h; exact ⟨rfl, fun x hx => by cases hx⟩
  | x :: r, L, h => by
    unfold readIds at h
    cases h1 : readId x with
    | none => rw [h1] at h; cases h
    | some p =>
      obtain ⟨n, k⟩ := p
      rw [h1] at h
      cases h2 : readIds r with
      | none => rw [h2] at h; cases h
      | some l =>
        rw [h2] at h
        injection h with h
        subst h
        obtain ⟨q1, q2⟩ := readIds_bounds r l h2
        obtain ⟨q3, q4⟩ := readId_bounds h1
        refine ⟨by simp [q1], fun y hy => ?_⟩
        rcases List.mem_cons.1 hy with rfl | hy
        · exact ⟨q3, by show (-9223372036854775808 : Int) ≤ (k : Int); omega, q4⟩
        · exact q2 y hy
theorem readIds_start (ws : List Bytes) : readIds ws = (readIds (ws.drop 0)).map ([] ++ ·) := by rw [List.drop_zero]; cases readIds ws <;> simp
theorem readIds_next {ws : List Bytes} {k n j : Nat} {done : IdL} (hk : k < ws.length) (h : readId ws[k] = some (n, j)) (hI : readIds ws = (readIds (ws.drop k)).map (done ++ ·)) : readIds ws = (readIds (ws.drop (k + 1))).map ((done ++ [(n, (j : Int))]) ++ ·) := by
  rw [hI, List.drop_eq_getElem_cons hk]
  conv => lhs; unfold readIds
  rw [h]
  cases readIds (ws.drop (k + 1)) with
  | none => rfl
  | some l => simp
theorem readIds_hit {ws : List Bytes} {k : Nat} {done : IdL} (hk : k < ws.length) (h : readId ws[k] = none) (hI : readIds ws = (readIds (ws.drop k)).map (done ++ ·)) : readIds ws = none := by
  rw [hI, List.drop_eq_getElem_cons hk]
  conv => lhs; unfold readIds
  rw [h]; rfl
theorem readIds_end {ws : List Bytes} {done : IdL} (hI : readIds ws = (readIds (ws.drop ws.length)).map (done ++ ·)) : readIds ws = some done := by
  rw [hI, List.drop_eq_nil_of_le (Nat.le_refl _)]; simp [readIds]
def readVal (t : Bytes) : Rcp := match readRcp t with | .ok r => r | .error _ => rcpZero
def readErr (t : Bytes) : Int × Int := match readRcp t with | .ok _ => (0, -1) | .error f => f
def ReadPost (a : Nat → Addr) (t : Bytes) (w : World) (e : Ending) (w' : World) : Prop :=
  ∃ v x, e = .returned (.tuple #[v, x]) ∧ EV a x (readErr t).1 (readErr t).2 w' ∧ RcpW w' w.heap.size w'.heap.size v (readVal t) ∧ Below w.heap.size w w'
theorem read_bad {a : Nat → Addr} {t : Bytes} {w w' : World} {f : Int × Int} {x : Value} (h : readRcp t = .error f) (hx : EV a x f.1 f.2 w') (hb : Below w.heap.size w w') : ReadPost a t w (.returned (.tuple #[zeroV, x])) w' :=
  ⟨zeroV, x, rfl, by unfold readErr; rw [h]; exact hx, by unfold readVal; rw [h]; exact RcpW.zero _ _ _, hb⟩
theorem read_ok {a : Nat → Addr} {t : Bytes} {w w' : World} {r : Rcp} {v : Value} (h : readRcp t = .ok r) (hv : RcpW w' w.heap.size w'.heap.size v r) (hb : Below w.heap.size w w') : ReadPost a t w (.returned (.tuple #[v, .nilIface])) w' :=
  ⟨v, _, rfl, by unfold readErr; rw [h]; exact EV.none a _, by unfold readVal; rw [h]; exact hv, hb⟩
theorem readWs_ids {p q s : Bytes} {ws : List Bytes} {n u : Nat} (h1 : numOf q 6 = some n) (h2 : unhexOf s = some u) : readWs (p :: q :: s :: ws) = readEnd p n u (readIds ws) := by
  simp only [readWs, h1, h2]
theorem readWs_no {p q s : Bytes} {ws : List Bytes} (h : ¬ ((numOf q 6).isSome = true ∧ (unhexOf s).isSome = true)) : readWs (p :: q :: s :: ws) = .error (1, -1) := by
  cases h1 : numOf q 6 with
  | none => simp only [readWs, h1]
  | some n =>
    cases h2 : unhexOf s with
    | none => simp only [readWs, h1, h2]
    | some u => rw [h1, h2] at h; exact absurd ⟨rfl, rfl⟩ h
theorem readWs_few {L : List Bytes} (h : L.length < 3) : readWs L = .error (1, -1) := by
  match L, h with
  | [], _ => rfl
  | [_], _ => rfl
  | [_, _], _ => rfl
  | _ :: _ :: _ :: r, h => simp at h; omega
theorem three_of {L : List Bytes} (h : ¬ L.length < 3) : ∃ p q s ws, L = p :: q :: s :: ws := by
  match L, h with
  | [], h => simp at h
  | [_], h => simp at h
  | [_, _], h => simp at h
  | p :: q :: s :: r, _ => exact ⟨p, q, s, r, rfl⟩
set_option maxRecDepth 100000 in
set_option maxHeartbeats 4000000 in
theorem RcRead_any (a : Nat → Addr) (t : ByteArray) (ht : t.size ≤ 1000000000) (w : World) (h : RcW a w) :
    Calls Tryz.prog 37 #[.string t] w (ReadPost a t.data.toList w) := by
  obtain ⟨i0, hi, hzz0, hzz1, hzz2⟩ := info_parts info_idI
  have hz := size_toList t
  have hb0 : Below w.heap.size w (w.alloc (.cells #[.string ⟨#[]⟩, .int .i64 0, .int .u32 0, .slice none 0 0] 36)) := (Below.refl _ w).alloc (Nat.le_refl _) _
  have hwr : Box4 w.heap.size (.string ⟨#[]⟩) (.int .i64 0) (.int .u32 0) (.slice none 0 0) (w.alloc (.cells #[.string ⟨#[]⟩, .int .i64 0, .int .u32 0, .slice none 0 0] 36)) := Box4.mk' _ _ _ _ _ _
  have HW00 := Lib.hid h
  have HW := Lib.hid (h.below hb0)
  have HWR := Lib.hid hwr
  have HB0 := Lib.hid hb0
  have hg0 : 6 < w.heap.size := World.block_lt_of_cell? w _ (h.s 0 (by simp))
  have hg1 : 1 < w.heap.size := World.block_lt_of_cell? w _ (h.s 1 (by simp))
  clear h hb0 hwr
  by_cases hbig : 40000 < t.size
  · have hbi : (t.size : Int) > 40000 := by omega
    have HE : Hid (readRcp t.data.toList = .error (2, -1)) := Lib.hid (if_pos (by omega))
    obtain ⟨c0, c1, c2, c3, hf⟩ := HWR.out
    have f0 := hf 0
    have f1 := hf 1
    have f2 := hf 2
    have f3 := hf 3
    have hs1 : (w.alloc (.cells #[.string ⟨#[]⟩, .int .i64 0, .int .u32 0, .slice none 0 0] 36)).cell? ⟨1, 0, none⟩ = some (sval a 1) := HW.out.s 1 (by simp)
    unfold sval at hs1
    have hne : ¬ (1 = w.heap.size) := by omega
    obtain ⟨d0, d1, d2, d3, _⟩ := HWR.out.set (.string ⟨#[]⟩) (.int .i64 0) (.int .u32 0) (.slice none 0 0)
    have HB9 := Lib.hid (below_set4 HB0.out (Nat.le_refl _) (.string ⟨#[]⟩) (.int .i64 0) (.int .u32 0) (.slice none 0 0)).drew
    clear hf hz hbig
    go_enter Tryz.func37, Tryz.ntmps37
    go_wp2_with fail
    generalize w.alloc (.cells #[.string ⟨#[]⟩, .int .i64 0, .int .u32 0, .slice none 0 0] 36) = w0 at *
    go_wp2
    go_region
    go_wp2
    refine bodyPost_ret (v := .tuple #[zeroV, .iface 265 (.pointer (some (a 1)))]) (by simp [results, Tryz.results37, go_sem, d0, d1, d2, d3, zeroV]) rfl ?_
    exact read_bad HE.out (EV.sent a _ 1 (by decide)) HB9.out
  · have hbi : ¬ (t.size : Int) > 40000 := by omega
    have HR : Hid (readRcp t.data.toList = readWs (cutAll 32 t.data.toList)) := Lib.hid (if_neg (by omega))
    have HML := Lib.hid (fun p (hp : p ∈ cutAll 32 t.data.toList) => cutAll_mem hp)
    have HLN := Lib.hid (cutAux_length 32 t.data.toList [])
    have HSZ : Hid (t.data.toList.length ≤ 40000) := Lib.hid (by omega)
    have HBT := Lib.hid (bs_of t)
    clear hz hbig
    go_enter Tryz.func37, Tryz.ntmps37
    go_wp2_with fail
    generalize w.alloc (.cells #[.string ⟨#[]⟩, .int .i64 0, .int .u32 0, .slice none 0 0] 36) = w1 at *
    refine (Split_any t 32 (by omega) _ HW.out.m).mono ?_
    rintro e w2 ⟨rfl, hw2⟩
    have hb2 : Below w1.heap.size w1 w2 := by rw [hw2]; exact (Below.refl _ _).alloc (Nat.le_refl _) _
    have hcell2 : ∀ (k : Nat) (u : Value), ((cutAll 32 t.data.toList).map VT)[k]? = some u → w2.cell? ⟨w1.heap.size, k, none⟩ = some u := fun k u hu => by
      rw [hw2, World.cell?_alloc_at _ _ _ _ rfl]
      show ((cutAll 32 t.data.toList).map VT).toArray[k]? = some u
      rw [List.getElem?_toArray]; exact hu
    have HB2 := Lib.hid (HB0.out.trans (hb2.mono HB0.out.size))
    have hsz2 : w2.heap.size = w1.heap.size + 1 := by rw [hw2]; simp
    have HSZ2 := Lib.hid hsz2
    have HW2 := Lib.hid (HW.out.below hb2)
    have HWR2 := Lib.hid (HWR.out.below hb2 HWR.out.lt)
    have HC2 := Lib.hid hcell2
    have HLN' : Hid ((cutAll 32 t.data.toList).length ≤ 40001) := Lib.hid (by have h1 := HLN.out; have h2 := HSZ.out; unfold cutAll; omega)
    clear hb2 hcell2 hsz2 hw2
    generalize hL : cutAll 32 t.data.toList = L at *
    by_cases h3 : L.length < 3
    · have h3i : (L.length : Int) < 3 := by omega
      have HE : Hid (readRcp t.data.toList = .error (1, -1)) := Lib.hid (by rw [HR.out]; exact readWs_few h3)
      obtain ⟨c0, c1, c2, c3, hf⟩ := HWR2.out
      have f0 := hf 0
      have f1 := hf 1
      have f2 := hf 2
      have f3 := hf 3
      have hs1 : w2.cell? ⟨6, 0, none⟩ = some (sval a 0) := HW2.out.s 0 (by simp)
      unfold sval at hs1
      have hne : ¬ (6 = w.heap.size) := by omega
      obtain ⟨d0, d1, d2, d3, _⟩ := HWR2.out.set (.string ⟨#[]⟩) (.int .i64 0) (.int .u32 0) (.slice none 0 0)
      have HB9 := Lib.hid (below_set4 HB2.out (Nat.le_refl _) (.string ⟨#[]⟩) (.int .i64 0) (.int .u32 0) (.slice none 0 0)).drew
      clear hf h3
      go_wp2
      go_region
      go_wp2
      refine bodyPost_ret (v := .tuple #[zeroV, .iface 265 (.pointer (some (a 0)))]) (by simp [results, Tryz.results37, go_sem, d0, d1, d2, d3, zeroV]) rfl ?_
      exact read_bad HE.out (EV.sent a _ 0 (by decide)) HB9.out
    · have h3i : ¬ (L.length : Int) < 3 := by omega
      obtain ⟨p, q, s, ws, hLe⟩ := three_of h3
      subst hLe
      have k0 : w2.cell? ⟨w1.heap.size, 0, none⟩ = some (.string (bs p)) := HC2.out 0 _ rfl
      have k1 : w2.cell? ⟨w1.heap.size, 1, none⟩ = some (.string (bs q)) := HC2.out 1 _ rfl
      have k2 : w2.cell? ⟨w1.heap.size, 2, none⟩ = some (.string (bs s)) := HC2.out 2 _ rfl
      have HP1 : Hid (p.length ≤ 40000) := Lib.hid (Nat.le_trans (HML.out p (by simp)) HSZ.out)
      have HQ1 : Hid (q.length ≤ 40000) := Lib.hid (Nat.le_trans (HML.out q (by simp)) HSZ.out)
      have HS1 : Hid (s.length ≤ 40000) := Lib.hid (Nat.le_trans (HML.out s (by simp)) HSZ.out)
      have HWM : Hid (∀ x ∈ ws, x.length ≤ 40000) := Lib.hid (fun x hx => Nat.le_trans (HML.out x (by simp [hx])) HSZ.out)
      have HWC : Hid (∀ k (hk : k < ws.length), w2.cell? ⟨w1.heap.size, 3 + k, none⟩ = some (.string (bs ws[k]))) := Lib.hid (fun k hk => HC2.out (3 + k) _ (by rw [show 3 + k = k + 1 + 1 + 1 by omega]; simp [hk]))
      have hwl : ws.length ≤ 40000 := by have := HLN'.out; simp at this; omega
      have hll : (p :: q :: s :: ws).length = ws.length + 3 := by simp
      have hqz : (bs q).size ≤ 2 ^ 40 := by rw [bs_size]; have := HQ1.out; omega
      have hsz3 : (bs s).size ≤ 2 ^ 40 := by rw [bs_size]; have := HS1.out; omega
      have HQT := Lib.hid (bs_toList q)
      have HST := Lib.hid (bs_toList s)
      rw [hll] at h3i ⊢
      clear h3 HLN HLN' HML hll hL
      go_wp2_with fail
      by_cases hok : (numOf q 6).isSome = true ∧ (unhexOf s).isSome = true
      · obtain ⟨n, hn⟩ := Option.isSome_iff_exists.1 hok.1
        obtain ⟨u, hu⟩ := Option.isSome_iff_exists.1 hok.2
        have HRE : Hid (readRcp t.data.toList = readEnd p n u (readIds ws)) := Lib.hid (by rw [HR.out]; exact readWs_ids hn hu)
        have hun := (unhexOf_some hu).1
        have hnb := (atoiO_bounds (numOf_some hn).1)
        refine (Number_some (bs q) hqz 6 n (by decide) (by rw [HQT.out]; exact hn) _ HW2.out.t).mono ?_
        rintro e w3 ⟨rfl, hb3⟩
        have K2 := (hb3.cell (p := ⟨w1.heap.size, 2, none⟩) (by rw [HSZ2.out]; exact Nat.lt_succ_self _)).trans k2
        have HW3 := Lib.hid (HW2.out.below hb3)
        go_wp2_with fail
        refine (PUnhex_some (bs s) hsz3 u (by rw [HST.out]; exact hu) _ HW3.out.t).mono ?_
        rintro e w4 ⟨rfl, hb4⟩
        have hb24 := hb3.trans (hb4.mono hb3.size)
        have K0 := (hb24.cell (p := ⟨w1.heap.size, 0, none⟩) (by rw [HSZ2.out]; exact Nat.lt_succ_self _)).trans k0
        have HW4 := Lib.hid (HW2.out.below hb24)
        have HB24 := Lib.hid hb24
        clear hb3 hb4 hb24 hn hu hok
        by_cases hws : ws = []
        · subst hws
          go_wp2
          have hA5 := (Below.refl w4.heap.size w4).alloc (Nat.le_refl _) (.cells #[.string (bs p), .int .i64 (n : Int), .int .u32 (u : Int), .slice none 0 0] 36)
          have hbx5 : Box4 w4.heap.size (.string (bs p)) (.int .i64 (n : Int)) (.int .u32 (u : Int)) (.slice none 0 0) (w4.alloc (.cells #[.string (bs p), .int .i64 (n : Int), .int .u32 (u : Int), .slice none 0 0] 36)) := Box4.mk' _ _ _ _ _ _
          generalize w4.alloc (.cells #[.string (bs p), .int .i64 (n : Int), .int .u32 (u : Int), .slice none 0 0] 36) = w5 at *
          have hA25 := HB24.out.trans (hA5.mono HB24.out.size)
          have HB5 := Lib.hid (HB2.out.trans (hA25.mono HB2.out.size))
          have HW5 := Lib.hid (HW2.out.below hA25)
          have HWR5 := Lib.hid (HWR2.out.below hA25 HWR2.out.lt)
          have hs2 := HSZ2.out
          have hs4 := HB24.out.size
          have hs5 := hA5.size
          have hlt0 := HWR2.out.lt
          have hlt45 := hbx5.lt
          have hlt5 : w.heap.size < w5.heap.size := by omega
          have HDL : Hid (([] : IdL).length ≤ 1000000) := Lib.hid (by simp)
          have HDB : Hid (∀ x ∈ ([] : IdL), x.1 < 4294967296 ∧ -9223372036854775808 ≤ x.2 ∧ x.2 ≤ 9223372036854775807) := Lib.hid (fun x hx => by cases hx)
          have HKD : Hid (0 = ([] : IdL).length) := Lib.hid rfl
          have HOE : Hid (w5.ownsRow w5.heap.size 71 2 (.slice none 0 0) 0 (idRow [])) := Lib.hid (World.ownsRow_nil _ _ _ _)
          have HRI := Lib.hid (RdI.own HOE.out HKD.out)
          have HBXE := Lib.hid hbx5
          have HRESE := HWR5
          have HWE := HW5
          have HBE := HB5
          have HID : Hid (readIds [] = some []) := Lib.hid rfl
          clear hA5 hA25
          refine wp_loop_rounds 1 ?_
          rw [rounds_succ]
          have hrb : RcpB ⟨p, (n : Int), u, ([] : IdL)⟩ := ⟨by have := HP1.out; show p.length ≤ _; omega, hnb.1, hnb.2, hun, by show (([] : IdL) : IdL).length ≤ _; have := HDL.out; omega, HDB.out⟩
          have CK := RcCheck_any a (.agg #[.string (bs p), .int .i64 (n : Int), .int .u32 (u : Int), (.slice none 0 0)]) ⟨p, (n : Int), u, ([] : IdL)⟩ hrb w5 ⟨(.slice none 0 0), rfl, HRI.out⟩ HWE.out.five
          have HCK := Lib.hid CK
          obtain ⟨x0, x1, x2, x3, _⟩ := HBXE.out
          clear CK hrb
          go_wp2_with fail
          refine HCK.out.mono ?_
          rintro e w8 ⟨x, rfl, hev, hb8⟩
          obtain ⟨y0, y1, y2, y3, _⟩ := HBXE.out.below hb8 HBXE.out.lt
          have hres := HRESE.out.below hb8 HRESE.out.lt
          have HRES8 := Lib.hid hres
          obtain ⟨c0, c1, c2, c3, hf⟩ := hres
          have f0 := hf 0
          have f1 := hf 1
          have f2 := hf 2
          have f3 := hf 3
          have HB8 := Lib.hid (HBE.out.trans (hb8.mono HBE.out.size))
          have HO8 := Lib.hid (own_belowI HOE.out hb8)
          clear hf hb8
          by_cases hz0 : (rcpFault ⟨p, (n : Int), u, ([] : IdL)⟩).1 = 0
          · obtain ⟨rfl, _⟩ := hev.nil hz0
            have HE : Hid (readRcp t.data.toList = .ok ⟨p, (n : Int), u, ([] : IdL)⟩) := Lib.hid (by rw [HRE.out, HID.out]; exact if_pos hz0)
            obtain ⟨d0, d1, d2, d3, _⟩ := HRES8.out.set (.string (bs p)) (.int .i64 (n : Int)) (.int .u32 (u : Int)) (.slice none 0 0)
            have HB9 := Lib.hid (below_set4 HB8.out (Nat.le_refl _) (.string (bs p)) (.int .i64 (n : Int)) (.int .u32 (u : Int)) (.slice none 0 0))
            have HP : Hid (RcpW ((((w8.setCell ⟨w.heap.size, 0, none⟩ (.string (bs p))).setCell ⟨w.heap.size, 1, none⟩ (.int .i64 (n : Int))).setCell ⟨w.heap.size, 2, none⟩ (.int .u32 (u : Int))).setCell ⟨w.heap.size, 3, none⟩ (.slice none 0 0)) w.heap.size ((((w8.setCell ⟨w.heap.size, 0, none⟩ (.string (bs p))).setCell ⟨w.heap.size, 1, none⟩ (.int .i64 (n : Int))).setCell ⟨w.heap.size, 2, none⟩ (.int .u32 (u : Int))).setCell ⟨w.heap.size, 3, none⟩ (.slice none 0 0)).heap.size (.agg #[.string (bs p), .int .i64 (n : Int), .int .u32 (u : Int), (.slice none 0 0)]) ⟨p, (n : Int), u, ([] : IdL)⟩) := Lib.hid ⟨_, rfl, (RdB.own (own_set4 HO8.out hlt5 _ _ _ _) HKD.out).wide (Nat.le_of_lt hlt5) (Nat.le_refl _)⟩
            clear hev hz0
            go_wp2
            refine bodyPost_ret (v := .tuple #[.agg #[.string (bs p), .int .i64 (n : Int), .int .u32 (u : Int), (.slice none 0 0)], .nilIface]) (by simp [results, Tryz.results37, go_sem, d0, d1, d2, d3]) rfl ?_
            exact read_ok HE.out HP.out HB9.out
          · obtain ⟨T, q9, rfl⟩ := hev.some hz0
            have HE : Hid (readRcp t.data.toList = .error (rcpFault ⟨p, (n : Int), u, ([] : IdL)⟩)) := Lib.hid (by rw [HRE.out, HID.out]; exact if_neg hz0)
            have HEV := Lib.hid (ev_set4 hev HRES8.out (.string ⟨#[]⟩) (.int .i64 0) (.int .u32 0) (.slice none 0 0))
            obtain ⟨d0, d1, d2, d3, _⟩ := HRES8.out.set (.string ⟨#[]⟩) (.int .i64 0) (.int .u32 0) (.slice none 0 0)
            have HB9 := Lib.hid (below_set4 HB8.out (Nat.le_refl _) (.string ⟨#[]⟩) (.int .i64 0) (.int .u32 0) (.slice none 0 0))
            clear hev hz0
            go_wp2
            refine bodyPost_ret (v := .tuple #[zeroV, .iface T q9]) (by simp [results, Tryz.results37, go_sem, d0, d1, d2, d3, zeroV]) rfl ?_
            exact read_bad HE.out HEV.out HB9.out
        · go_wp2
          have hA5 := (Below.refl w4.heap.size w4).alloc (Nat.le_refl _) (.cells #[.string (bs p), .int .i64 (n : Int), .int .u32 (u : Int), .slice none 0 0] 36)
          have hbx5 : Box4 w4.heap.size (.string (bs p)) (.int .i64 (n : Int)) (.int .u32 (u : Int)) (.slice none 0 0) (w4.alloc (.cells #[.string (bs p), .int .i64 (n : Int), .int .u32 (u : Int), .slice none 0 0] 36)) := Box4.mk' _ _ _ _ _ _
          generalize w4.alloc (.cells #[.string (bs p), .int .i64 (n : Int), .int .u32 (u : Int), .slice none 0 0] 36) = w5 at *
          have hA25 := HB24.out.trans (hA5.mono HB24.out.size)
          have HB5 := Lib.hid (HB2.out.trans (hA25.mono HB2.out.size))
          have HW5 := Lib.hid (HW2.out.below hA25)
          have HWR5 := Lib.hid (HWR2.out.below hA25 HWR2.out.lt)
          have hs2 := HSZ2.out
          have hs4 := HB24.out.size
          have hs5 := hA5.size
          have hlt0 := HWR2.out.lt
          have hlt45 := hbx5.lt
          have hlt5 : w.heap.size < w5.heap.size := by omega
          have HWC5 : Hid (∀ k (hk : k < ws.length), w5.cell? ⟨w1.heap.size, 3 + k, none⟩ = some (.string (bs ws[k]))) := Lib.hid (fun k hk => (hA25.cell (p := ⟨w1.heap.size, 3 + k, none⟩) (by show w1.heap.size < w2.heap.size; omega)).trans (HWC.out k hk))
          clear hA5 hA25
          go_loopg [58] ws.length (fun gh vi wr => ∃ (k : Nat) (done : IdL) (vs : Value), vi = .int .i64 k ∧ k ≤ ws.length ∧ gh = ws.length - k ∧ done.length = k ∧ Hid (readIds ws = (readIds (ws.drop k)).map (done ++ ·)) ∧ wr.ownsRow w5.heap.size 71 2 vs k (idRow done) ∧ w5.grownBy wr (some w4.heap.size) ∧ Box4 w4.heap.size (.string (bs p)) (.int .i64 (n : Int)) (.int .u32 (u : Int)) vs wr)
          case atStart => exact ⟨0, [], _, rfl, Nat.zero_le _, rfl, rfl, Lib.hid (readIds_start ws), World.ownsRow_nil _ _ _ _, ⟨rfl, rfl, rfl, Nat.le_refl _, fun _ _ _ => rfl⟩, hbx5⟩
          case round =>
            obtain ⟨k, done, vs, rfl, hk, hgm, hdl, hI, hrow, hg, hbx⟩ := hrel
            obtain ⟨A, c, rfl⟩ := own_formI hrow
            have hnew : ∀ b, b ≠ w4.heap.size → some b ≠ some w4.heap.size := fun b hb e => hb (Option.some.inj e)
            have hbl : Below w.heap.size w wr := gb_toBelow HB5.out (by omega) (by omega) hg
            have HWr : Hid (RcW a wr) := Lib.hid (HW00.out.below hbl)
            by_cases hkl : k < ws.length
            · have z0 := (hg.cell_far ⟨w1.heap.size, 3 + k, none⟩ (by show w1.heap.size < w5.heap.size; omega) (hnew _ (by show w1.heap.size ≠ w4.heap.size; omega))).trans (HWC5.out k hkl)
              have b1 : (0 : Int) ≤ (k : Int) := by omega
              have b2 : (k : Int) < (ws.length : Int) := by omega
              have hxz : (bs ws[k]).size ≤ 2 ^ 30 := by rw [bs_size]; have := HWM.out ws[k] (List.getElem_mem hkl); omega
              have HXT := Lib.hid (bs_toList ws[k])
              have HROW := Lib.hid hrow
              have HG := Lib.hid hg
              have HBX := Lib.hid hbx
              have HBL := Lib.hid hbl
              clear hrow hg hbx hbl
              cases hx : readId ws[k] with
              | none =>
                have HE : Hid (readRcp t.data.toList = .error (1, -1)) := Lib.hid (by rw [HRE.out, readIds_hit hkl hx hI.out]; rfl)
                have PR := Lib.hid (Read_none a (bs ws[k]) hxz (by rw [HXT.out]; exact hx) wr HWr.out.t HWr.out.m HWr.out.p (HWr.out.s.sub (by decide)))
                clear hx hI
                go_wp2_with fail
                refine PR.out.mono ?_
                rintro e w6 ⟨rfl, hb6⟩
                have hA6 := hb6.alloc hb6.size (.cells #[.int .u32 0, .int .i64 0] 71)
                have hres := (gb_box4 HG.out (hnew _ (by omega)) HWR5.out).below hA6 (gb_box4 HG.out (hnew _ (by omega)) HWR5.out).lt
                have HRES := Lib.hid hres
                obtain ⟨c0, c1, c2, c3, hf⟩ := hres
                have f0 := hf 0
                have f1 := hf 1
                have f2 := hf 2
                have f3 := hf 3
                have hs1 : (w6.alloc (.cells #[.int .u32 0, .int .i64 0] 71)).cell? ⟨6, 0, none⟩ = some (sval a 0) := (HWr.out.below hA6).s 0 (by simp)
                unfold sval at hs1
                have hne : ¬ (6 = w.heap.size) := by omega
                obtain ⟨d0, d1, d2, d3, _⟩ := HRES.out.set (.string ⟨#[]⟩) (.int .i64 0) (.int .u32 0) (.slice none 0 0)
                have HB9 := Lib.hid (below_set4 (HBL.out.trans (hA6.mono HBL.out.size)) (Nat.le_refl _) (.string ⟨#[]⟩) (.int .i64 0) (.int .u32 0) (.slice none 0 0)).drew
                clear hf hb6 hA6
                unfold sval
                go_wp2
                go_region
                go_wp2
                refine bodyPost_ret (v := .tuple #[zeroV, .iface 265 (.pointer (some (a 0)))]) (by simp [results, Tryz.results37, go_sem, d0, d1, d2, d3, zeroV]) rfl ?_
                exact read_bad HE.out (EV.sent a _ 0 (by decide)) HB9.out
              | some nj =>
                obtain ⟨nn, jj⟩ := nj
                obtain ⟨hn32, hj64⟩ := readId_bounds hx
                have HN := Lib.hid (readIds_next hkl hx hI.out)
                have PR := Lib.hid (Read_some (bs ws[k]) hxz nn jj (by rw [HXT.out]; exact hx) wr HWr.out.t HWr.out.m)
                clear hx hI
                go_wp2_with fail
                refine PR.out.mono ?_
                rintro e w6 ⟨rfl, hb6⟩
                have hA6 := hb6.alloc hb6.size (.cells #[.int .u32 (nn : Int), .int .i64 (jj : Int)] 71)
                have hbx6 := HBX.out.below hA6 HBX.out.lt
                have HBX6 := Lib.hid hbx6
                obtain ⟨x0, x1, x2, x3, _⟩ := hbx6
                have ho6 := own_belowI HROW.out hA6
                have HG6 := Lib.hid (gb_below HG.out hA6)
                clear hb6 hA6
                go_wp2_with (at_builtin; refine wpList_append_own _ rfl _ _ 34 rfl w5.heap.size 71 i0 (.agg #[.int .u32 0, .int .i64 0]) 2 16 Tryz.underlying34 hi hzz0 hzz1 hzz2 rfl (by decide) _ _ _ rfl (ho6.alloc _) ⟨w6.heap.size + 1, 0, none⟩ 1 1 [.int .u32 (nn : Int), .int .i64 (jj : Int)] rfl rfl (by have := cell_newI (w6.alloc (.cells #[.int .u32 (nn : Int), .int .i64 (jj : Int)] 71)) (.int .u32 (nn : Int)) (.int .i64 (jj : Int)) 71; simpa using this) (by simp [Value.oneCell']) (by unfold maxLen; omega) (by omega) (by have := HG6.out.size; simp at this ⊢; omega) ?_; intro v8 w8 ho8 hg8 _; obtain ⟨A8, c8, rfl⟩ := own_formI ho8; have HBX8 := Lib.hid (gb_box4 hg8 (own_far ho6 hlt45) (HBX6.out.below ((Below.refl _ _).alloc (Nat.le_refl _) _) HBX6.out.lt)); have c38 := HBX8.out.c3; have f38 := HBX8.out.f 3)
                go_roundg (ws.length - (k + 1))
                case measure => omega
                case rel => exact ⟨k + 1, done ++ [(nn, (jj : Int))], _, by go_num, hkl, rfl, by rw [List.length_append, hdl]; rfl, HN, own_setI (by rw [idRow_snoc]; exact ho8) hlt45, gb_set (gb_row (gb_below HG6.out ((Below.refl _ _).alloc (Nat.le_refl _) _)) (Nat.le_refl _) (ho6.alloc _) hg8) _ _, HBX8.out.set3 _⟩
            · obtain rfl : k = ws.length := by omega
              have HDL : Hid (done.length ≤ 1000000) := Lib.hid (by omega)
              have hid := readIds_end hI.out
              have HDB : Hid (∀ x ∈ done, x.1 < 4294967296 ∧ -9223372036854775808 ≤ x.2 ∧ x.2 ≤ 9223372036854775807) := Lib.hid (readIds_bounds _ _ hid).2
              have HKD : Hid (ws.length = done.length) := Lib.hid hdl.symm
              have HOE := Lib.hid hrow
              have HRI := Lib.hid (RdI.own HOE.out HKD.out)
              have HBXE := Lib.hid hbx
              have HRESE := Lib.hid (gb_box4 hg (hnew _ (by omega)) HWR5.out)
              have HWE := HWr
              have HBE := Lib.hid hbl
              have HID := Lib.hid hid
              clear hid hI hrow hbx hg hbl hdl
              have hrb : RcpB ⟨p, (n : Int), u, done⟩ := ⟨by have := HP1.out; show p.length ≤ _; omega, hnb.1, hnb.2, hun, by show (done : IdL).length ≤ _; have := HDL.out; omega, HDB.out⟩
              have CK := RcCheck_any a (.agg #[.string (bs p), .int .i64 (n : Int), .int .u32 (u : Int), (.slice A ws.length c)]) ⟨p, (n : Int), u, done⟩ hrb wr ⟨(.slice A ws.length c), rfl, HRI.out⟩ HWE.out.five
              have HCK := Lib.hid CK
              obtain ⟨x0, x1, x2, x3, _⟩ := HBXE.out
              clear CK hrb
              go_wp2_with fail
              refine HCK.out.mono ?_
              rintro e w8 ⟨x, rfl, hev, hb8⟩
              obtain ⟨y0, y1, y2, y3, _⟩ := HBXE.out.below hb8 HBXE.out.lt
              have hres := HRESE.out.below hb8 HRESE.out.lt
              have HRES8 := Lib.hid hres
              obtain ⟨c0, c1, c2, c3, hf⟩ := hres
              have f0 := hf 0
              have f1 := hf 1
              have f2 := hf 2
              have f3 := hf 3
              have HB8 := Lib.hid (HBE.out.trans (hb8.mono HBE.out.size))
              have HO8 := Lib.hid (own_belowI HOE.out hb8)
              clear hf hb8
              by_cases hz0 : (rcpFault ⟨p, (n : Int), u, done⟩).1 = 0
              · obtain ⟨rfl, _⟩ := hev.nil hz0
                have HE : Hid (readRcp t.data.toList = .ok ⟨p, (n : Int), u, done⟩) := Lib.hid (by rw [HRE.out, HID.out]; exact if_pos hz0)
                obtain ⟨d0, d1, d2, d3, _⟩ := HRES8.out.set (.string (bs p)) (.int .i64 (n : Int)) (.int .u32 (u : Int)) (.slice A ws.length c)
                have HB9 := Lib.hid (below_set4 HB8.out (Nat.le_refl _) (.string (bs p)) (.int .i64 (n : Int)) (.int .u32 (u : Int)) (.slice A ws.length c))
                have HP : Hid (RcpW ((((w8.setCell ⟨w.heap.size, 0, none⟩ (.string (bs p))).setCell ⟨w.heap.size, 1, none⟩ (.int .i64 (n : Int))).setCell ⟨w.heap.size, 2, none⟩ (.int .u32 (u : Int))).setCell ⟨w.heap.size, 3, none⟩ (.slice A ws.length c)) w.heap.size ((((w8.setCell ⟨w.heap.size, 0, none⟩ (.string (bs p))).setCell ⟨w.heap.size, 1, none⟩ (.int .i64 (n : Int))).setCell ⟨w.heap.size, 2, none⟩ (.int .u32 (u : Int))).setCell ⟨w.heap.size, 3, none⟩ (.slice A ws.length c)).heap.size (.agg #[.string (bs p), .int .i64 (n : Int), .int .u32 (u : Int), (.slice A ws.length c)]) ⟨p, (n : Int), u, done⟩) := Lib.hid ⟨_, rfl, (RdB.own (own_set4 HO8.out hlt5 _ _ _ _) HKD.out).wide (Nat.le_of_lt hlt5) (Nat.le_refl _)⟩
                clear hev hz0
                go_wp2
                refine bodyPost_ret (v := .tuple #[.agg #[.string (bs p), .int .i64 (n : Int), .int .u32 (u : Int), (.slice A ws.length c)], .nilIface]) (by simp [results, Tryz.results37, go_sem, d0, d1, d2, d3]) rfl ?_
                exact read_ok HE.out HP.out HB9.out
              · obtain ⟨T, q9, rfl⟩ := hev.some hz0
                have HE : Hid (readRcp t.data.toList = .error (rcpFault ⟨p, (n : Int), u, done⟩)) := Lib.hid (by rw [HRE.out, HID.out]; exact if_neg hz0)
                have HEV := Lib.hid (ev_set4 hev HRES8.out (.string ⟨#[]⟩) (.int .i64 0) (.int .u32 0) (.slice none 0 0))
                obtain ⟨d0, d1, d2, d3, _⟩ := HRES8.out.set (.string ⟨#[]⟩) (.int .i64 0) (.int .u32 0) (.slice none 0 0)
                have HB9 := Lib.hid (below_set4 HB8.out (Nat.le_refl _) (.string ⟨#[]⟩) (.int .i64 0) (.int .u32 0) (.slice none 0 0))
                clear hev hz0
                go_wp2
                refine bodyPost_ret (v := .tuple #[zeroV, .iface T q9]) (by simp [results, Tryz.results37, go_sem, d0, d1, d2, d3, zeroV]) rfl ?_
                exact read_bad HE.out HEV.out HB9.out
      · have HE : Hid (readRcp t.data.toList = .error (1, -1)) := Lib.hid (by rw [HR.out]; exact readWs_no hok)
        have hor : (numOf q 6).isSome = false ∨ ((numOf q 6).isSome = true ∧ (unhexOf s).isSome = false) := by
          cases h1 : (numOf q 6).isSome with
          | false => exact .inl rfl
          | true => exact .inr ⟨rfl, by cases h2 : (unhexOf s).isSome with | false => rfl | true => exact absurd ⟨h1, h2⟩ hok⟩
        have HOR := Lib.hid hor
        clear hor hok
        have NB := Number_any (bs q) hqz 6 (by decide) w2 HW2.out.t HW2.out.p
        rw [HQT.out] at NB
        refine NB.mono ?_
        rintro e w3 ⟨z1, rfl, hb3⟩
        have K2 := (hb3.cell (p := ⟨w1.heap.size, 2, none⟩) (by rw [HSZ2.out]; exact Nat.lt_succ_self _)).trans k2
        have HW3 := Lib.hid (HW2.out.below hb3)
        clear NB
        go_wp2_with fail
        have UB := PUnhex_any (bs s) hsz3 w3 HW3.out.t HW3.out.p
        rw [HST.out] at UB
        refine UB.mono ?_
        rintro e w4 ⟨z2, rfl, hb4⟩
        have hb24 := hb3.trans (hb4.mono hb3.size)
        obtain ⟨c0, c1, c2, c3, hf⟩ := HWR2.out.below hb24 HWR2.out.lt
        have f0 := hf 0
        have f1 := hf 1
        have f2 := hf 2
        have f3 := hf 3
        have hs1 : w4.cell? ⟨6, 0, none⟩ = some (sval a 0) := (HW2.out.below hb24).s 0 (by simp)
        unfold sval at hs1
        have hne : ¬ (6 = w.heap.size) := by omega
        obtain ⟨d0, d1, d2, d3, _⟩ := (HWR2.out.below hb24 HWR2.out.lt).set (.string ⟨#[]⟩) (.int .i64 0) (.int .u32 0) (.slice none 0 0)
        have HB9 := Lib.hid (below_set4 (HB2.out.trans (hb24.mono HB2.out.size)) (Nat.le_refl _) (.string ⟨#[]⟩) (.int .i64 0) (.int .u32 0) (.slice none 0 0)).drew
        generalize (numOf q 6).isSome = o1 at *
        generalize (unhexOf s).isSome = o2 at *
        have hor := HOR.out
        clear hf UB HOR hb3 hb4 hb24
        rcases hor with rfl | ⟨rfl, rfl⟩
        · go_wp2
          go_region
          go_wp2
          refine bodyPost_ret (v := .tuple #[zeroV, .iface 265 (.pointer (some (a 0)))]) (by simp [results, Tryz.results37, go_sem, d0, d1, d2, d3, zeroV]) rfl ?_
          exact read_bad HE.out (EV.sent a _ 0 (by decide)) HB9.out
        · go_wp2
          go_region
          go_wp2
          refine bodyPost_ret (v := .tuple #[zeroV, .iface 265 (.pointer (some (a 0)))]) (by simp [results, Tryz.results37, go_sem, d0, d1, d2, d3, zeroV]) rfl ?_
          exact read_bad HE.out (EV.sent a _ 0 (by decide)) HB9.out
end Go.Proofs.YtbokckjlgjnnjaaGreatDoor
