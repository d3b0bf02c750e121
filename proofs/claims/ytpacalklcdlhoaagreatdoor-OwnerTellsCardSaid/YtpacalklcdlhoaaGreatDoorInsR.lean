/- slices.Insert of one number at a place of a row of the call's own: what comes back reads as the list with the number at that place. Condition: lengths below 2^40. -/
import Derived.Test.YtpacalklcdlhoaaGreatDoorShelf
import Derived.Test.YtpacalklcdlhoaaGreatDoorRead
import Derived.Deep.Onto
namespace Go.Proofs.YtpacalklcdlhoaaGreatDoor
open Go.RowKit Go.Lib

theorem setCells_below {B b : Nat} {a : World} : ∀ (vs : List Value) (o : Nat) {w : World}, Below B a w → B ≤ b → Below B a (w.setCells b o vs)
  | [], _, _, h, _ => h
  | v :: r, o, w, h, hb => setCells_below r (o + 1) (h.setCell (p := ⟨b, o, none⟩) hb v) hb
theorem insert_get {α : Type} (l : List α) (i : Nat) (hi : i ≤ l.length) (x : α) (k : Nat) (u : α) (h : (l.take i ++ x :: l.drop i)[k]? = some u) :
    (k < i ∧ l[k]? = some u) ∨ (k = i ∧ u = x) ∨ (i < k ∧ l[k - 1]? = some u) := by
  have hlen : (l.take i).length = i := by rw [List.length_take]; omega
  rcases Nat.lt_trichotomy k i with h1 | h1 | h1
  · left
    rw [List.getElem?_append_left (by omega), List.getElem?_take, if_pos h1] at h
    exact ⟨h1, h⟩
  · right; left
    subst h1
    rw [List.getElem?_append_right (by omega), hlen, Nat.sub_self] at h
    exact ⟨rfl, by simpa using h.symm⟩
  · right; right
    rw [List.getElem?_append_right (by omega), hlen, show k - i = (k - 1 - i) + 1 by omega, List.getElem?_cons_succ, List.getElem?_drop, show i + (k - 1 - i) = k - 1 by omega] at h
    exact ⟨h1, h⟩
theorem insert_len {α : Type} (l : List α) (i : Nat) (hi : i ≤ l.length) (x : α) : (l.take i ++ x :: l.drop i).length = l.length + 1 := by
  rw [List.length_append, List.length_cons, List.length_take, List.length_drop]; omega
/-- a slice that is read, in memory that lies at B or behind it -/
def RdF (B : Nat) (w : World) (v : Value) (xs : List Value) : Prop :=
  ∃ A c, v = .slice A xs.length c ∧ xs.length ≤ c ∧ (xs ≠ [] → ∃ g o, A = some ⟨g, o, none⟩ ∧ B ≤ g ∧ g < w.heap.size ∧ ∀ k u, xs[k]? = some u → w.cell? ⟨g, o + k, none⟩ = some u)
theorem RdF.nil (B : Nat) (w : World) : RdF B w (.slice none 0 0) [] := ⟨none, 0, rfl, Nat.le_refl _, fun h => absurd rfl h⟩
theorem RdF.rd {B : Nat} {w : World} {v : Value} {xs : List Value} (h : RdF B w v xs) : Rd w w.heap.size v xs := by
  obtain ⟨A, c, h1, h2, h3⟩ := h
  exact ⟨A, c, h1, h2, fun hn => by obtain ⟨g, o, h4, _, h5, h6⟩ := h3 hn; exact ⟨g, o, h4, h5, h6⟩⟩
theorem RdF.less {B B' : Nat} {w : World} {v : Value} {xs : List Value} (h : RdF B w v xs) (hB : B' ≤ B) : RdF B' w v xs := by
  obtain ⟨A, c, h1, h2, h3⟩ := h
  exact ⟨A, c, h1, h2, fun hn => by obtain ⟨g, o, h4, h5, h6⟩ := h3 hn; exact ⟨g, o, h4, by omega, h6⟩⟩
theorem RdF.below {B : Nat} {w w' : World} {v : Value} {xs : List Value} (h : RdF B w v xs) (hb : Below w.heap.size w w') : RdF B w' v xs := by
  obtain ⟨A, c, h1, h2, h3⟩ := h
  exact ⟨A, c, h1, h2, fun hn => by obtain ⟨g, o, h4, h5, h6, h7⟩ := h3 hn; exact ⟨g, o, h4, h5, Nat.lt_of_lt_of_le h6 hb.size, fun k u hu => (hb.cell (p := ⟨g, o + k, none⟩) h6).trans (h7 k u hu)⟩⟩
theorem RdF.set {B : Nat} {w : World} {v : Value} {xs : List Value} (h : RdF B w v xs) (q : Addr) (hq : q.block < B) (x : Value) : RdF B (w.setCell q x) v xs := by
  obtain ⟨A, c, h1, h2, h3⟩ := h
  exact ⟨A, c, h1, h2, fun hn => by
    obtain ⟨g, o, h4, h5, h6, h7⟩ := h3 hn
    exact ⟨g, o, h4, h5, by simpa using h6, fun k u hu => (World.cell?_setCell_other _ _ _ _ (by intro e; rw [e] at hq; exact absurd hq (by simp; omega))).trans (h7 k u hu)⟩⟩
theorem RdF.own {B n : Nat} {w : World} {e : TypeId} {v : Value} {xs : List Value} (h : w.ownsRow B e 1 v n xs) : RdF B w v xs := by
  obtain ⟨A, c, h1, h2, h3⟩ := Rd.own h
  exact ⟨A, c, h1, h2, fun hn => by obtain ⟨g, o, h4, h5, h6⟩ := h3 hn; exact ⟨g, o, h4, own_ge h (by rw [h1, h4]; rfl), h5, h6⟩⟩
set_option maxHeartbeats 1000000 in
theorem InsertF_own (B : Nat) (v : Value) (xs : List Value) (i : Nat) (hi : i ≤ xs.length) (x : Int) (vb : Nat) (w : World) (h1c : ∀ u ∈ xs, u.oneCell' = true) (hown : w.ownsRow B 3 1 v xs.length xs)
    (hvb : w.heap[vb]? = some (.cells #[.int .i64 x] 3 (0, 0))) (hne : v.ownBlock ≠ some vb) (hB : B ≤ w.heap.size) (hl : xs.length ≤ 2 ^ 40) :
    Calls Tryz.prog 40 #[v, .int .i64 (i : Int), .slice (some ⟨vb, 0, none⟩) 1 1] w fun e w' =>
      ∃ v', e = .returned v' ∧ RdF B w' v' (xs.take i ++ .int .i64 x :: xs.drop i) ∧ Below B w w' := by
  have hvc : w.cell? ⟨vb, 0, none⟩ = some (.int .i64 x) := by simp [World.cell?, hvb]
  have hvs : ∀ (j : Nat) u, [Value.int .i64 x][j]? = some u → w.cell? ⟨vb, 0 + j, none⟩ = some u := fun j u h => by
    cases j with
    | zero => simp at h; subst h; exact hvc
    | succ j => simp at h
  have h1v : ∀ u ∈ [Value.int .i64 x], u.oneCell' = true := fun u hu => by simp at hu; subst hu; rfl
  have hlen := insert_len xs i hi (Value.int .i64 x)
  -- at the end, no room
  have grown : ∀ (base : Option Addr) (c : Nat), v = .slice base xs.length c → xs.length ≤ c → c < xs.length + 1 → i = xs.length → (base = none → xs.length = 0) → (∀ a, base = some a → ∀ j u, xs[j]? = some u → w.cell? (a.add j) = some u) →
      Calls Tryz.prog 40 #[v, .int .i64 (i : Int), .slice (some ⟨vb, 0, none⟩) 1 1] w fun e w' => ∃ v', e = .returned v' ∧ RdF B w' v' (xs.take i ++ .int .i64 x :: xs.drop i) ∧ Below B w w' := by
    intro base c hv hc1 hc2 hie hnil hcs
    subst hv; subst hie
    refine (Any2.slices_Insert_int_end_grow Tryz.laysIns21 base xs.length c vb 0 1 1 xs [.int .i64 x] w (by omega) hc1 hc2 (by omega) rfl rfl hnil hcs hvs h1v).mono ?_
    rintro e w' ⟨rfl, rfl⟩
    refine ⟨_, rfl, ⟨_, _, by rw [hlen], ?_, fun _ => ⟨_, 0, rfl, hB, by simp, fun k u hu => ?_⟩⟩, ((Below.refl B w).drew).alloc hB _⟩
    · rw [hlen]; exact grownCap_ge _ _ _ _
    · rw [Nat.zero_add, World.cell?_alloc_at (w := w.drew) _ _ w.heap.size k rfl]
      rw [List.take_of_length_le (Nat.le_refl _), List.drop_eq_nil_of_le (Nat.le_refl _)] at hu
      have hk : k < (xs ++ [Value.int .i64 x]).length := (List.getElem?_eq_some_iff.1 hu).1
      rw [Array.getElem?_append_left (by simpa using hk)]
      simpa using hu
  rcases hown.2 with ⟨hv, h0⟩ | ⟨g, cap, cur, hv, hb, hg, hnc, hcm, hcs, htk⟩
  · have hx : xs = [] := List.eq_nil_of_length_eq_zero h0
    subst hx
    exact grown none 0 hv (Nat.le_refl _) (by omega) (by simpa using hi) (fun _ => rfl) (fun a h => by cases h)
  · rw [Nat.mul_one] at hcs htk
    have hgb : g < w.heap.size := (Array.getElem?_eq_some_iff.1 hg).1
    have hcell : ∀ j u, xs[j]? = some u → w.cell? ⟨g, 0 + j, none⟩ = some u := fun j u hu => by
      rw [Nat.zero_add]
      rw [← htk, List.getElem?_take] at hu
      split at hu
      · simp [World.cell?, hg]; simpa using hu
      · cases hu
    have hall : ∀ j, j < cap → (w.cell? ⟨g, j, none⟩).isSome = true := fun j hj => by
      simp [World.cell?, hg]; omega
    have hfz : ∀ j, w.frozen? ⟨g, j, none⟩ = false := fun j => frozen_of_row w g j cur 3 hg
    have hgv : g ≠ vb := fun e => hne (by rw [hv, e]; rfl)
    by_cases hroom : xs.length + 1 ≤ cap
    · by_cases hie : i = xs.length
      · subst hie
        subst hv
        refine (Any2.slices_Insert_int_end_room Tryz.laysIns21 g 0 xs.length cap vb 0 1 1 [.int .i64 x] w (by omega) hroom (by unfold maxLen at hcm; omega) rfl (fun j hj => by rw [Nat.zero_add]; exact hall _ (by omega)) (fun j hj => hfz _) hvs h1v).mono ?_
        rintro e w' ⟨rfl, rfl⟩
        refine ⟨_, rfl, ⟨_, _, by rw [hlen], by rw [hlen]; exact hroom, fun _ => ⟨g, 0, rfl, hb, ?_, fun k u hu => ?_⟩⟩, setCells_below _ _ (Below.refl B w) hb⟩
        · exact Nat.lt_of_lt_of_le hgb (setCells_below (b := g) [Value.int .i64 x] (0 + xs.length) (Below.refl B w) hb).size
        · rcases insert_get xs _ hi _ k u hu with ⟨hk, h⟩ | ⟨rfl, rfl⟩ | ⟨hk, h⟩
          · rw [World.cell?_setCells_out _ _ _ _ _ (fun _ _ => .inl (by simpa using hk))]; exact hcell k u h
          · have := World.cell?_setCells_in g [Value.int .i64 x] (0 + xs.length) w (fun j hj => by simp at hj; subst hj; exact hall _ (by omega)) 0 (by simp)
            simpa using this
          · rw [List.getElem?_eq_none (by omega)] at h; cases h
      · have hlt : i < xs.length := by omega
        subst hv
        have hsb : w.shape? g = some (3, cap) := by simp [World.shape?, hg, hcs]
        have hsa : w.shape? vb = some (3, 1) := by simp [World.shape?, hvb]
        refine (Any2.slices_Insert_int_shift Tryz.laysIns21 g 0 xs.length cap i vb 0 1 1 xs [.int .i64 x] w hlt (by omega) hroom (by unfold maxLen at hcm; omega) (fun e => hgv e.symm) rfl rfl hcell (fun j hj => by rw [Nat.zero_add]; exact hall _ (by omega)) (fun j hj => hfz _) hvs h1c h1v 3 3 1 cap hsa hsb (by omega)
          (frozen_of_row w vb 0 _ 3 hvb) (frozen_of_row w vb 1 _ 3 hvb)).mono ?_
        rintro e w' ⟨rfl, rfl⟩
        have hbl : Below B w ((w.drew.setCells g (0 + (i + 1)) (xs.drop i)).setCells g (0 + i) [.int .i64 x]) := setCells_below _ _ (setCells_below _ _ (Below.refl B w).drew hb) hb
        have hall2 : ∀ j, j < cap → (w.drew.cell? ⟨g, j, none⟩).isSome = true := hall
        refine ⟨_, rfl, ⟨_, _, by rw [hlen], by rw [hlen]; exact hroom, fun _ => ⟨g, 0, rfl, hb, Nat.lt_of_lt_of_le hgb hbl.size, fun k u hu => ?_⟩⟩, hbl⟩
        have hin := World.cell?_setCells_in g (xs.drop i) (0 + (i + 1)) w.drew (fun j hj => by rw [List.length_drop] at hj; exact hall2 _ (by omega))
        rcases insert_get xs i hi _ k u hu with ⟨hk, h⟩ | ⟨rfl, rfl⟩ | ⟨hk, h⟩
        · rw [World.cell?_setCells_out _ _ _ _ _ (fun _ _ => .inl (by simpa using hk)), World.cell?_setCells_out _ _ _ _ _ (fun _ _ => .inl (by simp; omega))]
          exact hcell k u h
        · have h0 := World.cell?_setCells_in g [Value.int .i64 x] (0 + k) (w.drew.setCells g (0 + (k + 1)) (xs.drop k)) (fun j hj => by
            simp at hj; subst hj
            rw [World.cell?_setCells_out _ _ _ _ _ (fun _ _ => .inl (by simp))]
            exact hall2 _ (by omega)) 0 (by simp)
          simpa using h0
        · rw [World.cell?_setCells_out _ _ _ _ _ (fun _ _ => .inr (by simp; omega))]
          have hkl : k - 1 < xs.length := (List.getElem?_eq_some_iff.1 h).1
          have := hin (k - 1 - i) (by rw [List.length_drop]; omega)
          rw [show 0 + (i + 1) + (k - 1 - i) = 0 + k by omega] at this
          rw [this, List.getElem_drop]
          simp only [show i + (k - 1 - i) = k - 1 by omega]
          rw [← h, List.getElem?_eq_getElem hkl]
    · by_cases hie : i = xs.length
      · exact grown (some ⟨g, 0, none⟩) cap hv hnc (by omega) hie (fun h => by cases h) (fun a ha j u hu => by injection ha with ha; subst ha; rw [Lib.add_plain]; exact hcell j u hu)
      · have hlt : i < xs.length := by omega
        subst hv
        refine (Any2.slices_Insert_int_grow Tryz.laysIns21 g 0 xs.length cap i vb 0 1 1 xs [.int .i64 x] w hlt (by omega) hnc (by omega) (by omega) rfl rfl hcell hvs h1c h1v).mono ?_
        rintro e w' ⟨rfl, rfl⟩
        have hG := grownCap_ge w (xs.length + 1) cap (Tryz.laysIns21_ren.t 3)
        generalize grownCap w (xs.length + 1) cap (Tryz.laysIns21_ren.t 3) = G at hG ⊢
        obtain ⟨C, hC⟩ : ∃ C, C = (xs.take i).toArray ++ Builtin.zeroCells (Value.int .i64 0).cells (xs.length + 1 - i) ++ Builtin.zeroCells (Value.int .i64 0).cells (G - (xs.length + 1)) := ⟨_, rfl⟩
        have hCs : C.size = G := by
          rw [hC]
          simp only [Array.size_append, List.size_toArray, List.length_take, size_zeroCells]
          rw [show (Value.int .i64 0).cells.size = 1 from rfl]; omega
        have hCi : ∀ j, j < i → C[j]? = xs[j]? := fun j hj => by
          rw [hC, Array.append_assoc, Array.getElem?_append_left (by simp; omega), List.getElem?_toArray, List.getElem?_take, if_pos hj]
        rw [← hC]
        clear hC
        have hcell0 : ∀ (W : World) (hW : W = (w.alloc (.cells C (Tryz.laysIns21_ren.t 3))).drew) j, W.cell? ⟨w.heap.size, j, none⟩ = C[j]? := fun W hW j => by
          subst hW
          exact World.cell?_alloc_at (w := w) C (Tryz.laysIns21_ren.t 3) w.heap.size j rfl
        have hb1 : Below B w ((w.alloc (.cells C (Tryz.laysIns21_ren.t 3))).drew) := ((Below.refl B w).alloc hB _).drew
        generalize hW1 : (w.alloc (.cells C (Tryz.laysIns21_ren.t 3))).drew = W1 at hb1 ⊢
        have hc1 := hcell0 W1 hW1.symm
        have hsz : w.heap.size < W1.heap.size := by rw [← hW1]; simp
        clear hcell0 hW1
        have his1 : ∀ j, j < G → (W1.cell? ⟨w.heap.size, j, none⟩).isSome = true := fun j hj => by rw [hc1, Array.getElem?_eq_getElem (by omega)]; rfl
        have hb2 : Below B w (W1.setCells w.heap.size i [.int .i64 x]).drew := (setCells_below _ _ hb1 hB).drew
        have hc2 : ∀ j, j < i → (W1.setCells w.heap.size i [.int .i64 x]).drew.cell? ⟨w.heap.size, j, none⟩ = C[j]? := fun j hj => by
          show (W1.setCells w.heap.size i [.int .i64 x]).cell? ⟨w.heap.size, j, none⟩ = _
          rw [World.cell?_setCells_out _ _ _ _ _ (fun _ _ => .inl hj), hc1]
        have hc3 : (W1.setCells w.heap.size i [.int .i64 x]).drew.cell? ⟨w.heap.size, i, none⟩ = some (.int .i64 x) := by
          have := World.cell?_setCells_in w.heap.size [Value.int .i64 x] i W1 (fun j hj => by simp at hj; subst hj; exact his1 _ (by omega)) 0 (by simp)
          simpa using this
        have his2 : ∀ j, j < G → ((W1.setCells w.heap.size i [.int .i64 x]).drew.cell? ⟨w.heap.size, j, none⟩).isSome = true := fun j hj => by
          show ((W1.setCell ⟨w.heap.size, i, none⟩ (.int .i64 x)).cell? ⟨w.heap.size, j, none⟩).isSome = true
          obtain ⟨u, hu⟩ := Option.isSome_iff_exists.1 (his1 j hj)
          by_cases he : j = i
          · subst he; rw [World.cell?_setCell_same _ _ _ hu]; rfl
          · rw [World.cell?_setCell_other _ _ _ _ (by intro e; injection e with _ e; exact he e.symm), hu]; rfl
        have hsz2 : w.heap.size < (W1.setCells w.heap.size i [.int .i64 x]).drew.heap.size := by
          show w.heap.size < (W1.setCell ⟨w.heap.size, i, none⟩ (.int .i64 x)).heap.size
          simpa using hsz
        generalize (W1.setCells w.heap.size i [.int .i64 x]).drew = W2 at hb2 hc2 hc3 his2 hsz2 ⊢
        have hb3 : Below B w (W2.setCells w.heap.size (i + 1) (xs.drop i)) := setCells_below _ _ hb2 hB
        have hsz3 : (W2.setCells w.heap.size (i + 1) (xs.drop i)).heap.size = W2.heap.size := by
          have : ∀ (vs : List Value) (o : Nat) (W : World), (W.setCells w.heap.size o vs).heap.size = W.heap.size := fun vs => by
            induction vs with
            | nil => intro o W; rfl
            | cons v r ih => intro o W; rw [World.setCells, ih]; simp
          exact this _ _ _
        have hin := World.cell?_setCells_in w.heap.size (xs.drop i) (i + 1) W2 (fun j hj => by rw [List.length_drop] at hj; exact his2 _ (by omega))
        refine ⟨_, rfl, ⟨_, _, by rw [hlen], by rw [hlen]; exact hG, fun _ => ⟨w.heap.size, 0, rfl, hB, by rw [hsz3]; exact hsz2, fun k u hu => ?_⟩⟩, hb3⟩
        rw [Nat.zero_add]
        rcases insert_get xs i hi _ k u hu with ⟨hk, h⟩ | ⟨rfl, rfl⟩ | ⟨hk, h⟩
        · rw [World.cell?_setCells_out _ _ _ _ _ (fun _ _ => .inl (by simp; omega)), hc2 k hk, hCi k hk, h]
        · rw [World.cell?_setCells_out _ _ _ _ _ (fun _ _ => .inl (by simp)), hc3]
        · have hkl : k - 1 < xs.length := (List.getElem?_eq_some_iff.1 h).1
          have := hin (k - 1 - i) (by rw [List.length_drop]; omega)
          rw [show i + 1 + (k - 1 - i) = k by omega] at this
          rw [this, List.getElem_drop]
          simp only [show i + (k - 1 - i) = k - 1 by omega]
          rw [← h, List.getElem?_eq_getElem hkl]
end Go.Proofs.YtpacalklcdlhoaaGreatDoor
