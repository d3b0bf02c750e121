/- Walks of package cut: Cuts and Pieces hand back new slices that hold where pieces end, and the pieces. Condition: at most 2^40 bytes. -/
import Derived.Test.YtpanoplcamdnkaaGreatDoorCutW
import Derived.Test.YtpanoplcamdnkaaGreatDoorHeld
import Derived.Deep.Onto
namespace Go.Proofs.YtpanoplcamdnkaaGreatDoor
open Go.RowKit Go.Lib Go.Shelf
attribute [local go_sem] Oper.semAt_some

theorem info_int : (Tryz.prog.info? 3).map (fun i => (i.zero, i.size, i.bytes)) = some (some (.int .i64 0), 1, 8) := by kernel_rfl
theorem info_string : (Tryz.prog.info? 9).map (fun i => (i.zero, i.size, i.bytes)) = some (some (.string ByteArray.empty), 1, 16) := by kernel_rfl
abbrev VI (n : Nat) : Value := .int .i64 (n : Int)
abbrev VS (l : Bytes) : Value := .string (bs l)

def cutRow (s : ByteArray) (pre : List (Sp s.size)) : List Value := pre.map fun x => .string (s.extract x.1.1 x.1.2)
theorem cutRow_snoc (s : ByteArray) (pre : List (Sp s.size)) (x : Sp s.size) : cutRow s (pre ++ [x]) = cutRow s pre ++ [.string (s.extract x.1.1 x.1.2)] := by simp [cutRow]

set_option maxRecDepth 100000 in
set_option maxHeartbeats 2000000 in
theorem Pieces_in (n : Nat) (hn : 1 ≤ n) (s : ByteArray) (hs : s.size ≤ 2 ^ 40) (w : World) :
    CallsIn Fence.wide n Tryz.prog 57 #[.string s] w fun e W' => ∃ v, e = .returned v ∧ W'.ownsRow w.heap.size 9 1 v (pieces s.data.toList).length ((pieces s.data.toList).map VS) ∧ Below w.heap.size w W' := by
  obtain ⟨i0, hi, hz0, hz1, hz2⟩ := info_parts info_string
  refine callsIn_of_wp_marks Tryz.func57 rfl trivial ?_ rfl
  simp only [Tryz.ntmps57, List.size_toArray, List.length_cons, List.length_nil, Nat.reduceAdd, Nat.reduceSub, Array.replicate_succ, Array.replicate_zero, List.push_toArray, List.append_toArray, List.nil_append, List.cons_append]
  gi_wp2_with (refine ⟨trivial, ?_⟩; gi_at_call 109; refine (cutall_in _ _ _).mono ?_; rintro e w' ⟨rfl, rfl⟩)
  have hN : (spans 0 (pieces s.data.toList)).length ≤ 2 ^ 40 := by
    rw [spans_length]; have := pieces_length_le s.data.toList; rw [← size_toList] at this; omega
  generalize hZ : spans 0 (pieces s.data.toList) = Z at *
  have bS := Boxed.new w 9 (.string s)
  have bO := Boxed.new (w.alloc (.cells #[.string s] 9)) 27 (.slice none 0 0)
  rw [World.size_alloc] at bO
  have bN := Boxed.new ((w.alloc (.cells #[.string s] 9)).alloc (.cells #[.slice none 0 0] 27)) 9 (.string s)
  rw [World.size_alloc, World.size_alloc] at bN
  have hB0 : Below w.heap.size w (((w.alloc (.cells #[.string s] 9)).alloc (.cells #[.slice none 0 0] 27)).alloc (.cells #[.string s] 9)) :=
    (((Below.refl _ w).alloc (Nat.le_refl _) _).alloc (by simp) _).alloc (by simp; omega) _
  have hst := cutall_stops (n - 1) (w.heap.size + 1 + 1) w.heap.size s hs _ (by simp) bN.cell
  rw [hZ] at hst
  refine wpIn_rangeFunc_ownG wide_round hn (gf := 160) (lb := #[.pointer (some ⟨w.heap.size + 1 + 1, 0, none⟩)]) rfl trivial (enters_of Tryz.func160 (by kernel_rfl) rfl)
    hst belowK_t (belowK_b (by simp; omega)) (Below.refl _ _) (fun _ => rfl)
    (fun (pre : List (Sp s.size)) W => ((∃ v, Boxed W (w.heap.size + 1) 27 v ∧ W.ownsRow (w.heap.size + 1) 9 1 v pre.length (cutRow s pre) ∧ True) ∧ Below w.heap.size w W) ∧ Boxed W w.heap.size 9 (.string s))
    (fun _ _ _ => False)
    (OwnFrom.and (OwnFrom.and (Own.from (holdsRow_own (w.heap.size + 1) (w.heap.size + 1) 27 9 1 (fun pre : List (Sp s.size) => pre.length) (cutRow s) (fun (_ : List (Sp s.size)) _ => True)) _) (ownFrom_below (Nat.le_refl _) (by simp; omega))) (Own.from (boxed_own (β := List (Sp s.size)) w.heap.size 9 (fun _ => .string s)) _))
    (fun _ _ _ _ _ hs _ _ => hs)
    ⟨⟨⟨_, bO.alloc _, World.ownsRow_nil _ _ _ _, trivial⟩, hB0⟩, (bS.alloc _).alloc _⟩
    (fun x => { tmps := #[.string s, .pointer (some ⟨w.heap.size, 0, none⟩), .slice none 0 0, .pointer (some ⟨w.heap.size + 1, 0, none⟩), VI x.1.1, VI x.1.2, .string s, .func (.func 160) #[] #[.pointer (some ⟨w.heap.size + 1 + 1, 0, none⟩)], VI x.1.1, VI x.1.2, undef, undef, undef, undef, undef, undef, undef, undef], defers := [] }) ?assign ?body ?done ?stop
  case assign =>
    intro l x W K hK
    gi_wp2
    exact hK
  case body =>
    rintro l pre ⟨⟨f, k⟩, hx1, hx2⟩ W ⟨⟨⟨v, hv, hrow, _⟩, hB⟩, hS⟩ hlt
    have hc := hv.cell
    have hcs := hS.cell
    gi_wp2
    refine round_S (fun W' => W'.cell? ⟨w.heap.size + 1, 0, none⟩ = some v ∧ W'.cell? ⟨w.heap.size, 0, none⟩ = some (.string s)) 6 (by kernel_rfl) (by kernel_rfl) (by kernel_rfl) (fun _ _ h => h) ?_
    refine take_S 0 rfl (by kernel_rfl) rfl ⟨hc, hcs⟩ (by rintro W' ⟨h1, h2⟩; go_simp; rfl) ?_
    have hk1 : (0 : Int) ≤ (f : Int) := by omega
    have hk2 : (f : Int) ≤ (k : Int) := by simp at hx1; omega
    have hk3 : (k : Int) ≤ (s.size : Int) := by simp at hx2; omega
    refine take_S 1 rfl (by kernel_rfl) rfl ⟨hc, hcs⟩ (by rintro W' ⟨h1, h2⟩; go_simp; rfl) ?_
    refine take_S 2 rfl (by kernel_rfl) rfl ⟨hc, hcs⟩ (by rintro W' ⟨h1, h2⟩; go_simp; rfl) ?_
    refine take_S 3 rfl (by kernel_rfl) rfl ⟨hc, hcs⟩ (by rintro W' ⟨h1, h2⟩; go_simp; rfl) ?_
    refine take_S 4 rfl (by kernel_rfl) rfl ⟨hc, hcs⟩ (by rintro W' ⟨h1, h2⟩; go_simp; rfl) ?_
    refine carry_S 5 rfl (by kernel_rfl) (by decide) rfl (fun K hK => ?_)
    go_simp
    refine hK _ _ ⟨(hv.alloc _).cell, (hS.alloc _).cell⟩ (forced_S (by kernel_rfl) ?_)
    clear hK K
    simp only [List.drop_succ_cons, List.drop_zero]
    have hlen : pre.length + 1 ≤ 2 ^ 40 := by omega
    go_wp2_with (at_builtin; refine wpList_append_own _ rfl _ _ 27 rfl (w.heap.size + 1) 9 i0 (.string ByteArray.empty) 1 16 Tryz.underlying27 hi hz0 hz1 hz2 rfl (by decide) _ _ _ rfl (hrow.alloc _).drew ⟨W.heap.size, 0, none⟩ 1 1 [.string (s.extract f k)] rfl rfl (cell_one_new W _ _) (by simp [Value.oneCell']) (by unfold maxLen; omega) (by omega) (by have := hS.lt; simp; omega) ?_; intro v' w1 hown' hgrow _; obtain ⟨g', cap', rfl⟩ := ownsRow_succ hown'; obtain ⟨hv1, hv2, hr2, hk2, hb2⟩ := hv.appended (by decide) hrow hS.lt (Nat.le_refl _) hown' ⟨hgrow.os, hgrow.tape, hgrow.output, hgrow.size, hgrow.block⟩; have hc1 := hv1.cell; have hf1 := hv1.frozen)
    have hb3 := hb2.mono (Nat.le_succ _)
    exact ⟨hk2.from _, hb3, ⟨⟨_, hv2, by rw [cutRow_snoc, List.length_append]; exact hr2, trivial⟩, hB.trans hb3⟩, (hb2.block _ (Nat.lt_succ_self _)).trans hS⟩
  case done =>
    rintro D ys W hD hys ⟨⟨⟨v, hv, hrow, _⟩, hB⟩, hS⟩ hK
    have hc := hv.cell
    gi_wp2
    refine ⟨by simp, .inl ⟨_, _, rfl, run_takeDeferred hK, ?_⟩⟩
    refine ⟨_, results_tmp rfl _ _ _, v, rfl, ?_, hB.trans (belowK_b (w := w) (Nat.le_refl _) W D _ _ (by simp at hD; omega) hK rfl rfl)⟩
    have hrow' := ownsRow_putObj hrow (.deferred none) hK rfl
    have hp : pieces s.data.toList = ys.map (fun x => (s.data.toList.take x.1.2).drop x.1.1) := by
      rw [← pieces_spans, hZ, ← hys, List.map_map]; rfl
    rw [hp, List.length_map, List.map_map]
    have he : (VS ∘ fun x : Sp s.size => (s.data.toList.take x.1.2).drop x.1.1) = fun x => Value.string (s.extract x.1.1 x.1.2) := by
      funext x; simp only [Function.comp, VS, extract_bs]
    rw [he]
    exact hrow'.mono (Nat.le_succ _)
  case stop =>
    rintro D c pre W _ _ h _
    exact h.elim

theorem Pieces_any (s : ByteArray) (hs : s.size ≤ 2 ^ 40) (w : World) :
    Calls Tryz.prog 57 #[.string s] w fun e W' => ∃ v, e = .returned v ∧ W'.ownsRow w.heap.size 9 1 v (pieces s.data.toList).length ((pieces s.data.toList).map VS) ∧ Below w.heap.size w W' :=
  callsIn_wide.1 (Pieces_in 1 (Nat.le_refl _) s hs w)
end Go.Proofs.YtpanoplcamdnkaaGreatDoor
