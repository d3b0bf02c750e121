/- Rows of recipes and of loads in memory: what is read of them, what keeps it. No conditions. -/
import Derived.Test.YtpanoplcamdnkaaGreatDoorScA
import Derived.Test.YtpanoplcamdnkaaGreatDoorPln3
namespace Go.Proofs.YtpanoplcamdnkaaGreatDoor
open Go.RowKit Go.Lib

theorem RdL.keep {w w' : World} {B B' : Nat} {v : Value} {L : HldL} (h : RdL w B v L) (hb : Below B' w w') (h1 : B ≤ B') : RdL w' B v L := by
  obtain ⟨A, c, hv, hl, hc, hx⟩ := h
  refine ⟨A, c, hv, hl, hc, fun h0 => ?_⟩
  obtain ⟨g, o, hA, hg, hcell⟩ := hx h0
  exact ⟨g, o, hA, hg, fun k u hu => (hb.cell (p := ⟨g, o + k, none⟩) (Nat.lt_of_lt_of_le hg h1)).trans (hcell k u hu)⟩
/-- v is a slice that reads as the recipes rs, below block B -/
def RsRd (w : World) (B : Nat) (v : Value) (rs : List Rcp) : Prop := ∃ A c, v = .slice A rs.length c ∧ rs.length ≤ c ∧ (0 < rs.length → ∃ g o, A = some ⟨g, o, none⟩ ∧ g < B ∧ ∀ k (hk : k < rs.length), ∃ sl, RdI w B sl rs[k].ids ∧
    w.cell? ⟨g, o + k * 4, none⟩ = some (VT rs[k].name) ∧ w.cell? ⟨g, o + k * 4 + 1, none⟩ = some (.int .i64 rs[k].len) ∧ w.cell? ⟨g, o + k * 4 + 2, none⟩ = some (.int .u32 (rs[k].print : Int)) ∧ w.cell? ⟨g, o + k * 4 + 3, none⟩ = some sl)
theorem RsRd.keep {w w' : World} {B B' : Nat} {v : Value} {rs : List Rcp} (h : RsRd w B v rs) (hb : Below B' w w') (h1 : B ≤ B') : RsRd w' B v rs := by
  obtain ⟨A, c, hv, hc, hx⟩ := h
  refine ⟨A, c, hv, hc, fun h0 => ?_⟩
  obtain ⟨g, o, hA, hg, hcell⟩ := hx h0
  have hg' : g < B' := by omega
  exact ⟨g, o, hA, hg, fun k hk => by
    obtain ⟨sl, hr, c0, c1, c2, c3⟩ := hcell k hk
    exact ⟨sl, hr.keep hb h1, (hb.cell (p := ⟨g, o + k * 4, none⟩) hg').trans c0, (hb.cell (p := ⟨g, o + k * 4 + 1, none⟩) hg').trans c1, (hb.cell (p := ⟨g, o + k * 4 + 2, none⟩) hg').trans c2, (hb.cell (p := ⟨g, o + k * 4 + 3, none⟩) hg').trans c3⟩⟩
theorem RsRd.more {w : World} {B B' : Nat} {v : Value} {rs : List Rcp} (h : RsRd w B v rs) (hB : B ≤ B') : RsRd w B' v rs := by
  obtain ⟨A, c, hv, hc, hx⟩ := h
  refine ⟨A, c, hv, hc, fun h0 => ?_⟩
  obtain ⟨g, o, hA, hg, hcell⟩ := hx h0
  exact ⟨g, o, hA, by omega, fun k hk => by
    obtain ⟨sl, hr, h2⟩ := hcell k hk
    exact ⟨sl, hr.more hB, h2⟩⟩
theorem RsRd.below {w w' : World} {v : Value} {rs : List Rcp} (h : RsRd w w.heap.size v rs) (hb : Below w.heap.size w w') : RsRd w' w'.heap.size v rs := (h.keep hb (Nat.le_refl _)).more hb.size
theorem RsRd.nil (w : World) (B : Nat) : RsRd w B (.slice none 0 0) [] := ⟨none, 0, rfl, Nat.le_refl _, fun h => absurd h (by simp)⟩
/-- v is a slice that reads as the loads bs, below block B -/
def LdRd (w : World) (B : Nat) (v : Value) (ls : List Load) : Prop := ∃ A c, v = .slice A ls.length c ∧ ls.length ≤ c ∧ (0 < ls.length → ∃ g o, A = some ⟨g, o, none⟩ ∧ g < B ∧ ∀ k (hk : k < ls.length), ∃ sl, RdL w B sl ls[k].l ∧
    w.cell? ⟨g, o + k * 3, none⟩ = some (.int .u32 (ls[k].rep.1 : Int)) ∧ w.cell? ⟨g, o + k * 3 + 1, none⟩ = some (.int .i64 ls[k].rep.2) ∧ w.cell? ⟨g, o + k * 3 + 2, none⟩ = some sl)
theorem LdRd.keep {w w' : World} {B B' : Nat} {v : Value} {ls : List Load} (h : LdRd w B v ls) (hb : Below B' w w') (h1 : B ≤ B') : LdRd w' B v ls := by
  obtain ⟨A, c, hv, hc, hx⟩ := h
  refine ⟨A, c, hv, hc, fun h0 => ?_⟩
  obtain ⟨g, o, hA, hg, hcell⟩ := hx h0
  have hg' : g < B' := by omega
  exact ⟨g, o, hA, hg, fun k hk => by
    obtain ⟨sl, hr, c0, c1, c2⟩ := hcell k hk
    exact ⟨sl, hr.keep hb h1, (hb.cell (p := ⟨g, o + k * 3, none⟩) hg').trans c0, (hb.cell (p := ⟨g, o + k * 3 + 1, none⟩) hg').trans c1, (hb.cell (p := ⟨g, o + k * 3 + 2, none⟩) hg').trans c2⟩⟩
theorem LdRd.more {w : World} {B B' : Nat} {v : Value} {ls : List Load} (h : LdRd w B v ls) (hB : B ≤ B') : LdRd w B' v ls := by
  obtain ⟨A, c, hv, hc, hx⟩ := h
  refine ⟨A, c, hv, hc, fun h0 => ?_⟩
  obtain ⟨g, o, hA, hg, hcell⟩ := hx h0
  exact ⟨g, o, hA, by omega, fun k hk => by
    obtain ⟨sl, hr, h2⟩ := hcell k hk
    exact ⟨sl, hr.more hB, h2⟩⟩
theorem LdRd.below {w w' : World} {v : Value} {ls : List Load} (h : LdRd w w.heap.size v ls) (hb : Below w.heap.size w w') : LdRd w' w'.heap.size v ls := (h.keep hb (Nat.le_refl _)).more hb.size
theorem LdRd.nil (w : World) (B : Nat) : LdRd w B (.slice none 0 0) [] := ⟨none, 0, rfl, Nat.le_refl _, fun h => absurd h (by simp)⟩
end Go.Proofs.YtpanoplcamdnkaaGreatDoor
