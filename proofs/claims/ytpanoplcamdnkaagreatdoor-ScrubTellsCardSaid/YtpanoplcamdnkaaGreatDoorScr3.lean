/- Row, ScH, ScV in one text. Conditions: as each part says. -/
import Derived.Test.YtpanoplcamdnkaaGreatDoorScr1
import Derived.Test.YtpanoplcamdnkaaGreatDoorScr2
import Derived.Test.YtpanoplcamdnkaaGreatDoorRep1
import Derived.Test.YtpanoplcamdnkaaGreatDoorNod3
import Derived.Test.YtpanoplcamdnkaaGreatDoorNod2
/- Rows of the call's own whose elements have a slice each (recipes, loads): what they hold, one element more. No conditions. -/
namespace Go.Proofs.YtpanoplcamdnkaaGreatDoor
open Go.RowKit Go.Lib

/-- a kind of elements: their cells, what is read through their slice -/
structure RowK (α : Type) where
  n : Nat
  cells : α → Value → List Value
  len : ∀ a v, (cells a v).length = n
  m : α → Nat
  rd : World → Nat → α → Value → Prop
  one : ∀ {w B a v}, rd w B a v → ∀ u ∈ cells a v, u.oneCell' = true
  keep : ∀ {w w' B B' a v}, rd w B a v → Below B' w w' → B ≤ B' → rd w' B a v
  more : ∀ {w B B' a v}, rd w B a v → B ≤ B' → rd w B' a v
  far : ∀ {w w' r B a v}, rd w B a v → w.grownBy w' r → B ≤ w.heap.size → (∀ g, r = some g → 0 < m a → v.ownBlock ≠ some g) → rd w' B a v
  lt : ∀ {w B g a v}, rd w B a v → 0 < m a → v.ownBlock = some g → g < B
theorem RdC.farR {w w' : World} {r : Option Nat} {B size m : Nat} {v : Value} {xs : List Value} (h : RdC w B size v m xs) (hg : w.grownBy w' r) (hB : B ≤ w.heap.size) (hf : ∀ g, r = some g → 0 < m → v.ownBlock ≠ some g) : RdC w' B size v m xs := by
  obtain ⟨A, c, hv, hl, hc, hx⟩ := h
  refine ⟨A, c, hv, hl, hc, fun h0 => ?_⟩
  obtain ⟨g, o, hA, hgB, hcell⟩ := hx h0
  refine ⟨g, o, hA, hgB, fun k u hu => (hg.cell_far ⟨g, o + k, none⟩ (Nat.lt_of_lt_of_le hgB hB) (fun e => ?_)).trans (hcell k u hu)⟩
  exact hf g e.symm h0 (by rw [hv, hA]; rfl)
theorem RdC.ltR {w : World} {B g size m : Nat} {v : Value} {xs : List Value} (h : RdC w B size v m xs) (h0 : 0 < m) (e : v.ownBlock = some g) : g < B := by
  obtain ⟨A, c, hv, hl, hc, hx⟩ := h
  obtain ⟨b, o, hA, hg, _⟩ := hx h0
  rw [hv, hA] at e
  have : b = g := by simpa [Value.ownBlock] using e
  omega
theorem RdC.oneR {w : World} {B size m : Nat} {v : Value} {xs : List Value} (h : RdC w B size v m xs) : v.oneCell' = true := by
  obtain ⟨A, c, rfl, _⟩ := h; rfl
def rcK : RowK Rcp where
  n := 4
  cells := fun r sl => [VT r.name, .int .i64 r.len, .int .u32 (r.print : Int), sl]
  len := fun _ _ => rfl
  m := fun r => r.ids.length
  rd := fun w B r sl => RdI w B sl r.ids
  one := fun {w B a v} h u hu => by
    simp only [List.mem_cons, List.not_mem_nil, or_false] at hu
    rcases hu with rfl | rfl | rfl | rfl
    · rfl
    · rfl
    · rfl
    · exact RdC.oneR h
  keep := fun h hb h1 => RdI.keep h hb h1
  more := fun h hB => RdI.more h hB
  far := fun h hg hB hf => RdC.farR h hg hB hf
  lt := fun h h0 e => RdC.ltR h h0 e
def ldK : RowK Load where
  n := 3
  cells := fun y sl => [.int .u32 (y.rep.1 : Int), .int .i64 y.rep.2, sl]
  len := fun _ _ => rfl
  m := fun y => y.l.length
  rd := fun w B y sl => RdL w B sl y.l
  one := fun {w B a v} h u hu => by
    simp only [List.mem_cons, List.not_mem_nil, or_false] at hu
    rcases hu with rfl | rfl | rfl
    · rfl
    · rfl
    · exact RdC.oneR h
  keep := fun h hb h1 => RdL.keep h hb h1
  more := fun h hB => RdL.more h hB
  far := fun h hg hB hf => RdC.farR h hg hB hf
  lt := fun h h0 e => RdC.ltR h h0 e
section
variable {α : Type} (K : RowK α)
def RowK.row (E : List (α × Value)) : List Value := E.flatMap fun x => K.cells x.1 x.2
theorem RowK.row_length (E : List (α × Value)) : (K.row E).length = E.length * K.n := by
  induction E with
  | nil => simp [RowK.row]
  | cons o l ih => rw [show K.row (o :: l) = K.cells o.1 o.2 ++ K.row l from rfl, List.length_append, ih, K.len, List.length_cons, Nat.succ_mul]; omega
theorem RowK.row_append (a b : List (α × Value)) : K.row (a ++ b) = K.row a ++ K.row b := List.flatMap_append
theorem RowK.row_snoc (a : List (α × Value)) (x : α × Value) : K.row (a ++ [x]) = K.row a ++ K.cells x.1 x.2 := by rw [RowK.row_append]; simp [RowK.row]
theorem RowK.row_at (l : List (α × Value)) (k : Nat) (h : k < l.length) (j : Nat) (hj : j < K.n) : (K.row l)[k * K.n + j]? = (K.cells l[k].1 l[k].2)[j]? := by
  conv => lhs; rw [← List.take_append_drop k l, List.drop_eq_getElem_cons h, RowK.row_append]
  have hl : (K.row (l.take k)).length = k * K.n := by rw [RowK.row_length, List.length_take, Nat.min_eq_left (by omega)]
  rw [List.getElem?_append_right (by omega), hl, Nat.add_sub_cancel_left]
  rw [show K.row (l[k] :: l.drop (k + 1)) = K.cells l[k].1 l[k].2 ++ K.row (l.drop (k + 1)) from rfl, List.getElem?_append_left (by rw [K.len]; exact hj)]
/-- v is a row of the call's own (of type T, from base on) that holds these -/
def OwX (w : World) (base : Nat) (T : TypeId) (v : Value) (l : List α) : Prop :=
  ∃ E : List (α × Value), E.map (·.1) = l ∧ w.ownsRow base T K.n v E.length (K.row E) ∧ ∀ x ∈ E, K.rd w w.heap.size x.1 x.2 ∧ ∀ g, v.ownBlock = some g → 0 < K.m x.1 → x.2.ownBlock ≠ some g
variable {K}
theorem OwX.nil (w : World) (base : Nat) (T : TypeId) : OwX K w base T (.slice none 0 0) [] := ⟨[], rfl, World.ownsRow_nil _ _ _ _, fun _ h => absurd h List.not_mem_nil⟩
theorem OwX.below {w w' : World} {base : Nat} {T : TypeId} {v : Value} {l : List α} (h : OwX K w base T v l) (hb : Below w.heap.size w w') : OwX K w' base T v l := by
  obtain ⟨E, he, ho, hx⟩ := h
  exact ⟨E, he, own_belowI ho hb, fun x hm => ⟨K.more (K.keep (hx x hm).1 hb (Nat.le_refl _)) hb.size, (hx x hm).2⟩⟩
theorem OwX.slice {w : World} {base : Nat} {T : TypeId} {v : Value} {l : List α} (h : OwX K w base T v l) : ∃ A c, v = .slice A l.length c := by
  obtain ⟨E, rfl, ho, _⟩ := h
  have := own_formI ho
  simpa using this
theorem OwX.ge {w : World} {base g : Nat} {T : TypeId} {v : Value} {l : List α} (h : OwX K w base T v l) (e : v.ownBlock = some g) : base ≤ g := by
  obtain ⟨E, rfl, ho, _⟩ := h
  exact own_ge ho e
theorem OwX.ltX {w : World} {base g : Nat} {T : TypeId} {v : Value} {l : List α} (h : OwX K w base T v l) (e : v.ownBlock = some g) : g < w.heap.size := by
  obtain ⟨E, rfl, ho, _⟩ := h
  rcases ho.2 with ⟨rfl, _⟩ | ⟨b, cap, cur, rfl, _, hh, _⟩
  · cases e
  · cases e; exact (Array.getElem?_eq_some_iff.1 hh).1
theorem OwX.own {w : World} {base : Nat} {T : TypeId} {v : Value} {l : List α} (h : OwX K w base T v l) : ∃ xs, w.ownsRow base T K.n v l.length xs := by
  obtain ⟨E, rfl, ho, _⟩ := h
  exact ⟨_, by rw [List.length_map]; exact ho⟩
/-- one element more: from the own row's law -/
theorem OwX.snoc {w w' : World} {base : Nat} {T : TypeId} {v v' : Value} {l : List α} {E : List (α × Value)} (he : E.map (·.1) = l) (ho : w.ownsRow base T K.n v E.length (K.row E)) (hx : ∀ x ∈ E, K.rd w w.heap.size x.1 x.2 ∧ ∀ g, v.ownBlock = some g → 0 < K.m x.1 → x.2.ownBlock ≠ some g)
    {a : α} {sl : Value} (hy : K.rd w w.heap.size a sl) (hyf : ∀ g, v.ownBlock = some g → 0 < K.m a → sl.ownBlock ≠ some g) (ho' : w'.ownsRow base T K.n v' (E.length + 1) (K.row E ++ K.cells a sl)) (hg : w.grownBy w' v.ownBlock)
    (hv' : v'.ownBlock = v.ownBlock ∨ v'.ownBlock = some w.heap.size) : OwX K w' base T v' (l ++ [a]) := by
  refine ⟨E ++ [(a, sl)], by rw [List.map_append, he]; rfl, by rw [List.length_append, RowK.row_snoc]; exact ho', fun x hm => ?_⟩
  have hz : K.rd w w.heap.size x.1 x.2 ∧ ∀ g, v.ownBlock = some g → 0 < K.m x.1 → x.2.ownBlock ≠ some g := by
    rcases List.mem_append.1 hm with h | h
    · exact hx x h
    · rw [List.mem_singleton.1 h]; exact ⟨hy, hyf⟩
  refine ⟨K.more (K.far hz.1 hg (Nat.le_refl _) hz.2) hg.size, fun g e => ?_⟩
  rcases hv' with h1 | h1
  · exact hz.2 g (by rw [← h1]; exact e)
  · intro h0 e2
    have := K.lt hz.1 h0 e2
    rw [h1] at e
    injection e with e
    omega
theorem OwX.form {w : World} {base : Nat} {T : TypeId} {v : Value} {l : List α} (h : OwX K w base T v l) : ∃ A c, v = .slice A l.length c ∧ l.length ≤ c ∧ (0 < l.length → ∃ g, A = some ⟨g, 0, none⟩ ∧ base ≤ g ∧ g < w.heap.size ∧ ∀ k (hk : k < l.length), ∃ sl, K.rd w w.heap.size l[k] sl ∧
    ∀ j u, j < K.n → (K.cells l[k] sl)[j]? = some u → w.cell? ⟨g, k * K.n + j, none⟩ = some u) := by
  obtain ⟨E, rfl, ho, hx⟩ := h
  rcases ho.2 with ⟨rfl, h0⟩ | ⟨g, cap, cur, hv, hge, hh, hnc, _⟩
  · exact ⟨none, 0, by rw [List.length_map, h0], by rw [List.length_map]; omega, fun h => absurd h (by rw [List.length_map]; omega)⟩
  · refine ⟨_, cap, by rw [List.length_map]; exact hv, by rw [List.length_map]; exact hnc, fun _ => ⟨g, rfl, hge, (Array.getElem?_eq_some_iff.1 hh).1, fun k hk => ?_⟩⟩
    have hk' : k < E.length := by simpa using hk
    refine ⟨E[k].2, by rw [List.getElem_map]; exact (hx _ (List.getElem_mem hk')).1, fun j u hj hu => ?_⟩
    rw [List.getElem_map] at hu
    have hkn : k * K.n + j < E.length * K.n := by
      have := Nat.mul_le_mul_right K.n (show k + 1 ≤ E.length from hk')
      rw [Nat.succ_mul] at this
      omega
    subst hv
    rw [ho.cellAt (k * K.n + j) hkn, K.row_at E k hk' j hj]; exact hu
end
/-- such a row of recipes is read -/
theorem OwX.rs {w : World} {base : Nat} {T : TypeId} {v : Value} {l : List Rcp} (h : OwX rcK w base T v l) : RsRd w w.heap.size v l := by
  obtain ⟨A, c, hv, hc, hx⟩ := h.form
  refine ⟨A, c, hv, hc, fun h0 => ?_⟩
  obtain ⟨g, hA, _, hg, hcell⟩ := hx h0
  refine ⟨g, 0, hA, hg, fun k hk => ?_⟩
  obtain ⟨sl, hsl, hcs⟩ := hcell k hk
  refine ⟨sl, hsl, ?_, ?_, ?_, ?_⟩
  · have := hcs 0 _ (by decide) rfl
    simpa [rcK] using this
  · have := hcs 1 _ (by decide) rfl
    simpa [rcK] using this
  · have := hcs 2 _ (by decide) rfl
    simpa [rcK] using this
  · have := hcs 3 _ (by decide) rfl
    simpa [rcK] using this
/-- such a row of loads is read -/
theorem OwX.ls {w : World} {base : Nat} {T : TypeId} {v : Value} {l : List Load} (h : OwX ldK w base T v l) : LdRd w w.heap.size v l := by
  obtain ⟨A, c, hv, hc, hx⟩ := h.form
  refine ⟨A, c, hv, hc, fun h0 => ?_⟩
  obtain ⟨g, hA, _, hg, hcell⟩ := hx h0
  refine ⟨g, 0, hA, hg, fun k hk => ?_⟩
  obtain ⟨sl, hsl, hcs⟩ := hcell k hk
  refine ⟨sl, hsl, ?_, ?_, ?_⟩
  · have := hcs 0 _ (by decide) rfl
    simpa [ldK] using this
  · have := hcs 1 _ (by decide) rfl
    simpa [ldK] using this
  · have := hcs 2 _ (by decide) rfl
    simpa [ldK] using this
theorem info_rcp : (Tryz.prog.info? 65).map (fun i => (i.zero, i.size, i.bytes)) = some (some (.agg #[.string ByteArray.empty, .int .i64 0, .int .u32 0, .slice none 0 0]), 4, 56) := by kernel_rfl
theorem info_load : (Tryz.prog.info? 72).map (fun i => (i.zero, i.size, i.bytes)) = some (some (.agg #[.int .u32 0, .int .i64 0, .slice none 0 0]), 3, 40) := by kernel_rfl
theorem cells_new4 (w : World) (a b c d : Value) (t : TypeId) : ∀ j u, [a, b, c, d][j]? = some u → (w.alloc (.cells #[a, b, c, d] t)).cell? ((⟨w.heap.size, 0, none⟩ : Addr).add j) = some u := by
  intro j u h
  rw [add_eqM, Nat.zero_add, World.cell?_alloc_at _ _ _ _ rfl]
  match j, h with
  | 0, h => exact h
  | 1, h => exact h
  | 2, h => exact h
  | 3, h => exact h
theorem cells_new3 (w : World) (a b c : Value) (t : TypeId) : ∀ j u, [a, b, c][j]? = some u → (w.alloc (.cells #[a, b, c] t)).cell? ((⟨w.heap.size, 0, none⟩ : Addr).add j) = some u := by
  intro j u h
  rw [add_eqM, Nat.zero_add, World.cell?_alloc_at _ _ _ _ rfl]
  match j, h with
  | 0, h => exact h
  | 1, h => exact h
  | 2, h => exact h
end Go.Proofs.YtpanoplcamdnkaaGreatDoor
/- Walk of scrub.Of: a node is right. Condition: the sentinels that are read lie as named (SomeS). -/
namespace Go.Proofs.YtpanoplcamdnkaaGreatDoor
open Go.RowKit Go.Lib Go.Maps Go.WideMaps

def repsN (P : PNode) : IdL := P.bins.map (·.1)
theorem Node.repsC {n : Nat} {P : PNode} {f : Foot} (hP : NodeOk P) (w : World) (h : Node n P f w) :
    Calls Tryz.prog 47 #[.pointer (some ⟨n, 0, none⟩)] w (IdsPost (repsN P) w) := by
  obtain ⟨fm, bm, F, B, ho, rfl, rfl⟩ := h.at
  have hk : repsN (plainNode F B) = keysOf B := by unfold repsN plainNode alMap keysOf; rw [List.map_map]; rfl
  rw [hk]
  refine NdReps_raw n fm bm F B (ONode.srtB hP) (ho.keysB hP) ?_ w ho
  have := hP.blen
  have hb : (plainNode F B).bins.length = B.length := alMap_length _ _
  have := hP.flen
  omega
theorem NodeOk.rcpB {P : PNode} (h : NodeOk P) : ∀ r ∈ filesN P, RcpB r := by
  intro r hr
  obtain ⟨q, hq, rfl⟩ := List.mem_map.1 hr
  obtain ⟨s, hn, hs, e, _⟩ := h.file q.1 q.2 (alGet_of_mem strEmb h.fsrt hq)
  rw [e]
  exact rcpB_of hn hs
theorem recN_file {P : PNode} (h : NodeOk P) {k : Nat} (hk : k < P.files.length) : recN P.files[k].1 P = (0, P.files[k].2) := by
  have := alGet_of_mem strEmb h.fsrt (List.getElem_mem hk)
  unfold recN
  rw [show P.files[k] = (P.files[k].1, P.files[k].2) from rfl] at this
  rw [this]
theorem isName_ok {nm : Bytes} (h : isName nm = true) : StrOk nm := by
  have : nm.length ≤ 12 := isName_le h
  unfold StrOk maxLen; omega
theorem NodeOk.loadLen {P : PNode} (h : NodeOk P) : ∀ y ∈ loadsN P, y.l.length ≤ 1000000 := by
  intro y hy
  obtain ⟨q, hq, rfl⟩ := List.mem_map.1 hy
  obtain ⟨_, _, hl, _⟩ := h.bin q.1 q.2 (alGet_of_mem idEmb h.bsrt hq)
  show q.2.length ≤ 1000000
  omega
theorem NodeOk.loadW {P : PNode} (h : NodeOk P) : ∀ y ∈ loadsN P, ∀ x ∈ y.l, HldW x ∧ x.text.length ≤ 1000000000 := by
  intro y hy x hx
  obtain ⟨q, hq, rfl⟩ := List.mem_map.1 hy
  have hb := h.bin7 (alGet_of_mem idEmb h.bsrt hq)
  have hx := hb.all x hx
  have h1 := hx.uses
  have h2 := hx.len
  exact ⟨⟨hx.idok, by omega, by omega⟩, by omega⟩
theorem NodeOk.binK {P : PNode} (h : NodeOk P) {k : Nat} (hk : k < P.bins.length) : alGet P.bins P.bins[k].1 = some P.bins[k].2 := alGet_of_mem idEmb h.bsrt (List.getElem_mem hk)
theorem ScOf_nil (a : Nat → Addr) (w : World) (hs : SomeS [2] a w) : Calls Tryz.prog 40 #[.pointer none] w fun e w' => e = .returned (sval a 2) ∧ w' = w := by
  have s2 : w.cell? ⟨8, 0, none⟩ = some (sval a 2) := hs 2 (by simp)
  unfold sval at s2 ⊢
  clear hs
  go_enter Tryz.func40, Tryz.ntmps40
  go_wp2
  go_ret
  exact ⟨rfl, rfl⟩
set_option maxRecDepth 100000 in
set_option maxHeartbeats 2000000 in
theorem ScOf_any (a : Nat → Addr) {n : Nat} {P : PNode} {f : Foot} (hP : NodeOk P) (w : World) (h : Node n P f w) (hs : SomeS [1, 2, 3, 4, 6, 7, 8, 10] a w) :
    Calls Tryz.prog 40 #[.pointer (some ⟨n, 0, none⟩)] w fun e w' => e = .returned .nilIface ∧ Below w.heap.size w w' := by
  obtain ⟨i0, hi, hz0, hz1, hz2⟩ := info_parts info_rcp
  obtain ⟨i1, hj, hy0, hy1, hy2⟩ := info_parts info_load
  have HP := Lib.hid hP
  have HN := Lib.hid h
  have HS := Lib.hid hs
  have hfl := hP.flen
  have hbl := hP.blen
  have hnl : (namesN P).length = P.files.length := List.length_map _
  have HNM := Lib.hid (Node.namesC hP w h)
  rw [hnl] at HNM
  clear hP h hs hnl
  go_enter Tryz.func40, Tryz.ntmps40
  go_wp2_with fail
  refine HNM.out.mono ?_
  rintro e w1 ⟨vn, rfl, hon, hb1⟩
  obtain ⟨NA, nc, hvn, hnc, hnx⟩ := own_rdI hon
  subst hvn
  have HNX := Lib.hid hnx
  have HB1 := Lib.hid hb1
  have HN1 := Lib.hid (HN.out.below hb1)
  clear hon hb1 hnx HNM
  go_wp2
  go_loopg [3, 17] P.files.length (fun gh v3 v17 wr => ∃ k : Nat, v17 = .int .i64 k ∧ k ≤ P.files.length ∧ gh = P.files.length - k ∧ Hid (OwX rcK wr w1.heap.size 65 v3 ((filesN P).take k)) ∧ Hid (Below w1.heap.size w1 wr))
  case atStart => exact ⟨0, rfl, Nat.zero_le _, rfl, Lib.hid (OwX.nil _ _ _), Lib.hid (Below.refl _ _)⟩
  case round =>
    obtain ⟨k, rfl, hk, hgm, HO, HBr⟩ := hrel
    have hlk : ((filesN P).take k).length = k := by rw [List.length_take]; unfold filesN; rw [List.length_map]; omega
    obtain ⟨A3, c3, hv3⟩ := HO.out.slice
    rw [hlk] at hv3
    subst hv3
    by_cases hkl : k < P.files.length
    · obtain ⟨g, rfl, _, hg, hcell⟩ := HNX.out (by omega)
      have hnm := hcell k (VT P.files[k].1) (by rw [List.getElem?_map]; unfold namesN; rw [List.getElem?_map, List.getElem?_eq_getElem hkl]; rfl)
      have e0 := (HBr.out.cell (p := ⟨g, k, none⟩) hg).trans hnm
      have HB2 := Lib.hid (HB1.out.trans (HBr.out.mono HB1.out.size))
      have hrec := recN_file HP.out hkl
      have hfk : (filesN P).take (k + 1) = (filesN P).take k ++ [P.files[k].2] := by
        rw [List.take_succ_eq_append_getElem (by unfold filesN; rw [List.length_map]; exact hkl)]
        unfold filesN; rw [List.getElem_map]
      have hso : StrOk P.files[k].1 := by
        obtain ⟨_, hn, _⟩ := HP.out.file _ _ (alGet_of_mem strEmb HP.out.fsrt (List.getElem_mem hkl))
        exact isName_ok hn
      have HRC := Lib.hid (Node.recipeC a HP.out P.files[k].1 hso wr (HN1.out.below HBr.out) ((HS.out.below HB2.out).sub (js := [4]) (by decide)))
      rw [hrec] at HRC
      have HFK := Lib.hid hfk
      have b1 : (0 : Int) ≤ (k : Int) := by omega
      have b2 : (k : Int) < (P.files.length : Int) := by omega
      generalize P.files[k].1 = nm at *
      generalize P.files[k].2 = r at *
      clear hcell hnm hrec hfk hso
      go_wp2_with fail
      refine HRC.out.mono ?_
      rintro e w4 ⟨v4, r4, rfl, hev, ⟨sl4, rfl, hr4⟩, hb4⟩
      obtain ⟨rfl, _⟩ := hev.nil rfl
      obtain ⟨A4, c4, hsl4⟩ : ∃ A c, sl4 = .slice A r.ids.length c := by obtain ⟨A, c, h, _⟩ := hr4; exact ⟨A, c, h⟩
      subst hsl4
      have HB4 := Lib.hid (HB2.out.trans (hb4.mono HB2.out.size))
      have HBq := Lib.hid (HBr.out.trans (hb4.mono HBr.out.size))
      have hfar : ∀ q, (Value.slice A3 k c3).ownBlock = some q → 0 < r.ids.length → (Value.slice A4 r.ids.length c4).ownBlock ≠ some q := fun q hq h0 e => by
        have := HO.out.ltX hq
        obtain ⟨A, c, he, hc, hx⟩ := hr4
        obtain ⟨b, o, hA, hlo, _⟩ := hx h0
        injection he with e1 _ _
        rw [e1, hA] at e
        have : b = q := by simpa [Value.ownBlock] using e
        omega
      have HFAR := Lib.hid hfar
      have HR4 := Lib.hid hr4.rd
      have HO4 := Lib.hid (HO.out.below hb4)
      have hz4 : w.heap.size ≤ w4.heap.size := HB4.out.size
      clear hev hr4 hb4 hfar HRC HO
      have haw : Below w4.heap.size w4 (w4.alloc (.cells #[VT r.name, .int .i64 r.len, .int .u32 (r.print : Int), .slice A4 r.ids.length c4] 65)) := (Below.refl _ _).alloc (Nat.le_refl _) _
      have haw2 : Below w4.heap.size w4 ((w4.alloc (.cells #[VT r.name, .int .i64 r.len, .int .u32 (r.print : Int), .slice A4 r.ids.length c4] 65)).alloc (.cells #[VT r.name, .int .i64 r.len, .int .u32 (r.print : Int), .slice A4 r.ids.length c4] 65)) := haw.alloc haw.size _
      obtain ⟨z0, z1, z2, z3, _⟩ := Box4.mk' w4 (VT r.name) (.int .i64 r.len) (.int .u32 (r.print : Int)) (.slice A4 r.ids.length c4) 65
      have HX4 := Lib.hid (HO4.out.below haw2)
      obtain ⟨E, hE, ho, hex⟩ := HX4.out
      have hEl : E.length = k := by rw [← hlk, ← hE, List.length_map]
      have hya : RdI ((w4.alloc (.cells #[VT r.name, .int .i64 r.len, .int .u32 (r.print : Int), .slice A4 r.ids.length c4] 65)).alloc (.cells #[VT r.name, .int .i64 r.len, .int .u32 (r.print : Int), .slice A4 r.ids.length c4] 65)) ((w4.alloc (.cells #[VT r.name, .int .i64 r.len, .int .u32 (r.print : Int), .slice A4 r.ids.length c4] 65)).alloc (.cells #[VT r.name, .int .i64 r.len, .int .u32 (r.print : Int), .slice A4 r.ids.length c4] 65)).heap.size (.slice A4 r.ids.length c4) r.ids := (HR4.out.keep haw2 (Nat.le_refl _)).more haw2.size
      have hok := ho
      rw [hEl] at hok
      have hok2 : ((w4.alloc (.cells #[VT r.name, .int .i64 r.len, .int .u32 (r.print : Int), .slice A4 r.ids.length c4] 65)).alloc (.cells #[VT r.name, .int .i64 r.len, .int .u32 (r.print : Int), .slice A4 r.ids.length c4] 65)).ownsRow w1.heap.size 65 4 (.slice A3 k c3) k (rcK.row E) := hok
      have HOK2 := Lib.hid hok2
      have HNE := Lib.hid (cells_new4 (w4.alloc (.cells #[VT r.name, .int .i64 r.len, .int .u32 (r.print : Int), .slice A4 r.ids.length c4] 65)) (VT r.name) (.int .i64 r.len) (.int .u32 (r.print : Int)) (.slice A4 r.ids.length c4) 65)
      have HBA2 := Lib.hid (HBq.out.trans (haw2.mono HBq.out.size))
      have HE := Lib.hid hE
      have HHO := Lib.hid ho
      have HEX := Lib.hid hex
      have HYA := Lib.hid hya
      have HEL := Lib.hid hEl
      have HONE := Lib.hid (rcK.one (a := r) hya)
      have hwa : (w4.alloc (.cells #[VT r.name, .int .i64 r.len, .int .u32 (r.print : Int), .slice A4 r.ids.length c4] 65)).heap.size = w4.heap.size + 1 := by simp
      clear haw haw2 hE ho hex hya hok hok2 hEl
      go_wp2_with (first | (at_builtin; refine wpList_append_own_at _ rfl (.tmp 30) (.tmp 32) 61 rfl w1.heap.size 65 i0 (.agg #[.string ByteArray.empty, .int .i64 0, .int .u32 0, .slice none 0 0]) 4 56 Tryz.underlying61 hi hz0 hz1 hz2 rfl (by decide) (.slice A3 k c3) k (rcK.row E) rfl HOK2.out ⟨w4.heap.size + 1, 0, none⟩ 1 1 [VT r.name, .int .i64 r.len, .int .u32 (r.print : Int), .slice A4 r.ids.length c4] rfl rfl (by rw [← hwa]; exact HNE.out) HONE.out (by unfold maxLen; omega) (by omega) HBA2.out.size ?_; intro v7 w7 hown7 hg7 _ hat7) | fail)
      have HO7 := Lib.hid (OwX.snoc HE.out HHO.out HEX.out (a := r) HYA.out HFAR.out (by rw [HEL.out]; exact hown7) hg7 hat7)
      have HB7 := Lib.hid (HBA2.out.grown hg7 HBA2.out.size (fun q hq => own_ge HHO.out hq))
      rw [← HFK.out] at HO7
      clear hown7 hg7 hat7
      go_wp2
      go_roundg (P.files.length - (k + 1))
      case measure => omega
      case rel => exact ⟨k + 1, by go_num, hkl, rfl, HO7, HB7⟩
    · obtain rfl : k = P.files.length := by omega
      obtain ⟨wo, hwo⟩ : ∃ x, x = wr := ⟨_, rfl⟩
      subst hwo
      have hfe : (filesN P).take P.files.length = filesN P := List.take_of_length_le (by unfold filesN; rw [List.length_map]; exact Nat.le_refl _)
      rw [hfe] at HO
      have hfn : (filesN P).length = P.files.length := by unfold filesN; rw [List.length_map]
      have HB2 := Lib.hid (HB1.out.trans (HBr.out.mono HB1.out.size))
      have HRP := Lib.hid (Node.repsC HP.out wo (HN1.out.below HBr.out))
      have hrl : (repsN P).length = P.bins.length := List.length_map _
      unfold IdsPost at HRP
      rw [hrl] at HRP
      have HN5 := Lib.hid (HN1.out.below HBr.out)
      clear hfe hk hgm
      go_wp2_with fail
      refine HRP.out.mono ?_
      rintro e w5 ⟨vr, rfl, hor, hb5⟩
      obtain ⟨RA, rc, hvr⟩ := own_formI hor
      subst hvr
      have hrd : RdI w5 w5.heap.size (.slice RA P.bins.length rc) (repsN P) := RdI.own hor hrl.symm
      obtain ⟨RA', rc', hvr', _, hrx⟩ := hrd.form
      rw [hrl] at hvr'
      injection hvr' with hv1 _ hv3
      subst hv1; subst hv3
      have HRX := Lib.hid hrx
      have HB5 := Lib.hid (HB2.out.trans (hb5.mono HB2.out.size))
      have HO5 := Lib.hid (HO.out.below hb5)
      have HN6 := Lib.hid (HN5.out.below hb5)
      clear hor hb5 hrd hrx HRP HO HN5
      go_wp2
      go_loopg [8, 38] P.bins.length (fun gh v8 v38 wr => ∃ k : Nat, v38 = .int .i64 k ∧ k ≤ P.bins.length ∧ gh = P.bins.length - k ∧ Hid (OwX ldK wr w5.heap.size 72 v8 ((loadsN P).take k)) ∧ Hid (Below w5.heap.size w5 wr))
      case atStart => exact ⟨0, rfl, Nat.zero_le _, rfl, Lib.hid (OwX.nil _ _ _), Lib.hid (Below.refl _ _)⟩
      case round =>
        obtain ⟨k, rfl, hk, hgm, HQ, HBq⟩ := hrel
        have hlk : ((loadsN P).take k).length = k := by rw [List.length_take]; unfold loadsN; rw [List.length_map]; omega
        obtain ⟨A8, c8, hv8⟩ := HQ.out.slice
        rw [hlk] at hv8
        subst hv8
        have HBw := Lib.hid (HB5.out.trans (HBq.out.mono HB5.out.size))
        by_cases hkl : k < P.bins.length
        · obtain ⟨g, o, rfl, hg, hcell⟩ := HRX.out (by omega)
          obtain ⟨i0', i1'⟩ := hcell k (by omega)
          have hrk : (repsN P)[k]'(by omega) = P.bins[k].1 := by unfold repsN; rw [List.getElem_map]
          rw [hrk] at i0' i1'
          have e0 := (HBq.out.cell (p := ⟨g, o + k * 2, none⟩) hg).trans i0'
          have e1 := (HBq.out.cell (p := ⟨g, o + k * 2 + 1, none⟩) hg).trans i1'
          have hbk := HP.out.binK hkl
          have hfk : (loadsN P).take (k + 1) = (loadsN P).take k ++ [⟨P.bins[k].1, P.bins[k].2⟩] := by
            rw [List.take_succ_eq_append_getElem (by unfold loadsN; rw [List.length_map]; exact hkl)]
            unfold loadsN; rw [List.getElem_map]
          have HFK := Lib.hid hfk
          obtain ⟨hxo, _, hll, _⟩ := HP.out.bin _ _ hbk
          have hok7 := HP.out.bin7 hbk
          have b1 : (0 : Int) ≤ (k : Int) := by omega
          have b2 : (k : Int) < (P.bins.length : Int) := by omega
          generalize P.bins[k].1 = x at *
          generalize P.bins[k].2 = L at *
          have hb6 : Below wr.heap.size wr (wr.alloc (.cells #[.int .u32 (x.1 : Int), .int .i64 x.2] 47)) := (Below.refl _ _).alloc (Nat.le_refl _) _
          have HB6 := Lib.hid (HBq.out.trans (hb6.mono HBq.out.size))
          have HQ6 := Lib.hid (HQ.out.below hb6)
          have BX6 := Lib.hid (Box2.mk' wr (.int .u32 (x.1 : Int)) (.int .i64 x.2) 47)
          have HBC : Hid (∀ w', Below w5.heap.size w5 w' → Calls Tryz.prog 48 #[.pointer (some ⟨n, 0, none⟩), idV x] w' fun e w'' => ∃ b2 mb2, e = .returned (.pointer (some ⟨b2, 0, none⟩)) ∧ OBin b2 mb2 L w'' ∧ w'.heap.size ≤ b2 ∧ w'.heap.size ≤ mb2 ∧ Below w'.heap.size w' w'') := Lib.hid (fun w' hb => by
            have := Node.binC HP.out x hxo.1 w' (HN6.out.below hb)
            unfold BinPost at this
            rw [hbk] at this
            exact this)
          have HOK7 := Lib.hid hok7
          clear i0' i1' hcell hrk hbk hfk hb6 hok7
          go_wp2
          generalize wr.alloc (.cells #[.int .u32 (x.1 : Int), .int .i64 x.2] 47) = w6 at *
          have hS0 : Below w6.heap.size w6 w6.drew := (Below.refl _ _).drew
          refine region_S (fun w' => Below w6.heap.size w6 w') 8 (by kernel_rfl) (by kernel_rfl) ?_
          refine take_S 0 rfl (by kernel_rfl) (by kernel_rfl) hS0 (fun w' hS => by go_simp; rfl) ?_
          refine take_S 1 rfl (by kernel_rfl) (by kernel_rfl) hS0 (fun w' hS => by obtain ⟨A0, A1, _, _⟩ := BX6.out.below hS BX6.out.lt; go_simp; rfl) ?_
          refine take_S 2 rfl (by kernel_rfl) (by kernel_rfl) hS0 (fun w' hS => by go_simp; rfl) ?_
          refine take_S 3 rfl (by kernel_rfl) (by kernel_rfl) hS0 (fun w' hS => by obtain ⟨A0, A1, _, _⟩ := BX6.out.below hS BX6.out.lt; go_simp; rfl) ?_
          refine carry_S 4 rfl (by kernel_rfl) (by decide) (by kernel_rfl) (fun K hK => ?_)
          go_simp
          refine (HBC.out _ (HB6.out.trans (hS0.mono HB6.out.size))).mono ?_
          rintro e w7 ⟨b2, mb2, rfl, hob, _, _, hbw7⟩
          have hS1 : Below w6.heap.size w6 w7 := hS0.trans (hbw7.mono hS0.size)
          refine hK _ _ hS1 ?_
          clear hK K
          try simp only [Act.put, List.getElem_toArray, List.getElem_cons_succ, List.getElem_cons_zero, List.setIfInBounds_toArray, List.set_cons_zero, List.set_cons_succ]
          refine carry_S 5 rfl (by kernel_rfl) (by decide) (by kernel_rfl) (fun K hK => ?_)
          go_simp
          refine (BnAll_any b2 mb2 L 7500 HOK7.out (by omega) w7 hob).mono ?_
          rintro e w8 ⟨v7, rfl, hown7, hbw8⟩
          obtain ⟨A7, c7, hv7⟩ := own_formI hown7
          subst hv7
          have hS2 : Below w6.heap.size w6 w7 := hS1
          have hS3 : Below w6.heap.size w6 w8 := hS1.trans (hbw8.mono hS1.size)
          refine hK _ _ hS3 ?_
          clear hK K
          try simp only [Act.put, List.getElem_toArray, List.getElem_cons_succ, List.getElem_cons_zero, List.setIfInBounds_toArray, List.set_cons_zero, List.set_cons_succ]
          refine take_S 6 rfl (by kernel_rfl) (by kernel_rfl) hS3 (fun w' hS => by go_simp; rfl) ?_
          refine carry_S 7 rfl (by kernel_rfl) (by decide) (by kernel_rfl) (fun K hK => ?_)
          go_simp
          have haw : Below w8.heap.size w8 (w8.alloc (.cells #[.int .u32 (x.1 : Int), .int .i64 x.2, .slice A7 L.length c7] 72)) := (Below.refl _ _).alloc (Nat.le_refl _) _
          have hS4 : Below w6.heap.size w6 (w8.alloc (.cells #[.int .u32 (x.1 : Int), .int .i64 x.2, .slice A7 L.length c7] 72)) := hS3.trans (haw.mono hS3.size)
          refine hK _ _ hS4 (forced_S (by kernel_rfl) ?_)
          clear hK K
          try simp only [Act.put, List.getElem_toArray, List.getElem_cons_succ, List.getElem_cons_zero, List.setIfInBounds_toArray, List.set_cons_zero, List.set_cons_succ]
          try simp only [Act.put, List.getElem_toArray, List.getElem_cons_succ, List.getElem_cons_zero, List.setIfInBounds_toArray, List.set_cons_zero, List.set_cons_succ]
          simp only [List.drop_succ_cons, List.drop_zero]
          have HBA := Lib.hid (HB6.out.trans (hS4.mono HB6.out.size))
          have HX7 := Lib.hid (HQ6.out.below hS4)
          obtain ⟨E, hE, ho, hex⟩ := HX7.out
          have hEl : E.length = k := by rw [← hlk, ← hE, List.length_map]
          have hya : RdL (w8.alloc (.cells #[.int .u32 (x.1 : Int), .int .i64 x.2, .slice A7 L.length c7] 72)) (w8.alloc (.cells #[.int .u32 (x.1 : Int), .int .i64 x.2, .slice A7 L.length c7] 72)).heap.size (.slice A7 L.length c7) L := RdL.more (RdL.keep (RdL.own hown7) haw (Nat.le_refl _)) haw.size
          have HFAR : Hid (∀ q, (Value.slice A8 k c8).ownBlock = some q → 0 < L.length → (Value.slice A7 L.length c7).ownBlock ≠ some q) := Lib.hid (fun q hq _ e => by
            have h1 := HQ6.out.ltX hq
            have h2 := own_ge hown7 e
            have h3 := hS2.size
            omega)
          have hok := ho
          rw [hEl] at hok
          have hok2 : (w8.alloc (.cells #[.int .u32 (x.1 : Int), .int .i64 x.2, .slice A7 L.length c7] 72)).ownsRow w5.heap.size 72 3 (.slice A8 k c8) k (ldK.row E) := hok
          have HOK2 := Lib.hid hok2
          have HNE := Lib.hid (cells_new3 w8 (.int .u32 (x.1 : Int)) (.int .i64 x.2) (.slice A7 L.length c7) 72)
          have HE := Lib.hid hE
          have HHO := Lib.hid ho
          have HEX := Lib.hid hex
          have HYA := Lib.hid hya
          have HEL := Lib.hid hEl
          have HONE := Lib.hid (ldK.one (a := ⟨x, L⟩) hya)
          clear haw hE ho hex hya hok hok2 hEl hS0 hS1 hS2 hS3 hS4 hown7 hob hbw7 hbw8
          go_wp2_with (first | (at_builtin; go_loud (refine wpList_append_own_at _ rfl (.tmp 42) (.tmp 49) 67 rfl w5.heap.size 72 i1 (.agg #[.int .u32 0, .int .i64 0, .slice none 0 0]) 3 40 Tryz.underlying67 hj hy0 hy1 hy2 rfl (by decide) (.slice A8 k c8) k (ldK.row E) rfl HOK2.out ⟨w8.heap.size, 0, none⟩ 1 1 [.int .u32 (x.1 : Int), .int .i64 x.2, .slice A7 L.length c7] rfl rfl HNE.out HONE.out (by unfold maxLen; omega) (by omega) HBA.out.size ?_; intro v9 w9 hown9 hg9 _ hat9)) | fail)
          have HO9 := Lib.hid (OwX.snoc HE.out HHO.out HEX.out (a := ⟨x, L⟩) HYA.out HFAR.out (by rw [HEL.out]; exact hown9) hg9 hat9)
          have HB9 := Lib.hid (HBA.out.grown hg9 HBA.out.size (fun q hq => own_ge HHO.out hq))
          rw [← HFK.out] at HO9
          clear hown9 hg9 hat9
          go_wp2
          go_roundg (P.bins.length - (k + 1))
          case measure => omega
          case rel => exact ⟨k + 1, by go_num, hkl, rfl, HO9, HB9⟩
        · obtain rfl : k = P.bins.length := by omega
          have hle : (loadsN P).take P.bins.length = loadsN P := List.take_of_length_le (by unfold loadsN; rw [List.length_map]; exact Nat.le_refl _)
          have hll : (loadsN P).length = P.bins.length := by unfold loadsN; rw [List.length_map]
          rw [hle] at HQ
          have HCK := Lib.hid (ScCheck_any a (.slice A3 P.files.length c3) (.slice A8 P.bins.length c8) (filesN P) (loadsN P) (by omega) HP.out.rcpB (by omega) HP.out.loadLen HP.out.loadW wr (HO5.out.below HBq.out).rs HQ.out.ls (HS.out.below HBw.out))
          rw [HP.out.check] at HCK
          unfold ScPost at HCK
          clear hle
          go_wp2_with fail
          refine HCK.out.mono ?_
          rintro e w9 ⟨x, rfl, hev, hb9⟩
          obtain ⟨rfl, _⟩ := hev.nil rfl
          have HB9 := Lib.hid (HBw.out.trans (hb9.mono HBw.out.size))
          clear hev hb9 HCK
          go_wp2
          go_ret
          exact ⟨rfl, HB9.out⟩
end Go.Proofs.YtpanoplcamdnkaaGreatDoor
/- Rows of loads of the call's own, whose pieces are written; the laws' scrubbed, faulted. Condition: the sentinels lie as named. -/
namespace Go.Proofs.YtpanoplcamdnkaaGreatDoor
open Go.RowKit Go.Lib Go.Maps Go.WideMaps

/-- loads whose pieces lie in rows of the call's own, from base on -/
def ldoK (base : Nat) : RowK Load where
  n := 3
  cells := fun y sl => [.int .u32 (y.rep.1 : Int), .int .i64 y.rep.2, sl]
  len := fun _ _ => rfl
  m := fun _ => 1
  rd := fun w B y sl => w.ownsRow base 82 4 sl y.l.length (hldRow y.l) ∧ ∀ g, sl.ownBlock = some g → g < B ∧ g < w.heap.size
  one := fun {w B a v} h u hu => by
    simp only [List.mem_cons, List.not_mem_nil, or_false] at hu
    rcases hu with rfl | rfl | rfl
    · rfl
    · rfl
    · obtain ⟨A, c, rfl⟩ := own_formI h.1; rfl
  keep := fun {w w' B B' a v} h hb h1 => by
    refine ⟨⟨h.1.1, ?_⟩, fun g e => ⟨(h.2 g e).1, Nat.lt_of_lt_of_le (h.2 g e).2 hb.size⟩⟩
    rcases h.1.2 with h2 | ⟨g, cap, cur, hv, hgb, hh, h3⟩
    · exact .inl h2
    · exact .inr ⟨g, cap, cur, hv, hgb, (hb.block g (Nat.lt_of_lt_of_le (h.2 g (by rw [hv]; rfl)).1 h1)).trans hh, h3⟩
  more := fun h hB => ⟨h.1, fun g e => ⟨Nat.lt_of_lt_of_le (h.2 g e).1 hB, (h.2 g e).2⟩⟩
  far := fun {w w' r B a v} h hg hB hf => ⟨own_gbN h.1 hg (fun g e e2 => hf g e2 (by decide) e), fun g e => ⟨(h.2 g e).1, Nat.lt_of_lt_of_le (h.2 g e).2 hg.size⟩⟩
  lt := fun h _ e => (h.2 _ e).1
/-- .. pairwise apart -/
def OwXP {α : Type} (K : RowK α) (w : World) (base : Nat) (T : TypeId) (v : Value) (l : List α) : Prop :=
  ∃ E : List (α × Value), E.map (·.1) = l ∧ w.ownsRow base T K.n v E.length (K.row E) ∧ (∀ x ∈ E, K.rd w w.heap.size x.1 x.2 ∧ ∀ g, v.ownBlock = some g → 0 < K.m x.1 → x.2.ownBlock ≠ some g) ∧ E.Pairwise (fun x y => ∀ g, x.2.ownBlock = some g → y.2.ownBlock ≠ some g)
section
variable {α : Type} {K : RowK α}
theorem OwXP.nil (w : World) (base : Nat) (T : TypeId) : OwXP K w base T (.slice none 0 0) [] := ⟨[], rfl, World.ownsRow_nil _ _ _ _, fun _ h => absurd h List.not_mem_nil, List.Pairwise.nil⟩
theorem OwXP.ow {w : World} {base : Nat} {T : TypeId} {v : Value} {l : List α} (h : OwXP K w base T v l) : OwX K w base T v l := by
  obtain ⟨E, he, ho, hx, _⟩ := h
  exact ⟨E, he, ho, hx⟩
theorem OwXP.below {w w' : World} {base : Nat} {T : TypeId} {v : Value} {l : List α} (h : OwXP K w base T v l) (hb : Below w.heap.size w w') : OwXP K w' base T v l := by
  obtain ⟨E, he, ho, hx, hp⟩ := h
  exact ⟨E, he, own_belowI ho hb, fun x hm => ⟨K.more (K.keep (hx x hm).1 hb (Nat.le_refl _)) hb.size, (hx x hm).2⟩, hp⟩
theorem OwXP.snoc {w w' : World} {base B : Nat} {T : TypeId} {v v' : Value} {l : List α} {E : List (α × Value)} (he : E.map (·.1) = l) (ho : w.ownsRow base T K.n v E.length (K.row E)) (hx : ∀ x ∈ E, K.rd w w.heap.size x.1 x.2 ∧ ∀ g, v.ownBlock = some g → 0 < K.m x.1 → x.2.ownBlock ≠ some g) (hp : E.Pairwise (fun x y => ∀ g, x.2.ownBlock = some g → y.2.ownBlock ≠ some g))
    {a : α} {sl : Value} (hy : K.rd w w.heap.size a sl) (hyf : ∀ g, v.ownBlock = some g → 0 < K.m a → sl.ownBlock ≠ some g) (hB : ∀ x ∈ E, ∀ g, x.2.ownBlock = some g → g < B) (hs : ∀ g, sl.ownBlock = some g → B ≤ g) (ho' : w'.ownsRow base T K.n v' (E.length + 1) (K.row E ++ K.cells a sl)) (hg : w.grownBy w' v.ownBlock)
    (hv' : v'.ownBlock = v.ownBlock ∨ v'.ownBlock = some w.heap.size) : OwXP K w' base T v' (l ++ [a]) := by
  refine ⟨E ++ [(a, sl)], by rw [List.map_append, he]; rfl, by rw [List.length_append, RowK.row_snoc]; exact ho', fun x hm => ?_, ?_⟩
  · have hz : K.rd w w.heap.size x.1 x.2 ∧ ∀ g, v.ownBlock = some g → 0 < K.m x.1 → x.2.ownBlock ≠ some g := by
      rcases List.mem_append.1 hm with h | h
      · exact hx x h
      · rw [List.mem_singleton.1 h]; exact ⟨hy, hyf⟩
    refine ⟨K.more (K.far hz.1 hg (Nat.le_refl _) hz.2) hg.size, fun g e => ?_⟩
    rcases hv' with h1 | h1
    · exact hz.2 g (by rw [← h1]; exact e)
    · intro h0 e2
      have := K.lt hz.1 h0 e2
      rw [h1] at e
      injection e with e
      omega
  · refine List.pairwise_append.2 ⟨hp, List.pairwise_singleton _ _, fun x hxm y hym g e1 e2 => ?_⟩
    rw [List.mem_singleton.1 hym] at e2
    have h1 := hB x hxm g e1
    have h2 := hs g e2
    omega
end
theorem ldo_read {w : World} {base B : Nat} {y : Load} {sl : Value} (h : (ldoK base).rd w B y sl) : RdL w w.heap.size sl y.l := RdL.own h.1
/-- such a row is read -/
theorem OwX.lso {w : World} {b2 base : Nat} {T : TypeId} {v : Value} {l : List Load} (h : OwX (ldoK b2) w base T v l) : LdRd w w.heap.size v l := by
  obtain ⟨A, c, hv, hc, hx⟩ := h.form
  refine ⟨A, c, hv, hc, fun h0 => ?_⟩
  obtain ⟨g, hA, _, hg, hcell⟩ := hx h0
  refine ⟨g, 0, hA, hg, fun k hk => ?_⟩
  obtain ⟨sl, hsl, hcs⟩ := hcell k hk
  refine ⟨sl, ldo_read hsl, ?_, ?_, ?_⟩
  · have := hcs 0 _ (by show (0 : Nat) < 3; decide) rfl
    simpa [ldoK] using this
  · have := hcs 1 _ (by show (1 : Nat) < 3; decide) rfl
    simpa [ldoK] using this
  · have := hcs 2 _ (by show (2 : Nat) < 3; decide) rfl
    simpa [ldoK] using this
/-- the first piece of a load, to be written -/
theorem OwXP.first {w : World} {b2 base : Nat} {T : TypeId} {v : Value} {l : List Load} (h : OwXP (ldoK b2) w base T v l) {i : Nat} (hi : i < l.length) {o : Hld} {r : HldL} (e : l[i].l = o :: r) :
    ∃ A c g0 g c0, v = .slice A l.length c ∧ A = some ⟨g0, 0, none⟩ ∧ base ≤ g0 ∧ g0 < w.heap.size ∧ b2 ≤ g ∧ g < w.heap.size ∧ g0 ≠ g ∧ w.cell? ⟨g0, i * 3 + 2, none⟩ = some (.slice (some ⟨g, 0, none⟩) l[i].l.length c0) ∧ l[i].l.length ≤ c0 ∧
      w.cell? ⟨g, 2, none⟩ = some (.int .i64 o.uses) ∧ w.frozen? ⟨g, 2, none⟩ = false ∧
      LdRd (w.setCell ⟨g, 2, none⟩ (.int .i64 (o.uses + 1))) w.heap.size v (l.set i ⟨l[i].rep, ⟨o.id, o.uses + 1, o.text⟩ :: r⟩) := by
  have hr := h.ow.lso
  obtain ⟨E, rfl, ho, hx, hp⟩ := h
  have hi' : i < E.length := by simpa using hi
  have hsl := hx E[i] (List.getElem_mem hi')
  rw [List.getElem_map] at e
  have hlen : (E[i].1).l.length = r.length + 1 := by rw [e]; rfl
  obtain ⟨hown, hlt⟩ := hsl.1
  rcases ho.2 with ⟨_, h0⟩ | ⟨g0, cap, cur, hv, hge, hh, hnc, _⟩
  · omega
  rcases hown.2 with ⟨_, h0⟩ | ⟨g, cap2, cur2, hv2, hge2, hh2, hnc2, _⟩
  · omega
  subst hv
  have hg0 : g0 < w.heap.size := (Array.getElem?_eq_some_iff.1 hh).1
  have hg : g < w.heap.size := (Array.getElem?_eq_some_iff.1 hh2).1
  have hne : g0 ≠ g := fun e1 => by
    have := hsl.2 g0 rfl Nat.one_pos
    rw [hv2, e1] at this
    exact this rfl
  have hrow : ∀ j, j < 3 → ∀ k (hk : k < E.length) u, ((ldoK b2).cells E[k].1 E[k].2)[j]? = some u → w.cell? ⟨g0, k * 3 + j, none⟩ = some u := fun j hj k hk u hu => by
    have hkn : k * 3 + j < E.length * 3 := by omega
    have h1 := ho.cellAt (k * 3 + j) hkn
    rw [show (ldoK b2).row E = (ldoK b2).row E from rfl] at h1
    have h2 := (ldoK b2).row_at E k hk j hj
    rw [show (ldoK b2).n = 3 from rfl] at h2
    rw [h1, h2]; exact hu
  have hown' := hown
  rw [hv2, e] at hown'
  have hcl : w.cell? ⟨g, 2, none⟩ = some (.int .i64 o.uses) := by
    have := hown'.cellAt 2 (by simp only [List.length_cons]; omega)
    rw [this]; rfl
  have hfz : w.frozen? ⟨g, 2, none⟩ = false := hown'.frozenAt 2
  have hlm : (E.map (·.1)).length = E.length := List.length_map _
  refine ⟨_, cap, g0, g, cap2, by rw [hlm], rfl, hge, hg0, hge2, hg, hne, ?_, by rw [List.getElem_map]; exact hnc2, hcl, hfz, ?_⟩
  · have := hrow 2 (by decide) i hi' _ rfl
    rw [this, hv2, List.getElem_map]
  · have hcf : ∀ p : Addr, p.block ≠ g → (w.setCell ⟨g, 2, none⟩ (.int .i64 (o.uses + 1))).cell? p = w.cell? p := fun p hpb => World.cell?_setCell_other _ _ _ _ (fun e1 => hpb (by rw [← e1]))
    refine ⟨_, cap, by rw [List.length_set, hlm], by rw [List.length_set, hlm]; exact hnc, fun _ => ⟨g0, 0, rfl, hg0, fun k hk => ?_⟩⟩
    have hk' : k < E.length := by simpa using hk
    have c0 := hrow 0 (by decide) k hk' _ rfl
    have c1 := hrow 1 (by decide) k hk' _ rfl
    have c2 := hrow 2 (by decide) k hk' _ rfl
    rw [← hcf ⟨g0, k * 3 + 0, none⟩ hne] at c0
    rw [← hcf ⟨g0, k * 3 + 1, none⟩ hne] at c1
    rw [← hcf ⟨g0, k * 3 + 2, none⟩ hne] at c2
    refine ⟨E[k].2, ?_, ?_, ?_, ?_⟩
    · by_cases hki : i = k
      · subst hki
        rw [List.getElem_set_self]
        show RdC _ _ 4 _ (r.length + 1) _
        refine ⟨_, cap2, by rw [hv2, hlen], by rw [hldRow_length]; rfl, by rw [← hlen]; exact hnc2, fun _ => ⟨g, 0, rfl, hg, fun j u hu => ?_⟩⟩
        have hj : j < (r.length + 1) * 4 := by
          have := (List.getElem?_eq_some_iff.1 hu).1
          rw [hldRow_length] at this
          exact this
        rw [Nat.zero_add]
        have hold := hown'.cellAt j (by simpa using hj)
        by_cases hj2 : j = 2
        · subst hj2
          have hu2 : (.int .i64 (o.uses + 1) : Value) = u := by injection hu
          rw [← hu2]
          exact World.cell?_setCell_same _ _ _ hcl
        · rw [World.cell?_setCell_other _ _ _ _ (fun e1 => hj2 (by injection e1 with _ e2 _; exact e2.symm)), hold, ← hu]
          match j, hj2 with
          | 0, _ => rfl
          | 1, _ => rfl
          | 3, _ => rfl
          | j + 4, _ => rfl
      · rw [List.getElem_set_ne hki, List.getElem_map]
        have hk1 := hx E[k] (List.getElem_mem hk')
        have hne2 : ∀ q, E[k].2.ownBlock = some q → q ≠ g := fun q hq e1 => by
          have hgi : E[i].2.ownBlock = some g := by rw [hv2]; rfl
          rcases Nat.lt_or_gt_of_ne hki with h1 | h1
          · exact (List.pairwise_iff_getElem.1 hp) i k hi' hk' h1 g hgi (e1 ▸ hq)
          · exact (List.pairwise_iff_getElem.1 hp) k i hk' hi' h1 q hq (by rw [e1]; exact hgi)
        obtain ⟨A, c, hA, hl, hc, hcx⟩ := RdL.own hk1.1.1
        refine ⟨A, c, hA, hl, hc, fun h0 => ?_⟩
        obtain ⟨b, ofs, hA2, hb, hcell⟩ := hcx h0
        exact ⟨b, ofs, hA2, hb, fun j u hu => (hcf ⟨b, ofs + j, none⟩ (hne2 b (by rw [hA, hA2]; rfl))).trans (hcell j u hu)⟩
    · have hrep : (((E.map (fun x : Load × Value => x.1)).set i (⟨((E.map (fun x : Load × Value => x.1))[i]'hi).rep, ⟨o.id, o.uses + 1, o.text⟩ :: r⟩ : Load))[k]'hk).rep = E[k].1.rep := by
        by_cases hki : i = k
        · subst hki; rw [List.getElem_set_self, List.getElem_map]
        · rw [List.getElem_set_ne hki, List.getElem_map]
      rw [hrep]; simpa [ldoK] using c0
    · have hrep : (((E.map (fun x : Load × Value => x.1)).set i (⟨((E.map (fun x : Load × Value => x.1))[i]'hi).rep, ⟨o.id, o.uses + 1, o.text⟩ :: r⟩ : Load))[k]'hk).rep = E[k].1.rep := by
        by_cases hki : i = k
        · subst hki; rw [List.getElem_set_self, List.getElem_map]
        · rw [List.getElem_set_ne hki, List.getElem_map]
      rw [hrep]; simpa [ldoK] using c1
    · simpa [ldoK] using c2
end Go.Proofs.YtpanoplcamdnkaaGreatDoor
