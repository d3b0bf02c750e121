/- NdO, NdD, NdS, NdR in one text. Conditions: as each part says. -/
import Derived.Test.YtpanoplcamdnkaaGreatDoorNdB
import Derived.Test.YtpanoplcamdnkaaGreatDoorIterC
import Derived.Test.YtpanoplcamdnkaaGreatDoorHlds
import Derived.Lib.OwnBridge
import Derived.Test.YtpanoplcamdnkaaGreatDoorNod2
import Derived.Test.YtpanoplcamdnkaaGreatDoorNod1
/- Nodes in memory: walks of Names, of. No conditions but bounds. -/
namespace Go.Proofs.YtpanoplcamdnkaaGreatDoor
open Go.RowKit Go.Lib Go.Maps Go.WideMaps Go.Sort Go.Shelf

theorem before_lessB : ∀ (a b : Bytes), bytesBefore a b = Op.bytesLess a b
  | [], [] => rfl
  | [], _ :: _ => rfl
  | _ :: _, [] => rfl
  | a :: r, b :: s => by
    show (decide (a < b) || (a == b && bytesBefore r s)) = (decide (a < b) || (a == b && Op.bytesLess r s))
    rw [before_lessB r s]
theorem before_ltB (a b : Bytes) : bytesBefore a b = decide (a < b) := (before_lessB a b).trans (bytesLess_eq a b)
/-- names sorted: a permutation of names that rise, sorted, is these -/
theorem sort_names {K ss : List Bytes} (hs : K.Pairwise fun a b => bytesBefore a b = true) (h : ss.Perm K) : ss.mergeSort (fun x y => decide (x ≤ y)) = K := by
  refine (mergeSort_of_perm h).trans (List.mergeSort_of_pairwise ?_)
  refine List.Pairwise.imp (fun {a b} hab => ?_) hs
  rw [before_ltB] at hab
  exact decide_eq_true (List.le_of_lt (of_decide_eq_true hab))
theorem encStr_VT : (encStr : Bytes → Value) = VT := rfl
def namesN (P : PNode) : List Bytes := P.files.map (·.1)
def ofN (P : PNode) (x : Idn) : List Bytes := (P.files.filter fun q => decide (repR q.2 = x)).map (·.1)
theorem NodeOk.names_srt {P : PNode} (h : NodeOk P) : (namesN P).Pairwise fun a b => bytesBefore a b = true := by
  unfold namesN
  rw [List.pairwise_map]
  exact h.fsrt
theorem strKeys_alD (F : FL) : strKeys (alD strLit feV F) = namesN (plainNode F []) := by
  unfold namesN plainNode alMap strKeys alD
  simp only [List.map_map]
  rfl
set_option maxHeartbeats 1000000 in
theorem NdNames_any (n fm bm : Nat) (F : FL) (B : BL) (hP : NodeOk (plainNode F B)) (w : World) (h : ONode n fm bm F B w) :
    Calls Tryz.prog 17 #[.pointer (some ⟨n, 0, none⟩)] w fun e w' => ∃ v, e = .returned v ∧ w'.ownsRow w.heap.size 9 1 v (namesN (plainNode F B)).length ((namesN (plainNode F B)).map VT) ∧ Below w.heap.size w w' := by
  refine (callsIn_wide (n := 6)).1 ?_
  have hfK : Fence.wide.fn 62 := trivial
  have hfS : Fence.wide.fn 61 := trivial
  have c0 := h.c0
  have hmap := h.files
  have hfl := hP.flen
  have hfl' : F.length ≤ 30 := by simpa [plainNode, alMap_length] using hfl
  have hsz : Maps.size (alD strLit feV F) = F.length := size_alD _ _ _
  have h1 : Maps.size (alD strLit feV F) ≤ maxLen := by rw [hsz]; unfold maxLen; omega
  have h2 : Maps.size (alD strLit feV F) * 16 ≤ 140737488355328 := by rw [hsz]; omega
  have HNS := Lib.hid hP.names_srt
  have hkk : strKeys (alD strLit feV F) = namesN (plainNode F B) := strKeys_alD F
  unfold AlMap at hmap
  have HKK := Lib.hid hkk
  clear h hP hkk hfl hfl' hsz
  refine callsIn_of_wp Tryz.func17 rfl trivial ?_ rfl
  simp only [Tryz.ntmps17, List.size_toArray, List.length_cons, List.length_nil, Nat.reduceAdd, Nat.reduceSub, Array.replicate_succ, Array.replicate_zero, List.push_toArray, List.append_toArray, List.nil_append, List.cons_append]
  gi_wp2_with (first
    | (gi_at_call 62; refine (Tryz.maps_Keys_62 _ _).mono ?_; rintro e w' ⟨rfl, rfl⟩)
    | (gi_at_call 61; refine (Tryz.slices_Sorted_keys_61_62 fm F.length (alD strLit feV F) rawE w hmap h1 h2).mono ?_; rintro e w' ⟨v, ss, rfl, hS, hrow, hnil, hb⟩))
  go_ret
  rw [HKK.out] at hS
  rw [sort_names HNS.out hS, encStr_VT, hS.length_eq] at hrow
  exact ⟨v, rfl, ownsRow_base_a hrow (by simp), ((Below.refl _ w).alloc (Nat.le_refl _) _).trans (hb.mono (by simp))⟩
/-! ### of a rep -/
theorem own_gbN {w w' : World} {base n size : Nat} {r : Option Nat} {e : TypeId} {v : Value} {xs : List Value} (h : w.ownsRow base e size v n xs) (hg : w.grownBy w' r) (hne : ∀ g, v.ownBlock = some g → r ≠ some g) : w'.ownsRow base e size v n xs := by
  refine ⟨h.1, ?_⟩
  rcases h.2 with h1 | ⟨g, cap, cur, hv, hgb, hh, h3⟩
  · exact .inl h1
  · exact .inr ⟨g, cap, cur, hv, hgb, (hg.block g (Array.getElem?_eq_some_iff.1 hh).1 (fun e => hne g (by rw [hv]; rfl) e.symm)).trans hh, h3⟩
def cameN (x : Idn) (os : FL) : List Bytes := (os.filter fun q => decide (repR q.2.r = x)).map (·.1)
theorem AlCame.len {K V : Type} [DecidableEq K] {lit : K → Lit} {lt : K → K → Bool} {ok okw : K → Prop} (E : KeyEmb lit lt ok okw) {L : List (K × V)} {left : Lit → Bool} {os : List (K × V)} (h : AlCame lit L left os) (hs : AlSrt lt L) : os.length ≤ L.length := by
  have h1 : (os.map (·.1)).length ≤ (L.map (·.1)).length := nodup_len h.1 (fun a ha => by
    obtain ⟨o, ho, rfl⟩ := List.mem_map.1 ha
    exact List.mem_map_of_mem (h.sub o ho))
  simpa using h1
end Go.Proofs.YtpanoplcamdnkaaGreatDoor
/- Nodes in memory: walk of Drop. Condition: the sentinels that are read lie as named (SomeS). -/
namespace Go.Proofs.YtpanoplcamdnkaaGreatDoor
open Go.RowKit Go.Lib Go.Maps Go.WideMaps

def DropNPost (a : Nat → Addr) (n fm bm : Nat) (F : FL) (B : BL) (nm : Bytes) (w : World) (e : Ending) (w' : World) : Prop :=
  ∃ r f', e = .returned r ∧ ES a r (dropN nm (plainNode F B)).2 ∧ Node n (dropN nm (plainNode F B)).1 f' w' ∧ FrS (nodeFoot n fm bm F B).S w w' ∧ (nodeFoot n fm bm F B).new f' w.heap.size
end Go.Proofs.YtpanoplcamdnkaaGreatDoor
/- Nodes in memory: walk of Sweep. No conditions but bounds. -/
namespace Go.Proofs.YtpanoplcamdnkaaGreatDoor
open Go.RowKit Go.Lib Go.Maps Go.WideMaps

theorem OBin.isMap {b mb : Nat} {L : HldL} {w : World} (h : OBin b mb L w) : ∃ es clock, w.heap[mb]? = some (.map es clock) := by
  obtain ⟨es, clock, e1, _⟩ := h.map
  exact ⟨es, clock, e1⟩
/-- the bins of these reps are swept -/
def swB (ks : List Idn) (B : BL) : BL := B.map fun q => (q.1, if q.1 ∈ ks then ⟨sweepB q.2.L, q.2.b, q.2.mb⟩ else q.2)
def freeA (os : BL) : Int := (os.map fun q => sizeB q.2.L - sizeB (sweepB q.2.L)).sum
def SweepNPost (n fm bm : Nat) (F : FL) (B : BL) (w : World) (e : Ending) (w' : World) : Prop :=
  ∃ f', e = .returned (.int .i64 (sizeN (plainNode F B) - sizeN (sweepN (plainNode F B)))) ∧ Node n (sweepN (plainNode F B)) f' w' ∧ FrS (nodeFoot n fm bm F B).S w w' ∧ (nodeFoot n fm bm F B).new f' w.heap.size
end Go.Proofs.YtpanoplcamdnkaaGreatDoor
/- A node by what it is and the blocks that it stands on: Drop, Sweep, Names; a node beside two rows of texts. Conditions: as named. -/
namespace Go.Proofs.YtpanoplcamdnkaaGreatDoor
open Go.RowKit Go.Lib Go.Maps Go.WideMaps

theorem Node.namesC {n : Nat} {P : PNode} {f : Foot} (hP : NodeOk P) (w : World) (h : Node n P f w) :
    Calls Tryz.prog 17 #[.pointer (some ⟨n, 0, none⟩)] w fun e w' => ∃ v, e = .returned v ∧ w'.ownsRow w.heap.size 9 1 v (namesN P).length ((namesN P).map VT) ∧ Below w.heap.size w w' := by
  obtain ⟨fm, bm, F, B, ho, rfl, rfl⟩ := h.at
  exact NdNames_any n fm bm F B hP w ho
theorem own_ltN {w : World} {base n size g : Nat} {e : TypeId} {v : Value} {xs : List Value} (h : w.ownsRow base e size v n xs) (hg : v.ownBlock = some g) : g < w.heap.size := by
  rcases h.2 with ⟨rfl, _⟩ | ⟨g', cap, cur, rfl, _, hh, _⟩
  · cases hg
  · injection hg with hg
    have hg : g' = g := hg
    subst hg
    exact (Array.getElem?_eq_some_iff.1 hh).1
theorem own_frs {w w' : World} {T : Nat → Prop} {base n size : Nat} {e : TypeId} {v : Value} {xs : List Value} (h : w.ownsRow base e size v n xs) (hg : FrS T w w') (hne : ∀ g, v.ownBlock = some g → ¬ T g) : w'.ownsRow base e size v n xs := by
  refine ⟨h.1, ?_⟩
  rcases h.2 with h1 | ⟨g, cap, cur, hv, hgb, hh, h3⟩
  · exact .inl h1
  · exact .inr ⟨g, cap, cur, hv, hgb, (hg.block g (Array.getElem?_eq_some_iff.1 hh).1 (hne g (by rw [hv]; rfl))).trans hh, h3⟩
/-- a node, and two rows of texts, apart -/
structure KM (base n b7 : Nat) (P : PNode) (f : Foot) (v7 : Value) (m7 : Nat) (A : List Bytes) (v8 : Value) (m8 : Nat) (C : List Bytes) (w0 w : World) : Prop where
  nin : NIn base n P f w0 w
  r7 : w.ownsRow b7 9 1 v7 m7 (A.map VT)
  r8 : w.ownsRow b7 9 1 v8 m8 (C.map VT)
  a7 : ∀ g, v7.ownBlock = some g → ¬ f.S g ∧ ¬ f.R g
  a8 : ∀ g, v8.ownBlock = some g → ¬ f.S g ∧ ¬ f.R g
  ap : ∀ g, v7.ownBlock = some g → v8.ownBlock ≠ some g
  hb : base ≤ b7
  hz : b7 ≤ w.heap.size
section
variable {base n b7 m7 m8 : Nat} {P P' : PNode} {f : Foot} {v7 v8 v' : Value} {A C : List Bytes} {w0 w w' : World}
theorem KM.below (h : KM base n b7 P f v7 m7 A v8 m8 C w0 w) (hb : Below w.heap.size w w') : KM base n b7 P f v7 m7 A v8 m8 C w0 w' :=
  ⟨h.nin.below hb, own_belowI h.r7 hb, own_belowI h.r8 hb, h.a7, h.a8, h.ap, h.hb, Nat.le_trans h.hz hb.size⟩
theorem KM.to (h : KM base n b7 P f v7 m7 A v8 m8 C w0 w) (ht : NodeTo n f P' w w') : ∃ f', KM base n b7 P' f' v7 m7 A v8 m8 C w0 w' := by
  obtain ⟨f', h1, h2, h3⟩ := ht
  have far : ∀ {v : Value} {m : Nat} {xs : List Value}, w.ownsRow b7 9 1 v m xs → (∀ g, v.ownBlock = some g → ¬ f.S g ∧ ¬ f.R g) → ∀ g, v.ownBlock = some g → ¬ f'.S g ∧ ¬ f'.R g := fun {v m xs} ho ha g hg =>
    ⟨fun hs => ((h3 g).1 hs).elim (ha g hg).1 (fun hB => by have := own_ltN ho hg; omega), fun hs => ((h3 g).2 hs).elim (ha g hg).2 (fun hB => by have := own_ltN ho hg; omega)⟩
  exact ⟨f', ⟨h1, fun k hk => ((h3 k).1 hk).elim (h.nin.ge k) (fun hB => Nat.le_trans h.nin.sz hB), h2.below h.nin.bel h.nin.sz h.nin.ge, Nat.le_trans h.nin.sz h2.size⟩,
    own_frs h.r7 h2 (fun g hg => (h.a7 g hg).1), own_frs h.r8 h2 (fun g hg => (h.a8 g hg).1), far h.r7 h.a7, far h.r8 h.a8, h.ap, h.hb, Nat.le_trans h.hz h2.size⟩
end
structure Box3 (b : Nat) (x y z : Value) (w : World) : Prop where
  c0 : w.cell? ⟨b, 0, none⟩ = some x
  c1 : w.cell? ⟨b, 1, none⟩ = some y
  c2 : w.cell? ⟨b, 2, none⟩ = some z
theorem Box3.lt {b : Nat} {x y z : Value} {w : World} (h : Box3 b x y z w) : b < w.heap.size := World.block_lt_of_cell? w _ h.c0
theorem Box3.below {b B : Nat} {x y z : Value} {w w' : World} (h : Box3 b x y z w) (hb : Below B w w') (hB : b < B) : Box3 b x y z w' :=
  ⟨(hb.cell (p := ⟨b, 0, none⟩) hB).trans h.c0, (hb.cell (p := ⟨b, 1, none⟩) hB).trans h.c1, (hb.cell (p := ⟨b, 2, none⟩) hB).trans h.c2⟩
theorem Box3.mk' (w : World) (x y z : Value) (t : TypeId) : Box3 w.heap.size x y z (w.alloc (.cells #[x, y, z] t)) :=
  ⟨by rw [World.cell?_alloc_at _ _ _ _ rfl]; rfl, by rw [World.cell?_alloc_at _ _ _ _ rfl]; rfl, by rw [World.cell?_alloc_at _ _ _ _ rfl]; rfl⟩
end Go.Proofs.YtpanoplcamdnkaaGreatDoor
