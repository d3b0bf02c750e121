/- PlainR, PlainB in one text. Conditions: as each part says. -/

import Derived.Test.YtpanoplcamdnkaaGreatDoorPlainH
import Derived.Test.YtpanoplcamdnkaaGreatDoorCmpT
import Derived.Test.YtpanoplcamdnkaaGreatDoorName
import Derived.Lib.Join
import Derived.Maps.OwnSet
import Derived.Lib.SlMapFilter
import GoSem.ClaimKeys
/- Plain words: recipes: what a recipe's fault is, its text, what is read of a text, what is joined, its rep; and the laws of a recipe that was made of a text. No program in sight. No conditions. -/
namespace Go.Proofs.YtpanoplcamdnkaaGreatDoor
open Go.RowKit Go.Lib

abbrev Idn := Nat × Int
abbrev IdL := List Idn
structure Rcp where
  name : Bytes
  len : Int
  print : Nat
  ids : IdL
def idOf (p : Bytes) : Idn := (prOf p, (p.length : Int))
def idsOf (s : Bytes) : IdL := (pieces s).map idOf
def rcpOf (name s : Bytes) : Rcp := ⟨name, s.length, prOf s, idsOf s⟩
def rcpZero : Rcp := ⟨[], 0, 0, []⟩
/-- the fault of the pieces from the i-th on; n bytes lie ahead -/
def idsFault (len : Int) : Nat → Int → IdL → Int × Int
  | _, n, [] => if n = len then (0, -1) else (9, -1)
  | i, n, x :: r => if x.2 < 1 ∨ 64 < x.2 then (3, (i : Int)) else idsFault len (i + 1) (n + x.2) r
def rcpFault (r : Rcp) : Int × Int :=
  if isName r.name = false then (4, -1) else if r.len < 0 ∨ 4000 < r.len then (2, -1) else if 250 < r.ids.length then (7, -1) else idsFault r.len 0 0 r.ids
def joinMis : Nat → List Bytes → IdL → Option Nat
  | i, p :: ls, x :: r => if idOf p = x then joinMis (i + 1) ls r else some i
  | _, _, _ => none
def joinEnd (r : Rcp) (ls : List Bytes) : Option Nat → Bytes × Int × Int
  | some i => ([], 9, (i : Int))
  | none => if prOf ls.flatten = r.print then (ls.flatten, 0, -1) else ([], 9, -1)
def joinRes (r : Rcp) (ls : List Bytes) : Bytes × Int × Int :=
  if (rcpFault r).1 ≠ 0 then ([], rcpFault r) else if ls.length ≠ r.ids.length then ([], 3, -1) else joinEnd r ls (joinMis 0 ls r.ids)
def lesser (x m : Idn) : Bool := lessId x.1 m.1 x.2 m.2
def repFrom : Idn → IdL → Idn
  | m, [] => m
  | m, x :: r => repFrom (if lesser x m then x else m) r
def repOf : IdL → Idn
  | [] => idOf []
  | x :: r => repFrom x r
def idsText : IdL → Bytes
  | [] => []
  | x :: r => 32 :: (idText x.1 x.2 ++ idsText r)
def rcpText (r : Rcp) : Bytes := r.name ++ 32 :: (itoa r.len ++ 32 :: (hex8 r.print ++ idsText r.ids))
def readIds : List Bytes → Option IdL
  | [] => some []
  | x :: r => match readId x with
    | some (n, k) => match readIds r with
      | some l => some ((n, (k : Int)) :: l)
      | none => none
    | none => none
def readEnd (a : Bytes) (n p : Nat) : Option IdL → Except (Int × Int) Rcp
  | some ids => if (rcpFault ⟨a, n, p, ids⟩).1 = 0 then .ok ⟨a, n, p, ids⟩ else .error (rcpFault ⟨a, n, p, ids⟩)
  | none => .error (1, -1)
def readWs : List Bytes → Except (Int × Int) Rcp
  | a :: b :: c :: ws => match numOf b 6, unhexOf c with
    | some n, some p => readEnd a n p (readIds ws)
    | _, _ => .error (1, -1)
  | _ => .error (1, -1)
def readRcp (t : Bytes) : Except (Int × Int) Rcp := if 40000 < t.length then .error (2, -1) else readWs (cutAll 32 t)

/-! ### faults -/
theorem idsFault_two (len : Int) (L : IdL) : ∀ i n, (idsFault len i n L).1 = 0 → idsFault len i n L = (0, -1) := by
  induction L with
  | nil => intro i n h; unfold idsFault at h ⊢; split at h <;> simp_all
  | cons x r ih => intro i n h; unfold idsFault at h ⊢; split at h; · cases h
                   rename_i hc; rw [if_neg hc]; exact ih _ _ h
theorem rcpFault_two {r : Rcp} (h : (rcpFault r).1 = 0) : rcpFault r = (0, -1) := by
  unfold rcpFault at h ⊢
  split at h
  · cases h
  · rename_i h1
    rw [if_neg h1]
    split at h
    · cases h
    · rename_i h2
      rw [if_neg h2]
      split at h
      · cases h
      · rename_i h3
        rw [if_neg h3]
        exact idsFault_two _ _ _ _ h
theorem rcpFault_name {r : Rcp} (h : (rcpFault r).1 = 0) : isName r.name = true ∧ 0 ≤ r.len ∧ r.len ≤ 4000 ∧ r.ids.length ≤ 250 ∧ idsFault r.len 0 0 r.ids = (0, -1) := by
  have h0 := rcpFault_two h
  unfold rcpFault at h0
  split at h0
  · cases h0
  · split at h0
    · cases h0
    · split at h0
      · cases h0
      · rename_i h1 h2 h3
        exact ⟨by simpa using h1, by omega, by omega, by omega, h0⟩
theorem idsFault_lens (len : Int) (L : IdL) : ∀ i n, (idsFault len i n L).1 = 0 → ∀ x ∈ L, 1 ≤ x.2 ∧ x.2 ≤ 64 := by
  induction L with
  | nil => intro _ _ _ x hx; cases hx
  | cons y r ih =>
    intro i n h x hx
    unfold idsFault at h
    split at h
    · cases h
    · rename_i hc
      rcases List.mem_cons.1 hx with rfl | hx
      · omega
      · exact ih _ _ h x hx
theorem idsFault_of (len : Int) (ps : List Bytes) (h : ∀ p ∈ ps, p ≠ [] ∧ p.length ≤ 64) : ∀ i n, n + (ps.flatten.length : Int) = len → idsFault len i n (ps.map idOf) = (0, -1) := by
  induction ps with
  | nil => intro i n hn; simp at hn; unfold idsFault; rw [List.map_nil]; simp [hn]
  | cons p r ih =>
    intro i n hn
    obtain ⟨h1, h2⟩ := h p (List.mem_cons_self ..)
    have h3 : 0 < p.length := List.length_pos_iff.2 h1
    rw [List.map_cons]
    unfold idsFault
    rw [if_neg (by show ¬ ((p.length : Int) < 1 ∨ 64 < (p.length : Int)); omega)]
    refine ih (fun q hq => h q (List.mem_cons_of_mem _ hq)) _ _ ?_
    show n + (p.length : Int) + _ = len
    rw [List.flatten_cons, List.length_append] at hn
    omega
theorem pcs_len (cur r : Bytes) : 16 * (pcs cur r).length ≤ cur.length + r.length + 15 := by
  induction r generalizing cur with
  | nil => simp [pcs]
  | cons b r ih =>
    rw [pcs_cons]
    split
    · rename_i he
      have h1 := endsB_len he
      have h2 := ih []
      simp at h1 h2 ⊢
      omega
    · split
      · simp; omega
      · have h2 := ih (cur ++ [b])
        simp at h2 ⊢
        omega
theorem pieces_len (s : Bytes) : 16 * (pieces s).length ≤ s.length + 15 := by
  have := pcs_len [] s
  simp at this
  exact this
theorem rcpFault_of {name s : Bytes} (hn : isName name = true) (hs : s.length ≤ 4000) : rcpFault (rcpOf name s) = (0, -1) := by
  unfold rcpFault rcpOf
  have h1 := pieces_len s
  rw [if_neg (by simp [hn]), if_neg (by simp only; omega), if_neg (by simp only [idsOf, List.length_map]; omega)]
  exact idsFault_of _ _ (fun p hp => ⟨pieces_ne s p hp, pieces_max s p hp⟩) 0 0 (by rw [pieces_flatten]; simp)
/-! ### joining -/
theorem joinMis_of (ls : List Bytes) : ∀ i, joinMis i ls (ls.map idOf) = none := by
  induction ls with
  | nil => intro i; rfl
  | cons p r ih => intro i; rw [List.map_cons]; unfold joinMis; rw [if_pos rfl]; exact ih _
theorem joinRes_of {name s : Bytes} (hn : isName name = true) (hs : s.length ≤ 4000) : joinRes (rcpOf name s) (pieces s) = (s, 0, -1) := by
  unfold joinRes
  rw [rcpFault_of hn hs, if_neg (by simp), if_neg (by simp [rcpOf, idsOf])]
  have : joinMis 0 (pieces s) (rcpOf name s).ids = none := joinMis_of _ 0
  rw [this]
  unfold joinEnd
  rw [if_pos (by rw [pieces_flatten]; rfl), pieces_flatten]
/-! ### the rep -/
theorem lesser_irrefl (x : Idn) : lesser x x = false := by unfold lesser lessId; simp
theorem lesser_true {x y : Idn} : lesser x y = true ↔ x.1 < y.1 ∨ (x.1 = y.1 ∧ x.2 < y.2) := by
  unfold lesser lessId
  by_cases h : x.1 = y.1
  · simp [h]
  · rw [if_pos h, decide_eq_true_eq]
    omega
theorem repFrom_mem (L : IdL) : ∀ m, repFrom m L = m ∨ repFrom m L ∈ L := by
  induction L with
  | nil => intro m; exact .inl rfl
  | cons x r ih =>
    intro m
    show repFrom (if lesser x m then x else m) r = m ∨ _
    rcases ih (if lesser x m then x else m) with h | h
    · rw [show repFrom m (x :: r) = repFrom (if lesser x m then x else m) r from rfl, h]
      split
      · exact .inr (List.mem_cons_self ..)
      · exact .inl rfl
    · exact .inr (List.mem_cons_of_mem _ h)
theorem repOf_mem {L : IdL} (h : L ≠ []) : repOf L ∈ L := by
  cases L with
  | nil => exact absurd rfl h
  | cons x r =>
    rcases repFrom_mem r x with h | h
    · show repFrom x r ∈ _; rw [h]; exact List.mem_cons_self ..
    · exact List.mem_cons_of_mem _ h
/-! ### reading what was written -/
theorem isName_le {l : Bytes} (h : isName l = true) : l.length ≤ 12 := by
  unfold isName at h
  have := (Bool.and_eq_true_iff.1 (Bool.and_eq_true_iff.1 h).1).2
  exact of_decide_eq_true this
/-! ### a text's words, joined with a blank -/
theorem joinTail_nil : ∀ (ls : List Bytes), joinTail [] ls = ls.flatten
  | [] => rfl
  | x :: r => by show ([] ++ x) ++ joinTail [] r = x ++ r.flatten; rw [joinTail_nil r]; rfl
theorem join_flat (ls : List Bytes) : join ls [] = ls.flatten := by
  cases ls with
  | nil => rfl
  | cons x r => rw [join_cons, joinTail_nil]; rfl
/-! ### strings.Split at a byte is the document's cutting -/
end Go.Proofs.YtpanoplcamdnkaaGreatDoor
/- Plain words: bins: pieces by IDs; look-up, putting, dropping, sweeping; the datum that a bin's map reads as. No program in sight. No conditions. -/
namespace Go.Proofs.YtpanoplcamdnkaaGreatDoor
open Go.Maps Go.Lib

structure Hld where
  id : Idn
  uses : Int
  text : Bytes
  deriving DecidableEq
abbrev HldL := List Hld
def IdOk (x : Idn) : Prop := x.1 < 4294967296 ∧ -9223372036854775808 ≤ x.2 ∧ x.2 ≤ 9223372036854775807
def idLit (x : Idn) : Lit := .string (keyBytes [.int .u32 (x.1 : Int), .int .i64 x.2])
def hldU (h : Hld) : DataW Unit := .agg [.lit (.int .u32 (h.id.1 : Int)), .lit (.int .i64 h.id.2), .lit (.int .i64 h.uses), .lit (.string h.text)]
def dataB (L : HldL) : DataW Unit := .map (L.map fun h => (idLit h.id, hldU h))
def SrtB (L : HldL) : Prop := L.Pairwise (fun a b => lesser a.id b.id = true)
def getB (L : HldL) (x : Idn) : Option Hld := L.find? (fun h => decide (h.id = x))
def setB (h : Hld) : HldL → HldL
  | [] => [h]
  | y :: r => if y.id = h.id then h :: r else if lesser h.id y.id = true then h :: y :: r else y :: setB h r
def sizeB (L : HldL) : Int := (L.map fun h => h.id.2).sum
/-! ### the bytes of a key -/
def natBE : List UInt8 → Nat
  | [] => 0
  | c :: r => c.toNat * 256 ^ r.length + natBE r
theorem natBE_lt : ∀ l, natBE l < 256 ^ l.length
  | [] => by simp [natBE]
  | c :: r => by
    have h1 := natBE_lt r
    have h2 : c.toNat < 256 := c.toNat_lt
    have h3 : (c.toNat + 1) * 256 ^ r.length ≤ 256 * 256 ^ r.length := Nat.mul_le_mul_right _ h2
    rw [Nat.add_mul, Nat.one_mul] at h3
    show c.toNat * 256 ^ r.length + natBE r < 256 ^ (r.length + 1)
    rw [Nat.pow_succ, Nat.mul_comm (256 ^ r.length) 256]
    omega
theorem natBE_append : ∀ a b, natBE (a ++ b) = natBE a * 256 ^ b.length + natBE b
  | [], b => by simp [natBE]
  | c :: r, b => by
    show c.toNat * 256 ^ (r ++ b).length + natBE (r ++ b) = (c.toNat * 256 ^ r.length + natBE r) * 256 ^ b.length + natBE b
    rw [natBE_append r b, List.length_append, Nat.pow_add, Nat.add_mul, Nat.mul_assoc]
    omega
theorem bytesLE_length : ∀ w n, (bytesLE w n).length = w
  | 0, _ => rfl
  | w + 1, n => by show (_ :: bytesLE w (n / 256)).length = _; rw [List.length_cons, bytesLE_length w]
theorem bytesBE_length (w n : Nat) : (bytesBE w n).length = w := by unfold bytesBE; rw [List.length_reverse, bytesLE_length]
theorem natBE_bytesBE : ∀ w n, natBE (bytesBE w n) = n % 256 ^ w
  | 0, n => by simp [bytesBE, bytesLE, natBE, Nat.mod_one]
  | w + 1, n => by
    have h : bytesBE (w + 1) n = bytesBE w (n / 256) ++ [UInt8.ofNat (n % 256)] := by
      show (UInt8.ofNat (n % 256) :: bytesLE w (n / 256)).reverse = _
      rw [List.reverse_cons]; rfl
    rw [h, natBE_append, natBE_bytesBE w (n / 256)]
    have h2 : natBE [UInt8.ofNat (n % 256)] = n % 256 := by simp [natBE]
    rw [h2, show ([UInt8.ofNat (n % 256)] : List UInt8).length = 1 from rfl, Nat.pow_one, Nat.pow_succ, Nat.mul_comm (256 ^ w) 256, Nat.mod_mul]
    omega
theorem before_nat : ∀ a b : List UInt8, a.length = b.length → bytesBefore a b = decide (natBE a < natBE b)
  | [], [], _ => by simp [bytesBefore, natBE]
  | [], _ :: _, h => by simp at h
  | _ :: _, [], h => by simp at h
  | x :: r, y :: s, h => by
    have hl : r.length = s.length := by simpa using h
    have ih := before_nat r s hl
    have h1 := natBE_lt r
    have h2 := natBE_lt s
    show (decide (x < y) || (x == y && bytesBefore r s)) = decide (x.toNat * 256 ^ r.length + natBE r < y.toNat * 256 ^ s.length + natBE s)
    rw [ih]
    rw [hl] at h1 ⊢
    by_cases hxy : x = y
    · subst hxy
      simp
    · have hne : x.toNat ≠ y.toNat := fun e => hxy (UInt8.toNat_inj.1 e)
      have hb : (x == y) = false := beq_false_of_ne hxy
      rw [hb, Bool.false_and, Bool.or_false, Bool.eq_iff_iff, decide_eq_true_iff, decide_eq_true_iff, UInt8.lt_iff_toNat_lt]
      constructor
      · intro hlt
        have h3 : (x.toNat + 1) * 256 ^ s.length ≤ y.toNat * 256 ^ s.length := Nat.mul_le_mul_right _ hlt
        rw [Nat.add_mul, Nat.one_mul] at h3
        omega
      · intro hlt
        rcases Nat.lt_or_gt_of_ne hne with h4 | h4
        · exact h4
        · have h3 : (y.toNat + 1) * 256 ^ s.length ≤ x.toNat * 256 ^ s.length := Nat.mul_le_mul_right _ h4
          rw [Nat.add_mul, Nat.one_mul] at h3
          omega
def idBytes (x : Idn) : List UInt8 := bytesBE 4 x.1 ++ bytesBE 8 (x.2 % 18446744073709551616).toNat
theorem idLit_eq {x : Idn} (h : IdOk x) : idLit x = .string (idBytes x) := by
  unfold idLit idBytes keyBytes
  have h1 : (((x.1 : Nat) : Int) % 4294967296).toNat = x.1 := by have := h.1; omega
  show Lit.string (bytesBE 4 (((x.1 : Nat) : Int) % 4294967296).toNat ++ (bytesBE 8 (x.2 % 18446744073709551616).toNat ++ [])) = _
  rw [h1, List.append_nil]
theorem idBytes_length (x : Idn) : (idBytes x).length = 12 := by unfold idBytes; rw [List.length_append, bytesBE_length, bytesBE_length]
theorem idBytes_nat {x : Idn} (h : IdOk x) : natBE (idBytes x) = x.1 * 18446744073709551616 + (x.2 % 18446744073709551616).toNat := by
  unfold idBytes
  have h1 := h.1
  rw [natBE_append, bytesBE_length, natBE_bytesBE, natBE_bytesBE, Nat.mod_eq_of_lt (show x.1 < 256 ^ 4 from h1), Nat.mod_eq_of_lt (show (x.2 % 18446744073709551616).toNat < 256 ^ 8 by show _ < 18446744073709551616; omega)]
theorem idBytes_inj {x y : Idn} (hx : IdOk x) (hy : IdOk y) (h : idBytes x = idBytes y) : x = y := by
  have h1 := idBytes_nat hx
  rw [h, idBytes_nat hy] at h1
  obtain ⟨a1, a2, a3⟩ := hx
  obtain ⟨b1, b2, b3⟩ := hy
  refine Prod.ext ?_ ?_
  · omega
  · omega
theorem idLit_same {x y : Idn} (hx : IdOk x) (hy : IdOk y) : (idLit x).sameKey (idLit y) = decide (x = y) := by
  rw [idLit_eq hx, idLit_eq hy]
  show (idBytes x == idBytes y) = _
  rw [Bool.eq_iff_iff, decide_eq_true_iff, beq_iff_eq]
  exact ⟨idBytes_inj hx hy, fun e => by rw [e]⟩
theorem idLit_before {x y : Idn} (hx : IdOk x) (hy : IdOk y) (x0 : 0 ≤ x.2) (y0 : 0 ≤ y.2) : (idLit x).before (idLit y) = lesser x y := by
  rw [idLit_eq hx, idLit_eq hy]
  show bytesBefore (idBytes x) (idBytes y) = _
  rw [before_nat _ _ (by rw [idBytes_length, idBytes_length]), idBytes_nat hx, idBytes_nat hy, Bool.eq_iff_iff, decide_eq_true_iff, lesser_true]
  obtain ⟨a1, a2, a3⟩ := hx
  obtain ⟨b1, b2, b3⟩ := hy
  omega
/-! ### what is held -/
/-- each piece is what its ID says: right, its uses in bounds -/
structure HldOk (n : Int) (h : Hld) : Prop where
  id : h.id = idOf h.text
  len : 1 ≤ h.text.length ∧ h.text.length ≤ 64
  uses : 0 ≤ h.uses ∧ h.uses ≤ n
structure BinOk (n : Int) (L : HldL) : Prop where
  srt : SrtB L
  all : ∀ h ∈ L, HldOk n h
theorem HldOk.idok {n : Int} {h : Hld} (hh : HldOk n h) : IdOk h.id := by
  rw [hh.id]; have := hh.len; exact ⟨prOf_lt _, by show (-9223372036854775808 : Int) ≤ ((h.text.length : Nat) : Int); omega, by show ((h.text.length : Nat) : Int) ≤ _; omega⟩
theorem HldOk.id0 {n : Int} {h : Hld} (hh : HldOk n h) : 0 ≤ h.id.2 := by rw [hh.id]; show (0 : Int) ≤ ((h.text.length : Nat) : Int); omega
theorem HldOk.mono {n m : Int} {h : Hld} (hh : HldOk n h) (hm : n ≤ m) : HldOk m h := ⟨hh.id, hh.len, hh.uses.1, by have := hh.uses.2; omega⟩
theorem BinOk.mono {n m : Int} {L : HldL} (h : BinOk n L) (hm : n ≤ m) : BinOk m L := ⟨h.srt, fun x hx => (h.all x hx).mono hm⟩
theorem BinOk.nil (n : Int) : BinOk n [] := ⟨List.Pairwise.nil, fun _ h => by cases h⟩
theorem lesser_ne {x y : Idn} (h : lesser x y = true) : x ≠ y := fun e => by subst e; rw [lesser_irrefl] at h; cases h
theorem lesser_trans {x y z : Idn} (h1 : lesser x y = true) (h2 : lesser y z = true) : lesser x z = true := by
  rw [lesser_true] at *; omega
theorem lesser_total {x y : Idn} (h : x ≠ y) : lesser x y = true ∨ lesser y x = true := by
  rw [lesser_true, lesser_true]
  by_cases h1 : x.1 = y.1
  · have : x.2 ≠ y.2 := fun e => h (Prod.ext h1 e)
    omega
  · omega
theorem getB_mem {L : HldL} {x : Idn} {h : Hld} (hg : getB L x = some h) : h ∈ L ∧ h.id = x :=
  ⟨List.mem_of_find?_eq_some hg, by have := List.find?_some hg; simpa using this⟩
theorem getB_none {L : HldL} {x : Idn} : getB L x = none ↔ ∀ h ∈ L, h.id ≠ x := by
  unfold getB; rw [List.find?_eq_none]; simp
theorem has_dataB {L : HldL} (hL : ∀ h ∈ L, IdOk h.id) {x : Idn} (hx : IdOk x) : Maps.has (dataB L) (idLit x) = (getB L x).isSome := by
  unfold dataB getB
  rw [Maps.has_eq]
  induction L with
  | nil => rfl
  | cons y r ih =>
    rw [List.map_cons, List.any_cons, ih (fun h hh => hL h (List.mem_cons_of_mem _ hh)), idLit_same (hL y List.mem_cons_self) hx, List.find?_cons]
    cases hd : decide (y.id = x) <;> simp
def hldZ : Hld := ⟨(0, 0), 0, []⟩
theorem atKey_dataB {L : HldL} (hL : ∀ h ∈ L, IdOk h.id) {x : Idn} (hx : IdOk x) : (dataB L).atKey (idLit x) (hldU hldZ) = hldU ((getB L x).getD hldZ) := by
  unfold dataB getB DataW.atKey
  induction L with
  | nil => rfl
  | cons y r ih =>
    have h1 := idLit_same (hL y List.mem_cons_self) hx
    have ih := ih (fun h hh => hL h (List.mem_cons_of_mem _ hh))
    simp only [List.map_cons, List.find?_cons, h1]
    cases hd : decide (y.id = x)
    · simpa using ih
    · simp
theorem size_dataB (L : HldL) : Maps.size (dataB L) = L.length := by simp [dataB, Maps.size]
theorem setB_mem {h : Hld} : ∀ {L : HldL} {x : Hld}, x ∈ setB h L → x = h ∨ x ∈ L
  | [], x, hx => by simp [setB] at hx; exact .inl hx
  | y :: r, x, hx => by
    unfold setB at hx
    split at hx
    · rcases List.mem_cons.1 hx with e | e
      · exact .inl e
      · exact .inr (List.mem_cons_of_mem _ e)
    · split at hx
      · rcases List.mem_cons.1 hx with e | e
        · exact .inl e
        · exact .inr e
      · rcases List.mem_cons.1 hx with e | e
        · exact .inr (e ▸ List.mem_cons_self)
        · rcases setB_mem e with e | e
          · exact .inl e
          · exact .inr (List.mem_cons_of_mem _ e)
theorem srtB_cons {y : Hld} {r : HldL} : SrtB (y :: r) ↔ (∀ x ∈ r, lesser y.id x.id = true) ∧ SrtB r := List.pairwise_cons
theorem srtB_set {L : HldL} (hs : SrtB L) (h : Hld) : SrtB (setB h L) := by
  induction L with
  | nil => exact List.pairwise_singleton _ _
  | cons y r ih =>
    obtain ⟨h1, h2⟩ := srtB_cons.1 hs
    unfold setB
    split
    · next e => exact srtB_cons.2 ⟨fun x hx => by rw [← e]; exact h1 x hx, h2⟩
    · next e =>
      split
      · next e2 =>
        refine srtB_cons.2 ⟨fun x hx => ?_, hs⟩
        rcases List.mem_cons.1 hx with rfl | hx
        · exact e2
        · exact lesser_trans e2 (h1 x hx)
      · next e2 =>
        refine srtB_cons.2 ⟨fun x hx => ?_, ih h2⟩
        rcases setB_mem hx with rfl | hx
        · rcases lesser_total e with h3 | h3
          · exact h3
          · exact absurd h3 e2
        · exact h1 x hx
theorem filterB_none {r : HldL} {x : Idn} (hr : ∀ h ∈ r, IdOk h.id) (hx : IdOk x) (h : ∀ y ∈ r, y.id ≠ x) : ((r.map fun h => (idLit h.id, hldU h)).filter fun p => !p.1.sameKey (idLit x)) = r.map fun h => (idLit h.id, hldU h) := by
  rw [List.filter_eq_self]
  intro p hp
  obtain ⟨y, hy, rfl⟩ := List.mem_map.1 hp
  simp [idLit_same (hr y hy) hx, h y hy]
theorem put_dataB {L : HldL} (hs : SrtB L) (hL : ∀ h ∈ L, IdOk h.id ∧ 0 ≤ h.id.2) (h : Hld) (hx : IdOk h.id ∧ 0 ≤ h.id.2) : (dataB L).put (idLit h.id) (hldU h) = dataB (setB h L) := by
  unfold dataB DataW.put
  simp only
  congr 1
  induction L with
  | nil => rfl
  | cons y r ih =>
    obtain ⟨h1, h2⟩ := srtB_cons.1 hs
    have hy := hL y List.mem_cons_self
    have hr : ∀ z ∈ r, IdOk z.id ∧ 0 ≤ z.id.2 := fun z hz => hL z (List.mem_cons_of_mem _ hz)
    unfold setB
    by_cases e : y.id = h.id
    · have hsk := idLit_same hy.1 hx.1
      rw [if_pos e, List.map_cons, List.filter_cons, if_neg (by rw [hsk]; simp [e]), filterB_none (fun z hz => (hr z hz).1) hx.1 (fun z hz => by rw [← e]; exact (lesser_ne (h1 z hz)).symm)]
      cases r with
      | nil => rfl
      | cons z q =>
        have hz := h1 z List.mem_cons_self
        have hz2 := hr z List.mem_cons_self
        have hb := idLit_before hx.1 hz2.1 hx.2 hz2.2
        rw [e] at hz
        rw [hz] at hb
        simp [DataW.insert, hb]
    · rw [if_neg e, List.map_cons, List.filter_cons, if_pos (by simp [idLit_same hy.1 hx.1, e])]
      by_cases hb : lesser h.id y.id = true
      · rw [if_pos hb, filterB_none (fun z hz => (hr z hz).1) hx.1 (fun z hz => (lesser_ne (lesser_trans hb (h1 z hz))).symm)]
        simp [DataW.insert, idLit_before hx.1 hy.1 hx.2 hy.2, hb]
      · rw [if_neg hb, List.map_cons, ← ih h2 hr]
        simp [DataW.insert, idLit_before hx.1 hy.1 hx.2 hy.2, hb]
theorem filter_dataB (p : Hld → Bool) (pd : Lit → DataW Unit → Bool) (L : HldL) (h : ∀ x ∈ L, pd (idLit x.id) (hldU x) = !p x) : Lib.deleteFuncD pd (dataB L) = dataB (L.filter p) := by
  unfold dataB Lib.deleteFuncD
  simp only
  congr 1
  induction L with
  | nil => rfl
  | cons y r ih =>
    rw [List.map_cons, List.filter_cons, List.filter_cons, ih (fun x hx => h x (List.mem_cons_of_mem _ hx)), h y List.mem_cons_self]
    cases p y <;> simp
theorem getB_set {L : HldL} (hs : SrtB L) (h : Hld) (x : Idn) : getB (setB h L) x = if h.id = x then some h else getB L x := by
  induction L with
  | nil => unfold setB getB; simp [List.find?_cons]; split <;> simp_all
  | cons y r ih =>
    obtain ⟨h1, h2⟩ := srtB_cons.1 hs
    unfold setB
    split
    · next e =>
      unfold getB
      rw [List.find?_cons, List.find?_cons]
      by_cases hx : h.id = x
      · simp [hx]
      · simp [hx, e]
    · next e =>
      split
      · unfold getB
        rw [List.find?_cons]
        by_cases hx : h.id = x <;> simp [hx]
      · have e2 : getB (y :: setB h r) x = if y.id = x then some y else getB (setB h r) x := by unfold getB; rw [List.find?_cons]; by_cases hy : y.id = x <;> simp [hy]
        have e3 : getB (y :: r) x = if y.id = x then some y else getB r x := by unfold getB; rw [List.find?_cons]; by_cases hy : y.id = x <;> simp [hy]
        rw [e2, e3, ih h2]
        by_cases hx : h.id = x
        · have hy : y.id ≠ x := fun e4 => e (e4.trans hx.symm)
          simp [hx, hy]
        · simp [hx]
theorem setB_length_new {h : Hld} : ∀ {L : HldL}, getB L h.id = none → (setB h L).length = L.length + 1
  | [], _ => rfl
  | y :: r, hg => by
    have hne := getB_none.1 hg
    unfold setB
    rw [if_neg (hne y List.mem_cons_self)]
    split
    · rfl
    · rw [List.length_cons, setB_length_new (getB_none.2 fun z hz => hne z (List.mem_cons_of_mem _ hz)), List.length_cons]
theorem setB_length_old {h : Hld} : ∀ {L : HldL} (_ : SrtB L) {o : Hld}, getB L h.id = some o → (setB h L).length = L.length
  | [], _, o, hg => by cases hg
  | y :: r, hs, o, hg => by
    obtain ⟨h1, h2⟩ := srtB_cons.1 hs
    unfold setB
    split
    · rfl
    · next e =>
      have hgr : getB r h.id = some o := by unfold getB at hg ⊢; rw [List.find?_cons] at hg; simpa [e] using hg
      have hm := getB_mem hgr
      split
      · next e2 =>
        have h3 := h1 o hm.1
        rw [hm.2] at h3
        have h4 := lesser_trans h3 e2
        rw [lesser_irrefl] at h4; cases h4
      · rw [List.length_cons, setB_length_old h2 hgr, List.length_cons]
theorem sizeB_cons (h : Hld) (L : HldL) : sizeB (h :: L) = h.id.2 + sizeB L := by unfold sizeB; rw [List.map_cons, List.sum_cons]
theorem sizeB_filter (p : Hld → Bool) : ∀ L : HldL, sizeB (L.filter p) + sizeB (L.filter fun h => !p h) = sizeB L
  | [] => rfl
  | y :: r => by
    have ih := sizeB_filter p r
    rw [List.filter_cons, List.filter_cons, sizeB_cons]
    cases p y
    · simp only [Bool.not_false, if_true, Bool.false_eq_true, if_false, sizeB_cons]; omega
    · simp only [Bool.not_true, if_true, Bool.false_eq_true, if_false, sizeB_cons]; omega
theorem sizeB_bound {L : HldL} (h : ∀ x ∈ L, 0 ≤ x.id.2 ∧ x.id.2 ≤ 64) : 0 ≤ sizeB L ∧ sizeB L ≤ 64 * L.length := by
  induction L with
  | nil => simp [sizeB]
  | cons y r ih =>
    have h1 := ih (fun x hx => h x (List.mem_cons_of_mem _ hx))
    have h2 := h y List.mem_cons_self
    rw [sizeB_cons, List.length_cons]; omega
/-! ### what a bin does -/
def rightB (s : Bytes) : Bool := decide (1 ≤ s.length) && decide (s.length ≤ 64)
/-- the new bin, the ID, whether it is new, an error's number -/
def putB (s : Bytes) (L : HldL) : HldL × Idn × Bool × Int :=
  if rightB s = false then (L, (0, 0), false, 2) else match getB L (idOf s) with
    | some h => if h.text ≠ s then (L, (0, 0), false, 10) else (setB ⟨idOf s, h.uses + 1, s⟩ L, idOf s, false, 0)
    | none => if 250 ≤ L.length then (L, (0, 0), false, 7) else (setB ⟨idOf s, 1, s⟩ L, idOf s, true, 0)
def dropB (x : Idn) (L : HldL) : HldL × Int := match getB L x with
  | none => (L, 5)
  | some h => if h.uses = 0 then (L, 11) else (setB ⟨h.id, h.uses - 1, h.text⟩ L, 0)
def usedB (h : Hld) : Bool := decide (h.uses ≠ 0)
def sweepB (L : HldL) : HldL := L.filter usedB
theorem rightB_iff {s : Bytes} : rightB s = true ↔ 1 ≤ s.length ∧ s.length ≤ 64 := by unfold rightB; simp
theorem binOk_set {n : Int} {L : HldL} (hL : BinOk n L) {h : Hld} (hh : HldOk n h) : BinOk n (setB h L) :=
  ⟨srtB_set hL.srt h, fun x hx => by
    rcases setB_mem hx with rfl | hx
    · exact hh
    · exact hL.all x hx⟩
theorem binOk_put {n : Int} (hn : 0 ≤ n) {L : HldL} (hL : BinOk n L) (s : Bytes) : BinOk (n + 1) (putB s L).1 := by
  have h0 := hL.mono (show n ≤ n + 1 by omega)
  unfold putB
  split
  · exact h0
  · next hr =>
    have hr' := rightB_iff.1 (by simpa using hr)
    split
    · next h hg =>
      split
      · exact h0
      · have hm := hL.all h (getB_mem hg).1
        exact binOk_set h0 ⟨rfl, hr', by have := hm.uses; show 0 ≤ h.uses + 1 ∧ h.uses + 1 ≤ n + 1; omega⟩
    · split
      · exact h0
      · exact binOk_set h0 ⟨rfl, hr', by show (0 : Int) ≤ 1 ∧ (1 : Int) ≤ n + 1; omega⟩
theorem binOk_drop {n : Int} {L : HldL} (hL : BinOk n L) (x : Idn) : BinOk n (dropB x L).1 := by
  unfold dropB
  split
  · exact hL
  · next h hg =>
    split
    · exact hL
    · next h0 =>
      have hm := hL.all h (getB_mem hg).1
      exact binOk_set hL ⟨hm.id, hm.len, by have := hm.uses; show 0 ≤ h.uses - 1 ∧ h.uses - 1 ≤ n; omega⟩
theorem binOk_filter {n : Int} {L : HldL} (hL : BinOk n L) (p : Hld → Bool) : BinOk n (L.filter p) :=
  ⟨hL.srt.filter _, fun x hx => hL.all x (List.mem_filter.1 hx).1⟩
theorem BinOk.idok {n : Int} {L : HldL} (h : BinOk n L) : ∀ x ∈ L, IdOk x.id := fun x hx => (h.all x hx).idok
theorem BinOk.idok0 {n : Int} {L : HldL} (h : BinOk n L) : ∀ x ∈ L, IdOk x.id ∧ 0 ≤ x.id.2 := fun x hx => ⟨(h.all x hx).idok, (h.all x hx).id0⟩
theorem BinOk.size {n : Int} {L : HldL} (h : BinOk n L) : 0 ≤ sizeB L ∧ sizeB L ≤ 64 * L.length :=
  sizeB_bound fun x hx => by
    have h1 := h.all x hx
    have h2 := h1.len
    rw [h1.id]
    show (0 : Int) ≤ ((x.text.length : Nat) : Int) ∧ ((x.text.length : Nat) : Int) ≤ 64
    omega
theorem length_put {s : Bytes} {L : HldL} (hs : SrtB L) (h : L.length ≤ 250) : (putB s L).1.length ≤ 250 := by
  unfold putB
  split
  · exact h
  · split
    · next hg =>
      split
      · exact h
      · rw [setB_length_old hs hg]; exact h
    · next hg =>
      split
      · exact h
      · rw [setB_length_new hg]; omega
theorem length_drop {x : Idn} {L : HldL} (hs : SrtB L) : (dropB x L).1.length = L.length := by
  unfold dropB
  split
  · rfl
  · next h hg =>
    split
    · rfl
    · have e := (getB_mem hg).2
      exact setB_length_old hs (h := ⟨h.id, h.uses - 1, h.text⟩) (by show getB L h.id = some h; rw [e]; exact hg)
end Go.Proofs.YtpanoplcamdnkaaGreatDoor
