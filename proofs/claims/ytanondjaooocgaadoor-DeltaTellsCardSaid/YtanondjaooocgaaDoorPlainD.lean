/- Plain words of package delta: a difference of two lists of pieces; what it comes to. No program in sight; no conditions. -/
import Derived.Test.YtanondjaooocgaaDoorPlainA
namespace Go.Proofs.YtanondjaooocgaaDoor

structure DOp where
  from_ : Int
  many : Int
  text : Bytes

/-- the first place of a piece -/
def fi (l : List Bytes) (p : Bytes) : Option Nat := l.findIdx? (fun x => decide (p = x))
theorem fi_some {l : List Bytes} {p : Bytes} {k : Nat} (hk : k < l.length) (he : p = l[k]) (hne : ∀ j (hj : j < k), p ≠ l[j]'(by omega)) : fi l p = some k := by
  unfold fi
  rw [List.findIdx?_eq_some_iff_getElem]
  exact ⟨hk, by simpa using he, fun j hj => by simpa using hne j hj⟩
theorem fi_none {l : List Bytes} {p : Bytes} (hne : ∀ j (hj : j < l.length), p ≠ l[j]) : fi l p = none := by
  unfold fi
  rw [List.findIdx?_eq_none_iff]
  intro x hx
  obtain ⟨j, hj, rfl⟩ := List.mem_iff_getElem.1 hx
  simpa using hne j hj
theorem fi_lt {l : List Bytes} {p : Bytes} {k : Nat} (h : fi l p = some k) : ∃ hk : k < l.length, p = l[k] := by
  unfold fi at h
  rw [List.findIdx?_eq_some_iff_getElem] at h
  obtain ⟨hk, he, _⟩ := h
  exact ⟨hk, by simpa using he⟩
theorem fi_mem {l : List Bytes} {p : Bytes} (h : p ∈ l) : ∃ k, fi l p = some k := by
  cases hf : fi l p with
  | some k => exact ⟨k, rfl⟩
  | none =>
    unfold fi at hf
    rw [List.findIdx?_eq_none_iff] at hf
    have := hf p h
    simp at this

/-- how many pieces are the same from the beginning on -/
def common : List Bytes → List Bytes → Nat
  | x :: xs, y :: ys => if x = y then common xs ys + 1 else 0
  | _, _ => 0
theorem common_take (a b : List Bytes) : a.take (common a b) = b.take (common a b) := by
  induction a generalizing b with
  | nil => cases b <;> simp [common]
  | cons x xs ih =>
    cases b with
    | nil => simp [common]
    | cons y ys =>
      unfold common
      split
      · rename_i h; subst h; simp [ih ys]
      · simp
theorem common_le (a b : List Bytes) : common a b ≤ a.length ∧ common a b ≤ b.length := by
  induction a generalizing b with
  | nil => cases b <;> simp [common]
  | cons x xs ih =>
    cases b with
    | nil => simp [common]
    | cons y ys =>
      have := ih ys
      unfold common
      split
      · simp; omega
      · simp
theorem common_step {a b : List Bytes} {i j : Nat} (hi : i < a.length) (hj : j < b.length) (h : a[i] = b[j]) : common (a.drop i) (b.drop j) = common (a.drop (i + 1)) (b.drop (j + 1)) + 1 := by
  rw [List.drop_eq_getElem_cons hi, List.drop_eq_getElem_cons hj, common, if_pos h]
theorem common_stop {a b : List Bytes} {i j : Nat} (hi : i < a.length) (hj : j < b.length) (h : a[i] ≠ b[j]) : common (a.drop i) (b.drop j) = 0 := by
  rw [List.drop_eq_getElem_cons hi, List.drop_eq_getElem_cons hj, common, if_neg h]
theorem common_out {a b : List Bytes} {i j : Nat} (h : a.length ≤ i ∨ b.length ≤ j) : common (a.drop i) (b.drop j) = 0 := by
  rcases h with h | h
  · rw [List.drop_eq_nil_of_le h]; cases b.drop j <;> rfl
  · rw [List.drop_eq_nil_of_le h]; cases a.drop i <;> rfl

/-- a text more: joined to the text told last, if one was told last -/
def addText (out : List DOp) (p : Bytes) : List DOp :=
  match out.getLast? with
  | some o => if o.many = 0 then out.dropLast ++ [{ o with text := o.text ++ p }] else out ++ [⟨0, 0, p⟩]
  | none => [⟨0, 0, p⟩]
/-- the difference -/
def mkD (hv : List Bytes) : Nat → List Bytes → List DOp → List DOp
  | 0, _, out => out
  | _ + 1, [], out => out
  | f + 1, p :: rest, out => match fi hv p with
    | none => mkD hv f rest (addText out p)
    | some k => mkD hv f (rest.drop (common (hv.drop (k + 1)) rest)) (out ++ [⟨k, (common (hv.drop (k + 1)) rest : Int) + 1, []⟩])
theorem mkD_nil (hv : List Bytes) (f : Nat) (out : List DOp) : mkD hv f [] out = out := by cases f <;> rfl

/-- what one is told -/
def opVal (hv : List Bytes) (o : DOp) : Bytes := if o.many = 0 then o.text else ((hv.drop o.from_.toNat).take o.many.toNat).flatten
def opsVal (hv : List Bytes) (l : List DOp) : Bytes := l.flatMap (opVal hv)
def opOk (hv : List Bytes) (o : DOp) : Prop :=
  (o.many = 0 ∧ o.text ≠ []) ∨ (0 < o.many ∧ o.text = [] ∧ 0 ≤ o.from_ ∧ o.from_ + o.many ≤ hv.length)
def opsSize (l : List DOp) : Nat := (l.map (·.text.length)).sum
theorem opsVal_append (hv : List Bytes) (a b : List DOp) : opsVal hv (a ++ b) = opsVal hv a ++ opsVal hv b := List.flatMap_append
theorem opsSize_append (a b : List DOp) : opsSize (a ++ b) = opsSize a + opsSize b := by simp [opsSize]

theorem last_split {out : List DOp} {o : DOp} (h : out.getLast? = some o) : out = out.dropLast ++ [o] := by
  rw [List.getLast?_eq_some_iff] at h
  obtain ⟨ys, rfl⟩ := h
  simp
theorem addText_val (hv : List Bytes) (out : List DOp) (p : Bytes) : opsVal hv (addText out p) = opsVal hv out ++ p := by
  unfold addText
  split
  · rename_i o h
    split
    · rename_i hm
      conv => rhs; rw [last_split h]
      rw [opsVal_append, opsVal_append]
      simp [opsVal, opVal, hm]
    · rw [opsVal_append]; simp [opsVal, opVal]
  · rename_i h
    rw [List.getLast?_eq_none_iff] at h
    subst h
    simp [opsVal, opVal]
theorem addText_ok (hv : List Bytes) (out : List DOp) (p : Bytes) (hp : p ≠ []) (h : ∀ o ∈ out, opOk hv o) : ∀ o ∈ addText out p, opOk hv o := by
  have hnew : opOk hv ⟨0, 0, p⟩ := .inl ⟨rfl, hp⟩
  unfold addText
  split
  · rename_i o hl
    split
    · rename_i hm
      intro q hq
      rcases List.mem_append.1 hq with hq | hq
      · exact h q (List.dropLast_subset _ hq)
      · rw [List.mem_singleton] at hq; subst hq
        exact .inl ⟨hm, by simp [hp]⟩
    · intro q hq
      rcases List.mem_append.1 hq with hq | hq
      · exact h q hq
      · rw [List.mem_singleton] at hq; subst hq; exact hnew
  · intro q hq
    rw [List.mem_singleton] at hq; subst hq; exact hnew
theorem addText_size (out : List DOp) (p : Bytes) : opsSize (addText out p) = opsSize out + p.length := by
  unfold addText
  split
  · rename_i o h
    split
    · conv => rhs; rw [last_split h]
      rw [opsSize_append, opsSize_append]
      simp [opsSize]; omega
    · rw [opsSize_append]; simp [opsSize]
  · rename_i h
    rw [List.getLast?_eq_none_iff] at h
    subst h
    simp [opsSize]

theorem run_val (hv : List Bytes) (p : Bytes) (rest : List Bytes) (k : Nat) (h : fi hv p = some k) :
    opVal hv ⟨k, (common (hv.drop (k + 1)) rest : Int) + 1, []⟩ ++ (rest.drop (common (hv.drop (k + 1)) rest)).flatten = p ++ rest.flatten := by
  obtain ⟨hk, he⟩ := fi_lt h
  unfold opVal
  rw [if_neg (by simp <;> omega)]
  simp only [Int.toNat_natCast]
  rw [show ((common (hv.drop (k + 1)) rest : Int) + 1).toNat = common (hv.drop (k + 1)) rest + 1 from by omega]
  rw [List.drop_eq_getElem_cons hk, List.take_succ_cons, List.flatten_cons, common_take, List.append_assoc, ← List.flatten_append, List.take_append_drop, he]

theorem mkD_val (hv : List Bytes) : ∀ (f : Nat) (rest : List Bytes) (out : List DOp), rest.length ≤ f → opsVal hv (mkD hv f rest out) = opsVal hv out ++ rest.flatten
  | 0, rest, out, h => by
    have : rest = [] := List.eq_nil_of_length_eq_zero (by omega)
    subst this; simp [mkD]
  | f + 1, [], out, _ => by simp [mkD]
  | f + 1, p :: rest, out, h => by
    unfold mkD
    split
    · rw [mkD_val hv f rest _ (by simpa using h), addText_val, List.flatten_cons, List.append_assoc]
    · rename_i k hf
      rw [mkD_val hv f _ _ (by rw [List.length_drop]; simp at h; omega), opsVal_append, List.append_assoc, List.flatten_cons, ← run_val hv p rest k hf]
      simp [opsVal]
theorem mkD_ok (hv : List Bytes) : ∀ (f : Nat) (rest : List Bytes) (out : List DOp), (∀ p ∈ rest, p ≠ []) → (∀ o ∈ out, opOk hv o) → ∀ o ∈ mkD hv f rest out, opOk hv o
  | 0, _, _, _, h => h
  | f + 1, [], out, _, h => h
  | f + 1, p :: rest, out, hp, h => by
    unfold mkD
    split
    · exact mkD_ok hv f rest _ (fun q hq => hp q (List.mem_cons_of_mem _ hq)) (addText_ok hv out p (hp p List.mem_cons_self) h)
    · rename_i k hf
      refine mkD_ok hv f _ _ (fun q hq => hp q (List.mem_cons_of_mem _ (List.mem_of_mem_drop hq))) ?_
      intro q hq
      rcases List.mem_append.1 hq with hq | hq
      · exact h q hq
      · rw [List.mem_singleton] at hq; subst hq
        obtain ⟨hk, _⟩ := fi_lt hf
        have := (common_le (hv.drop (k + 1)) rest).1
        rw [List.length_drop] at this
        exact .inr ⟨by simp <;> omega, rfl, by simp, by simp; omega⟩
theorem mkD_size (hv : List Bytes) : ∀ (f : Nat) (rest : List Bytes) (out : List DOp), opsSize (mkD hv f rest out) ≤ opsSize out + rest.flatten.length
  | 0, _, _ => by simp [mkD]
  | f + 1, [], out => by simp [mkD]
  | f + 1, p :: rest, out => by
    unfold mkD
    split
    · have := mkD_size hv f rest (addText out p)
      rw [addText_size] at this
      simp only [List.flatten_cons, List.length_append]; omega
    · rename_i k hf
      have := mkD_size hv f (rest.drop (common (hv.drop (k + 1)) rest)) (out ++ [⟨k, (common (hv.drop (k + 1)) rest : Int) + 1, []⟩])
      rw [opsSize_append] at this
      have h2 : (rest.drop (common (hv.drop (k + 1)) rest)).flatten.length ≤ rest.flatten.length := by
        conv => rhs; rw [← List.take_append_drop (common (hv.drop (k + 1)) rest) rest, List.flatten_append, List.length_append]
        omega
      have h3 : opsSize [⟨k, (common (hv.drop (k + 1)) rest : Int) + 1, []⟩] = 0 := rfl
      simp only [List.flatten_cons, List.length_append]; omega
theorem mkD_known (hv : List Bytes) : ∀ (f : Nat) (rest : List Bytes) (out : List DOp), (∀ p ∈ rest, p ∈ hv) → opsSize (mkD hv f rest out) = opsSize out
  | 0, _, _, _ => rfl
  | f + 1, [], out, _ => rfl
  | f + 1, p :: rest, out, h => by
    unfold mkD
    split
    · rename_i hf
      obtain ⟨k, hk⟩ := fi_mem (h p List.mem_cons_self)
      rw [hf] at hk; cases hk
    · rename_i k hf
      rw [mkD_known hv f _ _ (fun q hq => h q (List.mem_cons_of_mem _ (List.mem_of_mem_drop hq))), opsSize_append]
      simp [opsSize]
theorem mkD_length (hv : List Bytes) : ∀ (f : Nat) (rest : List Bytes) (out : List DOp), (mkD hv f rest out).length ≤ out.length + f
  | 0, _, _ => by simp [mkD]
  | f + 1, [], out => by simp [mkD]
  | f + 1, p :: rest, out => by
    have ha : (addText out p).length ≤ out.length + 1 := by
      unfold addText
      split
      · split
        · simp only [List.length_append, List.length_cons, List.length_nil, List.length_dropLast]; omega
        · simp
      · simp
    unfold mkD
    split
    · have := mkD_length hv f rest (addText out p); omega
    · rename_i k hf
      have := mkD_length hv f (rest.drop (common (hv.drop (k + 1)) rest)) (out ++ [⟨k, (common (hv.drop (k + 1)) rest : Int) + 1, []⟩])
      simp only [List.length_append, List.length_cons, List.length_nil] at this; omega

/-- how many bytes the first pieces have -/
def tot (P : List Bytes) (k : Nat) : Nat := ((P.take k).flatten).length
theorem tot_succ (P : List Bytes) (k : Nat) (h : k < P.length) : tot P (k + 1) = tot P k + P[k].length := by
  unfold tot
  rw [List.take_succ_eq_append_getElem h, List.flatten_append, List.length_append]; simp
theorem tot_le (P : List Bytes) (k : Nat) : tot P k ≤ P.flatten.length := by
  unfold tot
  conv => rhs; rw [← List.take_append_drop k P, List.flatten_append, List.length_append]
  omega
theorem tot_mono (P : List Bytes) (k n : Nat) : tot P k ≤ tot P (k + n) := by
  unfold tot
  rw [List.take_add, List.flatten_append, List.length_append]; omega
theorem last_size {out : List DOp} {o : DOp} (h : out.getLast? = some o) : o.text.length ≤ opsSize out := by
  conv => rhs; rw [last_split h]
  rw [opsSize_append]; simp [opsSize]
end Go.Proofs.YtanondjaooocgaaDoor
