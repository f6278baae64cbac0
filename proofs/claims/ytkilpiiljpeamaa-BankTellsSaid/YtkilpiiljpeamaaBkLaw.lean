/- Plain law of blocks: no program in sight. A block is its address and its words. -/
namespace Go.Proofs.Ytkilpiiljpeamaa.Bk
abbrev Pr := Int × List Nat
def fits (a : Int) (n : Nat) : Bool := decide (n ≤ 14 ∧ 0 ≤ a ∧ a < 64 ∧ a + (n : Int) ≤ 64)
theorem fits_iff {a : Int} {n : Nat} : fits a n = true ↔ n ≤ 14 ∧ 0 ≤ a ∧ a < 64 ∧ a + (n : Int) ≤ 64 := by simp [fits]
theorem fits_no {a : Int} {n : Nat} : fits a n = false ↔ ¬ (n ≤ 14 ∧ 0 ≤ a ∧ a < 64 ∧ a + (n : Int) ≤ 64) := by simp [fits]
abbrev pfits (p : Pr) : Bool := fits p.1 p.2.length
def fit (l : List Pr) : Bool := l.all fun p => fits p.1 p.2.length
theorem fit_iff {l : List Pr} : fit l = true ↔ ∀ p ∈ l, fits p.1 p.2.length = true := by simp [fit]
/-- does it say a word of address i? -/
def hits (p : Pr) (i : Nat) : Bool := decide (p.1 ≤ (i : Int) ∧ (i : Int) < p.1 + (p.2.length : Int))
theorem hits_iff {p : Pr} {i : Nat} : hits p i = true ↔ p.1 ≤ (i : Int) ∧ (i : Int) < p.1 + (p.2.length : Int) := by simp [hits]
def lastR : List Pr → Nat → Option Nat
  | [], _ => none
  | p :: l, i => if hits p i = true then some (p.2.getD ((i : Int) - p.1).toNat 0) else lastR l i
/-- the word that blocks say of an address at last -/
def last (l : List Pr) (i : Nat) : Option Nat := lastR l.reverse i
theorem last_nil (i : Nat) : last [] i = none := rfl
theorem last_snoc (l : List Pr) (p : Pr) (i : Nat) : last (l ++ [p]) i = if hits p i = true then some (p.2.getD ((i : Int) - p.1).toNat 0) else last l i := by
  simp [last, lastR]
theorem lastR_append (l m : List Pr) (i : Nat) : lastR (l ++ m) i = (lastR l i).or (lastR m i) := by
  induction l with
  | nil => rfl
  | cons p l ih =>
    simp only [List.cons_append, lastR]
    split
    · rfl
    · exact ih
theorem last_append (l m : List Pr) (i : Nat) : last (l ++ m) i = (last m i).or (last l i) := by
  simp [last, lastR_append]
theorem last_take_succ {l : List Pr} {k : Nat} {p : Pr} (h : l[k]? = some p) (i : Nat) : last (l.take (k + 1)) i = if hits p i = true then some (p.2.getD ((i : Int) - p.1).toNat 0) else last (l.take k) i := by
  rw [List.take_add_one, h, Option.toList, last_snoc]
/-- a bank overwritten by blocks -/
def over (bank : List Nat) (l : List Pr) : List Nat := (List.range bank.length).map fun i => (last l i).getD (bank.getD i 0)
theorem over_length (bank : List Nat) (l : List Pr) : (over bank l).length = bank.length := by simp [over]
theorem over_get (bank : List Nat) (l : List Pr) {i : Nat} (h : i < bank.length) : (over bank l)[i]? = some ((last l i).getD (bank.getD i 0)) := by
  simp [over, h]
theorem over_nil (bank : List Nat) : over bank [] = bank := by
  apply List.ext_getElem?
  intro i
  by_cases h : i < bank.length
  · rw [over_get _ _ h]; simp [last_nil, h]
  · rw [List.getElem?_eq_none (by rw [over_length]; omega), List.getElem?_eq_none (by omega)]
/-- the words of a block laid over a row -/
def put (L : List Nat) (p : Pr) : List Nat := L.take p.1.toNat ++ (p.2 ++ L.drop (p.1.toNat + p.2.length))
theorem put_length {L : List Nat} {p : Pr} (h : fits p.1 p.2.length = true) (hL : L.length = 64) : (put L p).length = 64 := by
  have := fits_iff.1 h
  simp [put]; omega
theorem put_get {L : List Nat} {p : Pr} (h : fits p.1 p.2.length = true) (hL : L.length = 64) {i : Nat} (hi : i < 64) :
    (put L p)[i]? = if hits p i = true then some (p.2.getD ((i : Int) - p.1).toNat 0) else L[i]? := by
  have hf := fits_iff.1 h
  obtain ⟨a, ws⟩ := p
  simp only at hf
  have ht : (L.take a.toNat).length = a.toNat := by rw [List.length_take]; omega
  unfold put
  simp only
  by_cases h1 : i < a.toNat
  · rw [List.getElem?_append_left (by omega), List.getElem?_take_of_lt h1, if_neg (by rw [hits_iff]; simp only; omega)]
  rw [List.getElem?_append_right (by omega), ht]
  by_cases h2 : i - a.toNat < ws.length
  · rw [List.getElem?_append_left h2, if_pos (by rw [hits_iff]; simp only; omega), List.getD_eq_getElem?_getD, show ((i : Int) - a).toNat = i - a.toNat by omega, List.getElem?_eq_getElem h2]
    rfl
  · rw [List.getElem?_append_right (by omega), if_neg (by rw [hits_iff]; simp only; omega), List.getElem?_drop]
    congr 1
    omega
theorem over_snoc {bank : List Nat} {l : List Pr} {p : Pr} (hb : bank.length = 64) (h : fits p.1 p.2.length = true) : over bank (l ++ [p]) = put (over bank l) p := by
  apply List.ext_getElem?
  intro i
  have ho := over_length bank l
  by_cases hi : i < 64
  · rw [over_get _ _ (by omega), put_get h (by omega) hi, over_get _ _ (by omega), last_snoc]
    split <;> rfl
  · rw [List.getElem?_eq_none (by rw [over_length]; omega), List.getElem?_eq_none (by rw [put_length h (by omega)]; omega)]
theorem over_take_succ {bank : List Nat} {l : List Pr} {k : Nat} {p : Pr} (hb : bank.length = 64) (hp : l[k]? = some p) (h : fits p.1 p.2.length = true) : over bank (l.take (k + 1)) = put (over bank (l.take k)) p := by
  rw [List.take_add_one, hp, Option.toList, over_snoc hb h]
theorem last_u16 {l : List Pr} (h : ∀ p ∈ l, ∀ x ∈ p.2, x < 65536) {i x : Nat} (hx : last l i = some x) : x < 65536 := by
  have key : ∀ (m : List Pr), (∀ p ∈ m, ∀ x ∈ p.2, x < 65536) → lastR m i = some x → x < 65536 := by
    intro m
    induction m with
    | nil => intro _ h; cases h
    | cons p m ih =>
      intro hm hx
      simp only [lastR] at hx
      split at hx
      · rw [Option.some.injEq, List.getD_eq_getElem?_getD] at hx
        subst hx
        cases hg : p.2[((i : Int) - p.1).toNat]? with
        | none => simp
        | some y => exact hm p (by simp) y (List.mem_of_getElem? hg)
      · exact ih (fun q hq => hm q (by simp [hq])) hx
  exact key l.reverse (fun p hp => h p (by simpa using hp)) hx
theorem getD_u16 {l : List Nat} (h : ∀ x ∈ l, x < 65536) (i : Nat) : l.getD i 0 < 65536 := by
  rw [List.getD_eq_getElem?_getD]
  cases hi : l[i]? with
  | none => simp
  | some x => exact h x (List.mem_of_getElem? hi)
theorem over_u16 {bank : List Nat} {l : List Pr} (hb : ∀ x ∈ bank, x < 65536) (h : ∀ p ∈ l, ∀ x ∈ p.2, x < 65536) : ∀ x ∈ over bank l, x < 65536 := by
  intro x hx
  simp only [over, List.mem_map, List.mem_range] at hx
  obtain ⟨i, hi, rfl⟩ := hx
  cases hl : last l i with
  | none => exact getD_u16 hb i
  | some y => exact last_u16 h hl
/-- the addresses that blocks have words for -/
def cells (l : List Pr) : List Nat := (List.range 64).filter fun i => (last l i).isSome
def cellsTo (l : List Pr) (k : Nat) : List Nat := (List.range k).filter fun i => (last l i).isSome
theorem cellsTo_succ (l : List Pr) (k : Nat) : cellsTo l (k + 1) = if (last l k).isSome = true then cellsTo l k ++ [k] else cellsTo l k := by
  unfold cellsTo
  rw [List.range_succ, List.filter_append]
  by_cases h : (last l k).isSome = true <;> simp [h]
theorem cellsTo_length (l : List Pr) (k : Nat) : (cellsTo l k).length ≤ k := by
  have := List.length_filter_le (fun i => (last l i).isSome) (List.range k)
  simpa [cellsTo] using this
theorem cellsTo_lt {l : List Pr} {k x : Nat} (h : x ∈ cellsTo l k) : x < k := by
  simp [cellsTo] at h
  exact h.1
/-- the words of a block itself, and others' -/
def same (l m : List Pr) : Bool := decide (l = m)
end Go.Proofs.Ytkilpiiljpeamaa.Bk
