/- Plain law of transaction numbers. -/
namespace Go.Proofs.Ytalaobpehkgilaa.Tx
/-- the greatest reserving so far -/
def most (m : Nat) (what tx : Nat) : Nat := if what = 1 ∧ m < tx then tx else m
def gr (l : List (Nat × Nat)) : Nat := l.foldl (fun m r => most m r.1 r.2) 0
theorem most_le (m what tx : Nat) : m ≤ most m what tx := by unfold most; split <;> omega
theorem gr_snoc (l : List (Nat × Nat)) (r : Nat × Nat) : gr (l ++ [r]) = most (gr l) r.1 r.2 := by simp [gr, List.foldl_append]
theorem gr_lt {l : List (Nat × Nat)} (h : ∀ r ∈ l, r.2 < 4294967296) : gr l < 4294967296 := by
  have key : ∀ (l : List (Nat × Nat)) (m : Nat), m < 4294967296 → (∀ r ∈ l, r.2 < 4294967296) → l.foldl (fun m r => most m r.1 r.2) m < 4294967296 := by
    intro l
    induction l with
    | nil => intro m hm _; exact hm
    | cons r l ih =>
      intro m hm h
      refine ih _ ?_ (fun q hq => h q (by simp [hq]))
      have := h r (by simp)
      show most m r.1 r.2 < 4294967296
      unfold most
      split <;> omega
  exact key l 0 (by decide) h
def top : Nat := 4294967295
/-- where the reserved numbers end as number i is wanted -/
def endAt (b i : Nat) : Nat := if i % 16 = 0 then b + i else min (b + 16 * (i / 16) + 16) 4294967295
theorem endAt_zero (b : Nat) : endAt b 0 = b := rfl
theorem endAt_here {b i : Nat} (h : i % 16 = 0) : endAt b i = b + i := by simp [endAt, h]
theorem endAt_in {b i : Nat} (h : i % 16 ≠ 0) (hb : b + i < 4294967295) : b + i < endAt b i ∧ endAt b i ≤ 4294967295 := by
  unfold endAt
  rw [if_neg h]
  omega
theorem endAt_next {b i : Nat} (hb : b + i < 4294967295) : endAt b (i + 1) = if i % 16 = 0 then min (b + i + 16) 4294967295 else endAt b i := by
  unfold endAt
  by_cases h : i % 16 = 0
  · rw [if_pos h, if_neg (by omega)]
    omega
  · rw [if_neg h, if_neg h]
    by_cases h' : (i + 1) % 16 = 0
    · rw [if_pos h']; omega
    · rw [if_neg h']; omega
end Go.Proofs.Ytalaobpehkgilaa.Tx
