/- Plain law of one bit that is set. -/
import Derived.Test.YtfdbajalhnenhaaBitLaw
namespace Go.Proofs.Ytfdbajalhnenhaa.Bt
def one (n k : Nat) : List Bool := (List.replicate n false).set k true
theorem one_length (n k : Nat) : (one n k).length = n := by simp [one]
theorem one_getD {n k : Nat} (hk : k < n) (j : Nat) : (one n k).getD j false = decide (j = k) := by
  unfold one
  rw [List.getD_eq_getElem?_getD, List.getElem?_set]
  by_cases h : k = j
  · subst h
    simp [hk]
  · rw [if_neg h, List.getElem?_replicate]
    by_cases hj : j < n
    · simp [hj, show ¬ j = k by omega]
    · simp [hj, show ¬ j = k by omega]
theorem one_byte {n k : Nat} (hk : k < n) (i : Nat) : byteOf (one n k) i = if i = k / 8 then 2 ^ (k % 8) else 0 := by
  have hp : 2 ^ (k % 8) < 256 := Nat.pow_lt_pow_right (a := 2) (n := 8) (by omega) (by omega)
  refine eq_of_test (byteOf_lt _ _) (by split <;> omega) fun j hj => ?_
  rw [byteOf_test, one_getD hk]
  by_cases h : i = k / 8
  · rw [if_pos h, Nat.testBit_two_pow]
    by_cases h2 : k % 8 = j
    · simp [h2, hj, show 8 * i + j = k by omega]
    · simp [h2, show ¬ 8 * i + j = k by omega]
  · rw [if_neg h]
    simp [show ¬ 8 * i + j = k by omega]
theorem last_lt (l : List Bool) : byteOf l (l.length / 8) < 2 ^ (l.length % 8) := by
  have := byteOf_fresh l l.length
  rwa [List.take_length] at this
/-- bytes of bits with one more set behind the last -/
def more (l : List Bool) (at_ : Nat) : List Nat := (packBits l).set (at_ / 8) (byteOf l (at_ / 8) ||| 2 ^ (at_ % 8))
theorem more_length (l : List Bool) (a : Nat) : (more l a).length = many l.length := by simp [more, packBits_length]
theorem more_byte (l : List Bool) (a : Nat) : ∀ x ∈ more l a, x < 256 := by
  intro x hx
  rcases List.mem_or_eq_of_mem_set hx with h | h
  · exact packBits_byte l x h
  · rw [h]
    exact Nat.or_lt_two_pow (n := 8) (byteOf_lt _ _) (Nat.pow_lt_pow_right (a := 2) (n := 8) (by omega) (by omega))
theorem more_last {l : List Bool} {a : Nat} (h1 : l.length ≤ a) (h2 : a < 8 * many l.length) : (more l a).getD ((more l a).length - 1) 0 = byteOf l (l.length / 8) ||| 2 ^ (a % 8) := by
  have hq : l.length / 8 = a / 8 := by unfold many at h2; omega
  have hlt : a / 8 < many l.length := by omega
  have hl : (more l a).length - 1 = a / 8 := by rw [more_length]; unfold many at *; omega
  rw [hl, List.getD_eq_getElem?_getD, hq]
  unfold more
  rw [List.getElem?_set, if_pos rfl, packBits_length, if_pos hlt]
  rfl
theorem more_no {l : List Bool} {a : Nat} (h1 : l.length ≤ a) (h2 : a < 8 * many l.length) : okB (more l a) l.length = false := by
  have hm : l.length % 8 ≠ 0 := by unfold many at h2; omega
  have hle : l.length % 8 ≤ a % 8 := by unfold many at h2; omega
  unfold okB
  rw [more_last h1 h2]
  have hd : ¬ (byteOf l (l.length / 8) ||| 2 ^ (a % 8)) / 2 ^ (l.length % 8) = 0 := by
    intro h
    rw [Nat.div_eq_zero_iff] at h
    rcases h with h | h
    · exact absurd h (Nat.ne_of_gt (Nat.two_pow_pos _))
    · have h3 : 2 ^ (a % 8) ≤ byteOf l (l.length / 8) ||| 2 ^ (a % 8) := Nat.right_le_or
      have h4 : 2 ^ (l.length % 8) ≤ 2 ^ (a % 8) := Nat.pow_le_pow_right (by omega) hle
      omega
  simp [hm, hd]
theorem more_yes {l : List Bool} {a : Nat} (h1 : l.length ≤ a) (h2 : a < 8 * many l.length) : okB (more l a) (a + 1) = true := by
  unfold okB
  rw [more_last h1 h2, more_length]
  have e1 : a + 1 ≤ 8 * many l.length := by omega
  have e2 : 8 * many l.length < a + 1 + 8 := by unfold many at *; omega
  simp only [e1, e2, decide_true, Bool.true_and, Bool.or_eq_true, decide_eq_true_eq]
  by_cases h7 : (a + 1) % 8 = 0
  · exact .inl h7
  · right
    rw [Nat.div_eq_zero_iff]
    right
    have h8 : (a + 1) % 8 = a % 8 + 1 := by omega
    have hle : l.length % 8 ≤ a % 8 := by unfold many at h2; omega
    rw [h8]
    refine Nat.or_lt_two_pow ?_ ?_
    · exact Nat.lt_of_lt_of_le (last_lt l) (Nat.pow_le_pow_right (by omega) (by omega))
    · rw [Nat.pow_succ]
      have := Nat.two_pow_pos (a % 8)
      omega
theorem snoc_no (b : List Nat) {n : Nat} (h : n ≤ 8 * b.length) : okB (b ++ [0]) n = false := by
  unfold okB
  have : ¬ 8 * (b ++ [0]).length < n + 8 := by simp; omega
  simp only [this, decide_false, Bool.and_false, Bool.false_and]
end Go.Proofs.Ytfdbajalhnenhaa.Bt
