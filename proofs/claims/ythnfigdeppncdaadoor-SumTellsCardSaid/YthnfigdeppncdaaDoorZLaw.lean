/- The plain law of noughts: the lowest bit, and shifts of powers of two. -/
import Derived.Test.YthnfigdeppncdaaDoorCrc
import Derived.Lib.TrailingZeros
namespace Go.Proofs.YthnfigdeppncdaaDoor.Crc
theorem and_even_odd (a b : Nat) : (2 * a) &&& (2 * b + 1) = 2 * (a &&& b) := by
  apply Nat.eq_of_testBit_eq
  intro i
  cases i with
  | zero => simp [Nat.testBit_zero]
  | succ i =>
    rw [Nat.testBit_and, Nat.testBit_succ, Nat.testBit_succ, Nat.testBit_succ, show 2 * a / 2 = a by omega, show (2 * b + 1) / 2 = b by omega, show 2 * (a &&& b) / 2 = a &&& b by omega, Nat.testBit_and]
theorem and_odd_even (a : Nat) : (2 * a + 1) &&& (2 * a) = 2 * a := by
  rw [Nat.and_comm, and_even_odd, Nat.and_self]
theorem xor_even (a b : Nat) : (2 * a) ^^^ (2 * b) = 2 * (a ^^^ b) := by
  apply Nat.eq_of_testBit_eq
  intro i
  cases i with
  | zero => simp [Nat.testBit_zero]
  | succ i =>
    rw [Nat.testBit_xor, Nat.testBit_succ, Nat.testBit_succ, Nat.testBit_succ, show 2 * a / 2 = a by omega, show 2 * b / 2 = b by omega, show 2 * (a ^^^ b) / 2 = a ^^^ b by omega, Nat.testBit_xor]
theorem xor_one_even (a : Nat) : (2 * a) ^^^ 1 = 2 * a + 1 := by
  apply Nat.eq_of_testBit_eq
  intro i
  cases i with
  | zero => simp [Nat.testBit_zero]
  | succ i =>
    rw [Nat.testBit_xor, Nat.testBit_succ, Nat.testBit_succ, Nat.testBit_succ, show 2 * a / 2 = a by omega, show (2 * a + 1) / 2 = a by omega, show 1 / 2 = 0 from rfl, Nat.zero_testBit]
    cases a.testBit i <;> rfl
theorem low_and : ∀ k m : Nat, (2 ^ k * (2 * m + 1)) &&& (2 ^ k * (2 * m + 1) - 1) = 2 ^ k * (2 * m)
  | 0, m => by simp only [Nat.pow_zero, Nat.one_mul, Nat.add_sub_cancel]; exact and_odd_even m
  | k + 1, m => by
    have hp : 0 < 2 ^ k * (2 * m + 1) := Nat.mul_pos (Nat.two_pow_pos k) (by omega)
    have ih := low_and k m
    have e1 : 2 ^ (k + 1) * (2 * m + 1) = 2 * (2 ^ k * (2 * m + 1)) := by rw [Nat.pow_succ, Nat.mul_comm (2 ^ k) 2, Nat.mul_assoc]
    have e2 : 2 ^ (k + 1) * (2 * m) = 2 * (2 ^ k * (2 * m)) := by rw [Nat.pow_succ, Nat.mul_comm (2 ^ k) 2, Nat.mul_assoc]
    rw [e1, e2]
    generalize 2 ^ k * (2 * m + 1) = y at *
    rw [show 2 * y - 1 = 2 * (y - 1) + 1 by omega, and_even_odd, ih]
theorem low_xor : ∀ k m : Nat, (2 ^ k * (2 * m)) ^^^ 2 ^ k = 2 ^ k * (2 * m + 1)
  | 0, m => by simp only [Nat.pow_zero, Nat.one_mul]; exact xor_one_even m
  | k + 1, m => by
    have ih := low_xor k m
    have e1 : 2 ^ (k + 1) * (2 * m + 1) = 2 * (2 ^ k * (2 * m + 1)) := by rw [Nat.pow_succ, Nat.mul_comm (2 ^ k) 2, Nat.mul_assoc]
    have e2 : 2 ^ (k + 1) * (2 * m) = 2 * (2 ^ k * (2 * m)) := by rw [Nat.pow_succ, Nat.mul_comm (2 ^ k) 2, Nat.mul_assoc]
    rw [e1, e2, show 2 ^ (k + 1) = 2 * 2 ^ k by rw [Nat.pow_succ, Nat.mul_comm], xor_even, ih]
theorem low {x : Nat} (h0 : x ≠ 0) (h : x < 4294967296) : Lib.ctz 32 x < 32 ∧ (x &&& (x - 1)) ^^^ 2 ^ Lib.ctz 32 x = x ∧ (x &&& (x - 1)) < x := by
  obtain ⟨m, hm, hk⟩ := Lib.ctzFrom_spec 32 x (by omega) h
  have e : Lib.ctz 32 x = Lib.ctzFrom 32 x := by simp [Lib.ctz, h0]
  rw [e]
  generalize Lib.ctzFrom 32 x = k at *
  have h1 := low_and k m
  have h2 := low_xor k m
  rw [← hm] at h1 h2
  have hp : 0 < 2 ^ k := Nat.two_pow_pos k
  refine ⟨hk, by rw [h1, h2], ?_⟩
  rw [h1, hm, Nat.mul_add]
  omega
theorem shift_two (j : Nat) : shift (2 ^ (j + 1)) = 2 ^ j := by
  unfold shift
  rw [Nat.pow_succ, if_neg (by omega)]
  omega
theorem shifts_top : ∀ i : Nat, i ≤ 31 → shifts i (2 ^ 31) = 2 ^ (31 - i)
  | 0, _ => rfl
  | i + 1, h => by
    rw [shifts_succ, shifts_top i (by omega), show 31 - i = (31 - (i + 1)) + 1 by omega, shift_two]
theorem shifts_comm (n m s : Nat) : shifts n (shifts m s) = shifts m (shifts n s) := by
  rw [← shifts_add, ← shifts_add, Nat.add_comm]
theorem top_at (n i : Nat) (h : i ≤ 31) : shifts (n + i) (2 ^ 31) = shifts n (2 ^ (31 - i)) := by
  rw [Nat.add_comm, shifts_add, shifts_top i h]
/-- how a sum takes in so many noughts -/
def zeros (s : Nat) (n : Int) : Nat := shifts (8 * n.toNat) s
theorem zeros_lt {s : Nat} (h : s < 4294967296) (n : Int) : zeros s n < 4294967296 := shifts_lt _ h
theorem shifts_half (p m x : Nat) : shifts (p * m) x = shifts (p * 2 * (m / 2)) (shifts (p * (m % 2)) x) := by
  rw [← shifts_add]
  congr 1
  rw [Nat.mul_assoc, ← Nat.mul_add]
  congr 1
  omega
end Go.Proofs.YthnfigdeppncdaaDoor.Crc
