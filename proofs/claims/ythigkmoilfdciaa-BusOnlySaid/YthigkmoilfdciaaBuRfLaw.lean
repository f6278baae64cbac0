/- Layer 11: the plain law of the reference's turned: bit by bit. -/
import Derived.Test.YthigkmoilfdciaaBuLaw
namespace Go.Proofs.Ythigkmoilfdciaa
set_option linter.unusedVariables false
set_option linter.unusedSimpArgs false
namespace Bu
theorem tset_test (f turns p : Nat) : tset f turns 16 p = decide (f ≤ p ∧ p < f + 16 ∧ turns / 2 ^ (p - f) % 2 = 1) := by
  unfold tset
  rw [Nat.testBit_eq_decide_div_mod_eq]
  by_cases h : f ≤ p ∧ p < f + 16
  · rw [decide_eq_true h, Bool.true_and, decide_eq_decide]
    exact ⟨fun q => ⟨h.1, h.2, q⟩, fun q => q.2.2⟩
  · rw [decide_eq_false h, Bool.false_and]
    exact (decide_eq_false (fun q => h ⟨q.1, q.2.1⟩)).symm
/-- the byte behind k of its bits -/
def bitsTo (T : Nat → Bool) (i x k : Nat) : Nat := x ^^^ maskTo T i k
theorem bitsTo_zero (T : Nat → Bool) (i x : Nat) : bitsTo T i x 0 = x := by simp [bitsTo, maskTo]
theorem bitsTo_yes {T : Nat → Bool} {i x k : Nat} (h : T (8 * i + k) = true) : bitsTo T i x (k + 1) = bitsTo T i x k ^^^ 2 ^ k := by
  unfold bitsTo
  rw [maskTo, if_pos h, Nat.xor_assoc]
theorem bitsTo_no {T : Nat → Bool} {i x k : Nat} (h : T (8 * i + k) = false) : bitsTo T i x (k + 1) = bitsTo T i x k := by
  unfold bitsTo
  rw [maskTo, h]
  simp
theorem bitsTo_lt {T : Nat → Bool} {i x k : Nat} (hx : x < 256) (hk : k ≤ 8) : bitsTo T i x k < 256 := by
  unfold bitsTo
  have h1 : maskTo T i k < 2 ^ 8 := Nat.lt_of_lt_of_le (maskTo_lt' T i k) (Nat.pow_le_pow_right (by decide) hk)
  exact Nat.xor_lt_two_pow (n := 8) hx h1
theorem turn_take (T : Nat → Bool) (b : List Nat) (i x : Nat) (h : b[i]? = some x) : (turn T b).take (i + 1) = (turn T b).take i ++ [bitsTo T i x 8] := by
  rw [List.take_add_one]
  unfold turn bitsTo
  rw [List.getElem?_mapIdx, h]
  rfl
theorem half_step (turns j : Nat) : turns / 2 ^ j / 2 = turns / 2 ^ (j + 1) := by rw [Nat.div_div_eq_div_mul, Nat.pow_succ]
end Bu
end Go.Proofs.Ythigkmoilfdciaa
