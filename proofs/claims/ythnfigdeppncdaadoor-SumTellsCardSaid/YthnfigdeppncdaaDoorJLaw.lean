/- The plain law of joining: bytes behind others, and a check's own bytes behind them. -/
import Derived.Test.YthnfigdeppncdaaDoorZLaw
namespace Go.Proofs.YthnfigdeppncdaaDoor.Crc
theorem raw_zeros : ∀ (n s : Nat), raw s (List.replicate n 0) = shifts (8 * n) s
  | 0, s => rfl
  | n + 1, s => by
    rw [List.replicate_succ, show raw s (0 :: List.replicate n 0) = raw (add s 0) (List.replicate n 0) from rfl, raw_zeros n, show 8 * (n + 1) = 8 + 8 * n by omega, shifts_add]
    unfold add
    rw [Nat.xor_zero]
theorem zip_zeros : ∀ l : List Nat, List.zipWith (· ^^^ ·) (List.replicate l.length 0) l = l
  | [] => rfl
  | x :: l => by rw [List.length_cons, List.replicate_succ, List.zipWith_cons_cons, zip_zeros l, Nat.zero_xor]
theorem raw_join (s : Nat) (l : List Nat) : raw s l = zeros s (l.length : Int) ^^^ raw 0 l := by
  have h := raw_xor (List.replicate l.length 0) l s 0 (by simp)
  rw [zip_zeros, Nat.xor_zero, raw_zeros] at h
  rw [h]
  unfold zeros
  rw [Int.toNat_natCast]
theorem shift_twice (y : Nat) : shift (2 * y) = y := by
  unfold shift
  rw [if_neg (by omega)]
  omega
theorem shifts_pow : ∀ (k y : Nat), shifts k (2 ^ k * y) = y
  | 0, y => by simp [shifts]
  | k + 1, y => by
    rw [show shifts (k + 1) (2 ^ (k + 1) * y) = shifts k (shift (2 ^ (k + 1) * y)) from rfl, Nat.pow_succ, Nat.mul_comm (2 ^ k) 2, Nat.mul_assoc, shift_twice]
    exact shifts_pow k y
theorem split8 (x : Nat) : (x % 256) ^^^ (256 * (x / 256)) = x := by
  rw [show (256 : Nat) = 2 ^ 8 from rfl]
  apply Nat.eq_of_testBit_eq
  intro i
  rw [Nat.testBit_xor, Nat.testBit_mod_two_pow, Nat.testBit_two_pow_mul, Nat.testBit_div_two_pow]
  by_cases h : i < 8
  · simp [h, Nat.not_le.2 h]
  · simp [h, Nat.le_of_not_lt h]
/-- a number's lowest bytes, the lowest first -/
def low8 : Nat → Nat → List Nat
  | 0, _ => []
  | n + 1, x => x % 256 :: low8 n (x / 256)
theorem raw_low8 : ∀ (n x s : Nat), x < 256 ^ n → raw s (low8 n x) = shifts (8 * n) (s ^^^ x)
  | 0, x, s, h => by
    have hx : x = 0 := by simp at h; omega
    subst hx
    rw [Nat.xor_zero]
    rfl
  | n + 1, x, s, h => by
    have hx : x / 256 < 256 ^ n := by rw [Nat.pow_succ] at h; omega
    rw [show raw s (low8 (n + 1) x) = raw (add s (x % 256)) (low8 n (x / 256)) from rfl, raw_low8 n _ _ hx, show 8 * (n + 1) = 8 + 8 * n by omega, shifts_add]
    congr 1
    unfold add
    conv => lhs; rhs; rw [← shifts_pow 8 (x / 256)]
    rw [← shifts_xor, Nat.xor_assoc, show (2 : Nat) ^ 8 = 256 from rfl, split8]
theorem low8_byte : ∀ (n x : Nat), ∀ b ∈ low8 n x, b < 256
  | 0, _, b, h => by cases h
  | n + 1, x, b, h => by
    rcases List.mem_cons.1 h with rfl | h
    · omega
    · exact low8_byte n _ b h
theorem low8_four (x : Nat) : low8 4 x = [x % 256, x / 256 % 256, x / 65536 % 256, x / 16777216 % 256] := by
  simp only [low8, Nat.div_div_eq_div_mul]
theorem bytes_own {l : List Nat} (hl : ∀ b ∈ l, b < 256) : bytes (l ++ low8 4 (bytes l)) = bytes [0, 0, 0, 0] := by
  have hb := bytes_lt hl
  have hR := raw_lt l (s := 4294967295) (by decide) hl
  unfold bytes
  rw [raw_append]
  have h1 := raw_low8 4 (bytes l) (raw 4294967295 l) hb
  have h2 : raw 4294967295 l ^^^ bytes l = 4294967295 := by
    rw [bytes_eq hl, Nat.xor_comm 4294967295, ← Nat.xor_assoc, Nat.xor_self, Nat.zero_xor]
  rw [h2] at h1
  have h3 := raw_zeros 4 4294967295
  rw [show bytes l = 4294967295 - raw 4294967295 l from rfl] at h1
  rw [h1]
  rw [show List.replicate 4 0 = [0, 0, 0, 0] from rfl] at h3
  rw [h3]
end Go.Proofs.YthnfigdeppncdaaDoor.Crc
