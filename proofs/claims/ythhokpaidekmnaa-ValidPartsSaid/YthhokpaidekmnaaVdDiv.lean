/- Layer 15: math/bits: Div64, of divisors below 2^32. -/
import Derived.Test.YthhokpaidekmnaaVdBits
namespace Go.Proofs.Ythhokpaidekmnaa
open Go.RowKit Go.Lib
set_option linter.unusedVariables false
set_option linter.unusedSimpArgs false
/-- the long division by a divisor that stands in the upper half alone -/
theorem div_law {hi lo y z s : Nat} (hy : 0 < y) (hh : hi < y) (hl : lo < 18446744073709551616) (hs : 32 + z = s) (hs2 : s ≤ 64) (hY : y * 2 ^ s < 18446744073709551616) :
  let y1 := y * 2 ^ z
  let u := hi * 2 ^ s + lo / 2 ^ (64 - s)
  let t1 := lo * 2 ^ s % 18446744073709551616 / 4294967296
  let v := u % y1 * 4294967296 + t1
  y1 < 4294967296 ∧ 0 < y1 ∧ u < y1 * 4294967296 ∧ v < y1 * 4294967296 ∧ t1 < 4294967296 ∧ lo * 2 ^ s % 18446744073709551616 % 4294967296 = 0 ∧
  u / y1 * 4294967296 + v / y1 = (hi * 18446744073709551616 + lo) / y ∧ v % y1 * 4294967296 / 2 ^ s = (hi * 18446744073709551616 + lo) % y := by
 intro y1 u t1 v
 obtain ⟨Z, hZ⟩ : ∃ Z, 2 ^ z = Z := ⟨_, rfl⟩
 obtain ⟨R, hR⟩ : ∃ R, 2 ^ (64 - s) = R := ⟨_, rfl⟩
 have hZ0 : 0 < Z := hZ ▸ Nat.pos_of_ne_zero (by simp)
 have hR0 : 0 < R := hR ▸ Nat.pos_of_ne_zero (by simp)
 have hS : 2 ^ s = Z * 4294967296 := by rw [← hs, Nat.pow_add, hZ, Nat.mul_comm]
 have hSR : (Z * 4294967296) * R = 18446744073709551616 := by
  rw [← hS, ← hR, ← Nat.pow_add, show s + (64 - s) = 64 by omega]
 have hy1 : y1 = y * Z := by show y * 2 ^ z = _; rw [hZ]
 have hu : u = hi * (Z * 4294967296) + lo / R := by show hi * 2 ^ s + lo / 2 ^ (64 - s) = _; rw [hS, hR]
 have ht : t1 = lo * (Z * 4294967296) % 18446744073709551616 / 4294967296 := by show lo * 2 ^ s % _ / _ = _; rw [hS]
 have hv : v = u % y1 * 4294967296 + t1 := rfl
 clear_value y1 u t1 v
 rw [hS] at hY ⊢
 have hYY : y1 * 4294967296 = y * (Z * 4294967296) := by rw [hy1, Nat.mul_assoc]
 have h10 : 0 < y1 := by rw [hy1]; exact Nat.mul_pos hy hZ0
 have h11 : y1 < 4294967296 := by omega
 have hlq : lo / R < Z * 4294967296 := by
  apply Nat.div_lt_of_lt_mul
  rw [Nat.mul_comm]; omega
 have huy : u < y1 * 4294967296 := by
  rw [hYY, hu]
  have := Nat.mul_le_mul_right (Z * 4294967296) (show hi + 1 ≤ y from hh)
  rw [Nat.add_mul] at this
  omega
 -- lo * 2^s split
 have hm0 : lo * (Z * 4294967296) = (lo * Z) * 4294967296 := by rw [Nat.mul_assoc]
 have ht0 : lo * (Z * 4294967296) % 18446744073709551616 % 4294967296 = 0 := by rw [hm0]; omega
 have htt : lo * (Z * 4294967296) % 18446744073709551616 = t1 * 4294967296 := by rw [ht]; omega
 have hsplit : lo * (Z * 4294967296) = lo / R * 18446744073709551616 + t1 * 4294967296 := by
  have e1 : lo * (Z * 4294967296) / 18446744073709551616 = lo / R := by
   rw [← hSR, Nat.mul_comm (Z * 4294967296) R]
   exact Nat.mul_div_mul_right lo R (by omega)
  have := Nat.div_add_mod (lo * (Z * 4294967296)) 18446744073709551616
  rw [e1, htt] at this
  rw [← this, Nat.mul_comm 18446744073709551616]
 have ht1 : t1 < 4294967296 := by rw [ht]; omega
 have hrl : u % y1 < y1 := Nat.mod_lt _ h10
 have hvy : v < y1 * 4294967296 := by
  rw [hv]
  omega
 refine ⟨h11, h10, huy, hvy, ht1, ht0, ?_⟩
 have hrv : v % y1 < y1 := Nat.mod_lt _ h10
 have d1 := Nat.div_add_mod u y1
 have d2 := Nat.div_add_mod v y1
 obtain ⟨q1, hq1⟩ : ∃ q, u / y1 = q := ⟨_, rfl⟩
 obtain ⟨q0, hq0⟩ : ∃ q, v / y1 = q := ⟨_, rfl⟩
 obtain ⟨r1, hr1⟩ : ∃ q, u % y1 = q := ⟨_, rfl⟩
 obtain ⟨r0, hr0⟩ : ∃ q, v % y1 = q := ⟨_, rfl⟩
 rw [hq1, hr1] at d1
 rw [hq0, hr0] at d2
 rw [hr1] at hv
 rw [hq1, hq0, hr0]
 rw [hr0] at hrv
 -- N * S = Q * y * S + r0 * 2^32
 have key : (hi * 18446744073709551616 + lo) * (Z * 4294967296) = ((q1 * 4294967296 + q0) * y) * (Z * 4294967296) + r0 * 4294967296 := by
  have a1 : (hi * 18446744073709551616 + lo) * (Z * 4294967296) = (u * 4294967296 + t1) * 4294967296 := by
   rw [Nat.add_mul, hsplit, hu]
   have : hi * 18446744073709551616 * (Z * 4294967296) = hi * (Z * 4294967296) * 18446744073709551616 := by
    rw [Nat.mul_assoc, Nat.mul_comm 18446744073709551616, ← Nat.mul_assoc]
   omega
  have a2 : ((q1 * 4294967296 + q0) * y) * (Z * 4294967296) = (q1 * y1) * 18446744073709551616 + (q0 * y1) * 4294967296 := by
   rw [Nat.mul_assoc, ← hYY, Nat.add_mul]
   have b1 : q1 * 4294967296 * (y1 * 4294967296) = q1 * y1 * 18446744073709551616 := by
    rw [Nat.mul_assoc, Nat.mul_left_comm 4294967296 y1 4294967296, ← Nat.mul_assoc]
   have b2 : q0 * (y1 * 4294967296) = q0 * y1 * 4294967296 := by rw [Nat.mul_assoc]
   rw [b1, b2]
  rw [a1, a2]
  have c1 : y1 * q1 = q1 * y1 := Nat.mul_comm _ _
  have c0 : y1 * q0 = q0 * y1 := Nat.mul_comm _ _
  rw [c1] at d1
  rw [c0] at d2
  clear a1 a2 hsplit htt ht0 hm0 c1 c0 hlq hYY hSR hY hS ht hu hy1
  obtain ⟨p1, hp1⟩ : ∃ p, q1 * y1 = p := ⟨_, rfl⟩
  obtain ⟨p0, hp0⟩ : ∃ p, q0 * y1 = p := ⟨_, rfl⟩
  rw [hp1] at d1 ⊢
  rw [hp0] at d2 ⊢
  omega
 -- r0 * 2^32 is a multiple of S
 have hSS : 0 < Z * 4294967296 := by omega
 have hlt : r0 * 4294967296 < y * (Z * 4294967296) := by rw [← hYY]; omega
 obtain ⟨N, hN⟩ : ∃ N, hi * 18446744073709551616 + lo = N := ⟨_, rfl⟩
 obtain ⟨Q, hQ⟩ : ∃ Q, q1 * 4294967296 + q0 = Q := ⟨_, rfl⟩
 rw [hN, hQ] at key ⊢
 have hle : Q * y ≤ N := by
  apply Nat.le_of_mul_le_mul_right (c := Z * 4294967296) _ hSS
  omega
 have hrem : (N - Q * y) * (Z * 4294967296) = r0 * 4294967296 := by rw [Nat.sub_mul]; omega
 have hrlt : N - Q * y < y := by
  apply Nat.lt_of_mul_lt_mul_right (a := Z * 4294967296)
  omega
 have hdiv : N / y = Q := by
  rw [Nat.div_eq_iff hy]
  rw [Nat.mul_comm] at *
  constructor
  ·omega
  ·have : (Q + 1) * y = Q * y + y := by rw [Nat.add_mul, Nat.one_mul]
   omega
 refine ⟨hdiv.symm, ?_⟩
 rw [← hrem, Nat.mul_div_cancel _ hSS]
 have := Nat.div_add_mod N y
 rw [hdiv, Nat.mul_comm] at this
 omega
end Go.Proofs.Ythhokpaidekmnaa
