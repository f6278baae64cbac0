/- Layer 15: math/bits: Div64. -/
import Derived.Test.YthhokpaidekmnaaVdDiv
import Derived.Test.YthhokpaidekmnaaVdCmp
import Derived.BigQuiet
namespace Go.Proofs.Ythhokpaidekmnaa
open Go.RowKit Go.Lib
set_option linter.unusedVariables false
set_option linter.unusedSimpArgs false
set_option maxHeartbeats 400000 in
theorem div64_lo (lo y : Nat) (w : World) (hy : 0 < y) (hy2 : y < 4294967296) (hl : lo < 18446744073709551616) :
  Calls Try.prog 55 #[.int .u64 0, .int .u64 (lo : Int), .int .u64 (y : Int)] w fun e w' => e = .returned (.tuple #[.int .u64 ((lo / y : Nat) : Int), .int .u64 ((lo % y : Nat) : Int)]) ∧ Below w.heap.size w w' := by
 obtain ⟨q, hq⟩ : ∃ q, lo / y = q := ⟨_, rfl⟩
 obtain ⟨r, hr⟩ : ∃ q, lo % y = q := ⟨_, rfl⟩
 have g1 : ((y : Int) == 0) = false := beq_eq_false_iff_ne.2 (by omega)
 have g2 : decide ((y : Int) ≤ 0) = false := decide_eq_false (by omega)
 have g3 : (y : Int) ≠ 0 := by omega
 have g4 : (lo : Int) / (y : Int) = (q : Int) := by rw [← hq]; simp
 have g5 : (lo : Int) % (y : Int) = (r : Int) := by rw [← hr]; simp
 have g7 : (lo : Int).tmod (y : Int) = (r : Int) := by rw [Int.tmod_eq_emod_of_nonneg (by omega)]; exact g5
 have g6 : (lo : Int).tdiv (y : Int) = (q : Int) := by rw [← hq]; simp
 have hq2 : q < 18446744073709551616 := by rw [← hq]; exact Nat.lt_of_le_of_lt (Nat.div_le_self _ _) hl
 have hr2 : r < 18446744073709551616 := by rw [← hr]; exact Nat.lt_of_le_of_lt (Nat.mod_le _ _) hl
 have w1 := Mul64.wrapN q hq2
 have w2 := Mul64.wrapN r hr2
 rw [hq, hr]
 clear hq hr
 go_enter Try.func55, Try.ntmps55
 go_upto_region 6 with fail
 go_quiet (fail)
 go_wp2
 go_ret2
 exact ⟨rfl, belo⟩
set_option maxHeartbeats 1000000 in
theorem div64_hi (hi lo y s : Nat) (w : World) (hs : Go.bitLen y + s = 64) (hy : 0 < y) (hy2 : y < 4294967296) (h0 : 0 < hi) (hh : hi < y) (hl : lo < 18446744073709551616) :
  Calls Try.prog 55 #[.int .u64 (hi : Int), .int .u64 (lo : Int), .int .u64 (y : Int)] w fun e w' => e = .returned (.tuple #[.int .u64 (((hi * 18446744073709551616 + lo) / y : Nat) : Int), .int .u64 (((hi * 18446744073709551616 + lo) % y : Nat) : Int)]) ∧ w = w' := by
 have g1 : ((y : Int) == 0) = false := beq_eq_false_iff_ne.2 (by omega)
 have g2 : decide (y ≤ hi) = false := decide_eq_false (by omega)
 have g3 : ((hi : Int) == 0) = false := beq_eq_false_iff_ne.2 (by omega)
 have K := Lib.hid (fun w => lz64_any y s w hy2 hs)
 have l0 : Go.bitLen y = y.log2 + 1 := by unfold Go.bitLen; rw [if_neg (by omega)]
 have l4 : y.log2 < 32 := (Nat.log2_lt (by omega)).2 hy2
 have l3 : y < 2 ^ (y.log2 + 1) := Nat.lt_log2_self
 rw [← l0] at l3
 have hs64 : s ≤ 63 := by omega
 obtain ⟨z, hz⟩ : ∃ z, 32 + z = s := ⟨s - 32, by omega⟩
 have hYlt : y * 2 ^ s < 18446744073709551616 := by
  have := Nat.mul_lt_mul_of_pos_right l3 (Nat.two_pow_pos s)
  rw [← Nat.pow_add, hs] at this
  exact this
 obtain ⟨b1, b2, b3, b4, b5, b6, b7, b8⟩ := div_law (lo := lo) (z := z) hy hh hl hz (by omega) hYlt
 clear l3 l4 l0 hs
 obtain ⟨S, hS⟩ : ∃ S, 2 ^ s = S := ⟨_, rfl⟩
 obtain ⟨B, hB⟩ : ∃ B, lo / 2 ^ (64 - s) = B := ⟨_, rfl⟩
 have hBS : B < 2 ^ s := by
  rw [← hB]
  apply Nat.div_lt_of_lt_mul
  rw [← Nat.pow_add, show 64 - s + s = 64 by omega]
  exact hl
 obtain ⟨Y, hY⟩ : ∃ Y, y * 2 ^ s = Y := ⟨_, rfl⟩
 obtain ⟨A, hA⟩ : ∃ A, hi * 2 ^ s = A := ⟨_, rfl⟩
 have hYe : Y = y * 2 ^ z * 4294967296 := by
  rw [← hY, ← hz, Nat.pow_add, Nat.mul_comm (2 ^ 32), ← Nat.mul_assoc]
 obtain ⟨y1, hy1⟩ : ∃ y1, y * 2 ^ z = y1 := ⟨_, rfl⟩
 have hor : A ||| B = A + B := by
  rw [← hA, Nat.mul_comm]
  exact (Nat.two_pow_add_eq_or_of_lt hBS hi).symm
 rw [hy1] at b1 b2 b3 b4 b7 b8 hYe
 rw [hB, hA] at b3 b4 b7 b8
 obtain ⟨u, hu⟩ : ∃ u, A + B = u := ⟨_, rfl⟩
 rw [hu] at b3 b4 b7 b8 hor
 obtain ⟨t, ht⟩ : ∃ t, lo * 2 ^ s % 18446744073709551616 = t := ⟨_, rfl⟩
 rw [ht] at b4 b5 b6 b7 b8
 obtain ⟨t1, ht1⟩ : ∃ t1, t / 4294967296 = t1 := ⟨_, rfl⟩
 rw [ht1] at b4 b5 b7 b8
 obtain ⟨q1, hq1⟩ : ∃ q1, u / y1 = q1 := ⟨_, rfl⟩
 obtain ⟨r1, hr1⟩ : ∃ r1, u % y1 = r1 := ⟨_, rfl⟩
 have d1 := Nat.div_add_mod u y1
 have d1b := Nat.mod_lt u b2
 rw [hq1, hr1] at d1
 rw [hr1] at d1b
 rw [hr1] at b4 b7 b8
 rw [hq1] at b7
 obtain ⟨v, hv⟩ : ∃ v, r1 * 4294967296 + t1 = v := ⟨_, rfl⟩
 rw [hv] at b4 b7 b8
 obtain ⟨q0, hq0⟩ : ∃ q0, v / y1 = q0 := ⟨_, rfl⟩
 obtain ⟨r0, hr0⟩ : ∃ r0, v % y1 = r0 := ⟨_, rfl⟩
 have d0 := Nat.div_add_mod v y1
 have d0b := Nat.mod_lt v b2
 rw [hq0, hr0] at d0
 rw [hr0] at d0b
 rw [hr0] at b8
 rw [hq0] at b7
 rw [← b7, ← b8, hS]
 obtain ⟨c1, hc1⟩ : ∃ c1, q1 * y1 = c1 := ⟨_, rfl⟩
 obtain ⟨c0, hc0⟩ : ∃ c0, q0 * y1 = c0 := ⟨_, rfl⟩
 rw [Nat.mul_comm, hc1] at d1
 rw [Nat.mul_comm, hc0] at d0
 have q1b : q1 < 4294967296 := by rw [← hq1]; exact Nat.div_lt_of_lt_mul b3
 have q0b : q0 < 4294967296 := by rw [← hq0]; exact Nat.div_lt_of_lt_mul b4
 have hAY : A < 18446744073709551616 := by omega
 have eD : q1 * Y = c1 * 4294967296 := by rw [hYe, ← Nat.mul_assoc, hc1]
 have eG : q0 * Y = c0 * 4294967296 := by rw [hYe, ← Nat.mul_assoc, hc0]
 -- the words of the walk
 have E1 : (y : Int) * 2 ^ s = (Y : Int) := by rw [← hY]; simp
 have W1 := Mul64.wrapN Y (by omega)
 have E2 : bits .and .u64 (Y : Int) 4294967295 = 0 := by rw [Mul64.maskN Y (by omega)]; omega
 have E3 : (hi : Int) * 2 ^ s = (A : Int) := by rw [← hA]; simp
 have W3 := Mul64.wrapN A hAY
 have E4 : (lo : Int) / 2 ^ (64 - s) = (B : Int) := by rw [← hB]; simp
 have E5 : bits .or .u64 (A : Int) (B : Int) = (u : Int) := by rw [bits_or_u64_nat A B hAY (by omega), hor]
 have E6 : IntKind.u64.wrap ((lo : Int) * 2 ^ s) = (t : Int) := by
  rw [show (lo : Int) * 2 ^ s = ((lo * 2 ^ s : Nat) : Int) by simp, Mul64.wrapM, ht]
 have tb : t < 18446744073709551616 := by rw [← ht]; exact Nat.mod_lt _ (by decide)
 have E7 : (t : Int) / 4294967296 = (t1 : Int) := by omega
 have E8 : bits .and .u64 (t : Int) 4294967295 = 0 := by rw [Mul64.maskN t tb]; omega
 have E9 : (Y : Int) / 4294967296 = (y1 : Int) := by omega
 have g4 : ((y1 : Int) == 0) = false := beq_eq_false_iff_ne.2 (by omega)
 have g5 : (y1 : Int) ≠ 0 := by omega
 have E10 : (u : Int) / (y1 : Int) = (q1 : Int) := by rw [← hq1]; simp
 have E10' : (u : Int).tdiv (y1 : Int) = (q1 : Int) := by rw [← hq1]; simp
 have E11 : (q1 : Int) * (y1 : Int) = (c1 : Int) := by rw [← hc1]; simp
 have W11 := Mul64.wrapN c1 (by omega)
 have E12 : (u : Int) - (c1 : Int) = (r1 : Int) := by omega
 have W12 := Mul64.wrapN r1 (by omega)
 have Wq1 := Mul64.wrapN q1 (by omega)
 have Wq0 := Mul64.wrapN q0 (by omega)
 have g6 : decide ((4294967296 : Int) ≤ (q1 : Int)) = false := decide_eq_false (by omega)
 obtain ⟨m1, hm1⟩ : ∃ m1, 4294967296 * r1 = m1 := ⟨_, rfl⟩
 have E13 : (4294967296 : Int) * (r1 : Int) = (m1 : Int) := by omega
 have W13 := Mul64.wrapN m1 (by omega)
 have E14 : (m1 : Int) + (t1 : Int) = (v : Int) := by omega
 have W14 := Mul64.wrapN v (by omega)
 have g7 : decide ((v : Int) < 0) = false := decide_eq_false (by omega)
 obtain ⟨U, hU⟩ : ∃ U, (u : Int) * 4294967296 = U := ⟨_, rfl⟩
 obtain ⟨U1, hU1⟩ : ∃ U1, IntKind.u64.wrap U = U1 := ⟨_, rfl⟩
 obtain ⟨U2, hU2⟩ : ∃ U2, U1 + (t1 : Int) = U2 := ⟨_, rfl⟩
 obtain ⟨U3, hU3⟩ : ∃ U3, IntKind.u64.wrap U2 = U3 := ⟨_, rfl⟩
 obtain ⟨D, hD⟩ : ∃ D, (q1 : Int) * (Y : Int) = D := ⟨_, rfl⟩
 obtain ⟨D1, hD1⟩ : ∃ D1, IntKind.u64.wrap D = D1 := ⟨_, rfl⟩
 obtain ⟨E, hE⟩ : ∃ E, U3 - D1 = E := ⟨_, rfl⟩
 have eD' : D = (c1 : Int) * 4294967296 := by rw [← hD, ← Int.natCast_mul, eD]; omega
 have E15 : IntKind.u64.wrap E = (v : Int) := by
  rw [IntKind.wrap_u64] at hU1 hU3 hD1 ⊢
  omega
 have E16 : (v : Int) / (y1 : Int) = (q0 : Int) := by rw [← hq0]; simp
 have E16' : (v : Int).tdiv (y1 : Int) = (q0 : Int) := by rw [← hq0]; simp
 have E17 : (q0 : Int) * (y1 : Int) = (c0 : Int) := by rw [← hc0]; simp
 have W17 := Mul64.wrapN c0 (by omega)
 have E18 : (v : Int) - (c0 : Int) = (r0 : Int) := by omega
 have W18 := Mul64.wrapN r0 (by omega)
 have g8 : decide ((4294967296 : Int) ≤ (q0 : Int)) = false := decide_eq_false (by omega)
 obtain ⟨m0, hm0⟩ : ∃ m0, 4294967296 * r0 = m0 := ⟨_, rfl⟩
 have E19 : (4294967296 : Int) * (r0 : Int) = (m0 : Int) := by omega
 have W19 := Mul64.wrapN m0 (by omega)
 have g9 : decide ((m0 : Int) < 0) = false := decide_eq_false (by omega)
 obtain ⟨f1, hf1⟩ : ∃ f1, q1 * 4294967296 = f1 := ⟨_, rfl⟩
 have E20 : (q1 : Int) * 4294967296 = (f1 : Int) := by omega
 have W20 := Mul64.wrapN f1 (by omega)
 obtain ⟨Q, hQ⟩ : ∃ Q, f1 + q0 = Q := ⟨_, rfl⟩
 have E21 : (f1 : Int) + (q0 : Int) = (Q : Int) := by omega
 have W21 := Mul64.wrapN Q (by omega)
 obtain ⟨V, hV⟩ : ∃ V, (v : Int) * 4294967296 = V := ⟨_, rfl⟩
 obtain ⟨V1, hV1⟩ : ∃ V1, IntKind.u64.wrap V = V1 := ⟨_, rfl⟩
 have hV2 : IntKind.u64.wrap V1 = V1 := by rw [IntKind.wrap_u64] at hV1 ⊢; omega
 obtain ⟨G, hG⟩ : ∃ G, (q0 : Int) * (Y : Int) = G := ⟨_, rfl⟩
 obtain ⟨G1, hG1⟩ : ∃ G1, IntKind.u64.wrap G = G1 := ⟨_, rfl⟩
 have eG' : G = (c0 : Int) * 4294967296 := by rw [← hG, ← Int.natCast_mul, eG]; omega
 obtain ⟨H, hH⟩ : ∃ H, V1 - G1 = H := ⟨_, rfl⟩
 obtain ⟨p0, hp0⟩ : ∃ p0, r0 * 4294967296 = p0 := ⟨_, rfl⟩
 have E22 : IntKind.u64.wrap H = (p0 : Int) := by
  rw [IntKind.wrap_u64] at hV1 hG1 ⊢
  omega
 obtain ⟨R, hR⟩ : ∃ R, p0 / S = R := ⟨_, rfl⟩
 have E23 : (p0 : Int) / 2 ^ s = (R : Int) := by rw [← hR, ← hS]; simp
 rw [hf1, hQ, hp0, hR]
 have E24 : (64 : Int) - (s : Int) = ((64 - s : Nat) : Int) := by omega
 clear hz hYlt b1 b2 b3 b4 b5 b6 b7 b8 hS hB hBS hY hA hYe hy1 hor hu ht ht1 hq1 hr1 d1 d1b hv hq0 hr0 d0 d0b hc1 hc0 q1b q0b hAY eD eG hm1 eD' hm0 hf1 hQ eG' hp0 hR tb
 clear E24
 go_enter Try.func55, Try.ntmps55
 go_wp2_with fail
 (with_reducible refine (K.out _).mono ?_)
 rintro e9 w9 ⟨rfl, rfl⟩
 go_wp2
 go_loopw [15, 16] (fun x i wr => x = .int .u64 (q1 : Int) ∧ i = .int .u64 (r1 : Int) ∧ wr = w) (fun _ _ _ => 0)
 case atStart => exact ⟨rfl, rfl, rfl⟩
 case round =>
  obtain ⟨rfl, rfl, rfl⟩ := hrel
  go_wp2
  go_loopw [18, 16] (fun x i wv => x = .int .u64 (q0 : Int) ∧ i = .int .u64 (r0 : Int) ∧ wv = wr) (fun _ _ _ => 0)
  case atStart => exact ⟨rfl, rfl, rfl⟩
  case round =>
   obtain ⟨rfl, rfl, rfl⟩ := hrel
   go_wp2
   go_ret2
   exact ⟨rfl, rfl⟩
end Go.Proofs.Ythhokpaidekmnaa
