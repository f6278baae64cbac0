/- Layer 15: units.Times. -/
import Derived.Test.YthhokpaidekmnaaVdDv
import Derived.Test.YthhokpaidekmnaaVdWorth
namespace Go.Proofs.Ythhokpaidekmnaa
open Go.RowKit Go.Lib
set_option linter.unusedVariables false
set_option linter.unusedSimpArgs false
attribute [local go_sem] Later.cell Later.frozen setCell_twice
theorem div64_any (N y : Nat) (w : World) (hy : 0 < y) (hy2 : y < 4294967296) (hN : N / 18446744073709551616 < y) :
  Calls Try.prog 55 #[.int .u64 ((N / 18446744073709551616 : Nat) : Int), .int .u64 ((N % 18446744073709551616 : Nat) : Int), .int .u64 (y : Int)] w fun e w' => e = .returned (.tuple #[.int .u64 ((N / y : Nat) : Int), .int .u64 ((N % y : Nat) : Int)]) ∧ Below w.heap.size w w' := by
 have hd := Nat.div_add_mod N 18446744073709551616
 obtain ⟨h, hh⟩ : ∃ h, N / 18446744073709551616 = h := ⟨_, rfl⟩
 obtain ⟨l, hl⟩ : ∃ h, N % 18446744073709551616 = h := ⟨_, rfl⟩
 have hlb : l < 18446744073709551616 := hl ▸ Nat.mod_lt _ (by decide)
 rw [hh, hl] at hd ⊢
 rw [hh] at hN
 obtain rfl : h * 18446744073709551616 + l = N := by omega
 rcases Nat.eq_zero_or_pos h with rfl | h0
 ·have := div64_lo l y w hy hy2 hlb
  simpa using this
 ·have l0 : Go.bitLen y = y.log2 + 1 := by unfold Go.bitLen; rw [if_neg (by omega)]
  have l4 : y.log2 < 32 := (Nat.log2_lt (by omega)).2 hy2
  exact (div64_hi h l y (64 - Go.bitLen y) w (by omega) hy hy2 h0 hN hlb).mono fun e w' ⟨he, hb⟩ => ⟨he, hb ▸ Below.refl _ _⟩
theorem strip_stop {q p : Nat} (h : p = 0 ∨ q % 10 ≠ 0) : Vd.strip q p = (q, p) := by
 cases p with
 | zero => rfl
 | succ p => rw [Vd.strip, if_neg (by omega)]
theorem strip_step {q p : Nat} (h : q % 10 = 0) : Vd.strip q (p + 1) = Vd.strip (q / 10) p := by rw [Vd.strip, if_pos h]
theorem strip_ge : ∀ (p q : Nat), q ≤ (Vd.strip q p).1 * 10 ^ p + 9 * 10 ^ p
 | 0, q => by simp [Vd.strip]
 | p + 1, q => by
  by_cases h : q % 10 = 0
  ·rw [strip_step h]
   have := strip_ge p (q / 10)
   rw [Nat.pow_succ]
   generalize (Vd.strip (q / 10) p).1 = a at *
   generalize 10 ^ p = b at *
   have e1 : a * (b * 10) = a * b * 10 := by rw [Nat.mul_assoc]
   omega
  ·rw [strip_stop (.inr h)]
   have : 1 ≤ 10 ^ (p + 1) := Nat.pos_of_ne_zero (by simp)
   have := Nat.le_mul_of_pos_right q this
   dsimp only
   omega
theorem ofQ_big (x : Dc) (q : Nat) (h : 18446744073709551616 ≤ q) : Vd.ofQ x q = none := by
 unfold Vd.ofQ
 have := strip_ge 6 q
 rw [if_pos (by simp only [show (10 : Nat) ^ 6 = 1000000 from rfl] at this; omega)]
set_option maxHeartbeats 8000000 in
theorem times_any (n : Int) (d num den : Nat) (w : World) (h1 : Dc.Fit ⟨n, d⟩) (hm : num < 9223372036854775808) (hd : den < 9223372036854775808) : Calls Try.prog 41 #[dcV n d, .int .i64 (num : Int), .int .i64 (den : Int)] w fun e w' => e = .returned (decV (Vd.times ⟨n, d⟩ num den)) ∧ Below w.heap.size w w' := by
 have k1 := fun w => rightD_any n d w h1.1 h1.2.1
 have hdd : d < 256 := h1.2.2
 unfold Vd.times dcV Vd.facOk
 cases hr : Vd.rightD ⟨n, d⟩
 ·rw [hr] at k1
  have K1 := Lib.hid k1
  rw [Bool.false_and, if_neg (show ¬ false = true by decide)]
  clear k1 hr h1 hdd
  go_enter Try.func41, Try.ntmps41
  go_wp2_with fail
  with_reducible refine (K1.out _).mono ?_
  rintro e_x1 w_x1 ⟨rfl, hb_x1⟩
  obtain ⟨x1, rfl⟩ := later_is hb_x1
  clear hb_x1
  have hz_x1 := x1.bel.size
  try simp at hz_x1
  have l_x1_0 : w.heap.size < x1.val.heap.size := by omega
  have m_x1_0 : w.heap.size < x1.val.heap.size + 1 := by omega
  have q_ := x1.cq (w.heap.size) 0
  generalize c_x1_0_0 : x1.val.cell? ⟨w.heap.size, 0, none⟩ = q at q_
  first | (have q2_ : q = some _ := q_; subst q2_) | (simp [go_sem] at q_; have q2_ : q = some _ := q_; subst q2_) | (simp [go_sem, *] at q_; have q2_ : q = some _ := q_; subst q2_)
  have q_ := x1.zq (w.heap.size) 0
  generalize z_x1_0_0 : x1.val.frozen? ⟨w.heap.size, 0, none⟩ = q at q_
  first | (have q2_ : q = false := q_; subst q2_) | (simp [go_sem] at q_; have q2_ : q = false := q_; subst q2_) | (simp [go_sem, *] at q_; have q2_ : q = false := q_; subst q2_)
  have q_ := x1.cq (w.heap.size) 1
  generalize c_x1_0_1 : x1.val.cell? ⟨w.heap.size, 1, none⟩ = q at q_
  first | (have q2_ : q = some _ := q_; subst q2_) | (simp [go_sem] at q_; have q2_ : q = some _ := q_; subst q2_) | (simp [go_sem, *] at q_; have q2_ : q = some _ := q_; subst q2_)
  have q_ := x1.zq (w.heap.size) 1
  generalize z_x1_0_1 : x1.val.frozen? ⟨w.heap.size, 1, none⟩ = q at q_
  first | (have q2_ : q = false := q_; subst q2_) | (simp [go_sem] at q_; have q2_ : q = false := q_; subst q2_) | (simp [go_sem, *] at q_; have q2_ : q = false := q_; subst q2_)
  have l_x1_1 : (w.heap.size+1) < x1.val.heap.size := by omega
  have m_x1_1 : (w.heap.size+1) < x1.val.heap.size + 1 := by omega
  have q_ := x1.cq ((w.heap.size+1)) 0
  generalize c_x1_1_0 : x1.val.cell? ⟨(w.heap.size+1), 0, none⟩ = q at q_
  first | (have q2_ : q = some _ := q_; subst q2_) | (simp [go_sem] at q_; have q2_ : q = some _ := q_; subst q2_) | (simp [go_sem, *] at q_; have q2_ : q = some _ := q_; subst q2_)
  have q_ := x1.zq ((w.heap.size+1)) 0
  generalize z_x1_1_0 : x1.val.frozen? ⟨(w.heap.size+1), 0, none⟩ = q at q_
  first | (have q2_ : q = false := q_; subst q2_) | (simp [go_sem] at q_; have q2_ : q = false := q_; subst q2_) | (simp [go_sem, *] at q_; have q2_ : q = false := q_; subst q2_)
  have q_ := x1.cq ((w.heap.size+1)) 1
  generalize c_x1_1_1 : x1.val.cell? ⟨(w.heap.size+1), 1, none⟩ = q at q_
  first | (have q2_ : q = some _ := q_; subst q2_) | (simp [go_sem] at q_; have q2_ : q = some _ := q_; subst q2_) | (simp [go_sem, *] at q_; have q2_ : q = some _ := q_; subst q2_)
  have q_ := x1.zq ((w.heap.size+1)) 1
  generalize z_x1_1_1 : x1.val.frozen? ⟨(w.heap.size+1), 1, none⟩ = q at q_
  first | (have q2_ : q = false := q_; subst q2_) | (simp [go_sem] at q_; have q2_ : q = false := q_; subst q2_) | (simp [go_sem, *] at q_; have q2_ : q = false := q_; subst q2_)
  go_wp2
  refine bodyPost_ret (v := .tuple #[dcV 0 0, .bool false]) (by simp [results, Try.results41, go_sem, *]) rfl ⟨rfl, belo⟩
 rw [hr] at k1
 have K1 := Lib.hid k1
 obtain ⟨a1, a2, a3, _⟩ := rightD_out hr
 clear k1 hr h1
 rw [Bool.true_and]
 by_cases c1 : num < 1
 ·rw [if_neg (show ¬ decide (1 ≤ num ∧ num ≤ 1000000000 ∧ 1 ≤ den ∧ den ≤ 1000000000) = true by rw [decide_eq_true_iff]; omega)]
  have g1 : decide ((num : Int) < 1) = true := decide_eq_true (by omega)
  clear c1
  go_enter Try.func41, Try.ntmps41
  go_wp2_with fail
  with_reducible refine (K1.out _).mono ?_
  rintro e_x1 w_x1 ⟨rfl, hb_x1⟩
  obtain ⟨x1, rfl⟩ := later_is hb_x1
  clear hb_x1
  have hz_x1 := x1.bel.size
  try simp at hz_x1
  have l_x1_0 : w.heap.size < x1.val.heap.size := by omega
  have m_x1_0 : w.heap.size < x1.val.heap.size + 1 := by omega
  have q_ := x1.cq (w.heap.size) 0
  generalize c_x1_0_0 : x1.val.cell? ⟨w.heap.size, 0, none⟩ = q at q_
  first | (have q2_ : q = some _ := q_; subst q2_) | (simp [go_sem] at q_; have q2_ : q = some _ := q_; subst q2_) | (simp [go_sem, *] at q_; have q2_ : q = some _ := q_; subst q2_)
  have q_ := x1.zq (w.heap.size) 0
  generalize z_x1_0_0 : x1.val.frozen? ⟨w.heap.size, 0, none⟩ = q at q_
  first | (have q2_ : q = false := q_; subst q2_) | (simp [go_sem] at q_; have q2_ : q = false := q_; subst q2_) | (simp [go_sem, *] at q_; have q2_ : q = false := q_; subst q2_)
  have q_ := x1.cq (w.heap.size) 1
  generalize c_x1_0_1 : x1.val.cell? ⟨w.heap.size, 1, none⟩ = q at q_
  first | (have q2_ : q = some _ := q_; subst q2_) | (simp [go_sem] at q_; have q2_ : q = some _ := q_; subst q2_) | (simp [go_sem, *] at q_; have q2_ : q = some _ := q_; subst q2_)
  have q_ := x1.zq (w.heap.size) 1
  generalize z_x1_0_1 : x1.val.frozen? ⟨w.heap.size, 1, none⟩ = q at q_
  first | (have q2_ : q = false := q_; subst q2_) | (simp [go_sem] at q_; have q2_ : q = false := q_; subst q2_) | (simp [go_sem, *] at q_; have q2_ : q = false := q_; subst q2_)
  have l_x1_1 : (w.heap.size+1) < x1.val.heap.size := by omega
  have m_x1_1 : (w.heap.size+1) < x1.val.heap.size + 1 := by omega
  have q_ := x1.cq ((w.heap.size+1)) 0
  generalize c_x1_1_0 : x1.val.cell? ⟨(w.heap.size+1), 0, none⟩ = q at q_
  first | (have q2_ : q = some _ := q_; subst q2_) | (simp [go_sem] at q_; have q2_ : q = some _ := q_; subst q2_) | (simp [go_sem, *] at q_; have q2_ : q = some _ := q_; subst q2_)
  have q_ := x1.zq ((w.heap.size+1)) 0
  generalize z_x1_1_0 : x1.val.frozen? ⟨(w.heap.size+1), 0, none⟩ = q at q_
  first | (have q2_ : q = false := q_; subst q2_) | (simp [go_sem] at q_; have q2_ : q = false := q_; subst q2_) | (simp [go_sem, *] at q_; have q2_ : q = false := q_; subst q2_)
  have q_ := x1.cq ((w.heap.size+1)) 1
  generalize c_x1_1_1 : x1.val.cell? ⟨(w.heap.size+1), 1, none⟩ = q at q_
  first | (have q2_ : q = some _ := q_; subst q2_) | (simp [go_sem] at q_; have q2_ : q = some _ := q_; subst q2_) | (simp [go_sem, *] at q_; have q2_ : q = some _ := q_; subst q2_)
  have q_ := x1.zq ((w.heap.size+1)) 1
  generalize z_x1_1_1 : x1.val.frozen? ⟨(w.heap.size+1), 1, none⟩ = q at q_
  first | (have q2_ : q = false := q_; subst q2_) | (simp [go_sem] at q_; have q2_ : q = false := q_; subst q2_) | (simp [go_sem, *] at q_; have q2_ : q = false := q_; subst q2_)
  go_wp2
  refine bodyPost_ret (v := .tuple #[dcV 0 0, .bool false]) (by simp [results, Try.results41, go_sem, *]) rfl ⟨rfl, belo⟩
 have g1 : decide ((num : Int) < 1) = false := decide_eq_false (by omega)
 by_cases c2 : 1000000000 < num
 ·rw [if_neg (show ¬ decide (1 ≤ num ∧ num ≤ 1000000000 ∧ 1 ≤ den ∧ den ≤ 1000000000) = true by rw [decide_eq_true_iff]; omega)]
  have g2 : decide ((1000000000 : Int) < (num : Int)) = true := decide_eq_true (by omega)
  clear c1 c2
  go_enter Try.func41, Try.ntmps41
  go_wp2_with fail
  with_reducible refine (K1.out _).mono ?_
  rintro e_x1 w_x1 ⟨rfl, hb_x1⟩
  obtain ⟨x1, rfl⟩ := later_is hb_x1
  clear hb_x1
  have hz_x1 := x1.bel.size
  try simp at hz_x1
  have l_x1_0 : w.heap.size < x1.val.heap.size := by omega
  have m_x1_0 : w.heap.size < x1.val.heap.size + 1 := by omega
  have q_ := x1.cq (w.heap.size) 0
  generalize c_x1_0_0 : x1.val.cell? ⟨w.heap.size, 0, none⟩ = q at q_
  first | (have q2_ : q = some _ := q_; subst q2_) | (simp [go_sem] at q_; have q2_ : q = some _ := q_; subst q2_) | (simp [go_sem, *] at q_; have q2_ : q = some _ := q_; subst q2_)
  have q_ := x1.zq (w.heap.size) 0
  generalize z_x1_0_0 : x1.val.frozen? ⟨w.heap.size, 0, none⟩ = q at q_
  first | (have q2_ : q = false := q_; subst q2_) | (simp [go_sem] at q_; have q2_ : q = false := q_; subst q2_) | (simp [go_sem, *] at q_; have q2_ : q = false := q_; subst q2_)
  have q_ := x1.cq (w.heap.size) 1
  generalize c_x1_0_1 : x1.val.cell? ⟨w.heap.size, 1, none⟩ = q at q_
  first | (have q2_ : q = some _ := q_; subst q2_) | (simp [go_sem] at q_; have q2_ : q = some _ := q_; subst q2_) | (simp [go_sem, *] at q_; have q2_ : q = some _ := q_; subst q2_)
  have q_ := x1.zq (w.heap.size) 1
  generalize z_x1_0_1 : x1.val.frozen? ⟨w.heap.size, 1, none⟩ = q at q_
  first | (have q2_ : q = false := q_; subst q2_) | (simp [go_sem] at q_; have q2_ : q = false := q_; subst q2_) | (simp [go_sem, *] at q_; have q2_ : q = false := q_; subst q2_)
  have l_x1_1 : (w.heap.size+1) < x1.val.heap.size := by omega
  have m_x1_1 : (w.heap.size+1) < x1.val.heap.size + 1 := by omega
  have q_ := x1.cq ((w.heap.size+1)) 0
  generalize c_x1_1_0 : x1.val.cell? ⟨(w.heap.size+1), 0, none⟩ = q at q_
  first | (have q2_ : q = some _ := q_; subst q2_) | (simp [go_sem] at q_; have q2_ : q = some _ := q_; subst q2_) | (simp [go_sem, *] at q_; have q2_ : q = some _ := q_; subst q2_)
  have q_ := x1.zq ((w.heap.size+1)) 0
  generalize z_x1_1_0 : x1.val.frozen? ⟨(w.heap.size+1), 0, none⟩ = q at q_
  first | (have q2_ : q = false := q_; subst q2_) | (simp [go_sem] at q_; have q2_ : q = false := q_; subst q2_) | (simp [go_sem, *] at q_; have q2_ : q = false := q_; subst q2_)
  have q_ := x1.cq ((w.heap.size+1)) 1
  generalize c_x1_1_1 : x1.val.cell? ⟨(w.heap.size+1), 1, none⟩ = q at q_
  first | (have q2_ : q = some _ := q_; subst q2_) | (simp [go_sem] at q_; have q2_ : q = some _ := q_; subst q2_) | (simp [go_sem, *] at q_; have q2_ : q = some _ := q_; subst q2_)
  have q_ := x1.zq ((w.heap.size+1)) 1
  generalize z_x1_1_1 : x1.val.frozen? ⟨(w.heap.size+1), 1, none⟩ = q at q_
  first | (have q2_ : q = false := q_; subst q2_) | (simp [go_sem] at q_; have q2_ : q = false := q_; subst q2_) | (simp [go_sem, *] at q_; have q2_ : q = false := q_; subst q2_)
  go_wp2
  refine bodyPost_ret (v := .tuple #[dcV 0 0, .bool false]) (by simp [results, Try.results41, go_sem, *]) rfl ⟨rfl, belo⟩
 have g2 : decide ((1000000000 : Int) < (num : Int)) = false := decide_eq_false (by omega)
 by_cases c3 : den < 1
 ·rw [if_neg (show ¬ decide (1 ≤ num ∧ num ≤ 1000000000 ∧ 1 ≤ den ∧ den ≤ 1000000000) = true by rw [decide_eq_true_iff]; omega)]
  have g3 : decide ((den : Int) < 1) = true := decide_eq_true (by omega)
  clear c1 c2 c3
  go_enter Try.func41, Try.ntmps41
  go_wp2_with fail
  with_reducible refine (K1.out _).mono ?_
  rintro e_x1 w_x1 ⟨rfl, hb_x1⟩
  obtain ⟨x1, rfl⟩ := later_is hb_x1
  clear hb_x1
  have hz_x1 := x1.bel.size
  try simp at hz_x1
  have l_x1_0 : w.heap.size < x1.val.heap.size := by omega
  have m_x1_0 : w.heap.size < x1.val.heap.size + 1 := by omega
  have q_ := x1.cq (w.heap.size) 0
  generalize c_x1_0_0 : x1.val.cell? ⟨w.heap.size, 0, none⟩ = q at q_
  first | (have q2_ : q = some _ := q_; subst q2_) | (simp [go_sem] at q_; have q2_ : q = some _ := q_; subst q2_) | (simp [go_sem, *] at q_; have q2_ : q = some _ := q_; subst q2_)
  have q_ := x1.zq (w.heap.size) 0
  generalize z_x1_0_0 : x1.val.frozen? ⟨w.heap.size, 0, none⟩ = q at q_
  first | (have q2_ : q = false := q_; subst q2_) | (simp [go_sem] at q_; have q2_ : q = false := q_; subst q2_) | (simp [go_sem, *] at q_; have q2_ : q = false := q_; subst q2_)
  have q_ := x1.cq (w.heap.size) 1
  generalize c_x1_0_1 : x1.val.cell? ⟨w.heap.size, 1, none⟩ = q at q_
  first | (have q2_ : q = some _ := q_; subst q2_) | (simp [go_sem] at q_; have q2_ : q = some _ := q_; subst q2_) | (simp [go_sem, *] at q_; have q2_ : q = some _ := q_; subst q2_)
  have q_ := x1.zq (w.heap.size) 1
  generalize z_x1_0_1 : x1.val.frozen? ⟨w.heap.size, 1, none⟩ = q at q_
  first | (have q2_ : q = false := q_; subst q2_) | (simp [go_sem] at q_; have q2_ : q = false := q_; subst q2_) | (simp [go_sem, *] at q_; have q2_ : q = false := q_; subst q2_)
  have l_x1_1 : (w.heap.size+1) < x1.val.heap.size := by omega
  have m_x1_1 : (w.heap.size+1) < x1.val.heap.size + 1 := by omega
  have q_ := x1.cq ((w.heap.size+1)) 0
  generalize c_x1_1_0 : x1.val.cell? ⟨(w.heap.size+1), 0, none⟩ = q at q_
  first | (have q2_ : q = some _ := q_; subst q2_) | (simp [go_sem] at q_; have q2_ : q = some _ := q_; subst q2_) | (simp [go_sem, *] at q_; have q2_ : q = some _ := q_; subst q2_)
  have q_ := x1.zq ((w.heap.size+1)) 0
  generalize z_x1_1_0 : x1.val.frozen? ⟨(w.heap.size+1), 0, none⟩ = q at q_
  first | (have q2_ : q = false := q_; subst q2_) | (simp [go_sem] at q_; have q2_ : q = false := q_; subst q2_) | (simp [go_sem, *] at q_; have q2_ : q = false := q_; subst q2_)
  have q_ := x1.cq ((w.heap.size+1)) 1
  generalize c_x1_1_1 : x1.val.cell? ⟨(w.heap.size+1), 1, none⟩ = q at q_
  first | (have q2_ : q = some _ := q_; subst q2_) | (simp [go_sem] at q_; have q2_ : q = some _ := q_; subst q2_) | (simp [go_sem, *] at q_; have q2_ : q = some _ := q_; subst q2_)
  have q_ := x1.zq ((w.heap.size+1)) 1
  generalize z_x1_1_1 : x1.val.frozen? ⟨(w.heap.size+1), 1, none⟩ = q at q_
  first | (have q2_ : q = false := q_; subst q2_) | (simp [go_sem] at q_; have q2_ : q = false := q_; subst q2_) | (simp [go_sem, *] at q_; have q2_ : q = false := q_; subst q2_)
  go_wp2
  refine bodyPost_ret (v := .tuple #[dcV 0 0, .bool false]) (by simp [results, Try.results41, go_sem, *]) rfl ⟨rfl, belo⟩
 have g3 : decide ((den : Int) < 1) = false := decide_eq_false (by omega)
 by_cases c4 : 1000000000 < den
 ·rw [if_neg (show ¬ decide (1 ≤ num ∧ num ≤ 1000000000 ∧ 1 ≤ den ∧ den ≤ 1000000000) = true by rw [decide_eq_true_iff]; omega)]
  have g4 : decide ((1000000000 : Int) < (den : Int)) = true := decide_eq_true (by omega)
  clear c1 c2 c3 c4
  go_enter Try.func41, Try.ntmps41
  go_wp2_with fail
  with_reducible refine (K1.out _).mono ?_
  rintro e_x1 w_x1 ⟨rfl, hb_x1⟩
  obtain ⟨x1, rfl⟩ := later_is hb_x1
  clear hb_x1
  have hz_x1 := x1.bel.size
  try simp at hz_x1
  have l_x1_0 : w.heap.size < x1.val.heap.size := by omega
  have m_x1_0 : w.heap.size < x1.val.heap.size + 1 := by omega
  have q_ := x1.cq (w.heap.size) 0
  generalize c_x1_0_0 : x1.val.cell? ⟨w.heap.size, 0, none⟩ = q at q_
  first | (have q2_ : q = some _ := q_; subst q2_) | (simp [go_sem] at q_; have q2_ : q = some _ := q_; subst q2_) | (simp [go_sem, *] at q_; have q2_ : q = some _ := q_; subst q2_)
  have q_ := x1.zq (w.heap.size) 0
  generalize z_x1_0_0 : x1.val.frozen? ⟨w.heap.size, 0, none⟩ = q at q_
  first | (have q2_ : q = false := q_; subst q2_) | (simp [go_sem] at q_; have q2_ : q = false := q_; subst q2_) | (simp [go_sem, *] at q_; have q2_ : q = false := q_; subst q2_)
  have q_ := x1.cq (w.heap.size) 1
  generalize c_x1_0_1 : x1.val.cell? ⟨w.heap.size, 1, none⟩ = q at q_
  first | (have q2_ : q = some _ := q_; subst q2_) | (simp [go_sem] at q_; have q2_ : q = some _ := q_; subst q2_) | (simp [go_sem, *] at q_; have q2_ : q = some _ := q_; subst q2_)
  have q_ := x1.zq (w.heap.size) 1
  generalize z_x1_0_1 : x1.val.frozen? ⟨w.heap.size, 1, none⟩ = q at q_
  first | (have q2_ : q = false := q_; subst q2_) | (simp [go_sem] at q_; have q2_ : q = false := q_; subst q2_) | (simp [go_sem, *] at q_; have q2_ : q = false := q_; subst q2_)
  have l_x1_1 : (w.heap.size+1) < x1.val.heap.size := by omega
  have m_x1_1 : (w.heap.size+1) < x1.val.heap.size + 1 := by omega
  have q_ := x1.cq ((w.heap.size+1)) 0
  generalize c_x1_1_0 : x1.val.cell? ⟨(w.heap.size+1), 0, none⟩ = q at q_
  first | (have q2_ : q = some _ := q_; subst q2_) | (simp [go_sem] at q_; have q2_ : q = some _ := q_; subst q2_) | (simp [go_sem, *] at q_; have q2_ : q = some _ := q_; subst q2_)
  have q_ := x1.zq ((w.heap.size+1)) 0
  generalize z_x1_1_0 : x1.val.frozen? ⟨(w.heap.size+1), 0, none⟩ = q at q_
  first | (have q2_ : q = false := q_; subst q2_) | (simp [go_sem] at q_; have q2_ : q = false := q_; subst q2_) | (simp [go_sem, *] at q_; have q2_ : q = false := q_; subst q2_)
  have q_ := x1.cq ((w.heap.size+1)) 1
  generalize c_x1_1_1 : x1.val.cell? ⟨(w.heap.size+1), 1, none⟩ = q at q_
  first | (have q2_ : q = some _ := q_; subst q2_) | (simp [go_sem] at q_; have q2_ : q = some _ := q_; subst q2_) | (simp [go_sem, *] at q_; have q2_ : q = some _ := q_; subst q2_)
  have q_ := x1.zq ((w.heap.size+1)) 1
  generalize z_x1_1_1 : x1.val.frozen? ⟨(w.heap.size+1), 1, none⟩ = q at q_
  first | (have q2_ : q = false := q_; subst q2_) | (simp [go_sem] at q_; have q2_ : q = false := q_; subst q2_) | (simp [go_sem, *] at q_; have q2_ : q = false := q_; subst q2_)
  go_wp2
  refine bodyPost_ret (v := .tuple #[dcV 0 0, .bool false]) (by simp [results, Try.results41, go_sem, *]) rfl ⟨rfl, belo⟩
 have g4 : decide ((1000000000 : Int) < (den : Int)) = false := decide_eq_false (by omega)
 rw [if_pos (show decide (1 ≤ num ∧ num ≤ 1000000000 ∧ 1 ≤ den ∧ den ≤ 1000000000) = true by rw [decide_eq_true_iff]; omega)]
 obtain ⟨e1, he1⟩ : ∃ e, 6 - d = e := ⟨_, rfl⟩
 obtain ⟨p1, hp1⟩ : ∃ p, 10 ^ e1 = p := ⟨_, rfl⟩
 have q1 := pow10_le (k := e1) (by omega)
 rw [hp1] at q1
 have P1 := Lib.hid (fun w => power_any e1 p1 w (by omega) hp1)
 obtain ⟨nn, hnn⟩ : ∃ nn, n.natAbs = nn := ⟨_, rfl⟩
 obtain ⟨m, hm1⟩ : ∃ m, nn * p1 = m := ⟨_, rfl⟩
 have hmb : m ≤ 1000000000000000000 := by
  rw [← hm1]
  exact Nat.le_trans (Nat.mul_le_mul (show nn ≤ 1000000000000 by omega) q1.2) (by decide)
 have em : (Vd.mil ⟨n, d⟩).natAbs = m := by
  unfold Vd.mil; dsimp only; rw [he1, Int.natAbs_mul, hnn, ← hm1, ← hp1, Int.natAbs_pow]; rfl
 rw [em]
 obtain ⟨N, hN⟩ : ∃ N, m * num = N := ⟨_, rfl⟩
 rw [hN]
 have M := Lib.hid (fun w => mul64_any m num (by omega) (by omega) w)
 rw [hN] at M
 have i1 : (6 : Int) - (d : Int) = (e1 : Int) := by omega
 have j1 : IntKind.i64.wrap (e1 : Int) = (e1 : Int) := IntWalk.i64_in _ (by omega)
 have s1 : IntKind.i64.wrap (d : Int) = (d : Int) := IntWalk.i64_in _ (by omega)
 have t1 : (nn : Int) * (p1 : Int) = (m : Int) := by rw [← hm1]; simp
 have t2 : IntKind.i64.wrap (m : Int) = (m : Int) := IntWalk.i64_in _ (by omega)
 have t3 : IntKind.u64.wrap (m : Int) = (m : Int) := Mul64.wrapN m (by omega)
 have t4 : IntKind.u64.wrap (num : Int) = (num : Int) := Mul64.wrapN num (by omega)
 have t5 : IntKind.u64.wrap (den : Int) = (den : Int) := Mul64.wrapN den (by omega)
 have hsg : (n < 0 → n = -(nn : Int)) ∧ (¬ n < 0 → n = (nn : Int)) := by omega
 have hnb : nn ≤ 1000000000000 := by omega
 have DV := Lib.hid (fun w (hh : N / 18446744073709551616 < den) => div64_any N den w (by omega) (by omega) hh)
 obtain ⟨hi, hhi⟩ : ∃ h, N / 18446744073709551616 = h := ⟨_, rfl⟩
 obtain ⟨lo, hlo⟩ : ∃ h, N % 18446744073709551616 = h := ⟨_, rfl⟩
 rw [hhi, hlo] at M DV
 have hbig : den ≤ hi → Vd.ofQ ⟨n, d⟩ (N / den) = none := fun h => ofQ_big _ _ (by
  rw [Nat.le_div_iff_mul_le (by omega)]
  omega)
 have hHL : hi < den → N / den < 18446744073709551616 := fun h => Nat.div_lt_of_lt_mul (by
  have : (hi + 1) * 18446744073709551616 ≤ den * 18446744073709551616 := Nat.mul_le_mul_right _ h
  have := Nat.div_add_mod N 18446744073709551616
  have := Nat.mod_lt N (show 0 < 18446744073709551616 by decide)
  omega)
 obtain ⟨q, hq⟩ : ∃ q, N / den = q := ⟨_, rfl⟩
 obtain ⟨r, hr⟩ : ∃ q, N % den = q := ⟨_, rfl⟩
 rw [hq] at hbig hHL ⊢
 rw [hr]
 rw [hq, hr] at DV
 clear hq hr hhi hlo hN em hm1 hp1 he1 hnn q1 a1 a2 c1 c2 c3 c4
 have HS := Lib.hid hsg
 have HB := Lib.hid hbig
 have HL := Lib.hid hHL
 clear hsg hbig hHL
 by_cases hneg : n < 0
 ·have s0 : decide (n < 0) = true := decide_eq_true hneg
  have hn1 := HS.out.1 hneg
  have s2 : -n = (nn : Int) := by omega
  have s3 : IntKind.i64.wrap (nn : Int) = (nn : Int) := IntWalk.i64_in _ (by omega)
  clear hn1
  replace HS := Lib.hid (show ∀ a : Nat, (if n < 0 then -(a : Int) else (a : Int)) = -(a : Int) from fun a => if_pos hneg)
  clear hneg
  by_cases c5 : den ≤ hi
  ·have g5 : decide (den ≤ hi) = true := decide_eq_true c5
   have e5 : (if r = 0 then Vd.ofQ ⟨n, d⟩ q else none) = none := by
    split
    ·exact HB.out c5
    ·rfl
   rw [e5]
   clear e5 c5
   go_enter Try.func41, Try.ntmps41
   go_wp2_with fail
   with_reducible refine (K1.out _).mono ?_
   rintro e_x1 w_x1 ⟨rfl, hb_x1⟩
   obtain ⟨x1, rfl⟩ := later_is hb_x1
   clear hb_x1
   have hz_x1 := x1.bel.size
   try simp at hz_x1
   have l_x1_0 : w.heap.size < x1.val.heap.size := by omega
   have m_x1_0 : w.heap.size < x1.val.heap.size + 1 := by omega
   have q_ := x1.cq (w.heap.size) 0
   generalize c_x1_0_0 : x1.val.cell? ⟨w.heap.size, 0, none⟩ = q at q_
   first | (have q2_ : q = some _ := q_; subst q2_) | (simp [go_sem] at q_; have q2_ : q = some _ := q_; subst q2_) | (simp [go_sem, *] at q_; have q2_ : q = some _ := q_; subst q2_)
   have q_ := x1.zq (w.heap.size) 0
   generalize z_x1_0_0 : x1.val.frozen? ⟨w.heap.size, 0, none⟩ = q at q_
   first | (have q2_ : q = false := q_; subst q2_) | (simp [go_sem] at q_; have q2_ : q = false := q_; subst q2_) | (simp [go_sem, *] at q_; have q2_ : q = false := q_; subst q2_)
   have q_ := x1.cq (w.heap.size) 1
   generalize c_x1_0_1 : x1.val.cell? ⟨w.heap.size, 1, none⟩ = q at q_
   first | (have q2_ : q = some _ := q_; subst q2_) | (simp [go_sem] at q_; have q2_ : q = some _ := q_; subst q2_) | (simp [go_sem, *] at q_; have q2_ : q = some _ := q_; subst q2_)
   have q_ := x1.zq (w.heap.size) 1
   generalize z_x1_0_1 : x1.val.frozen? ⟨w.heap.size, 1, none⟩ = q at q_
   first | (have q2_ : q = false := q_; subst q2_) | (simp [go_sem] at q_; have q2_ : q = false := q_; subst q2_) | (simp [go_sem, *] at q_; have q2_ : q = false := q_; subst q2_)
   have l_x1_1 : (w.heap.size+1) < x1.val.heap.size := by omega
   have m_x1_1 : (w.heap.size+1) < x1.val.heap.size + 1 := by omega
   have q_ := x1.cq ((w.heap.size+1)) 0
   generalize c_x1_1_0 : x1.val.cell? ⟨(w.heap.size+1), 0, none⟩ = q at q_
   first | (have q2_ : q = some _ := q_; subst q2_) | (simp [go_sem] at q_; have q2_ : q = some _ := q_; subst q2_) | (simp [go_sem, *] at q_; have q2_ : q = some _ := q_; subst q2_)
   have q_ := x1.zq ((w.heap.size+1)) 0
   generalize z_x1_1_0 : x1.val.frozen? ⟨(w.heap.size+1), 0, none⟩ = q at q_
   first | (have q2_ : q = false := q_; subst q2_) | (simp [go_sem] at q_; have q2_ : q = false := q_; subst q2_) | (simp [go_sem, *] at q_; have q2_ : q = false := q_; subst q2_)
   have q_ := x1.cq ((w.heap.size+1)) 1
   generalize c_x1_1_1 : x1.val.cell? ⟨(w.heap.size+1), 1, none⟩ = q at q_
   first | (have q2_ : q = some _ := q_; subst q2_) | (simp [go_sem] at q_; have q2_ : q = some _ := q_; subst q2_) | (simp [go_sem, *] at q_; have q2_ : q = some _ := q_; subst q2_)
   have q_ := x1.zq ((w.heap.size+1)) 1
   generalize z_x1_1_1 : x1.val.frozen? ⟨(w.heap.size+1), 1, none⟩ = q at q_
   first | (have q2_ : q = false := q_; subst q2_) | (simp [go_sem] at q_; have q2_ : q = false := q_; subst q2_) | (simp [go_sem, *] at q_; have q2_ : q = false := q_; subst q2_)
   go_wp2_with fail
   with_reducible refine (P1.out _).mono ?_
   rintro e_ w_ ⟨rfl, rfl⟩
   go_wp2_with fail
   with_reducible refine (M.out _).mono ?_
   rintro e_ w_ ⟨rfl, rfl⟩
   go_wp2
   refine bodyPost_ret (v := .tuple #[dcV 0 0, .bool false]) (by simp [results, Try.results41, go_sem, *]) rfl ⟨rfl, belo⟩
  have g5 : decide (den ≤ hi) = false := decide_eq_false c5
  replace DV := Lib.hid (fun w => DV.out w (by omega))
  have hqb := HL.out (by omega)
  clear c5 HB HL
  by_cases c6 : r = 0
  rotate_left
  ·rw [if_neg c6]
   have g6 : ((r : Int) != 0) = true := by simp [c6]
   clear c6
   go_enter Try.func41, Try.ntmps41
   go_wp2_with fail
   with_reducible refine (K1.out _).mono ?_
   rintro e_x1 w_x1 ⟨rfl, hb_x1⟩
   obtain ⟨x1, rfl⟩ := later_is hb_x1
   clear hb_x1
   have hz_x1 := x1.bel.size
   try simp at hz_x1
   have l_x1_0 : w.heap.size < x1.val.heap.size := by omega
   have m_x1_0 : w.heap.size < x1.val.heap.size + 1 := by omega
   have q_ := x1.cq (w.heap.size) 0
   generalize c_x1_0_0 : x1.val.cell? ⟨w.heap.size, 0, none⟩ = q at q_
   first | (have q2_ : q = some _ := q_; subst q2_) | (simp [go_sem] at q_; have q2_ : q = some _ := q_; subst q2_) | (simp [go_sem, *] at q_; have q2_ : q = some _ := q_; subst q2_)
   have q_ := x1.zq (w.heap.size) 0
   generalize z_x1_0_0 : x1.val.frozen? ⟨w.heap.size, 0, none⟩ = q at q_
   first | (have q2_ : q = false := q_; subst q2_) | (simp [go_sem] at q_; have q2_ : q = false := q_; subst q2_) | (simp [go_sem, *] at q_; have q2_ : q = false := q_; subst q2_)
   have q_ := x1.cq (w.heap.size) 1
   generalize c_x1_0_1 : x1.val.cell? ⟨w.heap.size, 1, none⟩ = q at q_
   first | (have q2_ : q = some _ := q_; subst q2_) | (simp [go_sem] at q_; have q2_ : q = some _ := q_; subst q2_) | (simp [go_sem, *] at q_; have q2_ : q = some _ := q_; subst q2_)
   have q_ := x1.zq (w.heap.size) 1
   generalize z_x1_0_1 : x1.val.frozen? ⟨w.heap.size, 1, none⟩ = q at q_
   first | (have q2_ : q = false := q_; subst q2_) | (simp [go_sem] at q_; have q2_ : q = false := q_; subst q2_) | (simp [go_sem, *] at q_; have q2_ : q = false := q_; subst q2_)
   have l_x1_1 : (w.heap.size+1) < x1.val.heap.size := by omega
   have m_x1_1 : (w.heap.size+1) < x1.val.heap.size + 1 := by omega
   have q_ := x1.cq ((w.heap.size+1)) 0
   generalize c_x1_1_0 : x1.val.cell? ⟨(w.heap.size+1), 0, none⟩ = q at q_
   first | (have q2_ : q = some _ := q_; subst q2_) | (simp [go_sem] at q_; have q2_ : q = some _ := q_; subst q2_) | (simp [go_sem, *] at q_; have q2_ : q = some _ := q_; subst q2_)
   have q_ := x1.zq ((w.heap.size+1)) 0
   generalize z_x1_1_0 : x1.val.frozen? ⟨(w.heap.size+1), 0, none⟩ = q at q_
   first | (have q2_ : q = false := q_; subst q2_) | (simp [go_sem] at q_; have q2_ : q = false := q_; subst q2_) | (simp [go_sem, *] at q_; have q2_ : q = false := q_; subst q2_)
   have q_ := x1.cq ((w.heap.size+1)) 1
   generalize c_x1_1_1 : x1.val.cell? ⟨(w.heap.size+1), 1, none⟩ = q at q_
   first | (have q2_ : q = some _ := q_; subst q2_) | (simp [go_sem] at q_; have q2_ : q = some _ := q_; subst q2_) | (simp [go_sem, *] at q_; have q2_ : q = some _ := q_; subst q2_)
   have q_ := x1.zq ((w.heap.size+1)) 1
   generalize z_x1_1_1 : x1.val.frozen? ⟨(w.heap.size+1), 1, none⟩ = q at q_
   first | (have q2_ : q = false := q_; subst q2_) | (simp [go_sem] at q_; have q2_ : q = false := q_; subst q2_) | (simp [go_sem, *] at q_; have q2_ : q = false := q_; subst q2_)
   go_wp2_with fail
   with_reducible refine (P1.out _).mono ?_
   rintro e_ w_ ⟨rfl, rfl⟩
   go_wp2_with fail
   with_reducible refine (M.out _).mono ?_
   rintro e_ w_ ⟨rfl, rfl⟩
   go_wp2_with fail
   with_reducible refine (DV.out _).mono ?_
   rintro e_x2 w_x2 ⟨rfl, hb_x2⟩
   obtain ⟨x2, rfl⟩ := later_is hb_x2
   clear hb_x2
   have hz_x2 := x2.bel.size
   try simp at hz_x2
   replace c_x1_0_0 := x2.carry c_x1_0_0
   replace c_x1_0_1 := x2.carry c_x1_0_1
   replace c_x1_1_0 := x2.carry c_x1_1_0
   replace c_x1_1_1 := x2.carry c_x1_1_1
   have lc_x2_0 : w.heap.size < x2.val.heap.size := by omega
   have mc_x2_0 : w.heap.size < x2.val.heap.size + 1 := by omega
   have lc_x2_1 : (w.heap.size+1) < x2.val.heap.size := by omega
   have mc_x2_1 : (w.heap.size+1) < x2.val.heap.size + 1 := by omega
   go_wp2
   refine bodyPost_ret (v := .tuple #[dcV 0 0, .bool false]) (by simp [results, Try.results41, go_sem, *]) rfl ⟨rfl, belo⟩
  rw [if_pos c6]
  have g6 : ((r : Int) != 0) = false := by simp [c6]
  clear c6
  obtain ⟨z, hz⟩ : ∃ z, Vd.strip q 6 = z := ⟨_, rfl⟩
  obtain ⟨rv, hrv⟩ : ∃ rv, decV (Vd.ofQ ⟨n, d⟩ q) = rv := ⟨_, rfl⟩
  rw [hrv]
  unfold Vd.ofQ at hrv
  rw [hz] at hrv
  have HV := Lib.hid hrv
  have HZ := Lib.hid hz
  clear hz hrv
  go_enter Try.func41, Try.ntmps41
  go_wp2_with fail
  with_reducible refine (K1.out _).mono ?_
  rintro e_x1 w_x1 ⟨rfl, hb_x1⟩
  obtain ⟨x1, rfl⟩ := later_is hb_x1
  clear hb_x1
  have hz_x1 := x1.bel.size
  try simp at hz_x1
  have l_x1_0 : w.heap.size < x1.val.heap.size := by omega
  have m_x1_0 : w.heap.size < x1.val.heap.size + 1 := by omega
  have q_ := x1.cq (w.heap.size) 0
  generalize c_x1_0_0 : x1.val.cell? ⟨w.heap.size, 0, none⟩ = q at q_
  first | (have q2_ : q = some _ := q_; subst q2_) | (simp [go_sem] at q_; have q2_ : q = some _ := q_; subst q2_) | (simp [go_sem, *] at q_; have q2_ : q = some _ := q_; subst q2_)
  have q_ := x1.zq (w.heap.size) 0
  generalize z_x1_0_0 : x1.val.frozen? ⟨w.heap.size, 0, none⟩ = q at q_
  first | (have q2_ : q = false := q_; subst q2_) | (simp [go_sem] at q_; have q2_ : q = false := q_; subst q2_) | (simp [go_sem, *] at q_; have q2_ : q = false := q_; subst q2_)
  have q_ := x1.cq (w.heap.size) 1
  generalize c_x1_0_1 : x1.val.cell? ⟨w.heap.size, 1, none⟩ = q at q_
  first | (have q2_ : q = some _ := q_; subst q2_) | (simp [go_sem] at q_; have q2_ : q = some _ := q_; subst q2_) | (simp [go_sem, *] at q_; have q2_ : q = some _ := q_; subst q2_)
  have q_ := x1.zq (w.heap.size) 1
  generalize z_x1_0_1 : x1.val.frozen? ⟨w.heap.size, 1, none⟩ = q at q_
  first | (have q2_ : q = false := q_; subst q2_) | (simp [go_sem] at q_; have q2_ : q = false := q_; subst q2_) | (simp [go_sem, *] at q_; have q2_ : q = false := q_; subst q2_)
  have l_x1_1 : (w.heap.size+1) < x1.val.heap.size := by omega
  have m_x1_1 : (w.heap.size+1) < x1.val.heap.size + 1 := by omega
  have q_ := x1.cq ((w.heap.size+1)) 0
  generalize c_x1_1_0 : x1.val.cell? ⟨(w.heap.size+1), 0, none⟩ = q at q_
  first | (have q2_ : q = some _ := q_; subst q2_) | (simp [go_sem] at q_; have q2_ : q = some _ := q_; subst q2_) | (simp [go_sem, *] at q_; have q2_ : q = some _ := q_; subst q2_)
  have q_ := x1.zq ((w.heap.size+1)) 0
  generalize z_x1_1_0 : x1.val.frozen? ⟨(w.heap.size+1), 0, none⟩ = q at q_
  first | (have q2_ : q = false := q_; subst q2_) | (simp [go_sem] at q_; have q2_ : q = false := q_; subst q2_) | (simp [go_sem, *] at q_; have q2_ : q = false := q_; subst q2_)
  have q_ := x1.cq ((w.heap.size+1)) 1
  generalize c_x1_1_1 : x1.val.cell? ⟨(w.heap.size+1), 1, none⟩ = q at q_
  first | (have q2_ : q = some _ := q_; subst q2_) | (simp [go_sem] at q_; have q2_ : q = some _ := q_; subst q2_) | (simp [go_sem, *] at q_; have q2_ : q = some _ := q_; subst q2_)
  have q_ := x1.zq ((w.heap.size+1)) 1
  generalize z_x1_1_1 : x1.val.frozen? ⟨(w.heap.size+1), 1, none⟩ = q at q_
  first | (have q2_ : q = false := q_; subst q2_) | (simp [go_sem] at q_; have q2_ : q = false := q_; subst q2_) | (simp [go_sem, *] at q_; have q2_ : q = false := q_; subst q2_)
  go_wp2_with fail
  with_reducible refine (P1.out _).mono ?_
  rintro e_ w_ ⟨rfl, rfl⟩
  go_wp2_with fail
  with_reducible refine (M.out _).mono ?_
  rintro e_ w_ ⟨rfl, rfl⟩
  go_wp2_with fail
  with_reducible refine (DV.out _).mono ?_
  rintro e_x2 w_x2 ⟨rfl, hb_x2⟩
  obtain ⟨x2, rfl⟩ := later_is hb_x2
  clear hb_x2
  have hz_x2 := x2.bel.size
  try simp at hz_x2
  replace c_x1_0_0 := x2.carry c_x1_0_0
  replace c_x1_0_1 := x2.carry c_x1_0_1
  replace c_x1_1_0 := x2.carry c_x1_1_0
  replace c_x1_1_1 := x2.carry c_x1_1_1
  have lc_x2_0 : w.heap.size < x2.val.heap.size := by omega
  have mc_x2_0 : w.heap.size < x2.val.heap.size + 1 := by omega
  have lc_x2_1 : (w.heap.size+1) < x2.val.heap.size := by omega
  have mc_x2_1 : (w.heap.size+1) < x2.val.heap.size + 1 := by omega
  go_wp2
  go_loopw [11, 13] (fun v i wr => ∃ a p : Nat, p ≤ 6 ∧ a < 18446744073709551616 ∧ Hid (Vd.strip a p = z) ∧ v = .int .u64 (a : Int) ∧ i = .int .u8 (p : Int) ∧ wr = x2.val) (fun _ i _ => (RowKit.intOf i).toNat)
  case atStart => exact ⟨q, 6, by decide, hqb, HZ, rfl, rfl, rfl⟩
  case round =>
   rename World => wr
   obtain ⟨a, p, hp, ha, HN, rfl, rfl, rfl⟩ := hrel
   obtain ⟨b, hb⟩ : ∃ b, a % 10 = b := ⟨_, rfl⟩
   have f1 : (a : Int) % 10 = (b : Int) := by omega
   have f2 : (a : Int).tmod 10 = (b : Int) := by rw [Int.tmod_eq_emod_of_nonneg (by omega)]; omega
   by_cases c7 : p = 0 ∨ b ≠ 0
   ·obtain rfl : (a, p) = z := (strip_stop (by omega)).symm.trans HN.out
    have hst : (0 < p ∧ ((b : Int) == 0) = false ∧ decide ((0 : Int) < (p : Int)) = true) ∨ decide ((0 : Int) < (p : Int)) = false := by
     rcases Nat.eq_zero_or_pos p with h0 | h0
     ·exact .inr (decide_eq_false (by omega))
     ·exact .inl ⟨h0, beq_eq_false_iff_ne.2 (by omega), decide_eq_true (by omega)⟩
    have hst2 : decide ((0 : Int) < (p : Int)) = decide (0 < p) := by simp
    clear c7 hb
    rcases hst with ⟨h0, g9, g10⟩ | g10
    ·have g11 : decide (0 < p) = true := decide_eq_true h0
     clear hst2 h0
     by_cases c8 : 1000000000000 < a
     ·obtain rfl : decV none = rv := by rw [← HV.out]; dsimp only; rw [if_pos c8]
      have g8 : decide ((1000000000000 : Int) < (a : Int)) = true := decide_eq_true (by omega)
      clear c8
      go_wp2
      refine bodyPost_ret (v := .tuple #[dcV 0 0, .bool false]) (by simp [results, Try.results41, go_sem, *]) rfl ⟨rfl, belo⟩
     ·have g8 : decide ((1000000000000 : Int) < (a : Int)) = false := decide_eq_false (by omega)
      have u1 : IntKind.i64.wrap (a : Int) = (a : Int) := IntWalk.i64_in _ (by omega)
      have u2 : IntKind.i64.wrap (-(a : Int)) = -(a : Int) := IntWalk.i64_in _ (by omega)
      obtain rfl : decV (some ⟨-(a : Int), p⟩) = rv := by rw [← HV.out]; dsimp only; rw [if_neg c8, HS.out a]
      clear HV c8
      go_wp2
      refine bodyPost_ret (v := .tuple #[dcV (-(a : Int)) p, .bool true]) (by simp [results, Try.results41, go_sem, *]) rfl ⟨rfl, belo⟩
    ·have g11 : decide (0 < p) = false := hst2 ▸ g10
     clear hst2
     by_cases c8 : 1000000000000 < a
     ·obtain rfl : decV none = rv := by rw [← HV.out]; dsimp only; rw [if_pos c8]
      have g8 : decide ((1000000000000 : Int) < (a : Int)) = true := decide_eq_true (by omega)
      clear c8
      go_wp2
      refine bodyPost_ret (v := .tuple #[dcV 0 0, .bool false]) (by simp [results, Try.results41, go_sem, *]) rfl ⟨rfl, belo⟩
     ·have g8 : decide ((1000000000000 : Int) < (a : Int)) = false := decide_eq_false (by omega)
      have u1 : IntKind.i64.wrap (a : Int) = (a : Int) := IntWalk.i64_in _ (by omega)
      have u2 : IntKind.i64.wrap (-(a : Int)) = -(a : Int) := IntWalk.i64_in _ (by omega)
      obtain rfl : decV (some ⟨-(a : Int), p⟩) = rv := by rw [← HV.out]; dsimp only; rw [if_neg c8, HS.out a]
      clear HV c8
      go_wp2
      refine bodyPost_ret (v := .tuple #[dcV (-(a : Int)) p, .bool true]) (by simp [results, Try.results41, go_sem, *]) rfl ⟨rfl, belo⟩
   ·obtain ⟨p', rfl⟩ : ∃ d', p = d' + 1 := ⟨p - 1, by omega⟩
    have hb0 : b = 0 := by omega
    have g3 : decide (0 < p' + 1) = true := decide_eq_true (by omega)
    have g3' : decide ((0 : Int) < (p' : Int) + 1) = true := decide_eq_true (by omega)
    have g4 : ((b : Int) == 0) = true := by simp [hb0]
    obtain ⟨a', ha'⟩ : ∃ a', a / 10 = a' := ⟨_, rfl⟩
    have f3 : (a : Int) / 10 = (a' : Int) := by omega
    have f4 : (a : Int).tdiv 10 = (a' : Int) := by rw [Int.tdiv_eq_ediv_of_nonneg (by omega)]; omega
    have f5 := Mul64.wrapN a' (by omega)
    have f6 : IntKind.u8.wrap (p' : Int) = (p' : Int) := by simp [IntKind.wrap, IntKind.bits, IntKind.signed]; omega
    have hap : a' < 18446744073709551616 := by omega
    have HN2 : Hid (Vd.strip a' p' = z) := Lib.hid (by rw [← ha', ← strip_step (by omega)]; exact HN.out)
    clear c7 hb0 hb ha'
    go_wp2
    go_roundw
    case rel => exact ⟨a', p', by omega, hap, HN2, by first | rfl | trivial, by go_num, by first | rfl | trivial⟩
    case measure => simp [RowKit.intOf]
 ·have s0 : decide (n < 0) = false := decide_eq_false hneg
  have hn1 := HS.out.2 hneg
  have t1' : n * (p1 : Int) = (m : Int) := by rw [hn1]; exact t1
  replace HS := Lib.hid (show ∀ a : Nat, (if n < 0 then -(a : Int) else (a : Int)) = (a : Int) from fun a => if_neg hneg)
  clear hneg hn1 t1
  by_cases c5 : den ≤ hi
  ·have g5 : decide (den ≤ hi) = true := decide_eq_true c5
   have e5 : (if r = 0 then Vd.ofQ ⟨n, d⟩ q else none) = none := by
    split
    ·exact HB.out c5
    ·rfl
   rw [e5]
   clear e5 c5
   go_enter Try.func41, Try.ntmps41
   go_wp2_with fail
   with_reducible refine (K1.out _).mono ?_
   rintro e_x1 w_x1 ⟨rfl, hb_x1⟩
   obtain ⟨x1, rfl⟩ := later_is hb_x1
   clear hb_x1
   have hz_x1 := x1.bel.size
   try simp at hz_x1
   have l_x1_0 : w.heap.size < x1.val.heap.size := by omega
   have m_x1_0 : w.heap.size < x1.val.heap.size + 1 := by omega
   have q_ := x1.cq (w.heap.size) 0
   generalize c_x1_0_0 : x1.val.cell? ⟨w.heap.size, 0, none⟩ = q at q_
   first | (have q2_ : q = some _ := q_; subst q2_) | (simp [go_sem] at q_; have q2_ : q = some _ := q_; subst q2_) | (simp [go_sem, *] at q_; have q2_ : q = some _ := q_; subst q2_)
   have q_ := x1.zq (w.heap.size) 0
   generalize z_x1_0_0 : x1.val.frozen? ⟨w.heap.size, 0, none⟩ = q at q_
   first | (have q2_ : q = false := q_; subst q2_) | (simp [go_sem] at q_; have q2_ : q = false := q_; subst q2_) | (simp [go_sem, *] at q_; have q2_ : q = false := q_; subst q2_)
   have q_ := x1.cq (w.heap.size) 1
   generalize c_x1_0_1 : x1.val.cell? ⟨w.heap.size, 1, none⟩ = q at q_
   first | (have q2_ : q = some _ := q_; subst q2_) | (simp [go_sem] at q_; have q2_ : q = some _ := q_; subst q2_) | (simp [go_sem, *] at q_; have q2_ : q = some _ := q_; subst q2_)
   have q_ := x1.zq (w.heap.size) 1
   generalize z_x1_0_1 : x1.val.frozen? ⟨w.heap.size, 1, none⟩ = q at q_
   first | (have q2_ : q = false := q_; subst q2_) | (simp [go_sem] at q_; have q2_ : q = false := q_; subst q2_) | (simp [go_sem, *] at q_; have q2_ : q = false := q_; subst q2_)
   have l_x1_1 : (w.heap.size+1) < x1.val.heap.size := by omega
   have m_x1_1 : (w.heap.size+1) < x1.val.heap.size + 1 := by omega
   have q_ := x1.cq ((w.heap.size+1)) 0
   generalize c_x1_1_0 : x1.val.cell? ⟨(w.heap.size+1), 0, none⟩ = q at q_
   first | (have q2_ : q = some _ := q_; subst q2_) | (simp [go_sem] at q_; have q2_ : q = some _ := q_; subst q2_) | (simp [go_sem, *] at q_; have q2_ : q = some _ := q_; subst q2_)
   have q_ := x1.zq ((w.heap.size+1)) 0
   generalize z_x1_1_0 : x1.val.frozen? ⟨(w.heap.size+1), 0, none⟩ = q at q_
   first | (have q2_ : q = false := q_; subst q2_) | (simp [go_sem] at q_; have q2_ : q = false := q_; subst q2_) | (simp [go_sem, *] at q_; have q2_ : q = false := q_; subst q2_)
   have q_ := x1.cq ((w.heap.size+1)) 1
   generalize c_x1_1_1 : x1.val.cell? ⟨(w.heap.size+1), 1, none⟩ = q at q_
   first | (have q2_ : q = some _ := q_; subst q2_) | (simp [go_sem] at q_; have q2_ : q = some _ := q_; subst q2_) | (simp [go_sem, *] at q_; have q2_ : q = some _ := q_; subst q2_)
   have q_ := x1.zq ((w.heap.size+1)) 1
   generalize z_x1_1_1 : x1.val.frozen? ⟨(w.heap.size+1), 1, none⟩ = q at q_
   first | (have q2_ : q = false := q_; subst q2_) | (simp [go_sem] at q_; have q2_ : q = false := q_; subst q2_) | (simp [go_sem, *] at q_; have q2_ : q = false := q_; subst q2_)
   go_wp2_with fail
   with_reducible refine (P1.out _).mono ?_
   rintro e_ w_ ⟨rfl, rfl⟩
   go_wp2_with fail
   with_reducible refine (M.out _).mono ?_
   rintro e_ w_ ⟨rfl, rfl⟩
   go_wp2
   refine bodyPost_ret (v := .tuple #[dcV 0 0, .bool false]) (by simp [results, Try.results41, go_sem, *]) rfl ⟨rfl, belo⟩
  have g5 : decide (den ≤ hi) = false := decide_eq_false c5
  replace DV := Lib.hid (fun w => DV.out w (by omega))
  have hqb := HL.out (by omega)
  clear c5 HB HL
  by_cases c6 : r = 0
  rotate_left
  ·rw [if_neg c6]
   have g6 : ((r : Int) != 0) = true := by simp [c6]
   clear c6
   go_enter Try.func41, Try.ntmps41
   go_wp2_with fail
   with_reducible refine (K1.out _).mono ?_
   rintro e_x1 w_x1 ⟨rfl, hb_x1⟩
   obtain ⟨x1, rfl⟩ := later_is hb_x1
   clear hb_x1
   have hz_x1 := x1.bel.size
   try simp at hz_x1
   have l_x1_0 : w.heap.size < x1.val.heap.size := by omega
   have m_x1_0 : w.heap.size < x1.val.heap.size + 1 := by omega
   have q_ := x1.cq (w.heap.size) 0
   generalize c_x1_0_0 : x1.val.cell? ⟨w.heap.size, 0, none⟩ = q at q_
   first | (have q2_ : q = some _ := q_; subst q2_) | (simp [go_sem] at q_; have q2_ : q = some _ := q_; subst q2_) | (simp [go_sem, *] at q_; have q2_ : q = some _ := q_; subst q2_)
   have q_ := x1.zq (w.heap.size) 0
   generalize z_x1_0_0 : x1.val.frozen? ⟨w.heap.size, 0, none⟩ = q at q_
   first | (have q2_ : q = false := q_; subst q2_) | (simp [go_sem] at q_; have q2_ : q = false := q_; subst q2_) | (simp [go_sem, *] at q_; have q2_ : q = false := q_; subst q2_)
   have q_ := x1.cq (w.heap.size) 1
   generalize c_x1_0_1 : x1.val.cell? ⟨w.heap.size, 1, none⟩ = q at q_
   first | (have q2_ : q = some _ := q_; subst q2_) | (simp [go_sem] at q_; have q2_ : q = some _ := q_; subst q2_) | (simp [go_sem, *] at q_; have q2_ : q = some _ := q_; subst q2_)
   have q_ := x1.zq (w.heap.size) 1
   generalize z_x1_0_1 : x1.val.frozen? ⟨w.heap.size, 1, none⟩ = q at q_
   first | (have q2_ : q = false := q_; subst q2_) | (simp [go_sem] at q_; have q2_ : q = false := q_; subst q2_) | (simp [go_sem, *] at q_; have q2_ : q = false := q_; subst q2_)
   have l_x1_1 : (w.heap.size+1) < x1.val.heap.size := by omega
   have m_x1_1 : (w.heap.size+1) < x1.val.heap.size + 1 := by omega
   have q_ := x1.cq ((w.heap.size+1)) 0
   generalize c_x1_1_0 : x1.val.cell? ⟨(w.heap.size+1), 0, none⟩ = q at q_
   first | (have q2_ : q = some _ := q_; subst q2_) | (simp [go_sem] at q_; have q2_ : q = some _ := q_; subst q2_) | (simp [go_sem, *] at q_; have q2_ : q = some _ := q_; subst q2_)
   have q_ := x1.zq ((w.heap.size+1)) 0
   generalize z_x1_1_0 : x1.val.frozen? ⟨(w.heap.size+1), 0, none⟩ = q at q_
   first | (have q2_ : q = false := q_; subst q2_) | (simp [go_sem] at q_; have q2_ : q = false := q_; subst q2_) | (simp [go_sem, *] at q_; have q2_ : q = false := q_; subst q2_)
   have q_ := x1.cq ((w.heap.size+1)) 1
   generalize c_x1_1_1 : x1.val.cell? ⟨(w.heap.size+1), 1, none⟩ = q at q_
   first | (have q2_ : q = some _ := q_; subst q2_) | (simp [go_sem] at q_; have q2_ : q = some _ := q_; subst q2_) | (simp [go_sem, *] at q_; have q2_ : q = some _ := q_; subst q2_)
   have q_ := x1.zq ((w.heap.size+1)) 1
   generalize z_x1_1_1 : x1.val.frozen? ⟨(w.heap.size+1), 1, none⟩ = q at q_
   first | (have q2_ : q = false := q_; subst q2_) | (simp [go_sem] at q_; have q2_ : q = false := q_; subst q2_) | (simp [go_sem, *] at q_; have q2_ : q = false := q_; subst q2_)
   go_wp2_with fail
   with_reducible refine (P1.out _).mono ?_
   rintro e_ w_ ⟨rfl, rfl⟩
   go_wp2_with fail
   with_reducible refine (M.out _).mono ?_
   rintro e_ w_ ⟨rfl, rfl⟩
   go_wp2_with fail
   with_reducible refine (DV.out _).mono ?_
   rintro e_x2 w_x2 ⟨rfl, hb_x2⟩
   obtain ⟨x2, rfl⟩ := later_is hb_x2
   clear hb_x2
   have hz_x2 := x2.bel.size
   try simp at hz_x2
   replace c_x1_0_0 := x2.carry c_x1_0_0
   replace c_x1_0_1 := x2.carry c_x1_0_1
   replace c_x1_1_0 := x2.carry c_x1_1_0
   replace c_x1_1_1 := x2.carry c_x1_1_1
   have lc_x2_0 : w.heap.size < x2.val.heap.size := by omega
   have mc_x2_0 : w.heap.size < x2.val.heap.size + 1 := by omega
   have lc_x2_1 : (w.heap.size+1) < x2.val.heap.size := by omega
   have mc_x2_1 : (w.heap.size+1) < x2.val.heap.size + 1 := by omega
   go_wp2
   refine bodyPost_ret (v := .tuple #[dcV 0 0, .bool false]) (by simp [results, Try.results41, go_sem, *]) rfl ⟨rfl, belo⟩
  rw [if_pos c6]
  have g6 : ((r : Int) != 0) = false := by simp [c6]
  clear c6
  obtain ⟨z, hz⟩ : ∃ z, Vd.strip q 6 = z := ⟨_, rfl⟩
  obtain ⟨rv, hrv⟩ : ∃ rv, decV (Vd.ofQ ⟨n, d⟩ q) = rv := ⟨_, rfl⟩
  rw [hrv]
  unfold Vd.ofQ at hrv
  rw [hz] at hrv
  have HV := Lib.hid hrv
  have HZ := Lib.hid hz
  clear hz hrv
  go_enter Try.func41, Try.ntmps41
  go_wp2_with fail
  with_reducible refine (K1.out _).mono ?_
  rintro e_x1 w_x1 ⟨rfl, hb_x1⟩
  obtain ⟨x1, rfl⟩ := later_is hb_x1
  clear hb_x1
  have hz_x1 := x1.bel.size
  try simp at hz_x1
  have l_x1_0 : w.heap.size < x1.val.heap.size := by omega
  have m_x1_0 : w.heap.size < x1.val.heap.size + 1 := by omega
  have q_ := x1.cq (w.heap.size) 0
  generalize c_x1_0_0 : x1.val.cell? ⟨w.heap.size, 0, none⟩ = q at q_
  first | (have q2_ : q = some _ := q_; subst q2_) | (simp [go_sem] at q_; have q2_ : q = some _ := q_; subst q2_) | (simp [go_sem, *] at q_; have q2_ : q = some _ := q_; subst q2_)
  have q_ := x1.zq (w.heap.size) 0
  generalize z_x1_0_0 : x1.val.frozen? ⟨w.heap.size, 0, none⟩ = q at q_
  first | (have q2_ : q = false := q_; subst q2_) | (simp [go_sem] at q_; have q2_ : q = false := q_; subst q2_) | (simp [go_sem, *] at q_; have q2_ : q = false := q_; subst q2_)
  have q_ := x1.cq (w.heap.size) 1
  generalize c_x1_0_1 : x1.val.cell? ⟨w.heap.size, 1, none⟩ = q at q_
  first | (have q2_ : q = some _ := q_; subst q2_) | (simp [go_sem] at q_; have q2_ : q = some _ := q_; subst q2_) | (simp [go_sem, *] at q_; have q2_ : q = some _ := q_; subst q2_)
  have q_ := x1.zq (w.heap.size) 1
  generalize z_x1_0_1 : x1.val.frozen? ⟨w.heap.size, 1, none⟩ = q at q_
  first | (have q2_ : q = false := q_; subst q2_) | (simp [go_sem] at q_; have q2_ : q = false := q_; subst q2_) | (simp [go_sem, *] at q_; have q2_ : q = false := q_; subst q2_)
  have l_x1_1 : (w.heap.size+1) < x1.val.heap.size := by omega
  have m_x1_1 : (w.heap.size+1) < x1.val.heap.size + 1 := by omega
  have q_ := x1.cq ((w.heap.size+1)) 0
  generalize c_x1_1_0 : x1.val.cell? ⟨(w.heap.size+1), 0, none⟩ = q at q_
  first | (have q2_ : q = some _ := q_; subst q2_) | (simp [go_sem] at q_; have q2_ : q = some _ := q_; subst q2_) | (simp [go_sem, *] at q_; have q2_ : q = some _ := q_; subst q2_)
  have q_ := x1.zq ((w.heap.size+1)) 0
  generalize z_x1_1_0 : x1.val.frozen? ⟨(w.heap.size+1), 0, none⟩ = q at q_
  first | (have q2_ : q = false := q_; subst q2_) | (simp [go_sem] at q_; have q2_ : q = false := q_; subst q2_) | (simp [go_sem, *] at q_; have q2_ : q = false := q_; subst q2_)
  have q_ := x1.cq ((w.heap.size+1)) 1
  generalize c_x1_1_1 : x1.val.cell? ⟨(w.heap.size+1), 1, none⟩ = q at q_
  first | (have q2_ : q = some _ := q_; subst q2_) | (simp [go_sem] at q_; have q2_ : q = some _ := q_; subst q2_) | (simp [go_sem, *] at q_; have q2_ : q = some _ := q_; subst q2_)
  have q_ := x1.zq ((w.heap.size+1)) 1
  generalize z_x1_1_1 : x1.val.frozen? ⟨(w.heap.size+1), 1, none⟩ = q at q_
  first | (have q2_ : q = false := q_; subst q2_) | (simp [go_sem] at q_; have q2_ : q = false := q_; subst q2_) | (simp [go_sem, *] at q_; have q2_ : q = false := q_; subst q2_)
  go_wp2_with fail
  with_reducible refine (P1.out _).mono ?_
  rintro e_ w_ ⟨rfl, rfl⟩
  go_wp2_with fail
  with_reducible refine (M.out _).mono ?_
  rintro e_ w_ ⟨rfl, rfl⟩
  go_wp2_with fail
  with_reducible refine (DV.out _).mono ?_
  rintro e_x2 w_x2 ⟨rfl, hb_x2⟩
  obtain ⟨x2, rfl⟩ := later_is hb_x2
  clear hb_x2
  have hz_x2 := x2.bel.size
  try simp at hz_x2
  replace c_x1_0_0 := x2.carry c_x1_0_0
  replace c_x1_0_1 := x2.carry c_x1_0_1
  replace c_x1_1_0 := x2.carry c_x1_1_0
  replace c_x1_1_1 := x2.carry c_x1_1_1
  have lc_x2_0 : w.heap.size < x2.val.heap.size := by omega
  have mc_x2_0 : w.heap.size < x2.val.heap.size + 1 := by omega
  have lc_x2_1 : (w.heap.size+1) < x2.val.heap.size := by omega
  have mc_x2_1 : (w.heap.size+1) < x2.val.heap.size + 1 := by omega
  go_wp2
  go_loopw [11, 13] (fun v i wr => ∃ a p : Nat, p ≤ 6 ∧ a < 18446744073709551616 ∧ Hid (Vd.strip a p = z) ∧ v = .int .u64 (a : Int) ∧ i = .int .u8 (p : Int) ∧ wr = x2.val) (fun _ i _ => (RowKit.intOf i).toNat)
  case atStart => exact ⟨q, 6, by decide, hqb, HZ, rfl, rfl, rfl⟩
  case round =>
   rename World => wr
   obtain ⟨a, p, hp, ha, HN, rfl, rfl, rfl⟩ := hrel
   obtain ⟨b, hb⟩ : ∃ b, a % 10 = b := ⟨_, rfl⟩
   have f1 : (a : Int) % 10 = (b : Int) := by omega
   have f2 : (a : Int).tmod 10 = (b : Int) := by rw [Int.tmod_eq_emod_of_nonneg (by omega)]; omega
   by_cases c7 : p = 0 ∨ b ≠ 0
   ·obtain rfl : (a, p) = z := (strip_stop (by omega)).symm.trans HN.out
    have hst : (0 < p ∧ ((b : Int) == 0) = false ∧ decide ((0 : Int) < (p : Int)) = true) ∨ decide ((0 : Int) < (p : Int)) = false := by
     rcases Nat.eq_zero_or_pos p with h0 | h0
     ·exact .inr (decide_eq_false (by omega))
     ·exact .inl ⟨h0, beq_eq_false_iff_ne.2 (by omega), decide_eq_true (by omega)⟩
    have hst2 : decide ((0 : Int) < (p : Int)) = decide (0 < p) := by simp
    clear c7 hb
    rcases hst with ⟨h0, g9, g10⟩ | g10
    ·have g11 : decide (0 < p) = true := decide_eq_true h0
     clear hst2 h0
     by_cases c8 : 1000000000000 < a
     ·obtain rfl : decV none = rv := by rw [← HV.out]; dsimp only; rw [if_pos c8]
      have g8 : decide ((1000000000000 : Int) < (a : Int)) = true := decide_eq_true (by omega)
      clear c8
      go_wp2
      refine bodyPost_ret (v := .tuple #[dcV 0 0, .bool false]) (by simp [results, Try.results41, go_sem, *]) rfl ⟨rfl, belo⟩
     ·have g8 : decide ((1000000000000 : Int) < (a : Int)) = false := decide_eq_false (by omega)
      have u1 : IntKind.i64.wrap (a : Int) = (a : Int) := IntWalk.i64_in _ (by omega)
      have u2 : IntKind.i64.wrap (-(a : Int)) = -(a : Int) := IntWalk.i64_in _ (by omega)
      obtain rfl : decV (some ⟨(a : Int), p⟩) = rv := by rw [← HV.out]; dsimp only; rw [if_neg c8, HS.out a]
      clear HV c8
      go_wp2
      refine bodyPost_ret (v := .tuple #[dcV ((a : Int)) p, .bool true]) (by simp [results, Try.results41, go_sem, *]) rfl ⟨rfl, belo⟩
    ·have g11 : decide (0 < p) = false := hst2 ▸ g10
     clear hst2
     by_cases c8 : 1000000000000 < a
     ·obtain rfl : decV none = rv := by rw [← HV.out]; dsimp only; rw [if_pos c8]
      have g8 : decide ((1000000000000 : Int) < (a : Int)) = true := decide_eq_true (by omega)
      clear c8
      go_wp2
      refine bodyPost_ret (v := .tuple #[dcV 0 0, .bool false]) (by simp [results, Try.results41, go_sem, *]) rfl ⟨rfl, belo⟩
     ·have g8 : decide ((1000000000000 : Int) < (a : Int)) = false := decide_eq_false (by omega)
      have u1 : IntKind.i64.wrap (a : Int) = (a : Int) := IntWalk.i64_in _ (by omega)
      have u2 : IntKind.i64.wrap (-(a : Int)) = -(a : Int) := IntWalk.i64_in _ (by omega)
      obtain rfl : decV (some ⟨(a : Int), p⟩) = rv := by rw [← HV.out]; dsimp only; rw [if_neg c8, HS.out a]
      clear HV c8
      go_wp2
      refine bodyPost_ret (v := .tuple #[dcV ((a : Int)) p, .bool true]) (by simp [results, Try.results41, go_sem, *]) rfl ⟨rfl, belo⟩
   ·obtain ⟨p', rfl⟩ : ∃ d', p = d' + 1 := ⟨p - 1, by omega⟩
    have hb0 : b = 0 := by omega
    have g3 : decide (0 < p' + 1) = true := decide_eq_true (by omega)
    have g3' : decide ((0 : Int) < (p' : Int) + 1) = true := decide_eq_true (by omega)
    have g4 : ((b : Int) == 0) = true := by simp [hb0]
    obtain ⟨a', ha'⟩ : ∃ a', a / 10 = a' := ⟨_, rfl⟩
    have f3 : (a : Int) / 10 = (a' : Int) := by omega
    have f4 : (a : Int).tdiv 10 = (a' : Int) := by rw [Int.tdiv_eq_ediv_of_nonneg (by omega)]; omega
    have f5 := Mul64.wrapN a' (by omega)
    have f6 : IntKind.u8.wrap (p' : Int) = (p' : Int) := by simp [IntKind.wrap, IntKind.bits, IntKind.signed]; omega
    have hap : a' < 18446744073709551616 := by omega
    have HN2 : Hid (Vd.strip a' p' = z) := Lib.hid (by rw [← ha', ← strip_step (by omega)]; exact HN.out)
    clear c7 hb0 hb ha'
    go_wp2
    go_roundw
    case rel => exact ⟨a', p', by omega, hap, HN2, by first | rfl | trivial, by go_num, by first | rfl | trivial⟩
    case measure => simp [RowKit.intOf]
end Go.Proofs.Ythhokpaidekmnaa
