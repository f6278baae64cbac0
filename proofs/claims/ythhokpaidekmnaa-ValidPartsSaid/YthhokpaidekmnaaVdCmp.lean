/- Layer 15: units.Cmp. -/
import Derived.Test.YthhokpaidekmnaaVdUn
import Derived.Deep.DeepCutAuto
import Derived.Deep.CutBlock
namespace Go.Proofs.Ythhokpaidekmnaa
open Go.RowKit
set_option linter.unusedVariables false
set_option linter.unusedSimpArgs false
attribute [local go_sem] Later.cell Later.frozen setCell_twice
theorem rightD_out {n : Int} {d : Nat} (h : Vd.rightD ⟨n, d⟩ = true) : -1000000000000 ≤ n ∧ n ≤ 1000000000000 ∧ d ≤ 6 ∧ (d = 0 ∨ n % 10 ≠ 0) := of_decide_eq_true h
/-- a decimal in memory fits its cells -/
def Dc.Fit (x : Dc) : Prop := -9223372036854775808 ≤ x.n ∧ x.n ≤ 9223372036854775807 ∧ x.d < 256
theorem mil_bound {n : Int} {p : Nat} (h1 : -1000000000000 ≤ n) (h2 : n ≤ 1000000000000) (h3 : 1 ≤ p) (h4 : p ≤ 1000000) : -1000000000000000000 ≤ n * (p : Int) ∧ n * (p : Int) ≤ 1000000000000000000 := by
 have hp : (0 : Int) ≤ (p : Int) := by omega
 have hp2 : (p : Int) ≤ 1000000 := by omega
 constructor
 ·have := Int.mul_le_mul_of_nonneg_right h1 hp
  have := Int.mul_le_mul_of_nonneg_left hp2 (show (0 : Int) ≤ 1000000000000 by decide)
  omega
 ·have := Int.mul_le_mul_of_nonneg_right h2 hp
  have := Int.mul_le_mul_of_nonneg_left hp2 (show (0 : Int) ≤ 1000000000000 by decide)
  omega
set_option maxHeartbeats 1000000 in
theorem cmp_any (n1 n2 : Int) (d1 d2 : Nat) (w : World) (h1 : Dc.Fit ⟨n1, d1⟩) (h2 : Dc.Fit ⟨n2, d2⟩) : Calls Try.prog 23 #[dcV n1 d1, dcV n2 d2] w fun e w' => e = .returned (.int .i64 (Vd.cmp ⟨n1, d1⟩ ⟨n2, d2⟩)) ∧ Below w.heap.size w w' := by
 have k1 := fun w => rightD_any n1 d1 w h1.1 h1.2.1
 have k2 := fun w => rightD_any n2 d2 w h2.1 h2.2.1
 unfold Vd.cmp
 cases hr1 : Vd.rightD ⟨n1, d1⟩
 ·rw [hr1] at k1
  have K1 := Lib.hid k1
  rw [Bool.false_and, if_neg (show ¬ false = true by decide)]
  unfold dcV
  clear k1 k2 hr1 h1 h2
  go_enter Try.func23, Try.ntmps23
  go_wp2_with fail
  refine (K1.out _).mono ?_
  rintro e_x1 w_x1 ⟨rfl, hb_x1⟩
  obtain ⟨x1, rfl⟩ := later_is hb_x1
  clear hb_x1
  have hz_x1 := x1.bel.size
  try simp at hz_x1
  go_wp2
  go_ret
  exact ⟨rfl, belo⟩
 cases hr2 : Vd.rightD ⟨n2, d2⟩
 ·rw [hr1] at k1
  rw [hr2] at k2
  have K1 := Lib.hid k1
  have K2 := Lib.hid k2
  rw [Bool.true_and, if_neg (show ¬ false = true by decide)]
  unfold dcV
  clear k1 k2 hr1 hr2 h1 h2
  go_enter Try.func23, Try.ntmps23
  go_wp2_with fail
  refine (K1.out _).mono ?_
  rintro e_x1 w_x1 ⟨rfl, hb_x1⟩
  obtain ⟨x1, rfl⟩ := later_is hb_x1
  clear hb_x1
  have hz_x1 := x1.bel.size
  try simp at hz_x1
  go_wp2_with fail
  refine (K2.out _).mono ?_
  rintro e_x2 w_x2 ⟨rfl, hb_x2⟩
  obtain ⟨x2, rfl⟩ := later_is hb_x2
  clear hb_x2
  have hz_x2 := x2.bel.size
  try simp at hz_x2
  go_wp2
  go_ret
  exact ⟨rfl, belo⟩
 obtain ⟨a1, a2, a3, _⟩ := rightD_out hr1
 obtain ⟨b1, b2, b3, _⟩ := rightD_out hr2
 rw [hr1] at k1
 rw [hr2] at k2
 have K1 := Lib.hid k1
 have K2 := Lib.hid k2
 rw [Bool.true_and, if_pos rfl]
 obtain ⟨e1, he1⟩ : ∃ e, 6 - d1 = e := ⟨_, rfl⟩
 obtain ⟨e2, he2⟩ : ∃ e, 6 - d2 = e := ⟨_, rfl⟩
 obtain ⟨p1, hp1⟩ : ∃ p, 10 ^ e1 = p := ⟨_, rfl⟩
 obtain ⟨p2, hp2⟩ : ∃ p, 10 ^ e2 = p := ⟨_, rfl⟩
 have q1 := pow10_le (k := e1) (by omega)
 have q2 := pow10_le (k := e2) (by omega)
 rw [hp1] at q1
 rw [hp2] at q2
 have P1 := Lib.hid (fun w => power_any e1 p1 w (by omega) hp1)
 have P2 := Lib.hid (fun w => power_any e2 p2 w (by omega) hp2)
 have r1 := mil_bound a1 a2 q1.1 q1.2
 have r2 := mil_bound b1 b2 q2.1 q2.2
 obtain ⟨m1, hm1⟩ : ∃ m, n1 * (p1 : Int) = m := ⟨_, rfl⟩
 obtain ⟨m2, hm2⟩ : ∃ m, n2 * (p2 : Int) = m := ⟨_, rfl⟩
 rw [hm1] at r1
 rw [hm2] at r2
 have e1m : Vd.mil ⟨n1, d1⟩ = m1 := by unfold Vd.mil; dsimp only; rw [he1, ← hm1, ← hp1]; simp
 have e2m : Vd.mil ⟨n2, d2⟩ = m2 := by unfold Vd.mil; dsimp only; rw [he2, ← hm2, ← hp2]; simp
 rw [e1m, e2m]
 have i1 : (6 : Int) - (d1 : Int) = (e1 : Int) := by omega
 have i2 : (6 : Int) - (d2 : Int) = (e2 : Int) := by omega
 have j1 : IntKind.i64.wrap (e1 : Int) = (e1 : Int) := IntWalk.i64_in _ (by omega)
 have j2 : IntKind.i64.wrap (e2 : Int) = (e2 : Int) := IntWalk.i64_in _ (by omega)
 have s1 : IntKind.i64.wrap (d1 : Int) = (d1 : Int) := IntWalk.i64_in _ (by omega)
 have s2 : IntKind.i64.wrap (d2 : Int) = (d2 : Int) := IntWalk.i64_in _ (by omega)
 have t1 : IntKind.i64.wrap m1 = m1 := IntWalk.i64_in _ (by omega)
 have t2 : IntKind.i64.wrap m2 = m2 := IntWalk.i64_in _ (by omega)
 unfold dcV
 clear k1 k2 hr1 hr2 h1 h2 he1 he2 hp1 hp2 q1 q2 e1m e2m
 by_cases c1 : m1 < m2
 ·rw [if_pos c1]
  have g1 : decide (m1 < m2) = true := decide_eq_true c1
  clear c1
  go_enter Try.func23, Try.ntmps23
  go_wp2_with fail
  refine (K1.out _).mono ?_
  rintro e_x1 w_x1 ⟨rfl, hb_x1⟩
  obtain ⟨x1, rfl⟩ := later_is hb_x1
  clear hb_x1
  have hz_x1 := x1.bel.size
  try simp at hz_x1
  have l_x1_0 : w.heap.size < x1.val.heap.size := by omega
  have m_x1_0 : w.heap.size < x1.val.heap.size + 1 := by omega
  have q_ := x1.cq (w.heap.size) 0
  generalize c_x1_0_0 : x1.val.cell? ⟨w.heap.size, 0, none⟩ = q at q_
  first | (have q2_ : q = some _ := q_; subst q2_) | (simp [go_sem] at q_; have q2_ : q = some _ := q_; subst q2_) | (simp [go_sem, *] at q_; have q2_ : q = some _ := q_; subst q2_)
  have q_ := x1.zq (w.heap.size) 0
  generalize z_x1_0_0 : x1.val.frozen? ⟨w.heap.size, 0, none⟩ = q at q_
  first | (have q2_ : q = false := q_; subst q2_) | (simp [go_sem] at q_; have q2_ : q = false := q_; subst q2_) | (simp [go_sem, *] at q_; have q2_ : q = false := q_; subst q2_)
  have q_ := x1.cq (w.heap.size) 1
  generalize c_x1_0_1 : x1.val.cell? ⟨w.heap.size, 1, none⟩ = q at q_
  first | (have q2_ : q = some _ := q_; subst q2_) | (simp [go_sem] at q_; have q2_ : q = some _ := q_; subst q2_) | (simp [go_sem, *] at q_; have q2_ : q = some _ := q_; subst q2_)
  have q_ := x1.zq (w.heap.size) 1
  generalize z_x1_0_1 : x1.val.frozen? ⟨w.heap.size, 1, none⟩ = q at q_
  first | (have q2_ : q = false := q_; subst q2_) | (simp [go_sem] at q_; have q2_ : q = false := q_; subst q2_) | (simp [go_sem, *] at q_; have q2_ : q = false := q_; subst q2_)
  have l_x1_1 : (w.heap.size+1) < x1.val.heap.size := by omega
  have m_x1_1 : (w.heap.size+1) < x1.val.heap.size + 1 := by omega
  have q_ := x1.cq ((w.heap.size+1)) 0
  generalize c_x1_1_0 : x1.val.cell? ⟨(w.heap.size+1), 0, none⟩ = q at q_
  first | (have q2_ : q = some _ := q_; subst q2_) | (simp [go_sem] at q_; have q2_ : q = some _ := q_; subst q2_) | (simp [go_sem, *] at q_; have q2_ : q = some _ := q_; subst q2_)
  have q_ := x1.zq ((w.heap.size+1)) 0
  generalize z_x1_1_0 : x1.val.frozen? ⟨(w.heap.size+1), 0, none⟩ = q at q_
  first | (have q2_ : q = false := q_; subst q2_) | (simp [go_sem] at q_; have q2_ : q = false := q_; subst q2_) | (simp [go_sem, *] at q_; have q2_ : q = false := q_; subst q2_)
  have q_ := x1.cq ((w.heap.size+1)) 1
  generalize c_x1_1_1 : x1.val.cell? ⟨(w.heap.size+1), 1, none⟩ = q at q_
  first | (have q2_ : q = some _ := q_; subst q2_) | (simp [go_sem] at q_; have q2_ : q = some _ := q_; subst q2_) | (simp [go_sem, *] at q_; have q2_ : q = some _ := q_; subst q2_)
  have q_ := x1.zq ((w.heap.size+1)) 1
  generalize z_x1_1_1 : x1.val.frozen? ⟨(w.heap.size+1), 1, none⟩ = q at q_
  first | (have q2_ : q = false := q_; subst q2_) | (simp [go_sem] at q_; have q2_ : q = false := q_; subst q2_) | (simp [go_sem, *] at q_; have q2_ : q = false := q_; subst q2_)
  go_wp2_with fail
  refine (K2.out _).mono ?_
  rintro e_x2 w_x2 ⟨rfl, hb_x2⟩
  obtain ⟨x2, rfl⟩ := later_is hb_x2
  clear hb_x2
  have hz_x2 := x2.bel.size
  try simp at hz_x2
  replace c_x1_0_0 := x2.carry c_x1_0_0
  replace c_x1_0_1 := x2.carry c_x1_0_1
  replace c_x1_1_0 := x2.carry c_x1_1_0
  replace c_x1_1_1 := x2.carry c_x1_1_1
  have lc_x2_0 : w.heap.size < x2.val.heap.size := by omega
  have mc_x2_0 : w.heap.size < x2.val.heap.size + 1 := by omega
  have lc_x2_1 : (w.heap.size+1) < x2.val.heap.size := by omega
  have mc_x2_1 : (w.heap.size+1) < x2.val.heap.size + 1 := by omega
  go_upto_region 3 with fail
  refine wp_region_lat (by kernel_rfl) (by kernel_rfl) ?_
  repeat (go_big_quiet_step (fail))
  go_big_quiet_step (exact later_same (P1.out _))
  repeat (go_big_quiet_step (fail))
  go_big_quiet_step (exact later_same (P2.out _))
  repeat (go_big_quiet_step (fail))
  refine wpQuiet_nil ?_
  rintro _ ⟨x3, rfl⟩
  have hz_x3 := x3.bel.size
  try simp at hz_x3
  go_wp2
  go_ret
  exact ⟨rfl, belo⟩
 rw [if_neg c1]
 have g1 : decide (m1 < m2) = false := decide_eq_false c1
 by_cases c2 : m2 < m1
 ·rw [if_pos c2]
  have g2 : decide (m2 < m1) = true := decide_eq_true c2
  clear c1 c2
  go_enter Try.func23, Try.ntmps23
  go_wp2_with fail
  refine (K1.out _).mono ?_
  rintro e_x1 w_x1 ⟨rfl, hb_x1⟩
  obtain ⟨x1, rfl⟩ := later_is hb_x1
  clear hb_x1
  have hz_x1 := x1.bel.size
  try simp at hz_x1
  have l_x1_0 : w.heap.size < x1.val.heap.size := by omega
  have m_x1_0 : w.heap.size < x1.val.heap.size + 1 := by omega
  have q_ := x1.cq (w.heap.size) 0
  generalize c_x1_0_0 : x1.val.cell? ⟨w.heap.size, 0, none⟩ = q at q_
  first | (have q2_ : q = some _ := q_; subst q2_) | (simp [go_sem] at q_; have q2_ : q = some _ := q_; subst q2_) | (simp [go_sem, *] at q_; have q2_ : q = some _ := q_; subst q2_)
  have q_ := x1.zq (w.heap.size) 0
  generalize z_x1_0_0 : x1.val.frozen? ⟨w.heap.size, 0, none⟩ = q at q_
  first | (have q2_ : q = false := q_; subst q2_) | (simp [go_sem] at q_; have q2_ : q = false := q_; subst q2_) | (simp [go_sem, *] at q_; have q2_ : q = false := q_; subst q2_)
  have q_ := x1.cq (w.heap.size) 1
  generalize c_x1_0_1 : x1.val.cell? ⟨w.heap.size, 1, none⟩ = q at q_
  first | (have q2_ : q = some _ := q_; subst q2_) | (simp [go_sem] at q_; have q2_ : q = some _ := q_; subst q2_) | (simp [go_sem, *] at q_; have q2_ : q = some _ := q_; subst q2_)
  have q_ := x1.zq (w.heap.size) 1
  generalize z_x1_0_1 : x1.val.frozen? ⟨w.heap.size, 1, none⟩ = q at q_
  first | (have q2_ : q = false := q_; subst q2_) | (simp [go_sem] at q_; have q2_ : q = false := q_; subst q2_) | (simp [go_sem, *] at q_; have q2_ : q = false := q_; subst q2_)
  have l_x1_1 : (w.heap.size+1) < x1.val.heap.size := by omega
  have m_x1_1 : (w.heap.size+1) < x1.val.heap.size + 1 := by omega
  have q_ := x1.cq ((w.heap.size+1)) 0
  generalize c_x1_1_0 : x1.val.cell? ⟨(w.heap.size+1), 0, none⟩ = q at q_
  first | (have q2_ : q = some _ := q_; subst q2_) | (simp [go_sem] at q_; have q2_ : q = some _ := q_; subst q2_) | (simp [go_sem, *] at q_; have q2_ : q = some _ := q_; subst q2_)
  have q_ := x1.zq ((w.heap.size+1)) 0
  generalize z_x1_1_0 : x1.val.frozen? ⟨(w.heap.size+1), 0, none⟩ = q at q_
  first | (have q2_ : q = false := q_; subst q2_) | (simp [go_sem] at q_; have q2_ : q = false := q_; subst q2_) | (simp [go_sem, *] at q_; have q2_ : q = false := q_; subst q2_)
  have q_ := x1.cq ((w.heap.size+1)) 1
  generalize c_x1_1_1 : x1.val.cell? ⟨(w.heap.size+1), 1, none⟩ = q at q_
  first | (have q2_ : q = some _ := q_; subst q2_) | (simp [go_sem] at q_; have q2_ : q = some _ := q_; subst q2_) | (simp [go_sem, *] at q_; have q2_ : q = some _ := q_; subst q2_)
  have q_ := x1.zq ((w.heap.size+1)) 1
  generalize z_x1_1_1 : x1.val.frozen? ⟨(w.heap.size+1), 1, none⟩ = q at q_
  first | (have q2_ : q = false := q_; subst q2_) | (simp [go_sem] at q_; have q2_ : q = false := q_; subst q2_) | (simp [go_sem, *] at q_; have q2_ : q = false := q_; subst q2_)
  go_wp2_with fail
  refine (K2.out _).mono ?_
  rintro e_x2 w_x2 ⟨rfl, hb_x2⟩
  obtain ⟨x2, rfl⟩ := later_is hb_x2
  clear hb_x2
  have hz_x2 := x2.bel.size
  try simp at hz_x2
  replace c_x1_0_0 := x2.carry c_x1_0_0
  replace c_x1_0_1 := x2.carry c_x1_0_1
  replace c_x1_1_0 := x2.carry c_x1_1_0
  replace c_x1_1_1 := x2.carry c_x1_1_1
  have lc_x2_0 : w.heap.size < x2.val.heap.size := by omega
  have mc_x2_0 : w.heap.size < x2.val.heap.size + 1 := by omega
  have lc_x2_1 : (w.heap.size+1) < x2.val.heap.size := by omega
  have mc_x2_1 : (w.heap.size+1) < x2.val.heap.size + 1 := by omega
  go_upto_region 3 with fail
  refine wp_region_lat (by kernel_rfl) (by kernel_rfl) ?_
  repeat (go_big_quiet_step (fail))
  go_big_quiet_step (exact later_same (P1.out _))
  repeat (go_big_quiet_step (fail))
  go_big_quiet_step (exact later_same (P2.out _))
  repeat (go_big_quiet_step (fail))
  refine wpQuiet_nil ?_
  rintro _ ⟨x3, rfl⟩
  have hz_x3 := x3.bel.size
  try simp at hz_x3
  go_wp2
  go_ret
  exact ⟨rfl, belo⟩
 rw [if_neg c2]
 have g2 : decide (m2 < m1) = false := decide_eq_false c2
 clear c1 c2
 go_enter Try.func23, Try.ntmps23
 go_wp2_with fail
 refine (K1.out _).mono ?_
 rintro e_x1 w_x1 ⟨rfl, hb_x1⟩
 obtain ⟨x1, rfl⟩ := later_is hb_x1
 clear hb_x1
 have hz_x1 := x1.bel.size
 try simp at hz_x1
 have l_x1_0 : w.heap.size < x1.val.heap.size := by omega
 have m_x1_0 : w.heap.size < x1.val.heap.size + 1 := by omega
 have q_ := x1.cq (w.heap.size) 0
 generalize c_x1_0_0 : x1.val.cell? ⟨w.heap.size, 0, none⟩ = q at q_
 first | (have q2_ : q = some _ := q_; subst q2_) | (simp [go_sem] at q_; have q2_ : q = some _ := q_; subst q2_) | (simp [go_sem, *] at q_; have q2_ : q = some _ := q_; subst q2_)
 have q_ := x1.zq (w.heap.size) 0
 generalize z_x1_0_0 : x1.val.frozen? ⟨w.heap.size, 0, none⟩ = q at q_
 first | (have q2_ : q = false := q_; subst q2_) | (simp [go_sem] at q_; have q2_ : q = false := q_; subst q2_) | (simp [go_sem, *] at q_; have q2_ : q = false := q_; subst q2_)
 have q_ := x1.cq (w.heap.size) 1
 generalize c_x1_0_1 : x1.val.cell? ⟨w.heap.size, 1, none⟩ = q at q_
 first | (have q2_ : q = some _ := q_; subst q2_) | (simp [go_sem] at q_; have q2_ : q = some _ := q_; subst q2_) | (simp [go_sem, *] at q_; have q2_ : q = some _ := q_; subst q2_)
 have q_ := x1.zq (w.heap.size) 1
 generalize z_x1_0_1 : x1.val.frozen? ⟨w.heap.size, 1, none⟩ = q at q_
 first | (have q2_ : q = false := q_; subst q2_) | (simp [go_sem] at q_; have q2_ : q = false := q_; subst q2_) | (simp [go_sem, *] at q_; have q2_ : q = false := q_; subst q2_)
 have l_x1_1 : (w.heap.size+1) < x1.val.heap.size := by omega
 have m_x1_1 : (w.heap.size+1) < x1.val.heap.size + 1 := by omega
 have q_ := x1.cq ((w.heap.size+1)) 0
 generalize c_x1_1_0 : x1.val.cell? ⟨(w.heap.size+1), 0, none⟩ = q at q_
 first | (have q2_ : q = some _ := q_; subst q2_) | (simp [go_sem] at q_; have q2_ : q = some _ := q_; subst q2_) | (simp [go_sem, *] at q_; have q2_ : q = some _ := q_; subst q2_)
 have q_ := x1.zq ((w.heap.size+1)) 0
 generalize z_x1_1_0 : x1.val.frozen? ⟨(w.heap.size+1), 0, none⟩ = q at q_
 first | (have q2_ : q = false := q_; subst q2_) | (simp [go_sem] at q_; have q2_ : q = false := q_; subst q2_) | (simp [go_sem, *] at q_; have q2_ : q = false := q_; subst q2_)
 have q_ := x1.cq ((w.heap.size+1)) 1
 generalize c_x1_1_1 : x1.val.cell? ⟨(w.heap.size+1), 1, none⟩ = q at q_
 first | (have q2_ : q = some _ := q_; subst q2_) | (simp [go_sem] at q_; have q2_ : q = some _ := q_; subst q2_) | (simp [go_sem, *] at q_; have q2_ : q = some _ := q_; subst q2_)
 have q_ := x1.zq ((w.heap.size+1)) 1
 generalize z_x1_1_1 : x1.val.frozen? ⟨(w.heap.size+1), 1, none⟩ = q at q_
 first | (have q2_ : q = false := q_; subst q2_) | (simp [go_sem] at q_; have q2_ : q = false := q_; subst q2_) | (simp [go_sem, *] at q_; have q2_ : q = false := q_; subst q2_)
 go_wp2_with fail
 refine (K2.out _).mono ?_
 rintro e_x2 w_x2 ⟨rfl, hb_x2⟩
 obtain ⟨x2, rfl⟩ := later_is hb_x2
 clear hb_x2
 have hz_x2 := x2.bel.size
 try simp at hz_x2
 replace c_x1_0_0 := x2.carry c_x1_0_0
 replace c_x1_0_1 := x2.carry c_x1_0_1
 replace c_x1_1_0 := x2.carry c_x1_1_0
 replace c_x1_1_1 := x2.carry c_x1_1_1
 have lc_x2_0 : w.heap.size < x2.val.heap.size := by omega
 have mc_x2_0 : w.heap.size < x2.val.heap.size + 1 := by omega
 have lc_x2_1 : (w.heap.size+1) < x2.val.heap.size := by omega
 have mc_x2_1 : (w.heap.size+1) < x2.val.heap.size + 1 := by omega
 go_upto_region 3 with fail
 refine wp_region_lat (by kernel_rfl) (by kernel_rfl) ?_
 repeat (go_big_quiet_step (fail))
 go_big_quiet_step (exact later_same (P1.out _))
 repeat (go_big_quiet_step (fail))
 go_big_quiet_step (exact later_same (P2.out _))
 repeat (go_big_quiet_step (fail))
 refine wpQuiet_nil ?_
 rintro _ ⟨x3, rfl⟩
 have hz_x3 := x3.bel.size
 try simp at hz_x3
 go_wp2
 go_ret
 exact ⟨rfl, belo⟩
end Go.Proofs.Ythhokpaidekmnaa
