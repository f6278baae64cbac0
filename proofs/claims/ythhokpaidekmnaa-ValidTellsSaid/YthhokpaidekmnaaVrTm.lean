/- Layer 15, the document's answer: Times (layer 12). -/
import Derived.Test.YthhokpaidekmnaaVrTmLaw
import Derived.BigQuiet
import Derived.Deep.DeepCutAuto
import Derived.Deep.CutBlock
namespace Go.Proofs.Ythhokpaidekmnaa
open Go.RowKit
set_option linter.unusedVariables false
set_option linter.unusedSimpArgs false
set_option maxRecDepth 100000
attribute [local go_sem] Later.cell Later.frozen setCell_twice
theorem tdivN {a b q : Nat} (h : a / b = q) : (a : Int).tdiv (b : Int) = (q : Int) := by rw [← h]; simp
theorem ediv_N {a b q : Nat} (h : a / b = q) : (a : Int) / (b : Int) = (q : Int) := by rw [← h]; simp
theorem mil_abs_at {n : Int} {d nn : Nat} (h : n.natAbs = nn) : (Vd.mil ⟨n, d⟩).natAbs = nn * 10 ^ (6 - d) := by rw [mil_abs, h]
set_option maxHeartbeats 16000000 in
theorem rtimes_any (n : Int) (d num den : Nat) (w : World) (h1 : Dc.Fit ⟨n, d⟩) (hm : num < 9223372036854775808) (hd : den < 9223372036854775808) : Calls Try.prog 51 #[dcV n d, .int .i64 (num : Int), .int .i64 (den : Int)] w fun e w' => e = .returned (decV (Vd.times ⟨n, d⟩ num den)) ∧ Below w.heap.size w w' := by
 have k1 := fun w => rrightD_any n d w h1.1 h1.2.1
 have hdd : d < 256 := h1.2.2
 obtain ⟨rv, hrv⟩ : ∃ rv, decV (Vd.times ⟨n, d⟩ num den) = rv := ⟨_, rfl⟩
 rw [hrv]
 unfold dcV
 have hfr : Vd.facOk ⟨n, d⟩ num den = (Vd.rightD ⟨n, d⟩ && decide (1 ≤ num ∧ num ≤ 1000000000 ∧ 1 ≤ den ∧ den ≤ 1000000000)) := rfl
 cases hr : Vd.rightD ⟨n, d⟩
 ·rw [hr] at k1
  have K1 := Lib.hid k1
  obtain rfl : decV none = rv := by rw [← hrv]; unfold Vd.times; rw [hfr, hr, Bool.false_and, if_neg (by decide)]
  clear k1 hr h1 hdd hrv hfr
  go_enter Try.func51, Try.ntmps51
  go_wp2_with fail
  with_reducible refine (K1.out _).mono ?_
  rintro e_x1 w_x1 ⟨rfl, hb_x1⟩
  obtain ⟨x1, rfl⟩ := later_is hb_x1
  clear hb_x1
  have hz_x1 := x1.bel.size
  try simp at hz_x1
  have l_x1_0 : w.heap.size < x1.val.heap.size := by omega
  have m_x1_0 : w.heap.size < x1.val.heap.size + 1 := by omega
  have q_ := x1.cq (w.heap.size) 0
  generalize c_x1_0_0 : x1.val.cell? ⟨w.heap.size, 0, none⟩ = q at q_
  first | (have q2_ : q = some _ := q_; subst q2_) | (simp [go_sem] at q_; have q2_ : q = some _ := q_; subst q2_) | (simp [go_sem, *] at q_; have q2_ : q = some _ := q_; subst q2_)
  have q_ := x1.zq (w.heap.size) 0
  generalize z_x1_0_0 : x1.val.frozen? ⟨w.heap.size, 0, none⟩ = q at q_
  first | (have q2_ : q = false := q_; subst q2_) | (simp [go_sem] at q_; have q2_ : q = false := q_; subst q2_) | (simp [go_sem, *] at q_; have q2_ : q = false := q_; subst q2_)
  have q_ := x1.cq (w.heap.size) 1
  generalize c_x1_0_1 : x1.val.cell? ⟨w.heap.size, 1, none⟩ = q at q_
  first | (have q2_ : q = some _ := q_; subst q2_) | (simp [go_sem] at q_; have q2_ : q = some _ := q_; subst q2_) | (simp [go_sem, *] at q_; have q2_ : q = some _ := q_; subst q2_)
  have q_ := x1.zq (w.heap.size) 1
  generalize z_x1_0_1 : x1.val.frozen? ⟨w.heap.size, 1, none⟩ = q at q_
  first | (have q2_ : q = false := q_; subst q2_) | (simp [go_sem] at q_; have q2_ : q = false := q_; subst q2_) | (simp [go_sem, *] at q_; have q2_ : q = false := q_; subst q2_)
  have l_x1_1 : (w.heap.size+1) < x1.val.heap.size := by omega
  have m_x1_1 : (w.heap.size+1) < x1.val.heap.size + 1 := by omega
  have q_ := x1.cq ((w.heap.size+1)) 0
  generalize c_x1_1_0 : x1.val.cell? ⟨(w.heap.size+1), 0, none⟩ = q at q_
  first | (have q2_ : q = some _ := q_; subst q2_) | (simp [go_sem] at q_; have q2_ : q = some _ := q_; subst q2_) | (simp [go_sem, *] at q_; have q2_ : q = some _ := q_; subst q2_)
  have q_ := x1.zq ((w.heap.size+1)) 0
  generalize z_x1_1_0 : x1.val.frozen? ⟨(w.heap.size+1), 0, none⟩ = q at q_
  first | (have q2_ : q = false := q_; subst q2_) | (simp [go_sem] at q_; have q2_ : q = false := q_; subst q2_) | (simp [go_sem, *] at q_; have q2_ : q = false := q_; subst q2_)
  have q_ := x1.cq ((w.heap.size+1)) 1
  generalize c_x1_1_1 : x1.val.cell? ⟨(w.heap.size+1), 1, none⟩ = q at q_
  first | (have q2_ : q = some _ := q_; subst q2_) | (simp [go_sem] at q_; have q2_ : q = some _ := q_; subst q2_) | (simp [go_sem, *] at q_; have q2_ : q = some _ := q_; subst q2_)
  have q_ := x1.zq ((w.heap.size+1)) 1
  generalize z_x1_1_1 : x1.val.frozen? ⟨(w.heap.size+1), 1, none⟩ = q at q_
  first | (have q2_ : q = false := q_; subst q2_) | (simp [go_sem] at q_; have q2_ : q = false := q_; subst q2_) | (simp [go_sem, *] at q_; have q2_ : q = false := q_; subst q2_)
  go_wp2
  refine bodyPost_ret (v := .tuple #[dcV 0 0, .bool false]) (by simp [results, Try.results51, go_sem, *]) rfl ⟨rfl, belo⟩
 rw [hr] at k1
 have K1 := Lib.hid k1
 obtain ⟨a1, a2, a3, _⟩ := rightD_out hr
 have HFR := hfr
 rw [hr, Bool.true_and] at HFR
 clear k1 h1
 by_cases c1 : num < 1
 ·obtain rfl : decV none = rv := by rw [← hrv]; unfold Vd.times; rw [hfr, decide_eq_false (show ¬ (1 ≤ num ∧ num ≤ 1000000000 ∧ 1 ≤ den ∧ den ≤ 1000000000) by omega), Bool.and_false, if_neg (by decide)]
  have g1 : decide ((num : Int) < 1) = true := decide_eq_true (by omega)
  clear c1 hr hfr HFR
  go_enter Try.func51, Try.ntmps51
  go_wp2_with fail
  with_reducible refine (K1.out _).mono ?_
  rintro e_x1 w_x1 ⟨rfl, hb_x1⟩
  obtain ⟨x1, rfl⟩ := later_is hb_x1
  clear hb_x1
  have hz_x1 := x1.bel.size
  try simp at hz_x1
  have l_x1_0 : w.heap.size < x1.val.heap.size := by omega
  have m_x1_0 : w.heap.size < x1.val.heap.size + 1 := by omega
  have q_ := x1.cq (w.heap.size) 0
  generalize c_x1_0_0 : x1.val.cell? ⟨w.heap.size, 0, none⟩ = q at q_
  first | (have q2_ : q = some _ := q_; subst q2_) | (simp [go_sem] at q_; have q2_ : q = some _ := q_; subst q2_) | (simp [go_sem, *] at q_; have q2_ : q = some _ := q_; subst q2_)
  have q_ := x1.zq (w.heap.size) 0
  generalize z_x1_0_0 : x1.val.frozen? ⟨w.heap.size, 0, none⟩ = q at q_
  first | (have q2_ : q = false := q_; subst q2_) | (simp [go_sem] at q_; have q2_ : q = false := q_; subst q2_) | (simp [go_sem, *] at q_; have q2_ : q = false := q_; subst q2_)
  have q_ := x1.cq (w.heap.size) 1
  generalize c_x1_0_1 : x1.val.cell? ⟨w.heap.size, 1, none⟩ = q at q_
  first | (have q2_ : q = some _ := q_; subst q2_) | (simp [go_sem] at q_; have q2_ : q = some _ := q_; subst q2_) | (simp [go_sem, *] at q_; have q2_ : q = some _ := q_; subst q2_)
  have q_ := x1.zq (w.heap.size) 1
  generalize z_x1_0_1 : x1.val.frozen? ⟨w.heap.size, 1, none⟩ = q at q_
  first | (have q2_ : q = false := q_; subst q2_) | (simp [go_sem] at q_; have q2_ : q = false := q_; subst q2_) | (simp [go_sem, *] at q_; have q2_ : q = false := q_; subst q2_)
  have l_x1_1 : (w.heap.size+1) < x1.val.heap.size := by omega
  have m_x1_1 : (w.heap.size+1) < x1.val.heap.size + 1 := by omega
  have q_ := x1.cq ((w.heap.size+1)) 0
  generalize c_x1_1_0 : x1.val.cell? ⟨(w.heap.size+1), 0, none⟩ = q at q_
  first | (have q2_ : q = some _ := q_; subst q2_) | (simp [go_sem] at q_; have q2_ : q = some _ := q_; subst q2_) | (simp [go_sem, *] at q_; have q2_ : q = some _ := q_; subst q2_)
  have q_ := x1.zq ((w.heap.size+1)) 0
  generalize z_x1_1_0 : x1.val.frozen? ⟨(w.heap.size+1), 0, none⟩ = q at q_
  first | (have q2_ : q = false := q_; subst q2_) | (simp [go_sem] at q_; have q2_ : q = false := q_; subst q2_) | (simp [go_sem, *] at q_; have q2_ : q = false := q_; subst q2_)
  have q_ := x1.cq ((w.heap.size+1)) 1
  generalize c_x1_1_1 : x1.val.cell? ⟨(w.heap.size+1), 1, none⟩ = q at q_
  first | (have q2_ : q = some _ := q_; subst q2_) | (simp [go_sem] at q_; have q2_ : q = some _ := q_; subst q2_) | (simp [go_sem, *] at q_; have q2_ : q = some _ := q_; subst q2_)
  have q_ := x1.zq ((w.heap.size+1)) 1
  generalize z_x1_1_1 : x1.val.frozen? ⟨(w.heap.size+1), 1, none⟩ = q at q_
  first | (have q2_ : q = false := q_; subst q2_) | (simp [go_sem] at q_; have q2_ : q = false := q_; subst q2_) | (simp [go_sem, *] at q_; have q2_ : q = false := q_; subst q2_)
  go_wp2
  refine bodyPost_ret (v := .tuple #[dcV 0 0, .bool false]) (by simp [results, Try.results51, go_sem, *]) rfl ⟨rfl, belo⟩
 have g1 : decide ((num : Int) < 1) = false := decide_eq_false (by omega)
 by_cases c2 : 1000000000 < num
 ·obtain rfl : decV none = rv := by rw [← hrv]; unfold Vd.times; rw [hfr, decide_eq_false (show ¬ (1 ≤ num ∧ num ≤ 1000000000 ∧ 1 ≤ den ∧ den ≤ 1000000000) by omega), Bool.and_false, if_neg (by decide)]
  have g2 : decide ((1000000000 : Int) < (num : Int)) = true := decide_eq_true (by omega)
  clear c1 c2 hr hfr HFR
  go_enter Try.func51, Try.ntmps51
  go_wp2_with fail
  with_reducible refine (K1.out _).mono ?_
  rintro e_x1 w_x1 ⟨rfl, hb_x1⟩
  obtain ⟨x1, rfl⟩ := later_is hb_x1
  clear hb_x1
  have hz_x1 := x1.bel.size
  try simp at hz_x1
  have l_x1_0 : w.heap.size < x1.val.heap.size := by omega
  have m_x1_0 : w.heap.size < x1.val.heap.size + 1 := by omega
  have q_ := x1.cq (w.heap.size) 0
  generalize c_x1_0_0 : x1.val.cell? ⟨w.heap.size, 0, none⟩ = q at q_
  first | (have q2_ : q = some _ := q_; subst q2_) | (simp [go_sem] at q_; have q2_ : q = some _ := q_; subst q2_) | (simp [go_sem, *] at q_; have q2_ : q = some _ := q_; subst q2_)
  have q_ := x1.zq (w.heap.size) 0
  generalize z_x1_0_0 : x1.val.frozen? ⟨w.heap.size, 0, none⟩ = q at q_
  first | (have q2_ : q = false := q_; subst q2_) | (simp [go_sem] at q_; have q2_ : q = false := q_; subst q2_) | (simp [go_sem, *] at q_; have q2_ : q = false := q_; subst q2_)
  have q_ := x1.cq (w.heap.size) 1
  generalize c_x1_0_1 : x1.val.cell? ⟨w.heap.size, 1, none⟩ = q at q_
  first | (have q2_ : q = some _ := q_; subst q2_) | (simp [go_sem] at q_; have q2_ : q = some _ := q_; subst q2_) | (simp [go_sem, *] at q_; have q2_ : q = some _ := q_; subst q2_)
  have q_ := x1.zq (w.heap.size) 1
  generalize z_x1_0_1 : x1.val.frozen? ⟨w.heap.size, 1, none⟩ = q at q_
  first | (have q2_ : q = false := q_; subst q2_) | (simp [go_sem] at q_; have q2_ : q = false := q_; subst q2_) | (simp [go_sem, *] at q_; have q2_ : q = false := q_; subst q2_)
  have l_x1_1 : (w.heap.size+1) < x1.val.heap.size := by omega
  have m_x1_1 : (w.heap.size+1) < x1.val.heap.size + 1 := by omega
  have q_ := x1.cq ((w.heap.size+1)) 0
  generalize c_x1_1_0 : x1.val.cell? ⟨(w.heap.size+1), 0, none⟩ = q at q_
  first | (have q2_ : q = some _ := q_; subst q2_) | (simp [go_sem] at q_; have q2_ : q = some _ := q_; subst q2_) | (simp [go_sem, *] at q_; have q2_ : q = some _ := q_; subst q2_)
  have q_ := x1.zq ((w.heap.size+1)) 0
  generalize z_x1_1_0 : x1.val.frozen? ⟨(w.heap.size+1), 0, none⟩ = q at q_
  first | (have q2_ : q = false := q_; subst q2_) | (simp [go_sem] at q_; have q2_ : q = false := q_; subst q2_) | (simp [go_sem, *] at q_; have q2_ : q = false := q_; subst q2_)
  have q_ := x1.cq ((w.heap.size+1)) 1
  generalize c_x1_1_1 : x1.val.cell? ⟨(w.heap.size+1), 1, none⟩ = q at q_
  first | (have q2_ : q = some _ := q_; subst q2_) | (simp [go_sem] at q_; have q2_ : q = some _ := q_; subst q2_) | (simp [go_sem, *] at q_; have q2_ : q = some _ := q_; subst q2_)
  have q_ := x1.zq ((w.heap.size+1)) 1
  generalize z_x1_1_1 : x1.val.frozen? ⟨(w.heap.size+1), 1, none⟩ = q at q_
  first | (have q2_ : q = false := q_; subst q2_) | (simp [go_sem] at q_; have q2_ : q = false := q_; subst q2_) | (simp [go_sem, *] at q_; have q2_ : q = false := q_; subst q2_)
  go_wp2
  refine bodyPost_ret (v := .tuple #[dcV 0 0, .bool false]) (by simp [results, Try.results51, go_sem, *]) rfl ⟨rfl, belo⟩
 have g2 : decide ((1000000000 : Int) < (num : Int)) = false := decide_eq_false (by omega)
 by_cases c3 : den < 1
 ·obtain rfl : decV none = rv := by rw [← hrv]; unfold Vd.times; rw [hfr, decide_eq_false (show ¬ (1 ≤ num ∧ num ≤ 1000000000 ∧ 1 ≤ den ∧ den ≤ 1000000000) by omega), Bool.and_false, if_neg (by decide)]
  have g3 : decide ((den : Int) < 1) = true := decide_eq_true (by omega)
  clear c1 c2 c3 hr hfr HFR
  go_enter Try.func51, Try.ntmps51
  go_wp2_with fail
  with_reducible refine (K1.out _).mono ?_
  rintro e_x1 w_x1 ⟨rfl, hb_x1⟩
  obtain ⟨x1, rfl⟩ := later_is hb_x1
  clear hb_x1
  have hz_x1 := x1.bel.size
  try simp at hz_x1
  have l_x1_0 : w.heap.size < x1.val.heap.size := by omega
  have m_x1_0 : w.heap.size < x1.val.heap.size + 1 := by omega
  have q_ := x1.cq (w.heap.size) 0
  generalize c_x1_0_0 : x1.val.cell? ⟨w.heap.size, 0, none⟩ = q at q_
  first | (have q2_ : q = some _ := q_; subst q2_) | (simp [go_sem] at q_; have q2_ : q = some _ := q_; subst q2_) | (simp [go_sem, *] at q_; have q2_ : q = some _ := q_; subst q2_)
  have q_ := x1.zq (w.heap.size) 0
  generalize z_x1_0_0 : x1.val.frozen? ⟨w.heap.size, 0, none⟩ = q at q_
  first | (have q2_ : q = false := q_; subst q2_) | (simp [go_sem] at q_; have q2_ : q = false := q_; subst q2_) | (simp [go_sem, *] at q_; have q2_ : q = false := q_; subst q2_)
  have q_ := x1.cq (w.heap.size) 1
  generalize c_x1_0_1 : x1.val.cell? ⟨w.heap.size, 1, none⟩ = q at q_
  first | (have q2_ : q = some _ := q_; subst q2_) | (simp [go_sem] at q_; have q2_ : q = some _ := q_; subst q2_) | (simp [go_sem, *] at q_; have q2_ : q = some _ := q_; subst q2_)
  have q_ := x1.zq (w.heap.size) 1
  generalize z_x1_0_1 : x1.val.frozen? ⟨w.heap.size, 1, none⟩ = q at q_
  first | (have q2_ : q = false := q_; subst q2_) | (simp [go_sem] at q_; have q2_ : q = false := q_; subst q2_) | (simp [go_sem, *] at q_; have q2_ : q = false := q_; subst q2_)
  have l_x1_1 : (w.heap.size+1) < x1.val.heap.size := by omega
  have m_x1_1 : (w.heap.size+1) < x1.val.heap.size + 1 := by omega
  have q_ := x1.cq ((w.heap.size+1)) 0
  generalize c_x1_1_0 : x1.val.cell? ⟨(w.heap.size+1), 0, none⟩ = q at q_
  first | (have q2_ : q = some _ := q_; subst q2_) | (simp [go_sem] at q_; have q2_ : q = some _ := q_; subst q2_) | (simp [go_sem, *] at q_; have q2_ : q = some _ := q_; subst q2_)
  have q_ := x1.zq ((w.heap.size+1)) 0
  generalize z_x1_1_0 : x1.val.frozen? ⟨(w.heap.size+1), 0, none⟩ = q at q_
  first | (have q2_ : q = false := q_; subst q2_) | (simp [go_sem] at q_; have q2_ : q = false := q_; subst q2_) | (simp [go_sem, *] at q_; have q2_ : q = false := q_; subst q2_)
  have q_ := x1.cq ((w.heap.size+1)) 1
  generalize c_x1_1_1 : x1.val.cell? ⟨(w.heap.size+1), 1, none⟩ = q at q_
  first | (have q2_ : q = some _ := q_; subst q2_) | (simp [go_sem] at q_; have q2_ : q = some _ := q_; subst q2_) | (simp [go_sem, *] at q_; have q2_ : q = some _ := q_; subst q2_)
  have q_ := x1.zq ((w.heap.size+1)) 1
  generalize z_x1_1_1 : x1.val.frozen? ⟨(w.heap.size+1), 1, none⟩ = q at q_
  first | (have q2_ : q = false := q_; subst q2_) | (simp [go_sem] at q_; have q2_ : q = false := q_; subst q2_) | (simp [go_sem, *] at q_; have q2_ : q = false := q_; subst q2_)
  go_wp2
  refine bodyPost_ret (v := .tuple #[dcV 0 0, .bool false]) (by simp [results, Try.results51, go_sem, *]) rfl ⟨rfl, belo⟩
 have g3 : decide ((den : Int) < 1) = false := decide_eq_false (by omega)
 by_cases c4 : 1000000000 < den
 ·obtain rfl : decV none = rv := by rw [← hrv]; unfold Vd.times; rw [hfr, decide_eq_false (show ¬ (1 ≤ num ∧ num ≤ 1000000000 ∧ 1 ≤ den ∧ den ≤ 1000000000) by omega), Bool.and_false, if_neg (by decide)]
  have g4 : decide ((1000000000 : Int) < (den : Int)) = true := decide_eq_true (by omega)
  clear c1 c2 c3 c4 hr hfr HFR
  go_enter Try.func51, Try.ntmps51
  go_wp2_with fail
  with_reducible refine (K1.out _).mono ?_
  rintro e_x1 w_x1 ⟨rfl, hb_x1⟩
  obtain ⟨x1, rfl⟩ := later_is hb_x1
  clear hb_x1
  have hz_x1 := x1.bel.size
  try simp at hz_x1
  have l_x1_0 : w.heap.size < x1.val.heap.size := by omega
  have m_x1_0 : w.heap.size < x1.val.heap.size + 1 := by omega
  have q_ := x1.cq (w.heap.size) 0
  generalize c_x1_0_0 : x1.val.cell? ⟨w.heap.size, 0, none⟩ = q at q_
  first | (have q2_ : q = some _ := q_; subst q2_) | (simp [go_sem] at q_; have q2_ : q = some _ := q_; subst q2_) | (simp [go_sem, *] at q_; have q2_ : q = some _ := q_; subst q2_)
  have q_ := x1.zq (w.heap.size) 0
  generalize z_x1_0_0 : x1.val.frozen? ⟨w.heap.size, 0, none⟩ = q at q_
  first | (have q2_ : q = false := q_; subst q2_) | (simp [go_sem] at q_; have q2_ : q = false := q_; subst q2_) | (simp [go_sem, *] at q_; have q2_ : q = false := q_; subst q2_)
  have q_ := x1.cq (w.heap.size) 1
  generalize c_x1_0_1 : x1.val.cell? ⟨w.heap.size, 1, none⟩ = q at q_
  first | (have q2_ : q = some _ := q_; subst q2_) | (simp [go_sem] at q_; have q2_ : q = some _ := q_; subst q2_) | (simp [go_sem, *] at q_; have q2_ : q = some _ := q_; subst q2_)
  have q_ := x1.zq (w.heap.size) 1
  generalize z_x1_0_1 : x1.val.frozen? ⟨w.heap.size, 1, none⟩ = q at q_
  first | (have q2_ : q = false := q_; subst q2_) | (simp [go_sem] at q_; have q2_ : q = false := q_; subst q2_) | (simp [go_sem, *] at q_; have q2_ : q = false := q_; subst q2_)
  have l_x1_1 : (w.heap.size+1) < x1.val.heap.size := by omega
  have m_x1_1 : (w.heap.size+1) < x1.val.heap.size + 1 := by omega
  have q_ := x1.cq ((w.heap.size+1)) 0
  generalize c_x1_1_0 : x1.val.cell? ⟨(w.heap.size+1), 0, none⟩ = q at q_
  first | (have q2_ : q = some _ := q_; subst q2_) | (simp [go_sem] at q_; have q2_ : q = some _ := q_; subst q2_) | (simp [go_sem, *] at q_; have q2_ : q = some _ := q_; subst q2_)
  have q_ := x1.zq ((w.heap.size+1)) 0
  generalize z_x1_1_0 : x1.val.frozen? ⟨(w.heap.size+1), 0, none⟩ = q at q_
  first | (have q2_ : q = false := q_; subst q2_) | (simp [go_sem] at q_; have q2_ : q = false := q_; subst q2_) | (simp [go_sem, *] at q_; have q2_ : q = false := q_; subst q2_)
  have q_ := x1.cq ((w.heap.size+1)) 1
  generalize c_x1_1_1 : x1.val.cell? ⟨(w.heap.size+1), 1, none⟩ = q at q_
  first | (have q2_ : q = some _ := q_; subst q2_) | (simp [go_sem] at q_; have q2_ : q = some _ := q_; subst q2_) | (simp [go_sem, *] at q_; have q2_ : q = some _ := q_; subst q2_)
  have q_ := x1.zq ((w.heap.size+1)) 1
  generalize z_x1_1_1 : x1.val.frozen? ⟨(w.heap.size+1), 1, none⟩ = q at q_
  first | (have q2_ : q = false := q_; subst q2_) | (simp [go_sem] at q_; have q2_ : q = false := q_; subst q2_) | (simp [go_sem, *] at q_; have q2_ : q = false := q_; subst q2_)
  go_wp2
  refine bodyPost_ret (v := .tuple #[dcV 0 0, .bool false]) (by simp [results, Try.results51, go_sem, *]) rfl ⟨rfl, belo⟩
 have g4 : decide ((1000000000 : Int) < (den : Int)) = false := decide_eq_false (by omega)
 have HFO : Hid (Vd.facOk ⟨n, d⟩ num den = true) := Lib.hid (by rw [HFR, decide_eq_true_iff]; omega)
 have RV := Lib.hid hrv
 clear hfr HFR hrv hr
 obtain ⟨nn, hnn⟩ : ∃ nn, n.natAbs = nn := ⟨_, rfl⟩
 have hnb : nn ≤ 1000000000000 := by omega
 rcases Int.lt_trichotomy n 0 with hneg | hz | hpos
 ·have t0 : decide (n < 0) = true := decide_eq_true hneg
  have hnn1 : 1 ≤ nn := by omega
  have t1 : -n = (nn : Int) := by omega
  have t2 : IntKind.i64.wrap (nn : Int) = (nn : Int) := IntWalk.i64_in _ (by omega)
  have t3 : ((nn : Int) == 0) = false := beq_eq_false_iff_ne.2 (by omega)
  have NEG := Lib.hid hneg
  clear hneg
  obtain ⟨g1, hg1⟩ : ∃ g, Nat.gcd nn den = g := ⟨_, rfl⟩
  obtain ⟨n1, hn1⟩ : ∃ q, nn / g1 = q := ⟨_, rfl⟩
  obtain ⟨den1, hden1⟩ : ∃ q, den / g1 = q := ⟨_, rfl⟩
  obtain ⟨g2, hg2⟩ : ∃ g, Nat.gcd num den1 = g := ⟨_, rfl⟩
  obtain ⟨num1, hnum1⟩ : ∃ q, num / g2 = q := ⟨_, rfl⟩
  obtain ⟨den2, hden2⟩ : ∃ q, den1 / g2 = q := ⟨_, rfl⟩
  obtain ⟨ten, hten⟩ : ∃ q, 10 ^ d = q := ⟨_, rfl⟩
  obtain ⟨g3, hg3⟩ : ∃ g, Nat.gcd num1 ten = g := ⟨_, rfl⟩
  obtain ⟨num2, hnum2⟩ : ∃ q, num1 / g3 = q := ⟨_, rfl⟩
  obtain ⟨ten1, hten1⟩ : ∃ q, ten / g3 = q := ⟨_, rfl⟩
  obtain ⟨g4, hg4⟩ : ∃ g, Nat.gcd n1 ten1 = g := ⟨_, rfl⟩
  obtain ⟨n2, hn2⟩ : ∃ q, n1 / g4 = q := ⟨_, rfl⟩
  obtain ⟨ten2, hten2⟩ : ∃ q, ten1 / g4 = q := ⟨_, rfl⟩
  have htb := pow10_le (k := d) a3
  rw [hten] at htb
  obtain ⟨hI, hnp, hnl⟩ := TmI.start (N := nn) (num0 := num) (den0 := den) (d := d) (n1 := n1) (den1 := den1) (num1 := num1) (den2 := den2) (num2 := num2) (ten1 := ten1) (n2 := n2) (ten2 := ten2) a3 hnn1 (by omega) (by omega)
   (by rw [hg1, hn1]) (by rw [hg1, hden1]) (by rw [hg2, hnum1]) (by rw [hg2, hden2]) (by rw [hten, hg3, hnum2]) (by rw [hten, hg3, hten1]) (by rw [hg4, hn2]) (by rw [hg4, hten2])
  rw [← mil_abs_at hnn] at hI
  have hg1p : 1 ≤ g1 := hg1 ▸ Nat.gcd_pos_of_pos_left _ hnn1
  have hg2p : 1 ≤ g2 := hg2 ▸ Nat.gcd_pos_of_pos_left _ (by omega)
  have hn1b : n1 ≤ nn := hn1 ▸ Nat.div_le_self _ _
  have hden1b : den1 ≤ den := hden1 ▸ Nat.div_le_self _ _
  have hnum1b : num1 ≤ num := hnum1 ▸ Nat.div_le_self _ _
  have hden2b : den2 ≤ den1 := hden2 ▸ Nat.div_le_self _ _
  have hnum1p : 1 ≤ num1 := by
   rcases Nat.eq_zero_or_pos num1 with h0 | h0
   ·rw [h0, Nat.zero_div] at hnum2; omega
   ·exact h0
  have hg3p : 1 ≤ g3 := hg3 ▸ Nat.gcd_pos_of_pos_left _ hnum1p
  have hn1p : 1 ≤ n1 := by
   rcases Nat.eq_zero_or_pos n1 with h0 | h0
   ·rw [h0, Nat.zero_div] at hn2; have := hI.n1; omega
   ·exact h0
  have hg4p : 1 ≤ g4 := hg4 ▸ Nat.gcd_pos_of_pos_left _ hn1p
  have hten1b : ten1 ≤ ten := hten1 ▸ Nat.div_le_self _ _
  have hten2b : ten2 ≤ ten1 := hten2 ▸ Nat.div_le_self _ _
  have hn2b : n2 ≤ n1 := hn2 ▸ Nat.div_le_self _ _
  obtain ⟨b0, hb0⟩ : ∃ b, den2 * ten2 = b := ⟨_, rfl⟩
  have hb0b : b0 ≤ 1000000000000000 := by
   rw [← hb0]
   exact Nat.le_trans (Nat.mul_le_mul (show den2 ≤ 1000000000 by omega) (show ten2 ≤ 1000000 by omega)) (by decide)
  rw [hb0] at hI
  have mb : (den2 : Int) * (ten2 : Int) = (b0 : Int) := by rw [← hb0]; simp
  have mb2 : IntKind.i64.wrap (b0 : Int) = (b0 : Int) := IntWalk.i64_in _ (by omega)
  have C1 := Lib.hid (fun w => common_any nn den g1 w (by omega) (by omega) hg1)
  have C2 := Lib.hid (fun w => common_any num den1 g2 w (by omega) (by omega) hg2)
  have C3 := Lib.hid (fun w => common_any num1 ten g3 w (by omega) (by omega) hg3)
  have C4 := Lib.hid (fun w => common_any n1 ten1 g4 w (by omega) (by omega) hg4)
  have q1a : (nn : Int).tdiv (g1 : Int) = (n1 : Int) := tdivN hn1
  have q1b : (nn : Int) / (g1 : Int) = (n1 : Int) := ediv_N hn1
  have q1c : IntKind.i64.wrap (n1 : Int) = (n1 : Int) := IntWalk.i64_in _ (by omega)
  have q2a : (den : Int).tdiv (g1 : Int) = (den1 : Int) := tdivN hden1
  have q2b : (den : Int) / (g1 : Int) = (den1 : Int) := ediv_N hden1
  have q2c : IntKind.i64.wrap (den1 : Int) = (den1 : Int) := IntWalk.i64_in _ (by omega)
  have q3a : (num : Int).tdiv (g2 : Int) = (num1 : Int) := tdivN hnum1
  have q3b : (num : Int) / (g2 : Int) = (num1 : Int) := ediv_N hnum1
  have q3c : IntKind.i64.wrap (num1 : Int) = (num1 : Int) := IntWalk.i64_in _ (by omega)
  have q4a : (den1 : Int).tdiv (g2 : Int) = (den2 : Int) := tdivN hden2
  have q4b : (den1 : Int) / (g2 : Int) = (den2 : Int) := ediv_N hden2
  have q4c : IntKind.i64.wrap (den2 : Int) = (den2 : Int) := IntWalk.i64_in _ (by omega)
  have q5a : (num1 : Int).tdiv (g3 : Int) = (num2 : Int) := tdivN hnum2
  have q5b : (num1 : Int) / (g3 : Int) = (num2 : Int) := ediv_N hnum2
  have q5c : IntKind.i64.wrap (num2 : Int) = (num2 : Int) := IntWalk.i64_in _ (by omega)
  have q6a : (ten : Int).tdiv (g3 : Int) = (ten1 : Int) := tdivN hten1
  have q6b : (ten : Int) / (g3 : Int) = (ten1 : Int) := ediv_N hten1
  have q6c : IntKind.i64.wrap (ten1 : Int) = (ten1 : Int) := IntWalk.i64_in _ (by omega)
  have q7a : (n1 : Int).tdiv (g4 : Int) = (n2 : Int) := tdivN hn2
  have q7b : (n1 : Int) / (g4 : Int) = (n2 : Int) := ediv_N hn2
  have q7c : IntKind.i64.wrap (n2 : Int) = (n2 : Int) := IntWalk.i64_in _ (by omega)
  have q8a : (ten1 : Int).tdiv (g4 : Int) = (ten2 : Int) := tdivN hten2
  have q8b : (ten1 : Int) / (g4 : Int) = (ten2 : Int) := ediv_N hten2
  have q8c : IntKind.i64.wrap (ten2 : Int) = (ten2 : Int) := IntWalk.i64_in _ (by omega)
  have g1z : ((g1 : Int) == 0) = false := beq_eq_false_iff_ne.2 (by omega)
  have g1y : (g1 : Int) ≠ 0 := by omega
  have g2z : ((g2 : Int) == 0) = false := beq_eq_false_iff_ne.2 (by omega)
  have g2y : (g2 : Int) ≠ 0 := by omega
  have g3z : ((g3 : Int) == 0) = false := beq_eq_false_iff_ne.2 (by omega)
  have g3y : (g3 : Int) ≠ 0 := by omega
  have g4z : ((g4 : Int) == 0) = false := beq_eq_false_iff_ne.2 (by omega)
  have g4y : (g4 : Int) ≠ 0 := by omega
  have HI := Lib.hid hI
  have HTEN := Lib.hid hten
  have HNP := Lib.hid hnp
  clear hg1 hg2 hg3 hg4 hn1 hden1 hnum1 hden2 hnum2 hten1 hn2 hten2 hten hI hb0 hn1b hden1b hnum1b hden2b hnum1p hn1p hten1b hten2b hn2b hg1p hg2p hg3p hg4p htb
  go_enter Try.func51, Try.ntmps51
  go_wp2_with fail
  with_reducible refine (K1.out _).mono ?_
  rintro e_x1 w_x1 ⟨rfl, hb_x1⟩
  obtain ⟨x1, rfl⟩ := later_is hb_x1
  clear hb_x1
  have hz_x1 := x1.bel.size
  try simp at hz_x1
  have l_x1_0 : w.heap.size < x1.val.heap.size := by omega
  have m_x1_0 : w.heap.size < x1.val.heap.size + 1 := by omega
  have q_ := x1.cq (w.heap.size) 0
  generalize c_x1_0_0 : x1.val.cell? ⟨w.heap.size, 0, none⟩ = q at q_
  first | (have q2_ : q = some _ := q_; subst q2_) | (simp [go_sem] at q_; have q2_ : q = some _ := q_; subst q2_) | (simp [go_sem, *] at q_; have q2_ : q = some _ := q_; subst q2_)
  have q_ := x1.zq (w.heap.size) 0
  generalize z_x1_0_0 : x1.val.frozen? ⟨w.heap.size, 0, none⟩ = q at q_
  first | (have q2_ : q = false := q_; subst q2_) | (simp [go_sem] at q_; have q2_ : q = false := q_; subst q2_) | (simp [go_sem, *] at q_; have q2_ : q = false := q_; subst q2_)
  have q_ := x1.cq (w.heap.size) 1
  generalize c_x1_0_1 : x1.val.cell? ⟨w.heap.size, 1, none⟩ = q at q_
  first | (have q2_ : q = some _ := q_; subst q2_) | (simp [go_sem] at q_; have q2_ : q = some _ := q_; subst q2_) | (simp [go_sem, *] at q_; have q2_ : q = some _ := q_; subst q2_)
  have q_ := x1.zq (w.heap.size) 1
  generalize z_x1_0_1 : x1.val.frozen? ⟨w.heap.size, 1, none⟩ = q at q_
  first | (have q2_ : q = false := q_; subst q2_) | (simp [go_sem] at q_; have q2_ : q = false := q_; subst q2_) | (simp [go_sem, *] at q_; have q2_ : q = false := q_; subst q2_)
  have l_x1_1 : (w.heap.size+1) < x1.val.heap.size := by omega
  have m_x1_1 : (w.heap.size+1) < x1.val.heap.size + 1 := by omega
  have q_ := x1.cq ((w.heap.size+1)) 0
  generalize c_x1_1_0 : x1.val.cell? ⟨(w.heap.size+1), 0, none⟩ = q at q_
  first | (have q2_ : q = some _ := q_; subst q2_) | (simp [go_sem] at q_; have q2_ : q = some _ := q_; subst q2_) | (simp [go_sem, *] at q_; have q2_ : q = some _ := q_; subst q2_)
  have q_ := x1.zq ((w.heap.size+1)) 0
  generalize z_x1_1_0 : x1.val.frozen? ⟨(w.heap.size+1), 0, none⟩ = q at q_
  first | (have q2_ : q = false := q_; subst q2_) | (simp [go_sem] at q_; have q2_ : q = false := q_; subst q2_) | (simp [go_sem, *] at q_; have q2_ : q = false := q_; subst q2_)
  have q_ := x1.cq ((w.heap.size+1)) 1
  generalize c_x1_1_1 : x1.val.cell? ⟨(w.heap.size+1), 1, none⟩ = q at q_
  first | (have q2_ : q = some _ := q_; subst q2_) | (simp [go_sem] at q_; have q2_ : q = some _ := q_; subst q2_) | (simp [go_sem, *] at q_; have q2_ : q = some _ := q_; subst q2_)
  have q_ := x1.zq ((w.heap.size+1)) 1
  generalize z_x1_1_1 : x1.val.frozen? ⟨(w.heap.size+1), 1, none⟩ = q at q_
  first | (have q2_ : q = false := q_; subst q2_) | (simp [go_sem] at q_; have q2_ : q = false := q_; subst q2_) | (simp [go_sem, *] at q_; have q2_ : q = false := q_; subst q2_)
  go_wp2_with fail
  with_reducible refine (C1.out _).mono ?_
  rintro e_x2 w_x2 ⟨rfl, hb_x2⟩
  obtain ⟨x2, rfl⟩ := later_is hb_x2
  clear hb_x2
  have hz_x2 := x2.bel.size
  try simp at hz_x2
  replace c_x1_0_0 := x2.carry c_x1_0_0
  replace c_x1_0_1 := x2.carry c_x1_0_1
  replace c_x1_1_0 := x2.carry c_x1_1_0
  replace c_x1_1_1 := x2.carry c_x1_1_1
  have lc_x2_0 : w.heap.size < x2.val.heap.size := by omega
  have mc_x2_0 : w.heap.size < x2.val.heap.size + 1 := by omega
  have lc_x2_1 : (w.heap.size+1) < x2.val.heap.size := by omega
  have mc_x2_1 : (w.heap.size+1) < x2.val.heap.size + 1 := by omega
  go_upto_region 9 with fail
  go_quiet (fail)
  obtain ⟨wy, hwy⟩ : ∃ q, x2.val.drewN nq = q := ⟨_, rfl⟩
  try rw [hwy]
  have hby : Below x2.val.heap.size x2.val wy := by rw [← hwy]; exact bel_drewN (Below.refl _ _) nq
  clear hwy
  obtain ⟨y2, rfl⟩ := later_is hby
  have hz_y2 := y2.bel.size
  try simp at hz_y2
  have hz_y2 := y2.bel.size
  try simp at hz_y2
  replace c_x1_0_0 := y2.carry c_x1_0_0
  replace c_x1_0_1 := y2.carry c_x1_0_1
  replace c_x1_1_0 := y2.carry c_x1_1_0
  replace c_x1_1_1 := y2.carry c_x1_1_1
  have lc_y2_0 : w.heap.size < y2.val.heap.size := by omega
  have mc_y2_0 : w.heap.size < y2.val.heap.size + 1 := by omega
  have lc_y2_1 : (w.heap.size+1) < y2.val.heap.size := by omega
  have mc_y2_1 : (w.heap.size+1) < y2.val.heap.size + 1 := by omega
  clear hby
  go_wp2_with fail
  with_reducible refine (C2.out _).mono ?_
  rintro e_x3 w_x3 ⟨rfl, hb_x3⟩
  obtain ⟨x3, rfl⟩ := later_is hb_x3
  clear hb_x3
  have hz_x3 := x3.bel.size
  try simp at hz_x3
  replace c_x1_0_0 := x3.carry c_x1_0_0
  replace c_x1_0_1 := x3.carry c_x1_0_1
  replace c_x1_1_0 := x3.carry c_x1_1_0
  replace c_x1_1_1 := x3.carry c_x1_1_1
  have lc_x3_0 : w.heap.size < x3.val.heap.size := by omega
  have mc_x3_0 : w.heap.size < x3.val.heap.size + 1 := by omega
  have lc_x3_1 : (w.heap.size+1) < x3.val.heap.size := by omega
  have mc_x3_1 : (w.heap.size+1) < x3.val.heap.size + 1 := by omega
  go_upto_region 11 with fail
  go_quiet (fail)
  obtain ⟨wy, hwy⟩ : ∃ q, x3.val.drewN nq = q := ⟨_, rfl⟩
  try rw [hwy]
  have hby : Below x3.val.heap.size x3.val wy := by rw [← hwy]; exact bel_drewN (Below.refl _ _) nq
  clear hwy
  obtain ⟨y3, rfl⟩ := later_is hby
  have hz_y3 := y3.bel.size
  try simp at hz_y3
  have hz_y3 := y3.bel.size
  try simp at hz_y3
  replace c_x1_0_0 := y3.carry c_x1_0_0
  replace c_x1_0_1 := y3.carry c_x1_0_1
  replace c_x1_1_0 := y3.carry c_x1_1_0
  replace c_x1_1_1 := y3.carry c_x1_1_1
  have lc_y3_0 : w.heap.size < y3.val.heap.size := by omega
  have mc_y3_0 : w.heap.size < y3.val.heap.size + 1 := by omega
  have lc_y3_1 : (w.heap.size+1) < y3.val.heap.size := by omega
  have mc_y3_1 : (w.heap.size+1) < y3.val.heap.size + 1 := by omega
  clear hby
  go_upto_region 13 with fail
  go_wp2
  go_loopw [12, 11] (fun i x wr => ∃ j t : Nat, j ≤ d ∧ Hid (10 ^ j = t) ∧ i = .int .i64 (j : Int) ∧ x = .int .i64 (t : Int) ∧ wr = y3.val) (fun i _ _ => d - (RowKit.intOf i).toNat)
  case atStart => exact ⟨0, 1, by omega, Lib.hid rfl, rfl, rfl, rfl⟩
  case round =>
   rename World => wr
   obtain ⟨j, t, hj, HT, rfl, rfl, rfl⟩ := hrel
   have hs : IntKind.i64.wrap (d : Int) = (d : Int) := IntWalk.i64_in _ (by omega)
   by_cases hlt : j < d
   ·have g1 : (j : Int) < (d : Int) := by omega
    obtain ⟨t2, ht2⟩ : ∃ t2, t * 10 = t2 := ⟨_, rfl⟩
    have HT2 : Hid (10 ^ (j + 1) = t2) := Lib.hid (by rw [Nat.pow_succ, HT.out, ht2])
    have ht3 := pow10_le (k := j + 1) (by omega)
    rw [HT2.out] at ht3
    have m1 : (t : Int) * 10 = (t2 : Int) := by omega
    have m2 : IntKind.i64.wrap (t2 : Int) = (t2 : Int) := IntWalk.i64_in _ (by omega)
    clear ht2 ht3
    go_wp2
    go_roundw
    case rel => exact ⟨j + 1, t2, by omega, HT2, by go_num, by first | rfl | trivial, by first | rfl | trivial⟩
    case measure => simp [RowKit.intOf]; omega
   obtain rfl : j = d := by omega
   obtain rfl : t = ten := HT.out.symm.trans HTEN.out
   clear hlt hj HT
   go_wp2_with fail
   with_reducible refine (C3.out _).mono ?_
   rintro e_x4 w_x4 ⟨rfl, hb_x4⟩
   obtain ⟨x4, rfl⟩ := later_is hb_x4
   clear hb_x4
   have hz_x4 := x4.bel.size
   try simp at hz_x4
   replace c_x1_0_0 := x4.carry c_x1_0_0
   replace c_x1_0_1 := x4.carry c_x1_0_1
   replace c_x1_1_0 := x4.carry c_x1_1_0
   replace c_x1_1_1 := x4.carry c_x1_1_1
   have lc_x4_0 : w.heap.size < x4.val.heap.size := by omega
   have mc_x4_0 : w.heap.size < x4.val.heap.size + 1 := by omega
   have lc_x4_1 : (w.heap.size+1) < x4.val.heap.size := by omega
   have mc_x4_1 : (w.heap.size+1) < x4.val.heap.size + 1 := by omega
   go_upto_region 18 with fail
   go_quiet (fail)
   obtain ⟨wy, hwy⟩ : ∃ q, x4.val.drewN nq = q := ⟨_, rfl⟩
   try rw [hwy]
   have hby : Below x4.val.heap.size x4.val wy := by rw [← hwy]; exact bel_drewN (Below.refl _ _) nq
   clear hwy
   obtain ⟨y4, rfl⟩ := later_is hby
   have hz_y4 := y4.bel.size
   try simp at hz_y4
   have hz_y4 := y4.bel.size
   try simp at hz_y4
   replace c_x1_0_0 := y4.carry c_x1_0_0
   replace c_x1_0_1 := y4.carry c_x1_0_1
   replace c_x1_1_0 := y4.carry c_x1_1_0
   replace c_x1_1_1 := y4.carry c_x1_1_1
   have lc_y4_0 : w.heap.size < y4.val.heap.size := by omega
   have mc_y4_0 : w.heap.size < y4.val.heap.size + 1 := by omega
   have lc_y4_1 : (w.heap.size+1) < y4.val.heap.size := by omega
   have mc_y4_1 : (w.heap.size+1) < y4.val.heap.size + 1 := by omega
   clear hby
   go_wp2_with fail
   with_reducible refine (C4.out _).mono ?_
   rintro e_x5 w_x5 ⟨rfl, hb_x5⟩
   obtain ⟨x5, rfl⟩ := later_is hb_x5
   clear hb_x5
   have hz_x5 := x5.bel.size
   try simp at hz_x5
   replace c_x1_0_0 := x5.carry c_x1_0_0
   replace c_x1_0_1 := x5.carry c_x1_0_1
   replace c_x1_1_0 := x5.carry c_x1_1_0
   replace c_x1_1_1 := x5.carry c_x1_1_1
   have lc_x5_0 : w.heap.size < x5.val.heap.size := by omega
   have mc_x5_0 : w.heap.size < x5.val.heap.size + 1 := by omega
   have lc_x5_1 : (w.heap.size+1) < x5.val.heap.size := by omega
   have mc_x5_1 : (w.heap.size+1) < x5.val.heap.size + 1 := by omega
   go_upto_region 20 with fail
   go_quiet (fail)
   obtain ⟨wy, hwy⟩ : ∃ q, x5.val.drewN nq = q := ⟨_, rfl⟩
   try rw [hwy]
   have hby : Below x5.val.heap.size x5.val wy := by rw [← hwy]; exact bel_drewN (Below.refl _ _) nq
   clear hwy
   obtain ⟨y5, rfl⟩ := later_is hby
   have hz_y5 := y5.bel.size
   try simp at hz_y5
   have hz_y5 := y5.bel.size
   try simp at hz_y5
   replace c_x1_0_0 := y5.carry c_x1_0_0
   replace c_x1_0_1 := y5.carry c_x1_0_1
   replace c_x1_1_0 := y5.carry c_x1_1_0
   replace c_x1_1_1 := y5.carry c_x1_1_1
   have lc_y5_0 : w.heap.size < y5.val.heap.size := by omega
   have mc_y5_0 : w.heap.size < y5.val.heap.size + 1 := by omega
   have lc_y5_1 : (w.heap.size+1) < y5.val.heap.size := by omega
   have mc_y5_1 : (w.heap.size+1) < y5.val.heap.size + 1 := by omega
   clear hby
   have by5 : Below w.heap.size w y5.val := belo
   have hz5 : w.heap.size + 2 ≤ y5.val.heap.size := by omega
   go_wp2
   go_loopw [14, 8, 13] (fun i x y wr => ∃ k nk bk : Nat, k ≤ 7 ∧ bk ≤ 1000000000000000 ∧ Hid ((k ≤ 6 ∧ TmI nn ((Vd.mil ⟨n, j⟩).natAbs * num) den num2 k nk bk) ∨ (k = 7 ∧ Vd.times ⟨n, j⟩ num den = none)) ∧ i = .int .i64 (k : Int) ∧ x = .int .i64 (nk : Int) ∧ y = .int .i64 (bk : Int) ∧ Below (w.heap.size + 2) y5.val wr) (fun i _ _ _ => 7 - (RowKit.intOf i).toNat)
   case atStart => exact ⟨0, n2, b0, by omega, hb0b, Lib.hid (.inl ⟨by omega, HI.out⟩), rfl, rfl, rfl, Below.refl _ _⟩
   case round =>
    rename World => wz
    obtain ⟨k, nk, bk, hk7, hbk, HK, rfl, rfl, rfl, hbz⟩ := hrel
    obtain ⟨xz, hxz⟩ := later_is hbz
    have hz_xz := xz.bel.size
    obtain rfl := hxz
    have hz_xz := xz.bel.size
    try simp at hz_xz
    have l_xz_0 : (w.heap.size+1) < xz.val.heap.size := by omega
    have m_xz_0 : (w.heap.size+1) < xz.val.heap.size + 1 := by omega
    have q_ := xz.cq ((w.heap.size+1)) 0
    generalize c_xz_0_0 : xz.val.cell? ⟨(w.heap.size+1), 0, none⟩ = q at q_
    first | (have q2_ : q = some _ := q_; subst q2_) | (simp [go_sem] at q_; have q2_ : q = some _ := q_; subst q2_) | (simp [go_sem, *] at q_; have q2_ : q = some _ := q_; subst q2_)
    have q_ := xz.zq ((w.heap.size+1)) 0
    generalize z_xz_0_0 : xz.val.frozen? ⟨(w.heap.size+1), 0, none⟩ = q at q_
    first | (have q2_ : q = false := q_; subst q2_) | (simp [go_sem] at q_; have q2_ : q = false := q_; subst q2_) | (simp [go_sem, *] at q_; have q2_ : q = false := q_; subst q2_)
    have q_ := xz.cq ((w.heap.size+1)) 1
    generalize c_xz_0_1 : xz.val.cell? ⟨(w.heap.size+1), 1, none⟩ = q at q_
    first | (have q2_ : q = some _ := q_; subst q2_) | (simp [go_sem] at q_; have q2_ : q = some _ := q_; subst q2_) | (simp [go_sem, *] at q_; have q2_ : q = some _ := q_; subst q2_)
    have q_ := xz.zq ((w.heap.size+1)) 1
    generalize z_xz_0_1 : xz.val.frozen? ⟨(w.heap.size+1), 1, none⟩ = q at q_
    first | (have q2_ : q = false := q_; subst q2_) | (simp [go_sem] at q_; have q2_ : q = false := q_; subst q2_) | (simp [go_sem, *] at q_; have q2_ : q = false := q_; subst q2_)
    have hbw : Below w.heap.size w xz.val := by5.trans (hbz.mono (by omega))
    have dd : IntKind.i64.wrap (j : Int) = (j : Int) := hs
    rcases Nat.lt_or_ge 6 k with hk6 | hk6
    ·obtain rfl : k = 7 := by omega
     obtain rfl : decV none = rv := by
      rcases HK.out with ⟨h1, _⟩ | ⟨_, h2⟩
      ·omega
      ·rw [← RV.out, h2]
     clear hk6 HK
     go_wp2
     refine bodyPost_ret (v := .tuple #[dcV 0 0, .bool false]) (by simp [results, Try.results51, go_sem, *]) rfl ⟨rfl, belo⟩
    have hT : TmI nn ((Vd.mil ⟨n, j⟩).natAbs * num) den num2 k nk bk := by
     rcases HK.out with ⟨_, h1⟩ | ⟨h2, _⟩
     ·exact h1
     ·omega
    have r1 : decide ((k : Int) ≤ 6) = true := decide_eq_true (by omega)
    have hkp := pow10_le (k := k) hk6
    have hnk18 : nk ≤ 1000000000000 * 10 ^ k := Nat.le_trans hT.nb (Nat.mul_le_mul_right _ hnb)
    have hnk19 : nk ≤ 1000000000000000000 := Nat.le_trans hnk18 (Nat.mul_le_mul_left 1000000000000 hkp.2)
    by_cases hb1 : bk = 1
    ·subst hb1
     have hval := hT.one (x := ⟨n, j⟩) HFO.out (by omega)
     obtain ⟨lim, hlim⟩ : ∃ q, 4000000000000000000 / num2 = q := ⟨_, rfl⟩
     have hlim2 := Nat.div_add_mod 4000000000000000000 num2
     have hlim3 := Nat.mod_lt 4000000000000000000 (show 0 < num2 from HNP.out)
     rw [hlim] at hlim2
     have l1 : (4000000000000000000 : Int).tdiv (num2 : Int) = (lim : Int) := tdivN hlim
     have l2 : (4000000000000000000 : Int) / (num2 : Int) = (lim : Int) := ediv_N hlim
     have hlb : lim ≤ 4000000000000000000 := hlim ▸ Nat.div_le_self _ _
     have l3 : IntKind.i64.wrap (lim : Int) = (lim : Int) := IntWalk.i64_in _ (by omega)
     have l4 : ((num2 : Int) == 0) = false := beq_eq_false_iff_ne.2 (by have := HNP.out; omega)
     have l5 : (num2 : Int) ≠ 0 := by have := HNP.out; omega
     by_cases hov : lim < nk
     ·have r2 : decide (lim < nk) = true := decide_eq_true hov
      have hbig : 4000000000000000000 < nk * num2 := by
       have h1 : (lim + 1) * num2 ≤ nk * num2 := Nat.mul_le_mul_right _ hov
       rw [Nat.add_mul, Nat.one_mul, Nat.mul_comm lim] at h1
       omega
      obtain rfl : decV none = rv := by rw [← RV.out, hval, ofQ_huge hk6 hbig]
      clear hov hbig hlim hlim2 hlim3 hval hT HK hkp hnk18
      go_wp2
      refine bodyPost_ret (v := .tuple #[dcV 0 0, .bool false]) (by simp [results, Try.results51, go_sem, *]) rfl ⟨rfl, belo⟩
     have r2 : decide (lim < nk) = false := decide_eq_false hov
     obtain ⟨pr, hpr⟩ : ∃ q, nk * num2 = q := ⟨_, rfl⟩
     have hprb : pr ≤ 4000000000000000000 := by
      have h1 : nk * num2 ≤ lim * num2 := Nat.mul_le_mul_right _ (by omega)
      rw [hpr, Nat.mul_comm lim] at h1
      omega
     obtain ⟨s2, hs2⟩ : ∃ q, -(nk : Int) * (num2 : Int) = q := ⟨_, rfl⟩
     have hs2v : s2 = if n < 0 then -(pr : Int) else (pr : Int) := by
      rw [if_pos NEG.out, ← hs2, ← hpr, Int.neg_mul, ← Int.natCast_mul]
     have hs2' : -((nk : Int) * (num2 : Int)) = s2 := by rw [← Int.neg_mul]; exact hs2
     have s2b : -4000000000000000000 ≤ s2 ∧ s2 ≤ 4000000000000000000 := by rw [hs2v]; split <;> omega
     have w1 : IntKind.i64.wrap (-(nk : Int)) = -(nk : Int) := IntWalk.i64_in _ (by omega)
     have w1' : wrap64 (-(nk : Int)) = -(nk : Int) := IntWalk.wrap64_in _ (by omega)
     have w2 : IntKind.i64.wrap s2 = s2 := IntWalk.i64_in _ (by omega)
     have w2' : wrap64 s2 = s2 := IntWalk.wrap64_in _ (by omega)
     have OF := Lib.hid (fun w => rof_any s2 k w (by omega) hk6)
     have hRV : decV (Vd.ofI s2 k) = rv := by rw [← RV.out, hval, hpr, ofQ_of hk6, hs2v]
     cases hofi : Vd.ofI s2 k with
     | none =>
      rw [hofi] at OF hRV
      subst hRV
      unfold decV at OF
      clear hov hlim hlim2 hlim3 hval hT HK hkp hnk18 hs2v hpr hofi
      go_wp2_with fail
      with_reducible refine (OF.out _).mono ?_
      rintro e_x9 w_x9 ⟨rfl, hb_x9⟩
      obtain ⟨x9, rfl⟩ := later_is hb_x9
      clear hb_x9
      have hz_x9 := x9.bel.size
      try simp at hz_x9
      replace c_xz_0_0 := x9.carry c_xz_0_0
      replace c_xz_0_1 := x9.carry c_xz_0_1
      have lc_x9_0 : (w.heap.size+1) < x9.val.heap.size := by omega
      have mc_x9_0 : (w.heap.size+1) < x9.val.heap.size + 1 := by omega
      go_wp2
      refine bodyPost_ret (v := .tuple #[dcV 0 0, .bool false]) (by simp [results, Try.results51, go_sem, *]) rfl ⟨rfl, belo⟩
     | some r =>
      obtain ⟨rn, rd⟩ := r
      rw [hofi] at OF hRV
      subst hRV
      unfold decV at OF
      dsimp only at OF
      clear hov hlim hlim2 hlim3 hval hT HK hkp hnk18 hs2v hpr hofi
      go_wp2_with fail
      with_reducible refine (OF.out _).mono ?_
      rintro e_x9 w_x9 ⟨rfl, hb_x9⟩
      obtain ⟨x9, rfl⟩ := later_is hb_x9
      clear hb_x9
      have hz_x9 := x9.bel.size
      try simp at hz_x9
      replace c_xz_0_0 := x9.carry c_xz_0_0
      replace c_xz_0_1 := x9.carry c_xz_0_1
      have lc_x9_0 : (w.heap.size+1) < x9.val.heap.size := by omega
      have mc_x9_0 : (w.heap.size+1) < x9.val.heap.size + 1 := by omega
      go_wp2
      refine bodyPost_ret (v := .tuple #[dcV rn rd, .bool true]) (by simp [results, Try.results51, go_sem, *]) rfl ⟨rfl, belo⟩
    have r3 : ((bk : Int) == 1) = false := beq_eq_false_iff_ne.2 (by omega)
    obtain ⟨g, hg⟩ : ∃ g, Nat.gcd bk 10 = g := ⟨_, rfl⟩
    obtain ⟨c0, c1, c2, c3, _, c5⟩ := gcd_parts (b := 10) hT.b1
    rw [hg] at c0 c1 c2 c3 c5
    obtain ⟨q10, hq10⟩ : ∃ q, 10 / g = q := ⟨_, rfl⟩
    obtain ⟨bn, hbn⟩ : ∃ q, bk / g = q := ⟨_, rfl⟩
    rw [hq10] at c3
    have hq1 : 1 ≤ q10 := by
     rcases Nat.eq_zero_or_pos q10 with h0 | h0
     ·rw [h0, Nat.zero_mul] at c3; omega
     ·exact h0
    have hq10b : q10 ≤ 10 := hq10 ▸ Nat.div_le_self _ _
    have hbnb : bn ≤ bk := hbn ▸ Nat.div_le_self _ _
    obtain ⟨lim, hlim⟩ : ∃ q, 4000000000000000000 / q10 = q := ⟨_, rfl⟩
    have hlb : 400000000000000000 ≤ lim := by
     rw [← hlim, Nat.le_div_iff_mul_le (by omega)]
     omega
    have hlb2 : lim ≤ 4000000000000000000 := hlim ▸ Nat.div_le_self _ _
    have CG := Lib.hid (fun w => (show Calls Try.prog 59 #[.int .i64 (bk : Int), .int .i64 10] w _ from common_any bk 10 g w (by omega) (by omega) hg))
    have u1' : (bk : Int).tdiv (g : Int) = (bn : Int) := tdivN hbn
    have u2' : (bk : Int) / (g : Int) = (bn : Int) := ediv_N hbn
    have u3' : IntKind.i64.wrap (bn : Int) = (bn : Int) := IntWalk.i64_in _ (by omega)
    have u4' : (10 : Int).tdiv (g : Int) = (q10 : Int) := tdivN hq10
    have u5' : (10 : Int) / (g : Int) = (q10 : Int) := ediv_N hq10
    have u6' : IntKind.i64.wrap (q10 : Int) = (q10 : Int) := IntWalk.i64_in _ (by omega)
    have u7' : (4000000000000000000 : Int).tdiv (q10 : Int) = (lim : Int) := tdivN hlim
    have u8' : (4000000000000000000 : Int) / (q10 : Int) = (lim : Int) := ediv_N hlim
    have u9' : IntKind.i64.wrap (lim : Int) = (lim : Int) := IntWalk.i64_in _ (by omega)
    have v1 : ((g : Int) == 0) = false := beq_eq_false_iff_ne.2 (by omega)
    have v2 : (g : Int) ≠ 0 := by omega
    have v3 : ((q10 : Int) == 0) = false := beq_eq_false_iff_ne.2 (by omega)
    have v4 : (q10 : Int) ≠ 0 := by omega
    obtain ⟨nn2, hnn2⟩ : ∃ q, nk * q10 = q := ⟨_, rfl⟩
    have m3 : (nk : Int) * (q10 : Int) = (nn2 : Int) := by rw [← hnn2]; simp
    by_cases hov : lim < nk
    ·have r4 : decide (lim < nk) = true := decide_eq_true hov
     have hk6' : k = 6 := by
      rcases Nat.lt_or_ge k 6 with h0 | h0
      ·exfalso
       have h1 : 10 ^ k ≤ 100000 := Nat.le_trans (Nat.pow_le_pow_right (n := 10) (by decide) (show k ≤ 5 by omega)) (by decide)
       have h2 : 1000000000000 * 10 ^ k ≤ 1000000000000 * 100000 := Nat.mul_le_mul_left _ h1
       omega
      ·omega
     subst hk6'
     obtain rfl : decV none = rv := by rw [← RV.out, hT.six (x := ⟨n, j⟩) (by omega) hb1]
     clear hov hT HK hkp hnk18 hg c0 c1 c2 c3 c5 hq10 hbn hlim hb1 hnn2
     go_wp2_with fail
     with_reducible refine (CG.out _).mono ?_
     rintro e_x9 w_x9 ⟨rfl, hb_x9⟩
     obtain ⟨x9, rfl⟩ := later_is hb_x9
     clear hb_x9
     have hz_x9 := x9.bel.size
     try simp at hz_x9
     replace c_xz_0_0 := x9.carry c_xz_0_0
     replace c_xz_0_1 := x9.carry c_xz_0_1
     have lc_x9_0 : (w.heap.size+1) < x9.val.heap.size := by omega
     have mc_x9_0 : (w.heap.size+1) < x9.val.heap.size + 1 := by omega
     go_wp2
     refine bodyPost_ret (v := .tuple #[dcV 0 0, .bool false]) (by simp [results, Try.results51, go_sem, *]) rfl ⟨rfl, belo⟩
    have r4 : decide (lim < nk) = false := decide_eq_false hov
    have hnn2b : nn2 ≤ 4000000000000000000 := by
     have h1 : nk * q10 ≤ lim * q10 := Nat.mul_le_mul_right _ (by omega)
     have h2 := Nat.div_mul_le_self 4000000000000000000 q10
     rw [hlim] at h2
     omega
    have m4 : IntKind.i64.wrap (nn2 : Int) = (nn2 : Int) := IntWalk.i64_in _ (by omega)
    have HK2 : Hid ((k + 1 ≤ 6 ∧ TmI nn ((Vd.mil ⟨n, j⟩).natAbs * num) den num2 (k + 1) nn2 bn) ∨ (k + 1 = 7 ∧ Vd.times ⟨n, j⟩ num den = none)) := Lib.hid (by
     rcases Nat.lt_or_ge k 6 with h0 | h0
     ·left
      refine ⟨h0, ?_⟩
      rw [← hnn2, ← hq10, ← hbn]
      exact hT.step h0 hg
     ·right
      obtain rfl : k = 6 := by omega
      exact ⟨rfl, hT.six (x := ⟨n, j⟩) (by omega) hb1⟩)
    clear hov hT HK hkp hnk18 hg c0 c1 c2 c3 c5 hq10 hbn hlim hb1 hnn2
    go_wp2_with fail
    with_reducible refine (CG.out _).mono ?_
    rintro e_x9 w_x9 ⟨rfl, hb_x9⟩
    obtain ⟨x9, rfl⟩ := later_is hb_x9
    clear hb_x9
    have hz_x9 := x9.bel.size
    try simp at hz_x9
    replace c_xz_0_0 := x9.carry c_xz_0_0
    replace c_xz_0_1 := x9.carry c_xz_0_1
    have lc_x9_0 : (w.heap.size+1) < x9.val.heap.size := by omega
    have mc_x9_0 : (w.heap.size+1) < x9.val.heap.size + 1 := by omega
    have bfin : Below (w.heap.size + 2) y5.val x9.val := hbz.trans (x9.bel.mono (by omega))
    go_wp2
    go_roundw
    case rel => exact ⟨k + 1, nn2, bn, by omega, by omega, HK2, by go_num, by first | rfl | trivial, by first | rfl | trivial, bfin⟩
    case measure => simp [RowKit.intOf]; omega
 ·subst hz
  have t0 : decide ((0 : Int) < 0) = false := by decide
  obtain rfl : decV (some ⟨0, 0⟩) = rv := by rw [← RV.out, times_zero d num den HFO.out]
  clear RV HFO
  go_enter Try.func51, Try.ntmps51
  go_wp2_with fail
  with_reducible refine (K1.out _).mono ?_
  rintro e_x1 w_x1 ⟨rfl, hb_x1⟩
  obtain ⟨x1, rfl⟩ := later_is hb_x1
  clear hb_x1
  have hz_x1 := x1.bel.size
  try simp at hz_x1
  have l_x1_0 : w.heap.size < x1.val.heap.size := by omega
  have m_x1_0 : w.heap.size < x1.val.heap.size + 1 := by omega
  have q_ := x1.cq (w.heap.size) 0
  generalize c_x1_0_0 : x1.val.cell? ⟨w.heap.size, 0, none⟩ = q at q_
  first | (have q2_ : q = some _ := q_; subst q2_) | (simp [go_sem] at q_; have q2_ : q = some _ := q_; subst q2_) | (simp [go_sem, *] at q_; have q2_ : q = some _ := q_; subst q2_)
  have q_ := x1.zq (w.heap.size) 0
  generalize z_x1_0_0 : x1.val.frozen? ⟨w.heap.size, 0, none⟩ = q at q_
  first | (have q2_ : q = false := q_; subst q2_) | (simp [go_sem] at q_; have q2_ : q = false := q_; subst q2_) | (simp [go_sem, *] at q_; have q2_ : q = false := q_; subst q2_)
  have q_ := x1.cq (w.heap.size) 1
  generalize c_x1_0_1 : x1.val.cell? ⟨w.heap.size, 1, none⟩ = q at q_
  first | (have q2_ : q = some _ := q_; subst q2_) | (simp [go_sem] at q_; have q2_ : q = some _ := q_; subst q2_) | (simp [go_sem, *] at q_; have q2_ : q = some _ := q_; subst q2_)
  have q_ := x1.zq (w.heap.size) 1
  generalize z_x1_0_1 : x1.val.frozen? ⟨w.heap.size, 1, none⟩ = q at q_
  first | (have q2_ : q = false := q_; subst q2_) | (simp [go_sem] at q_; have q2_ : q = false := q_; subst q2_) | (simp [go_sem, *] at q_; have q2_ : q = false := q_; subst q2_)
  have l_x1_1 : (w.heap.size+1) < x1.val.heap.size := by omega
  have m_x1_1 : (w.heap.size+1) < x1.val.heap.size + 1 := by omega
  have q_ := x1.cq ((w.heap.size+1)) 0
  generalize c_x1_1_0 : x1.val.cell? ⟨(w.heap.size+1), 0, none⟩ = q at q_
  first | (have q2_ : q = some _ := q_; subst q2_) | (simp [go_sem] at q_; have q2_ : q = some _ := q_; subst q2_) | (simp [go_sem, *] at q_; have q2_ : q = some _ := q_; subst q2_)
  have q_ := x1.zq ((w.heap.size+1)) 0
  generalize z_x1_1_0 : x1.val.frozen? ⟨(w.heap.size+1), 0, none⟩ = q at q_
  first | (have q2_ : q = false := q_; subst q2_) | (simp [go_sem] at q_; have q2_ : q = false := q_; subst q2_) | (simp [go_sem, *] at q_; have q2_ : q = false := q_; subst q2_)
  have q_ := x1.cq ((w.heap.size+1)) 1
  generalize c_x1_1_1 : x1.val.cell? ⟨(w.heap.size+1), 1, none⟩ = q at q_
  first | (have q2_ : q = some _ := q_; subst q2_) | (simp [go_sem] at q_; have q2_ : q = some _ := q_; subst q2_) | (simp [go_sem, *] at q_; have q2_ : q = some _ := q_; subst q2_)
  have q_ := x1.zq ((w.heap.size+1)) 1
  generalize z_x1_1_1 : x1.val.frozen? ⟨(w.heap.size+1), 1, none⟩ = q at q_
  first | (have q2_ : q = false := q_; subst q2_) | (simp [go_sem] at q_; have q2_ : q = false := q_; subst q2_) | (simp [go_sem, *] at q_; have q2_ : q = false := q_; subst q2_)
  go_wp2
  refine bodyPost_ret (v := .tuple #[dcV 0 0, .bool true]) (by simp [results, Try.results51, go_sem, *]) rfl ⟨rfl, belo⟩
 ·have t0 : decide (n < 0) = false := decide_eq_false (by omega)
  have hnn1 : 1 ≤ nn := by omega
  have t3 : ((nn : Int) == 0) = false := beq_eq_false_iff_ne.2 (by omega)
  obtain rfl : n = (nn : Int) := by omega
  clear hpos
  obtain ⟨g1, hg1⟩ : ∃ g, Nat.gcd nn den = g := ⟨_, rfl⟩
  obtain ⟨n1, hn1⟩ : ∃ q, nn / g1 = q := ⟨_, rfl⟩
  obtain ⟨den1, hden1⟩ : ∃ q, den / g1 = q := ⟨_, rfl⟩
  obtain ⟨g2, hg2⟩ : ∃ g, Nat.gcd num den1 = g := ⟨_, rfl⟩
  obtain ⟨num1, hnum1⟩ : ∃ q, num / g2 = q := ⟨_, rfl⟩
  obtain ⟨den2, hden2⟩ : ∃ q, den1 / g2 = q := ⟨_, rfl⟩
  obtain ⟨ten, hten⟩ : ∃ q, 10 ^ d = q := ⟨_, rfl⟩
  obtain ⟨g3, hg3⟩ : ∃ g, Nat.gcd num1 ten = g := ⟨_, rfl⟩
  obtain ⟨num2, hnum2⟩ : ∃ q, num1 / g3 = q := ⟨_, rfl⟩
  obtain ⟨ten1, hten1⟩ : ∃ q, ten / g3 = q := ⟨_, rfl⟩
  obtain ⟨g4, hg4⟩ : ∃ g, Nat.gcd n1 ten1 = g := ⟨_, rfl⟩
  obtain ⟨n2, hn2⟩ : ∃ q, n1 / g4 = q := ⟨_, rfl⟩
  obtain ⟨ten2, hten2⟩ : ∃ q, ten1 / g4 = q := ⟨_, rfl⟩
  have htb := pow10_le (k := d) a3
  rw [hten] at htb
  obtain ⟨hI, hnp, hnl⟩ := TmI.start (N := nn) (num0 := num) (den0 := den) (d := d) (n1 := n1) (den1 := den1) (num1 := num1) (den2 := den2) (num2 := num2) (ten1 := ten1) (n2 := n2) (ten2 := ten2) a3 hnn1 (by omega) (by omega)
   (by rw [hg1, hn1]) (by rw [hg1, hden1]) (by rw [hg2, hnum1]) (by rw [hg2, hden2]) (by rw [hten, hg3, hnum2]) (by rw [hten, hg3, hten1]) (by rw [hg4, hn2]) (by rw [hg4, hten2])
  rw [← mil_abs_at hnn] at hI
  have hg1p : 1 ≤ g1 := hg1 ▸ Nat.gcd_pos_of_pos_left _ hnn1
  have hg2p : 1 ≤ g2 := hg2 ▸ Nat.gcd_pos_of_pos_left _ (by omega)
  have hn1b : n1 ≤ nn := hn1 ▸ Nat.div_le_self _ _
  have hden1b : den1 ≤ den := hden1 ▸ Nat.div_le_self _ _
  have hnum1b : num1 ≤ num := hnum1 ▸ Nat.div_le_self _ _
  have hden2b : den2 ≤ den1 := hden2 ▸ Nat.div_le_self _ _
  have hnum1p : 1 ≤ num1 := by
   rcases Nat.eq_zero_or_pos num1 with h0 | h0
   ·rw [h0, Nat.zero_div] at hnum2; omega
   ·exact h0
  have hg3p : 1 ≤ g3 := hg3 ▸ Nat.gcd_pos_of_pos_left _ hnum1p
  have hn1p : 1 ≤ n1 := by
   rcases Nat.eq_zero_or_pos n1 with h0 | h0
   ·rw [h0, Nat.zero_div] at hn2; have := hI.n1; omega
   ·exact h0
  have hg4p : 1 ≤ g4 := hg4 ▸ Nat.gcd_pos_of_pos_left _ hn1p
  have hten1b : ten1 ≤ ten := hten1 ▸ Nat.div_le_self _ _
  have hten2b : ten2 ≤ ten1 := hten2 ▸ Nat.div_le_self _ _
  have hn2b : n2 ≤ n1 := hn2 ▸ Nat.div_le_self _ _
  obtain ⟨b0, hb0⟩ : ∃ b, den2 * ten2 = b := ⟨_, rfl⟩
  have hb0b : b0 ≤ 1000000000000000 := by
   rw [← hb0]
   exact Nat.le_trans (Nat.mul_le_mul (show den2 ≤ 1000000000 by omega) (show ten2 ≤ 1000000 by omega)) (by decide)
  rw [hb0] at hI
  have mb : (den2 : Int) * (ten2 : Int) = (b0 : Int) := by rw [← hb0]; simp
  have mb2 : IntKind.i64.wrap (b0 : Int) = (b0 : Int) := IntWalk.i64_in _ (by omega)
  have C1 := Lib.hid (fun w => common_any nn den g1 w (by omega) (by omega) hg1)
  have C2 := Lib.hid (fun w => common_any num den1 g2 w (by omega) (by omega) hg2)
  have C3 := Lib.hid (fun w => common_any num1 ten g3 w (by omega) (by omega) hg3)
  have C4 := Lib.hid (fun w => common_any n1 ten1 g4 w (by omega) (by omega) hg4)
  have q1a : (nn : Int).tdiv (g1 : Int) = (n1 : Int) := tdivN hn1
  have q1b : (nn : Int) / (g1 : Int) = (n1 : Int) := ediv_N hn1
  have q1c : IntKind.i64.wrap (n1 : Int) = (n1 : Int) := IntWalk.i64_in _ (by omega)
  have q2a : (den : Int).tdiv (g1 : Int) = (den1 : Int) := tdivN hden1
  have q2b : (den : Int) / (g1 : Int) = (den1 : Int) := ediv_N hden1
  have q2c : IntKind.i64.wrap (den1 : Int) = (den1 : Int) := IntWalk.i64_in _ (by omega)
  have q3a : (num : Int).tdiv (g2 : Int) = (num1 : Int) := tdivN hnum1
  have q3b : (num : Int) / (g2 : Int) = (num1 : Int) := ediv_N hnum1
  have q3c : IntKind.i64.wrap (num1 : Int) = (num1 : Int) := IntWalk.i64_in _ (by omega)
  have q4a : (den1 : Int).tdiv (g2 : Int) = (den2 : Int) := tdivN hden2
  have q4b : (den1 : Int) / (g2 : Int) = (den2 : Int) := ediv_N hden2
  have q4c : IntKind.i64.wrap (den2 : Int) = (den2 : Int) := IntWalk.i64_in _ (by omega)
  have q5a : (num1 : Int).tdiv (g3 : Int) = (num2 : Int) := tdivN hnum2
  have q5b : (num1 : Int) / (g3 : Int) = (num2 : Int) := ediv_N hnum2
  have q5c : IntKind.i64.wrap (num2 : Int) = (num2 : Int) := IntWalk.i64_in _ (by omega)
  have q6a : (ten : Int).tdiv (g3 : Int) = (ten1 : Int) := tdivN hten1
  have q6b : (ten : Int) / (g3 : Int) = (ten1 : Int) := ediv_N hten1
  have q6c : IntKind.i64.wrap (ten1 : Int) = (ten1 : Int) := IntWalk.i64_in _ (by omega)
  have q7a : (n1 : Int).tdiv (g4 : Int) = (n2 : Int) := tdivN hn2
  have q7b : (n1 : Int) / (g4 : Int) = (n2 : Int) := ediv_N hn2
  have q7c : IntKind.i64.wrap (n2 : Int) = (n2 : Int) := IntWalk.i64_in _ (by omega)
  have q8a : (ten1 : Int).tdiv (g4 : Int) = (ten2 : Int) := tdivN hten2
  have q8b : (ten1 : Int) / (g4 : Int) = (ten2 : Int) := ediv_N hten2
  have q8c : IntKind.i64.wrap (ten2 : Int) = (ten2 : Int) := IntWalk.i64_in _ (by omega)
  have g1z : ((g1 : Int) == 0) = false := beq_eq_false_iff_ne.2 (by omega)
  have g1y : (g1 : Int) ≠ 0 := by omega
  have g2z : ((g2 : Int) == 0) = false := beq_eq_false_iff_ne.2 (by omega)
  have g2y : (g2 : Int) ≠ 0 := by omega
  have g3z : ((g3 : Int) == 0) = false := beq_eq_false_iff_ne.2 (by omega)
  have g3y : (g3 : Int) ≠ 0 := by omega
  have g4z : ((g4 : Int) == 0) = false := beq_eq_false_iff_ne.2 (by omega)
  have g4y : (g4 : Int) ≠ 0 := by omega
  have HI := Lib.hid hI
  have HTEN := Lib.hid hten
  have HNP := Lib.hid hnp
  clear hg1 hg2 hg3 hg4 hn1 hden1 hnum1 hden2 hnum2 hten1 hn2 hten2 hten hI hb0 hn1b hden1b hnum1b hden2b hnum1p hn1p hten1b hten2b hn2b hg1p hg2p hg3p hg4p htb
  go_enter Try.func51, Try.ntmps51
  go_wp2_with fail
  with_reducible refine (K1.out _).mono ?_
  rintro e_x1 w_x1 ⟨rfl, hb_x1⟩
  obtain ⟨x1, rfl⟩ := later_is hb_x1
  clear hb_x1
  have hz_x1 := x1.bel.size
  try simp at hz_x1
  have l_x1_0 : w.heap.size < x1.val.heap.size := by omega
  have m_x1_0 : w.heap.size < x1.val.heap.size + 1 := by omega
  have q_ := x1.cq (w.heap.size) 0
  generalize c_x1_0_0 : x1.val.cell? ⟨w.heap.size, 0, none⟩ = q at q_
  first | (have q2_ : q = some _ := q_; subst q2_) | (simp [go_sem] at q_; have q2_ : q = some _ := q_; subst q2_) | (simp [go_sem, *] at q_; have q2_ : q = some _ := q_; subst q2_)
  have q_ := x1.zq (w.heap.size) 0
  generalize z_x1_0_0 : x1.val.frozen? ⟨w.heap.size, 0, none⟩ = q at q_
  first | (have q2_ : q = false := q_; subst q2_) | (simp [go_sem] at q_; have q2_ : q = false := q_; subst q2_) | (simp [go_sem, *] at q_; have q2_ : q = false := q_; subst q2_)
  have q_ := x1.cq (w.heap.size) 1
  generalize c_x1_0_1 : x1.val.cell? ⟨w.heap.size, 1, none⟩ = q at q_
  first | (have q2_ : q = some _ := q_; subst q2_) | (simp [go_sem] at q_; have q2_ : q = some _ := q_; subst q2_) | (simp [go_sem, *] at q_; have q2_ : q = some _ := q_; subst q2_)
  have q_ := x1.zq (w.heap.size) 1
  generalize z_x1_0_1 : x1.val.frozen? ⟨w.heap.size, 1, none⟩ = q at q_
  first | (have q2_ : q = false := q_; subst q2_) | (simp [go_sem] at q_; have q2_ : q = false := q_; subst q2_) | (simp [go_sem, *] at q_; have q2_ : q = false := q_; subst q2_)
  have l_x1_1 : (w.heap.size+1) < x1.val.heap.size := by omega
  have m_x1_1 : (w.heap.size+1) < x1.val.heap.size + 1 := by omega
  have q_ := x1.cq ((w.heap.size+1)) 0
  generalize c_x1_1_0 : x1.val.cell? ⟨(w.heap.size+1), 0, none⟩ = q at q_
  first | (have q2_ : q = some _ := q_; subst q2_) | (simp [go_sem] at q_; have q2_ : q = some _ := q_; subst q2_) | (simp [go_sem, *] at q_; have q2_ : q = some _ := q_; subst q2_)
  have q_ := x1.zq ((w.heap.size+1)) 0
  generalize z_x1_1_0 : x1.val.frozen? ⟨(w.heap.size+1), 0, none⟩ = q at q_
  first | (have q2_ : q = false := q_; subst q2_) | (simp [go_sem] at q_; have q2_ : q = false := q_; subst q2_) | (simp [go_sem, *] at q_; have q2_ : q = false := q_; subst q2_)
  have q_ := x1.cq ((w.heap.size+1)) 1
  generalize c_x1_1_1 : x1.val.cell? ⟨(w.heap.size+1), 1, none⟩ = q at q_
  first | (have q2_ : q = some _ := q_; subst q2_) | (simp [go_sem] at q_; have q2_ : q = some _ := q_; subst q2_) | (simp [go_sem, *] at q_; have q2_ : q = some _ := q_; subst q2_)
  have q_ := x1.zq ((w.heap.size+1)) 1
  generalize z_x1_1_1 : x1.val.frozen? ⟨(w.heap.size+1), 1, none⟩ = q at q_
  first | (have q2_ : q = false := q_; subst q2_) | (simp [go_sem] at q_; have q2_ : q = false := q_; subst q2_) | (simp [go_sem, *] at q_; have q2_ : q = false := q_; subst q2_)
  go_wp2_with fail
  with_reducible refine (C1.out _).mono ?_
  rintro e_x2 w_x2 ⟨rfl, hb_x2⟩
  obtain ⟨x2, rfl⟩ := later_is hb_x2
  clear hb_x2
  have hz_x2 := x2.bel.size
  try simp at hz_x2
  replace c_x1_0_0 := x2.carry c_x1_0_0
  replace c_x1_0_1 := x2.carry c_x1_0_1
  replace c_x1_1_0 := x2.carry c_x1_1_0
  replace c_x1_1_1 := x2.carry c_x1_1_1
  have lc_x2_0 : w.heap.size < x2.val.heap.size := by omega
  have mc_x2_0 : w.heap.size < x2.val.heap.size + 1 := by omega
  have lc_x2_1 : (w.heap.size+1) < x2.val.heap.size := by omega
  have mc_x2_1 : (w.heap.size+1) < x2.val.heap.size + 1 := by omega
  go_upto_region 9 with fail
  go_quiet (fail)
  obtain ⟨wy, hwy⟩ : ∃ q, x2.val.drewN nq = q := ⟨_, rfl⟩
  try rw [hwy]
  have hby : Below x2.val.heap.size x2.val wy := by rw [← hwy]; exact bel_drewN (Below.refl _ _) nq
  clear hwy
  obtain ⟨y2, rfl⟩ := later_is hby
  have hz_y2 := y2.bel.size
  try simp at hz_y2
  have hz_y2 := y2.bel.size
  try simp at hz_y2
  replace c_x1_0_0 := y2.carry c_x1_0_0
  replace c_x1_0_1 := y2.carry c_x1_0_1
  replace c_x1_1_0 := y2.carry c_x1_1_0
  replace c_x1_1_1 := y2.carry c_x1_1_1
  have lc_y2_0 : w.heap.size < y2.val.heap.size := by omega
  have mc_y2_0 : w.heap.size < y2.val.heap.size + 1 := by omega
  have lc_y2_1 : (w.heap.size+1) < y2.val.heap.size := by omega
  have mc_y2_1 : (w.heap.size+1) < y2.val.heap.size + 1 := by omega
  clear hby
  go_wp2_with fail
  with_reducible refine (C2.out _).mono ?_
  rintro e_x3 w_x3 ⟨rfl, hb_x3⟩
  obtain ⟨x3, rfl⟩ := later_is hb_x3
  clear hb_x3
  have hz_x3 := x3.bel.size
  try simp at hz_x3
  replace c_x1_0_0 := x3.carry c_x1_0_0
  replace c_x1_0_1 := x3.carry c_x1_0_1
  replace c_x1_1_0 := x3.carry c_x1_1_0
  replace c_x1_1_1 := x3.carry c_x1_1_1
  have lc_x3_0 : w.heap.size < x3.val.heap.size := by omega
  have mc_x3_0 : w.heap.size < x3.val.heap.size + 1 := by omega
  have lc_x3_1 : (w.heap.size+1) < x3.val.heap.size := by omega
  have mc_x3_1 : (w.heap.size+1) < x3.val.heap.size + 1 := by omega
  go_upto_region 11 with fail
  go_quiet (fail)
  obtain ⟨wy, hwy⟩ : ∃ q, x3.val.drewN nq = q := ⟨_, rfl⟩
  try rw [hwy]
  have hby : Below x3.val.heap.size x3.val wy := by rw [← hwy]; exact bel_drewN (Below.refl _ _) nq
  clear hwy
  obtain ⟨y3, rfl⟩ := later_is hby
  have hz_y3 := y3.bel.size
  try simp at hz_y3
  have hz_y3 := y3.bel.size
  try simp at hz_y3
  replace c_x1_0_0 := y3.carry c_x1_0_0
  replace c_x1_0_1 := y3.carry c_x1_0_1
  replace c_x1_1_0 := y3.carry c_x1_1_0
  replace c_x1_1_1 := y3.carry c_x1_1_1
  have lc_y3_0 : w.heap.size < y3.val.heap.size := by omega
  have mc_y3_0 : w.heap.size < y3.val.heap.size + 1 := by omega
  have lc_y3_1 : (w.heap.size+1) < y3.val.heap.size := by omega
  have mc_y3_1 : (w.heap.size+1) < y3.val.heap.size + 1 := by omega
  clear hby
  go_upto_region 13 with fail
  go_wp2
  go_loopw [12, 11] (fun i x wr => ∃ j t : Nat, j ≤ d ∧ Hid (10 ^ j = t) ∧ i = .int .i64 (j : Int) ∧ x = .int .i64 (t : Int) ∧ wr = y3.val) (fun i _ _ => d - (RowKit.intOf i).toNat)
  case atStart => exact ⟨0, 1, by omega, Lib.hid rfl, rfl, rfl, rfl⟩
  case round =>
   rename World => wr
   obtain ⟨j, t, hj, HT, rfl, rfl, rfl⟩ := hrel
   have hs : IntKind.i64.wrap (d : Int) = (d : Int) := IntWalk.i64_in _ (by omega)
   by_cases hlt : j < d
   ·have g1 : (j : Int) < (d : Int) := by omega
    obtain ⟨t2, ht2⟩ : ∃ t2, t * 10 = t2 := ⟨_, rfl⟩
    have HT2 : Hid (10 ^ (j + 1) = t2) := Lib.hid (by rw [Nat.pow_succ, HT.out, ht2])
    have ht3 := pow10_le (k := j + 1) (by omega)
    rw [HT2.out] at ht3
    have m1 : (t : Int) * 10 = (t2 : Int) := by omega
    have m2 : IntKind.i64.wrap (t2 : Int) = (t2 : Int) := IntWalk.i64_in _ (by omega)
    clear ht2 ht3
    go_wp2
    go_roundw
    case rel => exact ⟨j + 1, t2, by omega, HT2, by go_num, by first | rfl | trivial, by first | rfl | trivial⟩
    case measure => simp [RowKit.intOf]; omega
   obtain rfl : j = d := by omega
   obtain rfl : t = ten := HT.out.symm.trans HTEN.out
   clear hlt hj HT
   go_wp2_with fail
   with_reducible refine (C3.out _).mono ?_
   rintro e_x4 w_x4 ⟨rfl, hb_x4⟩
   obtain ⟨x4, rfl⟩ := later_is hb_x4
   clear hb_x4
   have hz_x4 := x4.bel.size
   try simp at hz_x4
   replace c_x1_0_0 := x4.carry c_x1_0_0
   replace c_x1_0_1 := x4.carry c_x1_0_1
   replace c_x1_1_0 := x4.carry c_x1_1_0
   replace c_x1_1_1 := x4.carry c_x1_1_1
   have lc_x4_0 : w.heap.size < x4.val.heap.size := by omega
   have mc_x4_0 : w.heap.size < x4.val.heap.size + 1 := by omega
   have lc_x4_1 : (w.heap.size+1) < x4.val.heap.size := by omega
   have mc_x4_1 : (w.heap.size+1) < x4.val.heap.size + 1 := by omega
   go_upto_region 18 with fail
   go_quiet (fail)
   obtain ⟨wy, hwy⟩ : ∃ q, x4.val.drewN nq = q := ⟨_, rfl⟩
   try rw [hwy]
   have hby : Below x4.val.heap.size x4.val wy := by rw [← hwy]; exact bel_drewN (Below.refl _ _) nq
   clear hwy
   obtain ⟨y4, rfl⟩ := later_is hby
   have hz_y4 := y4.bel.size
   try simp at hz_y4
   have hz_y4 := y4.bel.size
   try simp at hz_y4
   replace c_x1_0_0 := y4.carry c_x1_0_0
   replace c_x1_0_1 := y4.carry c_x1_0_1
   replace c_x1_1_0 := y4.carry c_x1_1_0
   replace c_x1_1_1 := y4.carry c_x1_1_1
   have lc_y4_0 : w.heap.size < y4.val.heap.size := by omega
   have mc_y4_0 : w.heap.size < y4.val.heap.size + 1 := by omega
   have lc_y4_1 : (w.heap.size+1) < y4.val.heap.size := by omega
   have mc_y4_1 : (w.heap.size+1) < y4.val.heap.size + 1 := by omega
   clear hby
   go_wp2_with fail
   with_reducible refine (C4.out _).mono ?_
   rintro e_x5 w_x5 ⟨rfl, hb_x5⟩
   obtain ⟨x5, rfl⟩ := later_is hb_x5
   clear hb_x5
   have hz_x5 := x5.bel.size
   try simp at hz_x5
   replace c_x1_0_0 := x5.carry c_x1_0_0
   replace c_x1_0_1 := x5.carry c_x1_0_1
   replace c_x1_1_0 := x5.carry c_x1_1_0
   replace c_x1_1_1 := x5.carry c_x1_1_1
   have lc_x5_0 : w.heap.size < x5.val.heap.size := by omega
   have mc_x5_0 : w.heap.size < x5.val.heap.size + 1 := by omega
   have lc_x5_1 : (w.heap.size+1) < x5.val.heap.size := by omega
   have mc_x5_1 : (w.heap.size+1) < x5.val.heap.size + 1 := by omega
   go_upto_region 20 with fail
   go_quiet (fail)
   obtain ⟨wy, hwy⟩ : ∃ q, x5.val.drewN nq = q := ⟨_, rfl⟩
   try rw [hwy]
   have hby : Below x5.val.heap.size x5.val wy := by rw [← hwy]; exact bel_drewN (Below.refl _ _) nq
   clear hwy
   obtain ⟨y5, rfl⟩ := later_is hby
   have hz_y5 := y5.bel.size
   try simp at hz_y5
   have hz_y5 := y5.bel.size
   try simp at hz_y5
   replace c_x1_0_0 := y5.carry c_x1_0_0
   replace c_x1_0_1 := y5.carry c_x1_0_1
   replace c_x1_1_0 := y5.carry c_x1_1_0
   replace c_x1_1_1 := y5.carry c_x1_1_1
   have lc_y5_0 : w.heap.size < y5.val.heap.size := by omega
   have mc_y5_0 : w.heap.size < y5.val.heap.size + 1 := by omega
   have lc_y5_1 : (w.heap.size+1) < y5.val.heap.size := by omega
   have mc_y5_1 : (w.heap.size+1) < y5.val.heap.size + 1 := by omega
   clear hby
   have by5 : Below w.heap.size w y5.val := belo
   have hz5 : w.heap.size + 2 ≤ y5.val.heap.size := by omega
   go_wp2
   go_loopw [14, 8, 13] (fun i x y wr => ∃ k nk bk : Nat, k ≤ 7 ∧ bk ≤ 1000000000000000 ∧ Hid ((k ≤ 6 ∧ TmI nn ((Vd.mil ⟨(nn : Int), j⟩).natAbs * num) den num2 k nk bk) ∨ (k = 7 ∧ Vd.times ⟨(nn : Int), j⟩ num den = none)) ∧ i = .int .i64 (k : Int) ∧ x = .int .i64 (nk : Int) ∧ y = .int .i64 (bk : Int) ∧ Below (w.heap.size + 2) y5.val wr) (fun i _ _ _ => 7 - (RowKit.intOf i).toNat)
   case atStart => exact ⟨0, n2, b0, by omega, hb0b, Lib.hid (.inl ⟨by omega, HI.out⟩), rfl, rfl, rfl, Below.refl _ _⟩
   case round =>
    rename World => wz
    obtain ⟨k, nk, bk, hk7, hbk, HK, rfl, rfl, rfl, hbz⟩ := hrel
    obtain ⟨xz, hxz⟩ := later_is hbz
    have hz_xz := xz.bel.size
    obtain rfl := hxz
    have hz_xz := xz.bel.size
    try simp at hz_xz
    have l_xz_0 : (w.heap.size+1) < xz.val.heap.size := by omega
    have m_xz_0 : (w.heap.size+1) < xz.val.heap.size + 1 := by omega
    have q_ := xz.cq ((w.heap.size+1)) 0
    generalize c_xz_0_0 : xz.val.cell? ⟨(w.heap.size+1), 0, none⟩ = q at q_
    first | (have q2_ : q = some _ := q_; subst q2_) | (simp [go_sem] at q_; have q2_ : q = some _ := q_; subst q2_) | (simp [go_sem, *] at q_; have q2_ : q = some _ := q_; subst q2_)
    have q_ := xz.zq ((w.heap.size+1)) 0
    generalize z_xz_0_0 : xz.val.frozen? ⟨(w.heap.size+1), 0, none⟩ = q at q_
    first | (have q2_ : q = false := q_; subst q2_) | (simp [go_sem] at q_; have q2_ : q = false := q_; subst q2_) | (simp [go_sem, *] at q_; have q2_ : q = false := q_; subst q2_)
    have q_ := xz.cq ((w.heap.size+1)) 1
    generalize c_xz_0_1 : xz.val.cell? ⟨(w.heap.size+1), 1, none⟩ = q at q_
    first | (have q2_ : q = some _ := q_; subst q2_) | (simp [go_sem] at q_; have q2_ : q = some _ := q_; subst q2_) | (simp [go_sem, *] at q_; have q2_ : q = some _ := q_; subst q2_)
    have q_ := xz.zq ((w.heap.size+1)) 1
    generalize z_xz_0_1 : xz.val.frozen? ⟨(w.heap.size+1), 1, none⟩ = q at q_
    first | (have q2_ : q = false := q_; subst q2_) | (simp [go_sem] at q_; have q2_ : q = false := q_; subst q2_) | (simp [go_sem, *] at q_; have q2_ : q = false := q_; subst q2_)
    have hbw : Below w.heap.size w xz.val := by5.trans (hbz.mono (by omega))
    have dd : IntKind.i64.wrap (j : Int) = (j : Int) := hs
    rcases Nat.lt_or_ge 6 k with hk6 | hk6
    ·obtain rfl : k = 7 := by omega
     obtain rfl : decV none = rv := by
      rcases HK.out with ⟨h1, _⟩ | ⟨_, h2⟩
      ·omega
      ·rw [← RV.out, h2]
     clear hk6 HK
     go_wp2
     refine bodyPost_ret (v := .tuple #[dcV 0 0, .bool false]) (by simp [results, Try.results51, go_sem, *]) rfl ⟨rfl, belo⟩
    have hT : TmI nn ((Vd.mil ⟨(nn : Int), j⟩).natAbs * num) den num2 k nk bk := by
     rcases HK.out with ⟨_, h1⟩ | ⟨h2, _⟩
     ·exact h1
     ·omega
    have r1 : decide ((k : Int) ≤ 6) = true := decide_eq_true (by omega)
    have hkp := pow10_le (k := k) hk6
    have hnk18 : nk ≤ 1000000000000 * 10 ^ k := Nat.le_trans hT.nb (Nat.mul_le_mul_right _ hnb)
    have hnk19 : nk ≤ 1000000000000000000 := Nat.le_trans hnk18 (Nat.mul_le_mul_left 1000000000000 hkp.2)
    by_cases hb1 : bk = 1
    ·subst hb1
     have hval := hT.one (x := ⟨(nn : Int), j⟩) HFO.out (by omega)
     obtain ⟨lim, hlim⟩ : ∃ q, 4000000000000000000 / num2 = q := ⟨_, rfl⟩
     have hlim2 := Nat.div_add_mod 4000000000000000000 num2
     have hlim3 := Nat.mod_lt 4000000000000000000 (show 0 < num2 from HNP.out)
     rw [hlim] at hlim2
     have l1 : (4000000000000000000 : Int).tdiv (num2 : Int) = (lim : Int) := tdivN hlim
     have l2 : (4000000000000000000 : Int) / (num2 : Int) = (lim : Int) := ediv_N hlim
     have hlb : lim ≤ 4000000000000000000 := hlim ▸ Nat.div_le_self _ _
     have l3 : IntKind.i64.wrap (lim : Int) = (lim : Int) := IntWalk.i64_in _ (by omega)
     have l4 : ((num2 : Int) == 0) = false := beq_eq_false_iff_ne.2 (by have := HNP.out; omega)
     have l5 : (num2 : Int) ≠ 0 := by have := HNP.out; omega
     by_cases hov : lim < nk
     ·have r2 : decide (lim < nk) = true := decide_eq_true hov
      have hbig : 4000000000000000000 < nk * num2 := by
       have h1 : (lim + 1) * num2 ≤ nk * num2 := Nat.mul_le_mul_right _ hov
       rw [Nat.add_mul, Nat.one_mul, Nat.mul_comm lim] at h1
       omega
      obtain rfl : decV none = rv := by rw [← RV.out, hval, ofQ_huge hk6 hbig]
      clear hov hbig hlim hlim2 hlim3 hval hT HK hkp hnk18
      go_wp2
      refine bodyPost_ret (v := .tuple #[dcV 0 0, .bool false]) (by simp [results, Try.results51, go_sem, *]) rfl ⟨rfl, belo⟩
     have r2 : decide (lim < nk) = false := decide_eq_false hov
     obtain ⟨pr, hpr⟩ : ∃ q, nk * num2 = q := ⟨_, rfl⟩
     have hprb : pr ≤ 4000000000000000000 := by
      have h1 : nk * num2 ≤ lim * num2 := Nat.mul_le_mul_right _ (by omega)
      rw [hpr, Nat.mul_comm lim] at h1
      omega
     obtain ⟨s2, hs2⟩ : ∃ q, (nk : Int) * (num2 : Int) = q := ⟨_, rfl⟩
     have hs2v : s2 = if (nn : Int) < 0 then -(pr : Int) else (pr : Int) := by
      rw [if_neg (by omega), ← hs2, ← hpr, ← Int.natCast_mul]
     have s2b : -4000000000000000000 ≤ s2 ∧ s2 ≤ 4000000000000000000 := by rw [hs2v]; split <;> omega
     have w1 : IntKind.i64.wrap (nk : Int) = (nk : Int) := IntWalk.i64_in _ (by omega)
     have w1' : wrap64 (nk : Int) = (nk : Int) := IntWalk.wrap64_in _ (by omega)
     have w2 : IntKind.i64.wrap s2 = s2 := IntWalk.i64_in _ (by omega)
     have w2' : wrap64 s2 = s2 := IntWalk.wrap64_in _ (by omega)
     have OF := Lib.hid (fun w => rof_any s2 k w (by omega) hk6)
     have hRV : decV (Vd.ofI s2 k) = rv := by rw [← RV.out, hval, hpr, ofQ_of hk6, hs2v]
     cases hofi : Vd.ofI s2 k with
     | none =>
      rw [hofi] at OF hRV
      subst hRV
      unfold decV at OF
      clear hov hlim hlim2 hlim3 hval hT HK hkp hnk18 hs2v hpr hofi
      go_wp2_with fail
      with_reducible refine (OF.out _).mono ?_
      rintro e_x9 w_x9 ⟨rfl, hb_x9⟩
      obtain ⟨x9, rfl⟩ := later_is hb_x9
      clear hb_x9
      have hz_x9 := x9.bel.size
      try simp at hz_x9
      replace c_xz_0_0 := x9.carry c_xz_0_0
      replace c_xz_0_1 := x9.carry c_xz_0_1
      have lc_x9_0 : (w.heap.size+1) < x9.val.heap.size := by omega
      have mc_x9_0 : (w.heap.size+1) < x9.val.heap.size + 1 := by omega
      go_wp2
      refine bodyPost_ret (v := .tuple #[dcV 0 0, .bool false]) (by simp [results, Try.results51, go_sem, *]) rfl ⟨rfl, belo⟩
     | some r =>
      obtain ⟨rn, rd⟩ := r
      rw [hofi] at OF hRV
      subst hRV
      unfold decV at OF
      dsimp only at OF
      clear hov hlim hlim2 hlim3 hval hT HK hkp hnk18 hs2v hpr hofi
      go_wp2_with fail
      with_reducible refine (OF.out _).mono ?_
      rintro e_x9 w_x9 ⟨rfl, hb_x9⟩
      obtain ⟨x9, rfl⟩ := later_is hb_x9
      clear hb_x9
      have hz_x9 := x9.bel.size
      try simp at hz_x9
      replace c_xz_0_0 := x9.carry c_xz_0_0
      replace c_xz_0_1 := x9.carry c_xz_0_1
      have lc_x9_0 : (w.heap.size+1) < x9.val.heap.size := by omega
      have mc_x9_0 : (w.heap.size+1) < x9.val.heap.size + 1 := by omega
      go_wp2
      refine bodyPost_ret (v := .tuple #[dcV rn rd, .bool true]) (by simp [results, Try.results51, go_sem, *]) rfl ⟨rfl, belo⟩
    have r3 : ((bk : Int) == 1) = false := beq_eq_false_iff_ne.2 (by omega)
    obtain ⟨g, hg⟩ : ∃ g, Nat.gcd bk 10 = g := ⟨_, rfl⟩
    obtain ⟨c0, c1, c2, c3, _, c5⟩ := gcd_parts (b := 10) hT.b1
    rw [hg] at c0 c1 c2 c3 c5
    obtain ⟨q10, hq10⟩ : ∃ q, 10 / g = q := ⟨_, rfl⟩
    obtain ⟨bn, hbn⟩ : ∃ q, bk / g = q := ⟨_, rfl⟩
    rw [hq10] at c3
    have hq1 : 1 ≤ q10 := by
     rcases Nat.eq_zero_or_pos q10 with h0 | h0
     ·rw [h0, Nat.zero_mul] at c3; omega
     ·exact h0
    have hq10b : q10 ≤ 10 := hq10 ▸ Nat.div_le_self _ _
    have hbnb : bn ≤ bk := hbn ▸ Nat.div_le_self _ _
    obtain ⟨lim, hlim⟩ : ∃ q, 4000000000000000000 / q10 = q := ⟨_, rfl⟩
    have hlb : 400000000000000000 ≤ lim := by
     rw [← hlim, Nat.le_div_iff_mul_le (by omega)]
     omega
    have hlb2 : lim ≤ 4000000000000000000 := hlim ▸ Nat.div_le_self _ _
    have CG := Lib.hid (fun w => (show Calls Try.prog 59 #[.int .i64 (bk : Int), .int .i64 10] w _ from common_any bk 10 g w (by omega) (by omega) hg))
    have u1' : (bk : Int).tdiv (g : Int) = (bn : Int) := tdivN hbn
    have u2' : (bk : Int) / (g : Int) = (bn : Int) := ediv_N hbn
    have u3' : IntKind.i64.wrap (bn : Int) = (bn : Int) := IntWalk.i64_in _ (by omega)
    have u4' : (10 : Int).tdiv (g : Int) = (q10 : Int) := tdivN hq10
    have u5' : (10 : Int) / (g : Int) = (q10 : Int) := ediv_N hq10
    have u6' : IntKind.i64.wrap (q10 : Int) = (q10 : Int) := IntWalk.i64_in _ (by omega)
    have u7' : (4000000000000000000 : Int).tdiv (q10 : Int) = (lim : Int) := tdivN hlim
    have u8' : (4000000000000000000 : Int) / (q10 : Int) = (lim : Int) := ediv_N hlim
    have u9' : IntKind.i64.wrap (lim : Int) = (lim : Int) := IntWalk.i64_in _ (by omega)
    have v1 : ((g : Int) == 0) = false := beq_eq_false_iff_ne.2 (by omega)
    have v2 : (g : Int) ≠ 0 := by omega
    have v3 : ((q10 : Int) == 0) = false := beq_eq_false_iff_ne.2 (by omega)
    have v4 : (q10 : Int) ≠ 0 := by omega
    obtain ⟨nn2, hnn2⟩ : ∃ q, nk * q10 = q := ⟨_, rfl⟩
    have m3 : (nk : Int) * (q10 : Int) = (nn2 : Int) := by rw [← hnn2]; simp
    by_cases hov : lim < nk
    ·have r4 : decide (lim < nk) = true := decide_eq_true hov
     have hk6' : k = 6 := by
      rcases Nat.lt_or_ge k 6 with h0 | h0
      ·exfalso
       have h1 : 10 ^ k ≤ 100000 := Nat.le_trans (Nat.pow_le_pow_right (n := 10) (by decide) (show k ≤ 5 by omega)) (by decide)
       have h2 : 1000000000000 * 10 ^ k ≤ 1000000000000 * 100000 := Nat.mul_le_mul_left _ h1
       omega
      ·omega
     subst hk6'
     obtain rfl : decV none = rv := by rw [← RV.out, hT.six (x := ⟨(nn : Int), j⟩) (by omega) hb1]
     clear hov hT HK hkp hnk18 hg c0 c1 c2 c3 c5 hq10 hbn hlim hb1 hnn2
     go_wp2_with fail
     with_reducible refine (CG.out _).mono ?_
     rintro e_x9 w_x9 ⟨rfl, hb_x9⟩
     obtain ⟨x9, rfl⟩ := later_is hb_x9
     clear hb_x9
     have hz_x9 := x9.bel.size
     try simp at hz_x9
     replace c_xz_0_0 := x9.carry c_xz_0_0
     replace c_xz_0_1 := x9.carry c_xz_0_1
     have lc_x9_0 : (w.heap.size+1) < x9.val.heap.size := by omega
     have mc_x9_0 : (w.heap.size+1) < x9.val.heap.size + 1 := by omega
     go_wp2
     refine bodyPost_ret (v := .tuple #[dcV 0 0, .bool false]) (by simp [results, Try.results51, go_sem, *]) rfl ⟨rfl, belo⟩
    have r4 : decide (lim < nk) = false := decide_eq_false hov
    have hnn2b : nn2 ≤ 4000000000000000000 := by
     have h1 : nk * q10 ≤ lim * q10 := Nat.mul_le_mul_right _ (by omega)
     have h2 := Nat.div_mul_le_self 4000000000000000000 q10
     rw [hlim] at h2
     omega
    have m4 : IntKind.i64.wrap (nn2 : Int) = (nn2 : Int) := IntWalk.i64_in _ (by omega)
    have HK2 : Hid ((k + 1 ≤ 6 ∧ TmI nn ((Vd.mil ⟨(nn : Int), j⟩).natAbs * num) den num2 (k + 1) nn2 bn) ∨ (k + 1 = 7 ∧ Vd.times ⟨(nn : Int), j⟩ num den = none)) := Lib.hid (by
     rcases Nat.lt_or_ge k 6 with h0 | h0
     ·left
      refine ⟨h0, ?_⟩
      rw [← hnn2, ← hq10, ← hbn]
      exact hT.step h0 hg
     ·right
      obtain rfl : k = 6 := by omega
      exact ⟨rfl, hT.six (x := ⟨(nn : Int), j⟩) (by omega) hb1⟩)
    clear hov hT HK hkp hnk18 hg c0 c1 c2 c3 c5 hq10 hbn hlim hb1 hnn2
    go_wp2_with fail
    with_reducible refine (CG.out _).mono ?_
    rintro e_x9 w_x9 ⟨rfl, hb_x9⟩
    obtain ⟨x9, rfl⟩ := later_is hb_x9
    clear hb_x9
    have hz_x9 := x9.bel.size
    try simp at hz_x9
    replace c_xz_0_0 := x9.carry c_xz_0_0
    replace c_xz_0_1 := x9.carry c_xz_0_1
    have lc_x9_0 : (w.heap.size+1) < x9.val.heap.size := by omega
    have mc_x9_0 : (w.heap.size+1) < x9.val.heap.size + 1 := by omega
    have bfin : Below (w.heap.size + 2) y5.val x9.val := hbz.trans (x9.bel.mono (by omega))
    go_wp2
    go_roundw
    case rel => exact ⟨k + 1, nn2, bn, by omega, by omega, HK2, by go_num, by first | rfl | trivial, by first | rfl | trivial, bfin⟩
    case measure => simp [RowKit.intOf]; omega
end Go.Proofs.Ythhokpaidekmnaa
