/- Layer 15: units.Word, units.Worth. -/
import Derived.Test.YthhokpaidekmnaaVdCmp
namespace Go.Proofs.Ythhokpaidekmnaa
open Go.RowKit
set_option linter.unusedVariables false
set_option linter.unusedSimpArgs false
attribute [local go_sem] Later.cell Later.frozen setCell_twice
theorem wrap_u16 (x : Int) : IntKind.u16.wrap x = x % 65536 := by simp [IntKind.wrap, IntKind.bits, IntKind.signed]
theorem wrap_i16 (x : Nat) (hx : x < 65536) (signed : Bool) (hs : signed = true) : wrap64 (IntKind.i16.wrap (x : Int)) = Vd.regI x signed := by
 subst hs
 have : IntKind.i16.wrap (x : Int) = Vd.regI x true := by
  unfold Vd.regI
  simp [IntKind.wrap, IntKind.bits, IntKind.signed]
  split <;> split <;> omega
 rw [this]
 apply IntWalk.wrap64_in
 unfold Vd.regI
 split <;> omega
theorem signed_any (x : Nat) (w : World) (hx : x < 65536) :
  Calls Try.prog 42 #[.int .u16 (x : Int)] w fun e w' => e = .returned (.int .i64 (Vd.regI x true)) ∧ w = w' := by
 have H := Lib.hid (wrap_i16 x hx true rfl)
 go_enter Try.func42, Try.ntmps42
 go_wp2
 go_ret
 exact ⟨ret_int H.out, rfl⟩
theorem word_any (x : Int) (w : World) (h1 : -32768 ≤ x) (h2 : x < 32768) :
  Calls Try.prog 50 #[.int .i64 x] w fun e w' => e = .returned (.tuple #[.int .u16 (((x % 65536).toNat : Nat) : Int), .bool true]) ∧ w = w' := by
 have q1 : decide (x < -32768) = false := by simp; omega
 have q2 : decide (32768 ≤ x) = false := by simp; omega
 have H := Lib.hid (show IntKind.u16.wrap x = (((x % 65536).toNat : Nat) : Int) by rw [wrap_u16]; omega)
 go_enter Try.func50, Try.ntmps50
 go_wp2
 go_ret2
 refine ⟨?_, rfl⟩
 rw [← H.out]
 rfl
theorem word_no (x : Int) (w : World) (h : 32768 ≤ x) :
  Calls Try.prog 50 #[.int .i64 x] w fun e w' => e = .returned (.tuple #[.int .u16 0, .bool false]) ∧ w = w' := by
 have q1 : decide (x < -32768) = false := by simp; omega
 have q2 : decide (32768 ≤ x) = true := by simp; omega
 clear h
 go_enter Try.func50, Try.ntmps50
 go_wp2
 go_ret2
 exact ⟨rfl, rfl⟩
/-- a register, or none -/
def regV : Option Nat → Value
 | some q => .tuple #[.int .u16 (q : Int), .bool true]
 | none => .tuple #[.int .u16 0, .bool false]
set_option maxHeartbeats 1000000 in
theorem unword_any (n : Int) (d : Nat) (dg : Int) (signed : Bool) (w : World) (h1 : Dc.Fit ⟨n, d⟩) : Calls Try.prog 35 #[dcV n d, .int .i64 dg, .bool signed] w fun e w' => e = .returned (regV (Vd.word ⟨n, d⟩ dg signed)) ∧ Below w.heap.size w w' := by
 have k1 := fun w => rightD_any n d w h1.1 h1.2.1
 have hd : d < 256 := h1.2.2
 unfold Vd.word dcV
 cases hr : Vd.rightD ⟨n, d⟩
 ·rw [hr] at k1
  have K1 := Lib.hid k1
  rw [if_neg (show ¬ (false = true ∧ (d : Int) ≤ dg ∧ dg ≤ 6) by simp)]
  clear k1 hr h1 hd
  go_enter Try.func35, Try.ntmps35
  go_wp2_with fail
  refine (K1.out _).mono ?_
  rintro e_x1 w_x1 ⟨rfl, hb_x1⟩
  obtain ⟨x1, rfl⟩ := later_is hb_x1
  clear hb_x1
  have hz_x1 := x1.bel.size
  try simp at hz_x1
  go_wp2
  go_ret2
  exact ⟨rfl, belo⟩
 rw [hr] at k1
 have K1 := Lib.hid k1
 obtain ⟨a1, a2, a3, _⟩ := rightD_out hr
 have s1 : IntKind.i64.wrap (d : Int) = (d : Int) := IntWalk.i64_in _ (by omega)
 clear k1 hr h1
 by_cases c1 : dg < (d : Int)
 ·rw [if_neg (show ¬ (true = true ∧ (d : Int) ≤ dg ∧ dg ≤ 6) by omega)]
  have g1 : decide (dg < (d : Int)) = true := decide_eq_true c1
  clear c1
  go_enter Try.func35, Try.ntmps35
  go_wp2_with fail
  refine (K1.out _).mono ?_
  rintro e_x1 w_x1 ⟨rfl, hb_x1⟩
  obtain ⟨x1, rfl⟩ := later_is hb_x1
  clear hb_x1
  have hz_x1 := x1.bel.size
  try simp at hz_x1
  have l_x1_0 : w.heap.size < x1.val.heap.size := by omega
  have m_x1_0 : w.heap.size < x1.val.heap.size + 1 := by omega
  have q_ := x1.cq (w.heap.size) 0
  generalize c_x1_0_0 : x1.val.cell? ⟨w.heap.size, 0, none⟩ = q at q_
  first | (have q2_ : q = some _ := q_; subst q2_) | (simp [go_sem] at q_; have q2_ : q = some _ := q_; subst q2_) | (simp [go_sem, *] at q_; have q2_ : q = some _ := q_; subst q2_)
  have q_ := x1.zq (w.heap.size) 0
  generalize z_x1_0_0 : x1.val.frozen? ⟨w.heap.size, 0, none⟩ = q at q_
  first | (have q2_ : q = false := q_; subst q2_) | (simp [go_sem] at q_; have q2_ : q = false := q_; subst q2_) | (simp [go_sem, *] at q_; have q2_ : q = false := q_; subst q2_)
  have q_ := x1.cq (w.heap.size) 1
  generalize c_x1_0_1 : x1.val.cell? ⟨w.heap.size, 1, none⟩ = q at q_
  first | (have q2_ : q = some _ := q_; subst q2_) | (simp [go_sem] at q_; have q2_ : q = some _ := q_; subst q2_) | (simp [go_sem, *] at q_; have q2_ : q = some _ := q_; subst q2_)
  have q_ := x1.zq (w.heap.size) 1
  generalize z_x1_0_1 : x1.val.frozen? ⟨w.heap.size, 1, none⟩ = q at q_
  first | (have q2_ : q = false := q_; subst q2_) | (simp [go_sem] at q_; have q2_ : q = false := q_; subst q2_) | (simp [go_sem, *] at q_; have q2_ : q = false := q_; subst q2_)
  go_wp2
  go_ret2
  exact ⟨rfl, belo⟩
 have g1 : decide (dg < (d : Int)) = false := decide_eq_false c1
 by_cases c2 : 6 < dg
 ·rw [if_neg (show ¬ (true = true ∧ (d : Int) ≤ dg ∧ dg ≤ 6) by omega)]
  have g2 : decide (6 < dg) = true := decide_eq_true c2
  clear c1 c2
  go_enter Try.func35, Try.ntmps35
  go_wp2_with fail
  refine (K1.out _).mono ?_
  rintro e_x1 w_x1 ⟨rfl, hb_x1⟩
  obtain ⟨x1, rfl⟩ := later_is hb_x1
  clear hb_x1
  have hz_x1 := x1.bel.size
  try simp at hz_x1
  have l_x1_0 : w.heap.size < x1.val.heap.size := by omega
  have m_x1_0 : w.heap.size < x1.val.heap.size + 1 := by omega
  have q_ := x1.cq (w.heap.size) 0
  generalize c_x1_0_0 : x1.val.cell? ⟨w.heap.size, 0, none⟩ = q at q_
  first | (have q2_ : q = some _ := q_; subst q2_) | (simp [go_sem] at q_; have q2_ : q = some _ := q_; subst q2_) | (simp [go_sem, *] at q_; have q2_ : q = some _ := q_; subst q2_)
  have q_ := x1.zq (w.heap.size) 0
  generalize z_x1_0_0 : x1.val.frozen? ⟨w.heap.size, 0, none⟩ = q at q_
  first | (have q2_ : q = false := q_; subst q2_) | (simp [go_sem] at q_; have q2_ : q = false := q_; subst q2_) | (simp [go_sem, *] at q_; have q2_ : q = false := q_; subst q2_)
  have q_ := x1.cq (w.heap.size) 1
  generalize c_x1_0_1 : x1.val.cell? ⟨w.heap.size, 1, none⟩ = q at q_
  first | (have q2_ : q = some _ := q_; subst q2_) | (simp [go_sem] at q_; have q2_ : q = some _ := q_; subst q2_) | (simp [go_sem, *] at q_; have q2_ : q = some _ := q_; subst q2_)
  have q_ := x1.zq (w.heap.size) 1
  generalize z_x1_0_1 : x1.val.frozen? ⟨w.heap.size, 1, none⟩ = q at q_
  first | (have q2_ : q = false := q_; subst q2_) | (simp [go_sem] at q_; have q2_ : q = false := q_; subst q2_) | (simp [go_sem, *] at q_; have q2_ : q = false := q_; subst q2_)
  go_wp2
  go_ret2
  exact ⟨rfl, belo⟩
 have g2 : decide (6 < dg) = false := decide_eq_false c2
 rw [if_pos (show true = true ∧ (d : Int) ≤ dg ∧ dg ≤ 6 from ⟨rfl, by omega, by omega⟩)]
 obtain ⟨k, hk⟩ : ∃ k, dg.toNat - d = k := ⟨_, rfl⟩
 obtain ⟨p, hp⟩ : ∃ p, 10 ^ k = p := ⟨_, rfl⟩
 have q1 := pow10_le (k := k) (by omega)
 rw [hp] at q1
 have P1 := Lib.hid (fun w => power_any k p w (by omega) hp)
 have r1 := mil_bound a1 a2 q1.1 q1.2
 obtain ⟨m, hm⟩ : ∃ m, n * (p : Int) = m := ⟨_, rfl⟩
 rw [hm] at r1
 have em : Vd.scaled ⟨n, d⟩ dg.toNat = m := by unfold Vd.scaled; dsimp only; rw [hk, ← hm, ← hp]; simp
 rw [em]
 have i1 : dg - (d : Int) = (k : Int) := by omega
 have j1 : IntKind.i64.wrap (k : Int) = (k : Int) := IntWalk.i64_in _ (by omega)
 have t1 : IntKind.i64.wrap m = m := IntWalk.i64_in _ (by omega)
 clear hk hp q1 em c1 c2
 by_cases c3 : m < -32768
 ·have g3 : decide (m < -32768) = true := decide_eq_true c3
  have e1 : (if signed = true then (if -32768 ≤ m ∧ m ≤ 32767 then some (m % 65536).toNat else none) else (if 0 ≤ m ∧ m ≤ 65535 then some m.toNat else none)) = none := by
   split
   ·rw [if_neg (by omega)]
   ·rw [if_neg (by omega)]
  rw [e1]
  clear e1 c3
  go_enter Try.func35, Try.ntmps35
  go_wp2_with fail
  refine (K1.out _).mono ?_
  rintro e_x1 w_x1 ⟨rfl, hb_x1⟩
  obtain ⟨x1, rfl⟩ := later_is hb_x1
  clear hb_x1
  have hz_x1 := x1.bel.size
  try simp at hz_x1
  have l_x1_0 : w.heap.size < x1.val.heap.size := by omega
  have m_x1_0 : w.heap.size < x1.val.heap.size + 1 := by omega
  have q_ := x1.cq (w.heap.size) 0
  generalize c_x1_0_0 : x1.val.cell? ⟨w.heap.size, 0, none⟩ = q at q_
  first | (have q2_ : q = some _ := q_; subst q2_) | (simp [go_sem] at q_; have q2_ : q = some _ := q_; subst q2_) | (simp [go_sem, *] at q_; have q2_ : q = some _ := q_; subst q2_)
  have q_ := x1.zq (w.heap.size) 0
  generalize z_x1_0_0 : x1.val.frozen? ⟨w.heap.size, 0, none⟩ = q at q_
  first | (have q2_ : q = false := q_; subst q2_) | (simp [go_sem] at q_; have q2_ : q = false := q_; subst q2_) | (simp [go_sem, *] at q_; have q2_ : q = false := q_; subst q2_)
  have q_ := x1.cq (w.heap.size) 1
  generalize c_x1_0_1 : x1.val.cell? ⟨w.heap.size, 1, none⟩ = q at q_
  first | (have q2_ : q = some _ := q_; subst q2_) | (simp [go_sem] at q_; have q2_ : q = some _ := q_; subst q2_) | (simp [go_sem, *] at q_; have q2_ : q = some _ := q_; subst q2_)
  have q_ := x1.zq (w.heap.size) 1
  generalize z_x1_0_1 : x1.val.frozen? ⟨w.heap.size, 1, none⟩ = q at q_
  first | (have q2_ : q = false := q_; subst q2_) | (simp [go_sem] at q_; have q2_ : q = false := q_; subst q2_) | (simp [go_sem, *] at q_; have q2_ : q = false := q_; subst q2_)
  go_upto_region 3 with fail
  refine wp_region_lat (by kernel_rfl) (by kernel_rfl) ?_
  repeat (go_big_quiet_step (fail))
  go_big_quiet_step (exact later_same (P1.out _))
  repeat (go_big_quiet_step (fail))
  refine wpQuiet_nil ?_
  rintro _ ⟨x3, rfl⟩
  have hz_x3 := x3.bel.size
  try simp at hz_x3
  go_wp2
  go_ret2
  exact ⟨rfl, belo⟩
 have g3 : decide (m < -32768) = false := decide_eq_false c3
 by_cases c4 : 65536 ≤ m
 ·have g4 : decide (65536 ≤ m) = true := decide_eq_true c4
  have e1 : (if signed = true then (if -32768 ≤ m ∧ m ≤ 32767 then some (m % 65536).toNat else none) else (if 0 ≤ m ∧ m ≤ 65535 then some m.toNat else none)) = none := by
   split
   ·rw [if_neg (by omega)]
   ·rw [if_neg (by omega)]
  rw [e1]
  clear e1 c3 c4
  go_enter Try.func35, Try.ntmps35
  go_wp2_with fail
  refine (K1.out _).mono ?_
  rintro e_x1 w_x1 ⟨rfl, hb_x1⟩
  obtain ⟨x1, rfl⟩ := later_is hb_x1
  clear hb_x1
  have hz_x1 := x1.bel.size
  try simp at hz_x1
  have l_x1_0 : w.heap.size < x1.val.heap.size := by omega
  have m_x1_0 : w.heap.size < x1.val.heap.size + 1 := by omega
  have q_ := x1.cq (w.heap.size) 0
  generalize c_x1_0_0 : x1.val.cell? ⟨w.heap.size, 0, none⟩ = q at q_
  first | (have q2_ : q = some _ := q_; subst q2_) | (simp [go_sem] at q_; have q2_ : q = some _ := q_; subst q2_) | (simp [go_sem, *] at q_; have q2_ : q = some _ := q_; subst q2_)
  have q_ := x1.zq (w.heap.size) 0
  generalize z_x1_0_0 : x1.val.frozen? ⟨w.heap.size, 0, none⟩ = q at q_
  first | (have q2_ : q = false := q_; subst q2_) | (simp [go_sem] at q_; have q2_ : q = false := q_; subst q2_) | (simp [go_sem, *] at q_; have q2_ : q = false := q_; subst q2_)
  have q_ := x1.cq (w.heap.size) 1
  generalize c_x1_0_1 : x1.val.cell? ⟨w.heap.size, 1, none⟩ = q at q_
  first | (have q2_ : q = some _ := q_; subst q2_) | (simp [go_sem] at q_; have q2_ : q = some _ := q_; subst q2_) | (simp [go_sem, *] at q_; have q2_ : q = some _ := q_; subst q2_)
  have q_ := x1.zq (w.heap.size) 1
  generalize z_x1_0_1 : x1.val.frozen? ⟨w.heap.size, 1, none⟩ = q at q_
  first | (have q2_ : q = false := q_; subst q2_) | (simp [go_sem] at q_; have q2_ : q = false := q_; subst q2_) | (simp [go_sem, *] at q_; have q2_ : q = false := q_; subst q2_)
  go_upto_region 3 with fail
  refine wp_region_lat (by kernel_rfl) (by kernel_rfl) ?_
  repeat (go_big_quiet_step (fail))
  go_big_quiet_step (exact later_same (P1.out _))
  repeat (go_big_quiet_step (fail))
  refine wpQuiet_nil ?_
  rintro _ ⟨x3, rfl⟩
  have hz_x3 := x3.bel.size
  try simp at hz_x3
  go_wp2
  go_ret2
  exact ⟨rfl, belo⟩
 have g4 : decide (65536 ≤ m) = false := decide_eq_false c4
 cases signed
 ·rw [if_neg (show ¬ (false = true) by decide)]
  by_cases c5 : m < 0
  ·have g5 : decide (m < 0) = true := decide_eq_true c5
   rw [if_neg (show ¬ (0 ≤ m ∧ m ≤ 65535) by omega)]
   clear c3 c4 c5
   go_enter Try.func35, Try.ntmps35
   go_wp2_with fail
   refine (K1.out _).mono ?_
   rintro e_x1 w_x1 ⟨rfl, hb_x1⟩
   obtain ⟨x1, rfl⟩ := later_is hb_x1
   clear hb_x1
   have hz_x1 := x1.bel.size
   try simp at hz_x1
   have l_x1_0 : w.heap.size < x1.val.heap.size := by omega
   have m_x1_0 : w.heap.size < x1.val.heap.size + 1 := by omega
   have q_ := x1.cq (w.heap.size) 0
   generalize c_x1_0_0 : x1.val.cell? ⟨w.heap.size, 0, none⟩ = q at q_
   first | (have q2_ : q = some _ := q_; subst q2_) | (simp [go_sem] at q_; have q2_ : q = some _ := q_; subst q2_) | (simp [go_sem, *] at q_; have q2_ : q = some _ := q_; subst q2_)
   have q_ := x1.zq (w.heap.size) 0
   generalize z_x1_0_0 : x1.val.frozen? ⟨w.heap.size, 0, none⟩ = q at q_
   first | (have q2_ : q = false := q_; subst q2_) | (simp [go_sem] at q_; have q2_ : q = false := q_; subst q2_) | (simp [go_sem, *] at q_; have q2_ : q = false := q_; subst q2_)
   have q_ := x1.cq (w.heap.size) 1
   generalize c_x1_0_1 : x1.val.cell? ⟨w.heap.size, 1, none⟩ = q at q_
   first | (have q2_ : q = some _ := q_; subst q2_) | (simp [go_sem] at q_; have q2_ : q = some _ := q_; subst q2_) | (simp [go_sem, *] at q_; have q2_ : q = some _ := q_; subst q2_)
   have q_ := x1.zq (w.heap.size) 1
   generalize z_x1_0_1 : x1.val.frozen? ⟨w.heap.size, 1, none⟩ = q at q_
   first | (have q2_ : q = false := q_; subst q2_) | (simp [go_sem] at q_; have q2_ : q = false := q_; subst q2_) | (simp [go_sem, *] at q_; have q2_ : q = false := q_; subst q2_)
   go_upto_region 3 with fail
   refine wp_region_lat (by kernel_rfl) (by kernel_rfl) ?_
   repeat (go_big_quiet_step (fail))
   go_big_quiet_step (exact later_same (P1.out _))
   repeat (go_big_quiet_step (fail))
   refine wpQuiet_nil ?_
   rintro _ ⟨x3, rfl⟩
   have hz_x3 := x3.bel.size
   try simp at hz_x3
   go_wp2
   go_ret2
   exact ⟨rfl, belo⟩
  ·have g5 : decide (m < 0) = false := decide_eq_false c5
   rw [if_pos (show 0 ≤ m ∧ m ≤ 65535 by omega)]
   obtain ⟨q, rfl⟩ : ∃ q : Nat, m = (q : Int) := ⟨m.toNat, by omega⟩
   have g6 : IntKind.u16.wrap (q : Int) = (q : Int) := by rw [wrap_u16]; omega
   rw [Int.toNat_natCast]
   clear c3 c4 c5
   go_enter Try.func35, Try.ntmps35
   go_wp2_with fail
   refine (K1.out _).mono ?_
   rintro e_x1 w_x1 ⟨rfl, hb_x1⟩
   obtain ⟨x1, rfl⟩ := later_is hb_x1
   clear hb_x1
   have hz_x1 := x1.bel.size
   try simp at hz_x1
   have l_x1_0 : w.heap.size < x1.val.heap.size := by omega
   have m_x1_0 : w.heap.size < x1.val.heap.size + 1 := by omega
   have q_ := x1.cq (w.heap.size) 0
   generalize c_x1_0_0 : x1.val.cell? ⟨w.heap.size, 0, none⟩ = q at q_
   first | (have q2_ : q = some _ := q_; subst q2_) | (simp [go_sem] at q_; have q2_ : q = some _ := q_; subst q2_) | (simp [go_sem, *] at q_; have q2_ : q = some _ := q_; subst q2_)
   have q_ := x1.zq (w.heap.size) 0
   generalize z_x1_0_0 : x1.val.frozen? ⟨w.heap.size, 0, none⟩ = q at q_
   first | (have q2_ : q = false := q_; subst q2_) | (simp [go_sem] at q_; have q2_ : q = false := q_; subst q2_) | (simp [go_sem, *] at q_; have q2_ : q = false := q_; subst q2_)
   have q_ := x1.cq (w.heap.size) 1
   generalize c_x1_0_1 : x1.val.cell? ⟨w.heap.size, 1, none⟩ = q at q_
   first | (have q2_ : q = some _ := q_; subst q2_) | (simp [go_sem] at q_; have q2_ : q = some _ := q_; subst q2_) | (simp [go_sem, *] at q_; have q2_ : q = some _ := q_; subst q2_)
   have q_ := x1.zq (w.heap.size) 1
   generalize z_x1_0_1 : x1.val.frozen? ⟨w.heap.size, 1, none⟩ = q at q_
   first | (have q2_ : q = false := q_; subst q2_) | (simp [go_sem] at q_; have q2_ : q = false := q_; subst q2_) | (simp [go_sem, *] at q_; have q2_ : q = false := q_; subst q2_)
   go_upto_region 3 with fail
   refine wp_region_lat (by kernel_rfl) (by kernel_rfl) ?_
   repeat (go_big_quiet_step (fail))
   go_big_quiet_step (exact later_same (P1.out _))
   repeat (go_big_quiet_step (fail))
   refine wpQuiet_nil ?_
   rintro _ ⟨x3, rfl⟩
   have hz_x3 := x3.bel.size
   try simp at hz_x3
   go_wp2
   go_ret2
   exact ⟨rfl, belo⟩
 ·rw [if_pos rfl]
  by_cases c5 : m ≤ 32767
  ·rw [if_pos (show -32768 ≤ m ∧ m ≤ 32767 by omega)]
   have KW := (fun w => word_any m w (by omega) (by omega))
   obtain ⟨q, hq⟩ : ∃ q, (m % 65536).toNat = q := ⟨_, rfl⟩
   rw [hq] at KW ⊢
   replace KW := Lib.hid KW
   clear hq
   clear c3 c4 c5
   go_enter Try.func35, Try.ntmps35
   go_wp2_with fail
   refine (K1.out _).mono ?_
   rintro e_x1 w_x1 ⟨rfl, hb_x1⟩
   obtain ⟨x1, rfl⟩ := later_is hb_x1
   clear hb_x1
   have hz_x1 := x1.bel.size
   try simp at hz_x1
   have l_x1_0 : w.heap.size < x1.val.heap.size := by omega
   have m_x1_0 : w.heap.size < x1.val.heap.size + 1 := by omega
   have q_ := x1.cq (w.heap.size) 0
   generalize c_x1_0_0 : x1.val.cell? ⟨w.heap.size, 0, none⟩ = q at q_
   first | (have q2_ : q = some _ := q_; subst q2_) | (simp [go_sem] at q_; have q2_ : q = some _ := q_; subst q2_) | (simp [go_sem, *] at q_; have q2_ : q = some _ := q_; subst q2_)
   have q_ := x1.zq (w.heap.size) 0
   generalize z_x1_0_0 : x1.val.frozen? ⟨w.heap.size, 0, none⟩ = q at q_
   first | (have q2_ : q = false := q_; subst q2_) | (simp [go_sem] at q_; have q2_ : q = false := q_; subst q2_) | (simp [go_sem, *] at q_; have q2_ : q = false := q_; subst q2_)
   have q_ := x1.cq (w.heap.size) 1
   generalize c_x1_0_1 : x1.val.cell? ⟨w.heap.size, 1, none⟩ = q at q_
   first | (have q2_ : q = some _ := q_; subst q2_) | (simp [go_sem] at q_; have q2_ : q = some _ := q_; subst q2_) | (simp [go_sem, *] at q_; have q2_ : q = some _ := q_; subst q2_)
   have q_ := x1.zq (w.heap.size) 1
   generalize z_x1_0_1 : x1.val.frozen? ⟨w.heap.size, 1, none⟩ = q at q_
   first | (have q2_ : q = false := q_; subst q2_) | (simp [go_sem] at q_; have q2_ : q = false := q_; subst q2_) | (simp [go_sem, *] at q_; have q2_ : q = false := q_; subst q2_)
   go_upto_region 3 with fail
   refine wp_region_lat (by kernel_rfl) (by kernel_rfl) ?_
   repeat (go_big_quiet_step (fail))
   go_big_quiet_step (exact later_same (P1.out _))
   repeat (go_big_quiet_step (fail))
   refine wpQuiet_nil ?_
   rintro _ ⟨x3, rfl⟩
   have hz_x3 := x3.bel.size
   try simp at hz_x3
   go_wp2_with fail
   refine (KW.out _).mono ?_
   rintro e9 w9 ⟨rfl, rfl⟩
   go_wp2
   go_ret2
   exact ⟨rfl, belo⟩
  ·rw [if_neg (show ¬ (-32768 ≤ m ∧ m ≤ 32767) by omega)]
   have KW := Lib.hid (fun w => word_no m w (by omega))
   clear c3 c4 c5
   go_enter Try.func35, Try.ntmps35
   go_wp2_with fail
   refine (K1.out _).mono ?_
   rintro e_x1 w_x1 ⟨rfl, hb_x1⟩
   obtain ⟨x1, rfl⟩ := later_is hb_x1
   clear hb_x1
   have hz_x1 := x1.bel.size
   try simp at hz_x1
   have l_x1_0 : w.heap.size < x1.val.heap.size := by omega
   have m_x1_0 : w.heap.size < x1.val.heap.size + 1 := by omega
   have q_ := x1.cq (w.heap.size) 0
   generalize c_x1_0_0 : x1.val.cell? ⟨w.heap.size, 0, none⟩ = q at q_
   first | (have q2_ : q = some _ := q_; subst q2_) | (simp [go_sem] at q_; have q2_ : q = some _ := q_; subst q2_) | (simp [go_sem, *] at q_; have q2_ : q = some _ := q_; subst q2_)
   have q_ := x1.zq (w.heap.size) 0
   generalize z_x1_0_0 : x1.val.frozen? ⟨w.heap.size, 0, none⟩ = q at q_
   first | (have q2_ : q = false := q_; subst q2_) | (simp [go_sem] at q_; have q2_ : q = false := q_; subst q2_) | (simp [go_sem, *] at q_; have q2_ : q = false := q_; subst q2_)
   have q_ := x1.cq (w.heap.size) 1
   generalize c_x1_0_1 : x1.val.cell? ⟨w.heap.size, 1, none⟩ = q at q_
   first | (have q2_ : q = some _ := q_; subst q2_) | (simp [go_sem] at q_; have q2_ : q = some _ := q_; subst q2_) | (simp [go_sem, *] at q_; have q2_ : q = some _ := q_; subst q2_)
   have q_ := x1.zq (w.heap.size) 1
   generalize z_x1_0_1 : x1.val.frozen? ⟨w.heap.size, 1, none⟩ = q at q_
   first | (have q2_ : q = false := q_; subst q2_) | (simp [go_sem] at q_; have q2_ : q = false := q_; subst q2_) | (simp [go_sem, *] at q_; have q2_ : q = false := q_; subst q2_)
   go_upto_region 3 with fail
   refine wp_region_lat (by kernel_rfl) (by kernel_rfl) ?_
   repeat (go_big_quiet_step (fail))
   go_big_quiet_step (exact later_same (P1.out _))
   repeat (go_big_quiet_step (fail))
   refine wpQuiet_nil ?_
   rintro _ ⟨x3, rfl⟩
   have hz_x3 := x3.bel.size
   try simp at hz_x3
   go_wp2_with fail
   refine (KW.out _).mono ?_
   rintro e9 w9 ⟨rfl, rfl⟩
   go_wp2
   go_ret2
   exact ⟨rfl, belo⟩
end Go.Proofs.Ythhokpaidekmnaa
