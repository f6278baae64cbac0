/- Layer 15: package units: decimals. -/
import Derived.Test.YthhokpaidekmnaaVdLaw
import Derived.Test.YthhokpaidekmnaaVarB
import Derived.Test.YthhokpaidekmnaaRes
import Derived.Test.YthhokpaidekmnaaMapL
import Derived.Test.YthhokpaidekmnaaRowC
namespace Go.Proofs.Ythhokpaidekmnaa
open Go.RowKit
set_option linter.unusedVariables false
set_option linter.unusedSimpArgs false
attribute [local go_sem] Later.cell Later.frozen setCell_twice
abbrev dcF (x : Dc) : List Value := [.int .i64 x.n, .int .u8 (x.d : Int)]
abbrev dcV (n : Int) (d : Nat) : Value := .agg #[.int .i64 n, .int .u8 (d : Int)]
theorem tmod10 (n : Int) : n.tmod 10 = 0 ↔ n % 10 = 0 := by rw [← Int.dvd_iff_tmod_eq_zero, Int.dvd_iff_emod_eq_zero]
theorem rightD_eq (n : Int) (d : Nat) : Vd.rightD ⟨n, d⟩ = decide (-1000000000000 ≤ n ∧ n ≤ 1000000000000 ∧ d ≤ 6 ∧ (d = 0 ∨ n % 10 ≠ 0)) := rfl
set_option maxHeartbeats 1000000 in
theorem rightD_any (n : Int) (d : Nat) (w : World) (hn : -9223372036854775808 ≤ n) (hn2 : n ≤ 9223372036854775807) : Calls Try.prog 20 #[dcV n d] w fun e w' => e = .returned (.bool (Vd.rightD ⟨n, d⟩)) ∧ Below w.heap.size w w' := by
 unfold dcV
 by_cases h1 : -1000000000000 ≤ n
 rotate_left
 ·have g1 : decide (-1000000000000 ≤ n) = false := decide_eq_false h1
  rw [show Vd.rightD ⟨n, d⟩ = false from decide_eq_false (by dsimp only; omega)]
  clear h1
  go_enter Try.func20, Try.ntmps20
  go_wp2
  go_ret
  exact ⟨rfl, bel_alloc (Below.refl _ _) _⟩
 have g1 : decide (-1000000000000 ≤ n) = true := decide_eq_true h1
 by_cases h2 : n ≤ 1000000000000
 rotate_left
 ·have g2 : decide (n ≤ 1000000000000) = false := decide_eq_false h2
  rw [show Vd.rightD ⟨n, d⟩ = false from decide_eq_false (by dsimp only; omega)]
  clear h1
  go_enter Try.func20, Try.ntmps20
  go_wp2
  go_ret
  exact ⟨rfl, bel_alloc (Below.refl _ _) _⟩
 have g2 : decide (n ≤ 1000000000000) = true := decide_eq_true h2
 by_cases h3 : d ≤ 6
 rotate_left
 ·have g3 : decide ((d : Int) ≤ 6) = false := decide_eq_false (by omega)
  rw [show Vd.rightD ⟨n, d⟩ = false from decide_eq_false (by dsimp only; omega)]
  clear h1
  go_enter Try.func20, Try.ntmps20
  go_wp2
  go_ret
  exact ⟨rfl, bel_alloc (Below.refl _ _) _⟩
 have g3 : decide ((d : Int) ≤ 6) = true := decide_eq_true (by omega)
 by_cases h4 : d = 0
 ·have g4 : ((d : Int) == 0) = true := by simp [h4]
  rw [show Vd.rightD ⟨n, d⟩ = true from decide_eq_true (by dsimp only; omega)]
  clear h4
  clear h1
  go_enter Try.func20, Try.ntmps20
  go_wp2
  go_ret
  exact ⟨rfl, bel_alloc (Below.refl _ _) _⟩
 have g4 : ((d : Int) == 0) = false := by simp [h4]
 obtain ⟨m, hm⟩ : ∃ m, n.tmod 10 = m := ⟨_, rfl⟩
 have hmb : -10 < m ∧ m < 10 := by rw [← hm]; have := Int.tmod_lt_of_pos n (b := 10) (by decide); have := Int.lt_tmod_of_pos n (b := 10) (by decide); omega
 have hmw : IntKind.i64.wrap m = m := IntWalk.i64_in _ (by omega)
 by_cases h5 : m = 0
 ·have h6 := (tmod10 n).1 (hm.trans h5)
  have g5 : (m != 0) = false := by simp [h5]
  rw [show Vd.rightD ⟨n, d⟩ = false from decide_eq_false (by dsimp only; omega)]
  clear h5 h6 h4
  clear h1
  go_enter Try.func20, Try.ntmps20
  go_wp2
  go_ret
  exact ⟨rfl, bel_alloc (Below.refl _ _) _⟩
 ·have h6 : n % 10 ≠ 0 := fun h => h5 (hm ▸ (tmod10 n).2 h)
  have g5 : (m != 0) = true := by simp [h5]
  rw [show Vd.rightD ⟨n, d⟩ = true from decide_eq_true (by dsimp only; omega)]
  clear h5 h6 h4
  clear h1
  go_enter Try.func20, Try.ntmps20
  go_wp2
  go_ret
  exact ⟨rfl, bel_alloc (Below.refl _ _) _⟩
theorem pow10_le {k : Nat} (h : k ≤ 6) : 1 ≤ (10 : Nat) ^ k ∧ (10 : Nat) ^ k ≤ 1000000 :=
 ⟨Nat.pos_of_ne_zero (by simp), Nat.le_trans (Nat.pow_le_pow_right (n := 10) (by decide) h) (by decide)⟩
set_option maxHeartbeats 400000 in
theorem power_any (k p : Nat) (w : World) (hk : k ≤ 6) (hp : 10 ^ k = p) : Calls Try.prog 43 #[.int .i64 (k : Int)] w fun e w' => e = .returned (.int .i64 (p : Int)) ∧ w = w' := by
 have HP := Lib.hid hp
 clear hp
 go_enter Try.func43, Try.ntmps43
 go_wp2
 go_loopw [3, 5] (fun x i wr => ∃ j q : Nat, j ≤ k ∧ Hid (10 ^ j = q) ∧ q ≤ 1000000 ∧ x = .int .i64 (q : Int) ∧ i = .int .i64 (j : Int) ∧ wr = w) (fun _ i _ => k - (intOf i).toNat)
 case atStart => exact ⟨0, 1, by omega, Lib.hid rfl, by decide, rfl, rfl, rfl⟩
 case round =>
  rename World => wr
  obtain ⟨j, q, hj, HQ, hq6, rfl, rfl, rfl⟩ := hrel
  by_cases hlt : j < k
  rotate_left
  ·obtain rfl : j = k := by omega
   obtain rfl : q = p := HQ.out.symm.trans HP.out
   go_wp2
   go_ret
   exact ⟨rfl, rfl⟩
  have hltI : (j : Int) < (k : Int) := by omega
  obtain ⟨q1, hq1⟩ : ∃ q1, q * 10 = q1 := ⟨_, rfl⟩
  have m1 : (q : Int) * 10 = (q1 : Int) := by omega
  have m2 : IntKind.i64.wrap (q1 : Int) = (q1 : Int) := IntWalk.i64_in _ (by omega)
  have HQ1 : Hid (10 ^ (j + 1) = q1) := Lib.hid (by rw [Nat.pow_succ, HQ.out, hq1])
  have hq16 : q1 ≤ 1000000 := by rw [← HQ1.out]; exact (pow10_le (by omega)).2
  clear hq1
  go_wp2
  go_roundw
  case rel => exact ⟨j + 1, q1, by omega, HQ1, hq16, by first | rfl | trivial, by go_num, by first | rfl | trivial⟩
  case measure => simp [intOf]; omega
end Go.Proofs.Ythhokpaidekmnaa
