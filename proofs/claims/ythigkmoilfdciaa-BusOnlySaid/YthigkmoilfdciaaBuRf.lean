/- Layer 11: the reference: Right. -/
import Derived.Test.YthigkmoilfdciaaBuWant
namespace Go.Proofs.Ythigkmoilfdciaa
open Go.RowKit
set_option linter.unusedVariables false
set_option linter.unusedSimpArgs false
attribute [local go_sem] Later.cell Later.frozen setCell_twice
set_option maxHeartbeats 1000000 in
theorem rright_any (nr : Nat) (s : Int) (up : Bool) (A : Option Addr) (m c : Nat) (w : World) (r : Bool) (hr : decide (0 ≤ s ∧ s < (nr : Int) ∧ 1 ≤ m ∧ m ≤ 300) = r) :
    Calls Try.prog 14 #[.int .i64 (nr : Int), .agg (pmV s up A m c).toArray] w fun e w' => e = .returned (.bool r) ∧ Below w.heap.size w w' := by
  by_cases h1 : 0 ≤ s
  · have g1 : decide (0 ≤ s) = true := decide_eq_true h1
    by_cases h2 : s < (nr : Int)
    · have g2 : decide (s < (nr : Int)) = true := decide_eq_true h2
      by_cases h3 : 1 ≤ m
      · have h3I : decide ((1 : Int) ≤ (m : Int)) = true := decide_eq_true (by omega)
        by_cases h4 : m ≤ 300
        · have h4I : decide ((m : Int) ≤ 300) = true := decide_eq_true (by omega)
          obtain rfl : r = true := by rw [← hr]; exact decide_eq_true ⟨h1, h2, h3, h4⟩
          clear hr h3 h4
          go_enter Try.func14, Try.ntmps14
          go_wp2
          go_ret
          exact ⟨rfl, bel_alloc (Below.refl _ _) _⟩
        · have h4I : decide ((m : Int) ≤ 300) = false := decide_eq_false (by omega)
          obtain rfl : r = false := by rw [← hr]; exact decide_eq_false (fun h => h4 h.2.2.2)
          clear hr h3 h4
          go_enter Try.func14, Try.ntmps14
          go_wp2
          go_ret
          exact ⟨rfl, bel_alloc (Below.refl _ _) _⟩
      · have h3I : decide ((1 : Int) ≤ (m : Int)) = false := decide_eq_false (by omega)
        obtain rfl : r = false := by rw [← hr]; exact decide_eq_false (fun h => h3 h.2.2.1)
        clear hr h3
        go_enter Try.func14, Try.ntmps14
        go_wp2
        go_ret
        exact ⟨rfl, bel_alloc (Below.refl _ _) _⟩
    · have g2 : decide (s < (nr : Int)) = false := decide_eq_false h2
      obtain rfl : r = false := by rw [← hr]; exact decide_eq_false (fun h => h2 h.2.1)
      clear hr
      go_enter Try.func14, Try.ntmps14
      go_wp2
      go_ret
      exact ⟨rfl, bel_alloc (Below.refl _ _) _⟩
  · have g1 : decide (0 ≤ s) = false := decide_eq_false h1
    obtain rfl : r = false := by rw [← hr]; exact decide_eq_false (fun h => h1 h.1)
    clear hr
    go_enter Try.func14, Try.ntmps14
    go_wp2
    go_ret
    exact ⟨rfl, bel_alloc (Below.refl _ _) _⟩
end Go.Proofs.Ythigkmoilfdciaa
