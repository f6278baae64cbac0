/- The walks of the reference of layer 17: Fits. -/
import Derived.Test.YtkilpiiljpeamaaBank
import Derived.Test.YtkilpiiljpeamaaRow
namespace Go.Proofs.Ytkilpiiljpeamaa
open Go.RowKit
set_option linter.unusedVariables false
attribute [local go_sem] Later.cell Later.frozen setCell_twice
set_option maxHeartbeats 400000 in
theorem rfits_any (a : Int) (n c : Nat) (A : Option Addr) (r : Bool) (w : World) (lo : -9223372036854775808 ≤ a) (hi : a ≤ 9223372036854775807) (hn : n ≤ 9223372036854775807) (hr : Bk.fits a n = r) :
    Calls Try.prog 24 #[.agg #[.int .i64 a, .slice A n c]] w fun e w' => e = .returned (.bool r) ∧ Below w.heap.size w w' := by
  by_cases h1 : 14 < n
  · obtain rfl : r = false := by rw [← hr, Bk.fits_no]; omega
    have g1 : decide ((14 : Int) < (n : Int)) = true := decide_eq_true (by omega)
    clear hr
    go_enter Try.func24, Try.ntmps24
    go_wp2
    go_ret
    exact ⟨rfl, (by repeat (first | with_reducible exact Below.refl _ _ | with_reducible refine bel_later _ ?_ | with_reducible refine bel_alloc ?_ _ | refine bel_set ?_ (by first | omega | (simp; done) | (simp; omega)) _ | with_reducible refine Below.drew ?_ | with_reducible refine bel_drewN ?_ _ | with_reducible assumption | assumption))⟩
  have g1 : decide ((14 : Int) < (n : Int)) = false := decide_eq_false (by omega)
  by_cases h2 : a < 0
  · obtain rfl : r = false := by rw [← hr, Bk.fits_no]; omega
    clear hr
    go_enter Try.func24, Try.ntmps24
    go_wp2
    go_ret
    exact ⟨rfl, (by repeat (first | with_reducible exact Below.refl _ _ | with_reducible refine bel_later _ ?_ | with_reducible refine bel_alloc ?_ _ | refine bel_set ?_ (by first | omega | (simp; done) | (simp; omega)) _ | with_reducible refine Below.drew ?_ | with_reducible refine bel_drewN ?_ _ | with_reducible assumption | assumption))⟩
  have g2 : decide (a < 0) = false := decide_eq_false h2
  by_cases h3 : 63 < a
  · obtain rfl : r = false := by rw [← hr, Bk.fits_no]; omega
    clear hr
    go_enter Try.func24, Try.ntmps24
    go_wp2
    go_ret
    exact ⟨rfl, (by repeat (first | with_reducible exact Below.refl _ _ | with_reducible refine bel_later _ ?_ | with_reducible refine bel_alloc ?_ _ | refine bel_set ?_ (by first | omega | (simp; done) | (simp; omega)) _ | with_reducible refine Below.drew ?_ | with_reducible refine bel_drewN ?_ _ | with_reducible assumption | assumption))⟩
  have g3 : decide (63 < a) = false := decide_eq_false h3
  have ha0 : 0 ≤ a := by omega
  have ha1 : a ≤ 63 := by omega
  have HR := Lib.hid hr
  clear hr h1 h2 h3
  go_enter Try.func24, Try.ntmps24
  go_wp2
  go_loop [3] (fun i => ∃ k : Nat, k ≤ n ∧ i = .int .i64 k ∧ a + (k : Int) ≤ 64) (fun i => n - (intOf i).toNat)
  case atStart => exact ⟨0, by omega, rfl, by omega⟩
  case round =>
    obtain ⟨k, hk, rfl, hak⟩ := hrel
    by_cases hlt : k < n
    · by_cases h4 : 63 < a + (k : Int)
      · obtain rfl : r = false := by rw [← HR.out, Bk.fits_no]; omega
        have g4 : decide (63 < a + (k : Int)) = true := decide_eq_true h4
        go_wp2
        go_ret
        exact ⟨rfl, (by repeat (first | with_reducible exact Below.refl _ _ | with_reducible refine bel_later _ ?_ | with_reducible refine bel_alloc ?_ _ | refine bel_set ?_ (by first | omega | (simp; done) | (simp; omega)) _ | with_reducible refine Below.drew ?_ | with_reducible refine bel_drewN ?_ _ | with_reducible assumption | assumption))⟩
      · have g4 : decide (63 < a + (k : Int)) = false := decide_eq_false h4
        go_wp2
        go_round
        case rel => exact ⟨k + 1, by omega, by go_num, by omega⟩
        case measure => simp [intOf]; omega
    · obtain rfl : k = n := by omega
      obtain rfl : r = true := by
        rw [← HR.out, Bk.fits_iff]
        have hn14 : k ≤ 14 := by
          rcases Nat.lt_or_ge 14 k with h | h
          · exact absurd g1 (by simp; omega)
          · exact h
        omega
      go_wp2
      go_ret
      exact ⟨rfl, (by repeat (first | with_reducible exact Below.refl _ _ | with_reducible refine bel_later _ ?_ | with_reducible refine bel_alloc ?_ _ | refine bel_set ?_ (by first | omega | (simp; done) | (simp; omega)) _ | with_reducible refine Below.drew ?_ | with_reducible refine bel_drewN ?_ _ | with_reducible assumption | assumption))⟩
end Go.Proofs.Ytkilpiiljpeamaa
