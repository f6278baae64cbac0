/- The document's answer, layer 10: Right. -/
import Derived.Test.YtegmeodmjaijnaaNvRight
namespace Go.Proofs.Ytegmeodmjaijnaa
open Go.RowKit
set_option linter.unusedVariables false
attribute [local go_sem] Later.cell Later.frozen setCell_twice
set_option maxRecDepth 100000 in
set_option maxHeartbeats 1000000 in
theorem rright_go (what tx who n : Nat) (yes : Bool) (A : Option Addr) (c : Nat) (w : World) (r : Bool) (hr : decide ((what = 2 ∧ 0 < who ∧ yes = false ∧ n ≤ 8192) ∨ ((what = 1 ∨ what = 3 ∨ what = 4) ∧ who = 0 ∧ n = 0 ∧ (yes = false ∨ what = 3))) = r) :
    Calls Try.prog 37 #[.agg (rcV what tx who yes A n c).toArray] w fun e w' => e = .returned (.bool r) ∧ Below w.heap.size w w' := by
  have HR := Lib.hid hr
  clear hr
  by_cases hw : what = 2
  · subst hw
    by_cases h1 : 0 < who
    · have g1 : decide ((0 : Int) < (who : Int)) = true := decide_eq_true (by omega)
      have g1n : decide (0 < who) = true := decide_eq_true h1
      cases yes
      · by_cases h2 : n ≤ 8192
        · have g2 : decide ((n : Int) ≤ 8192) = true := decide_eq_true (by omega)
          obtain rfl : r = true := by
            rw [← HR.out]
            exact decide_eq_true (by first | (simp; done) | (simp; omega) | omega)
          go_enter Try.func37, Try.ntmps37
          go_wp2
          go_ret
          exact ⟨rfl, bel_alloc (Below.refl _ _) _⟩
        · have g2 : decide ((n : Int) ≤ 8192) = false := decide_eq_false (by omega)
          obtain rfl : r = false := by
            rw [← HR.out]
            exact decide_eq_false (by first | (simp; done) | (simp; omega) | omega)
          go_enter Try.func37, Try.ntmps37
          go_wp2
          go_ret
          exact ⟨rfl, bel_alloc (Below.refl _ _) _⟩
      · obtain rfl : r = false := by
          rw [← HR.out]
          exact decide_eq_false (by first | (simp; done) | (simp; omega) | omega)
        go_enter Try.func37, Try.ntmps37
        go_wp2
        go_ret
        exact ⟨rfl, bel_alloc (Below.refl _ _) _⟩
    · obtain rfl : who = 0 := by omega
      obtain rfl : r = false := by
        rw [← HR.out]
        exact decide_eq_false (by first | (simp; done) | (simp; omega) | omega)
      go_enter Try.func37, Try.ntmps37
      go_wp2
      go_ret
      exact ⟨rfl, bel_alloc (Below.refl _ _) _⟩
  · have w2 : ((what : Int) == 2) = false := by simp; omega
    by_cases hw1 : what = 1
    · subst hw1
      by_cases h1 : who = 0
      · have g1 : ((who : Int) == 0) = true := by subst h1; rfl
        by_cases h2 : n = 0
        · have g2 : ((n : Int) == 0) = true := by subst h2; rfl
          cases yes
          · obtain rfl : r = true := by
              rw [← HR.out]
              exact decide_eq_true (by first | (simp; done) | (simp; omega) | omega)
            go_enter Try.func37, Try.ntmps37
            go_wp2
            go_ret
            exact ⟨rfl, bel_alloc (Below.refl _ _) _⟩
          · obtain rfl : r = false := by
              rw [← HR.out]
              exact decide_eq_false (by first | (simp; done) | (simp; omega) | omega)
            go_enter Try.func37, Try.ntmps37
            go_wp2
            go_ret
            exact ⟨rfl, bel_alloc (Below.refl _ _) _⟩
        · have g2 : ((n : Int) == 0) = false := by simp; omega
          obtain rfl : r = false := by
            rw [← HR.out]
            exact decide_eq_false (by first | (simp; done) | (simp; omega) | omega)
          go_enter Try.func37, Try.ntmps37
          go_wp2
          go_ret
          exact ⟨rfl, bel_alloc (Below.refl _ _) _⟩
      · have g1 : ((who : Int) == 0) = false := by simp; omega
        obtain rfl : r = false := by
          rw [← HR.out]
          exact decide_eq_false (by first | (simp; done) | (simp; omega) | omega)
        go_enter Try.func37, Try.ntmps37
        go_wp2
        go_ret
        exact ⟨rfl, bel_alloc (Below.refl _ _) _⟩
    · have w1 : ((what : Int) == 1) = false := by simp; omega
      by_cases hw3 : what = 3
      · subst hw3
        by_cases h1 : who = 0
        · have g1 : ((who : Int) == 0) = true := by subst h1; rfl
          by_cases h2 : n = 0
          · have g2 : ((n : Int) == 0) = true := by subst h2; rfl
            cases yes
            · obtain rfl : r = true := by
                rw [← HR.out]
                exact decide_eq_true (by first | (simp; done) | (simp; omega) | omega)
              go_enter Try.func37, Try.ntmps37
              go_wp2
              go_ret
              exact ⟨rfl, bel_alloc (Below.refl _ _) _⟩
            · obtain rfl : r = true := by
                rw [← HR.out]
                exact decide_eq_true (by first | (simp; done) | (simp; omega) | omega)
              go_enter Try.func37, Try.ntmps37
              go_wp2
              go_ret
              exact ⟨rfl, bel_alloc (Below.refl _ _) _⟩
          · have g2 : ((n : Int) == 0) = false := by simp; omega
            obtain rfl : r = false := by
              rw [← HR.out]
              exact decide_eq_false (by first | (simp; done) | (simp; omega) | omega)
            go_enter Try.func37, Try.ntmps37
            go_wp2
            go_ret
            exact ⟨rfl, bel_alloc (Below.refl _ _) _⟩
        · have g1 : ((who : Int) == 0) = false := by simp; omega
          obtain rfl : r = false := by
            rw [← HR.out]
            exact decide_eq_false (by first | (simp; done) | (simp; omega) | omega)
          go_enter Try.func37, Try.ntmps37
          go_wp2
          go_ret
          exact ⟨rfl, bel_alloc (Below.refl _ _) _⟩
      · have w3 : ((what : Int) == 3) = false := by simp; omega
        by_cases hw4 : what = 4
        · subst hw4
          by_cases h1 : who = 0
          · have g1 : ((who : Int) == 0) = true := by subst h1; rfl
            by_cases h2 : n = 0
            · have g2 : ((n : Int) == 0) = true := by subst h2; rfl
              cases yes
              · obtain rfl : r = true := by
                  rw [← HR.out]
                  exact decide_eq_true (by first | (simp; done) | (simp; omega) | omega)
                go_enter Try.func37, Try.ntmps37
                go_wp2
                go_ret
                exact ⟨rfl, bel_alloc (Below.refl _ _) _⟩
              · obtain rfl : r = false := by
                  rw [← HR.out]
                  exact decide_eq_false (by first | (simp; done) | (simp; omega) | omega)
                go_enter Try.func37, Try.ntmps37
                go_wp2
                go_ret
                exact ⟨rfl, bel_alloc (Below.refl _ _) _⟩
            · have g2 : ((n : Int) == 0) = false := by simp; omega
              obtain rfl : r = false := by
                rw [← HR.out]
                exact decide_eq_false (by first | (simp; done) | (simp; omega) | omega)
              go_enter Try.func37, Try.ntmps37
              go_wp2
              go_ret
              exact ⟨rfl, bel_alloc (Below.refl _ _) _⟩
          · have g1 : ((who : Int) == 0) = false := by simp; omega
            obtain rfl : r = false := by
              rw [← HR.out]
              exact decide_eq_false (by first | (simp; done) | (simp; omega) | omega)
            go_enter Try.func37, Try.ntmps37
            go_wp2
            go_ret
            exact ⟨rfl, bel_alloc (Below.refl _ _) _⟩
        · have w4 : ((what : Int) == 4) = false := by simp; omega
          obtain rfl : r = false := by
            rw [← HR.out]
            exact decide_eq_false (by first | (simp; done) | (simp; omega) | omega)
          go_enter Try.func37, Try.ntmps37
          go_wp2
          go_ret
          exact ⟨rfl, bel_alloc (Below.refl _ _) _⟩
theorem rright_any (x : Nr) (A : Option Addr) (c n : Nat) (hn : x.text.length = n) (w : World) :
    Calls Try.prog 37 #[.agg (rcV x.what x.tx x.who x.yes A n c).toArray] w fun e w' => e = .returned (.bool x.right) ∧ Below w.heap.size w w' :=
  rright_go _ _ _ _ _ _ _ _ _ (by rw [← hn]; rfl)
end Go.Proofs.Ytegmeodmjaijnaa
