/- The walks of package bank: Fits, and slices.Clone of words. -/
import Derived.Test.YtkilpiiljpeamaaBlk
namespace Go.Proofs.Ytkilpiiljpeamaa
open Go.RowKit
set_option linter.unusedVariables false
attribute [local go_sem] Later.cell Later.frozen setCell_twice
theorem info_w16 : (Try.prog.info? 25).map (fun i => (i.zero, i.size, i.bytes)) = some (some (.int .u16 0), 1, 2) := by kernel_rfl

theorem fits_any (a : Int) (n c : Nat) (A : Option Addr) (r : Bool) (w : World) (lo : -9223372036854775808 ≤ a) (hi : a ≤ 9223372036854775807) (hn : n ≤ 9223372036854775807) (hr : Bk.fits a n = r) :
    Calls Try.prog 12 #[.agg #[.int .i64 a, .slice A n c]] w fun e w' => e = .returned (.bool r) ∧ Below w.heap.size w w' := by
  by_cases h1 : n ≤ 14
  · have g1 : decide ((n : Int) ≤ 14) = true := by simp; omega
    by_cases h2 : 0 ≤ a
    · have g2 : decide (0 ≤ a) = true := by simpa using h2
      by_cases h3 : a < 64
      · have g3 : decide (a < 64) = true := by simpa using h3
        obtain rfl : decide (a + (n : Int) ≤ 64) = r := by rw [← hr]; unfold Bk.fits; rw [decide_eq_decide]; omega
        clear hr g2 g3
        go_enter Try.func12, Try.ntmps12
        go_wp2
        go_ret
        exact ⟨rfl, (by repeat (first | with_reducible exact Below.refl _ _ | with_reducible refine bel_later _ ?_ | with_reducible refine bel_alloc ?_ _ | refine bel_set ?_ (by first | omega | (simp; done) | (simp; omega)) _ | with_reducible refine Below.drew ?_ | with_reducible refine bel_drewN ?_ _ | with_reducible assumption | assumption))⟩
      · obtain rfl : r = false := by rw [← hr]; rw [Bk.fits_no]; omega
        have g3 : decide (a < 64) = false := by simpa using h3
        clear hr
        go_enter Try.func12, Try.ntmps12
        go_wp2
        go_ret
        exact ⟨rfl, (by repeat (first | with_reducible exact Below.refl _ _ | with_reducible refine bel_later _ ?_ | with_reducible refine bel_alloc ?_ _ | refine bel_set ?_ (by first | omega | (simp; done) | (simp; omega)) _ | with_reducible refine Below.drew ?_ | with_reducible refine bel_drewN ?_ _ | with_reducible assumption | assumption))⟩
    · obtain rfl : r = false := by rw [← hr]; rw [Bk.fits_no]; omega
      have g2 : decide (0 ≤ a) = false := by simpa using h2
      clear hr
      go_enter Try.func12, Try.ntmps12
      go_wp2
      go_ret
      exact ⟨rfl, (by repeat (first | with_reducible exact Below.refl _ _ | with_reducible refine bel_later _ ?_ | with_reducible refine bel_alloc ?_ _ | refine bel_set ?_ (by first | omega | (simp; done) | (simp; omega)) _ | with_reducible refine Below.drew ?_ | with_reducible refine bel_drewN ?_ _ | with_reducible assumption | assumption))⟩
  · obtain rfl : r = false := by rw [← hr]; rw [Bk.fits_no]; omega
    have g1 : decide ((n : Int) ≤ 14) = false := by simp; omega
    clear hr
    go_enter Try.func12, Try.ntmps12
    go_wp2
    go_ret
    exact ⟨rfl, (by repeat (first | with_reducible exact Below.refl _ _ | with_reducible refine bel_later _ ?_ | with_reducible refine bel_alloc ?_ _ | refine bel_set ?_ (by first | omega | (simp; done) | (simp; omega)) _ | with_reducible refine Below.drew ?_ | with_reducible refine bel_drewN ?_ _ | with_reducible assumption | assumption))⟩
theorem clone_any (A : Option Addr) (l : List Nat) (n c : Nat) (w : World) (h : Sq u16w w w.heap.size A l) (hn : l.length ≤ 35184372088832) (hm : l.length = n) (hnl : A = none → c = 0) :
    Calls Try.prog 27 #[.slice A n c] w (Makes u16w 25 w l) := by
  subst hm
  obtain ⟨i0, hi, hz0, hz1, hz2⟩ := info_parts info_w16
  cases A with
  | none =>
    obtain rfl : c = 0 := hnl rfl
    obtain rfl : l = [] := by
      rcases Nat.eq_zero_or_pos l.length with h0 | h0
      · exact List.eq_nil_of_length_eq_zero h0
      · obtain ⟨b, o, hA, _⟩ := h h0; cases hA
    clear h hn hnl
    have q22 : ∀ (w : World) (a : Option Addr) (n c n' c' : Nat), (binOp .eql 22 (.slice a n c) (.slice none n' c')).run Try.prog w = .ok (.bool a.isNone) w := fun w a n c n' c' => Lib.run_eql_slice_nil w _ _ a n c n' c' Try.underlying22
    go_enter Try.func27, Try.ntmps27
    go_wp2
    go_ret
    exact Makes.of_own rfl (World.ownsRow_nil _ _ _ _) (Below.refl _ _)
  | some p =>
    clear hnl
    have h1 := h.alloc (Nat.le_refl _) (.cells #[] 25)
    have q22 : ∀ (w : World) (a : Option Addr) (n c n' c' : Nat), (binOp .eql 22 (.slice a n c) (.slice none n' c')).run Try.prog w = .ok (.bool a.isNone) w := fun w a n c n' c' => Lib.run_eql_slice_nil w _ _ a n c n' c' Try.underlying22
    go_enter Try.func27, Try.ntmps27
    go_wp2_with (at_builtin; refine wpList_append_sq (f := u16w) _ rfl _ _ 22 rfl (fun _ => rfl) w.heap.size 25 i0 _ _ Try.underlying22 hi hz0 rfl hz1 hz2 (by decide) _ [] rfl (own_empty w 25 .u16) w.heap.size (some p) l c _ rfl rfl h1 (by simp) (by simp; omega) (by simp) ?_; intro A' c' w' hown hg hb)
    simp only [List.nil_append] at hown
    have hb2 : Below w.heap.size w w' := (bel_alloc (Below.refl _ _) _).trans hb
    clear hg hb
    go_wp2
    go_ret
    exact Makes.of_own rfl hown hb2
def Found (b : Bool) (w : World) (e : Ending) (w' : World) : Prop := ∃ r : Int, e = .returned (.int .i64 r) ∧ decide (0 ≤ r) = b ∧ Below w.heap.size w w'
end Go.Proofs.Ytkilpiiljpeamaa
