/- slices.Clone of bytes. -/
import Derived.Test.YthigkmoilfdciaaBs
import Derived.Test.YthigkmoilfdciaaVarB
import Derived.OwnWalk
namespace Go.Proofs.Ythigkmoilfdciaa
open Go.RowKit
set_option linter.unusedVariables false
set_option linter.unusedSimpArgs false
attribute [local go_sem] Later.cell Later.frozen setCell_twice
set_option maxHeartbeats 400000 in
theorem cloneb_any (A : Option Addr) (l : List Nat) (n c : Nat) (w : World) (h : Sq byw w w.heap.size A l) (hn : l.length ≤ 1000000) (hm : l.length = n) (hnl : A = none → c = 0) :
    Calls Try.prog 30 #[.slice A n c] w (Makes byw 5 w l) := by
  subst hm
  obtain ⟨i0, hi, hz0, hz1, hz2⟩ := info_parts info_b8
  cases A with
  | none =>
    obtain rfl : c = 0 := hnl rfl
    obtain rfl : l = [] := by
      rcases Nat.eq_zero_or_pos l.length with h0 | h0
      · exact List.eq_nil_of_length_eq_zero h0
      · obtain ⟨b, o, hA, _⟩ := h h0; cases hA
    clear h hn hnl
    have q22 : ∀ (w : World) (a : Option Addr) (n c n' c' : Nat), (binOp .eql 34 (.slice a n c) (.slice none n' c')).run Try.prog w = .ok (.bool a.isNone) w := fun w a n c n' c' => Lib.run_eql_slice_nil w _ _ a n c n' c' Try.underlying34
    go_enter Try.func30, Try.ntmps30
    go_wp2
    go_ret
    exact Makes.of_own rfl (World.ownsRow_nil _ _ _ _) (Below.refl _ _)
  | some p =>
    clear hnl
    have h1 := h.alloc (Nat.le_refl _) (.cells #[] 5)
    have q22 : ∀ (w : World) (a : Option Addr) (n c n' c' : Nat), (binOp .eql 34 (.slice a n c) (.slice none n' c')).run Try.prog w = .ok (.bool a.isNone) w := fun w a n c n' c' => Lib.run_eql_slice_nil w _ _ a n c n' c' Try.underlying34
    go_enter Try.func30, Try.ntmps30
    go_wp2_with (at_builtin; refine wpList_append_sq (f := byw) _ rfl _ _ 34 rfl (fun _ => rfl) w.heap.size 5 i0 _ _ Try.underlying34 hi hz0 rfl hz1 hz2 (by decide) _ [] rfl (own_empty w 5 .u8) w.heap.size (some p) l c _ rfl rfl h1 (by simp) (by simp; omega) (by simp) ?_; intro A' c' w' hown hg hb)
    simp only [List.nil_append] at hown
    have hb2 : Below w.heap.size w w' := (bel_alloc (Below.refl _ _) _).trans hb
    clear hg hb
    go_wp2
    go_ret
    exact Makes.of_own rfl hown hb2
end Go.Proofs.Ythigkmoilfdciaa
