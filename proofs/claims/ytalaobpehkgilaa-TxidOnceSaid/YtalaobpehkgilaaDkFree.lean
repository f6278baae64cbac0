/- A disk without sparks to count: what appending makes. -/
import Derived.Test.YtalaobpehkgilaaNvLog
namespace Go.Proofs.Ytalaobpehkgilaa
set_option linter.unusedVariables false
theorem Dk.puts_free : ∀ (b : List Nat) (D : Dk), D.left = none → Dk.puts D b = ({ D with l := D.l ++ b }, 0) := by
  intro b
  induction b with
  | nil => intro D _; simp [Dk.puts]
  | cons x b ih =>
    intro D h
    have hs : D.sparked = (D, true) := by unfold Dk.sparked; rw [h]
    unfold Dk.puts
    rw [hs, if_pos rfl]
    show Dk.puts { D with l := D.l ++ [x] } b = _
    rw [ih { D with l := D.l ++ [x] } h]
    simp
/-- a record appended upon a disk that is on, and has sparks without end -/
theorem Dk.lappend_free {D : Dk} (h : D.left = none) (ho : D.off = false) (x : Nr) :
    D.lappend x = if x.right = true then (if D.room < D.l.length + x.bytes.length then (D, 5) else ({ D with l := D.l ++ x.bytes, safe := (D.l ++ x.bytes).length }, 0)) else (D, 50) := by
  have hap : D.append x.bytes = if D.room < D.l.length + x.bytes.length then (D, 5) else ({ D with l := D.l ++ x.bytes }, 0) := by
    unfold Dk.append
    rw [if_neg (by rw [ho]; decide)]
    split
    · rfl
    · exact Dk.puts_free _ _ h
  have hsy : Dk.sync { D with l := D.l ++ x.bytes } = ({ D with l := D.l ++ x.bytes, safe := (D.l ++ x.bytes).length }, 0) := by
    have hs : Dk.sparked { D with l := D.l ++ x.bytes } = ({ D with l := D.l ++ x.bytes }, true) := by unfold Dk.sparked; simp only [h]
    unfold Dk.sync
    rw [if_neg (by simp [ho]), hs]
    rfl
  unfold Dk.lappend
  split
  · rw [hap]
    split
    · rw [if_neg (show ¬ ((D, (5 : Int)).2 = 0) by show ¬ ((5 : Int) = 0); decide)]
    · rw [if_pos rfl]
      exact hsy
  · rfl
end Go.Proofs.Ytalaobpehkgilaa
