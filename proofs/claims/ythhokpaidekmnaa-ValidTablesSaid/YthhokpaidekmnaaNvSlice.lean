/- l[:n] without cases on nil. -/
import Derived.Test.YthhokpaidekmnaaBase
namespace Go.Proofs.Ythhokpaidekmnaa
open Go.RowKit
theorem sliced_zero (a : Option Addr) (h m s : Nat) : sliced a 0 h m s = .slice a h m := by
  unfold sliced
  rw [Nat.zero_mul, Nat.sub_zero, Nat.sub_zero]
  cases a with
  | none => simp
  | some p => split <;> rfl
end Go.Proofs.Ythhokpaidekmnaa
