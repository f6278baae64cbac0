/- A variable known whole: its cells; what stays while one block is written. -/
import Derived.Test.YthhokpaidekmnaaOwn
namespace Go.Proofs.Ythhokpaidekmnaa
set_option linter.unusedVariables false
theorem RowAt.cells {w : World} {g : Nat} {T : TypeId} {C : List Value} (h : RowAt w g T C) (j : Nat) : w.cell? ⟨g, j, none⟩ = C[j]? := by
 rw [cell_of_row _ _ _ _ _ _ h]; simp
theorem RowAt.only {g b : Nat} {w w' : World} {T : TypeId} {C : List Value} (h : RowAt w b T C) (k : Only g w w') (hne : b ≠ g) : RowAt w' b T C := (k.block b hne).trans h
end Go.Proofs.Ythhokpaidekmnaa
