/- A variable that is known whole: a block of cells. -/
import Derived.Test.YtkilpiiljpeamaaBlk
import Derived.Laws.Tables
import Derived.Deep.MidRow
namespace Go.Proofs.Ytkilpiiljpeamaa
open Go.RowKit
set_option linter.unusedVariables false
def RowAt (w : World) (b : Nat) (T : TypeId) (C : List Value) : Prop := w.heap[b]? = some (.cells C.toArray T (0, 0))
section
variable {w w' : World} {b B : Nat} {T : TypeId} {C : List Value}
theorem RowAt.lt (h : RowAt w b T C) : b < w.heap.size := (Array.getElem?_eq_some_iff.1 h).1
theorem RowAt.cell (h : RowAt w b T C) {j : Nat} {v : Value} (hv : C[j]? = some v) : w.cell? ⟨b, j, none⟩ = some v := by
  rw [cell_of_row _ _ _ _ _ _ h]; simpa using hv
theorem RowAt.frozen (h : RowAt w b T C) (j : Nat) : w.frozen? ⟨b, j, none⟩ = false := by
  have : w.heap[b]? = some (.cells C.toArray T (0, 0)) := h
  simp [World.frozen?, this]
theorem RowAt.below (h : RowAt w b T C) (k : Below B w w') (hb : b < B) : RowAt w' b T C := (k.block b hb).trans h
theorem RowAt.to (h : RowAt w b T C) (k : Below w.heap.size w w') : RowAt w' b T C := h.below k h.lt
theorem RowAt.alloc (h : RowAt w b T C) (o : Obj) : RowAt (w.alloc o) b T C := h.to ((Below.refl _ _).alloc (Nat.le_refl _) o)
theorem RowAt.drew (h : RowAt w b T C) : RowAt w.drew b T C := h
theorem RowAt.new (w : World) (T : TypeId) (C : List Value) : RowAt (w.alloc (.cells C.toArray T)) w.heap.size T C := heap_alloc_new w _
theorem RowAt.range (h : RowAt w b T C) (o n : Nat) : w.rangeAt b o ((C.drop o).take n) := fun j v hv => by
  rw [List.getElem?_take] at hv
  split at hv
  · rw [List.getElem?_drop] at hv
    exact h.cell hv
  · cases hv
theorem RowAt.set (h : RowAt w b T C) (j : Nat) (v : Value) : RowAt (w.setCell ⟨b, j, none⟩ v) b T (C.set j v) := by
  have h1 : w.heap[b]? = some (.cells C.toArray T (0, 0)) := h
  unfold RowAt
  simp only [World.setCell, Array.getElem?_modify, if_true, h1]
  simp
theorem RowAt.other (h : RowAt w b T C) {g j : Nat} (hg : g ≠ b) (v : Value) : RowAt (w.setCell ⟨g, j, none⟩ v) b T C := (Below.heap_setCell _ _ _ _ (fun e => hg e.symm)).trans h
theorem RowAt.row (h : RowAt w b T C) (D : List Value) : RowAt (w.setRow b D.toArray) b T D := by
  have h1 : w.heap[b]? = some (.cells C.toArray T (0, 0)) := h
  exact setRow_heap w b _ _ T _ h1
theorem RowAt.row_other (h : RowAt w b T C) {g : Nat} (hg : g ≠ b) (D : Array Value) : RowAt (w.setRow g D) b T C := (setRow_other w g b D (fun e => hg e.symm)).trans h
end
end Go.Proofs.Ytkilpiiljpeamaa
