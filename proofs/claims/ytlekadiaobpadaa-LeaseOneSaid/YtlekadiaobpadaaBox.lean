/- A lease that lies in a variable of the call's own: two cells of a block. -/
import Derived.Test.YtlekadiaobpadaaLeaseAt
namespace Go.Proofs.Ytlekadiaobpadaa
open Go.RowKit
set_option linter.unusedVariables false

structure Box (w : World) (b : Nat) (o l : Int) : Prop where
  c0 : w.cell? ⟨b, 0, none⟩ = some (.int .u16 o)
  c1 : w.cell? ⟨b, 1, none⟩ = some (.int .i64 l)
  f0 : w.frozen? ⟨b, 0, none⟩ = false
  f1 : w.frozen? ⟨b, 1, none⟩ = false
theorem Box.lt {w : World} {b : Nat} {o l : Int} (h : Box w b o l) : b < w.heap.size := block_lt_of_cell h.c0
theorem Box.below {B : Nat} {w w' : World} {b : Nat} {o l : Int} (h : Box w b o l) (k : Below B w w') (hB : b < B) : Box w' b o l :=
  ⟨(k.cell (p := ⟨b, 0, none⟩) hB).trans h.c0, (k.cell (p := ⟨b, 1, none⟩) hB).trans h.c1, (k.frozen (p := ⟨b, 0, none⟩) hB).trans h.f0, (k.frozen (p := ⟨b, 1, none⟩) hB).trans h.f1⟩
theorem Box.later {w : World} {b : Nat} {o l : Int} (h : Box w b o l) (x : Later w.heap.size w) : Box x.val b o l := h.below x.bel h.lt
theorem Box.alloc {w : World} {b : Nat} {o l : Int} (h : Box w b o l) (ob : Obj) : Box (w.alloc ob) b o l := h.below ((Below.refl _ _).alloc (Nat.le_refl _) ob) h.lt
theorem Box.new (w : World) (o l : Int) (t : TypeId) : Box (w.alloc (.cells #[.int .u16 o, .int .i64 l] t)) w.heap.size o l :=
  ⟨by simp, by simp, by simp [go_sem], by simp [go_sem]⟩
theorem Box.set {w : World} {b : Nat} {o l : Int} (h : Box w b o l) (o' l' : Int) : Box ((w.setCell ⟨b, 0, none⟩ (.int .u16 o')).setCell ⟨b, 1, none⟩ (.int .i64 l')) b o' l' := by
  obtain ⟨h0, h1, h2, h3⟩ := h
  have e0 : (w.setCell ⟨b, 0, none⟩ (.int .u16 o')).cell? ⟨b, 0, none⟩ = some (.int .u16 o') := World.cell?_setCell_same' _ _ _ (by rw [h0]; rfl)
  have e1 : (w.setCell ⟨b, 0, none⟩ (.int .u16 o')).cell? ⟨b, 1, none⟩ = some (.int .i64 l) := by rw [World.cell?_setCell_other _ _ _ _ (by simp)]; exact h1
  refine ⟨?_, ?_, ?_, ?_⟩
  · rw [World.cell?_setCell_other _ _ _ _ (by simp)]; exact e0
  · exact World.cell?_setCell_same' _ _ _ (by rw [e1]; rfl)
  · simp [go_sem, h2]
  · simp [go_sem, h3]
end Go.Proofs.Ytlekadiaobpadaa
