/- A struct of two cells in a variable of the call's own. -/
import Derived.Test.YtkoelbcebfimiaaBase
namespace Go.Proofs.Ytkoelbcebfimiaa
open Go.RowKit
structure Box2 (w : World) (b : Nat) (u v : Value) : Prop where
  c0 : w.cell? ⟨b, 0, none⟩ = some u
  c1 : w.cell? ⟨b, 1, none⟩ = some v
  f0 : w.frozen? ⟨b, 0, none⟩ = false
  f1 : w.frozen? ⟨b, 1, none⟩ = false
section
variable {w : World} {b : Nat} {u v : Value}
theorem Box2.lt (h : Box2 w b u v) : b < w.heap.size := block_lt_of_cell h.c0
theorem Box2.below {B : Nat} {w' : World} (h : Box2 w b u v) (k : Below B w w') (hB : b < B) : Box2 w' b u v :=
  ⟨(k.cell (p := ⟨b, 0, none⟩) hB).trans h.c0, (k.cell (p := ⟨b, 1, none⟩) hB).trans h.c1, (k.frozen (p := ⟨b, 0, none⟩) hB).trans h.f0, (k.frozen (p := ⟨b, 1, none⟩) hB).trans h.f1⟩
theorem Box2.later (h : Box2 w b u v) (x : Later w.heap.size w) : Box2 x.val b u v := h.below x.bel h.lt
theorem Box2.alloc (h : Box2 w b u v) (ob : Obj) : Box2 (w.alloc ob) b u v := h.below ((Below.refl _ _).alloc (Nat.le_refl _) ob) h.lt
theorem Box2.new (w : World) (u v : Value) (t : TypeId) : Box2 (w.alloc (.cells #[u, v] t)) w.heap.size u v :=
  ⟨by simp, by simp, by simp [go_sem], by simp [go_sem]⟩
theorem Box2.set (h : Box2 w b u v) (u' v' : Value) : Box2 ((w.setCell ⟨b, 0, none⟩ u').setCell ⟨b, 1, none⟩ v') b u' v' := by
  obtain ⟨h0, h1, h2, h3⟩ := h
  have e0 : (w.setCell ⟨b, 0, none⟩ u').cell? ⟨b, 0, none⟩ = some u' := World.cell?_setCell_same' _ _ _ (by rw [h0]; rfl)
  have e1 : (w.setCell ⟨b, 0, none⟩ u').cell? ⟨b, 1, none⟩ = some v := by rw [World.cell?_setCell_other _ _ _ _ (by simp)]; exact h1
  refine ⟨?_, ?_, ?_, ?_⟩
  · rw [World.cell?_setCell_other _ _ _ _ (by simp)]; exact e0
  · exact World.cell?_setCell_same' _ _ _ (by rw [e1]; rfl)
  · simp [go_sem, h2]
  · simp [go_sem, h3]
end
end Go.Proofs.Ytkoelbcebfimiaa
