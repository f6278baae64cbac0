/- A slice that reads as a list, from some place on. -/
import Derived.Test.YtkilpiiljpeamaaSq
namespace Go.Proofs.Ytkilpiiljpeamaa
open Go.RowKit
theorem Sq.drop {α : Type} {f : α → Value} {w : World} {B b o n : Nat} {l : List α} (h : Sq f w B (some ⟨b, o, none⟩) l) : Sq f w B (some ⟨b, o + n, none⟩) (l.drop n) := fun hn => by
  obtain ⟨b', o', hA, hb, hc⟩ := h (by rw [List.length_drop] at hn; omega)
  obtain ⟨rfl, rfl⟩ : b = b' ∧ o = o' := by simpa using hA
  exact ⟨b, o + n, rfl, hb, fun j x hx => by
    rw [List.getElem?_drop] at hx
    rw [Nat.add_assoc]
    exact hc _ x hx⟩
end Go.Proofs.Ytkilpiiljpeamaa
