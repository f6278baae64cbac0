/- A row of bools that came in. -/
import Derived.Test.YthigkmoilfdciaaRecs
import Derived.Test.YthigkmoilfdciaaSq
namespace Go.Proofs.Ythigkmoilfdciaa
open Go.ChangeShapes Go.WideShapes Go.ChangeAt Go.RowKit Go.Deep
set_option linter.unusedVariables false
theorem sq_of_recs {α : Type} {f : α → Value} {w : World} {B : Nat} {A : Option Addr} {l : List α} (h : Recs (fun a => [f a]) 1 w B A l) : Sq f w B A l := fun hn => by
  obtain ⟨b, o, hA, hb, hc⟩ := h hn
  refine ⟨b, o, hA, hb, fun j x hx => ?_⟩
  have := hc j x hx 0 (f x) rfl
  simpa using this
section
variable {H : Type} {enc : TypeId × Value → H} {P : Program} {w : World} {base b0 : Nat} {spare : Nat → Bool} {held : Bool} {r : Reach}
theorem bool_trod {t : TypeId} (ht : P.underlying t = some .bool) (n : Nat) (cs : List Value) (y : DataW H × List MemPlace) (h : DataW.trod enc P w base spare held n t cs = some y) : ∃ b : Bool, cs = [.bool b] ∧ True := by
  obtain ⟨b, hv, _⟩ := DataW.trod_bool ht h
  exact ⟨b, hv, trivial⟩
theorem open_bools {t e : TypeId} {v : Value} {d : DataW H} {ps : List MemPlace} (ht : P.underlying t = some (.slice e)) (he : P.underlying e = some .bool) (hs : P.cellsOf e = 1) (hval : Value.okWide P w r b0 t v) (hd : DataW.Trod enc P w base spare held t v d ps) :
    ∃ (A : Option Addr) (l : List Bool) (c : Nat), v = .slice A l.length c ∧ Sq Value.bool w w.heap.size A l ∧ l.length ≤ c ∧ c ≤ 9223372036854775807 ∧ (A = none → c = 0) := by
  obtain ⟨A, l, c, h1, h2, _, h4, h5, h6⟩ := okWide_slice_trod (fun b => [Value.bool b]) (fun _ => True) ht hs (by decide) (bool_trod he) hval hd
  exact ⟨A, l, c, h1, sq_of_recs h2, h4, h5, h6⟩
end
end Go.Proofs.Ythigkmoilfdciaa
