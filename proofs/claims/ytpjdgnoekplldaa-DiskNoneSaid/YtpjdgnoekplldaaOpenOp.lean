/- An operation of layer 9 handed in by value. -/
import Derived.Test.YtpjdgnoekplldaaDkOp
namespace Go.Proofs.Ytpjdgnoekplldaa
open Go.ChangeShapes Go.WideShapes Go.ChangeAt Go.RowKit Go.Deep
theorem open_op {H : Type} {enc : TypeId × Value → H} {w : World} {base b0 : Nat} {spare : Nat → Bool} {held : Bool} {r : Reach} {v : Value} {d : DataW H} {ps : List MemPlace} (hval : Value.okWide Try.prog w r b0 38 v) (hd : DataW.Trod enc Try.prog w base spare held 38 v d ps) :
    ∃ o : DOp, v = .agg o.C.toArray ∧ o.Ok w w.heap.size := by
  obtain ⟨cs, rfl, _⟩ := okWide_struct Try.underlying38 hval
  obtain ⟨fuel, hf⟩ := hd
  obtain ⟨s, hs, hok⟩ := dop_trod _ _ _ hf
  exact ⟨s, by rw [← hs]; rfl, hok⟩
end Go.Proofs.Ytpjdgnoekplldaa
