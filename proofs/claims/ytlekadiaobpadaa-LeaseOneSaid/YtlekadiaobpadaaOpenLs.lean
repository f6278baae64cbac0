/- A lease that came in, by value. -/
import Derived.Test.YtlekadiaobpadaaOpen
import Derived.Test.YtlekadiaobpadaaLsLaw
import Derived.Test.YtlekadiaobpadaaProg
import Derived.Lib.SmallJoins
namespace Go.Proofs.Ytlekadiaobpadaa
open Go.ChangeShapes Go.WideShapes Go.ChangeAt Go.RowKit Go.Deep Go.Joins
section
variable {H : Type} {enc : TypeId × Value → H} {w : World} {base b0 : Nat} {spare : Nat → Bool} {held : Bool} {r : Reach}
theorem open_lease {v : Value} {d : DataW H} {ps : List MemPlace} (hval : Value.okWide Try.prog w r b0 24 v) (hd : DataW.Trod enc Try.prog w base spare held 24 v d ps) :
    ∃ x : Ls.L, v = .agg #[.int .u16 (x.o : Int), .int .i64 x.l] ∧ Ls.fit x := by
  obtain ⟨v0, v1, y0, y1, n, rfl, rfl, rfl, h0, h1⟩ := open_agg2 Try.underlying24 (by kernel_rfl) (by kernel_rfl) hval hd
  obtain ⟨a, hv0, _, hw0⟩ := DataW.trod_int Try.underlying22 h0
  obtain ⟨b, hv1, _, hw1⟩ := DataW.trod_int Try.underlying3 h1
  simp at hv0 hv1
  subst hv0 hv1
  have ha := nat_of_wf (k := .u16) rfl hw0
  simp [Lit.wf, IntKind.min, IntKind.max, IntKind.signed, IntKind.bits] at hw1
  refine ⟨⟨a.toNat, b⟩, by simp only [Int.toNat_of_nonneg ha.1], ?_, ?_, ?_⟩
  · have := ha.2; simp [top] at this; simp only; omega
  · simp only; omega
  · simp only; omega
end
end Go.Proofs.Ytlekadiaobpadaa
