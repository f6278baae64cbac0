/- Regions that draw their order, taken operation by operation. -/
import Derived.Test.YthhokpaidekmnaaVarB
import Derived.Deep.RegionHeld3
namespace Go.Proofs.Ythhokpaidekmnaa
open Go.RowKit
set_option linter.unusedVariables false
theorem takeD {P : Program} {md : Region.Mode} {ops : Array Oper} {Q : Exit → Act → World → Prop} {S : World → Prop} {i : Nat} {oi : Oper} {v : Value} {d : Option Tmp} {fuel : Nat} {listed : Array Bool} {a : Act} {w : World} (hi : ops[i]? = some oi)
  (hs : Region.noSelect ops = true) (hf : Region.free md ops listed i = true) (hr : (Region.ready md ops listed).contains i = true) (hd : oi.dst = d)
  (hQ : ∀ c a w, Q (.panic c) (a.put d v) w → Q (.panic c) a w) (hy : YieldsIf P ops S oi v a) (hS : S w)
  (h : wpAnyH P md ops Q S fuel (listed.setIfInBounds i true) (a.put d v) w) : wpAnyH P md ops Q S (fuel + 1) listed a w := by
 subst hd
 exact wpAnyH_take hi hs hf hr hQ hy hS h
theorem RowAt.all {w : World} {g : Nat} {T : TypeId} {C : List Value} (h : RowAt w g T C) : w.rangeAt g 0 C := fun j v hv => by rw [Nat.zero_add]; exact h.cell hv
end Go.Proofs.Ythhokpaidekmnaa
