/-
  No cell of these rows narrows 'for every input' (looked for: loops, veiled, ifaces, maps, wideKeys, modest, calm, conditions, laid).
  DERIVED. THE GIVEN ROWS OF THIS SEAT. 5 by the template 'for every input the law returns true; each argument reads behind the call as it read before'; 0 by the template 'total and deterministic' (their statements: YtkilpiiljpeamaaTotals.lean).
  GIVEN WITH THE SEED: the statements are not yours to turn. If you find one false, say at which input.
  Laid BY PROGRAM, IN A SANDBOX (cutbox-rows.mjs): the forced cells as the released guide's own fill.sh prints them over the translation d82cfed69b2e98cc… (all of the seat's roots in one cut). By AI agents, Wed Nov 11 2026. No macro, syntax, notation, axiom, sorry.
-/
import Derived.Test.YtkilpiiljpeamaaChecked
import GoSem.Claim
import GoSem.ClaimJoined
import GoSem.ClaimMapViews
import Derived.JoinedTies
import Derived.KernelRfl
namespace Go.Proofs.Ytkilpiiljpeamaa
/- THE CELL 'sum', in the pinned program and in every row, IS THE sha256 OF THE DUMP (.gsa) THAT YtkilpiiljpeamaaProg.lean LOADS. Nothing in Lean hashes anything: it is a label: what it is worth is what the hold of that sum in a sandbox is worth. -/
noncomputable def Try.pinned : Pinned := { name := "ytkilpiiljpeamaa", sum := "d82cfed69b2e98cc2cafcee8268fa3c882c4aa46c0bbd3abe6b6d609f9cee553", checked := Try.checked }
namespace Rows
def none {H : Type} : Left H := { results := [], args := [] }

/-- 'saucierlaw17.BankDiff': WHATEVER THE INPUT: true; the input reads as it did. -/
def bankDiffSpec : ChangeSpec := { name := "bankDiff", fn := fun _ => fun
  | [d1, d2, d3] => { results := [.lit (.bool true)], args := [d1, d2, d3] }
  | _ => none }
def bankDiffRow : OpenClaim := { program := "ytkilpiiljpeamaa", sum := "d82cfed69b2e98cc2cafcee8268fa3c882c4aa46c0bbd3abe6b6d609f9cee553", func := "saucier/saucierlaw17.BankDiff", spec := "bankDiff", unfollowed := true, recurses := true, apart := false }
def BankDiffSaid : Prop := bankDiffRow.holds Try.pinned (OpenSpec.ofChange bankDiffSpec)

/-- ITS FALSE NEIGHBOUR: 'it returns false'. Refute it at one input. -/
def bankDiffWrong : ChangeSpec := { name := "bankDiff", fn := fun _ => fun
  | [d1, d2, d3] => { results := [.lit (.bool false)], args := [d1, d2, d3] }
  | _ => none }
def BankDiffWrongFalsely : Prop := bankDiffRow.holds Try.pinned (OpenSpec.ofChange bankDiffWrong)

/-- 'saucierlaw17.BankOver': WHATEVER THE INPUT: true; the input reads as it did. -/
def bankOverSpec : ChangeSpec := { name := "bankOver", fn := fun _ => fun
  | [d1, d2, d3] => { results := [.lit (.bool true)], args := [d1, d2, d3] }
  | _ => none }
def bankOverRow : OpenClaim := { program := "ytkilpiiljpeamaa", sum := "d82cfed69b2e98cc2cafcee8268fa3c882c4aa46c0bbd3abe6b6d609f9cee553", func := "saucier/saucierlaw17.BankOver", spec := "bankOver", unfollowed := true, recurses := true, apart := false }
def BankOverSaid : Prop := bankOverRow.holds Try.pinned (OpenSpec.ofChange bankOverSpec)

/-- ITS FALSE NEIGHBOUR: 'it returns false'. Refute it at one input. -/
def bankOverWrong : ChangeSpec := { name := "bankOver", fn := fun _ => fun
  | [d1, d2, d3] => { results := [.lit (.bool false)], args := [d1, d2, d3] }
  | _ => none }
def BankOverWrongFalsely : Prop := bankOverRow.holds Try.pinned (OpenSpec.ofChange bankOverWrong)

/-- 'saucierlaw17.BankApart': WHATEVER THE INPUT: true; the input reads as it did. -/
def bankApartSpec : ChangeSpec := { name := "bankApart", fn := fun _ => fun
  | [d1, d2, d3] => { results := [.lit (.bool true)], args := [d1, d2, d3] }
  | _ => none }
def bankApartRow : OpenClaim := { program := "ytkilpiiljpeamaa", sum := "d82cfed69b2e98cc2cafcee8268fa3c882c4aa46c0bbd3abe6b6d609f9cee553", func := "saucier/saucierlaw17.BankApart", spec := "bankApart", unfollowed := true, recurses := true, apart := false }
def BankApartSaid : Prop := bankApartRow.holds Try.pinned (OpenSpec.ofChange bankApartSpec)

/-- ITS FALSE NEIGHBOUR: 'it returns false'. Refute it at one input. -/
def bankApartWrong : ChangeSpec := { name := "bankApart", fn := fun _ => fun
  | [d1, d2, d3] => { results := [.lit (.bool false)], args := [d1, d2, d3] }
  | _ => none }
def BankApartWrongFalsely : Prop := bankApartRow.holds Try.pinned (OpenSpec.ofChange bankApartWrong)

/-- 'saucierlaw17.BankTells': WHATEVER THE INPUT: true; the input reads as it did. -/
def bankTellsSpec : ChangeSpec := { name := "bankTells", fn := fun _ => fun
  | [d1, d2, d3, d4] => { results := [.lit (.bool true)], args := [d1, d2, d3, d4] }
  | _ => none }
def bankTellsRow : OpenClaim := { program := "ytkilpiiljpeamaa", sum := "d82cfed69b2e98cc2cafcee8268fa3c882c4aa46c0bbd3abe6b6d609f9cee553", func := "saucier/saucierlaw17.BankTells", spec := "bankTells", unfollowed := true, recurses := true, apart := false }
def BankTellsSaid : Prop := bankTellsRow.holds Try.pinned (OpenSpec.ofChange bankTellsSpec)

/-- ITS FALSE NEIGHBOUR: 'it returns false'. Refute it at one input. -/
def bankTellsWrong : ChangeSpec := { name := "bankTells", fn := fun _ => fun
  | [d1, d2, d3, d4] => { results := [.lit (.bool false)], args := [d1, d2, d3, d4] }
  | _ => none }
def BankTellsWrongFalsely : Prop := bankTellsRow.holds Try.pinned (OpenSpec.ofChange bankTellsWrong)

/-- 'saucierlaw17.BankRefuses': WHATEVER THE INPUT: true; the input reads as it did. -/
def bankRefusesSpec : ChangeSpec := { name := "bankRefuses", fn := fun _ => fun
  | [d1, d2, d3, d4] => { results := [.lit (.bool true)], args := [d1, d2, d3, d4] }
  | _ => none }
def bankRefusesRow : OpenClaim := { program := "ytkilpiiljpeamaa", sum := "d82cfed69b2e98cc2cafcee8268fa3c882c4aa46c0bbd3abe6b6d609f9cee553", func := "saucier/saucierlaw17.BankRefuses", spec := "bankRefuses", unfollowed := true, recurses := true, apart := false }
def BankRefusesSaid : Prop := bankRefusesRow.holds Try.pinned (OpenSpec.ofChange bankRefusesSpec)

/-- ITS FALSE NEIGHBOUR: 'it returns false'. Refute it at one input. -/
def bankRefusesWrong : ChangeSpec := { name := "bankRefuses", fn := fun _ => fun
  | [d1, d2, d3, d4] => { results := [.lit (.bool false)], args := [d1, d2, d3, d4] }
  | _ => none }
def BankRefusesWrongFalsely : Prop := bankRefusesRow.holds Try.pinned (OpenSpec.ofChange bankRefusesWrong)

/- THE SECOND FORM. 'bulk': how many values and letters a reading holds, each counted each time it is reached (what is shared counts as often as it is met; a slice's spare places count too). A statement '..UptoSaid' is the law's where the arguments, and the package variables that the reading takes, are together of bulk at most 1048576: NARROWER than '..Said'. Prove '..Said' where nothing that the law and all that it calls make is longer than what came in: it says more and counts as full. Else prove '..UptoSaid'. A law counts once. -/
mutual
def uptoBulk {H : Type} : DataW H → Nat
  | .lit (.string bytes) => bytes.length + 1
  | .lit _ => 1
  | .nil => 1
  | .ptr d => uptoBulk d + 1
  | .slice elems spare => uptoBulkAll elems + uptoBulkAll spare + 1
  | .agg parts => uptoBulkAll parts + 1
  | .iface _ d => uptoBulk d + 1
  | .map entries => uptoBulkEntries entries + 1
  | .held _ => 1
def uptoBulkAll {H : Type} : List (DataW H) → Nat
  | [] => 0
  | d :: r => uptoBulk d + uptoBulkAll r
def uptoBulkEntries {H : Type} : List (Lit × DataW H) → Nat
  | [] => 0
  | x :: r => uptoBulkEntry x + uptoBulkEntries r
def uptoBulkEntry {H : Type} : Lit × DataW H → Nat
  | (.string bytes, d) => bytes.length + uptoBulk d + 1
  | (_, d) => uptoBulk d + 1
 end
def uptoSmall : (H : Type) → List (DataW H) → Bool := fun _ ds => decide (uptoBulkAll ds ≤ 1048576)
def OpenSpec.upto (s : _root_.Go.ChangeSpec) : _root_.Go.OpenSpec := { _root_.Go.OpenSpec.ofChange s with cond := some uptoSmall }

/-- 'saucierlaw17.BankDiff', WHERE WHAT IT READS IS OF BULK AT MOST 1048576: true; the input reads as it did. -/
def bankDiffUptoRow : OpenClaim := { program := "ytkilpiiljpeamaa", sum := "d82cfed69b2e98cc2cafcee8268fa3c882c4aa46c0bbd3abe6b6d609f9cee553", func := "saucier/saucierlaw17.BankDiff", spec := "bankDiff", unfollowed := true, recurses := true, apart := false, narrowed := true }
def BankDiffUptoSaid : Prop := bankDiffUptoRow.holds Try.pinned (OpenSpec.upto bankDiffSpec)

/-- 'saucierlaw17.BankOver', WHERE WHAT IT READS IS OF BULK AT MOST 1048576: true; the input reads as it did. -/
def bankOverUptoRow : OpenClaim := { program := "ytkilpiiljpeamaa", sum := "d82cfed69b2e98cc2cafcee8268fa3c882c4aa46c0bbd3abe6b6d609f9cee553", func := "saucier/saucierlaw17.BankOver", spec := "bankOver", unfollowed := true, recurses := true, apart := false, narrowed := true }
def BankOverUptoSaid : Prop := bankOverUptoRow.holds Try.pinned (OpenSpec.upto bankOverSpec)

/-- 'saucierlaw17.BankApart', WHERE WHAT IT READS IS OF BULK AT MOST 1048576: true; the input reads as it did. -/
def bankApartUptoRow : OpenClaim := { program := "ytkilpiiljpeamaa", sum := "d82cfed69b2e98cc2cafcee8268fa3c882c4aa46c0bbd3abe6b6d609f9cee553", func := "saucier/saucierlaw17.BankApart", spec := "bankApart", unfollowed := true, recurses := true, apart := false, narrowed := true }
def BankApartUptoSaid : Prop := bankApartUptoRow.holds Try.pinned (OpenSpec.upto bankApartSpec)

/-- 'saucierlaw17.BankTells', WHERE WHAT IT READS IS OF BULK AT MOST 1048576: true; the input reads as it did. -/
def bankTellsUptoRow : OpenClaim := { program := "ytkilpiiljpeamaa", sum := "d82cfed69b2e98cc2cafcee8268fa3c882c4aa46c0bbd3abe6b6d609f9cee553", func := "saucier/saucierlaw17.BankTells", spec := "bankTells", unfollowed := true, recurses := true, apart := false, narrowed := true }
def BankTellsUptoSaid : Prop := bankTellsUptoRow.holds Try.pinned (OpenSpec.upto bankTellsSpec)

/-- 'saucierlaw17.BankRefuses', WHERE WHAT IT READS IS OF BULK AT MOST 1048576: true; the input reads as it did. -/
def bankRefusesUptoRow : OpenClaim := { program := "ytkilpiiljpeamaa", sum := "d82cfed69b2e98cc2cafcee8268fa3c882c4aa46c0bbd3abe6b6d609f9cee553", func := "saucier/saucierlaw17.BankRefuses", spec := "bankRefuses", unfollowed := true, recurses := true, apart := false, narrowed := true }
def BankRefusesUptoSaid : Prop := bankRefusesUptoRow.holds Try.pinned (OpenSpec.upto bankRefusesSpec)

end Rows
end Go.Proofs.Ytkilpiiljpeamaa
