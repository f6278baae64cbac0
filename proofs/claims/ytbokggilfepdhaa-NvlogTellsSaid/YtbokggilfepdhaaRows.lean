/-
  No cell of these rows narrows 'for every input' (looked for: loops, veiled, ifaces, maps, wideKeys, modest, calm, conditions, laid).
  DERIVED. THE GIVEN ROWS OF THIS SEAT. 6 by the template 'for every input the law returns true; each argument reads behind the call as it read before'; 0 by the template 'total and deterministic' (their statements: YtbokggilfepdhaaTotals.lean).
  GIVEN WITH THE SEED: the statements are not yours to turn. If you find one false, say at which input.
  Laid BY PROGRAM, IN A SANDBOX (cutbox-rows.mjs): the forced cells as the released guide's own fill.sh prints them over the translation 3a2551fe8f33b4e4… (all of the seat's roots in one cut). By AI agents, Wed Nov 11 2026. No macro, syntax, notation, axiom, sorry.
-/
import Derived.Test.YtbokggilfepdhaaChecked
import GoSem.Claim
import GoSem.ClaimJoined
import GoSem.ClaimMapViews
import Derived.JoinedTies
import Derived.KernelRfl
namespace Go.Proofs.Ytbokggilfepdhaa
/- THE CELL 'sum', in the pinned program and in every row, IS THE sha256 OF THE DUMP (.gsa) THAT YtbokggilfepdhaaProg.lean LOADS. Nothing in Lean hashes anything: it is a label: what it is worth is what the hold of that sum in a sandbox is worth. -/
noncomputable def Try.pinned : Pinned := { name := "ytbokggilfepdhaa", sum := "3a2551fe8f33b4e4b17dc9612066917df38d01dc9aefa6b0599746d210ad36cb", checked := Try.checked }
namespace Rows
def none {H : Type} : Left H := { results := [], args := [] }

/-- 'saucierlaw10.NvlogBack': WHATEVER THE INPUT: true; the input reads as it did. -/
def nvlogBackSpec : ChangeSpec := { name := "nvlogBack", fn := fun _ => fun
  | [d1, d2, d3] => { results := [.lit (.bool true)], args := [d1, d2, d3] }
  | _ => none }
def nvlogBackRow : OpenClaim := { program := "ytbokggilfepdhaa", sum := "3a2551fe8f33b4e4b17dc9612066917df38d01dc9aefa6b0599746d210ad36cb", func := "saucier/saucierlaw10.NvlogBack", spec := "nvlogBack", apart := false }
def NvlogBackSaid : Prop := nvlogBackRow.holds Try.pinned (OpenSpec.ofChange nvlogBackSpec)

/-- ITS FALSE NEIGHBOUR: 'it returns false'. Refute it at one input. -/
def nvlogBackWrong : ChangeSpec := { name := "nvlogBack", fn := fun _ => fun
  | [d1, d2, d3] => { results := [.lit (.bool false)], args := [d1, d2, d3] }
  | _ => none }
def NvlogBackWrongFalsely : Prop := nvlogBackRow.holds Try.pinned (OpenSpec.ofChange nvlogBackWrong)

/-- 'saucierlaw10.NvlogBursts': WHATEVER THE INPUT: true; the input reads as it did. -/
def nvlogBurstsSpec : ChangeSpec := { name := "nvlogBursts", fn := fun _ => fun
  | [d1, d2, d3] => { results := [.lit (.bool true)], args := [d1, d2, d3] }
  | _ => none }
def nvlogBurstsRow : OpenClaim := { program := "ytbokggilfepdhaa", sum := "3a2551fe8f33b4e4b17dc9612066917df38d01dc9aefa6b0599746d210ad36cb", func := "saucier/saucierlaw10.NvlogBursts", spec := "nvlogBursts", apart := false }
def NvlogBurstsSaid : Prop := nvlogBurstsRow.holds Try.pinned (OpenSpec.ofChange nvlogBurstsSpec)

/-- ITS FALSE NEIGHBOUR: 'it returns false'. Refute it at one input. -/
def nvlogBurstsWrong : ChangeSpec := { name := "nvlogBursts", fn := fun _ => fun
  | [d1, d2, d3] => { results := [.lit (.bool false)], args := [d1, d2, d3] }
  | _ => none }
def NvlogBurstsWrongFalsely : Prop := nvlogBurstsRow.holds Try.pinned (OpenSpec.ofChange nvlogBurstsWrong)

/-- 'saucierlaw10.NvlogKeeps': WHATEVER THE INPUT: true; the input reads as it did. -/
def nvlogKeepsSpec : ChangeSpec := { name := "nvlogKeeps", fn := fun _ => fun
  | [d] => { results := [.lit (.bool true)], args := [d] }
  | _ => none }
def nvlogKeepsRow : OpenClaim := { program := "ytbokggilfepdhaa", sum := "3a2551fe8f33b4e4b17dc9612066917df38d01dc9aefa6b0599746d210ad36cb", func := "saucier/saucierlaw10.NvlogKeeps", spec := "nvlogKeeps", unfollowed := true, recurses := true, apart := false }
def NvlogKeepsSaid : Prop := nvlogKeepsRow.holds Try.pinned (OpenSpec.ofChange nvlogKeepsSpec)

/-- ITS FALSE NEIGHBOUR: 'it returns false'. Refute it at one input. -/
def nvlogKeepsWrong : ChangeSpec := { name := "nvlogKeeps", fn := fun _ => fun
  | [d] => { results := [.lit (.bool false)], args := [d] }
  | _ => none }
def NvlogKeepsWrongFalsely : Prop := nvlogKeepsRow.holds Try.pinned (OpenSpec.ofChange nvlogKeepsWrong)

/-- 'saucierlaw10.NvlogFull': WHATEVER THE INPUT: true; the input reads as it did. -/
def nvlogFullSpec : ChangeSpec := { name := "nvlogFull", fn := fun _ => fun
  | [d1, d2] => { results := [.lit (.bool true)], args := [d1, d2] }
  | _ => none }
def nvlogFullRow : OpenClaim := { program := "ytbokggilfepdhaa", sum := "3a2551fe8f33b4e4b17dc9612066917df38d01dc9aefa6b0599746d210ad36cb", func := "saucier/saucierlaw10.NvlogFull", spec := "nvlogFull", unfollowed := true, recurses := true, apart := false }
def NvlogFullSaid : Prop := nvlogFullRow.holds Try.pinned (OpenSpec.ofChange nvlogFullSpec)

/-- ITS FALSE NEIGHBOUR: 'it returns false'. Refute it at one input. -/
def nvlogFullWrong : ChangeSpec := { name := "nvlogFull", fn := fun _ => fun
  | [d1, d2] => { results := [.lit (.bool false)], args := [d1, d2] }
  | _ => none }
def NvlogFullWrongFalsely : Prop := nvlogFullRow.holds Try.pinned (OpenSpec.ofChange nvlogFullWrong)

/-- 'saucierlaw10.NvlogNone': WHATEVER THE INPUT: true; the input reads as it did. -/
def nvlogNoneSpec : ChangeSpec := { name := "nvlogNone", fn := fun _ => fun
  | [d] => { results := [.lit (.bool true)], args := [d] }
  | _ => none }
def nvlogNoneRow : OpenClaim := { program := "ytbokggilfepdhaa", sum := "3a2551fe8f33b4e4b17dc9612066917df38d01dc9aefa6b0599746d210ad36cb", func := "saucier/saucierlaw10.NvlogNone", spec := "nvlogNone", unfollowed := true, recurses := true, apart := false }
def NvlogNoneSaid : Prop := nvlogNoneRow.holds Try.pinned (OpenSpec.ofChange nvlogNoneSpec)

/-- ITS FALSE NEIGHBOUR: 'it returns false'. Refute it at one input. -/
def nvlogNoneWrong : ChangeSpec := { name := "nvlogNone", fn := fun _ => fun
  | [d] => { results := [.lit (.bool false)], args := [d] }
  | _ => none }
def NvlogNoneWrongFalsely : Prop := nvlogNoneRow.holds Try.pinned (OpenSpec.ofChange nvlogNoneWrong)

/-- 'saucierlaw10.NvlogTells': WHATEVER THE INPUT: true; the input reads as it did. -/
def nvlogTellsSpec : ChangeSpec := { name := "nvlogTells", fn := fun _ => fun
  | [d1, d2, d3, d4] => { results := [.lit (.bool true)], args := [d1, d2, d3, d4] }
  | _ => none }
def nvlogTellsRow : OpenClaim := { program := "ytbokggilfepdhaa", sum := "3a2551fe8f33b4e4b17dc9612066917df38d01dc9aefa6b0599746d210ad36cb", func := "saucier/saucierlaw10.NvlogTells", spec := "nvlogTells", unfollowed := true, recurses := true, apart := false }
def NvlogTellsSaid : Prop := nvlogTellsRow.holds Try.pinned (OpenSpec.ofChange nvlogTellsSpec)

/-- ITS FALSE NEIGHBOUR: 'it returns false'. Refute it at one input. -/
def nvlogTellsWrong : ChangeSpec := { name := "nvlogTells", fn := fun _ => fun
  | [d1, d2, d3, d4] => { results := [.lit (.bool false)], args := [d1, d2, d3, d4] }
  | _ => none }
def NvlogTellsWrongFalsely : Prop := nvlogTellsRow.holds Try.pinned (OpenSpec.ofChange nvlogTellsWrong)

/- THE SECOND FORM. 'bulk': how many values and letters a reading holds, each counted each time it is reached (what is shared counts as often as it is met; a slice's spare places count too). A statement '..UptoSaid' is the law's where the arguments, and the package variables that the reading takes, are together of bulk at most 1048576: NARROWER than '..Said'. Prove '..Said' where nothing that the law and all that it calls make is longer than what came in: it says more and counts as full. Else prove '..UptoSaid'. A law counts once. -/
mutual
def uptoBulk {H : Type} : DataW H → Nat
  | .lit (.string bytes) => bytes.length + 1
  | .lit _ => 1
  | .nil => 1
  | .ptr d => uptoBulk d + 1
  | .slice elems spare => uptoBulkAll elems + uptoBulkAll spare + 1
  | .agg parts => uptoBulkAll parts + 1
  | .iface _ d => uptoBulk d + 1
  | .map entries => uptoBulkEntries entries + 1
  | .held _ => 1
def uptoBulkAll {H : Type} : List (DataW H) → Nat
  | [] => 0
  | d :: r => uptoBulk d + uptoBulkAll r
def uptoBulkEntries {H : Type} : List (Lit × DataW H) → Nat
  | [] => 0
  | x :: r => uptoBulkEntry x + uptoBulkEntries r
def uptoBulkEntry {H : Type} : Lit × DataW H → Nat
  | (.string bytes, d) => bytes.length + uptoBulk d + 1
  | (_, d) => uptoBulk d + 1
 end
def uptoSmall : (H : Type) → List (DataW H) → Bool := fun _ ds => decide (uptoBulkAll ds ≤ 1048576)
def OpenSpec.upto (s : _root_.Go.ChangeSpec) : _root_.Go.OpenSpec := { _root_.Go.OpenSpec.ofChange s with cond := some uptoSmall }

/-- 'saucierlaw10.NvlogBack', WHERE WHAT IT READS IS OF BULK AT MOST 1048576: true; the input reads as it did. -/
def nvlogBackUptoRow : OpenClaim := { program := "ytbokggilfepdhaa", sum := "3a2551fe8f33b4e4b17dc9612066917df38d01dc9aefa6b0599746d210ad36cb", func := "saucier/saucierlaw10.NvlogBack", spec := "nvlogBack", apart := false, narrowed := true }
def NvlogBackUptoSaid : Prop := nvlogBackUptoRow.holds Try.pinned (OpenSpec.upto nvlogBackSpec)

/-- 'saucierlaw10.NvlogBursts', WHERE WHAT IT READS IS OF BULK AT MOST 1048576: true; the input reads as it did. -/
def nvlogBurstsUptoRow : OpenClaim := { program := "ytbokggilfepdhaa", sum := "3a2551fe8f33b4e4b17dc9612066917df38d01dc9aefa6b0599746d210ad36cb", func := "saucier/saucierlaw10.NvlogBursts", spec := "nvlogBursts", apart := false, narrowed := true }
def NvlogBurstsUptoSaid : Prop := nvlogBurstsUptoRow.holds Try.pinned (OpenSpec.upto nvlogBurstsSpec)

/-- 'saucierlaw10.NvlogKeeps', WHERE WHAT IT READS IS OF BULK AT MOST 1048576: true; the input reads as it did. -/
def nvlogKeepsUptoRow : OpenClaim := { program := "ytbokggilfepdhaa", sum := "3a2551fe8f33b4e4b17dc9612066917df38d01dc9aefa6b0599746d210ad36cb", func := "saucier/saucierlaw10.NvlogKeeps", spec := "nvlogKeeps", unfollowed := true, recurses := true, apart := false, narrowed := true }
def NvlogKeepsUptoSaid : Prop := nvlogKeepsUptoRow.holds Try.pinned (OpenSpec.upto nvlogKeepsSpec)

/-- 'saucierlaw10.NvlogFull', WHERE WHAT IT READS IS OF BULK AT MOST 1048576: true; the input reads as it did. -/
def nvlogFullUptoRow : OpenClaim := { program := "ytbokggilfepdhaa", sum := "3a2551fe8f33b4e4b17dc9612066917df38d01dc9aefa6b0599746d210ad36cb", func := "saucier/saucierlaw10.NvlogFull", spec := "nvlogFull", unfollowed := true, recurses := true, apart := false, narrowed := true }
def NvlogFullUptoSaid : Prop := nvlogFullUptoRow.holds Try.pinned (OpenSpec.upto nvlogFullSpec)

/-- 'saucierlaw10.NvlogNone', WHERE WHAT IT READS IS OF BULK AT MOST 1048576: true; the input reads as it did. -/
def nvlogNoneUptoRow : OpenClaim := { program := "ytbokggilfepdhaa", sum := "3a2551fe8f33b4e4b17dc9612066917df38d01dc9aefa6b0599746d210ad36cb", func := "saucier/saucierlaw10.NvlogNone", spec := "nvlogNone", unfollowed := true, recurses := true, apart := false, narrowed := true }
def NvlogNoneUptoSaid : Prop := nvlogNoneUptoRow.holds Try.pinned (OpenSpec.upto nvlogNoneSpec)

/-- 'saucierlaw10.NvlogTells', WHERE WHAT IT READS IS OF BULK AT MOST 1048576: true; the input reads as it did. -/
def nvlogTellsUptoRow : OpenClaim := { program := "ytbokggilfepdhaa", sum := "3a2551fe8f33b4e4b17dc9612066917df38d01dc9aefa6b0599746d210ad36cb", func := "saucier/saucierlaw10.NvlogTells", spec := "nvlogTells", unfollowed := true, recurses := true, apart := false, narrowed := true }
def NvlogTellsUptoSaid : Prop := nvlogTellsUptoRow.holds Try.pinned (OpenSpec.upto nvlogTellsSpec)

end Rows
end Go.Proofs.Ytbokggilfepdhaa
