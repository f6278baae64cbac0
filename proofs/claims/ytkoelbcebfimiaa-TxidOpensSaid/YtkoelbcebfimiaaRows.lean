/-
  No cell of these rows narrows 'for every input' (looked for: loops, veiled, ifaces, maps, wideKeys, modest, calm, conditions, laid).
  DERIVED. THE GIVEN ROWS OF THIS SEAT. 2 by the template 'for every input the law returns true; each argument reads behind the call as it read before'; 0 by the template 'total and deterministic' (their statements: YtkoelbcebfimiaaTotals.lean).
  GIVEN WITH THE SEED: the statements are not yours to turn. If you find one false, say at which input.
  Laid BY PROGRAM, IN A SANDBOX (cutbox-rows.mjs): the forced cells as the released guide's own fill.sh prints them over the translation ff9061ab691eb8eb… (all of the seat's roots in one cut). By AI agents, Wed Nov 11 2026. No macro, syntax, notation, axiom, sorry.
-/
import Derived.Test.YtkoelbcebfimiaaChecked
import GoSem.Claim
import GoSem.ClaimJoined
import GoSem.ClaimMapViews
import Derived.JoinedTies
import Derived.KernelRfl
namespace Go.Proofs.Ytkoelbcebfimiaa
/- THE CELL 'sum', in the pinned program and in every row, IS THE sha256 OF THE DUMP (.gsa) THAT YtkoelbcebfimiaaProg.lean LOADS. Nothing in Lean hashes anything: it is a label: what it is worth is what the hold of that sum in a sandbox is worth. -/
noncomputable def Try.pinned : Pinned := { name := "ytkoelbcebfimiaa", sum := "ff9061ab691eb8eb808f6a57facb9278bb2cc76e78bf2c03ab1d6b4c445b5256", checked := Try.checked }
namespace Rows
def none {H : Type} : Left H := { results := [], args := [] }

/-- 'saucierlaw24.TxidRows': WHATEVER THE INPUT: true; the input reads as it did. -/
def txidRowsSpec : ChangeSpec := { name := "txidRows", fn := fun _ => fun
  | [d1, d2] => { results := [.lit (.bool true)], args := [d1, d2] }
  | _ => none }
def txidRowsRow : OpenClaim := { program := "ytkoelbcebfimiaa", sum := "ff9061ab691eb8eb808f6a57facb9278bb2cc76e78bf2c03ab1d6b4c445b5256", func := "saucier/saucierlaw24.TxidRows", spec := "txidRows", unfollowed := true, recurses := true, apart := false }
def TxidRowsSaid : Prop := txidRowsRow.holds Try.pinned (OpenSpec.ofChange txidRowsSpec)

/-- ITS FALSE NEIGHBOUR: 'it returns false'. Refute it at one input. -/
def txidRowsWrong : ChangeSpec := { name := "txidRows", fn := fun _ => fun
  | [d1, d2] => { results := [.lit (.bool false)], args := [d1, d2] }
  | _ => none }
def TxidRowsWrongFalsely : Prop := txidRowsRow.holds Try.pinned (OpenSpec.ofChange txidRowsWrong)

/-- 'saucierlaw24.TxidOpens': WHATEVER THE INPUT: true; the input reads as it did. -/
def txidOpensSpec : ChangeSpec := { name := "txidOpens", fn := fun _ => fun
  | [d1, d2, d3] => { results := [.lit (.bool true)], args := [d1, d2, d3] }
  | _ => none }
def txidOpensRow : OpenClaim := { program := "ytkoelbcebfimiaa", sum := "ff9061ab691eb8eb808f6a57facb9278bb2cc76e78bf2c03ab1d6b4c445b5256", func := "saucier/saucierlaw24.TxidOpens", spec := "txidOpens", unfollowed := true, recurses := true, apart := false }
def TxidOpensSaid : Prop := txidOpensRow.holds Try.pinned (OpenSpec.ofChange txidOpensSpec)

/-- ITS FALSE NEIGHBOUR: 'it returns false'. Refute it at one input. -/
def txidOpensWrong : ChangeSpec := { name := "txidOpens", fn := fun _ => fun
  | [d1, d2, d3] => { results := [.lit (.bool false)], args := [d1, d2, d3] }
  | _ => none }
def TxidOpensWrongFalsely : Prop := txidOpensRow.holds Try.pinned (OpenSpec.ofChange txidOpensWrong)

/- THE SECOND FORM. 'bulk': how many values and letters a reading holds, each counted each time it is reached (what is shared counts as often as it is met; a slice's spare places count too). A statement '..UptoSaid' is the law's where the arguments, and the package variables that the reading takes, are together of bulk at most 1048576: NARROWER than '..Said'. Prove '..Said' where nothing that the law and all that it calls make is longer than what came in: it says more and counts as full. Else prove '..UptoSaid'. A law counts once. -/
mutual
def uptoBulk {H : Type} : DataW H → Nat
  | .lit (.string bytes) => bytes.length + 1
  | .lit _ => 1
  | .nil => 1
  | .ptr d => uptoBulk d + 1
  | .slice elems spare => uptoBulkAll elems + uptoBulkAll spare + 1
  | .agg parts => uptoBulkAll parts + 1
  | .iface _ d => uptoBulk d + 1
  | .map entries => uptoBulkEntries entries + 1
  | .held _ => 1
def uptoBulkAll {H : Type} : List (DataW H) → Nat
  | [] => 0
  | d :: r => uptoBulk d + uptoBulkAll r
def uptoBulkEntries {H : Type} : List (Lit × DataW H) → Nat
  | [] => 0
  | x :: r => uptoBulkEntry x + uptoBulkEntries r
def uptoBulkEntry {H : Type} : Lit × DataW H → Nat
  | (.string bytes, d) => bytes.length + uptoBulk d + 1
  | (_, d) => uptoBulk d + 1
 end
def uptoSmall : (H : Type) → List (DataW H) → Bool := fun _ ds => decide (uptoBulkAll ds ≤ 1048576)
def OpenSpec.upto (s : _root_.Go.ChangeSpec) : _root_.Go.OpenSpec := { _root_.Go.OpenSpec.ofChange s with cond := some uptoSmall }

/-- 'saucierlaw24.TxidRows', WHERE WHAT IT READS IS OF BULK AT MOST 1048576: true; the input reads as it did. -/
def txidRowsUptoRow : OpenClaim := { program := "ytkoelbcebfimiaa", sum := "ff9061ab691eb8eb808f6a57facb9278bb2cc76e78bf2c03ab1d6b4c445b5256", func := "saucier/saucierlaw24.TxidRows", spec := "txidRows", unfollowed := true, recurses := true, apart := false, narrowed := true }
def TxidRowsUptoSaid : Prop := txidRowsUptoRow.holds Try.pinned (OpenSpec.upto txidRowsSpec)

/-- 'saucierlaw24.TxidOpens', WHERE WHAT IT READS IS OF BULK AT MOST 1048576: true; the input reads as it did. -/
def txidOpensUptoRow : OpenClaim := { program := "ytkoelbcebfimiaa", sum := "ff9061ab691eb8eb808f6a57facb9278bb2cc76e78bf2c03ab1d6b4c445b5256", func := "saucier/saucierlaw24.TxidOpens", spec := "txidOpens", unfollowed := true, recurses := true, apart := false, narrowed := true }
def TxidOpensUptoSaid : Prop := txidOpensUptoRow.holds Try.pinned (OpenSpec.upto txidOpensSpec)

end Rows
end Go.Proofs.Ytkoelbcebfimiaa
