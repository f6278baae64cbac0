/-
  No cell of these rows narrows 'for every input' (looked for: loops, veiled, ifaces, maps, wideKeys, modest, calm, conditions, laid).
  DERIVED. THE GIVEN ROWS OF THIS SEAT. 4 by the template 'for every input the law returns true; each argument reads behind the call as it read before'; 0 by the template 'total and deterministic' (their statements: YthhokpaidekmnaaTotals.lean).
  GIVEN WITH THE SEED: the statements are not yours to turn. If you find one false, say at which input.
  Laid BY PROGRAM, IN A SANDBOX (cutbox-rows.mjs): the forced cells as the released guide's own fill.sh prints them over the translation 67ee8eab6cfd4ccb… (all of the seat's roots in one cut). By AI agents, Wed Nov 11 2026. No macro, syntax, notation, axiom, sorry.
-/
import Derived.Test.YthhokpaidekmnaaChecked
import GoSem.Claim
import GoSem.ClaimJoined
import GoSem.ClaimMapViews
import Derived.JoinedTies
import Derived.KernelRfl
namespace Go.Proofs.Ythhokpaidekmnaa
/- THE CELL 'sum', in the pinned program and in every row, IS THE sha256 OF THE DUMP (.gsa) THAT YthhokpaidekmnaaProg.lean LOADS. Nothing in Lean hashes anything: it is a label: what it is worth is what the hold of that sum in a sandbox is worth. -/
noncomputable def Try.pinned : Pinned := { name := "ythhokpaidekmnaa", sum := "67ee8eab6cfd4ccbf1ca07b8bd10d547f1457b55cbcfd0ccf4b5a5421d2f6690", checked := Try.checked }
namespace Rows
def none {H : Type} : Left H := { results := [], args := [] }

/-- 'saucierlaw15.ValidTells': WHATEVER THE INPUT: true; the input reads as it did. -/
def validTellsSpec : ChangeSpec := { name := "validTells", fn := fun _ => fun
  | [d1, d2, d3] => { results := [.lit (.bool true)], args := [d1, d2, d3] }
  | _ => none }
def validTellsRow : OpenClaim := { program := "ythhokpaidekmnaa", sum := "67ee8eab6cfd4ccbf1ca07b8bd10d547f1457b55cbcfd0ccf4b5a5421d2f6690", func := "saucier/saucierlaw15.ValidTells", spec := "validTells", unfollowed := true, recurses := true, named := ["math/bits.divideError", "math/bits.overflowError"], apart := false }
def ValidTellsSaid : Prop := validTellsRow.holds Try.pinned (OpenSpec.ofChange validTellsSpec)

/-- ITS FALSE NEIGHBOUR: 'it returns false'. Refute it at one input. -/
def validTellsWrong : ChangeSpec := { name := "validTells", fn := fun _ => fun
  | [d1, d2, d3] => { results := [.lit (.bool false)], args := [d1, d2, d3] }
  | _ => none }
def ValidTellsWrongFalsely : Prop := validTellsRow.holds Try.pinned (OpenSpec.ofChange validTellsWrong)

/-- 'saucierlaw15.ValidParts': WHATEVER THE INPUT: true; the input reads as it did. -/
def validPartsSpec : ChangeSpec := { name := "validParts", fn := fun _ => fun
  | [d1, d2, d3, d4] => { results := [.lit (.bool true)], args := [d1, d2, d3, d4] }
  | _ => none }
def validPartsRow : OpenClaim := { program := "ythhokpaidekmnaa", sum := "67ee8eab6cfd4ccbf1ca07b8bd10d547f1457b55cbcfd0ccf4b5a5421d2f6690", func := "saucier/saucierlaw15.ValidParts", spec := "validParts", unfollowed := true, recurses := true, named := ["math/bits.divideError", "math/bits.overflowError"], apart := false }
def ValidPartsSaid : Prop := validPartsRow.holds Try.pinned (OpenSpec.ofChange validPartsSpec)

/-- ITS FALSE NEIGHBOUR: 'it returns false'. Refute it at one input. -/
def validPartsWrong : ChangeSpec := { name := "validParts", fn := fun _ => fun
  | [d1, d2, d3, d4] => { results := [.lit (.bool false)], args := [d1, d2, d3, d4] }
  | _ => none }
def ValidPartsWrongFalsely : Prop := validPartsRow.holds Try.pinned (OpenSpec.ofChange validPartsWrong)

/-- 'saucierlaw15.ValidTables': WHATEVER THE INPUT: true; the input reads as it did. -/
def validTablesSpec : ChangeSpec := { name := "validTables", fn := fun _ => fun
  | [d] => { results := [.lit (.bool true)], args := [d] }
  | _ => none }
def validTablesRow : OpenClaim := { program := "ythhokpaidekmnaa", sum := "67ee8eab6cfd4ccbf1ca07b8bd10d547f1457b55cbcfd0ccf4b5a5421d2f6690", func := "saucier/saucierlaw15.ValidTables", spec := "validTables", unfollowed := true, recurses := true, named := ["math/bits.divideError", "math/bits.overflowError"], apart := false }
def ValidTablesSaid : Prop := validTablesRow.holds Try.pinned (OpenSpec.ofChange validTablesSpec)

/-- ITS FALSE NEIGHBOUR: 'it returns false'. Refute it at one input. -/
def validTablesWrong : ChangeSpec := { name := "validTables", fn := fun _ => fun
  | [d] => { results := [.lit (.bool false)], args := [d] }
  | _ => none }
def ValidTablesWrongFalsely : Prop := validTablesRow.holds Try.pinned (OpenSpec.ofChange validTablesWrong)

/-- 'saucierlaw15.ValidWords': WHATEVER THE INPUT: true; the input reads as it did. -/
def validWordsSpec : ChangeSpec := { name := "validWords", fn := fun _ => fun
  | [d1, d2, d3, d4] => { results := [.lit (.bool true)], args := [d1, d2, d3, d4] }
  | _ => none }
def validWordsRow : OpenClaim := { program := "ythhokpaidekmnaa", sum := "67ee8eab6cfd4ccbf1ca07b8bd10d547f1457b55cbcfd0ccf4b5a5421d2f6690", func := "saucier/saucierlaw15.ValidWords", spec := "validWords", unfollowed := true, recurses := true, named := ["math/bits.divideError", "math/bits.overflowError"], apart := false }
def ValidWordsSaid : Prop := validWordsRow.holds Try.pinned (OpenSpec.ofChange validWordsSpec)

/-- ITS FALSE NEIGHBOUR: 'it returns false'. Refute it at one input. -/
def validWordsWrong : ChangeSpec := { name := "validWords", fn := fun _ => fun
  | [d1, d2, d3, d4] => { results := [.lit (.bool false)], args := [d1, d2, d3, d4] }
  | _ => none }
def ValidWordsWrongFalsely : Prop := validWordsRow.holds Try.pinned (OpenSpec.ofChange validWordsWrong)

/- THE SECOND FORM. 'bulk': how many values and letters a reading holds, each counted each time it is reached (what is shared counts as often as it is met; a slice's spare places count too). A statement '..UptoSaid' is the law's where the arguments, and the package variables that the reading takes, are together of bulk at most 1048576: NARROWER than '..Said'. Prove '..Said' where nothing that the law and all that it calls make is longer than what came in: it says more and counts as full. Else prove '..UptoSaid'. A law counts once. -/
mutual
def uptoBulk {H : Type} : DataW H → Nat
  | .lit (.string bytes) => bytes.length + 1
  | .lit _ => 1
  | .nil => 1
  | .ptr d => uptoBulk d + 1
  | .slice elems spare => uptoBulkAll elems + uptoBulkAll spare + 1
  | .agg parts => uptoBulkAll parts + 1
  | .iface _ d => uptoBulk d + 1
  | .map entries => uptoBulkEntries entries + 1
  | .held _ => 1
def uptoBulkAll {H : Type} : List (DataW H) → Nat
  | [] => 0
  | d :: r => uptoBulk d + uptoBulkAll r
def uptoBulkEntries {H : Type} : List (Lit × DataW H) → Nat
  | [] => 0
  | x :: r => uptoBulkEntry x + uptoBulkEntries r
def uptoBulkEntry {H : Type} : Lit × DataW H → Nat
  | (.string bytes, d) => bytes.length + uptoBulk d + 1
  | (_, d) => uptoBulk d + 1
 end
def uptoSmall : (H : Type) → List (DataW H) → Bool := fun _ ds => decide (uptoBulkAll ds ≤ 1048576)
def OpenSpec.upto (s : _root_.Go.ChangeSpec) : _root_.Go.OpenSpec := { _root_.Go.OpenSpec.ofChange s with cond := some uptoSmall }

/-- 'saucierlaw15.ValidTells', WHERE WHAT IT READS IS OF BULK AT MOST 1048576: true; the input reads as it did. -/
def validTellsUptoRow : OpenClaim := { program := "ythhokpaidekmnaa", sum := "67ee8eab6cfd4ccbf1ca07b8bd10d547f1457b55cbcfd0ccf4b5a5421d2f6690", func := "saucier/saucierlaw15.ValidTells", spec := "validTells", unfollowed := true, recurses := true, named := ["math/bits.divideError", "math/bits.overflowError"], apart := false, narrowed := true }
def ValidTellsUptoSaid : Prop := validTellsUptoRow.holds Try.pinned (OpenSpec.upto validTellsSpec)

/-- 'saucierlaw15.ValidParts', WHERE WHAT IT READS IS OF BULK AT MOST 1048576: true; the input reads as it did. -/
def validPartsUptoRow : OpenClaim := { program := "ythhokpaidekmnaa", sum := "67ee8eab6cfd4ccbf1ca07b8bd10d547f1457b55cbcfd0ccf4b5a5421d2f6690", func := "saucier/saucierlaw15.ValidParts", spec := "validParts", unfollowed := true, recurses := true, named := ["math/bits.divideError", "math/bits.overflowError"], apart := false, narrowed := true }
def ValidPartsUptoSaid : Prop := validPartsUptoRow.holds Try.pinned (OpenSpec.upto validPartsSpec)

/-- 'saucierlaw15.ValidTables', WHERE WHAT IT READS IS OF BULK AT MOST 1048576: true; the input reads as it did. -/
def validTablesUptoRow : OpenClaim := { program := "ythhokpaidekmnaa", sum := "67ee8eab6cfd4ccbf1ca07b8bd10d547f1457b55cbcfd0ccf4b5a5421d2f6690", func := "saucier/saucierlaw15.ValidTables", spec := "validTables", unfollowed := true, recurses := true, named := ["math/bits.divideError", "math/bits.overflowError"], apart := false, narrowed := true }
def ValidTablesUptoSaid : Prop := validTablesUptoRow.holds Try.pinned (OpenSpec.upto validTablesSpec)

/-- 'saucierlaw15.ValidWords', WHERE WHAT IT READS IS OF BULK AT MOST 1048576: true; the input reads as it did. -/
def validWordsUptoRow : OpenClaim := { program := "ythhokpaidekmnaa", sum := "67ee8eab6cfd4ccbf1ca07b8bd10d547f1457b55cbcfd0ccf4b5a5421d2f6690", func := "saucier/saucierlaw15.ValidWords", spec := "validWords", unfollowed := true, recurses := true, named := ["math/bits.divideError", "math/bits.overflowError"], apart := false, narrowed := true }
def ValidWordsUptoSaid : Prop := validWordsUptoRow.holds Try.pinned (OpenSpec.upto validWordsSpec)

end Rows
end Go.Proofs.Ythhokpaidekmnaa
