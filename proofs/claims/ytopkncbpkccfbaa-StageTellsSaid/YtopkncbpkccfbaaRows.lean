/-
  No cell of these rows narrows 'for every input' (looked for: loops, veiled, ifaces, maps, wideKeys, modest, calm, conditions, laid).
  DERIVED. THE GIVEN ROWS OF THIS SEAT. 6 by the template 'for every input the law returns true; each argument reads behind the call as it read before'; 0 by the template 'total and deterministic' (their statements: YtopkncbpkccfbaaTotals.lean).
  GIVEN WITH THE SEED: the statements are not yours to turn. If you find one false, say at which input.
  Laid BY PROGRAM, IN A SANDBOX (cutbox-rows.mjs): the forced cells as the released guide's own fill.sh prints them over the translation 92d9ba63f660ff8a… (all of the seat's roots in one cut). By AI agents, Wed Nov 11 2026. No macro, syntax, notation, axiom, sorry.
-/
import Derived.Test.YtopkncbpkccfbaaChecked
import GoSem.Claim
import GoSem.ClaimJoined
import GoSem.ClaimMapViews
import Derived.JoinedTies
import Derived.KernelRfl
namespace Go.Proofs.Ytopkncbpkccfbaa
/- THE CELL 'sum', in the pinned program and in every row, IS THE sha256 OF THE DUMP (.gsa) THAT YtopkncbpkccfbaaProg.lean LOADS. Nothing in Lean hashes anything: it is a label: what it is worth is what the hold of that sum in a sandbox is worth. -/
noncomputable def Try.pinned : Pinned := { name := "ytopkncbpkccfbaa", sum := "92d9ba63f660ff8aeb17258a29ef63257f5559ecf5e30a1ded804429a94836b9", checked := Try.checked }
namespace Rows
def none {H : Type} : Left H := { results := [], args := [] }

/-- 'saucierlaw19.StageBack': WHATEVER THE INPUT: true; the input reads as it did. -/
def stageBackSpec : ChangeSpec := { name := "stageBack", fn := fun _ => fun
  | [d1, d2, d3, d4, d5] => { results := [.lit (.bool true)], args := [d1, d2, d3, d4, d5] }
  | _ => none }
def stageBackRow : OpenClaim := { program := "ytopkncbpkccfbaa", sum := "92d9ba63f660ff8aeb17258a29ef63257f5559ecf5e30a1ded804429a94836b9", func := "saucier/saucierlaw19.StageBack", spec := "stageBack", unfollowed := true, recurses := true, apart := false }
def StageBackSaid : Prop := stageBackRow.holds Try.pinned (OpenSpec.ofChange stageBackSpec)

/-- ITS FALSE NEIGHBOUR: 'it returns false'. Refute it at one input. -/
def stageBackWrong : ChangeSpec := { name := "stageBack", fn := fun _ => fun
  | [d1, d2, d3, d4, d5] => { results := [.lit (.bool false)], args := [d1, d2, d3, d4, d5] }
  | _ => none }
def StageBackWrongFalsely : Prop := stageBackRow.holds Try.pinned (OpenSpec.ofChange stageBackWrong)

/-- 'saucierlaw19.StageOne': WHATEVER THE INPUT: true; the input reads as it did. -/
def stageOneSpec : ChangeSpec := { name := "stageOne", fn := fun _ => fun
  | [d1, d2, d3, d4, d5, d6, d7, d8] => { results := [.lit (.bool true)], args := [d1, d2, d3, d4, d5, d6, d7, d8] }
  | _ => none }
def stageOneRow : OpenClaim := { program := "ytopkncbpkccfbaa", sum := "92d9ba63f660ff8aeb17258a29ef63257f5559ecf5e30a1ded804429a94836b9", func := "saucier/saucierlaw19.StageOne", spec := "stageOne", unfollowed := true, recurses := true, apart := false }
def StageOneSaid : Prop := stageOneRow.holds Try.pinned (OpenSpec.ofChange stageOneSpec)

/-- ITS FALSE NEIGHBOUR: 'it returns false'. Refute it at one input. -/
def stageOneWrong : ChangeSpec := { name := "stageOne", fn := fun _ => fun
  | [d1, d2, d3, d4, d5, d6, d7, d8] => { results := [.lit (.bool false)], args := [d1, d2, d3, d4, d5, d6, d7, d8] }
  | _ => none }
def StageOneWrongFalsely : Prop := stageOneRow.holds Try.pinned (OpenSpec.ofChange stageOneWrong)

/-- 'saucierlaw19.StageRefuses': WHATEVER THE INPUT: true; the input reads as it did. -/
def stageRefusesSpec : ChangeSpec := { name := "stageRefuses", fn := fun _ => fun
  | [d1, d2, d3, d4, d5, d6] => { results := [.lit (.bool true)], args := [d1, d2, d3, d4, d5, d6] }
  | _ => none }
def stageRefusesRow : OpenClaim := { program := "ytopkncbpkccfbaa", sum := "92d9ba63f660ff8aeb17258a29ef63257f5559ecf5e30a1ded804429a94836b9", func := "saucier/saucierlaw19.StageRefuses", spec := "stageRefuses", apart := false }
def StageRefusesSaid : Prop := stageRefusesRow.holds Try.pinned (OpenSpec.ofChange stageRefusesSpec)

/-- ITS FALSE NEIGHBOUR: 'it returns false'. Refute it at one input. -/
def stageRefusesWrong : ChangeSpec := { name := "stageRefuses", fn := fun _ => fun
  | [d1, d2, d3, d4, d5, d6] => { results := [.lit (.bool false)], args := [d1, d2, d3, d4, d5, d6] }
  | _ => none }
def StageRefusesWrongFalsely : Prop := stageRefusesRow.holds Try.pinned (OpenSpec.ofChange stageRefusesWrong)

/-- 'saucierlaw19.StagePuts': WHATEVER THE INPUT: true; the input reads as it did. -/
def stagePutsSpec : ChangeSpec := { name := "stagePuts", fn := fun _ => fun
  | [d1, d2, d3, d4, d5, d6] => { results := [.lit (.bool true)], args := [d1, d2, d3, d4, d5, d6] }
  | _ => none }
def stagePutsRow : OpenClaim := { program := "ytopkncbpkccfbaa", sum := "92d9ba63f660ff8aeb17258a29ef63257f5559ecf5e30a1ded804429a94836b9", func := "saucier/saucierlaw19.StagePuts", spec := "stagePuts", unfollowed := true, recurses := true, apart := false }
def StagePutsSaid : Prop := stagePutsRow.holds Try.pinned (OpenSpec.ofChange stagePutsSpec)

/-- ITS FALSE NEIGHBOUR: 'it returns false'. Refute it at one input. -/
def stagePutsWrong : ChangeSpec := { name := "stagePuts", fn := fun _ => fun
  | [d1, d2, d3, d4, d5, d6] => { results := [.lit (.bool false)], args := [d1, d2, d3, d4, d5, d6] }
  | _ => none }
def StagePutsWrongFalsely : Prop := stagePutsRow.holds Try.pinned (OpenSpec.ofChange stagePutsWrong)

/-- 'saucierlaw19.StageWhole': WHATEVER THE INPUT: true; the input reads as it did. -/
def stageWholeSpec : ChangeSpec := { name := "stageWhole", fn := fun _ => fun
  | [d1, d2, d3, d4, d5] => { results := [.lit (.bool true)], args := [d1, d2, d3, d4, d5] }
  | _ => none }
def stageWholeRow : OpenClaim := { program := "ytopkncbpkccfbaa", sum := "92d9ba63f660ff8aeb17258a29ef63257f5559ecf5e30a1ded804429a94836b9", func := "saucier/saucierlaw19.StageWhole", spec := "stageWhole", unfollowed := true, recurses := true, apart := false }
def StageWholeSaid : Prop := stageWholeRow.holds Try.pinned (OpenSpec.ofChange stageWholeSpec)

/-- ITS FALSE NEIGHBOUR: 'it returns false'. Refute it at one input. -/
def stageWholeWrong : ChangeSpec := { name := "stageWhole", fn := fun _ => fun
  | [d1, d2, d3, d4, d5] => { results := [.lit (.bool false)], args := [d1, d2, d3, d4, d5] }
  | _ => none }
def StageWholeWrongFalsely : Prop := stageWholeRow.holds Try.pinned (OpenSpec.ofChange stageWholeWrong)

/-- 'saucierlaw19.StageTells': WHATEVER THE INPUT: true; the input reads as it did. -/
def stageTellsSpec : ChangeSpec := { name := "stageTells", fn := fun _ => fun
  | [d1, d2, d3, d4, d5, d6, d7, d8, d9] => { results := [.lit (.bool true)], args := [d1, d2, d3, d4, d5, d6, d7, d8, d9] }
  | _ => none }
def stageTellsRow : OpenClaim := { program := "ytopkncbpkccfbaa", sum := "92d9ba63f660ff8aeb17258a29ef63257f5559ecf5e30a1ded804429a94836b9", func := "saucier/saucierlaw19.StageTells", spec := "stageTells", unfollowed := true, recurses := true, apart := false }
def StageTellsSaid : Prop := stageTellsRow.holds Try.pinned (OpenSpec.ofChange stageTellsSpec)

/-- ITS FALSE NEIGHBOUR: 'it returns false'. Refute it at one input. -/
def stageTellsWrong : ChangeSpec := { name := "stageTells", fn := fun _ => fun
  | [d1, d2, d3, d4, d5, d6, d7, d8, d9] => { results := [.lit (.bool false)], args := [d1, d2, d3, d4, d5, d6, d7, d8, d9] }
  | _ => none }
def StageTellsWrongFalsely : Prop := stageTellsRow.holds Try.pinned (OpenSpec.ofChange stageTellsWrong)

/- THE SECOND FORM. 'bulk': how many values and letters a reading holds, each counted each time it is reached (what is shared counts as often as it is met; a slice's spare places count too). A statement '..UptoSaid' is the law's where the arguments, and the package variables that the reading takes, are together of bulk at most 1048576: NARROWER than '..Said'. Prove '..Said' where nothing that the law and all that it calls make is longer than what came in: it says more and counts as full. Else prove '..UptoSaid'. A law counts once. -/
mutual
def uptoBulk {H : Type} : DataW H → Nat
  | .lit (.string bytes) => bytes.length + 1
  | .lit _ => 1
  | .nil => 1
  | .ptr d => uptoBulk d + 1
  | .slice elems spare => uptoBulkAll elems + uptoBulkAll spare + 1
  | .agg parts => uptoBulkAll parts + 1
  | .iface _ d => uptoBulk d + 1
  | .map entries => uptoBulkEntries entries + 1
  | .held _ => 1
def uptoBulkAll {H : Type} : List (DataW H) → Nat
  | [] => 0
  | d :: r => uptoBulk d + uptoBulkAll r
def uptoBulkEntries {H : Type} : List (Lit × DataW H) → Nat
  | [] => 0
  | x :: r => uptoBulkEntry x + uptoBulkEntries r
def uptoBulkEntry {H : Type} : Lit × DataW H → Nat
  | (.string bytes, d) => bytes.length + uptoBulk d + 1
  | (_, d) => uptoBulk d + 1
 end
def uptoSmall : (H : Type) → List (DataW H) → Bool := fun _ ds => decide (uptoBulkAll ds ≤ 1048576)
def OpenSpec.upto (s : _root_.Go.ChangeSpec) : _root_.Go.OpenSpec := { _root_.Go.OpenSpec.ofChange s with cond := some uptoSmall }

/-- 'saucierlaw19.StageBack', WHERE WHAT IT READS IS OF BULK AT MOST 1048576: true; the input reads as it did. -/
def stageBackUptoRow : OpenClaim := { program := "ytopkncbpkccfbaa", sum := "92d9ba63f660ff8aeb17258a29ef63257f5559ecf5e30a1ded804429a94836b9", func := "saucier/saucierlaw19.StageBack", spec := "stageBack", unfollowed := true, recurses := true, apart := false, narrowed := true }
def StageBackUptoSaid : Prop := stageBackUptoRow.holds Try.pinned (OpenSpec.upto stageBackSpec)

/-- 'saucierlaw19.StageOne', WHERE WHAT IT READS IS OF BULK AT MOST 1048576: true; the input reads as it did. -/
def stageOneUptoRow : OpenClaim := { program := "ytopkncbpkccfbaa", sum := "92d9ba63f660ff8aeb17258a29ef63257f5559ecf5e30a1ded804429a94836b9", func := "saucier/saucierlaw19.StageOne", spec := "stageOne", unfollowed := true, recurses := true, apart := false, narrowed := true }
def StageOneUptoSaid : Prop := stageOneUptoRow.holds Try.pinned (OpenSpec.upto stageOneSpec)

/-- 'saucierlaw19.StageRefuses', WHERE WHAT IT READS IS OF BULK AT MOST 1048576: true; the input reads as it did. -/
def stageRefusesUptoRow : OpenClaim := { program := "ytopkncbpkccfbaa", sum := "92d9ba63f660ff8aeb17258a29ef63257f5559ecf5e30a1ded804429a94836b9", func := "saucier/saucierlaw19.StageRefuses", spec := "stageRefuses", apart := false, narrowed := true }
def StageRefusesUptoSaid : Prop := stageRefusesUptoRow.holds Try.pinned (OpenSpec.upto stageRefusesSpec)

/-- 'saucierlaw19.StagePuts', WHERE WHAT IT READS IS OF BULK AT MOST 1048576: true; the input reads as it did. -/
def stagePutsUptoRow : OpenClaim := { program := "ytopkncbpkccfbaa", sum := "92d9ba63f660ff8aeb17258a29ef63257f5559ecf5e30a1ded804429a94836b9", func := "saucier/saucierlaw19.StagePuts", spec := "stagePuts", unfollowed := true, recurses := true, apart := false, narrowed := true }
def StagePutsUptoSaid : Prop := stagePutsUptoRow.holds Try.pinned (OpenSpec.upto stagePutsSpec)

/-- 'saucierlaw19.StageWhole', WHERE WHAT IT READS IS OF BULK AT MOST 1048576: true; the input reads as it did. -/
def stageWholeUptoRow : OpenClaim := { program := "ytopkncbpkccfbaa", sum := "92d9ba63f660ff8aeb17258a29ef63257f5559ecf5e30a1ded804429a94836b9", func := "saucier/saucierlaw19.StageWhole", spec := "stageWhole", unfollowed := true, recurses := true, apart := false, narrowed := true }
def StageWholeUptoSaid : Prop := stageWholeUptoRow.holds Try.pinned (OpenSpec.upto stageWholeSpec)

/-- 'saucierlaw19.StageTells', WHERE WHAT IT READS IS OF BULK AT MOST 1048576: true; the input reads as it did. -/
def stageTellsUptoRow : OpenClaim := { program := "ytopkncbpkccfbaa", sum := "92d9ba63f660ff8aeb17258a29ef63257f5559ecf5e30a1ded804429a94836b9", func := "saucier/saucierlaw19.StageTells", spec := "stageTells", unfollowed := true, recurses := true, apart := false, narrowed := true }
def StageTellsUptoSaid : Prop := stageTellsUptoRow.holds Try.pinned (OpenSpec.upto stageTellsSpec)

end Rows
end Go.Proofs.Ytopkncbpkccfbaa
