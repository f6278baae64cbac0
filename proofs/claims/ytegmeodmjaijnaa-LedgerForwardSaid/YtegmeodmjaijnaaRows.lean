/-
  No cell of these rows narrows 'for every input' (looked for: loops, veiled, ifaces, maps, wideKeys, modest, calm, conditions, laid).
  DERIVED. THE GIVEN ROWS OF THIS SEAT. 5 by the template 'for every input the law returns true; each argument reads behind the call as it read before'; 0 by the template 'total and deterministic' (their statements: YtegmeodmjaijnaaTotals.lean).
  GIVEN WITH THE SEED: the statements are not yours to turn. If you find one false, say at which input.
  Laid BY PROGRAM, IN A SANDBOX (cutbox-rows.mjs): the forced cells as the released guide's own fill.sh prints them over the translation fd2297410b4eef3b… (all of the seat's roots in one cut). By AI agents, Wed Nov 11 2026. No macro, syntax, notation, axiom, sorry.
-/
import Derived.Test.YtegmeodmjaijnaaChecked
import GoSem.Claim
import GoSem.ClaimJoined
import GoSem.ClaimMapViews
import Derived.JoinedTies
import Derived.KernelRfl
namespace Go.Proofs.Ytegmeodmjaijnaa
/- THE CELL 'sum', in the pinned program and in every row, IS THE sha256 OF THE DUMP (.gsa) THAT YtegmeodmjaijnaaProg.lean LOADS. Nothing in Lean hashes anything: it is a label: what it is worth is what the hold of that sum in a sandbox is worth. -/
noncomputable def Try.pinned : Pinned := { name := "ytegmeodmjaijnaa", sum := "fd2297410b4eef3bb55bdc3cf9e1f696478824d01833e5ef6e51ef25eeba26eb", checked := Try.checked }
namespace Rows
def none {H : Type} : Left H := { results := [], args := [] }

/-- 'saucierlaw23.LedgerShut': WHATEVER THE INPUT: true; the input reads as it did. -/
def ledgerShutSpec : ChangeSpec := { name := "ledgerShut", fn := fun _ => fun
  | [d] => { results := [.lit (.bool true)], args := [d] }
  | _ => none }
def ledgerShutRow : OpenClaim := { program := "ytegmeodmjaijnaa", sum := "fd2297410b4eef3bb55bdc3cf9e1f696478824d01833e5ef6e51ef25eeba26eb", func := "saucier/saucierlaw23.LedgerShut", spec := "ledgerShut", unfollowed := true, recurses := true, plainKeys := false, apart := false }
def LedgerShutSaid : Prop := ledgerShutRow.holds Try.pinned (OpenSpec.ofChange ledgerShutSpec)

/-- ITS FALSE NEIGHBOUR: 'it returns false'. Refute it at one input. -/
def ledgerShutWrong : ChangeSpec := { name := "ledgerShut", fn := fun _ => fun
  | [d] => { results := [.lit (.bool false)], args := [d] }
  | _ => none }
def LedgerShutWrongFalsely : Prop := ledgerShutRow.holds Try.pinned (OpenSpec.ofChange ledgerShutWrong)

/-- 'saucierlaw23.LedgerForward': WHATEVER THE INPUT: true; the input reads as it did. -/
def ledgerForwardSpec : ChangeSpec := { name := "ledgerForward", fn := fun _ => fun
  | [d] => { results := [.lit (.bool true)], args := [d] }
  | _ => none }
def ledgerForwardRow : OpenClaim := { program := "ytegmeodmjaijnaa", sum := "fd2297410b4eef3bb55bdc3cf9e1f696478824d01833e5ef6e51ef25eeba26eb", func := "saucier/saucierlaw23.LedgerForward", spec := "ledgerForward", unfollowed := true, recurses := true, plainKeys := false, apart := false }
def LedgerForwardSaid : Prop := ledgerForwardRow.holds Try.pinned (OpenSpec.ofChange ledgerForwardSpec)

/-- ITS FALSE NEIGHBOUR: 'it returns false'. Refute it at one input. -/
def ledgerForwardWrong : ChangeSpec := { name := "ledgerForward", fn := fun _ => fun
  | [d] => { results := [.lit (.bool false)], args := [d] }
  | _ => none }
def LedgerForwardWrongFalsely : Prop := ledgerForwardRow.holds Try.pinned (OpenSpec.ofChange ledgerForwardWrong)

/-- 'saucierlaw23.LedgerMade': WHATEVER THE INPUT: true; the input reads as it did. -/
def ledgerMadeSpec : ChangeSpec := { name := "ledgerMade", fn := fun _ => fun
  | [d1, d2] => { results := [.lit (.bool true)], args := [d1, d2] }
  | _ => none }
def ledgerMadeRow : OpenClaim := { program := "ytegmeodmjaijnaa", sum := "fd2297410b4eef3bb55bdc3cf9e1f696478824d01833e5ef6e51ef25eeba26eb", func := "saucier/saucierlaw23.LedgerMade", spec := "ledgerMade", unfollowed := true, recurses := true, plainKeys := false, apart := false }
def LedgerMadeSaid : Prop := ledgerMadeRow.holds Try.pinned (OpenSpec.ofChange ledgerMadeSpec)

/-- ITS FALSE NEIGHBOUR: 'it returns false'. Refute it at one input. -/
def ledgerMadeWrong : ChangeSpec := { name := "ledgerMade", fn := fun _ => fun
  | [d1, d2] => { results := [.lit (.bool false)], args := [d1, d2] }
  | _ => none }
def LedgerMadeWrongFalsely : Prop := ledgerMadeRow.holds Try.pinned (OpenSpec.ofChange ledgerMadeWrong)

/-- 'saucierlaw23.LedgerApart': WHATEVER THE INPUT: true; the input reads as it did. -/
def ledgerApartSpec : ChangeSpec := { name := "ledgerApart", fn := fun _ => fun
  | [d1, d2] => { results := [.lit (.bool true)], args := [d1, d2] }
  | _ => none }
def ledgerApartRow : OpenClaim := { program := "ytegmeodmjaijnaa", sum := "fd2297410b4eef3bb55bdc3cf9e1f696478824d01833e5ef6e51ef25eeba26eb", func := "saucier/saucierlaw23.LedgerApart", spec := "ledgerApart", unfollowed := true, recurses := true, plainKeys := false, apart := false }
def LedgerApartSaid : Prop := ledgerApartRow.holds Try.pinned (OpenSpec.ofChange ledgerApartSpec)

/-- ITS FALSE NEIGHBOUR: 'it returns false'. Refute it at one input. -/
def ledgerApartWrong : ChangeSpec := { name := "ledgerApart", fn := fun _ => fun
  | [d1, d2] => { results := [.lit (.bool false)], args := [d1, d2] }
  | _ => none }
def LedgerApartWrongFalsely : Prop := ledgerApartRow.holds Try.pinned (OpenSpec.ofChange ledgerApartWrong)

/-- 'saucierlaw23.LedgerTells': WHATEVER THE INPUT: true; the input reads as it did. -/
def ledgerTellsSpec : ChangeSpec := { name := "ledgerTells", fn := fun _ => fun
  | [d1, d2, d3, d4] => { results := [.lit (.bool true)], args := [d1, d2, d3, d4] }
  | _ => none }
def ledgerTellsRow : OpenClaim := { program := "ytegmeodmjaijnaa", sum := "fd2297410b4eef3bb55bdc3cf9e1f696478824d01833e5ef6e51ef25eeba26eb", func := "saucier/saucierlaw23.LedgerTells", spec := "ledgerTells", unfollowed := true, recurses := true, plainKeys := false, apart := false }
def LedgerTellsSaid : Prop := ledgerTellsRow.holds Try.pinned (OpenSpec.ofChange ledgerTellsSpec)

/-- ITS FALSE NEIGHBOUR: 'it returns false'. Refute it at one input. -/
def ledgerTellsWrong : ChangeSpec := { name := "ledgerTells", fn := fun _ => fun
  | [d1, d2, d3, d4] => { results := [.lit (.bool false)], args := [d1, d2, d3, d4] }
  | _ => none }
def LedgerTellsWrongFalsely : Prop := ledgerTellsRow.holds Try.pinned (OpenSpec.ofChange ledgerTellsWrong)

/- THE SECOND FORM. 'bulk': how many values and letters a reading holds, each counted each time it is reached (what is shared counts as often as it is met; a slice's spare places count too). A statement '..UptoSaid' is the law's where the arguments, and the package variables that the reading takes, are together of bulk at most 1048576: NARROWER than '..Said'. Prove '..Said' where nothing that the law and all that it calls make is longer than what came in: it says more and counts as full. Else prove '..UptoSaid'. A law counts once. -/
mutual
def uptoBulk {H : Type} : DataW H → Nat
  | .lit (.string bytes) => bytes.length + 1
  | .lit _ => 1
  | .nil => 1
  | .ptr d => uptoBulk d + 1
  | .slice elems spare => uptoBulkAll elems + uptoBulkAll spare + 1
  | .agg parts => uptoBulkAll parts + 1
  | .iface _ d => uptoBulk d + 1
  | .map entries => uptoBulkEntries entries + 1
  | .held _ => 1
def uptoBulkAll {H : Type} : List (DataW H) → Nat
  | [] => 0
  | d :: r => uptoBulk d + uptoBulkAll r
def uptoBulkEntries {H : Type} : List (Lit × DataW H) → Nat
  | [] => 0
  | x :: r => uptoBulkEntry x + uptoBulkEntries r
def uptoBulkEntry {H : Type} : Lit × DataW H → Nat
  | (.string bytes, d) => bytes.length + uptoBulk d + 1
  | (_, d) => uptoBulk d + 1
 end
def uptoSmall : (H : Type) → List (DataW H) → Bool := fun _ ds => decide (uptoBulkAll ds ≤ 1048576)
def OpenSpec.upto (s : _root_.Go.ChangeSpec) : _root_.Go.OpenSpec := { _root_.Go.OpenSpec.ofChange s with cond := some uptoSmall }

/-- 'saucierlaw23.LedgerShut', WHERE WHAT IT READS IS OF BULK AT MOST 1048576: true; the input reads as it did. -/
def ledgerShutUptoRow : OpenClaim := { program := "ytegmeodmjaijnaa", sum := "fd2297410b4eef3bb55bdc3cf9e1f696478824d01833e5ef6e51ef25eeba26eb", func := "saucier/saucierlaw23.LedgerShut", spec := "ledgerShut", unfollowed := true, recurses := true, plainKeys := false, apart := false, narrowed := true }
def LedgerShutUptoSaid : Prop := ledgerShutUptoRow.holds Try.pinned (OpenSpec.upto ledgerShutSpec)

/-- 'saucierlaw23.LedgerForward', WHERE WHAT IT READS IS OF BULK AT MOST 1048576: true; the input reads as it did. -/
def ledgerForwardUptoRow : OpenClaim := { program := "ytegmeodmjaijnaa", sum := "fd2297410b4eef3bb55bdc3cf9e1f696478824d01833e5ef6e51ef25eeba26eb", func := "saucier/saucierlaw23.LedgerForward", spec := "ledgerForward", unfollowed := true, recurses := true, plainKeys := false, apart := false, narrowed := true }
def LedgerForwardUptoSaid : Prop := ledgerForwardUptoRow.holds Try.pinned (OpenSpec.upto ledgerForwardSpec)

/-- 'saucierlaw23.LedgerMade', WHERE WHAT IT READS IS OF BULK AT MOST 1048576: true; the input reads as it did. -/
def ledgerMadeUptoRow : OpenClaim := { program := "ytegmeodmjaijnaa", sum := "fd2297410b4eef3bb55bdc3cf9e1f696478824d01833e5ef6e51ef25eeba26eb", func := "saucier/saucierlaw23.LedgerMade", spec := "ledgerMade", unfollowed := true, recurses := true, plainKeys := false, apart := false, narrowed := true }
def LedgerMadeUptoSaid : Prop := ledgerMadeUptoRow.holds Try.pinned (OpenSpec.upto ledgerMadeSpec)

/-- 'saucierlaw23.LedgerApart', WHERE WHAT IT READS IS OF BULK AT MOST 1048576: true; the input reads as it did. -/
def ledgerApartUptoRow : OpenClaim := { program := "ytegmeodmjaijnaa", sum := "fd2297410b4eef3bb55bdc3cf9e1f696478824d01833e5ef6e51ef25eeba26eb", func := "saucier/saucierlaw23.LedgerApart", spec := "ledgerApart", unfollowed := true, recurses := true, plainKeys := false, apart := false, narrowed := true }
def LedgerApartUptoSaid : Prop := ledgerApartUptoRow.holds Try.pinned (OpenSpec.upto ledgerApartSpec)

/-- 'saucierlaw23.LedgerTells', WHERE WHAT IT READS IS OF BULK AT MOST 1048576: true; the input reads as it did. -/
def ledgerTellsUptoRow : OpenClaim := { program := "ytegmeodmjaijnaa", sum := "fd2297410b4eef3bb55bdc3cf9e1f696478824d01833e5ef6e51ef25eeba26eb", func := "saucier/saucierlaw23.LedgerTells", spec := "ledgerTells", unfollowed := true, recurses := true, plainKeys := false, apart := false, narrowed := true }
def LedgerTellsUptoSaid : Prop := ledgerTellsUptoRow.holds Try.pinned (OpenSpec.upto ledgerTellsSpec)

end Rows
end Go.Proofs.Ytegmeodmjaijnaa
