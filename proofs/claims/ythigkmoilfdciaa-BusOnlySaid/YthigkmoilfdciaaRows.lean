/-
  No cell of these rows narrows 'for every input' (looked for: loops, veiled, ifaces, maps, wideKeys, modest, calm, conditions, laid).
  DERIVED. THE GIVEN ROWS OF THIS SEAT. 5 by the template 'for every input the law returns true; each argument reads behind the call as it read before'; 0 by the template 'total and deterministic' (their statements: YthigkmoilfdciaaTotals.lean).
  GIVEN WITH THE SEED: the statements are not yours to turn. If you find one false, say at which input.
  Laid BY PROGRAM, IN A SANDBOX (cutbox-rows.mjs): the forced cells as the released guide's own fill.sh prints them over the translation 1f8fdb8169c9294c… (all of the seat's roots in one cut). By AI agents, Wed Nov 11 2026. No macro, syntax, notation, axiom, sorry.
-/
import Derived.Test.YthigkmoilfdciaaChecked
import GoSem.Claim
import GoSem.ClaimJoined
import GoSem.ClaimMapViews
import Derived.JoinedTies
import Derived.KernelRfl
namespace Go.Proofs.Ythigkmoilfdciaa
/- THE CELL 'sum', in the pinned program and in every row, IS THE sha256 OF THE DUMP (.gsa) THAT YthigkmoilfdciaaProg.lean LOADS. Nothing in Lean hashes anything: it is a label: what it is worth is what the hold of that sum in a sandbox is worth. -/
noncomputable def Try.pinned : Pinned := { name := "ythigkmoilfdciaa", sum := "1f8fdb8169c9294c954963c736ed6404b53c627578d876ba3724b1c456f707d3", checked := Try.checked }
namespace Rows
def none {H : Type} : Left H := { results := [], args := [] }

/-- 'saucierlaw11.BusTells': WHATEVER THE INPUT: true; the input reads as it did. -/
def busTellsSpec : ChangeSpec := { name := "busTells", fn := fun _ => fun
  | [d1, d2] => { results := [.lit (.bool true)], args := [d1, d2] }
  | _ => none }
def busTellsRow : OpenClaim := { program := "ythigkmoilfdciaa", sum := "1f8fdb8169c9294c954963c736ed6404b53c627578d876ba3724b1c456f707d3", func := "saucier/saucierlaw11.BusTells", spec := "busTells", unfollowed := true, recurses := true, apart := false }
def BusTellsSaid : Prop := busTellsRow.holds Try.pinned (OpenSpec.ofChange busTellsSpec)

/-- ITS FALSE NEIGHBOUR: 'it returns false'. Refute it at one input. -/
def busTellsWrong : ChangeSpec := { name := "busTells", fn := fun _ => fun
  | [d1, d2] => { results := [.lit (.bool false)], args := [d1, d2] }
  | _ => none }
def BusTellsWrongFalsely : Prop := busTellsRow.holds Try.pinned (OpenSpec.ofChange busTellsWrong)

/-- 'saucierlaw11.BusOnly': WHATEVER THE INPUT: true; the input reads as it did. -/
def busOnlySpec : ChangeSpec := { name := "busOnly", fn := fun _ => fun
  | [d1, d2] => { results := [.lit (.bool true)], args := [d1, d2] }
  | _ => none }
def busOnlyRow : OpenClaim := { program := "ythigkmoilfdciaa", sum := "1f8fdb8169c9294c954963c736ed6404b53c627578d876ba3724b1c456f707d3", func := "saucier/saucierlaw11.BusOnly", spec := "busOnly", unfollowed := true, recurses := true, apart := false }
def BusOnlySaid : Prop := busOnlyRow.holds Try.pinned (OpenSpec.ofChange busOnlySpec)

/-- ITS FALSE NEIGHBOUR: 'it returns false'. Refute it at one input. -/
def busOnlyWrong : ChangeSpec := { name := "busOnly", fn := fun _ => fun
  | [d1, d2] => { results := [.lit (.bool false)], args := [d1, d2] }
  | _ => none }
def BusOnlyWrongFalsely : Prop := busOnlyRow.holds Try.pinned (OpenSpec.ofChange busOnlyWrong)

/-- 'saucierlaw11.BusCalm': WHATEVER THE INPUT: true; the input reads as it did. -/
def busCalmSpec : ChangeSpec := { name := "busCalm", fn := fun _ => fun
  | [d1, d2, d3, d4] => { results := [.lit (.bool true)], args := [d1, d2, d3, d4] }
  | _ => none }
def busCalmRow : OpenClaim := { program := "ythigkmoilfdciaa", sum := "1f8fdb8169c9294c954963c736ed6404b53c627578d876ba3724b1c456f707d3", func := "saucier/saucierlaw11.BusCalm", spec := "busCalm", unfollowed := true, recurses := true, apart := false }
def BusCalmSaid : Prop := busCalmRow.holds Try.pinned (OpenSpec.ofChange busCalmSpec)

/-- ITS FALSE NEIGHBOUR: 'it returns false'. Refute it at one input. -/
def busCalmWrong : ChangeSpec := { name := "busCalm", fn := fun _ => fun
  | [d1, d2, d3, d4] => { results := [.lit (.bool false)], args := [d1, d2, d3, d4] }
  | _ => none }
def BusCalmWrongFalsely : Prop := busCalmRow.holds Try.pinned (OpenSpec.ofChange busCalmWrong)

/-- 'saucierlaw11.BusApart': WHATEVER THE INPUT: true; the input reads as it did. -/
def busApartSpec : ChangeSpec := { name := "busApart", fn := fun _ => fun
  | [d1, d2] => { results := [.lit (.bool true)], args := [d1, d2] }
  | _ => none }
def busApartRow : OpenClaim := { program := "ythigkmoilfdciaa", sum := "1f8fdb8169c9294c954963c736ed6404b53c627578d876ba3724b1c456f707d3", func := "saucier/saucierlaw11.BusApart", spec := "busApart", unfollowed := true, recurses := true, apart := false }
def BusApartSaid : Prop := busApartRow.holds Try.pinned (OpenSpec.ofChange busApartSpec)

/-- ITS FALSE NEIGHBOUR: 'it returns false'. Refute it at one input. -/
def busApartWrong : ChangeSpec := { name := "busApart", fn := fun _ => fun
  | [d1, d2] => { results := [.lit (.bool false)], args := [d1, d2] }
  | _ => none }
def BusApartWrongFalsely : Prop := busApartRow.holds Try.pinned (OpenSpec.ofChange busApartWrong)

/-- 'saucierlaw11.BusNone': WHATEVER THE INPUT: true; the input reads as it did. -/
def busNoneSpec : ChangeSpec := { name := "busNone", fn := fun _ => fun
  | [d1, d2] => { results := [.lit (.bool true)], args := [d1, d2] }
  | _ => none }
def busNoneRow : OpenClaim := { program := "ythigkmoilfdciaa", sum := "1f8fdb8169c9294c954963c736ed6404b53c627578d876ba3724b1c456f707d3", func := "saucier/saucierlaw11.BusNone", spec := "busNone", unfollowed := true, recurses := true, apart := false }
def BusNoneSaid : Prop := busNoneRow.holds Try.pinned (OpenSpec.ofChange busNoneSpec)

/-- ITS FALSE NEIGHBOUR: 'it returns false'. Refute it at one input. -/
def busNoneWrong : ChangeSpec := { name := "busNone", fn := fun _ => fun
  | [d1, d2] => { results := [.lit (.bool false)], args := [d1, d2] }
  | _ => none }
def BusNoneWrongFalsely : Prop := busNoneRow.holds Try.pinned (OpenSpec.ofChange busNoneWrong)

/- THE SECOND FORM. 'bulk': how many values and letters a reading holds, each counted each time it is reached (what is shared counts as often as it is met; a slice's spare places count too). A statement '..UptoSaid' is the law's where the arguments, and the package variables that the reading takes, are together of bulk at most 1048576: NARROWER than '..Said'. Prove '..Said' where nothing that the law and all that it calls make is longer than what came in: it says more and counts as full. Else prove '..UptoSaid'. A law counts once. -/
mutual
def uptoBulk {H : Type} : DataW H → Nat
  | .lit (.string bytes) => bytes.length + 1
  | .lit _ => 1
  | .nil => 1
  | .ptr d => uptoBulk d + 1
  | .slice elems spare => uptoBulkAll elems + uptoBulkAll spare + 1
  | .agg parts => uptoBulkAll parts + 1
  | .iface _ d => uptoBulk d + 1
  | .map entries => uptoBulkEntries entries + 1
  | .held _ => 1
def uptoBulkAll {H : Type} : List (DataW H) → Nat
  | [] => 0
  | d :: r => uptoBulk d + uptoBulkAll r
def uptoBulkEntries {H : Type} : List (Lit × DataW H) → Nat
  | [] => 0
  | x :: r => uptoBulkEntry x + uptoBulkEntries r
def uptoBulkEntry {H : Type} : Lit × DataW H → Nat
  | (.string bytes, d) => bytes.length + uptoBulk d + 1
  | (_, d) => uptoBulk d + 1
 end
def uptoSmall : (H : Type) → List (DataW H) → Bool := fun _ ds => decide (uptoBulkAll ds ≤ 1048576)
def OpenSpec.upto (s : _root_.Go.ChangeSpec) : _root_.Go.OpenSpec := { _root_.Go.OpenSpec.ofChange s with cond := some uptoSmall }

/-- 'saucierlaw11.BusTells', WHERE WHAT IT READS IS OF BULK AT MOST 1048576: true; the input reads as it did. -/
def busTellsUptoRow : OpenClaim := { program := "ythigkmoilfdciaa", sum := "1f8fdb8169c9294c954963c736ed6404b53c627578d876ba3724b1c456f707d3", func := "saucier/saucierlaw11.BusTells", spec := "busTells", unfollowed := true, recurses := true, apart := false, narrowed := true }
def BusTellsUptoSaid : Prop := busTellsUptoRow.holds Try.pinned (OpenSpec.upto busTellsSpec)

/-- 'saucierlaw11.BusOnly', WHERE WHAT IT READS IS OF BULK AT MOST 1048576: true; the input reads as it did. -/
def busOnlyUptoRow : OpenClaim := { program := "ythigkmoilfdciaa", sum := "1f8fdb8169c9294c954963c736ed6404b53c627578d876ba3724b1c456f707d3", func := "saucier/saucierlaw11.BusOnly", spec := "busOnly", unfollowed := true, recurses := true, apart := false, narrowed := true }
def BusOnlyUptoSaid : Prop := busOnlyUptoRow.holds Try.pinned (OpenSpec.upto busOnlySpec)

/-- 'saucierlaw11.BusCalm', WHERE WHAT IT READS IS OF BULK AT MOST 1048576: true; the input reads as it did. -/
def busCalmUptoRow : OpenClaim := { program := "ythigkmoilfdciaa", sum := "1f8fdb8169c9294c954963c736ed6404b53c627578d876ba3724b1c456f707d3", func := "saucier/saucierlaw11.BusCalm", spec := "busCalm", unfollowed := true, recurses := true, apart := false, narrowed := true }
def BusCalmUptoSaid : Prop := busCalmUptoRow.holds Try.pinned (OpenSpec.upto busCalmSpec)

/-- 'saucierlaw11.BusApart', WHERE WHAT IT READS IS OF BULK AT MOST 1048576: true; the input reads as it did. -/
def busApartUptoRow : OpenClaim := { program := "ythigkmoilfdciaa", sum := "1f8fdb8169c9294c954963c736ed6404b53c627578d876ba3724b1c456f707d3", func := "saucier/saucierlaw11.BusApart", spec := "busApart", unfollowed := true, recurses := true, apart := false, narrowed := true }
def BusApartUptoSaid : Prop := busApartUptoRow.holds Try.pinned (OpenSpec.upto busApartSpec)

/-- 'saucierlaw11.BusNone', WHERE WHAT IT READS IS OF BULK AT MOST 1048576: true; the input reads as it did. -/
def busNoneUptoRow : OpenClaim := { program := "ythigkmoilfdciaa", sum := "1f8fdb8169c9294c954963c736ed6404b53c627578d876ba3724b1c456f707d3", func := "saucier/saucierlaw11.BusNone", spec := "busNone", unfollowed := true, recurses := true, apart := false, narrowed := true }
def BusNoneUptoSaid : Prop := busNoneUptoRow.holds Try.pinned (OpenSpec.upto busNoneSpec)

end Rows
end Go.Proofs.Ythigkmoilfdciaa
