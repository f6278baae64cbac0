/-
  DERIVED. GIVEN WITH THE SEED: THE CARDS: each row of YthnfigdeppncdaaDoorRows.lean that lists a variable, with what it lists TIED to the program's text (the seventh form; the later family's looks); each row that meets fmt, with fmt's text TOLD by the authors' own Lean function (tested against real Go, not proved from fmt's source: count such statements apart). THE CARD IS WHAT COUNTS. Prove the row's statement (the work); the ties are given (YthnfigdeppncdaaDoorTie.lean); close each card by the builder's one call (the guide's Derived/Test/ToyasCard.lean, 'card_holds'). Laid BY PROGRAM, IN A SANDBOX (cutbox-door.mjs). By AI agents, Wed Nov 11 2026. No macro, syntax, notation, axiom, sorry.
-/
import Derived.Test.YthnfigdeppncdaaDoorRows
import GoSem.ClaimSeven
namespace Go.Proofs.YthnfigdeppncdaaDoor
namespace Rows

/-- THE TIED CARD OF 'saucierlaw08.SumTells'. -/
def sumTellsCard : Claim7 := { stood := { row := sumTellsRow, standIns := [], harness := (true, "2913b059b71efa83a6507e24be208f83aa5d68af009b4cfb605d054c57432334"), looks := false }, kinds := [], alts := [], laidByText := true, laidKinds := [.data], laidTests := true, laidLooks := .later }
def SumTellsCardSaid : Prop := Claim7.holds Tryd.pinned (.plain (OpenSpec.ofChange sumTellsSpec)) sumTellsCard

/-- THE TIED CARD OF 'saucierlaw08.SumZeros'. -/
def sumZerosCard : Claim7 := { stood := { row := sumZerosRow, standIns := [], harness := (true, "2913b059b71efa83a6507e24be208f83aa5d68af009b4cfb605d054c57432334"), looks := false }, kinds := [], alts := [], laidByText := true, laidKinds := [.data], laidTests := true, laidLooks := .later }
def SumZerosCardSaid : Prop := Claim7.holds Tryd.pinned (.plain (OpenSpec.ofChange sumZerosSpec)) sumZerosCard

/-- THE TIED CARD OF 'saucierlaw08.SumJoins'. -/
def sumJoinsCard : Claim7 := { stood := { row := sumJoinsRow, standIns := [], harness := (true, "2913b059b71efa83a6507e24be208f83aa5d68af009b4cfb605d054c57432334"), looks := false }, kinds := [], alts := [], laidByText := true, laidKinds := [.data], laidTests := true, laidLooks := .later }
def SumJoinsCardSaid : Prop := Claim7.holds Tryd.pinned (.plain (OpenSpec.ofChange sumJoinsSpec)) sumJoinsCard

/-- THE SECOND FORM's CARD OF 'saucierlaw08.SumTells'. -/
def sumTellsUptoCard : Claim7 := { stood := { row := sumTellsUptoRow, standIns := [], harness := (true, "2913b059b71efa83a6507e24be208f83aa5d68af009b4cfb605d054c57432334"), looks := false }, kinds := [], alts := [], laidByText := true, laidKinds := [.data], laidTests := true, laidLooks := .later }
def SumTellsUptoCardSaid : Prop := Claim7.holds Tryd.pinned (.plain (OpenSpec.upto sumTellsSpec)) sumTellsUptoCard

/-- THE SECOND FORM's CARD OF 'saucierlaw08.SumZeros'. -/
def sumZerosUptoCard : Claim7 := { stood := { row := sumZerosUptoRow, standIns := [], harness := (true, "2913b059b71efa83a6507e24be208f83aa5d68af009b4cfb605d054c57432334"), looks := false }, kinds := [], alts := [], laidByText := true, laidKinds := [.data], laidTests := true, laidLooks := .later }
def SumZerosUptoCardSaid : Prop := Claim7.holds Tryd.pinned (.plain (OpenSpec.upto sumZerosSpec)) sumZerosUptoCard

/-- THE SECOND FORM's CARD OF 'saucierlaw08.SumJoins'. -/
def sumJoinsUptoCard : Claim7 := { stood := { row := sumJoinsUptoRow, standIns := [], harness := (true, "2913b059b71efa83a6507e24be208f83aa5d68af009b4cfb605d054c57432334"), looks := false }, kinds := [], alts := [], laidByText := true, laidKinds := [.data], laidTests := true, laidLooks := .later }
def SumJoinsUptoCardSaid : Prop := Claim7.holds Tryd.pinned (.plain (OpenSpec.upto sumJoinsSpec)) sumJoinsUptoCard
end Rows
end Go.Proofs.YthnfigdeppncdaaDoor
