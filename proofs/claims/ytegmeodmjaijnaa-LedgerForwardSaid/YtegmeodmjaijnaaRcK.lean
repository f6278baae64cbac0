/- A record in memory (seats without Read). -/
import Derived.Test.YtegmeodmjaijnaaNvRight
import Derived.Test.YtegmeodmjaijnaaOlist
import Derived.Test.YtegmeodmjaijnaaCopyB
namespace Go.Proofs.Ytegmeodmjaijnaa
open Go.RowKit
set_option linter.unusedVariables false
/-- a record in memory: the record, and where its text lies -/
structure Rc where
  p : Nr
  A : Option Addr
  c : Nat
abbrev recK : Kind Rc := { f := fun r => rcV r.p.what r.p.tx r.p.who r.p.yes r.A r.p.text.length r.c, s := 5, A := Rc.A, l := fun r => r.p.text, g := byw }
theorem recK_fine : recK.Fine := ⟨fun _ => rfl, by decide, fun a u hu => by
  simp only [rcV, List.mem_cons, List.not_mem_nil, or_false] at hu
  rcases hu with rfl | rfl | rfl | rfl | rfl <;> rfl⟩
/-- the text's slice is a right one -/
def Rc.Nl (r : Rc) : Prop := (r.A = none → r.c = 0) ∧ r.p.text.length ≤ r.c ∧ r.c ≤ 9223372036854775807
/-- the text lies from block B on -/
def Rc.In (r : Rc) (B : Nat) : Prop := ∀ p, r.A = some p → B ≤ p.block
theorem info_record : (Try.prog.info? 31).map (fun i => (i.zero, i.size, i.bytes)) = some (some (.agg #[.int .u8 0, .int .u32 0, .int .u8 0, .bool false, .slice none 0 0]), 5, 40) := by kernel_rfl
end Go.Proofs.Ytegmeodmjaijnaa
