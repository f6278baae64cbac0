/- Layer 15: awake's values. -/
import Derived.Test.YthhokpaidekmnaaVdOven
namespace Go.Proofs.Ythhokpaidekmnaa
open Go.RowKit
set_option linter.unusedVariables false
set_option maxRecDepth 100000
abbrev sT : ByteArray := ⟨#[116, 101, 109, 112]⟩
abbrev sC : ByteArray := ⟨#[67]⟩
abbrev fine : St := ⟨sT, ⟨1805, 1⟩, sC, 0⟩
abbrev near : St := ⟨sT, ⟨18055, 2⟩, sC, 0⟩
abbrev hot : St := ⟨sT, ⟨300, 0⟩, sC, 0⟩
abbrev late : St := ⟨sT, ⟨1805, 1⟩, ⟨#[115]⟩, 0⟩
abbrev xx : St := ⟨⟨#[120]⟩, ⟨1805, 1⟩, sC, 0⟩
theorem aw_fine (k b : Nat) : askE k b ([fine].map set7) 1 = 0 := by kernel_rfl
theorem aw_near (k b : Nat) : askE k b ([near].map set7) 1 = 153 := by kernel_rfl
theorem aw_hot (k b : Nat) : askE k b ([hot].map set7) 1 = 153 := by kernel_rfl
theorem aw_late (k b : Nat) : askE k b ([late].map set7) 1 = 152 := by kernel_rfl
theorem aw_xx (k b : Nat) : askE k b ([xx].map set7) 1 = 151 := by kernel_rfl
theorem aw_two (k b : Nat) : askE k b ([fine, fine].map set7) 2 = 151 := by kernel_rfl
theorem aw_word : Vd.vword temp fine = (1805, 0) := by kernel_rfl
theorem aw_pump (k : Nat) : Vd.check [ovenD k] ⟨#[97]⟩ [⟨⟨#[112, 117, 109, 112]⟩, 2, [], none, 0⟩] = (150, 2) := by kernel_rfl
end Go.Proofs.Ythhokpaidekmnaa
