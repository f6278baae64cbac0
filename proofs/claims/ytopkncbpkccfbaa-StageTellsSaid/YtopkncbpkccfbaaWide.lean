/- words.Wide and words.Parts. -/
import Derived.Test.YtopkncbpkccfbaaBlk
namespace Go.Proofs.Ytopkncbpkccfbaa
open Go.RowKit
set_option linter.unusedVariables false
theorem wide_or (h l : Nat) (hh : h < 65536) (hl : l < 65536) : bits .or .u32 ((h : Int) * 65536) (l : Int) = ((65536 * h + l : Nat) : Int) := by
  have h1 : ((h : Int) * 65536) = ((h * 65536 : Nat) : Int) := by omega
  rw [h1, u32_or_nat _ _ (by omega) (by omega)]
  have h2 := Nat.shiftLeft_add_eq_or_of_lt (i := 16) (b := l) hl h
  rw [Nat.shiftLeft_eq] at h2
  rw [show (65536 : Nat) = 2 ^ 16 from rfl, ← h2, Nat.mul_comm]
theorem wide_any (h l : Nat) (w : World) (hh : h < 65536) (hl : l < 65536) :
    Calls Try.prog 38 #[.int .u16 (h : Int), .int .u16 (l : Int)] w fun e w' => e = .returned (.int .u32 ((65536 * h + l : Nat) : Int)) ∧ w = w' := by
  go_enter Try.func38, Try.ntmps38
  go_wp2
  go_ret
  exact ⟨ret_int (wide_or h l hh hl), rfl⟩
theorem wrap_u16 (x : Int) : IntKind.u16.wrap x = x % 65536 := by simp [IntKind.wrap, IntKind.bits, IntKind.signed]
theorem parts_any (x : Nat) (w : World) (hx : x < 4294967296) :
    Calls Try.prog 50 #[.int .u32 (x : Int)] w fun e w' => e = .returned (.tuple #[.int .u16 ((x / 65536 : Nat) : Int), .int .u16 ((x % 65536 : Nat) : Int)]) ∧ w = w' := by
  have H1 := Lib.hid (show IntKind.u16.wrap (x : Int) = ((x % 65536 : Nat) : Int) by rw [wrap_u16]; omega)
  have H2 := Lib.hid (show (x : Int) / 65536 = ((x / 65536 : Nat) : Int) by omega)
  go_enter Try.func50, Try.ntmps50
  go_wp2
  go_ret2
  refine ⟨?_, rfl⟩
  rw [← H1.out, ← H2.out]
  rfl
end Go.Proofs.Ytopkncbpkccfbaa
