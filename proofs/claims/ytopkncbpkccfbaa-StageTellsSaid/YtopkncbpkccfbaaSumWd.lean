/- The walk of sum.Words. -/
import Derived.Test.YtopkncbpkccfbaaSum
import Derived.Test.YtopkncbpkccfbaaPack
namespace Go.Proofs.Ytopkncbpkccfbaa
open Go.RowKit
theorem sumWords_any (A : Option Addr) (c : Nat) (l : List Nat) (w : World) (h : Nums .u16 w w.heap.size A l) (hl : ∀ b ∈ l, b < 65536) (hn : l.length ≤ 35184372088832) :
    Calls Try.prog 44 #[.slice A l.length c] w fun e w' => e = .returned (.int .u32 (Crc.bytes (packRegs l) : Nat)) ∧ Below w.heap.size w w' := by
  have hpb := packRegs_byte hl
  have HL := Lib.hid (packRegs_length l)
  go_enter Try.func44, Try.ntmps44
  go_wp2_with fail
  refine (packRegs_any A c l w h hl hn).mono ?_
  rintro e w1 ⟨A1, c1, rfl, hown, hb⟩
  go_wp2_with fail
  refine (bytes_any A1 c1 (packRegs l) w1.heap.size w1 (Nums.of_own hown) hpb (by rw [HL.out]; omega)).mono ?_
  rintro e w2 ⟨rfl, rfl⟩
  go_wp2
  go_ret
  exact ⟨rfl, hb⟩
end Go.Proofs.Ytopkncbpkccfbaa
