/- sum.Words, and the chapter's examples (awake). -/
import Derived.Test.YthnfigdeppncdaaDoorSum
import Derived.Test.YthnfigdeppncdaaDoorPack
import Derived.Lib.SlBytesConst
namespace Go.Proofs.YthnfigdeppncdaaDoor
open Go.RowKit
theorem words_any (A : Option Addr) (c : Nat) (l : List Nat) (w : World) (h : Nums .u16 w w.heap.size A l) (hl : ∀ b ∈ l, b < 65536) (hn : l.length ≤ 35184372088832) :
    Calls Tryd.prog 11 #[.slice A l.length c] w fun e w' => e = .returned (.int .u32 (Crc.bytes (packRegs l) : Nat)) ∧ Below w.heap.size w w' := by
  have hpb := packRegs_byte hl
  have HL := Lib.hid (packRegs_length l)
  go_enter Tryd.func11, Tryd.ntmps11
  go_wp2_with fail
  refine (packRegs_any A c l w h hl hn).mono ?_
  rintro e w1 ⟨A1, c1, rfl, hown, hb⟩
  go_wp2_with fail
  refine (bytes_any A1 c1 (packRegs l) w1.heap.size w1 (Nums.of_own hown) hpb (by rw [HL.out]; omega)).mono ?_
  rintro e w2 ⟨rfl, rfl⟩
  go_wp2
  go_ret
  exact ⟨rfl, hb⟩

theorem nums_9 (w : World) : Nums .u8 (w.alloc (.cells #[.int .u8 49, .int .u8 50, .int .u8 51, .int .u8 52, .int .u8 53, .int .u8 54, .int .u8 55, .int .u8 56, .int .u8 57] 5 (9, 10))) (w.heap.size + 1) (some ⟨w.heap.size, 0, none⟩) [49, 50, 51, 52, 53, 54, 55, 56, 57] := Nums.new w .u8 [49, 50, 51, 52, 53, 54, 55, 56, 57] _ _
theorem nums_4 (w : World) : Nums .u8 (w.alloc (.cells #[.int .u8 49, .int .u8 50, .int .u8 51, .int .u8 52] 5 (4, 5))) (w.heap.size + 1) (some ⟨w.heap.size, 0, none⟩) [49, 50, 51, 52] := Nums.new w .u8 [49, 50, 51, 52] _ _
theorem nums_2 (w : World) : Nums .u16 (w.alloc (.cells #[.int .u16 12594, .int .u16 13108] 36)) (w.heap.size + 1) (some ⟨w.heap.size, 0, none⟩) [12594, 13108] := Nums.new w .u16 [12594, 13108] _ _
theorem sum_9 : Crc.bytes [49, 50, 51, 52, 53, 54, 55, 56, 57] = 3421780262 := by decide +kernel
theorem sum_4 : Crc.bytes [49, 50, 51, 52] = 2615402659 := by decide +kernel
theorem sum_0 : Crc.bytes [] = 0 := by decide +kernel
theorem sum_2 : Crc.bytes (packRegs [12594, 13108]) = 2615402659 := by decide +kernel

set_option maxHeartbeats 1000000 in
theorem awake_any (w : World) : Calls Tryd.prog 6 #[] w fun e w' => e = .returned (.bool true) ∧ Below w.heap.size w w' := by
  have kc := fun (w : World) (C : Array Value) (n c : Nat) => Lib.run_convert_bytes_const (P := Tryd.prog) w 23 5 C n c Tryd.underlying23 Tryd.underlying5
  go_enter Tryd.func6, Tryd.ntmps6
  go_wp2_with fail
  refine (forget (bytes_any _ _ [49, 50, 51, 52, 53, 54, 55, 56, 57] _ _ (nums_9 w) (by decide) (by decide))).mono ?_
  rintro e w1 ⟨rfl, hb1⟩
  replace hb1 := below_new hb1
  rw [sum_9]
  go_wp2_with fail
  refine (bytes_any none 0 [] 0 _ Nums.nil (by simp) (by decide)).mono ?_
  rintro e w' ⟨rfl, rfl⟩
  rw [sum_0]
  go_wp2_with fail
  refine (words_any _ _ [12594, 13108] _ (by simpa using nums_2 w1) (by decide) (by decide)).mono ?_
  rintro e w2 ⟨rfl, hb2⟩
  replace hb2 := below_step hb1 (Nat.le_refl _) (below_new hb2)
  clear hb1
  rw [sum_2]
  go_wp2_with fail
  refine (forget (bytes_any _ _ [49, 50, 51, 52] _ _ (nums_4 w2) (by decide) (by decide))).mono ?_
  rintro e w3 ⟨rfl, hb3⟩
  replace hb3 := below_step hb2 (Nat.le_refl _) (below_new hb3)
  clear hb2
  rw [sum_4]
  go_wp2_with fail
  refine (forget (bytes_any _ _ [49, 50, 51, 52] _ _ (nums_4 w3) (by decide) (by decide))).mono ?_
  rintro e w4 ⟨rfl, hb4⟩
  replace hb4 := below_step hb3 (Nat.le_refl _) (below_new hb4)
  clear hb3
  rw [sum_4]
  go_wp2
  go_ret
  exact ⟨rfl, hb4⟩
end Go.Proofs.YthnfigdeppncdaaDoor
