/- Layer 15: math/bits: Mul64, Len64, LeadingZeros64. -/
import Derived.Test.YthhokpaidekmnaaVdUn
import Derived.Shelf.Bits.Mul64
import Derived.Lib.Strings
import Derived.Lib.Walk
import Derived.Lib.BitFns
namespace Go.Proofs.Ythhokpaidekmnaa
open Go.RowKit Go.Lib
set_option linter.unusedVariables false
set_option linter.unusedSimpArgs false
set_option maxHeartbeats 1000000 in
theorem mul64_any (x y : Nat) (hx : x < 18446744073709551616) (hy : y < 18446744073709551616) (w : World) :
  Calls Try.prog 54 #[.int .u64 (x : Int), .int .u64 (y : Int)] w fun e w' => e = .returned (.tuple #[.int .u64 ((x * y / 18446744073709551616 : Nat) : Int), .int .u64 ((x * y % 18446744073709551616 : Nat) : Int)]) ∧ w = w' := by
 obtain ⟨bd, bt, bw, hhi⟩ := Lib.mul64_hi x y hx hy
 have ba := Lib.half_mul_le (a := x / 4294967296) (b := y / 4294967296) (by omega) (by omega)
 have bb := Lib.half_mul_le (a := x / 4294967296) (b := y % 4294967296) (by omega) (by omega)
 have bc := Lib.half_mul_le (a := x % 4294967296) (b := y / 4294967296) (by omega) (by omega)
 have ba' : x / 4294967296 * (y / 4294967296) < 18446744073709551616 := by omega
 have bb' : x / 4294967296 * (y % 4294967296) < 18446744073709551616 := by omega
 have bc' : x % 4294967296 * (y / 4294967296) < 18446744073709551616 := by omega
 have bh1 : x / 4294967296 * (y / 4294967296) + (x / 4294967296 * (y % 4294967296) + x % 4294967296 * (y % 4294967296) / 4294967296) / 4294967296 < 18446744073709551616 := by omega
 have bh : x / 4294967296 * (y / 4294967296) + (x / 4294967296 * (y % 4294967296) + x % 4294967296 * (y % 4294967296) / 4294967296) / 4294967296 + ((x / 4294967296 * (y % 4294967296) + x % 4294967296 * (y % 4294967296) / 4294967296) % 4294967296 + x % 4294967296 * (y / 4294967296)) / 4294967296 < 18446744073709551616 := by omega
 go_enter Try.func54, Try.ntmps54
 go_wp2
 simp only [Mul64.maskN x hx, Mul64.maskN y hy, Mul64.divN, Mul64.mulN, Mul64.addN, Mul64.wrapN _ bd, Mul64.wrapN _ bb', Mul64.wrapN _ bt, Mul64.maskN _ bt, Mul64.wrapN _ bc', Mul64.wrapN _ bw, Mul64.wrapN _ ba', Mul64.wrapN _ bh1, Mul64.wrapN _ bh, Mul64.wrapM (x * y)]
 rw [hhi]
 go_ret2
 exact ⟨rfl, rfl⟩
theorem tab_all : ∀ j : Fin 256, ((Lib.len8tab[j.val]?).getD 0).toNat = Go.bitLen j.val := by decide +kernel
theorem tab_get (y : Nat) (hy : y < 256) (c : Nat) (hc : Go.bitLen y = c) : ∃ h : y < Lib.len8tab.size, (Lib.len8tab[y]'h).toNat = c := by
 have hs : y < Lib.len8tab.size := by rw [Lib.len8tab_size]; exact hy
 refine ⟨hs, ?_⟩
 have h := tab_all ⟨y, hy⟩
 dsimp only at h
 rw [getElem?_pos Lib.len8tab y hs, Option.getD_some, hc] at h
 exact h
set_option maxHeartbeats 400000 in
set_option maxRecDepth 1000000 in
theorem len64_any (x b : Nat) (w : World) (h1 : x < 4294967296) (hb : Go.bitLen x = b) :
  Calls Try.prog 66 #[.int .u64 (x : Int)] w fun e w' => e = .returned (.int .i64 (b : Int)) ∧ w = w' := by
 have g1 : decide ((4294967296 : Int) ≤ (x : Int)) = false := decide_eq_false (by omega)
 have tab : ∀ y, y < 256 → ∀ c, Go.bitLen y = c → ∃ h : y < len8tab.size, (len8tab[y]'h).toNat = c := fun y hy c hc => tab_get y hy c hc
 have sh : ∀ y k, 2 ^ k ≤ y → Go.bitLen y = k + Go.bitLen (y / 2 ^ k) := fun y k h => bitLen_shift y k (by have := Nat.div_pos h (Nat.two_pow_pos k); omega)
 have l8 : ∀ y, y < 256 → Go.bitLen y ≤ 8 := fun y hy => bitLen_le8 y hy
 by_cases h2 : 65536 ≤ x
 ·have g2 : decide ((65536 : Int) ≤ (x : Int)) = true := decide_eq_true (by omega)
  obtain ⟨x1, hx1⟩ : ∃ x1, x / 65536 = x1 := ⟨_, rfl⟩
  have e1 : (x : Int) / 65536 = (x1 : Int) := by omega
  have s1 := sh x 16 h2
  rw [show x / 2 ^ 16 = x1 from hx1, hb] at s1
  by_cases h3 : 256 ≤ x1
  ·have g3 : decide ((256 : Int) ≤ (x1 : Int)) = true := decide_eq_true (by omega)
   obtain ⟨x2, hx2⟩ : ∃ x2, x1 / 256 = x2 := ⟨_, rfl⟩
   have e2 : (x1 : Int) / 256 = (x2 : Int) := by omega
   have e3 : IntKind.u8.wrap (x2 : Int) = (x2 : Int) := by simp [IntKind.wrap, IntKind.bits, IntKind.signed]; omega
   obtain ⟨c, hc⟩ : ∃ c, Go.bitLen x2 = c := ⟨_, rfl⟩
   have s2 := sh x1 8 h3
   rw [show x1 / 2 ^ 8 = x2 from hx2, hc] at s2
   have hc8 := l8 x2 (by omega)
   rw [hc] at hc8
   have htab := Lib.hid (tab x2 (by omega) c hc)
   have q1 : (24 : Int) + (c : Int) = (b : Int) := by omega
   have q2 : wrap64 (b : Int) = (b : Int) := IntWalk.wrap64_in _ (by omega)
   have Q1 := Lib.hid q1
   have Q2 := Lib.hid q2
   clear q1 q2
   clear hb s1 s2 hc hx1 hx2 tab sh l8 h2 h3
   have w1 : wrap64 (c : Int) = (c : Int) := IntWalk.wrap64_in _ (by omega)
   have W1 := Lib.hid w1
   clear w1
   go_enter Try.func66, Try.ntmps66
   go_wp2
   rotate_left
   ·rename_i hno
    exact absurd htab.out.1 hno
   ·go_ret
    refine ⟨congrArg Ending.returned (congrArg (Value.int IntKind.i64) ?_), rfl⟩
    obtain ⟨hz, ht⟩ := htab.out
    try rw [ht]
    try rw [W1.out]
    try rw [Q1.out]
    try rw [Q2.out]
    try rw [W1.out]
  ·have g3 : decide ((256 : Int) ≤ (x1 : Int)) = false := decide_eq_false (by omega)
   have e3 : IntKind.u8.wrap (x1 : Int) = (x1 : Int) := by simp [IntKind.wrap, IntKind.bits, IntKind.signed]; omega
   obtain ⟨c, hc⟩ : ∃ c, Go.bitLen x1 = c := ⟨_, rfl⟩
   rw [hc] at s1
   have hc8 := l8 x1 (by omega)
   rw [hc] at hc8
   have htab := Lib.hid (tab x1 (by omega) c hc)
   have q1 : (16 : Int) + (c : Int) = (b : Int) := by omega
   have q2 : wrap64 (b : Int) = (b : Int) := IntWalk.wrap64_in _ (by omega)
   have Q1 := Lib.hid q1
   have Q2 := Lib.hid q2
   clear q1 q2
   clear hb s1 hc hx1 tab sh l8 h2 h3
   have w1 : wrap64 (c : Int) = (c : Int) := IntWalk.wrap64_in _ (by omega)
   have W1 := Lib.hid w1
   clear w1
   go_enter Try.func66, Try.ntmps66
   go_wp2
   rotate_left
   ·rename_i hno
    exact absurd htab.out.1 hno
   ·go_ret
    refine ⟨congrArg Ending.returned (congrArg (Value.int IntKind.i64) ?_), rfl⟩
    obtain ⟨hz, ht⟩ := htab.out
    try rw [ht]
    try rw [W1.out]
    try rw [Q1.out]
    try rw [Q2.out]
    try rw [W1.out]
 ·have g2 : decide ((65536 : Int) ≤ (x : Int)) = false := decide_eq_false (by omega)
  by_cases h3 : 256 ≤ x
  ·have g3 : decide ((256 : Int) ≤ (x : Int)) = true := decide_eq_true (by omega)
   obtain ⟨x2, hx2⟩ : ∃ x2, x / 256 = x2 := ⟨_, rfl⟩
   have e2 : (x : Int) / 256 = (x2 : Int) := by omega
   have e3 : IntKind.u8.wrap (x2 : Int) = (x2 : Int) := by simp [IntKind.wrap, IntKind.bits, IntKind.signed]; omega
   obtain ⟨c, hc⟩ : ∃ c, Go.bitLen x2 = c := ⟨_, rfl⟩
   have s2 := sh x 8 h3
   rw [show x / 2 ^ 8 = x2 from hx2, hc, hb] at s2
   have hc8 := l8 x2 (by omega)
   rw [hc] at hc8
   have htab := Lib.hid (tab x2 (by omega) c hc)
   have q1 : (8 : Int) + (c : Int) = (b : Int) := by omega
   have q2 : wrap64 (b : Int) = (b : Int) := IntWalk.wrap64_in _ (by omega)
   have Q1 := Lib.hid q1
   have Q2 := Lib.hid q2
   clear q1 q2
   clear hb s2 hc hx2 tab sh l8 h2 h3
   have w1 : wrap64 (c : Int) = (c : Int) := IntWalk.wrap64_in _ (by omega)
   have W1 := Lib.hid w1
   clear w1
   go_enter Try.func66, Try.ntmps66
   go_wp2
   rotate_left
   ·rename_i hno
    exact absurd htab.out.1 hno
   ·go_ret
    refine ⟨congrArg Ending.returned (congrArg (Value.int IntKind.i64) ?_), rfl⟩
    obtain ⟨hz, ht⟩ := htab.out
    try rw [ht]
    try rw [W1.out]
    try rw [Q1.out]
    try rw [Q2.out]
    try rw [W1.out]
  ·have g3 : decide ((256 : Int) ≤ (x : Int)) = false := decide_eq_false (by omega)
   have e3 : IntKind.u8.wrap (x : Int) = (x : Int) := by simp [IntKind.wrap, IntKind.bits, IntKind.signed]; omega
   obtain ⟨c, hc⟩ : ∃ c, Go.bitLen x = c := ⟨_, rfl⟩
   obtain rfl : c = b := hc.symm.trans hb
   have hc8 := l8 x (by omega)
   rw [hc] at hc8
   have htab := Lib.hid (tab x (by omega) c hc)
   clear hb hc tab sh l8 h2 h3
   have w1 : wrap64 (c : Int) = (c : Int) := IntWalk.wrap64_in _ (by omega)
   have W1 := Lib.hid w1
   clear w1
   go_enter Try.func66, Try.ntmps66
   go_wp2
   rotate_left
   ·rename_i hno
    exact absurd htab.out.1 hno
   ·go_ret
    refine ⟨congrArg Ending.returned (congrArg (Value.int IntKind.i64) ?_), rfl⟩
    obtain ⟨hz, ht⟩ := htab.out
    try rw [ht]
    try rw [W1.out]
    try rw [Q1.out]
    try rw [Q2.out]
    try rw [W1.out]
theorem lz64_any (x b : Nat) (w : World) (h1 : x < 4294967296) (hb : Go.bitLen x + b = 64) :
  Calls Try.prog 61 #[.int .u64 (x : Int)] w fun e w' => e = .returned (.int .i64 (b : Int)) ∧ w = w' := by
 obtain ⟨c, hc⟩ : ∃ c, Go.bitLen x = c := ⟨_, rfl⟩
 have K := Lib.hid (fun w => len64_any x c w h1 hc)
 rw [hc] at hb
 have e7 : (64 : Int) - (c : Int) = (b : Int) := by omega
 have e8 : IntKind.i64.wrap (b : Int) = (b : Int) := IntWalk.i64_in _ (by omega)
 clear hb hc
 go_enter Try.func61, Try.ntmps61
 go_wp2_with fail
 (with_reducible refine (K.out _).mono ?_)
 rintro e9 w9 ⟨rfl, rfl⟩
 go_wp2
 go_ret
 exact ⟨rfl, rfl⟩
end Go.Proofs.Ythhokpaidekmnaa
