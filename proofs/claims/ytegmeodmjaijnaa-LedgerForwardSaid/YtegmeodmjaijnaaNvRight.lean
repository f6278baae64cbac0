/- Layer 10: Right. -/
import Derived.Test.YtegmeodmjaijnaaNvShape
namespace Go.Proofs.Ytegmeodmjaijnaa
open Go.RowKit
set_option linter.unusedVariables false
attribute [local go_sem] Later.cell Later.frozen setCell_twice
theorem right_is (x : Nr) : x.right = ((shp x.what).2.2.2 && ((shp x.what).1 == decide (0 < x.who)) && (!x.yes || (shp x.what).2.1) && (decide (x.text.length = 0) || ((shp x.what).2.2.1 && decide (x.text.length ≤ 8192)))) := by
  unfold Nr.right shp
  rw [Bool.eq_iff_iff]
  obtain ⟨what, tx, who, yes, text⟩ := x
  dsimp only
  generalize text.length = n
  by_cases a0 : n = 0 <;> by_cases a1 : 0 < who <;> by_cases a2 : n ≤ 8192 <;> by_cases h1 : what = 1 <;> by_cases h2 : what = 2 <;> by_cases h3 : what = 3 <;> by_cases h4 : what = 4 <;> cases yes <;> simp [a0, a1, a2, h1, h2, h3, h4] <;> omega
abbrev rcV (what tx who : Nat) (yes : Bool) (A : Option Addr) (n c : Nat) : List Value := [.int .u8 (what : Int), .int .u32 (tx : Int), .int .u8 (who : Int), .bool yes, .slice A n c]
set_option maxRecDepth 100000 in
set_option maxHeartbeats 4000000 in
theorem nright_go (what tx who n : Nat) (yes : Bool) (A : Option Addr) (c : Nat) (w : World) (sw sy st ok qw q0 q8 r : Bool) (hs : shp what = (sw, sy, st, ok)) (hqw : decide (0 < who) = qw) (hq0 : decide (n = 0) = q0) (hq8 : decide (n ≤ 8192) = q8) (hr : r = (ok && (sw == qw) && (!yes || sy) && (q0 || (st && q8)))) :
    Calls Try.prog 38 #[.agg (rcV what tx who yes A n c).toArray] w fun e w' => e = .returned (.bool r) ∧ Below w.heap.size w w' := by
  have KS := Lib.hid (fun w => shape_any what w)
  have HS := Lib.hid hs
  have g0 : ((n : Int) == 0) = q0 := by rw [← hq0, Bool.eq_iff_iff]; simp
  have g8 : decide ((n : Int) ≤ 8192) = q8 := by rw [← hq8, Bool.eq_iff_iff]; simp; omega
  subst hr
  clear hs hq0 hq8
  cases ok
  · go_enter Try.func38, Try.ntmps38
    go_wp2_with fail
    refine (KS.out _).mono ?_
    rintro e w1 ⟨rfl, b1⟩
    have R1 := Lib.hid ((RowAt.new' w w.heap.size 31 (rcV what tx who _ A n c) rfl).to b1)
    have BE := Lib.hid ((bel_alloc (Below.refl w.heap.size w) (.cells (rcV what tx who _ A n c).toArray 31)).trans (b1.mono (by simp)))
    simp only [shpV, HS.out]
    clear b1
    have rclt : w.heap.size < (w1).heap.size := R1.out.lt
    have rclu : w.heap.size < (w1).heap.size + 1 := Nat.lt_succ_of_lt R1.out.lt
    have rc0 : (w1).cell? ⟨w.heap.size, 0, none⟩ = some (.int .u8 (what : Int)) := R1.out.cells 0
    have rcz0 : (w1).frozen? ⟨w.heap.size, 0, none⟩ = false := R1.out.frozen 0
    have rc1 : (w1).cell? ⟨w.heap.size, 1, none⟩ = some (.int .u32 (tx : Int)) := R1.out.cells 1
    have rcz1 : (w1).frozen? ⟨w.heap.size, 1, none⟩ = false := R1.out.frozen 1
    have rc2 : (w1).cell? ⟨w.heap.size, 2, none⟩ = some (.int .u8 (who : Int)) := R1.out.cells 2
    have rcz2 : (w1).frozen? ⟨w.heap.size, 2, none⟩ = false := R1.out.frozen 2
    have rc3 : (w1).cell? ⟨w.heap.size, 3, none⟩ = some (.bool _) := R1.out.cells 3
    have rcz3 : (w1).frozen? ⟨w.heap.size, 3, none⟩ = false := R1.out.frozen 3
    have rc4 : (w1).cell? ⟨w.heap.size, 4, none⟩ = some (.slice A n c) := R1.out.cells 4
    have rcz4 : (w1).frozen? ⟨w.heap.size, 4, none⟩ = false := R1.out.frozen 4
    go_wp2
    go_ret
    exact ⟨by simp, bel_alloc BE.out _⟩
  · cases sw
    · cases qw
      · cases yes
        · cases q0
          · cases st
            · go_enter Try.func38, Try.ntmps38
              go_wp2_with fail
              refine (KS.out _).mono ?_
              rintro e w1 ⟨rfl, b1⟩
              have R1 := Lib.hid ((RowAt.new' w w.heap.size 31 (rcV what tx who _ A n c) rfl).to b1)
              have BE := Lib.hid ((bel_alloc (Below.refl w.heap.size w) (.cells (rcV what tx who _ A n c).toArray 31)).trans (b1.mono (by simp)))
              simp only [shpV, HS.out]
              clear b1
              have rclt : w.heap.size < (w1).heap.size := R1.out.lt
              have rclu : w.heap.size < (w1).heap.size + 1 := Nat.lt_succ_of_lt R1.out.lt
              have rc0 : (w1).cell? ⟨w.heap.size, 0, none⟩ = some (.int .u8 (what : Int)) := R1.out.cells 0
              have rcz0 : (w1).frozen? ⟨w.heap.size, 0, none⟩ = false := R1.out.frozen 0
              have rc1 : (w1).cell? ⟨w.heap.size, 1, none⟩ = some (.int .u32 (tx : Int)) := R1.out.cells 1
              have rcz1 : (w1).frozen? ⟨w.heap.size, 1, none⟩ = false := R1.out.frozen 1
              have rc2 : (w1).cell? ⟨w.heap.size, 2, none⟩ = some (.int .u8 (who : Int)) := R1.out.cells 2
              have rcz2 : (w1).frozen? ⟨w.heap.size, 2, none⟩ = false := R1.out.frozen 2
              have rc3 : (w1).cell? ⟨w.heap.size, 3, none⟩ = some (.bool _) := R1.out.cells 3
              have rcz3 : (w1).frozen? ⟨w.heap.size, 3, none⟩ = false := R1.out.frozen 3
              have rc4 : (w1).cell? ⟨w.heap.size, 4, none⟩ = some (.slice A n c) := R1.out.cells 4
              have rcz4 : (w1).frozen? ⟨w.heap.size, 4, none⟩ = false := R1.out.frozen 4
              go_wp2
              go_ret
              exact ⟨by simp, bel_alloc BE.out _⟩
            · cases q8
              · go_enter Try.func38, Try.ntmps38
                go_wp2_with fail
                refine (KS.out _).mono ?_
                rintro e w1 ⟨rfl, b1⟩
                have R1 := Lib.hid ((RowAt.new' w w.heap.size 31 (rcV what tx who _ A n c) rfl).to b1)
                have BE := Lib.hid ((bel_alloc (Below.refl w.heap.size w) (.cells (rcV what tx who _ A n c).toArray 31)).trans (b1.mono (by simp)))
                simp only [shpV, HS.out]
                clear b1
                have rclt : w.heap.size < (w1).heap.size := R1.out.lt
                have rclu : w.heap.size < (w1).heap.size + 1 := Nat.lt_succ_of_lt R1.out.lt
                have rc0 : (w1).cell? ⟨w.heap.size, 0, none⟩ = some (.int .u8 (what : Int)) := R1.out.cells 0
                have rcz0 : (w1).frozen? ⟨w.heap.size, 0, none⟩ = false := R1.out.frozen 0
                have rc1 : (w1).cell? ⟨w.heap.size, 1, none⟩ = some (.int .u32 (tx : Int)) := R1.out.cells 1
                have rcz1 : (w1).frozen? ⟨w.heap.size, 1, none⟩ = false := R1.out.frozen 1
                have rc2 : (w1).cell? ⟨w.heap.size, 2, none⟩ = some (.int .u8 (who : Int)) := R1.out.cells 2
                have rcz2 : (w1).frozen? ⟨w.heap.size, 2, none⟩ = false := R1.out.frozen 2
                have rc3 : (w1).cell? ⟨w.heap.size, 3, none⟩ = some (.bool _) := R1.out.cells 3
                have rcz3 : (w1).frozen? ⟨w.heap.size, 3, none⟩ = false := R1.out.frozen 3
                have rc4 : (w1).cell? ⟨w.heap.size, 4, none⟩ = some (.slice A n c) := R1.out.cells 4
                have rcz4 : (w1).frozen? ⟨w.heap.size, 4, none⟩ = false := R1.out.frozen 4
                go_wp2
                go_ret
                exact ⟨by simp, bel_alloc BE.out _⟩
              · go_enter Try.func38, Try.ntmps38
                go_wp2_with fail
                refine (KS.out _).mono ?_
                rintro e w1 ⟨rfl, b1⟩
                have R1 := Lib.hid ((RowAt.new' w w.heap.size 31 (rcV what tx who _ A n c) rfl).to b1)
                have BE := Lib.hid ((bel_alloc (Below.refl w.heap.size w) (.cells (rcV what tx who _ A n c).toArray 31)).trans (b1.mono (by simp)))
                simp only [shpV, HS.out]
                clear b1
                have rclt : w.heap.size < (w1).heap.size := R1.out.lt
                have rclu : w.heap.size < (w1).heap.size + 1 := Nat.lt_succ_of_lt R1.out.lt
                have rc0 : (w1).cell? ⟨w.heap.size, 0, none⟩ = some (.int .u8 (what : Int)) := R1.out.cells 0
                have rcz0 : (w1).frozen? ⟨w.heap.size, 0, none⟩ = false := R1.out.frozen 0
                have rc1 : (w1).cell? ⟨w.heap.size, 1, none⟩ = some (.int .u32 (tx : Int)) := R1.out.cells 1
                have rcz1 : (w1).frozen? ⟨w.heap.size, 1, none⟩ = false := R1.out.frozen 1
                have rc2 : (w1).cell? ⟨w.heap.size, 2, none⟩ = some (.int .u8 (who : Int)) := R1.out.cells 2
                have rcz2 : (w1).frozen? ⟨w.heap.size, 2, none⟩ = false := R1.out.frozen 2
                have rc3 : (w1).cell? ⟨w.heap.size, 3, none⟩ = some (.bool _) := R1.out.cells 3
                have rcz3 : (w1).frozen? ⟨w.heap.size, 3, none⟩ = false := R1.out.frozen 3
                have rc4 : (w1).cell? ⟨w.heap.size, 4, none⟩ = some (.slice A n c) := R1.out.cells 4
                have rcz4 : (w1).frozen? ⟨w.heap.size, 4, none⟩ = false := R1.out.frozen 4
                go_wp2
                go_ret
                exact ⟨by simp, bel_alloc BE.out _⟩
          · go_enter Try.func38, Try.ntmps38
            go_wp2_with fail
            refine (KS.out _).mono ?_
            rintro e w1 ⟨rfl, b1⟩
            have R1 := Lib.hid ((RowAt.new' w w.heap.size 31 (rcV what tx who _ A n c) rfl).to b1)
            have BE := Lib.hid ((bel_alloc (Below.refl w.heap.size w) (.cells (rcV what tx who _ A n c).toArray 31)).trans (b1.mono (by simp)))
            simp only [shpV, HS.out]
            clear b1
            have rclt : w.heap.size < (w1).heap.size := R1.out.lt
            have rclu : w.heap.size < (w1).heap.size + 1 := Nat.lt_succ_of_lt R1.out.lt
            have rc0 : (w1).cell? ⟨w.heap.size, 0, none⟩ = some (.int .u8 (what : Int)) := R1.out.cells 0
            have rcz0 : (w1).frozen? ⟨w.heap.size, 0, none⟩ = false := R1.out.frozen 0
            have rc1 : (w1).cell? ⟨w.heap.size, 1, none⟩ = some (.int .u32 (tx : Int)) := R1.out.cells 1
            have rcz1 : (w1).frozen? ⟨w.heap.size, 1, none⟩ = false := R1.out.frozen 1
            have rc2 : (w1).cell? ⟨w.heap.size, 2, none⟩ = some (.int .u8 (who : Int)) := R1.out.cells 2
            have rcz2 : (w1).frozen? ⟨w.heap.size, 2, none⟩ = false := R1.out.frozen 2
            have rc3 : (w1).cell? ⟨w.heap.size, 3, none⟩ = some (.bool _) := R1.out.cells 3
            have rcz3 : (w1).frozen? ⟨w.heap.size, 3, none⟩ = false := R1.out.frozen 3
            have rc4 : (w1).cell? ⟨w.heap.size, 4, none⟩ = some (.slice A n c) := R1.out.cells 4
            have rcz4 : (w1).frozen? ⟨w.heap.size, 4, none⟩ = false := R1.out.frozen 4
            go_wp2
            go_ret
            exact ⟨by simp, bel_alloc BE.out _⟩
        · cases sy
          · go_enter Try.func38, Try.ntmps38
            go_wp2_with fail
            refine (KS.out _).mono ?_
            rintro e w1 ⟨rfl, b1⟩
            have R1 := Lib.hid ((RowAt.new' w w.heap.size 31 (rcV what tx who _ A n c) rfl).to b1)
            have BE := Lib.hid ((bel_alloc (Below.refl w.heap.size w) (.cells (rcV what tx who _ A n c).toArray 31)).trans (b1.mono (by simp)))
            simp only [shpV, HS.out]
            clear b1
            have rclt : w.heap.size < (w1).heap.size := R1.out.lt
            have rclu : w.heap.size < (w1).heap.size + 1 := Nat.lt_succ_of_lt R1.out.lt
            have rc0 : (w1).cell? ⟨w.heap.size, 0, none⟩ = some (.int .u8 (what : Int)) := R1.out.cells 0
            have rcz0 : (w1).frozen? ⟨w.heap.size, 0, none⟩ = false := R1.out.frozen 0
            have rc1 : (w1).cell? ⟨w.heap.size, 1, none⟩ = some (.int .u32 (tx : Int)) := R1.out.cells 1
            have rcz1 : (w1).frozen? ⟨w.heap.size, 1, none⟩ = false := R1.out.frozen 1
            have rc2 : (w1).cell? ⟨w.heap.size, 2, none⟩ = some (.int .u8 (who : Int)) := R1.out.cells 2
            have rcz2 : (w1).frozen? ⟨w.heap.size, 2, none⟩ = false := R1.out.frozen 2
            have rc3 : (w1).cell? ⟨w.heap.size, 3, none⟩ = some (.bool _) := R1.out.cells 3
            have rcz3 : (w1).frozen? ⟨w.heap.size, 3, none⟩ = false := R1.out.frozen 3
            have rc4 : (w1).cell? ⟨w.heap.size, 4, none⟩ = some (.slice A n c) := R1.out.cells 4
            have rcz4 : (w1).frozen? ⟨w.heap.size, 4, none⟩ = false := R1.out.frozen 4
            go_wp2
            go_ret
            exact ⟨by simp, bel_alloc BE.out _⟩
          · cases q0
            · cases st
              · go_enter Try.func38, Try.ntmps38
                go_wp2_with fail
                refine (KS.out _).mono ?_
                rintro e w1 ⟨rfl, b1⟩
                have R1 := Lib.hid ((RowAt.new' w w.heap.size 31 (rcV what tx who _ A n c) rfl).to b1)
                have BE := Lib.hid ((bel_alloc (Below.refl w.heap.size w) (.cells (rcV what tx who _ A n c).toArray 31)).trans (b1.mono (by simp)))
                simp only [shpV, HS.out]
                clear b1
                have rclt : w.heap.size < (w1).heap.size := R1.out.lt
                have rclu : w.heap.size < (w1).heap.size + 1 := Nat.lt_succ_of_lt R1.out.lt
                have rc0 : (w1).cell? ⟨w.heap.size, 0, none⟩ = some (.int .u8 (what : Int)) := R1.out.cells 0
                have rcz0 : (w1).frozen? ⟨w.heap.size, 0, none⟩ = false := R1.out.frozen 0
                have rc1 : (w1).cell? ⟨w.heap.size, 1, none⟩ = some (.int .u32 (tx : Int)) := R1.out.cells 1
                have rcz1 : (w1).frozen? ⟨w.heap.size, 1, none⟩ = false := R1.out.frozen 1
                have rc2 : (w1).cell? ⟨w.heap.size, 2, none⟩ = some (.int .u8 (who : Int)) := R1.out.cells 2
                have rcz2 : (w1).frozen? ⟨w.heap.size, 2, none⟩ = false := R1.out.frozen 2
                have rc3 : (w1).cell? ⟨w.heap.size, 3, none⟩ = some (.bool _) := R1.out.cells 3
                have rcz3 : (w1).frozen? ⟨w.heap.size, 3, none⟩ = false := R1.out.frozen 3
                have rc4 : (w1).cell? ⟨w.heap.size, 4, none⟩ = some (.slice A n c) := R1.out.cells 4
                have rcz4 : (w1).frozen? ⟨w.heap.size, 4, none⟩ = false := R1.out.frozen 4
                go_wp2
                go_ret
                exact ⟨by simp, bel_alloc BE.out _⟩
              · cases q8
                · go_enter Try.func38, Try.ntmps38
                  go_wp2_with fail
                  refine (KS.out _).mono ?_
                  rintro e w1 ⟨rfl, b1⟩
                  have R1 := Lib.hid ((RowAt.new' w w.heap.size 31 (rcV what tx who _ A n c) rfl).to b1)
                  have BE := Lib.hid ((bel_alloc (Below.refl w.heap.size w) (.cells (rcV what tx who _ A n c).toArray 31)).trans (b1.mono (by simp)))
                  simp only [shpV, HS.out]
                  clear b1
                  have rclt : w.heap.size < (w1).heap.size := R1.out.lt
                  have rclu : w.heap.size < (w1).heap.size + 1 := Nat.lt_succ_of_lt R1.out.lt
                  have rc0 : (w1).cell? ⟨w.heap.size, 0, none⟩ = some (.int .u8 (what : Int)) := R1.out.cells 0
                  have rcz0 : (w1).frozen? ⟨w.heap.size, 0, none⟩ = false := R1.out.frozen 0
                  have rc1 : (w1).cell? ⟨w.heap.size, 1, none⟩ = some (.int .u32 (tx : Int)) := R1.out.cells 1
                  have rcz1 : (w1).frozen? ⟨w.heap.size, 1, none⟩ = false := R1.out.frozen 1
                  have rc2 : (w1).cell? ⟨w.heap.size, 2, none⟩ = some (.int .u8 (who : Int)) := R1.out.cells 2
                  have rcz2 : (w1).frozen? ⟨w.heap.size, 2, none⟩ = false := R1.out.frozen 2
                  have rc3 : (w1).cell? ⟨w.heap.size, 3, none⟩ = some (.bool _) := R1.out.cells 3
                  have rcz3 : (w1).frozen? ⟨w.heap.size, 3, none⟩ = false := R1.out.frozen 3
                  have rc4 : (w1).cell? ⟨w.heap.size, 4, none⟩ = some (.slice A n c) := R1.out.cells 4
                  have rcz4 : (w1).frozen? ⟨w.heap.size, 4, none⟩ = false := R1.out.frozen 4
                  go_wp2
                  go_ret
                  exact ⟨by simp, bel_alloc BE.out _⟩
                · go_enter Try.func38, Try.ntmps38
                  go_wp2_with fail
                  refine (KS.out _).mono ?_
                  rintro e w1 ⟨rfl, b1⟩
                  have R1 := Lib.hid ((RowAt.new' w w.heap.size 31 (rcV what tx who _ A n c) rfl).to b1)
                  have BE := Lib.hid ((bel_alloc (Below.refl w.heap.size w) (.cells (rcV what tx who _ A n c).toArray 31)).trans (b1.mono (by simp)))
                  simp only [shpV, HS.out]
                  clear b1
                  have rclt : w.heap.size < (w1).heap.size := R1.out.lt
                  have rclu : w.heap.size < (w1).heap.size + 1 := Nat.lt_succ_of_lt R1.out.lt
                  have rc0 : (w1).cell? ⟨w.heap.size, 0, none⟩ = some (.int .u8 (what : Int)) := R1.out.cells 0
                  have rcz0 : (w1).frozen? ⟨w.heap.size, 0, none⟩ = false := R1.out.frozen 0
                  have rc1 : (w1).cell? ⟨w.heap.size, 1, none⟩ = some (.int .u32 (tx : Int)) := R1.out.cells 1
                  have rcz1 : (w1).frozen? ⟨w.heap.size, 1, none⟩ = false := R1.out.frozen 1
                  have rc2 : (w1).cell? ⟨w.heap.size, 2, none⟩ = some (.int .u8 (who : Int)) := R1.out.cells 2
                  have rcz2 : (w1).frozen? ⟨w.heap.size, 2, none⟩ = false := R1.out.frozen 2
                  have rc3 : (w1).cell? ⟨w.heap.size, 3, none⟩ = some (.bool _) := R1.out.cells 3
                  have rcz3 : (w1).frozen? ⟨w.heap.size, 3, none⟩ = false := R1.out.frozen 3
                  have rc4 : (w1).cell? ⟨w.heap.size, 4, none⟩ = some (.slice A n c) := R1.out.cells 4
                  have rcz4 : (w1).frozen? ⟨w.heap.size, 4, none⟩ = false := R1.out.frozen 4
                  go_wp2
                  go_ret
                  exact ⟨by simp, bel_alloc BE.out _⟩
            · go_enter Try.func38, Try.ntmps38
              go_wp2_with fail
              refine (KS.out _).mono ?_
              rintro e w1 ⟨rfl, b1⟩
              have R1 := Lib.hid ((RowAt.new' w w.heap.size 31 (rcV what tx who _ A n c) rfl).to b1)
              have BE := Lib.hid ((bel_alloc (Below.refl w.heap.size w) (.cells (rcV what tx who _ A n c).toArray 31)).trans (b1.mono (by simp)))
              simp only [shpV, HS.out]
              clear b1
              have rclt : w.heap.size < (w1).heap.size := R1.out.lt
              have rclu : w.heap.size < (w1).heap.size + 1 := Nat.lt_succ_of_lt R1.out.lt
              have rc0 : (w1).cell? ⟨w.heap.size, 0, none⟩ = some (.int .u8 (what : Int)) := R1.out.cells 0
              have rcz0 : (w1).frozen? ⟨w.heap.size, 0, none⟩ = false := R1.out.frozen 0
              have rc1 : (w1).cell? ⟨w.heap.size, 1, none⟩ = some (.int .u32 (tx : Int)) := R1.out.cells 1
              have rcz1 : (w1).frozen? ⟨w.heap.size, 1, none⟩ = false := R1.out.frozen 1
              have rc2 : (w1).cell? ⟨w.heap.size, 2, none⟩ = some (.int .u8 (who : Int)) := R1.out.cells 2
              have rcz2 : (w1).frozen? ⟨w.heap.size, 2, none⟩ = false := R1.out.frozen 2
              have rc3 : (w1).cell? ⟨w.heap.size, 3, none⟩ = some (.bool _) := R1.out.cells 3
              have rcz3 : (w1).frozen? ⟨w.heap.size, 3, none⟩ = false := R1.out.frozen 3
              have rc4 : (w1).cell? ⟨w.heap.size, 4, none⟩ = some (.slice A n c) := R1.out.cells 4
              have rcz4 : (w1).frozen? ⟨w.heap.size, 4, none⟩ = false := R1.out.frozen 4
              go_wp2
              go_ret
              exact ⟨by simp, bel_alloc BE.out _⟩
      · go_enter Try.func38, Try.ntmps38
        go_wp2_with fail
        refine (KS.out _).mono ?_
        rintro e w1 ⟨rfl, b1⟩
        have R1 := Lib.hid ((RowAt.new' w w.heap.size 31 (rcV what tx who _ A n c) rfl).to b1)
        have BE := Lib.hid ((bel_alloc (Below.refl w.heap.size w) (.cells (rcV what tx who _ A n c).toArray 31)).trans (b1.mono (by simp)))
        simp only [shpV, HS.out]
        clear b1
        have rclt : w.heap.size < (w1).heap.size := R1.out.lt
        have rclu : w.heap.size < (w1).heap.size + 1 := Nat.lt_succ_of_lt R1.out.lt
        have rc0 : (w1).cell? ⟨w.heap.size, 0, none⟩ = some (.int .u8 (what : Int)) := R1.out.cells 0
        have rcz0 : (w1).frozen? ⟨w.heap.size, 0, none⟩ = false := R1.out.frozen 0
        have rc1 : (w1).cell? ⟨w.heap.size, 1, none⟩ = some (.int .u32 (tx : Int)) := R1.out.cells 1
        have rcz1 : (w1).frozen? ⟨w.heap.size, 1, none⟩ = false := R1.out.frozen 1
        have rc2 : (w1).cell? ⟨w.heap.size, 2, none⟩ = some (.int .u8 (who : Int)) := R1.out.cells 2
        have rcz2 : (w1).frozen? ⟨w.heap.size, 2, none⟩ = false := R1.out.frozen 2
        have rc3 : (w1).cell? ⟨w.heap.size, 3, none⟩ = some (.bool _) := R1.out.cells 3
        have rcz3 : (w1).frozen? ⟨w.heap.size, 3, none⟩ = false := R1.out.frozen 3
        have rc4 : (w1).cell? ⟨w.heap.size, 4, none⟩ = some (.slice A n c) := R1.out.cells 4
        have rcz4 : (w1).frozen? ⟨w.heap.size, 4, none⟩ = false := R1.out.frozen 4
        go_wp2
        go_ret
        exact ⟨by simp, bel_alloc BE.out _⟩
    · cases qw
      · go_enter Try.func38, Try.ntmps38
        go_wp2_with fail
        refine (KS.out _).mono ?_
        rintro e w1 ⟨rfl, b1⟩
        have R1 := Lib.hid ((RowAt.new' w w.heap.size 31 (rcV what tx who _ A n c) rfl).to b1)
        have BE := Lib.hid ((bel_alloc (Below.refl w.heap.size w) (.cells (rcV what tx who _ A n c).toArray 31)).trans (b1.mono (by simp)))
        simp only [shpV, HS.out]
        clear b1
        have rclt : w.heap.size < (w1).heap.size := R1.out.lt
        have rclu : w.heap.size < (w1).heap.size + 1 := Nat.lt_succ_of_lt R1.out.lt
        have rc0 : (w1).cell? ⟨w.heap.size, 0, none⟩ = some (.int .u8 (what : Int)) := R1.out.cells 0
        have rcz0 : (w1).frozen? ⟨w.heap.size, 0, none⟩ = false := R1.out.frozen 0
        have rc1 : (w1).cell? ⟨w.heap.size, 1, none⟩ = some (.int .u32 (tx : Int)) := R1.out.cells 1
        have rcz1 : (w1).frozen? ⟨w.heap.size, 1, none⟩ = false := R1.out.frozen 1
        have rc2 : (w1).cell? ⟨w.heap.size, 2, none⟩ = some (.int .u8 (who : Int)) := R1.out.cells 2
        have rcz2 : (w1).frozen? ⟨w.heap.size, 2, none⟩ = false := R1.out.frozen 2
        have rc3 : (w1).cell? ⟨w.heap.size, 3, none⟩ = some (.bool _) := R1.out.cells 3
        have rcz3 : (w1).frozen? ⟨w.heap.size, 3, none⟩ = false := R1.out.frozen 3
        have rc4 : (w1).cell? ⟨w.heap.size, 4, none⟩ = some (.slice A n c) := R1.out.cells 4
        have rcz4 : (w1).frozen? ⟨w.heap.size, 4, none⟩ = false := R1.out.frozen 4
        go_wp2
        go_ret
        exact ⟨by simp, bel_alloc BE.out _⟩
      · cases yes
        · cases q0
          · cases st
            · go_enter Try.func38, Try.ntmps38
              go_wp2_with fail
              refine (KS.out _).mono ?_
              rintro e w1 ⟨rfl, b1⟩
              have R1 := Lib.hid ((RowAt.new' w w.heap.size 31 (rcV what tx who _ A n c) rfl).to b1)
              have BE := Lib.hid ((bel_alloc (Below.refl w.heap.size w) (.cells (rcV what tx who _ A n c).toArray 31)).trans (b1.mono (by simp)))
              simp only [shpV, HS.out]
              clear b1
              have rclt : w.heap.size < (w1).heap.size := R1.out.lt
              have rclu : w.heap.size < (w1).heap.size + 1 := Nat.lt_succ_of_lt R1.out.lt
              have rc0 : (w1).cell? ⟨w.heap.size, 0, none⟩ = some (.int .u8 (what : Int)) := R1.out.cells 0
              have rcz0 : (w1).frozen? ⟨w.heap.size, 0, none⟩ = false := R1.out.frozen 0
              have rc1 : (w1).cell? ⟨w.heap.size, 1, none⟩ = some (.int .u32 (tx : Int)) := R1.out.cells 1
              have rcz1 : (w1).frozen? ⟨w.heap.size, 1, none⟩ = false := R1.out.frozen 1
              have rc2 : (w1).cell? ⟨w.heap.size, 2, none⟩ = some (.int .u8 (who : Int)) := R1.out.cells 2
              have rcz2 : (w1).frozen? ⟨w.heap.size, 2, none⟩ = false := R1.out.frozen 2
              have rc3 : (w1).cell? ⟨w.heap.size, 3, none⟩ = some (.bool _) := R1.out.cells 3
              have rcz3 : (w1).frozen? ⟨w.heap.size, 3, none⟩ = false := R1.out.frozen 3
              have rc4 : (w1).cell? ⟨w.heap.size, 4, none⟩ = some (.slice A n c) := R1.out.cells 4
              have rcz4 : (w1).frozen? ⟨w.heap.size, 4, none⟩ = false := R1.out.frozen 4
              go_wp2
              go_ret
              exact ⟨by simp, bel_alloc BE.out _⟩
            · cases q8
              · go_enter Try.func38, Try.ntmps38
                go_wp2_with fail
                refine (KS.out _).mono ?_
                rintro e w1 ⟨rfl, b1⟩
                have R1 := Lib.hid ((RowAt.new' w w.heap.size 31 (rcV what tx who _ A n c) rfl).to b1)
                have BE := Lib.hid ((bel_alloc (Below.refl w.heap.size w) (.cells (rcV what tx who _ A n c).toArray 31)).trans (b1.mono (by simp)))
                simp only [shpV, HS.out]
                clear b1
                have rclt : w.heap.size < (w1).heap.size := R1.out.lt
                have rclu : w.heap.size < (w1).heap.size + 1 := Nat.lt_succ_of_lt R1.out.lt
                have rc0 : (w1).cell? ⟨w.heap.size, 0, none⟩ = some (.int .u8 (what : Int)) := R1.out.cells 0
                have rcz0 : (w1).frozen? ⟨w.heap.size, 0, none⟩ = false := R1.out.frozen 0
                have rc1 : (w1).cell? ⟨w.heap.size, 1, none⟩ = some (.int .u32 (tx : Int)) := R1.out.cells 1
                have rcz1 : (w1).frozen? ⟨w.heap.size, 1, none⟩ = false := R1.out.frozen 1
                have rc2 : (w1).cell? ⟨w.heap.size, 2, none⟩ = some (.int .u8 (who : Int)) := R1.out.cells 2
                have rcz2 : (w1).frozen? ⟨w.heap.size, 2, none⟩ = false := R1.out.frozen 2
                have rc3 : (w1).cell? ⟨w.heap.size, 3, none⟩ = some (.bool _) := R1.out.cells 3
                have rcz3 : (w1).frozen? ⟨w.heap.size, 3, none⟩ = false := R1.out.frozen 3
                have rc4 : (w1).cell? ⟨w.heap.size, 4, none⟩ = some (.slice A n c) := R1.out.cells 4
                have rcz4 : (w1).frozen? ⟨w.heap.size, 4, none⟩ = false := R1.out.frozen 4
                go_wp2
                go_ret
                exact ⟨by simp, bel_alloc BE.out _⟩
              · go_enter Try.func38, Try.ntmps38
                go_wp2_with fail
                refine (KS.out _).mono ?_
                rintro e w1 ⟨rfl, b1⟩
                have R1 := Lib.hid ((RowAt.new' w w.heap.size 31 (rcV what tx who _ A n c) rfl).to b1)
                have BE := Lib.hid ((bel_alloc (Below.refl w.heap.size w) (.cells (rcV what tx who _ A n c).toArray 31)).trans (b1.mono (by simp)))
                simp only [shpV, HS.out]
                clear b1
                have rclt : w.heap.size < (w1).heap.size := R1.out.lt
                have rclu : w.heap.size < (w1).heap.size + 1 := Nat.lt_succ_of_lt R1.out.lt
                have rc0 : (w1).cell? ⟨w.heap.size, 0, none⟩ = some (.int .u8 (what : Int)) := R1.out.cells 0
                have rcz0 : (w1).frozen? ⟨w.heap.size, 0, none⟩ = false := R1.out.frozen 0
                have rc1 : (w1).cell? ⟨w.heap.size, 1, none⟩ = some (.int .u32 (tx : Int)) := R1.out.cells 1
                have rcz1 : (w1).frozen? ⟨w.heap.size, 1, none⟩ = false := R1.out.frozen 1
                have rc2 : (w1).cell? ⟨w.heap.size, 2, none⟩ = some (.int .u8 (who : Int)) := R1.out.cells 2
                have rcz2 : (w1).frozen? ⟨w.heap.size, 2, none⟩ = false := R1.out.frozen 2
                have rc3 : (w1).cell? ⟨w.heap.size, 3, none⟩ = some (.bool _) := R1.out.cells 3
                have rcz3 : (w1).frozen? ⟨w.heap.size, 3, none⟩ = false := R1.out.frozen 3
                have rc4 : (w1).cell? ⟨w.heap.size, 4, none⟩ = some (.slice A n c) := R1.out.cells 4
                have rcz4 : (w1).frozen? ⟨w.heap.size, 4, none⟩ = false := R1.out.frozen 4
                go_wp2
                go_ret
                exact ⟨by simp, bel_alloc BE.out _⟩
          · go_enter Try.func38, Try.ntmps38
            go_wp2_with fail
            refine (KS.out _).mono ?_
            rintro e w1 ⟨rfl, b1⟩
            have R1 := Lib.hid ((RowAt.new' w w.heap.size 31 (rcV what tx who _ A n c) rfl).to b1)
            have BE := Lib.hid ((bel_alloc (Below.refl w.heap.size w) (.cells (rcV what tx who _ A n c).toArray 31)).trans (b1.mono (by simp)))
            simp only [shpV, HS.out]
            clear b1
            have rclt : w.heap.size < (w1).heap.size := R1.out.lt
            have rclu : w.heap.size < (w1).heap.size + 1 := Nat.lt_succ_of_lt R1.out.lt
            have rc0 : (w1).cell? ⟨w.heap.size, 0, none⟩ = some (.int .u8 (what : Int)) := R1.out.cells 0
            have rcz0 : (w1).frozen? ⟨w.heap.size, 0, none⟩ = false := R1.out.frozen 0
            have rc1 : (w1).cell? ⟨w.heap.size, 1, none⟩ = some (.int .u32 (tx : Int)) := R1.out.cells 1
            have rcz1 : (w1).frozen? ⟨w.heap.size, 1, none⟩ = false := R1.out.frozen 1
            have rc2 : (w1).cell? ⟨w.heap.size, 2, none⟩ = some (.int .u8 (who : Int)) := R1.out.cells 2
            have rcz2 : (w1).frozen? ⟨w.heap.size, 2, none⟩ = false := R1.out.frozen 2
            have rc3 : (w1).cell? ⟨w.heap.size, 3, none⟩ = some (.bool _) := R1.out.cells 3
            have rcz3 : (w1).frozen? ⟨w.heap.size, 3, none⟩ = false := R1.out.frozen 3
            have rc4 : (w1).cell? ⟨w.heap.size, 4, none⟩ = some (.slice A n c) := R1.out.cells 4
            have rcz4 : (w1).frozen? ⟨w.heap.size, 4, none⟩ = false := R1.out.frozen 4
            go_wp2
            go_ret
            exact ⟨by simp, bel_alloc BE.out _⟩
        · cases sy
          · go_enter Try.func38, Try.ntmps38
            go_wp2_with fail
            refine (KS.out _).mono ?_
            rintro e w1 ⟨rfl, b1⟩
            have R1 := Lib.hid ((RowAt.new' w w.heap.size 31 (rcV what tx who _ A n c) rfl).to b1)
            have BE := Lib.hid ((bel_alloc (Below.refl w.heap.size w) (.cells (rcV what tx who _ A n c).toArray 31)).trans (b1.mono (by simp)))
            simp only [shpV, HS.out]
            clear b1
            have rclt : w.heap.size < (w1).heap.size := R1.out.lt
            have rclu : w.heap.size < (w1).heap.size + 1 := Nat.lt_succ_of_lt R1.out.lt
            have rc0 : (w1).cell? ⟨w.heap.size, 0, none⟩ = some (.int .u8 (what : Int)) := R1.out.cells 0
            have rcz0 : (w1).frozen? ⟨w.heap.size, 0, none⟩ = false := R1.out.frozen 0
            have rc1 : (w1).cell? ⟨w.heap.size, 1, none⟩ = some (.int .u32 (tx : Int)) := R1.out.cells 1
            have rcz1 : (w1).frozen? ⟨w.heap.size, 1, none⟩ = false := R1.out.frozen 1
            have rc2 : (w1).cell? ⟨w.heap.size, 2, none⟩ = some (.int .u8 (who : Int)) := R1.out.cells 2
            have rcz2 : (w1).frozen? ⟨w.heap.size, 2, none⟩ = false := R1.out.frozen 2
            have rc3 : (w1).cell? ⟨w.heap.size, 3, none⟩ = some (.bool _) := R1.out.cells 3
            have rcz3 : (w1).frozen? ⟨w.heap.size, 3, none⟩ = false := R1.out.frozen 3
            have rc4 : (w1).cell? ⟨w.heap.size, 4, none⟩ = some (.slice A n c) := R1.out.cells 4
            have rcz4 : (w1).frozen? ⟨w.heap.size, 4, none⟩ = false := R1.out.frozen 4
            go_wp2
            go_ret
            exact ⟨by simp, bel_alloc BE.out _⟩
          · cases q0
            · cases st
              · go_enter Try.func38, Try.ntmps38
                go_wp2_with fail
                refine (KS.out _).mono ?_
                rintro e w1 ⟨rfl, b1⟩
                have R1 := Lib.hid ((RowAt.new' w w.heap.size 31 (rcV what tx who _ A n c) rfl).to b1)
                have BE := Lib.hid ((bel_alloc (Below.refl w.heap.size w) (.cells (rcV what tx who _ A n c).toArray 31)).trans (b1.mono (by simp)))
                simp only [shpV, HS.out]
                clear b1
                have rclt : w.heap.size < (w1).heap.size := R1.out.lt
                have rclu : w.heap.size < (w1).heap.size + 1 := Nat.lt_succ_of_lt R1.out.lt
                have rc0 : (w1).cell? ⟨w.heap.size, 0, none⟩ = some (.int .u8 (what : Int)) := R1.out.cells 0
                have rcz0 : (w1).frozen? ⟨w.heap.size, 0, none⟩ = false := R1.out.frozen 0
                have rc1 : (w1).cell? ⟨w.heap.size, 1, none⟩ = some (.int .u32 (tx : Int)) := R1.out.cells 1
                have rcz1 : (w1).frozen? ⟨w.heap.size, 1, none⟩ = false := R1.out.frozen 1
                have rc2 : (w1).cell? ⟨w.heap.size, 2, none⟩ = some (.int .u8 (who : Int)) := R1.out.cells 2
                have rcz2 : (w1).frozen? ⟨w.heap.size, 2, none⟩ = false := R1.out.frozen 2
                have rc3 : (w1).cell? ⟨w.heap.size, 3, none⟩ = some (.bool _) := R1.out.cells 3
                have rcz3 : (w1).frozen? ⟨w.heap.size, 3, none⟩ = false := R1.out.frozen 3
                have rc4 : (w1).cell? ⟨w.heap.size, 4, none⟩ = some (.slice A n c) := R1.out.cells 4
                have rcz4 : (w1).frozen? ⟨w.heap.size, 4, none⟩ = false := R1.out.frozen 4
                go_wp2
                go_ret
                exact ⟨by simp, bel_alloc BE.out _⟩
              · cases q8
                · go_enter Try.func38, Try.ntmps38
                  go_wp2_with fail
                  refine (KS.out _).mono ?_
                  rintro e w1 ⟨rfl, b1⟩
                  have R1 := Lib.hid ((RowAt.new' w w.heap.size 31 (rcV what tx who _ A n c) rfl).to b1)
                  have BE := Lib.hid ((bel_alloc (Below.refl w.heap.size w) (.cells (rcV what tx who _ A n c).toArray 31)).trans (b1.mono (by simp)))
                  simp only [shpV, HS.out]
                  clear b1
                  have rclt : w.heap.size < (w1).heap.size := R1.out.lt
                  have rclu : w.heap.size < (w1).heap.size + 1 := Nat.lt_succ_of_lt R1.out.lt
                  have rc0 : (w1).cell? ⟨w.heap.size, 0, none⟩ = some (.int .u8 (what : Int)) := R1.out.cells 0
                  have rcz0 : (w1).frozen? ⟨w.heap.size, 0, none⟩ = false := R1.out.frozen 0
                  have rc1 : (w1).cell? ⟨w.heap.size, 1, none⟩ = some (.int .u32 (tx : Int)) := R1.out.cells 1
                  have rcz1 : (w1).frozen? ⟨w.heap.size, 1, none⟩ = false := R1.out.frozen 1
                  have rc2 : (w1).cell? ⟨w.heap.size, 2, none⟩ = some (.int .u8 (who : Int)) := R1.out.cells 2
                  have rcz2 : (w1).frozen? ⟨w.heap.size, 2, none⟩ = false := R1.out.frozen 2
                  have rc3 : (w1).cell? ⟨w.heap.size, 3, none⟩ = some (.bool _) := R1.out.cells 3
                  have rcz3 : (w1).frozen? ⟨w.heap.size, 3, none⟩ = false := R1.out.frozen 3
                  have rc4 : (w1).cell? ⟨w.heap.size, 4, none⟩ = some (.slice A n c) := R1.out.cells 4
                  have rcz4 : (w1).frozen? ⟨w.heap.size, 4, none⟩ = false := R1.out.frozen 4
                  go_wp2
                  go_ret
                  exact ⟨by simp, bel_alloc BE.out _⟩
                · go_enter Try.func38, Try.ntmps38
                  go_wp2_with fail
                  refine (KS.out _).mono ?_
                  rintro e w1 ⟨rfl, b1⟩
                  have R1 := Lib.hid ((RowAt.new' w w.heap.size 31 (rcV what tx who _ A n c) rfl).to b1)
                  have BE := Lib.hid ((bel_alloc (Below.refl w.heap.size w) (.cells (rcV what tx who _ A n c).toArray 31)).trans (b1.mono (by simp)))
                  simp only [shpV, HS.out]
                  clear b1
                  have rclt : w.heap.size < (w1).heap.size := R1.out.lt
                  have rclu : w.heap.size < (w1).heap.size + 1 := Nat.lt_succ_of_lt R1.out.lt
                  have rc0 : (w1).cell? ⟨w.heap.size, 0, none⟩ = some (.int .u8 (what : Int)) := R1.out.cells 0
                  have rcz0 : (w1).frozen? ⟨w.heap.size, 0, none⟩ = false := R1.out.frozen 0
                  have rc1 : (w1).cell? ⟨w.heap.size, 1, none⟩ = some (.int .u32 (tx : Int)) := R1.out.cells 1
                  have rcz1 : (w1).frozen? ⟨w.heap.size, 1, none⟩ = false := R1.out.frozen 1
                  have rc2 : (w1).cell? ⟨w.heap.size, 2, none⟩ = some (.int .u8 (who : Int)) := R1.out.cells 2
                  have rcz2 : (w1).frozen? ⟨w.heap.size, 2, none⟩ = false := R1.out.frozen 2
                  have rc3 : (w1).cell? ⟨w.heap.size, 3, none⟩ = some (.bool _) := R1.out.cells 3
                  have rcz3 : (w1).frozen? ⟨w.heap.size, 3, none⟩ = false := R1.out.frozen 3
                  have rc4 : (w1).cell? ⟨w.heap.size, 4, none⟩ = some (.slice A n c) := R1.out.cells 4
                  have rcz4 : (w1).frozen? ⟨w.heap.size, 4, none⟩ = false := R1.out.frozen 4
                  go_wp2
                  go_ret
                  exact ⟨by simp, bel_alloc BE.out _⟩
            · go_enter Try.func38, Try.ntmps38
              go_wp2_with fail
              refine (KS.out _).mono ?_
              rintro e w1 ⟨rfl, b1⟩
              have R1 := Lib.hid ((RowAt.new' w w.heap.size 31 (rcV what tx who _ A n c) rfl).to b1)
              have BE := Lib.hid ((bel_alloc (Below.refl w.heap.size w) (.cells (rcV what tx who _ A n c).toArray 31)).trans (b1.mono (by simp)))
              simp only [shpV, HS.out]
              clear b1
              have rclt : w.heap.size < (w1).heap.size := R1.out.lt
              have rclu : w.heap.size < (w1).heap.size + 1 := Nat.lt_succ_of_lt R1.out.lt
              have rc0 : (w1).cell? ⟨w.heap.size, 0, none⟩ = some (.int .u8 (what : Int)) := R1.out.cells 0
              have rcz0 : (w1).frozen? ⟨w.heap.size, 0, none⟩ = false := R1.out.frozen 0
              have rc1 : (w1).cell? ⟨w.heap.size, 1, none⟩ = some (.int .u32 (tx : Int)) := R1.out.cells 1
              have rcz1 : (w1).frozen? ⟨w.heap.size, 1, none⟩ = false := R1.out.frozen 1
              have rc2 : (w1).cell? ⟨w.heap.size, 2, none⟩ = some (.int .u8 (who : Int)) := R1.out.cells 2
              have rcz2 : (w1).frozen? ⟨w.heap.size, 2, none⟩ = false := R1.out.frozen 2
              have rc3 : (w1).cell? ⟨w.heap.size, 3, none⟩ = some (.bool _) := R1.out.cells 3
              have rcz3 : (w1).frozen? ⟨w.heap.size, 3, none⟩ = false := R1.out.frozen 3
              have rc4 : (w1).cell? ⟨w.heap.size, 4, none⟩ = some (.slice A n c) := R1.out.cells 4
              have rcz4 : (w1).frozen? ⟨w.heap.size, 4, none⟩ = false := R1.out.frozen 4
              go_wp2
              go_ret
              exact ⟨by simp, bel_alloc BE.out _⟩
theorem nright_any (x : Nr) (A : Option Addr) (c n : Nat) (hn : x.text.length = n) (w : World) :
    Calls Try.prog 38 #[.agg (rcV x.what x.tx x.who x.yes A n c).toArray] w fun e w' => e = .returned (.bool x.right) ∧ Below w.heap.size w w' := by
  refine nright_go x.what x.tx x.who n x.yes A c w (shp x.what).1 (shp x.what).2.1 (shp x.what).2.2.1 (shp x.what).2.2.2 _ _ _ _ rfl rfl rfl rfl ?_
  rw [right_is, hn]
end Go.Proofs.Ytegmeodmjaijnaa
