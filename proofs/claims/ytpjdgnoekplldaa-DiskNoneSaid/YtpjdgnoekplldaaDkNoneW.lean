/- DiskNone: the walk. -/
import Derived.Test.YtpjdgnoekplldaaDkNo
import Derived.Test.YtpjdgnoekplldaaDkAwk
import Derived.Test.YtpjdgnoekplldaaVarB
namespace Go.Proofs.Ytpjdgnoekplldaa
open Go.RowKit
set_option linter.unusedVariables false
attribute [local go_sem] Later.cell Later.frozen setCell_twice
abbrev dk0 : List Value := [.pointer none, .int .i64 0, .slice none 0 0, .int .i64 0, .bool false, .int .i64 0, .bool false]
set_option maxRecDepth 100000 in
set_option maxHeartbeats 1000000 in
theorem diskNone_walk (o : DOp) (w : World) (hw : o.what < 256) :
    Calls Try.prog 7 #[.agg #[.int .u8 (o.what : Int), .slice o.A o.b.length o.c, .int .i64 o.n]] w fun e w' => e = .returned (.bool true) ∧ Below w.heap.size w w' := by
  have R1 : RowAt (((w.alloc (.cells o.C.toArray 38)).alloc (.cells dk0.toArray 51)).alloc (.cells #[.pointer none, .pointer (some ⟨w.heap.size + 1, 0, none⟩)] 23)) w.heap.size 38 o.C := ((RowAt.new' w _ _ o.C rfl).alloc _).alloc _
  have R2 : RowAt (((w.alloc (.cells o.C.toArray 38)).alloc (.cells dk0.toArray 51)).alloc (.cells #[.pointer none, .pointer (some ⟨w.heap.size + 1, 0, none⟩)] 23)) (w.heap.size + 1) 51 dk0 := (RowAt.new' (w.alloc (.cells o.C.toArray 38)) _ _ dk0 (by simp)).alloc _
  have R3 : RowAt (((w.alloc (.cells o.C.toArray 38)).alloc (.cells dk0.toArray 51)).alloc (.cells #[.pointer none, .pointer (some ⟨w.heap.size + 1, 0, none⟩)] 23)) (w.heap.size + 1 + 1) 23 [.pointer none, .pointer (some ⟨w.heap.size + 1, 0, none⟩)] := (RowAt.new' ((w.alloc (.cells o.C.toArray 38)).alloc (.cells dk0.toArray 51)) _ _ [.pointer none, .pointer (some ⟨w.heap.size + 1, 0, none⟩)] (by simp))
  have R1 := Lib.hid R1
  have R2 := Lib.hid R2
  have R3 := Lib.hid R3
  obtain ⟨m, hm⟩ : ∃ m, o.what % 5 = m := ⟨_, rfl⟩
  have hmI : (o.what : Int) % 5 = (m : Int) := by omega
  have hm5 : m = 0 ∨ m = 1 ∨ m = 2 ∨ m = 3 ∨ m = 4 := by omega
  have HM := Lib.hid hm
  clear hm
  go_enter Try.func7, Try.ntmps7
  go_wp2
  go_loopw [10] (fun i wr => ∃ k : Nat, k ≤ 2 ∧ i = .int .i64 (k : Int) ∧ RowAt wr w.heap.size 38 o.C ∧ RowAt wr (w.heap.size + 1) 51 dk0 ∧ RowAt wr (w.heap.size + 1 + 1) 23 [.pointer none, .pointer (some ⟨w.heap.size + 1, 0, none⟩)] ∧ Below w.heap.size w wr) (fun i _ => 2 - (intOf i).toNat)
  case atStart => exact ⟨0, by omega, rfl, R1.out, R2.out, R3.out, (by repeat (first | with_reducible exact Below.refl _ _ | with_reducible refine bel_later _ ?_ | with_reducible refine bel_alloc ?_ _ | refine bel_set ?_ (by first | omega | (simp; done) | (simp; omega)) _ | with_reducible refine Below.drew ?_ | with_reducible refine bel_drewN ?_ _ | with_reducible assumption | assumption))⟩
  case round =>
    clear R1 R2 R3
    obtain ⟨k, hk, rfl, hor, hzr, hpr, hbe⟩ := hrel
    have OR := Lib.hid hor
    have ZR := Lib.hid hzr
    have PR := Lib.hid hpr
    have BE := Lib.hid hbe
    clear hor hzr hpr hbe
    have oclt : w.heap.size < (wr).heap.size := OR.out.lt
    have oclu : w.heap.size < (wr).heap.size + 1 := Nat.lt_succ_of_lt OR.out.lt
    have oc0 : (wr).cell? ⟨w.heap.size, 0, none⟩ = some (.int .u8 (o.what : Int)) := OR.out.cells 0
    have ocz0 : (wr).frozen? ⟨w.heap.size, 0, none⟩ = false := OR.out.frozen 0
    have oc1 : (wr).cell? ⟨w.heap.size, 1, none⟩ = some (.slice o.A o.b.length o.c) := OR.out.cells 1
    have ocz1 : (wr).frozen? ⟨w.heap.size, 1, none⟩ = false := OR.out.frozen 1
    have oc2 : (wr).cell? ⟨w.heap.size, 2, none⟩ = some (.int .i64 o.n) := OR.out.cells 2
    have ocz2 : (wr).frozen? ⟨w.heap.size, 2, none⟩ = false := OR.out.frozen 2
    have pclt : w.heap.size + 1 + 1 < (wr).heap.size := PR.out.lt
    have pclu : w.heap.size + 1 + 1 < (wr).heap.size + 1 := Nat.lt_succ_of_lt PR.out.lt
    have pc0 : (wr).cell? ⟨w.heap.size + 1 + 1, 0, none⟩ = some (.pointer none) := PR.out.cells 0
    have pcz0 : (wr).frozen? ⟨w.heap.size + 1 + 1, 0, none⟩ = false := PR.out.frozen 0
    have pc1 : (wr).cell? ⟨w.heap.size + 1 + 1, 1, none⟩ = some (.pointer (some ⟨w.heap.size + 1, 0, none⟩)) := PR.out.cells 1
    have pcz1 : (wr).frozen? ⟨w.heap.size + 1 + 1, 1, none⟩ = false := PR.out.frozen 1
    rcases hm5 with rfl | rfl | rfl | rfl | rfl
    · have HR : Hid ((1 : Int) = if o.what % 5 > 2 then 0 else 1) := Lib.hid (by rw [HM.out]; rfl)
      by_cases hk0 : k = 0
      · subst hk0
        have HN := Lib.hid (noDk_nil wr)
        go_wp2_with fail
        refine (do_no HN.out o.what hw o.n o.A o.b.length o.c 1 HR.out).mono ?_
        rintro e w1 ⟨rfl, b1⟩
        replace HN := Lib.hid (HN.out.to b1)
        replace OR := Lib.hid (OR.out.to b1)
        replace ZR := Lib.hid (ZR.out.to b1)
        replace PR := Lib.hid (PR.out.to b1)
        replace BE := Lib.hid (BE.out.trans (b1.mono BE.out.size))
        clear b1
        have k4 := Lib.hid (no_of_int _ _ HN.out.now)
        have k5 := Lib.hid (bytes_no HN.out)
        go_wp2_with fail
        refine (k4.out.1).mono ?_
        rintro e_ w_ ⟨rfl, rfl⟩
        go_wp2_with fail
        refine (k4.out.2.1).mono ?_
        rintro e_ w_ ⟨rfl, rfl⟩
        go_wp2_with fail
        refine (k4.out.2.2.1).mono ?_
        rintro e_ w_ ⟨rfl, rfl⟩
        go_wp2_with fail
        refine (k5.out).mono ?_
        rintro e_ w_ ⟨rfl, rfl⟩
        go_wp2_with fail
        refine (k4.out.2.2.2).mono ?_
        rintro e_ w_ ⟨rfl, rfl⟩
        go_wp2
        go_roundw
        case rel => exact ⟨1, by omega, rfl, OR.out, ZR.out, PR.out, BE.out⟩
        case measure => simp [intOf]
      · by_cases hk1 : k = 1
        · subst hk1
          have HN := Lib.hid (noDk_new (w := wr) (g := w.heap.size + 1) (ZR.out.cells 0))
          go_wp2_with fail
          refine (do_no HN.out o.what hw o.n o.A o.b.length o.c 1 HR.out).mono ?_
          rintro e w1 ⟨rfl, b1⟩
          replace HN := Lib.hid (HN.out.to b1)
          replace OR := Lib.hid (OR.out.to b1)
          replace ZR := Lib.hid (ZR.out.to b1)
          replace PR := Lib.hid (PR.out.to b1)
          replace BE := Lib.hid (BE.out.trans (b1.mono BE.out.size))
          clear b1
          have k4 := Lib.hid (no_of_int _ _ HN.out.now)
          have k5 := Lib.hid (bytes_no HN.out)
          go_wp2_with fail
          refine (k4.out.1).mono ?_
          rintro e_ w_ ⟨rfl, rfl⟩
          go_wp2_with fail
          refine (k4.out.2.1).mono ?_
          rintro e_ w_ ⟨rfl, rfl⟩
          go_wp2_with fail
          refine (k4.out.2.2.1).mono ?_
          rintro e_ w_ ⟨rfl, rfl⟩
          go_wp2_with fail
          refine (k5.out).mono ?_
          rintro e_ w_ ⟨rfl, rfl⟩
          go_wp2_with fail
          refine (k4.out.2.2.2).mono ?_
          rintro e_ w_ ⟨rfl, rfl⟩
          go_wp2
          go_roundw
          case rel => exact ⟨2, by omega, rfl, OR.out, ZR.out, PR.out, BE.out⟩
          case measure => simp [intOf]
        · obtain rfl : k = 2 := by omega
          go_wp2_with fail
          refine (awake_any _).mono ?_
          rintro e w7 ⟨rfl, b7⟩
          go_wp2
          go_ret
          exact ⟨rfl, BE.out.trans (b7.mono BE.out.size)⟩
    · have HR : Hid ((1 : Int) = if o.what % 5 > 2 then 0 else 1) := Lib.hid (by rw [HM.out]; rfl)
      by_cases hk0 : k = 0
      · subst hk0
        have HN := Lib.hid (noDk_nil wr)
        go_wp2_with fail
        refine (do_no HN.out o.what hw o.n o.A o.b.length o.c 1 HR.out).mono ?_
        rintro e w1 ⟨rfl, b1⟩
        replace HN := Lib.hid (HN.out.to b1)
        replace OR := Lib.hid (OR.out.to b1)
        replace ZR := Lib.hid (ZR.out.to b1)
        replace PR := Lib.hid (PR.out.to b1)
        replace BE := Lib.hid (BE.out.trans (b1.mono BE.out.size))
        clear b1
        have k4 := Lib.hid (no_of_int _ _ HN.out.now)
        have k5 := Lib.hid (bytes_no HN.out)
        go_wp2_with fail
        refine (k4.out.1).mono ?_
        rintro e_ w_ ⟨rfl, rfl⟩
        go_wp2_with fail
        refine (k4.out.2.1).mono ?_
        rintro e_ w_ ⟨rfl, rfl⟩
        go_wp2_with fail
        refine (k4.out.2.2.1).mono ?_
        rintro e_ w_ ⟨rfl, rfl⟩
        go_wp2_with fail
        refine (k5.out).mono ?_
        rintro e_ w_ ⟨rfl, rfl⟩
        go_wp2_with fail
        refine (k4.out.2.2.2).mono ?_
        rintro e_ w_ ⟨rfl, rfl⟩
        go_wp2
        go_roundw
        case rel => exact ⟨1, by omega, rfl, OR.out, ZR.out, PR.out, BE.out⟩
        case measure => simp [intOf]
      · by_cases hk1 : k = 1
        · subst hk1
          have HN := Lib.hid (noDk_new (w := wr) (g := w.heap.size + 1) (ZR.out.cells 0))
          go_wp2_with fail
          refine (do_no HN.out o.what hw o.n o.A o.b.length o.c 1 HR.out).mono ?_
          rintro e w1 ⟨rfl, b1⟩
          replace HN := Lib.hid (HN.out.to b1)
          replace OR := Lib.hid (OR.out.to b1)
          replace ZR := Lib.hid (ZR.out.to b1)
          replace PR := Lib.hid (PR.out.to b1)
          replace BE := Lib.hid (BE.out.trans (b1.mono BE.out.size))
          clear b1
          have k4 := Lib.hid (no_of_int _ _ HN.out.now)
          have k5 := Lib.hid (bytes_no HN.out)
          go_wp2_with fail
          refine (k4.out.1).mono ?_
          rintro e_ w_ ⟨rfl, rfl⟩
          go_wp2_with fail
          refine (k4.out.2.1).mono ?_
          rintro e_ w_ ⟨rfl, rfl⟩
          go_wp2_with fail
          refine (k4.out.2.2.1).mono ?_
          rintro e_ w_ ⟨rfl, rfl⟩
          go_wp2_with fail
          refine (k5.out).mono ?_
          rintro e_ w_ ⟨rfl, rfl⟩
          go_wp2_with fail
          refine (k4.out.2.2.2).mono ?_
          rintro e_ w_ ⟨rfl, rfl⟩
          go_wp2
          go_roundw
          case rel => exact ⟨2, by omega, rfl, OR.out, ZR.out, PR.out, BE.out⟩
          case measure => simp [intOf]
        · obtain rfl : k = 2 := by omega
          go_wp2_with fail
          refine (awake_any _).mono ?_
          rintro e w7 ⟨rfl, b7⟩
          go_wp2
          go_ret
          exact ⟨rfl, BE.out.trans (b7.mono BE.out.size)⟩
    · have HR : Hid ((1 : Int) = if o.what % 5 > 2 then 0 else 1) := Lib.hid (by rw [HM.out]; rfl)
      by_cases hk0 : k = 0
      · subst hk0
        have HN := Lib.hid (noDk_nil wr)
        go_wp2_with fail
        refine (do_no HN.out o.what hw o.n o.A o.b.length o.c 1 HR.out).mono ?_
        rintro e w1 ⟨rfl, b1⟩
        replace HN := Lib.hid (HN.out.to b1)
        replace OR := Lib.hid (OR.out.to b1)
        replace ZR := Lib.hid (ZR.out.to b1)
        replace PR := Lib.hid (PR.out.to b1)
        replace BE := Lib.hid (BE.out.trans (b1.mono BE.out.size))
        clear b1
        have k4 := Lib.hid (no_of_int _ _ HN.out.now)
        have k5 := Lib.hid (bytes_no HN.out)
        go_wp2_with fail
        refine (k4.out.1).mono ?_
        rintro e_ w_ ⟨rfl, rfl⟩
        go_wp2_with fail
        refine (k4.out.2.1).mono ?_
        rintro e_ w_ ⟨rfl, rfl⟩
        go_wp2_with fail
        refine (k4.out.2.2.1).mono ?_
        rintro e_ w_ ⟨rfl, rfl⟩
        go_wp2_with fail
        refine (k5.out).mono ?_
        rintro e_ w_ ⟨rfl, rfl⟩
        go_wp2_with fail
        refine (k4.out.2.2.2).mono ?_
        rintro e_ w_ ⟨rfl, rfl⟩
        go_wp2
        go_roundw
        case rel => exact ⟨1, by omega, rfl, OR.out, ZR.out, PR.out, BE.out⟩
        case measure => simp [intOf]
      · by_cases hk1 : k = 1
        · subst hk1
          have HN := Lib.hid (noDk_new (w := wr) (g := w.heap.size + 1) (ZR.out.cells 0))
          go_wp2_with fail
          refine (do_no HN.out o.what hw o.n o.A o.b.length o.c 1 HR.out).mono ?_
          rintro e w1 ⟨rfl, b1⟩
          replace HN := Lib.hid (HN.out.to b1)
          replace OR := Lib.hid (OR.out.to b1)
          replace ZR := Lib.hid (ZR.out.to b1)
          replace PR := Lib.hid (PR.out.to b1)
          replace BE := Lib.hid (BE.out.trans (b1.mono BE.out.size))
          clear b1
          have k4 := Lib.hid (no_of_int _ _ HN.out.now)
          have k5 := Lib.hid (bytes_no HN.out)
          go_wp2_with fail
          refine (k4.out.1).mono ?_
          rintro e_ w_ ⟨rfl, rfl⟩
          go_wp2_with fail
          refine (k4.out.2.1).mono ?_
          rintro e_ w_ ⟨rfl, rfl⟩
          go_wp2_with fail
          refine (k4.out.2.2.1).mono ?_
          rintro e_ w_ ⟨rfl, rfl⟩
          go_wp2_with fail
          refine (k5.out).mono ?_
          rintro e_ w_ ⟨rfl, rfl⟩
          go_wp2_with fail
          refine (k4.out.2.2.2).mono ?_
          rintro e_ w_ ⟨rfl, rfl⟩
          go_wp2
          go_roundw
          case rel => exact ⟨2, by omega, rfl, OR.out, ZR.out, PR.out, BE.out⟩
          case measure => simp [intOf]
        · obtain rfl : k = 2 := by omega
          go_wp2_with fail
          refine (awake_any _).mono ?_
          rintro e w7 ⟨rfl, b7⟩
          go_wp2
          go_ret
          exact ⟨rfl, BE.out.trans (b7.mono BE.out.size)⟩
    · have HR : Hid ((0 : Int) = if o.what % 5 > 2 then 0 else 1) := Lib.hid (by rw [HM.out]; rfl)
      by_cases hk0 : k = 0
      · subst hk0
        have HN := Lib.hid (noDk_nil wr)
        go_wp2_with fail
        refine (do_no HN.out o.what hw o.n o.A o.b.length o.c 0 HR.out).mono ?_
        rintro e w1 ⟨rfl, b1⟩
        replace HN := Lib.hid (HN.out.to b1)
        replace OR := Lib.hid (OR.out.to b1)
        replace ZR := Lib.hid (ZR.out.to b1)
        replace PR := Lib.hid (PR.out.to b1)
        replace BE := Lib.hid (BE.out.trans (b1.mono BE.out.size))
        clear b1
        have k4 := Lib.hid (no_of_int _ _ HN.out.now)
        have k5 := Lib.hid (bytes_no HN.out)
        go_wp2_with fail
        refine (k4.out.1).mono ?_
        rintro e_ w_ ⟨rfl, rfl⟩
        go_wp2_with fail
        refine (k4.out.2.1).mono ?_
        rintro e_ w_ ⟨rfl, rfl⟩
        go_wp2_with fail
        refine (k4.out.2.2.1).mono ?_
        rintro e_ w_ ⟨rfl, rfl⟩
        go_wp2_with fail
        refine (k5.out).mono ?_
        rintro e_ w_ ⟨rfl, rfl⟩
        go_wp2_with fail
        refine (k4.out.2.2.2).mono ?_
        rintro e_ w_ ⟨rfl, rfl⟩
        go_wp2
        go_roundw
        case rel => exact ⟨1, by omega, rfl, OR.out, ZR.out, PR.out, BE.out⟩
        case measure => simp [intOf]
      · by_cases hk1 : k = 1
        · subst hk1
          have HN := Lib.hid (noDk_new (w := wr) (g := w.heap.size + 1) (ZR.out.cells 0))
          go_wp2_with fail
          refine (do_no HN.out o.what hw o.n o.A o.b.length o.c 0 HR.out).mono ?_
          rintro e w1 ⟨rfl, b1⟩
          replace HN := Lib.hid (HN.out.to b1)
          replace OR := Lib.hid (OR.out.to b1)
          replace ZR := Lib.hid (ZR.out.to b1)
          replace PR := Lib.hid (PR.out.to b1)
          replace BE := Lib.hid (BE.out.trans (b1.mono BE.out.size))
          clear b1
          have k4 := Lib.hid (no_of_int _ _ HN.out.now)
          have k5 := Lib.hid (bytes_no HN.out)
          go_wp2_with fail
          refine (k4.out.1).mono ?_
          rintro e_ w_ ⟨rfl, rfl⟩
          go_wp2_with fail
          refine (k4.out.2.1).mono ?_
          rintro e_ w_ ⟨rfl, rfl⟩
          go_wp2_with fail
          refine (k4.out.2.2.1).mono ?_
          rintro e_ w_ ⟨rfl, rfl⟩
          go_wp2_with fail
          refine (k5.out).mono ?_
          rintro e_ w_ ⟨rfl, rfl⟩
          go_wp2_with fail
          refine (k4.out.2.2.2).mono ?_
          rintro e_ w_ ⟨rfl, rfl⟩
          go_wp2
          go_roundw
          case rel => exact ⟨2, by omega, rfl, OR.out, ZR.out, PR.out, BE.out⟩
          case measure => simp [intOf]
        · obtain rfl : k = 2 := by omega
          go_wp2_with fail
          refine (awake_any _).mono ?_
          rintro e w7 ⟨rfl, b7⟩
          go_wp2
          go_ret
          exact ⟨rfl, BE.out.trans (b7.mono BE.out.size)⟩
    · have HR : Hid ((0 : Int) = if o.what % 5 > 2 then 0 else 1) := Lib.hid (by rw [HM.out]; rfl)
      by_cases hk0 : k = 0
      · subst hk0
        have HN := Lib.hid (noDk_nil wr)
        go_wp2_with fail
        refine (do_no HN.out o.what hw o.n o.A o.b.length o.c 0 HR.out).mono ?_
        rintro e w1 ⟨rfl, b1⟩
        replace HN := Lib.hid (HN.out.to b1)
        replace OR := Lib.hid (OR.out.to b1)
        replace ZR := Lib.hid (ZR.out.to b1)
        replace PR := Lib.hid (PR.out.to b1)
        replace BE := Lib.hid (BE.out.trans (b1.mono BE.out.size))
        clear b1
        have k4 := Lib.hid (no_of_int _ _ HN.out.now)
        have k5 := Lib.hid (bytes_no HN.out)
        go_wp2_with fail
        refine (k4.out.1).mono ?_
        rintro e_ w_ ⟨rfl, rfl⟩
        go_wp2_with fail
        refine (k4.out.2.1).mono ?_
        rintro e_ w_ ⟨rfl, rfl⟩
        go_wp2_with fail
        refine (k4.out.2.2.1).mono ?_
        rintro e_ w_ ⟨rfl, rfl⟩
        go_wp2_with fail
        refine (k5.out).mono ?_
        rintro e_ w_ ⟨rfl, rfl⟩
        go_wp2_with fail
        refine (k4.out.2.2.2).mono ?_
        rintro e_ w_ ⟨rfl, rfl⟩
        go_wp2
        go_roundw
        case rel => exact ⟨1, by omega, rfl, OR.out, ZR.out, PR.out, BE.out⟩
        case measure => simp [intOf]
      · by_cases hk1 : k = 1
        · subst hk1
          have HN := Lib.hid (noDk_new (w := wr) (g := w.heap.size + 1) (ZR.out.cells 0))
          go_wp2_with fail
          refine (do_no HN.out o.what hw o.n o.A o.b.length o.c 0 HR.out).mono ?_
          rintro e w1 ⟨rfl, b1⟩
          replace HN := Lib.hid (HN.out.to b1)
          replace OR := Lib.hid (OR.out.to b1)
          replace ZR := Lib.hid (ZR.out.to b1)
          replace PR := Lib.hid (PR.out.to b1)
          replace BE := Lib.hid (BE.out.trans (b1.mono BE.out.size))
          clear b1
          have k4 := Lib.hid (no_of_int _ _ HN.out.now)
          have k5 := Lib.hid (bytes_no HN.out)
          go_wp2_with fail
          refine (k4.out.1).mono ?_
          rintro e_ w_ ⟨rfl, rfl⟩
          go_wp2_with fail
          refine (k4.out.2.1).mono ?_
          rintro e_ w_ ⟨rfl, rfl⟩
          go_wp2_with fail
          refine (k4.out.2.2.1).mono ?_
          rintro e_ w_ ⟨rfl, rfl⟩
          go_wp2_with fail
          refine (k5.out).mono ?_
          rintro e_ w_ ⟨rfl, rfl⟩
          go_wp2_with fail
          refine (k4.out.2.2.2).mono ?_
          rintro e_ w_ ⟨rfl, rfl⟩
          go_wp2
          go_roundw
          case rel => exact ⟨2, by omega, rfl, OR.out, ZR.out, PR.out, BE.out⟩
          case measure => simp [intOf]
        · obtain rfl : k = 2 := by omega
          go_wp2_with fail
          refine (awake_any _).mono ?_
          rintro e w7 ⟨rfl, b7⟩
          go_wp2
          go_ret
          exact ⟨rfl, BE.out.trans (b7.mono BE.out.size)⟩
end Go.Proofs.Ytpjdgnoekplldaa
