/- Layer 15, the document's answer: Parse (layer 12) answers something. -/
import Derived.Test.YthhokpaidekmnaaVrA
import Derived.Test.YthhokpaidekmnaaVdName
import Derived.Deep.DeepCutAuto
import Derived.Deep.CutBlock
namespace Go.Proofs.Ythhokpaidekmnaa
open Go.RowKit
set_option linter.unusedVariables false
set_option linter.unusedSimpArgs false
set_option maxRecDepth 100000
attribute [local go_sem] Later.cell Later.frozen setCell_twice
/-- a decimal that fits its cells, or none -/
def SomeDec (w : World) (e : Ending) (w' : World) : Prop := ∃ (n : Int) (d : Nat) (ok : Bool), e = .returned (.tuple #[.agg #[.int .i64 n, .int .u8 (d : Int)], .bool ok]) ∧ Below w.heap.size w w'
set_option maxHeartbeats 4000000 in
theorem rparse_any (s : ByteArray) (w : World) (hs : s.size ≤ 8192) : Calls Try.prog 65 #[.string s] w (SomeDec w) := by
 go_enter Try.func65, Try.ntmps65
 go_upto_region 1 with fail
 obtain ⟨w0, hw0⟩ : ∃ w_q_, w_q_ = w.alloc (.cells #[.int .i64 0, .int .u8 0] 41) := ⟨_, rfl⟩
 rw [← hw0]
 have hb0 : Below w.heap.size w w0 := by rw [hw0]; exact bel_alloc (Below.refl _ _) _
 have hz0 : w0.heap.size = w.heap.size + 1 := by rw [hw0]; simp
 have lz0 : w.heap.size < w0.heap.size := by omega
 have c0 : w0.cell? ⟨w.heap.size, 0, none⟩ = some (.int .i64 0) := by rw [hw0]; simp [go_sem]
 have c1 : w0.cell? ⟨w.heap.size, 1, none⟩ = some (.int .u8 0) := by rw [hw0]; simp [go_sem]
 have z0 : w0.frozen? ⟨w.heap.size, 0, none⟩ = false := by rw [hw0]; simp [go_sem]
 have z1 : w0.frozen? ⟨w.heap.size, 1, none⟩ = false := by rw [hw0]; simp [go_sem]
 clear hw0 hz0
 go_cut [4] (fun b wx => ∃ bl : Bool, b = .bool bl ∧ Hid (bl = true → 0 < s.size) ∧ w0 = wx)
 case first =>
  rcases Nat.eq_zero_or_pos s.size with h0 | h0
  ·have g1 : decide ((0 : Int) < (s.size : Int)) = false := decide_eq_false (by omega)
   have hh : Hid (false = true → 0 < s.size) := Lib.hid (fun h => by cases h)
   have g2 : ¬ 0 < s.size := by omega
   clear h0
   go_wp2
   go_meet
   case rel => exact ⟨false, rfl, hh, rfl⟩
  ·have g1 : decide ((0 : Int) < (s.size : Int)) = true := decide_eq_true (by omega)
   obtain ⟨k0, hk0⟩ : ∃ k, s[0].toNat = k := ⟨_, rfl⟩
   obtain ⟨bl, hbl⟩ : ∃ b, ((k0 : Int) == 45) = b := ⟨_, rfl⟩
   have hh : Hid (bl = true → 0 < s.size) := Lib.hid (fun _ => h0)
   go_wp2
   go_meet
   case rel => exact ⟨bl, rfl, hh, rfl⟩
 case rest =>
 obtain ⟨bl, rfl, HBL, rfl⟩ := hcut
 go_upto_if 18 with fail
 go_cut [0] (fun a wx => ∃ t : ByteArray, a = .string t ∧ t.size ≤ 8192 ∧ w0 = wx)
 case first =>
  cases bl
  ·go_wp2
   go_meet
   case rel => exact ⟨s, rfl, hs, rfl⟩
  ·have h0 := HBL.out rfl
   have g1 : (1 : Int) ≤ (s.size : Int) := by omega
   have g2 : 1 ≤ s.size := h0
   have hx : (s.extract 1 s.size).size ≤ 8192 := by rw [ByteArray.size_extract]; omega
   go_wp2
   go_meet
   case rel => exact ⟨_, rfl, hx, rfl⟩
 case rest =>
 obtain ⟨t, rfl, ht, rfl⟩ := hcut
 clear HBL
 go_wp2
 go_loopw [5, 6, 7, 8, 9] (fun xn xp xb xa xi wr => ∃ (n be ah i : Nat) (pt : Bool), n ≤ 2000000000000000000 ∧ be ≤ i ∧ ah ≤ i ∧ i ≤ t.size ∧ xn = .int .i64 (n : Int) ∧ xp = .bool pt ∧ xb = .int .i64 (be : Int) ∧ xa = .int .i64 (ah : Int) ∧ xi = .int .i64 (i : Int) ∧ wr = w0) (fun _ _ _ _ xi _ => t.size - (RowKit.intOf xi).toNat)
 case atStart => exact ⟨0, 0, 0, 0, false, by omega, by omega, by omega, by omega, rfl, rfl, rfl, rfl, rfl, rfl⟩
 case round =>
  rename World => wr
  obtain ⟨n, be, ah, i, pt, hn, hbe, hah, hi, rfl, rfl, rfl, rfl, rfl, rfl⟩ := hrel
  by_cases hlt : i < t.size
  rotate_left
  ·obtain rfl : i = t.size := by omega
   clear hlt
   rcases Nat.eq_zero_or_pos ah with h1 | h1
   ·have g1 : ((ah : Int) == 0) = true := beq_iff_eq.2 (by omega)
    clear h1
    go_wp2
    refine bodyPost_ret (v := .tuple #[dcV 0 0, .bool false]) (by simp [results, Try.results65, go_sem, *]) rfl ⟨0, 0, false, rfl, belo⟩
   have g1 : ((ah : Int) == 0) = false := beq_eq_false_iff_ne.2 (by omega)
   clear h1
   cases pt
   ·by_cases h3 : 6 < be
    ·have g3 : decide ((6 : Int) < (be : Int)) = true := decide_eq_true (by omega)
     clear h3
     go_wp2
     refine bodyPost_ret (v := .tuple #[dcV 0 0, .bool false]) (by simp [results, Try.results65, go_sem, *]) rfl ⟨0, 0, false, rfl, belo⟩
    have g3 : decide ((6 : Int) < (be : Int)) = false := decide_eq_false (by omega)
    cases bl
    ·have OF := Lib.hid (fun w => rof_any (n : Int) be w (by omega) (by omega))
     clear h3
     cases ho : Vd.ofI (n : Int) be with
     | none =>
      rw [ho] at OF
      unfold decV at OF
      go_wp2_with fail
      with_reducible refine (OF.out _).mono ?_
      rintro e_x2 w_x2 ⟨rfl, hb_x2⟩
      obtain ⟨x2, rfl⟩ := later_is hb_x2
      clear hb_x2
      have hz_x2 := x2.bel.size
      try simp at hz_x2
      go_wp2
      refine bodyPost_ret (v := .tuple #[dcV 0 0, .bool false]) (by simp [results, Try.results65, go_sem, *]) rfl ⟨0, 0, false, rfl, belo⟩
     | some r =>
      obtain ⟨rn, rd⟩ := r
      rw [ho] at OF
      unfold decV at OF
      try dsimp only at OF
      go_wp2_with fail
      with_reducible refine (OF.out _).mono ?_
      rintro e_x2 w_x2 ⟨rfl, hb_x2⟩
      obtain ⟨x2, rfl⟩ := later_is hb_x2
      clear hb_x2
      have hz_x2 := x2.bel.size
      try simp at hz_x2
      go_wp2
      refine bodyPost_ret (v := .tuple #[dcV rn rd, .bool true]) (by simp [results, Try.results65, go_sem, *]) rfl ⟨rn, rd, true, rfl, belo⟩
    ·have w1 : IntKind.i64.wrap (-(n : Int)) = -(n : Int) := IntWalk.i64_in _ (by omega)
     have w1' : wrap64 (-(n : Int)) = -(n : Int) := IntWalk.wrap64_in _ (by omega)
     have OF := Lib.hid (fun w => rof_any (-(n : Int)) be w (by omega) (by omega))
     clear h3
     cases ho : Vd.ofI (-(n : Int)) be with
     | none =>
      rw [ho] at OF
      unfold decV at OF
      go_wp2_with fail
      with_reducible refine (OF.out _).mono ?_
      rintro e_x2 w_x2 ⟨rfl, hb_x2⟩
      obtain ⟨x2, rfl⟩ := later_is hb_x2
      clear hb_x2
      have hz_x2 := x2.bel.size
      try simp at hz_x2
      go_wp2
      refine bodyPost_ret (v := .tuple #[dcV 0 0, .bool false]) (by simp [results, Try.results65, go_sem, *]) rfl ⟨0, 0, false, rfl, belo⟩
     | some r =>
      obtain ⟨rn, rd⟩ := r
      rw [ho] at OF
      unfold decV at OF
      try dsimp only at OF
      go_wp2_with fail
      with_reducible refine (OF.out _).mono ?_
      rintro e_x2 w_x2 ⟨rfl, hb_x2⟩
      obtain ⟨x2, rfl⟩ := later_is hb_x2
      clear hb_x2
      have hz_x2 := x2.bel.size
      try simp at hz_x2
      go_wp2
      refine bodyPost_ret (v := .tuple #[dcV rn rd, .bool true]) (by simp [results, Try.results65, go_sem, *]) rfl ⟨rn, rd, true, rfl, belo⟩
   rcases Nat.eq_zero_or_pos be with h2 | h2
   ·have g2 : ((be : Int) == 0) = true := beq_iff_eq.2 (by omega)
    clear h2
    go_wp2
    refine bodyPost_ret (v := .tuple #[dcV 0 0, .bool false]) (by simp [results, Try.results65, go_sem, *]) rfl ⟨0, 0, false, rfl, belo⟩
   have g2 : ((be : Int) == 0) = false := beq_eq_false_iff_ne.2 (by omega)
   clear h2
   by_cases h3 : 6 < be
   ·have g3 : decide ((6 : Int) < (be : Int)) = true := decide_eq_true (by omega)
    clear h3
    go_wp2
    refine bodyPost_ret (v := .tuple #[dcV 0 0, .bool false]) (by simp [results, Try.results65, go_sem, *]) rfl ⟨0, 0, false, rfl, belo⟩
   have g3 : decide ((6 : Int) < (be : Int)) = false := decide_eq_false (by omega)
   cases bl
   ·have OF := Lib.hid (fun w => rof_any (n : Int) be w (by omega) (by omega))
    clear h3
    cases ho : Vd.ofI (n : Int) be with
    | none =>
     rw [ho] at OF
     unfold decV at OF
     go_wp2_with fail
     with_reducible refine (OF.out _).mono ?_
     rintro e_x2 w_x2 ⟨rfl, hb_x2⟩
     obtain ⟨x2, rfl⟩ := later_is hb_x2
     clear hb_x2
     have hz_x2 := x2.bel.size
     try simp at hz_x2
     go_wp2
     refine bodyPost_ret (v := .tuple #[dcV 0 0, .bool false]) (by simp [results, Try.results65, go_sem, *]) rfl ⟨0, 0, false, rfl, belo⟩
    | some r =>
     obtain ⟨rn, rd⟩ := r
     rw [ho] at OF
     unfold decV at OF
     try dsimp only at OF
     go_wp2_with fail
     with_reducible refine (OF.out _).mono ?_
     rintro e_x2 w_x2 ⟨rfl, hb_x2⟩
     obtain ⟨x2, rfl⟩ := later_is hb_x2
     clear hb_x2
     have hz_x2 := x2.bel.size
     try simp at hz_x2
     go_wp2
     refine bodyPost_ret (v := .tuple #[dcV rn rd, .bool true]) (by simp [results, Try.results65, go_sem, *]) rfl ⟨rn, rd, true, rfl, belo⟩
   ·have w1 : IntKind.i64.wrap (-(n : Int)) = -(n : Int) := IntWalk.i64_in _ (by omega)
    have w1' : wrap64 (-(n : Int)) = -(n : Int) := IntWalk.wrap64_in _ (by omega)
    have OF := Lib.hid (fun w => rof_any (-(n : Int)) be w (by omega) (by omega))
    clear h3
    cases ho : Vd.ofI (-(n : Int)) be with
    | none =>
     rw [ho] at OF
     unfold decV at OF
     go_wp2_with fail
     with_reducible refine (OF.out _).mono ?_
     rintro e_x2 w_x2 ⟨rfl, hb_x2⟩
     obtain ⟨x2, rfl⟩ := later_is hb_x2
     clear hb_x2
     have hz_x2 := x2.bel.size
     try simp at hz_x2
     go_wp2
     refine bodyPost_ret (v := .tuple #[dcV 0 0, .bool false]) (by simp [results, Try.results65, go_sem, *]) rfl ⟨0, 0, false, rfl, belo⟩
    | some r =>
     obtain ⟨rn, rd⟩ := r
     rw [ho] at OF
     unfold decV at OF
     try dsimp only at OF
     go_wp2_with fail
     with_reducible refine (OF.out _).mono ?_
     rintro e_x2 w_x2 ⟨rfl, hb_x2⟩
     obtain ⟨x2, rfl⟩ := later_is hb_x2
     clear hb_x2
     have hz_x2 := x2.bel.size
     try simp at hz_x2
     go_wp2
     refine bodyPost_ret (v := .tuple #[dcV rn rd, .bool true]) (by simp [results, Try.results65, go_sem, *]) rfl ⟨rn, rd, true, rfl, belo⟩
  have hltI : (i : Int) < (t.size : Int) := by omega
  have h0t : 0 < t.size := by omega
  obtain ⟨k, hk⟩ : ∃ k, t[i].toNat = k := ⟨_, rfl⟩
  obtain ⟨k0, hk0⟩ : ∃ k, t[0].toNat = k := ⟨_, rfl⟩
  go_upto_region 8 with fail
  go_cut [38] (fun v wx => ∃ b : Bool, v = .bool b ∧ wr = wx)
  case first =>
   obtain ⟨b1, hb1⟩ : ∃ b, ((k : Int) == 46) = b := ⟨_, rfl⟩
   obtain ⟨b2, hb2⟩ : ∃ b, decide ((0 : Int) < (ah : Int)) = b := ⟨_, rfl⟩
   have hb2' : decide (0 < ah) = b2 := by rw [← hb2]; simp
   cases b1
   ·go_wp2
    go_meet
    case rel => exact ⟨_, rfl, rfl⟩
   cases pt
   ·go_wp2
    go_meet
    case rel => exact ⟨_, rfl, rfl⟩
   ·go_wp2
    go_meet
    case rel => exact ⟨_, rfl, rfl⟩
  case rest =>
  obtain ⟨b, rfl, rfl⟩ := hcut
  cases b
  rotate_left
  ·go_wp2
   go_roundw
   case rel => exact ⟨n, be, ah, i + 1, true, hn, by omega, by omega, by omega, by first | rfl | trivial, by first | rfl | trivial, by first | rfl | trivial, by first | rfl | trivial, by go_num, by first | rfl | trivial⟩
   case measure => simp [RowKit.intOf]; omega
  go_upto_region 10 with fail
  go_cut [61] (fun v wx => ∃ b : Bool, v = .bool b ∧ Hid (b = false → 48 ≤ k ∧ k ≤ 57) ∧ wr = wx)
  case first =>
   by_cases h1 : k < 48
   ·have g1 : decide ((k : Int) < 48) = true := decide_eq_true (by omega)
    have hh : Hid (true = false → 48 ≤ k ∧ k ≤ 57) := Lib.hid (fun h => by cases h)
    clear h1
    go_wp2
    go_meet
    case rel => exact ⟨true, rfl, Lib.hid (fun h => by cases h), rfl⟩
   have g1 : decide ((k : Int) < 48) = false := decide_eq_false (by omega)
   by_cases h2 : 57 < k
   ·have g2 : decide ((57 : Int) < (k : Int)) = true := decide_eq_true (by omega)
    clear h1 h2
    go_wp2
    go_meet
    case rel => exact ⟨true, rfl, Lib.hid (fun h => by cases h), rfl⟩
   have g2 : decide ((57 : Int) < (k : Int)) = false := decide_eq_false (by omega)
   have hkk : 48 ≤ k ∧ k ≤ 57 := by omega
   clear h1 h2
   obtain ⟨b3, hb3⟩ : ∃ b, ((ah : Int) == 1) = b := ⟨_, rfl⟩
   obtain ⟨b4, hb4⟩ : ∃ b, ((k0 : Int) == 48) = b := ⟨_, rfl⟩
   cases b3
   ·go_wp2
    go_meet
    case rel => exact ⟨false, rfl, Lib.hid (fun _ => hkk), rfl⟩
   cases b4
   ·go_wp2
    go_meet
    case rel => exact ⟨false, rfl, Lib.hid (fun _ => hkk), rfl⟩
   cases pt
   ·go_wp2
    go_meet
    case rel => exact ⟨true, rfl, Lib.hid (fun h => by cases h), rfl⟩
   ·go_wp2
    go_meet
    case rel => exact ⟨false, rfl, Lib.hid (fun _ => hkk), rfl⟩
  case rest =>
  obtain ⟨b, rfl, HKK, rfl⟩ := hcut
  cases b
  rotate_left
  ·go_wp2
   refine bodyPost_ret (v := .tuple #[dcV 0 0, .bool false]) (by simp [results, Try.results65, go_sem, *]) rfl ⟨0, 0, false, rfl, belo⟩
  by_cases h3 : 100000000000000000 < n
  ·have g3 : decide ((100000000000000000 : Int) < (n : Int)) = true := decide_eq_true (by omega)
   clear h3
   go_wp2
   refine bodyPost_ret (v := .tuple #[dcV 0 0, .bool false]) (by simp [results, Try.results65, go_sem, *]) rfl ⟨0, 0, false, rfl, belo⟩
  have g3 : decide ((100000000000000000 : Int) < (n : Int)) = false := decide_eq_false (by omega)
  obtain ⟨hk1, hk2⟩ := HKK.out rfl
  obtain ⟨dg, hdg⟩ : ∃ dg, k - 48 = dg := ⟨_, rfl⟩
  have m1 : (k : Int) - 48 = (dg : Int) := by omega
  have m2 : IntKind.u8.wrap (dg : Int) = (dg : Int) := by simp [IntKind.wrap, IntKind.bits, IntKind.signed]; omega
  have m3 : IntKind.i64.wrap (dg : Int) = (dg : Int) := IntWalk.i64_in _ (by omega)
  obtain ⟨m, hm⟩ : ∃ m, n * 10 = m := ⟨_, rfl⟩
  have m4 : (n : Int) * 10 = (m : Int) := by omega
  have m5 : IntKind.i64.wrap (m : Int) = (m : Int) := IntWalk.i64_in _ (by omega)
  obtain ⟨n2, hn2⟩ : ∃ n2, m + dg = n2 := ⟨_, rfl⟩
  have m6 : (m : Int) + (dg : Int) = (n2 : Int) := by omega
  have m7 : IntKind.i64.wrap (n2 : Int) = (n2 : Int) := IntWalk.i64_in _ (by omega)
  have hn2b : n2 ≤ 2000000000000000000 := by omega
  clear h3 hm hn2 hk1 hk2 hdg
  cases pt
  ·go_wp2
   go_roundw
   case rel => exact ⟨n2, be, ah + 1, i + 1, false, hn2b, by omega, by omega, by omega, by first | rfl | trivial, by first | rfl | trivial, by first | rfl | trivial, by go_num, by go_num, by first | rfl | trivial⟩
   case measure => simp [RowKit.intOf]; omega
  ·go_wp2
   go_roundw
   case rel => exact ⟨n2, be + 1, ah, i + 1, true, hn2b, by omega, by omega, by omega, by first | rfl | trivial, by first | rfl | trivial, by go_num, by first | rfl | trivial, by go_num, by first | rfl | trivial⟩
   case measure => simp [RowKit.intOf]; omega
end Go.Proofs.Ythhokpaidekmnaa
