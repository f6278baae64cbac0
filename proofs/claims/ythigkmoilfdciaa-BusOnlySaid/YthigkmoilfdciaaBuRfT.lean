/- Layer 11: the reference's turned. -/
import Derived.Test.YthigkmoilfdciaaBuRf
import Derived.Test.YthigkmoilfdciaaBuCalm2
import Derived.Test.YthigkmoilfdciaaBuRfLaw
namespace Go.Proofs.Ythigkmoilfdciaa
open Go.RowKit
set_option linter.unusedVariables false
set_option linter.unusedSimpArgs false
attribute [local go_sem] Later.cell Later.frozen setCell_twice
set_option maxRecDepth 100000 in
set_option maxHeartbeats 2000000 in
theorem rturned_any (l : List Nat) (A : Option Addr) (m c at_ turns : Nat) (w : World) (hm : l.length = m) (h : Sq byw w w.heap.size A l) (hu : ∀ x ∈ l, x < 256) (h1 : 1 ≤ m) (h3 : m ≤ 300) (hat : at_ < 65536) (htu : turns < 65536) :
    Calls Try.prog 24 #[.slice A m c, .int .u16 (at_ : Int), .int .u16 (turns : Int)] w fun e w' => ∃ A' c', e = .returned (.slice A' m c') ∧ w'.ownsRow w.heap.size 5 1 (.slice A' m c') m ((Bu.turned l at_ turns).map byw) ∧ Below w.heap.size w w' := by
  obtain ⟨i0, hif, hz0, hz1, hz2⟩ := info_parts info_b8
  have HM := Lib.hid hm
  have H := Lib.hid h
  have HU := Lib.hid hu
  obtain ⟨f, hf⟩ : ∃ f, at_ % (8 * m) = f := ⟨_, rfl⟩
  have hfl : f < 8 * m := by rw [← hf]; exact Nat.mod_lt _ (by omega)
  have hfI : (at_ : Int) % (8 * (m : Int)) = (f : Int) := by rw [← hf]; simp
  have hT : Bu.turned l at_ turns = Bu.turn (Bu.tset f turns 16) l := by unfold Bu.turned; rw [hm, hf]
  have HT := Lib.hid hT
  have HF := Lib.hid hf
  clear hm h hu hf hT
  go_enter Try.func24, Try.ntmps24
  go_wp2
  rw [hfI]
  clear hfI
  go_loopw [7, 9] (fun ov i wr => ∃ (k : Nat) (A' : Option Addr) (c' : Nat), k ≤ m ∧ i = .int .i64 (k : Int) ∧ ov = .slice A' k c' ∧ Hid (wr.ownsRow w.heap.size 5 1 (.slice A' k c') k (((Bu.turn (Bu.tset f turns 16) l).take k).map byw) ∧ Below w.heap.size w wr)) (fun _ i _ => m - (intOf i).toNat)
  case atStart => exact ⟨0, none, 0, by omega, rfl, rfl, Lib.hid ⟨World.ownsRow_nil _ _ _ _, Below.refl _ _⟩⟩
  case round =>
    rename World => wr
    obtain ⟨k, A', c', hk, rfl, rfl, HC⟩ := hrel
    by_cases hlt : k < m
    · obtain ⟨bx, hbx⟩ : ∃ bx, l[k]? = some bx := ⟨_, List.getElem?_eq_getElem (by rw [HM.out]; exact hlt)⟩
      obtain ⟨gb, ob, rfl, hgb, hcb⟩ := (H.out.below HC.out.2) (by rw [HM.out]; omega)
      have d0 : wr.cell? ⟨gb, ob + k, none⟩ = some (.int .u8 (bx : Int)) := hcb k bx hbx
      have hbl := HU.out bx (List.mem_of_getElem? hbx)
      have HBX := Lib.hid hbx
      have hltI : (k : Int) < (m : Int) := by omega
      have h0I : (0 : Int) ≤ (k : Int) := by omega
      obtain ⟨T, hT⟩ : ∃ T, Bu.tset f turns 16 = T := ⟨_, rfl⟩
      have HTT := Lib.hid hT
      clear hbx hcb hT
      go_upto_region 9 with fail
      go_loopw [10, 11, 12] (fun xv wv kv ws => ∃ q X W : Nat, q ≤ 8 ∧ kv = .int .i64 (q : Int) ∧ xv = .int .u8 (X : Int) ∧ wv = .int .u8 (W : Int) ∧ Hid (Bu.bitsTo T k bx q = X ∧ 2 ^ q % 256 = W) ∧ ws = wr) (fun _ _ i _ => 8 - (intOf i).toNat)
      case atStart => exact ⟨0, bx, 1, by omega, rfl, rfl, rfl, Lib.hid ⟨Bu.bitsTo_zero _ _ _, rfl⟩, rfl⟩
      case round =>
        rename World => ws
        obtain ⟨q, X, W, hq, rfl, rfl, rfl, HXW, rfl⟩ := hrel
        by_cases hlq : q < 8
        · have hlqI : (q : Int) < 8 := by omega
          obtain ⟨d, hd⟩ : ∃ d : Int, 8 * (k : Int) + (q : Int) - (f : Int) = d := ⟨_, rfl⟩
          have HD := Lib.hid hd
          have hXl : X < 256 := by rw [← HXW.out.1]; exact Bu.bitsTo_lt hbl (by omega)
          have hWl : W < 256 := by rw [← HXW.out.2]; exact Nat.mod_lt _ (by decide)
          obtain ⟨W2, hW2⟩ : ∃ W2, 2 ^ (q + 1) % 256 = W2 := ⟨_, rfl⟩
          have HW2 := Lib.hid hW2
          have hww : IntKind.u8.wrap ((W : Int) * 2) = (W2 : Int) := by
            have e1 : IntKind.u8.wrap ((W : Int) * 2) = ((W : Int) * 2) % 256 := by simp [IntKind.wrap, IntKind.bits, IntKind.signed]
            have e2 : W * 2 % 256 = W2 := by rw [← HXW.out.2, ← HW2.out, Nat.pow_succ]; omega
            omega
          have hTT2 : T (8 * k + q) = decide (0 ≤ d ∧ d < 16 ∧ turns / 2 ^ d.toNat % 2 = 1) := by
            rw [← HTT.out, Bu.tset_test, decide_eq_decide]
            have hdd := HD.out
            constructor
            · rintro ⟨a1, a2, a3⟩
              exact ⟨by omega, by omega, by rw [show d.toNat = 8 * k + q - f by omega]; exact a3⟩
            · rintro ⟨a1, a2, a3⟩
              exact ⟨by omega, by omega, by rw [show 8 * k + q - f = d.toNat by omega]; exact a3⟩
          have HT2 := Lib.hid hTT2
          clear hW2 hTT2
          go_wp2
          go_loopw [14, 15] (fun hv jv wq => ∃ (j X3 : Nat), j ≤ 16 ∧ jv = .int .i64 (j : Int) ∧ hv = .int .u16 (X3 : Int) ∧ Hid (turns / 2 ^ j = X3 ∧ (0 < j → (j : Int) ≤ d)) ∧ wq = ws) (fun _ i _ => 16 - (intOf i).toNat)
          case atStart => exact ⟨0, turns, by omega, rfl, rfl, Lib.hid ⟨by simp, fun h => absurd h (by omega)⟩, rfl⟩
          case round =>
            rename World => wq
            obtain ⟨j, X3, hj, rfl, rfl, HX3, rfl⟩ := hrel
            by_cases hj1 : (j : Int) < d
            rotate_left
            · have g1 : decide ((j : Int) < d) = false := decide_eq_false hj1
              have hX3 : 0 ≤ d → d < 16 → turns / 2 ^ d.toNat = X3 := fun a1 a2 => by
                have h9 := HX3.out.2
                rw [← HX3.out.1, show d.toNat = j by omega]
              have H33 := Lib.hid hX3
              clear hX3 HX3
              obtain ⟨X4, hX4⟩ : ∃ X4, X3 % 2 = X4 := ⟨_, rfl⟩
              have hX4I : (X3 : Int) % 2 = (X4 : Int) := by omega
              have HX4 := Lib.hid hX4
              clear hX4
              by_cases y1 : 0 ≤ d
              rotate_left
              · have z1 : decide (0 ≤ d) = false := decide_eq_false y1
                have hT3 : T (8 * k + q) = false := by rw [HT2.out]; exact decide_eq_false (fun e => y1 e.1)
                clear y1 HT2 H33
                have hno : Bu.bitsTo T k bx (q + 1) = X := by rw [Bu.bitsTo_no hT3]; exact HXW.out.1
                have HNO := Lib.hid hno
                clear hno hT3
                go_wp2
                try rw [hww]
                go_roundw
                case rel => exact ⟨q + 1, X, W2, by omega, by go_num, rfl, by first | rfl | (rw [hww]), Lib.hid ⟨HNO.out, HW2.out⟩, by first | rfl | trivial⟩
                case measure => simp [intOf]; omega
              have z1 : decide (0 ≤ d) = true := decide_eq_true y1
              by_cases y2 : d < 16
              rotate_left
              · have z2 : decide (d < 16) = false := decide_eq_false y2
                have hT3 : T (8 * k + q) = false := by rw [HT2.out]; exact decide_eq_false (fun e => y2 e.2.1)
                clear y1 y2 HT2 H33
                have hno : Bu.bitsTo T k bx (q + 1) = X := by rw [Bu.bitsTo_no hT3]; exact HXW.out.1
                have HNO := Lib.hid hno
                clear hno hT3
                go_wp2
                try rw [hww]
                go_roundw
                case rel => exact ⟨q + 1, X, W2, by omega, by go_num, rfl, by first | rfl | (rw [hww]), Lib.hid ⟨HNO.out, HW2.out⟩, by first | rfl | trivial⟩
                case measure => simp [intOf]; omega
              have z2 : decide (d < 16) = true := decide_eq_true y2
              by_cases y3 : X4 = 1
              rotate_left
              · have z3 : ((X4 : Int) == 1) = false := beq_eq_false_iff_ne.2 (by omega)
                have hT3 : T (8 * k + q) = false := by rw [HT2.out]; exact decide_eq_false (fun e => y3 (by rw [← HX4.out, ← H33.out y1 y2]; exact e.2.2))
                clear y1 y2 y3 HT2 H33
                have hno : Bu.bitsTo T k bx (q + 1) = X := by rw [Bu.bitsTo_no hT3]; exact HXW.out.1
                have HNO := Lib.hid hno
                clear hno hT3
                go_wp2
                try rw [hww]
                go_roundw
                case rel => exact ⟨q + 1, X, W2, by omega, by go_num, rfl, by first | rfl | (rw [hww]), Lib.hid ⟨HNO.out, HW2.out⟩, by first | rfl | trivial⟩
                case measure => simp [intOf]; omega
              have z3 : ((X4 : Int) == 1) = true := by simp [y3]
              have hT3 : T (8 * k + q) = true := by rw [HT2.out]; exact decide_eq_true ⟨y1, y2, by rw [H33.out y1 y2, HX4.out]; exact y3⟩
              obtain ⟨X5, hX5⟩ : ∃ X5, X ^^^ W = X5 := ⟨_, rfl⟩
              have hxor : bits .xor .u8 (X : Int) (W : Int) = (X5 : Int) := by rw [u8_xor_nat _ _ hXl hWl, hX5]
              have hys : Bu.bitsTo T k bx (q + 1) = X5 := by
                rw [Bu.bitsTo_yes hT3, HXW.out.1, ← hX5, ← HXW.out.2, Nat.mod_eq_of_lt (Nat.lt_of_lt_of_le (Nat.pow_lt_pow_right (by decide) hlq) (by decide))]
              have HYS := Lib.hid hys
              clear y1 y2 y3 HT2 H33 hT3 hys hX5
              go_wp2
              try rw [hxor]
              try rw [hww]
              go_roundw
              case rel => exact ⟨q + 1, X5, W2, by omega, by go_num, by first | rfl | (rw [hxor]), by first | rfl | (rw [hww]), Lib.hid ⟨HYS.out, HW2.out⟩, by first | rfl | trivial⟩
              case measure => simp [intOf]; omega
            have g1 : decide ((j : Int) < d) = true := decide_eq_true hj1
            by_cases hj2 : j < 16
            rotate_left
            · have g2 : decide ((j : Int) < 16) = false := decide_eq_false (by omega)
              have hX3 : 0 ≤ d → d < 16 → turns / 2 ^ d.toNat = X3 := fun a1 a2 => by
                have h9 := HX3.out.2
                rw [← HX3.out.1, show d.toNat = j by omega]
              have H33 := Lib.hid hX3
              clear hX3 HX3
              obtain ⟨X4, hX4⟩ : ∃ X4, X3 % 2 = X4 := ⟨_, rfl⟩
              have hX4I : (X3 : Int) % 2 = (X4 : Int) := by omega
              have HX4 := Lib.hid hX4
              clear hX4
              by_cases y1 : 0 ≤ d
              rotate_left
              · have z1 : decide (0 ≤ d) = false := decide_eq_false y1
                have hT3 : T (8 * k + q) = false := by rw [HT2.out]; exact decide_eq_false (fun e => y1 e.1)
                clear y1 HT2 H33
                have hno : Bu.bitsTo T k bx (q + 1) = X := by rw [Bu.bitsTo_no hT3]; exact HXW.out.1
                have HNO := Lib.hid hno
                clear hno hT3
                go_wp2
                try rw [hww]
                go_roundw
                case rel => exact ⟨q + 1, X, W2, by omega, by go_num, rfl, by first | rfl | (rw [hww]), Lib.hid ⟨HNO.out, HW2.out⟩, by first | rfl | trivial⟩
                case measure => simp [intOf]; omega
              have z1 : decide (0 ≤ d) = true := decide_eq_true y1
              by_cases y2 : d < 16
              rotate_left
              · have z2 : decide (d < 16) = false := decide_eq_false y2
                have hT3 : T (8 * k + q) = false := by rw [HT2.out]; exact decide_eq_false (fun e => y2 e.2.1)
                clear y1 y2 HT2 H33
                have hno : Bu.bitsTo T k bx (q + 1) = X := by rw [Bu.bitsTo_no hT3]; exact HXW.out.1
                have HNO := Lib.hid hno
                clear hno hT3
                go_wp2
                try rw [hww]
                go_roundw
                case rel => exact ⟨q + 1, X, W2, by omega, by go_num, rfl, by first | rfl | (rw [hww]), Lib.hid ⟨HNO.out, HW2.out⟩, by first | rfl | trivial⟩
                case measure => simp [intOf]; omega
              have z2 : decide (d < 16) = true := decide_eq_true y2
              by_cases y3 : X4 = 1
              rotate_left
              · have z3 : ((X4 : Int) == 1) = false := beq_eq_false_iff_ne.2 (by omega)
                have hT3 : T (8 * k + q) = false := by rw [HT2.out]; exact decide_eq_false (fun e => y3 (by rw [← HX4.out, ← H33.out y1 y2]; exact e.2.2))
                clear y1 y2 y3 HT2 H33
                have hno : Bu.bitsTo T k bx (q + 1) = X := by rw [Bu.bitsTo_no hT3]; exact HXW.out.1
                have HNO := Lib.hid hno
                clear hno hT3
                go_wp2
                try rw [hww]
                go_roundw
                case rel => exact ⟨q + 1, X, W2, by omega, by go_num, rfl, by first | rfl | (rw [hww]), Lib.hid ⟨HNO.out, HW2.out⟩, by first | rfl | trivial⟩
                case measure => simp [intOf]; omega
              have z3 : ((X4 : Int) == 1) = true := by simp [y3]
              have hT3 : T (8 * k + q) = true := by rw [HT2.out]; exact decide_eq_true ⟨y1, y2, by rw [H33.out y1 y2, HX4.out]; exact y3⟩
              obtain ⟨X5, hX5⟩ : ∃ X5, X ^^^ W = X5 := ⟨_, rfl⟩
              have hxor : bits .xor .u8 (X : Int) (W : Int) = (X5 : Int) := by rw [u8_xor_nat _ _ hXl hWl, hX5]
              have hys : Bu.bitsTo T k bx (q + 1) = X5 := by
                rw [Bu.bitsTo_yes hT3, HXW.out.1, ← hX5, ← HXW.out.2, Nat.mod_eq_of_lt (Nat.lt_of_lt_of_le (Nat.pow_lt_pow_right (by decide) hlq) (by decide))]
              have HYS := Lib.hid hys
              clear y1 y2 y3 HT2 H33 hT3 hys hX5
              go_wp2
              try rw [hxor]
              try rw [hww]
              go_roundw
              case rel => exact ⟨q + 1, X5, W2, by omega, by go_num, by first | rfl | (rw [hxor]), by first | rfl | (rw [hww]), Lib.hid ⟨HYS.out, HW2.out⟩, by first | rfl | trivial⟩
              case measure => simp [intOf]; omega
            have g2 : decide ((j : Int) < 16) = true := decide_eq_true (by omega)
            obtain ⟨X6, hX6⟩ : ∃ X6, X3 / 2 = X6 := ⟨_, rfl⟩
            have hX6I : (X3 : Int) / 2 = (X6 : Int) := by omega
            have HX6 := Lib.hid hX6
            have hX6l : X6 < 65536 := by
              have h1 : X3 ≤ turns := by rw [← HX3.out.1]; exact Nat.div_le_self _ _
              omega
            have hw6 : IntKind.u16.wrap (X6 : Int) = (X6 : Int) := by
              have e1 : IntKind.u16.wrap (X6 : Int) = (X6 : Int) % 65536 := by simp [IntKind.wrap, IntKind.bits, IntKind.signed]
              omega
            clear hX6
            go_wp2
            go_roundw
            case rel => exact ⟨j + 1, X6, by omega, by go_num, by first | rfl | (rw [hX6I]) | (rw [hw6]), Lib.hid ⟨by rw [← Bu.half_step, HX3.out.1, HX6.out], fun _ => by omega⟩, by first | rfl | trivial⟩
            case measure => simp [intOf]; omega
        · obtain rfl : q = 8 := by omega
          obtain ⟨y, hy⟩ : ∃ y, Bu.bitsTo T k bx 8 = y := ⟨_, rfl⟩
          obtain rfl : y = X := by rw [← hy]; exact HXW.out.1
          have hyl : y < 256 := by rw [← hy]; exact Bu.bitsTo_lt hbl (by decide)
          have HTK : Hid ((Bu.turn (Bu.tset f turns 16) l).take (k + 1) = (Bu.turn (Bu.tset f turns 16) l).take k ++ [y]) := Lib.hid (by rw [← hy, ← HTT.out]; exact Bu.turn_take _ _ _ _ HBX.out)
          have HLK : Hid (((Bu.turn (Bu.tset f turns 16) l).take k).length = k) := Lib.hid (by rw [List.length_take, Bu.turn_length, HM.out]; omega)
          clear hy
          have SY : Hid (Sq byw (ws.alloc (.cells #[.int .u8 (y : Int)] 5)) (ws.heap.size + 1) (some ⟨ws.heap.size, 0, none⟩) [y]) := Lib.hid (by
            have h9 := one_byte (x := y) (RowAt.new ws 5 [.int .u8 (y : Int)])
            rw [World.size_alloc] at h9
            exact h9)
          have hzW := HC.out.2.size
          go_upto_region 5 with (at_builtin; go_loud (refine wpList_append_sq (f := byw) _ rfl (.tmp 70) (.tmp 72) 34 rfl (fun _ => rfl) w.heap.size 5 i0 _ _ Try.underlying34 hif hz0 rfl hz1 hz2 (by decide) (.slice A' k c') ((Bu.turn (Bu.tset f turns 16) l).take k) rfl (by rw [HLK.out]; exact own_below HC.out.1 (bel_alloc (Below.refl _ _) _)) (ws.heap.size + 1) (some ⟨ws.heap.size, 0, none⟩) [y] 1 1 rfl rfl SY.out (by simp) (by rw [HLK.out]; omega) (by simp; omega) ?_; intro A5 c5 w5 o5 g5 b5; have O5 := Lib.hid o5; have B5 := Lib.hid b5; clear o5 g5 b5))
          have HL5 : Hid (((Bu.turn (Bu.tset f turns 16) l).take k ++ [y]).length = k + 1) := Lib.hid (by rw [List.length_append, HLK.out]; rfl)
          try rw [HL5.out]
          have O6 : Hid (w5.ownsRow w.heap.size 5 1 (.slice A5 (k + 1) c5) (k + 1) (((Bu.turn (Bu.tset f turns 16) l).take (k + 1)).map byw)) := Lib.hid (by have h9 := O5.out; rw [HL5.out] at h9; rw [HTK.out]; exact h9)
          have B6 : Hid (Below w.heap.size w w5) := Lib.hid ((HC.out.2.alloc hzW _).trans B5.out)
          clear O5 B5
          go_wp2
          go_roundw
          case rel => exact ⟨k + 1, A5, c5, by omega, by go_num, by first | rfl | (simp [Bu.turn_length, HM.out]; omega), Lib.hid ⟨O6.out, B6.out⟩⟩
          case measure => simp [intOf]; omega
    · obtain rfl : k = m := by omega
      go_wp2
      go_ret
      exact ⟨A', c', rfl, by have h9 := HC.out.1; rw [List.take_of_length_le (by rw [Bu.turn_length, HM.out]; exact Nat.le_refl _)] at h9; rw [HT.out]; exact h9, HC.out.2⟩
end Go.Proofs.Ythigkmoilfdciaa
