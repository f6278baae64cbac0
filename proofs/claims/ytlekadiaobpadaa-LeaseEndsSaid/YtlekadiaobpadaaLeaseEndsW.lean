/- LeaseEnds: the walk. -/
import Derived.Test.YtlekadiaobpadaaBox
namespace Go.Proofs.Ytlekadiaobpadaa
open Go.RowKit
set_option linter.unusedVariables false
attribute [local go_sem] Later.cell Later.frozen setCell_twice lease_fld0 lease_fld1
namespace Ls
theorem take_free {ow : Nat} {t : Int} (h : ow ≠ 0) (ht : 1 ≤ t) : take ⟨0, 0⟩ ow t = (⟨ow, t⟩, 0) := by
  have : ¬ t < 1 := by omega
  simp [take, counted_of_right (x := ⟨0, 0⟩) rfl, takeC, h, this]
theorem take_own {ow : Nat} {l t : Int} (h : ow ≠ 0) (hl : 1 ≤ l) (ht : 1 ≤ t) : take ⟨ow, l⟩ ow t = (⟨ow, t⟩, 0) := by
  have h1 : ¬ t < 1 := by omega
  have h2 : ¬ l = -1 := by omega
  simp [take, counted_of_right (right_of_runs (x := ⟨ow, l⟩) h hl), takeC, h, h1, h2]
theorem tick_on {ow : Nat} {l : Int} (h : ow ≠ 0) (hl : 2 ≤ l) : tick ⟨ow, l⟩ = (⟨ow, l - 1⟩, false) := by
  unfold tick
  rw [counted_of_right (right_of_runs (x := ⟨ow, l⟩) h (by simp only; omega))]
  unfold tickC
  simp only
  rw [if_pos (by omega), if_neg (by omega)]
theorem tick_last {ow : Nat} (h : ow ≠ 0) : tick ⟨ow, 1⟩ = (⟨0, 0⟩, true) := by
  unfold tick
  rw [counted_of_right (right_of_runs (x := ⟨ow, 1⟩) h (by simp only; omega))]
  rfl
theorem tick_free : tick ⟨0, 0⟩ = (⟨0, 0⟩, false) := rfl
theorem free_runs {ow : Nat} {l : Int} (h : ow ≠ 0) (hl : 1 ≤ l) : free ⟨ow, l⟩ = false := by
  unfold free
  rw [counted_of_right (right_of_runs (x := ⟨ow, l⟩) h hl)]
  simpa using h
end Ls

set_option maxRecDepth 100000 in
set_option maxHeartbeats 4000000 in
theorem leaseEnds_walk (ow fi se wh : Nat) (w : World) (how : ow < 65536) (h1 : fi < 65536) (h2 : se < 65536) (h3 : wh < 65536) :
    Calls Try.prog 5 #[.int .u16 (ow : Int), .int .u16 (fi : Int), .int .u16 (se : Int), .int .u16 (wh : Int)] w fun e w' => e = .returned (.bool true) ∧ Below w.heap.size w w' := by
  by_cases h0 : ow = 0
  · subst h0
    go_enter Try.func5, Try.ntmps5
    go_wp2_with fail
    refine (awake_any _).mono ?_
    rintro e_x1 w_x1 ⟨rfl, hb_x1⟩
    obtain ⟨x1, rfl⟩ := later_is hb_x1
    clear hb_x1
    have hz_x1 := x1.bel.size
    try simp at hz_x1
    go_wp2
    go_ret
    exact ⟨rfl, (by repeat (first | exact Below.refl _ _ | refine bel_later _ ?_ | refine bel_alloc ?_ _ | refine bel_set ?_ (by first | omega | (simp; done) | (simp; omega)) _ | refine Below.drew ?_ | assumption))⟩
  have h0' : ((ow : Int) == 0) = false := beq_eq_false_iff_ne.2 (by omega)
  obtain ⟨n, hn⟩ : ∃ n : Nat, (n : Int) = 1 + (fi : Int) % 300 := ⟨1 + fi % 300, by omega⟩
  obtain ⟨m, hm⟩ : ∃ m : Nat, (m : Int) = 1 + (se : Int) % 300 := ⟨1 + se % 300, by omega⟩
  obtain ⟨k, hk⟩ : ∃ k : Nat, (k : Int) = (wh : Int) % (n : Int) := ⟨wh % n, by simp⟩
  have hn1 : 1 ≤ n ∧ n ≤ 300 := by omega
  have hm1 : 1 ≤ m ∧ m ≤ 300 := by omega
  have hk1 : k < n := by have := Int.emod_lt_of_pos (wh : Int) (show 0 < (n : Int) by omega); omega
  have Hn := Lib.hid hn; have Hm := Lib.hid hm; have Hk := Lib.hid hk
  clear hn hm hk
  have kt := Lib.hid (fun w => take_at ⟨0, 0⟩ ⟨ow, n⟩ ow 0 0 ow n ow n 0 w fit00 how (by omega) rfl rfl rfl rfl rfl (Ls.take_free h0 (by omega)))
  go_enter Try.func5, Try.ntmps5
  go_wp2_with fail
  rw [← Hn.out, ← Hm.out]
  refine (kt.out _).mono ?_
  rintro e w1 ⟨rfl, hb⟩
  obtain ⟨x1, rfl⟩ := later_is hb
  clear hb
  have hz1 := x1.bel.size
  go_wp2
  rw [← Hk.out]
  clear Hk Hn Hm kt
  obtain ⟨W1, hW1⟩ : ∃ W1, W1 = x1.val.alloc (.cells #[.int .u16 (ow : Int), .int .i64 (n : Int)] 24) := ⟨_, rfl⟩
  have hbel : Below w.heap.size w W1 := by rw [hW1]; exact (by repeat (first | exact Below.refl _ _ | refine bel_later _ ?_ | refine bel_alloc ?_ _ | refine bel_set ?_ (by first | omega | (simp; done) | (simp; omega)) _ | refine Below.drew ?_ | assumption))
  have hbox : Box W1 x1.val.heap.size ow n := by rw [hW1]; exact Box.new _ _ _ _
  rw [← hW1]
  clear hW1
  generalize x1.val.heap.size = b at *
  clear x1
  go_loopw [45] (fun i wr => ∃ j : Nat, j ≤ k ∧ i = .int .i64 j ∧ Box wr b ow ((n : Int) - j) ∧ Below w.heap.size w wr) (fun i _ => k - (intOf i).toNat)
  case atStart => exact ⟨0, by omega, rfl, by simpa using hbox, hbel⟩
  case round =>
    clear hbox hbel
    obtain ⟨j, hj, rfl, hbox, hbel⟩ := hrel
    obtain ⟨c0, c1, f0, f1⟩ := hbox
    have hbw : b < wr.heap.size := block_lt_of_cell c0
    by_cases hlt : j < k
    · have kt := Lib.hid (fun w => tick_at ⟨ow, (n : Int) - j⟩ ⟨ow, (n : Int) - j - 1⟩ false ow ((n : Int) - j) ow ((n : Int) - j - 1) w ⟨how, by simp only; omega, by simp only; omega⟩ rfl rfl rfl rfl (Ls.tick_on h0 (by omega)))
      go_wp2_with fail
      refine (kt.out _).mono ?_
      rintro e w2 ⟨rfl, hb2⟩
      obtain ⟨x2, rfl⟩ := later_is hb2
      have d0 := x2.keep c0
      have d1 := x2.keep c1
      have g0 := (x2.frozen b 0 hbw).trans f0
      have g1 := (x2.frozen b 1 hbw).trans f1
      have hbx : b < x2.val.heap.size := block_lt_of_cell d0
      clear hb2 kt
      go_wp2
      go_roundw
      case rel =>
        refine ⟨j + 1, by omega, by go_num, ?_, (by repeat (first | exact Below.refl _ _ | refine bel_later _ ?_ | refine bel_alloc ?_ _ | refine bel_set ?_ (by first | omega | (simp; done) | (simp; omega)) _ | refine Below.drew ?_ | assumption))⟩
        rw [show (n : Int) - ((j + 1 : Nat) : Int) = (n : Int) - j - 1 by omega]
        exact ((Box.mk d0 d1 g0 g1).set _ _).alloc _
      case measure => simp [intOf]; omega
    · obtain rfl : j = k := by omega
      have kt := Lib.hid (fun w => take_at ⟨ow, (n : Int) - j⟩ ⟨ow, m⟩ ow ow ((n : Int) - j) ow m ow m 0 w ⟨how, by simp only; omega, by simp only; omega⟩ how (by omega) rfl rfl rfl rfl rfl (Ls.take_own h0 (by omega) (by omega)))
      go_wp2_with fail
      refine (kt.out _).mono ?_
      rintro e w2 ⟨rfl, hb2⟩
      obtain ⟨x2, rfl⟩ := later_is hb2
      have d0 := x2.keep c0
      have d1 := x2.keep c1
      have g0 := (x2.frozen b 0 hbw).trans f0
      have g1 := (x2.frozen b 1 hbw).trans f1
      have hbx : b < x2.val.heap.size := block_lt_of_cell d0
      clear hb2 kt
      go_wp2
      obtain ⟨W2, hW2⟩ : ∃ W2, W2 = (x2.val.setCell ⟨b, 0, none⟩ (.int .u16 (ow : Int))).setCell ⟨b, 1, none⟩ (.int .i64 (m : Int)) := ⟨_, rfl⟩
      have hbel2 : Below w.heap.size w W2 := by rw [hW2]; exact (by repeat (first | exact Below.refl _ _ | refine bel_later _ ?_ | refine bel_alloc ?_ _ | refine bel_set ?_ (by first | omega | (simp; done) | (simp; omega)) _ | refine Below.drew ?_ | assumption))
      have hbox2 : Box W2 b ow m := by rw [hW2]; exact (Box.mk d0 d1 g0 g1).set _ _
      rw [← hW2]
      clear hW2 c0 c1 f0 f1 d0 d1 g0 g1 hbx hbw x2 hbel wr
      go_loopw [77] (fun i wr => ∃ j : Nat, i = .int .i64 j ∧ ((j < m ∧ Box wr b ow ((m : Int) - j)) ∨ (j = m ∧ Box wr b 0 0)) ∧ Below w.heap.size w wr) (fun i _ => m - (intOf i).toNat)
      case atStart => exact ⟨0, rfl, .inl ⟨by omega, by simpa using hbox2⟩, hbel2⟩
      case round =>
        clear hbox2 hbel2
        obtain ⟨i, rfl, hor, hbel⟩ := hrel
        rcases hor with ⟨hlt, c0, c1, f0, f1⟩ | ⟨rfl, c0, c1, f0, f1⟩
        · have hbw : b < wr.heap.size := block_lt_of_cell c0
          by_cases hla : i = m - 1
          · have kt := Lib.hid (fun w => tick_at ⟨ow, (m : Int) - i⟩ ⟨0, 0⟩ true ow ((m : Int) - i) 0 0 w ⟨how, by simp only; omega, by simp only; omega⟩ rfl rfl rfl rfl (by rw [show (m : Int) - i = 1 by omega]; exact Ls.tick_last h0))
            have hq : ((i : Int) == (m : Int) - 1) = true := by rw [beq_iff_eq]; omega
            have HL := Lib.hid hla
            clear hla
            go_wp2_with fail
            refine (kt.out _).mono ?_
            rintro e w2 ⟨rfl, hb2⟩
            obtain ⟨x2, rfl⟩ := later_is hb2
            have d0 := x2.keep c0
            have d1 := x2.keep c1
            have g0 := (x2.frozen b 0 hbw).trans f0
            have g1 := (x2.frozen b 1 hbw).trans f1
            have hbx : b < x2.val.heap.size := block_lt_of_cell d0
            clear hb2 kt
            go_wp2_with fail
            refine (free_at ⟨0, 0⟩ true 0 0 _ fit00 rfl rfl rfl).mono ?_
            rintro e w3 ⟨rfl, hb3⟩
            obtain ⟨x3, rfl⟩ := later_is hb3
            have hz3 := x3.bel.size
            have d0' := x3.keep (keep_alloc d0)
            have d1' := x3.keep (keep_alloc d1)
            have g0' := (x3.frozen b 0 (by simp; omega)).trans (((Below.refl _ _).alloc (Nat.le_refl _) _).frozen (p := ⟨b, 0, none⟩) hbx |>.trans g0)
            have g1' := (x3.frozen b 1 (by simp; omega)).trans (((Below.refl _ _).alloc (Nat.le_refl _) _).frozen (p := ⟨b, 1, none⟩) hbx |>.trans g1)
            have q0 := x3.bel.cell (p := ⟨x2.val.heap.size, 0, none⟩) (by simp)
            have q1 := x3.bel.cell (p := ⟨x2.val.heap.size, 1, none⟩) (by simp)
            simp only [World.cell?_alloc_new] at q0 q1
            have hbx3 : b < x3.val.heap.size := block_lt_of_cell d0'
            clear hb3
            go_wp2
            go_roundw
            case rel =>
              refine ⟨i + 1, by go_num, .inr ⟨?_, ?_⟩, (by repeat (first | exact Below.refl _ _ | refine bel_later _ ?_ | refine bel_alloc ?_ _ | refine bel_set ?_ (by first | omega | (simp; done) | (simp; omega)) _ | refine Below.drew ?_ | assumption))⟩
              · have := HL.out; omega
              · exact (Box.mk d0' d1' g0' g1').set _ _
            case measure => simp [intOf]; omega
          · have kt := Lib.hid (fun w => tick_at ⟨ow, (m : Int) - i⟩ ⟨ow, (m : Int) - i - 1⟩ false ow ((m : Int) - i) ow ((m : Int) - i - 1) w ⟨how, by simp only; omega, by simp only; omega⟩ rfl rfl rfl rfl (Ls.tick_on h0 (by omega)))
            have hq : ((i : Int) == (m : Int) - 1) = false := beq_eq_false_iff_ne.2 (by omega)
            have HL := Lib.hid hla
            have kf := Lib.hid (fun w => free_at ⟨ow, (m : Int) - i - 1⟩ false ow ((m : Int) - i - 1) w ⟨how, by simp only; omega, by simp only; omega⟩ rfl rfl (Ls.free_runs h0 (by omega)))
            clear hla
            go_wp2_with fail
            refine (kt.out _).mono ?_
            rintro e w2 ⟨rfl, hb2⟩
            obtain ⟨x2, rfl⟩ := later_is hb2
            have d0 := x2.keep c0
            have d1 := x2.keep c1
            have g0 := (x2.frozen b 0 hbw).trans f0
            have g1 := (x2.frozen b 1 hbw).trans f1
            have hbx : b < x2.val.heap.size := block_lt_of_cell d0
            clear hb2 kt
            go_wp2_with fail
            refine (kf.out _).mono ?_
            rintro e w3 ⟨rfl, hb3⟩
            obtain ⟨x3, rfl⟩ := later_is hb3
            have hz3 := x3.bel.size
            have d0' := x3.keep (keep_alloc d0)
            have d1' := x3.keep (keep_alloc d1)
            have g0' := (x3.frozen b 0 (by simp; omega)).trans (((Below.refl _ _).alloc (Nat.le_refl _) _).frozen (p := ⟨b, 0, none⟩) hbx |>.trans g0)
            have g1' := (x3.frozen b 1 (by simp; omega)).trans (((Below.refl _ _).alloc (Nat.le_refl _) _).frozen (p := ⟨b, 1, none⟩) hbx |>.trans g1)
            have q0 := x3.bel.cell (p := ⟨x2.val.heap.size, 0, none⟩) (by simp)
            have q1 := x3.bel.cell (p := ⟨x2.val.heap.size, 1, none⟩) (by simp)
            simp only [World.cell?_alloc_new] at q0 q1
            have hbx3 : b < x3.val.heap.size := block_lt_of_cell d0'
            clear hb3 kf
            go_wp2
            go_roundw
            case rel =>
              refine ⟨i + 1, by go_num, .inl ⟨?_, ?_⟩, (by repeat (first | exact Below.refl _ _ | refine bel_later _ ?_ | refine bel_alloc ?_ _ | refine bel_set ?_ (by first | omega | (simp; done) | (simp; omega)) _ | refine Below.drew ?_ | assumption))⟩
              · have := HL.out; omega
              · rw [show (m : Int) - ((i + 1 : Nat) : Int) = (m : Int) - i - 1 by omega]
                exact (Box.mk d0' d1' g0' g1').set _ _
            case measure => simp [intOf]; omega
        · have hbw : b < wr.heap.size := block_lt_of_cell c0
          go_wp2_with fail
          refine (tick_at ⟨0, 0⟩ ⟨0, 0⟩ false 0 0 0 0 _ fit00 rfl rfl rfl rfl rfl).mono ?_
          rintro e w2 ⟨rfl, hb2⟩
          obtain ⟨x2, rfl⟩ := later_is hb2
          have d0 := x2.keep c0
          have d1 := x2.keep c1
          have hbx : b < x2.val.heap.size := block_lt_of_cell d0
          clear hb2
          go_wp2_with fail
          refine (awake_any _).mono ?_
          rintro e w3 ⟨rfl, hb3⟩
          obtain ⟨x3, rfl⟩ := later_is hb3
          clear hb3
          go_wp2
          go_ret
          exact ⟨rfl, (by repeat (first | exact Below.refl _ _ | refine bel_later _ ?_ | refine bel_alloc ?_ _ | refine bel_set ?_ (by first | omega | (simp; done) | (simp; omega)) _ | refine Below.drew ?_ | assumption))⟩
end Go.Proofs.Ytlekadiaobpadaa
