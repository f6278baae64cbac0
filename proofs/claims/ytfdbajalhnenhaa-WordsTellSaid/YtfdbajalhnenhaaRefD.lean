/- The document's words (saucierref06): Bits. -/
import Derived.Test.YtfdbajalhnenhaaRefC
namespace Go.Proofs.Ytfdbajalhnenhaa
open Go.RowKit
set_option linter.unusedVariables false
attribute [local go_sem] Later.cell Later.frozen setCell_twice

theorem refBits_out (A : Option Addr) (c : Nat) (b : List Nat) (n : Int) (w : World) (hl : b.length ≤ 35184372088832) (h : n < 0 ∨ 8 * (b.length : Int) < n) :
    Calls Try.prog 12 #[.slice A b.length c, .int .i64 n] w (Gives Value.bool w []) := by
  by_cases h0 : n < 0
  · have u1 : decide (n < 0) = true := decide_eq_true h0
    clear h h0
    go_enter Try.func12, Try.ntmps12
    go_wp2
    go_ret
    exact Gives.nil (Below.refl _ _)
  · have u1 : decide (n < 0) = false := decide_eq_false h0
    have u2 : decide (8 * (b.length : Int) < n) = true := decide_eq_true (by omega)
    clear h h0
    go_enter Try.func12, Try.ntmps12
    go_wp2
    go_ret
    exact Gives.nil (Below.refl _ _)
set_option maxHeartbeats 2000000 in
theorem refBits_in (A : Option Addr) (c : Nat) (b : List Nat) (m : Nat) (w : World) (hb : Sq u8v w w.heap.size A b) (hbb : ∀ x ∈ b, x < 256) (hl : b.length ≤ 35184372088) (hm : m ≤ 8 * b.length) (r : List Bool) (hr : (if Bt.packBits (Bt.bitsOf b m) = b then Bt.bitsOf b m else []) = r) :
    Calls Try.prog 12 #[.slice A b.length c, .int .i64 (m : Int)] w (Gives Value.bool w r) := by
  obtain ⟨i0, hi, hz0, hz1, hz2⟩ := info_parts info_bool
  have HBL := Lib.hid (Bt.bitsOf_length b m)
  have HR := Lib.hid hr
  clear hr
  have u0 : (m : Int) ≤ 8 * (b.length : Int) := by omega
  go_enter Try.func12, Try.ntmps12
  go_wp2
  go_loopw [5, 6] (fun v i wr => ∃ k : Nat, ∃ A' c', k ≤ m ∧ i = .int .i64 (k : Int) ∧ v = .slice A' k c' ∧ wr.ownsRow w.heap.size 4 1 (.slice A' k c') k (((Bt.bitsOf b m).take k).map Value.bool) ∧ Below w.heap.size w wr)
    (fun _ i _ => m - (intOf i).toNat)
  case atStart => exact ⟨0, none, 0, by omega, rfl, rfl, World.ownsRow_nil _ _ _ _, Below.refl _ _⟩
  case round =>
    obtain ⟨k, A', c', hk, rfl, rfl, hown, hbe⟩ := hrel
    have hsz := hbe.size
    by_cases hlt : k < m
    · obtain ⟨x, hx⟩ : ∃ x, (b.getD (k / 8) 0).testBit (k % 8) = x := ⟨_, rfl⟩
      have HX := Lib.hid hx
      have HS : Hid ((Bt.bitsOf b m).take (k + 1) = (Bt.bitsOf b m).take k ++ [x]) := Lib.hid (by rw [List.take_add_one, Bt.bitsOf_get b hlt, hx]; rfl)
      have HPL : Hid (((Bt.bitsOf b m).take k).length = k) := Lib.hid (by rw [List.length_take, HBL.out]; omega)
      clear hx
      have e4 : (k : Int) < (m : Int) := by omega
      have hbw := hb.to hbe
      generalize (Bt.bitsOf b m).take k = pl at *
      go_wp2_with fail
      refine (refBit_any A c b k x _ hbw hbb (by omega) (by omega) HX.out).mono ?_
      rintro e_ w_ ⟨rfl, rfl⟩
      go_wp2_with (at_builtin; refine wpList_append_sq (f := Value.bool) _ rfl (.tmp 23) (.tmp 27) 23 rfl (fun _ => rfl) w.heap.size 4 i0 _ _ Try.underlying23 hi hz0 rfl hz1 hz2 (by decide) (.slice A' k c') pl rfl (by rw [HPL.out]; exact hown.alloc _) (wr.heap.size + 1) _ [x] 1 1 rfl rfl (Sq.lits _ _ _ _ _ _ _ rfl (by simp) (by simp)) (by simp) ?ra1 ?ra2 ?_)
      case ra1 => rw [HPL.out]; omega
      case ra2 => first | omega | (simp; omega)
      intro B2 c2 W2 hown2 hg2 hb2
      have hb3 : Below w.heap.size w W2 := (bel_alloc hbe _).trans hb2
      clear hg2 hb2 hown hbe hbw
      try rw [HPL.out]
      go_wp2
      go_roundw
      case rel => exact ⟨k + 1, B2, c2, by omega, by go_num, by simp, by rw [HS.out]; simpa [HPL.out] using hown2, hb3⟩
      case measure => simp [intOf]; omega
    · obtain rfl : k = m := by omega
      rw [List.take_of_length_le (by have := HBL.out; omega)] at hown
      have so : Sq Value.bool wr wr.heap.size A' (Bt.bitsOf b k) := Sq.of_own hown
      have no := own_nil_c hown
      have HPK : Hid (∀ (W : World) (s : Sq Value.bool W W.heap.size A' (Bt.bitsOf b k)), Calls Try.prog 15 #[.slice A' k c'] W (Gives u8v W (Bt.packBits (Bt.bitsOf b k)))) := Lib.hid fun W s => by
        have h := refPackBits_any A' c' (Bt.bitsOf b k) W s (by rw [HBL.out]; omega)
        rw [HBL.out] at h
        exact h
      have hpb := Bt.packBits_byte (Bt.bitsOf b k)
      generalize Bt.packBits (Bt.bitsOf b k) = pk at *
      generalize Bt.bitsOf b k = bo at *
      clear hown
      go_wp2_with fail
      refine (HPK.out _ so).mono ?_
      rintro e_x1 w_x1 ⟨Ax1, cx1, rfl, sx1, nx1, mx1, hb_x1⟩
      obtain ⟨x1, rfl⟩ := later_is hb_x1
      clear hb_x1
      have hz_x1 := x1.bel.size
      try simp at hz_x1
      have hbx := bel_later x1 hbe
      have sox := so.to x1.bel
      have hbb1 := hb.to hbx
      by_cases hL : pk.length = b.length
      · have u3 : ((pk.length : Int) != (b.length : Int)) = false := by rw [bne_eq_false_iff_eq]; omega
        have HL := Lib.hid hL
        clear hL
        go_wp2
        go_loopw [8] (fun i wr2 => ∃ j : Nat, j ≤ b.length ∧ i = .int .i64 (j : Int) ∧ b.take j = pk.take j ∧ Below x1.val.heap.size x1.val wr2) (fun i _ => b.length - (intOf i).toNat)
        case atStart => exact ⟨0, by omega, rfl, by simp, Below.refl _ _⟩
        case round =>
          obtain ⟨j, hj, rfl, heq, hbel⟩ := hrel
          have HQ := Lib.hid heq
          have hbf : Below w.heap.size w wr := hbx.trans (hbel.mono hbx.size)
          clear heq
          by_cases hlt2 : j < b.length
          · have hlt3 : j < pk.length := by have := HL.out; omega
            obtain ⟨b1, o1, x, rfl, hb1, hx, hc1⟩ := hbb1.at_ hlt2
            obtain ⟨b2, o2, y, rfl, hb2, hy, hc2⟩ := sx1.at_ hlt3
            have d1 : wr.cell? ⟨b1, o1 + j, none⟩ = _ := (hbel.cell (p := ⟨b1, o1 + j, none⟩) hb1).trans hc1
            have d2 : wr.cell? ⟨b2, o2 + j, none⟩ = _ := (hbel.cell (p := ⟨b2, o2 + j, none⟩) hb2).trans hc2
            have g1 : b1 < wr.heap.size := Nat.lt_of_lt_of_le hb1 hbel.size
            have g2 : b2 < wr.heap.size := Nat.lt_of_lt_of_le hb2 hbel.size
            have e1 : (j : Int) < (b.length : Int) := by omega
            have e2 : (j : Int) < (pk.length : Int) := by omega
            have HX := Lib.hid hx
            have HY := Lib.hid hy
            clear hc1 hc2 hx hy
            try simp only at d1 d2
            by_cases hxy : x = y
            · subst hxy
              go_wp2
              refine wp_region_lat (by kernel_rfl) (by kernel_rfl) ?_
              repeat (go_big_quiet_step (fail))
              refine wpQuiet_nil ?_
              rintro _ ⟨x3, rfl⟩
              have hz_x3 := x3.bel.size
              try simp at hz_x3
              go_wp2
              go_roundw
              case rel => exact ⟨j + 1, by omega, by go_num, by rw [List.take_add_one, List.take_add_one, HQ.out, HX.out, HY.out], bel_later x3 hbel⟩
              case measure => simp [intOf]; omega
            · have hne : pk ≠ b := by
                intro h
                have h1 := HX.out
                rw [← h, HY.out] at h1
                exact hxy (by simpa using h1.symm)
              have HR2 : Hid (r = []) := Lib.hid (by rw [← HR.out, if_neg hne])
              have u4 : ((x : Int) != (y : Int)) = true := by rw [bne_iff_ne]; omega
              clear hne hxy
              go_wp2
              refine wp_region_lat (by kernel_rfl) (by kernel_rfl) ?_
              repeat (go_big_quiet_step (fail))
              refine wpQuiet_nil ?_
              rintro _ ⟨x3, rfl⟩
              have hz_x3 := x3.bel.size
              try simp at hz_x3
              go_wp2
              go_ret
              rw [HR2.out]
              exact Gives.nil (bel_later x3 hbf)
          · have hkl : j = b.length := by omega
            have hpe : pk = b := by
              have h1 := HQ.out
              rw [List.take_of_length_le (by omega), List.take_of_length_le (by have := HL.out; omega)] at h1
              exact h1.symm
            have HR2 : Hid (r = bo) := Lib.hid (by rw [← HR.out, if_pos hpe])
            clear hpe
            have HBL2 := Lib.hid (HBL.out)
            go_wp2
            go_ret
            rw [HR2.out]
            exact ⟨A', c', by rw [HBL2.out]; rfl, sox.to hbel, no.1, by have := HBL2.out; omega, hbf⟩
      · have u3 : ((pk.length : Int) != (b.length : Int)) = true := by rw [bne_iff_ne]; omega
        have HR2 : Hid (r = []) := Lib.hid (by rw [← HR.out, if_neg (fun h => hL (by rw [h]))])
        clear hL
        go_wp2
        go_ret
        rw [HR2.out]
        exact Gives.nil hbx
end Go.Proofs.Ytfdbajalhnenhaa
