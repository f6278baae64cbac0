/- The document's words (saucierref06): PackBits, PackRegs, Regs, Wide, Signed. -/
import Derived.Test.YtfdbajalhnenhaaWAdd
import Derived.StillTailTactics
namespace Go.Proofs.Ytfdbajalhnenhaa
open Go.RowKit
set_option linter.unusedVariables false
attribute [local go_sem] Later.cell Later.frozen setCell_twice

set_option maxHeartbeats 2000000 in
theorem refPackBits_any (A : Option Addr) (c : Nat) (l : List Bool) (w : World) (h : Sq Value.bool w w.heap.size A l) (hn : l.length ≤ 35184372088832) :
    Calls Try.prog 15 #[.slice A l.length c] w (Gives u8v w (Bt.packBits l)) := by
  obtain ⟨i0, hi, hz0, hz1, hz2⟩ := info_parts info_byte
  go_enter Try.func15, Try.ntmps15
  go_wp2
  go_loopw [3, 4, 5, 6] (fun v i _ _ wr => ∃ k M : Nat, ∃ A' c', k ≤ l.length ∧ i = .int .i64 k ∧ M = Bt.many k ∧ v = .slice A' M c' ∧ wr.ownsRow w.heap.size 5 1 (.slice A' M c') M ((Bt.packN (l.take k) M).map u8v) ∧ Below w.heap.size w wr)
    (fun _ i _ _ _ => l.length - (intOf i).toNat)
  case atStart => exact ⟨0, 0, none, 0, by omega, rfl, rfl, rfl, World.ownsRow_nil _ _ _ _, Below.refl _ _⟩
  case round =>
    obtain ⟨k, M, A', c', hk, rfl, hM, rfl, hown, hbe⟩ := hrel
    by_cases hlt : k < l.length
    · obtain ⟨b, o, x, rfl, hbw, hx, hc0⟩ := h.at_ hlt
      have hsz := hbe.size
      have hgx : l.getD k false = x := by rw [List.getD_eq_getElem?_getD, hx]; rfl
      have e4 : (k : Int) < (l.length : Int) := by omega
      obtain ⟨q, hq⟩ : ∃ q, q = k / 8 := ⟨_, rfl⟩
      have HQ := Lib.hid hq
      have hq1 : 8 * q ≤ k := by omega
      have hq2 : k < 8 * q + 8 := by omega
      clear hq
      by_cases h8 : k % 8 = 0
      · have u8 : ((k : Int) % 8 == 0) = true := by simp; omega
        obtain rfl : q = M := by rw [hM]; have := HQ.out; unfold Bt.many; omega
        have HS := Lib.hid (Bt.packN_snoc (l.take k) q (by rw [List.length_take]; omega))
        have HPL := Lib.hid (Bt.packN_length (l.take k) q)
        generalize Bt.packN (l.take k) q = pl at *
        go_wp2_with (at_builtin; refine wpList_append_sq (f := u8v) _ rfl (.tmp 16) (.tmp 17) 22 rfl (fun _ => rfl) w.heap.size 5 i0 _ _ Try.underlying22 hi hz0 rfl hz1 hz2 (by decide) (.slice A' q c') pl rfl (by rw [HPL.out]; exact hown.alloc _) (wr.heap.size + 1) _ [0] 1 1 rfl rfl (Sq.lits _ _ _ _ _ _ _ rfl (by simp) (by simp)) (by simp) ?ra1 ?ra2 ?_)
        case ra1 => rw [HPL.out]; omega
        case ra2 => first | omega | (simp; omega)
        intro B1 c1 W1 hown1x hg1x hb1
        have hbe1 : Below w.heap.size w W1 := (bel_alloc hbe _).trans hb1
        have hown1 : W1.ownsRow w.heap.size 5 1 (.slice B1 (q + 1) c1) (q + 1) ((Bt.packN (l.take k) (q + 1)).map u8v) := by
          rw [HS.out]
          simpa [HPL.out] using hown1x
        clear hown1x hg1x hb1 hown hbe h8 hM
        try rw [HPL.out]
        have hc : W1.cell? ⟨b, o + k, none⟩ = some (.bool x) := (hbe1.cell (p := ⟨b, o + k, none⟩) hbw).trans hc0
        have HM1 := Lib.hid (show q + 1 = Bt.many (k + 1) by have := HQ.out; unfold Bt.many; omega)
        cases x
        · have HP := Lib.hid (Bt.packN_skip l (i := k) (N := q + 1) hgx)
          clear hgx hx hc0
          go_wp2
          go_roundw
          case rel => exact ⟨k + 1, q + 1, B1, c1, by omega, by go_num, HM1.out, by simp, by rw [HP.out]; exact hown1, hbe1⟩
          case measure => simp [intOf]; omega
        · have HP := Lib.hid (Bt.packN_set l (i := k) (N := q + 1) hgx (by have := HQ.out; omega))
          have hy := Bt.packN_get (l.take k) (show k / 8 < q + 1 by have := HQ.out; omega)
          have hfr := Bt.byteOf_fresh l k
          have HP3 : Hid (Bt.packN (l.take (k + 1)) (q + 1) = (Bt.packN (l.take k) (q + 1)).set q (Bt.byteOf (l.take k) q ||| 2 ^ (k % 8))) := Lib.hid (by rw [HP.out, ← HQ.out])
          clear HP
          rw [← HQ.out] at hy hfr
          generalize Bt.byteOf (l.take k) q = y at *
          have HOR := Lib.hid (Bt.or_add hfr)
          have hp8 : 2 ^ (k % 8) ≤ 128 := show 2 ^ (k % 8) ≤ 2 ^ 7 from Nat.pow_le_pow_right (by omega) (by omega)
          obtain ⟨g, rfl, hg1, hg2⟩ := own_some hown1 (by omega)
          have d0 : W1.cell? ⟨g, q, none⟩ = some (.int .u8 (y : Int)) := (hown1.cellAt _ (by omega)).trans (map_get hy)
          have f0 := hown1.frozenAt q
          clear hgx hx hc0 hy
          go_wp2
          go_loop [5, 6] (fun v j => ∃ t : Nat, t ≤ k % 8 ∧ j = .int .i64 t ∧ v = .int .u8 ((2 ^ t : Nat) : Int)) (fun _ j => k % 8 - (intOf j).toNat)
          case atStart => exact ⟨0, by omega, rfl, rfl⟩
          case round =>
            obtain ⟨t, ht, rfl, rfl⟩ := hrel
            by_cases h2 : t < k % 8
            · have e8 : (t : Int) < (k : Int) % 8 := by omega
              have p1 : 2 ^ t ≤ 64 := show 2 ^ t ≤ 2 ^ 6 from Nat.pow_le_pow_right (by omega) (by omega)
              have HP2 := Lib.hid (show 2 ^ (t + 1) = 2 ^ t * 2 from Nat.pow_succ ..)
              generalize 2 ^ t = z at *
              go_wp2
              go_round
              case rel => exact ⟨t + 1, by omega, by go_num, by rw [HP2.out]; go_num⟩
              case measure => simp [intOf]; omega
            · obtain rfl : t = k % 8 := by omega
              generalize 2 ^ (k % 8) = z at *
              go_wp2
              go_roundw
              case rel =>
                refine ⟨k + 1, q + 1, some ⟨g, 0, none⟩, c1, by omega, by go_num, HM1.out, by simp, ?_, hbe1.setCell hg1 _⟩
                have hs := (hown1.stored q (.int .u8 ((y ||| z : Nat) : Int))).1
                rw [HP3.out, List.map_set]
                rw [HOR.out] at hs ⊢
                exact hs
              case measure => simp [intOf]; omega
      · have u8 : ((k : Int) % 8 == 0) = false := by simp; omega
        obtain rfl : M = q + 1 := by rw [hM]; have := HQ.out; unfold Bt.many; omega
        obtain ⟨W1, rfl⟩ : ∃ W1, W1 = wr := ⟨_, rfl⟩
        obtain ⟨B1, rfl⟩ : ∃ B1, B1 = A' := ⟨_, rfl⟩
        obtain ⟨c1, rfl⟩ : ∃ c1, c1 = c' := ⟨_, rfl⟩
        have hown1 := hown
        have hbe1 := hbe
        clear hown hbe h8 hM
        have hc : W1.cell? ⟨b, o + k, none⟩ = some (.bool x) := (hbe1.cell (p := ⟨b, o + k, none⟩) hbw).trans hc0
        have HM1 := Lib.hid (show q + 1 = Bt.many (k + 1) by have := HQ.out; unfold Bt.many; omega)
        cases x
        · have HP := Lib.hid (Bt.packN_skip l (i := k) (N := q + 1) hgx)
          clear hgx hx hc0
          go_wp2
          go_roundw
          case rel => exact ⟨k + 1, q + 1, B1, c1, by omega, by go_num, HM1.out, by simp, by rw [HP.out]; exact hown1, hbe1⟩
          case measure => simp [intOf]; omega
        · have HP := Lib.hid (Bt.packN_set l (i := k) (N := q + 1) hgx (by have := HQ.out; omega))
          have hy := Bt.packN_get (l.take k) (show k / 8 < q + 1 by have := HQ.out; omega)
          have hfr := Bt.byteOf_fresh l k
          have HP3 : Hid (Bt.packN (l.take (k + 1)) (q + 1) = (Bt.packN (l.take k) (q + 1)).set q (Bt.byteOf (l.take k) q ||| 2 ^ (k % 8))) := Lib.hid (by rw [HP.out, ← HQ.out])
          clear HP
          rw [← HQ.out] at hy hfr
          generalize Bt.byteOf (l.take k) q = y at *
          have HOR := Lib.hid (Bt.or_add hfr)
          have hp8 : 2 ^ (k % 8) ≤ 128 := show 2 ^ (k % 8) ≤ 2 ^ 7 from Nat.pow_le_pow_right (by omega) (by omega)
          obtain ⟨g, rfl, hg1, hg2⟩ := own_some hown1 (by omega)
          have d0 : W1.cell? ⟨g, q, none⟩ = some (.int .u8 (y : Int)) := (hown1.cellAt _ (by omega)).trans (map_get hy)
          have f0 := hown1.frozenAt q
          clear hgx hx hc0 hy
          go_wp2
          go_loop [5, 6] (fun v j => ∃ t : Nat, t ≤ k % 8 ∧ j = .int .i64 t ∧ v = .int .u8 ((2 ^ t : Nat) : Int)) (fun _ j => k % 8 - (intOf j).toNat)
          case atStart => exact ⟨0, by omega, rfl, rfl⟩
          case round =>
            obtain ⟨t, ht, rfl, rfl⟩ := hrel
            by_cases h2 : t < k % 8
            · have e8 : (t : Int) < (k : Int) % 8 := by omega
              have p1 : 2 ^ t ≤ 64 := show 2 ^ t ≤ 2 ^ 6 from Nat.pow_le_pow_right (by omega) (by omega)
              have HP2 := Lib.hid (show 2 ^ (t + 1) = 2 ^ t * 2 from Nat.pow_succ ..)
              generalize 2 ^ t = z at *
              go_wp2
              go_round
              case rel => exact ⟨t + 1, by omega, by go_num, by rw [HP2.out]; go_num⟩
              case measure => simp [intOf]; omega
            · obtain rfl : t = k % 8 := by omega
              generalize 2 ^ (k % 8) = z at *
              go_wp2
              go_roundw
              case rel =>
                refine ⟨k + 1, q + 1, some ⟨g, 0, none⟩, c1, by omega, by go_num, HM1.out, by simp, ?_, hbe1.setCell hg1 _⟩
                have hs := (hown1.stored q (.int .u8 ((y ||| z : Nat) : Int))).1
                rw [HP3.out, List.map_set]
                rw [HOR.out] at hs ⊢
                exact hs
              case measure => simp [intOf]; omega
    · obtain rfl : k = l.length := by omega
      rw [List.take_length] at hown
      have HE := Lib.hid (show Bt.packN l M = Bt.packBits l by rw [hM]; rfl)
      have HL := Lib.hid (show (Bt.packBits l).length = M by rw [Bt.packBits_length, hM])
      rw [HE.out] at hown
      go_wp2
      go_ret
      exact Gives.of_own HL.out hown hbe

theorem refWide_any (h l : Nat) (w : World) (hh : h < 65536) (hl : l < 65536) :
    Calls Try.prog 21 #[.int .u16 (h : Int), .int .u16 (l : Int)] w fun e w' => e = .returned (.int .u32 ((65536 * h + l : Nat) : Int)) ∧ w = w' := by
  go_enter Try.func21, Try.ntmps21
  go_wp2
  go_ret
  exact ⟨ret_int (by omega), rfl⟩
theorem refSigned_int (x : Int) (w : World) (h0 : 0 ≤ x) (hx : x < 65536) :
    Calls Try.prog 23 #[.int .u16 x] w fun e w' => e = .returned (.int .i64 (if x < 32768 then x else x - 65536)) ∧ w = w' := by
  by_cases h : 32768 ≤ x
  · have u : decide (32768 ≤ x) = true := by simp; omega
    rw [if_neg (by omega)]
    clear h
    go_enter Try.func23, Try.ntmps23
    go_wp2
    go_ret
    exact ⟨rfl, rfl⟩
  · have u : decide (32768 ≤ x) = false := by simp; omega
    rw [if_pos (by omega)]
    clear h
    go_enter Try.func23, Try.ntmps23
    go_wp2
    go_ret
    exact ⟨rfl, rfl⟩
theorem refSigned_any (x : Nat) (w : World) (hx : x < 65536) :
    Calls Try.prog 23 #[.int .u16 (x : Int)] w fun e w' => e = .returned (.int .i64 (sg x)) ∧ w = w' := by
  have h := refSigned_int (x : Int) w (by omega) (by omega)
  have e : (if (x : Int) < 32768 then (x : Int) else (x : Int) - 65536) = sg x := by
    unfold sg
    split <;> split <;> omega
  rw [e] at h
  exact h
end Go.Proofs.Ytfdbajalhnenhaa
