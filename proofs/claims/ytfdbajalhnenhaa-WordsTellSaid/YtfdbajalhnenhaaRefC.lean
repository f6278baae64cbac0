/- The document's words (saucierref06): Regs, bit. -/
import Derived.Test.YtfdbajalhnenhaaRefB
namespace Go.Proofs.Ytfdbajalhnenhaa
open Go.RowKit
set_option linter.unusedVariables false
attribute [local go_sem] Later.cell Later.frozen setCell_twice

theorem refRegs_odd (A : Option Addr) (c : Nat) (b : List Nat) (w : World) (h : b.length % 2 ≠ 0) (hl : b.length ≤ 35184372088832) :
    Calls Try.prog 9 #[.slice A b.length c] w (GivesR w [] false) := by
  have q : ((b.length : Int) % 2 != 0) = true := by rw [bne_iff_ne]; omega
  go_enter Try.func9, Try.ntmps9
  go_wp2
  go_ret2
  exact ⟨none, 0, rfl, Sq.nil, fun _ => rfl, Nat.le_refl _, (by repeat (first | exact Below.refl _ _ | refine bel_later _ ?_ | refine bel_alloc ?_ _ | refine bel_set ?_ (by first | omega | (simp; done) | (simp; omega)) _ | refine Below.drew ?_ | assumption))⟩
set_option maxHeartbeats 2000000 in
theorem refRegs_even (A : Option Addr) (c : Nat) (b : List Nat) (w : World) (hb : Sq u8v w w.heap.size A b) (hbb : ∀ x ∈ b, x < 256) (h : b.length % 2 = 0) (hl : b.length ≤ 35184372088832) :
    Calls Try.prog 9 #[.slice A b.length c] w (GivesR w (regsOf b) true) := by
  obtain ⟨i0, hi, hz0, hz1, hz2⟩ := info_parts info_u16
  have q : ((b.length : Int) % 2 != 0) = false := by rw [bne_eq_false_iff_eq]; omega
  obtain ⟨m, hm⟩ : ∃ m, b.length = 2 * m := ⟨b.length / 2, by omega⟩
  have HM := Lib.hid hm
  have hm1 : 2 * m ≤ b.length := by omega
  have hm2 : b.length ≤ 2 * m := by omega
  have HRL : Hid ((regsOf b).length = m) := Lib.hid (by rw [regsOf_length]; omega)
  clear hm h
  go_enter Try.func9, Try.ntmps9
  go_wp2
  go_loopw [4, 5] (fun v i wr => ∃ k j : Nat, ∃ A' c', k ≤ m ∧ j = 2 * k ∧ i = .int .i64 (j : Int) ∧ v = .slice A' k c' ∧ wr.ownsRow w.heap.size 36 1 (.slice A' k c') k (((regsOf b).take k).map u16v) ∧ Below w.heap.size w wr)
    (fun _ i _ => 2 * m - (intOf i).toNat)
  case atStart => exact ⟨0, 0, none, 0, by omega, rfl, rfl, rfl, World.ownsRow_nil _ _ _ _, Below.refl _ _⟩
  case round =>
    obtain ⟨k, j, A', c', hk, hj, rfl, rfl, hown, hbe⟩ := hrel
    have HJ := Lib.hid hj
    have hj1 : 2 * k ≤ j := by omega
    have hj2 : j ≤ 2 * k := by omega
    clear hj
    by_cases hlt : k < m
    · obtain ⟨b2, o2, hA2, hbw, hcl⟩ := hb (by omega)
      subst hA2
      obtain ⟨x, hx⟩ : ∃ x, b[j]? = some x := ⟨_, List.getElem?_eq_getElem (by omega)⟩
      obtain ⟨y, hy⟩ : ∃ y, b[j + 1]? = some y := ⟨_, List.getElem?_eq_getElem (by omega)⟩
      have d1 : wr.cell? ⟨b2, o2 + j, none⟩ = some (.int .u8 (x : Int)) := (hbe.cell (p := ⟨b2, o2 + j, none⟩) hbw).trans (hcl _ x hx)
      have d2 : wr.cell? ⟨b2, o2 + (j + 1), none⟩ = some (.int .u8 (y : Int)) := (hbe.cell (p := ⟨b2, o2 + (j + 1), none⟩) hbw).trans (hcl _ y hy)
      have hxl := hbb x (List.mem_of_getElem? hx)
      have hyl := hbb y (List.mem_of_getElem? hy)
      have hsz := hbe.size
      have HS : Hid ((regsOf b).take (k + 1) = (regsOf b).take k ++ [256 * x + y]) := Lib.hid (by rw [HJ.out] at hx hy; rw [List.take_add_one, regsOf_get b hx hy]; rfl)
      have HPL : Hid (((regsOf b).take k).length = k) := Lib.hid (by rw [List.length_take, HRL.out]; omega)
      have HX1 := Lib.hid (show IntKind.u16.wrap (IntKind.u16.wrap (256 * IntKind.u16.wrap (x : Int)) + IntKind.u16.wrap (y : Int)) = 256 * (x : Int) + (y : Int) by simp [IntKind.wrap, IntKind.bits, IntKind.signed]; omega)
      generalize (regsOf b).take k = pl at *
      have e5 : (j : Int) < (b.length : Int) := by omega
      have e6 : (j : Int) + 1 < (b.length : Int) := by omega
      have e7 : (0 : Int) ≤ (j : Int) := by omega
      have e8 : IntKind.i64.wrap ((j : Int) + 1) = (j : Int) + 1 := by simp [IntKind.wrap, IntKind.bits, IntKind.signed]; omega
      have e9 : (0 : Int) ≤ (j : Int) + 1 := by omega
      have e10 : ((j : Int) + 1).toNat = j + 1 := by omega
      clear hx hy hcl hm2
      go_wp2
      go_region_held3 (fun w' => w'.cell? ⟨b2, o2 + j, none⟩ = some (.int .u8 (x : Int)) ∧ w'.cell? ⟨b2, o2 + (j + 1), none⟩ = some (.int .u8 (y : Int)))
        (first | go_keep | (rw [hb2.cell (p := ⟨b2, o2 + j, none⟩) hbw, hb2.cell (p := ⟨b2, o2 + (j + 1), none⟩) hbw]; go_keep))
        (first | (refine step_append_sq (f := u16v) _ (by rfl) (.tmp 16) (.tmp 30) 24 (by rfl) (fun _ => rfl) w.heap.size 36 i0 _ _ Try.underlying24 hi hz0 rfl hz1 hz2 (by decide) (.slice A' k c') pl (by rfl) (by rw [HPL.out]; exact hown.drew.alloc _) (wr.heap.size + 1) (some ⟨wr.heap.size, 0, none⟩) [256 * x + y] 1 1 rfl (by rfl) (Sq.lits _ _ _ _ _ _ _ (by first | (simp; done) | (simp; omega) | (simp; exact HX1.out) | (simp [HX1.out]; done)) (by simp) (by simp)) (by simp) (by rw [HPL.out]; omega) (by first | omega | (simp; omega)) ?_; intro B2 c2 W2 hown2 hg2 hb2))
      have hb3 : Below w.heap.size w W2 := (bel_alloc hbe.drew _).trans hb2
      clear hg2 hb2 hown hbe
      try rw [HPL.out]
      go_wp2
      go_roundw
      case rel => exact ⟨k + 1, j + 2, B2, c2, by omega, by have := HJ.out; omega, by go_num, by simp, by rw [HS.out]; simpa [HPL.out] using hown2, hb3⟩
      case measure => simp [intOf]; omega
    · obtain rfl : k = m := by omega
      rw [List.take_of_length_le (by have := HRL.out; omega)] at hown
      have e5 : ¬ (j : Int) < (b.length : Int) := by omega
      clear hm2 hm1
      go_wp2
      go_ret2
      exact ⟨A', c', by rw [HRL.out]; rfl, Sq.of_own hown, (own_nil_c hown).1, by have := (own_nil_c hown).2; have := HRL.out; omega, hbe⟩

theorem refBit_any (A : Option Addr) (c : Nat) (b : List Nat) (i : Nat) (r : Bool) (w : World) (hb : Sq u8v w w.heap.size A b) (hbb : ∀ x ∈ b, x < 256) (hl : b.length ≤ 35184372088832) (hi : i < 8 * b.length) (hr : (b.getD (i / 8) 0).testBit (i % 8) = r) :
    Calls Try.prog 25 #[.slice A b.length c, .int .i64 (i : Int)] w fun e w' => e = .returned (.bool r) ∧ w = w' := by
  obtain ⟨b2, o2, x, rfl, hbw, hx, hc⟩ := hb.at_ (show i / 8 < b.length by omega)
  have hxl := hbb x (List.mem_of_getElem? hx)
  have HD : Hid (r = (((x / 2 ^ (i % 8) : Nat) : Int) % 2 == 1)) := Lib.hid (by
    rw [← hr, List.getD_eq_getElem?_getD, hx, Option.getD_some, Nat.testBit_eq_decide_div_mod_eq]
    generalize x / 2 ^ (i % 8) = z
    by_cases h : z % 2 = 1
    · rw [decide_eq_true h]; symm; simp; omega
    · rw [decide_eq_false h]; symm; simp; omega)
  have e5 : (i : Int) / 8 < (b.length : Int) := by omega
  have e6 : (0 : Int) ≤ (i : Int) / 8 := by omega
  clear hx hr
  go_enter Try.func25, Try.ntmps25
  go_wp2
  go_loop [5, 6] (fun v j => ∃ t : Nat, t ≤ i % 8 ∧ j = .int .i64 t ∧ v = .int .u8 ((x / 2 ^ t : Nat) : Int)) (fun _ j => i % 8 - (intOf j).toNat)
  case atStart => exact ⟨0, by omega, rfl, by simp⟩
  case round =>
    obtain ⟨t, ht, rfl, rfl⟩ := hrel
    have hz : x / 2 ^ t ≤ x := Nat.div_le_self _ _
    by_cases h2 : t < i % 8
    · have e8 : (t : Int) < (i : Int) % 8 := by omega
      have HP2 := Lib.hid (show x / 2 ^ (t + 1) = x / 2 ^ t / 2 by rw [Nat.pow_succ, Nat.div_div_eq_div_mul])
      generalize x / 2 ^ t = z at *
      go_wp2
      go_round
      case rel => exact ⟨t + 1, by omega, by go_num, by rw [HP2.out]; go_num⟩
      case measure => simp [intOf]; omega
    · obtain rfl : t = i % 8 := by omega
      generalize x / 2 ^ (i % 8) = z at *
      go_wp2
      go_ret
      exact ⟨by rw [HD.out]; simp, rfl⟩
end Go.Proofs.Ytfdbajalhnenhaa
