/- The document's words (saucierref06): PackRegs, Regs. -/
import Derived.Test.YtfdbajalhnenhaaRefA
import Derived.Deep.RegionHeld3
namespace Go.Proofs.Ytfdbajalhnenhaa
open Go.RowKit
set_option linter.unusedVariables false
attribute [local go_sem] Later.cell Later.frozen setCell_twice

theorem packRegs_snoc (l : List Nat) {k x : Nat} (hx : l[k]? = some x) : packRegs (l.take (k + 1)) = packRegs (l.take k) ++ [x / 256, x % 256] := by
  rw [List.take_add_one, hx, Option.toList, packRegs_append]
  rfl
set_option maxHeartbeats 2000000 in
theorem refPackRegs_any (A : Option Addr) (c : Nat) (l : List Nat) (w : World) (h : Sq u16v w w.heap.size A l) (hl : ∀ b ∈ l, b < 65536) (hn : l.length ≤ 35184372088832) :
    Calls Try.prog 17 #[.slice A l.length c] w (Gives u8v w (packRegs l)) := by
  obtain ⟨i0, hi, hz0, hz1, hz2⟩ := info_parts info_byte
  go_enter Try.func17, Try.ntmps17
  go_wp2
  go_loopw [3, 4] (fun v i wr => ∃ k M : Nat, ∃ A' c', k ≤ l.length ∧ i = .int .i64 k ∧ M = 2 * k ∧ v = .slice A' M c' ∧ wr.ownsRow w.heap.size 5 1 (.slice A' M c') M ((packRegs (l.take k)).map u8v) ∧ Below w.heap.size w wr)
    (fun _ i _ => l.length - (intOf i).toNat)
  case atStart => exact ⟨0, 0, none, 0, by omega, rfl, rfl, rfl, World.ownsRow_nil _ _ _ _, Below.refl _ _⟩
  case round =>
    obtain ⟨k, M, A', c', hk, rfl, hM, rfl, hown, hbe⟩ := hrel
    by_cases hlt : k < l.length
    · obtain ⟨b, o, x, rfl, hbw, hx, hc0⟩ := h.at_ hlt
      have hsz := hbe.size
      have hc : wr.cell? ⟨b, o + k, none⟩ = some (.int .u16 (x : Int)) := (hbe.cell (p := ⟨b, o + k, none⟩) hbw).trans hc0
      have hxl := hl x (List.mem_of_getElem? hx)
      have e4 : (k : Int) < (l.length : Int) := by omega
      have HS := Lib.hid (packRegs_snoc l hx)
      have HPL : Hid ((packRegs (l.take k)).length = M) := Lib.hid (by rw [packRegs_length, List.length_take, Nat.min_eq_left hk]; omega)
      have HM := Lib.hid hM
      have hM2 : M ≤ 2 * k := by omega
      have HX1 := Lib.hid (show IntKind.u8.wrap (IntKind.u16.wrap ((x : Int) / 256)) = (x : Int) / 256 by simp [IntKind.wrap, IntKind.bits, IntKind.signed]; omega)
      have HX2 := Lib.hid (show IntKind.u8.wrap ((x : Int).tmod 256) = (x : Int) % 256 by rw [Int.tmod_eq_emod_of_nonneg (by omega)]; simp [IntKind.wrap, IntKind.bits, IntKind.signed])
      generalize packRegs (l.take k) = pl at *
      clear hM hx hc0
      go_wp2
      go_region_held3 (fun w' => w'.cell? ⟨b, o + k, none⟩ = some (.int .u16 (x : Int)))
        (first | go_keep | (rw [hb2.cell (p := ⟨b, o + k, none⟩) hbw]; go_keep))
        (first | (refine step_append_sq (f := u8v) _ (by rfl) (.tmp 11) (.tmp 24) 22 (by rfl) (fun _ => rfl) w.heap.size 5 i0 _ _ Try.underlying22 hi hz0 rfl hz1 hz2 (by decide) (.slice A' M c') pl (by rfl) (by rw [HPL.out]; exact hown.drew.alloc _) (wr.heap.size + 1) (some ⟨wr.heap.size, 0, none⟩) [x / 256, x % 256] 2 2 rfl (by rfl) (Sq.lits _ _ _ _ _ _ _ (by first | (simp; done) | (simp; omega) | (simp; exact ⟨HX1.out, HX2.out⟩) | (simp [HX1.out, HX2.out]; done)) (by simp) (by simp)) (by simp) (by rw [HPL.out]; omega) (by first | omega | (simp; omega)) ?_; intro B2 c2 W2 hown2 hg2 hb2))
      have hb3 : Below w.heap.size w W2 := (bel_alloc hbe.drew _).trans hb2
      clear hg2 hb2 hown hbe
      try rw [HPL.out]
      go_wp2
      go_roundw
      case rel => exact ⟨k + 1, M + 2, B2, c2, by omega, by go_num, by have := HM.out; omega, by simp, by rw [HS.out]; simpa [HPL.out] using hown2, hb3⟩
      case measure => simp [intOf]; omega
    · obtain rfl : k = l.length := by omega
      rw [List.take_length] at hown
      have HL := Lib.hid (show (packRegs l).length = M by rw [packRegs_length, hM])
      clear hM
      go_wp2
      go_ret
      exact Gives.of_own HL.out hown hbe
end Go.Proofs.Ytfdbajalhnenhaa
