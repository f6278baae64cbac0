/- The walks of the reference of layer 8: Add, Raw, Bytes, Words. -/
import Derived.Test.YtopkncbpkccfbaaSum
import Derived.Test.YtopkncbpkccfbaaPack
import Derived.Test.YtopkncbpkccfbaaSq
import Derived.Deep.RegionHeld3
namespace Go.Proofs.Ytopkncbpkccfbaa
open Go.RowKit
set_option linter.unusedVariables false
attribute [local go_sem] Later.cell Later.frozen setCell_twice
abbrev u8v (x : Nat) : Value := .int .u8 (x : Int)
abbrev u16v (x : Nat) : Value := .int .u16 (x : Int)
theorem refAdd_any (s b : Nat) (w : World) (h : s < 4294967296) (hb : b < 256) :
    Calls Try.prog 57 #[.int .u32 (s : Int), .int .u8 (b : Int)] w fun e w' => e = .returned (.int .u32 (Crc.add s b : Int)) ∧ w = w' := by
  have h2 : bits .xor .u32 (s : Int) (b : Int) = ((s ^^^ b : Nat) : Int) := u32_xor_nat s b h (by omega)
  have hx := Crc.xor_lt (a := s) (b := b) h (by omega)
  have H2 := Lib.hid h2; clear h2
  go_enter Try.func57, Try.ntmps57
  go_wp2
  rw [H2.out]
  go_loop [0, 5, 6] (fun v i _ => ∃ k : Nat, k ≤ 8 ∧ i = .int .i64 k ∧ v = .int .u32 (Crc.shifts k (s ^^^ b) : Nat)) (fun _ i _ => 8 - (intOf i).toNat)
  case atStart => exact ⟨0, by omega, rfl, rfl⟩
  case round =>
    obtain ⟨k, hk, rfl, rfl⟩ := hrel
    have hs := Crc.shifts_lt k hx
    have HE := Lib.hid (Crc.shifts_succ k (s ^^^ b))
    by_cases hlt : k < 8
    · generalize Crc.shifts k (s ^^^ b) = x at *
      have h3 : bits .xor .u32 ((x : Int) / 2) 3988292384 = ((x / 2 ^^^ 3988292384 : Nat) : Int) := by
        have := u32_xor_nat (x / 2) 3988292384 (by omega) (by decide)
        exact this
      have HX := Lib.hid h3
      clear h3
      by_cases ho : x % 2 = 1
      · have ht : ((x : Int) % 2 == 1) = true := by rw [beq_iff_eq]; omega
        have HS := Lib.hid (show Crc.shift x = x / 2 ^^^ 3988292384 by simp [Crc.shift, ho])
        clear ho
        go_wp2
        go_round
        case rel => exact ⟨k + 1, by omega, by go_num, by rw [HE.out, HS.out, HX.out]⟩
        case measure => simp [intOf]; omega
      · have ht : ((x : Int) % 2 == 1) = false := beq_eq_false_iff_ne.2 (by omega)
        have HS := Lib.hid (show Crc.shift x = x / 2 by simp [Crc.shift, ho])
        clear ho
        go_wp2
        go_round
        case rel => exact ⟨k + 1, by omega, by go_num, by rw [HE.out, HS.out]; go_num⟩
        case measure => simp [intOf]; omega
    · have : k = 8 := by omega
      subst this
      go_wp2
      go_ret
      exact ⟨rfl, rfl⟩
theorem refRaw_any (s : Nat) (A : Option Addr) (c n : Nat) (l : List Nat) (w : World) (hs : s < 4294967296) (h : Sq u8v w w.heap.size A l) (hl : ∀ b ∈ l, b < 256) (hn : l.length ≤ 140737488355328) (he : l.length = n) :
    Calls Try.prog 55 #[.int .u32 (s : Int), .slice A n c] w fun e w' => e = .returned (.int .u32 ((Crc.raw s l : Nat) : Int)) ∧ w = w' := by
  subst he
  go_enter Try.func55, Try.ntmps55
  go_wp2
  go_loop [0, 5] (fun v i => ∃ k : Nat, k ≤ l.length ∧ i = .int .i64 k ∧ v = .int .u32 (Crc.raw s (l.take k) : Nat)) (fun _ i => l.length - (intOf i).toNat)
  case atStart => exact ⟨0, by omega, rfl, rfl⟩
  case round =>
    obtain ⟨k, hk, rfl, rfl⟩ := hrel
    have hsl := Crc.raw_lt (s := s) (l.take k) hs (fun b hb => hl b (List.mem_of_mem_take hb))
    by_cases hlt : k < l.length
    · obtain ⟨b, o, x, rfl, _, hx, hc⟩ := h.at_ hlt
      have hxl := hl x (List.mem_of_getElem? hx)
      have HE := Lib.hid (show Crc.raw s (l.take (k + 1)) = Crc.add (Crc.raw s (l.take k)) x by rw [List.take_add_one, hx, Option.toList, Crc.raw_append]; rfl)
      clear hx
      go_wp2_with fail
      refine (refAdd_any _ _ _ hsl hxl).mono ?_
      rintro e_ w_ ⟨rfl, rfl⟩
      go_wp2
      go_round
      case rel => exact ⟨k + 1, by omega, by go_num, by rw [HE.out]⟩
      case measure => simp [intOf]; omega
    · have : k = l.length := by omega
      subst this
      have HE := Lib.hid (show l.take l.length = l from List.take_length)
      go_wp2
      go_ret
      first | exact ⟨rfl, rfl⟩ | (rw [HE.out]; exact ⟨rfl, rfl⟩)
theorem refRaw_lit (A : Option Addr) (c n : Nat) (l : List Nat) (w : World) (h : Sq u8v w w.heap.size A l) (hl : ∀ b ∈ l, b < 256) (hn : l.length ≤ 140737488355328) (he : l.length = n) :
    Calls Try.prog 55 #[.int .u32 4294967295, .slice A n c] w fun e w' => e = .returned (.int .u32 ((Crc.raw 4294967295 l : Nat) : Int)) ∧ w = w' :=
  refRaw_any 4294967295 A c n l w (by decide) h hl hn he
theorem refBytes_any (A : Option Addr) (c n : Nat) (l : List Nat) (w : World) (h : Sq u8v w w.heap.size A l) (hl : ∀ b ∈ l, b < 256) (hn : l.length ≤ 140737488355328) (he : l.length = n) :
    Calls Try.prog 53 #[.slice A n c] w fun e w' => e = .returned (.int .u32 ((Crc.bytes l : Nat) : Int)) ∧ w = w' := by
  have hR := Crc.raw_lt l (s := 4294967295) (by decide) hl
  have h1 : bits .xor .u32 ((Crc.raw 4294967295 l : Nat) : Int) 4294967295 = ((Crc.bytes l : Nat) : Int) := by
    have h2 := u32_xor_nat (Crc.raw 4294967295 l) 4294967295 hR (by decide)
    rw [Crc.bytes_eq hl, Nat.xor_comm 4294967295]
    exact h2
  have H1 := Lib.hid h1
  clear h1
  go_enter Try.func53, Try.ntmps53
  go_wp2_with fail
  refine (refRaw_lit A c n l w h hl hn he).mono ?_
  rintro e_ w_ ⟨rfl, rfl⟩
  go_wp2
  go_ret
  exact ⟨ret_int H1.out, rfl⟩
theorem packRegs_snoc (l : List Nat) {k x : Nat} (hx : l[k]? = some x) : packRegs (l.take (k + 1)) = packRegs (l.take k) ++ [x / 256, x % 256] := by
  rw [List.take_add_one, hx, Option.toList, packRegs_append]
  rfl
set_option maxHeartbeats 2000000 in
theorem refWords_any (A : Option Addr) (c : Nat) (l : List Nat) (w : World) (h : Sq u16v w w.heap.size A l) (hl : ∀ b ∈ l, b < 65536) (hn : l.length ≤ 35184372088832) :
    Calls Try.prog 48 #[.slice A l.length c] w fun e w' => e = .returned (.int .u32 ((Crc.bytes (packRegs l) : Nat) : Int)) ∧ Below w.heap.size w w' := by
  obtain ⟨i0, hi, hz0, hz1, hz2⟩ := info_parts info_byte
  go_enter Try.func48, Try.ntmps48
  go_wp2
  go_loopw [3, 4] (fun v i wr => ∃ k M : Nat, ∃ A' c', k ≤ l.length ∧ i = .int .i64 k ∧ M = 2 * k ∧ v = .slice A' M c' ∧ wr.ownsRow w.heap.size 5 1 (.slice A' M c') M ((packRegs (l.take k)).map u8v) ∧ Below w.heap.size w wr)
    (fun _ i _ => l.length - (intOf i).toNat)
  case atStart => exact ⟨0, 0, none, 0, by omega, rfl, rfl, rfl, World.ownsRow_nil _ _ _ _, Below.refl _ _⟩
  case round =>
    obtain ⟨k, M, A', c', hk, rfl, hM, rfl, hown, hbe⟩ := hrel
    by_cases hlt : k < l.length
    · obtain ⟨b, o, x, rfl, hbw, hx, hc0⟩ := h.at_ hlt
      have hsz := hbe.size
      have hc : wr.cell? ⟨b, o + k, none⟩ = some (.int .u16 (x : Int)) := (hbe.cell (p := ⟨b, o + k, none⟩) hbw).trans hc0
      have hxl := hl x (List.mem_of_getElem? hx)
      have e4 : (k : Int) < (l.length : Int) := by omega
      have HS := Lib.hid (packRegs_snoc l hx)
      have HPL : Hid ((packRegs (l.take k)).length = M) := Lib.hid (by rw [packRegs_length, List.length_take, Nat.min_eq_left hk]; omega)
      have HM := Lib.hid hM
      have hM2 : M ≤ 2 * k := by omega
      have HX1 := Lib.hid (show IntKind.u8.wrap (IntKind.u16.wrap ((x : Int) / 256)) = (x : Int) / 256 by simp [IntKind.wrap, IntKind.bits, IntKind.signed]; omega)
      have HX2 := Lib.hid (show IntKind.u8.wrap ((x : Int).tmod 256) = (x : Int) % 256 by rw [Int.tmod_eq_emod_of_nonneg (by omega)]; simp [IntKind.wrap, IntKind.bits, IntKind.signed])
      generalize packRegs (l.take k) = pl at *
      clear hM hx hc0
      go_wp2
      go_region_held3 (fun w' => w'.cell? ⟨b, o + k, none⟩ = some (.int .u16 (x : Int)))
        (first | go_keep | (rw [hb2.cell (p := ⟨b, o + k, none⟩) hbw]; go_keep))
        (first | (refine step_append_sq (f := u8v) _ (by rfl) (.tmp 11) (.tmp 24) 49 (by rfl) (fun _ => rfl) w.heap.size 5 i0 _ _ Try.underlying49 hi hz0 rfl hz1 hz2 (by decide) (.slice A' M c') pl (by rfl) (by rw [HPL.out]; exact hown.drew.alloc _) (wr.heap.size + 1) (some ⟨wr.heap.size, 0, none⟩) [x / 256, x % 256] 2 2 rfl (by rfl) (Sq.lits _ _ _ _ _ _ _ (by first | (simp; done) | (simp; omega) | (simp; exact ⟨HX1.out, HX2.out⟩) | (simp [HX1.out, HX2.out]; done)) (by simp) (by simp)) (by simp) (by rw [HPL.out]; omega) (by first | omega | (simp; omega)) ?_; intro B2 c2 W2 hown2 hg2 hb2))
      have hb3 : Below w.heap.size w W2 := (bel_alloc hbe.drew _).trans hb2
      clear hg2 hb2 hown hbe
      try rw [HPL.out]
      go_wp2
      go_roundw
      case rel => exact ⟨k + 1, M + 2, B2, c2, by omega, by go_num, by have := HM.out; omega, by simp, by rw [HS.out]; simpa [HPL.out] using hown2, hb3⟩
      case measure => simp [intOf]; omega
    · obtain rfl : k = l.length := by omega
      rw [List.take_length] at hown
      have HL := Lib.hid (show (packRegs l).length = M by rw [packRegs_length, hM])
      have hpb := packRegs_byte hl
      have hM2 : M ≤ 70368744177664 := by omega
      have hsq : Sq u8v wr wr.heap.size A' (packRegs l) := Sq.of_own hown
      clear hM hown
      go_wp2_with fail
      refine (refBytes_any A' c' M (packRegs l) wr hsq hpb (by rw [HL.out]; omega) HL.out).mono ?_
      rintro e_ w_ ⟨rfl, rfl⟩
      go_wp2
      go_ret
      exact ⟨rfl, hbe⟩
end Go.Proofs.Ytopkncbpkccfbaa
