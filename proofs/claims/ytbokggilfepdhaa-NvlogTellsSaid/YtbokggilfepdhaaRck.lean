/- The walks of the reference of layer 8: Add, Raw, Bytes. -/
import Derived.Test.YtbokggilfepdhaaCk
import Derived.Test.YtbokggilfepdhaaSq
import Derived.Deep.RegionHeld3
namespace Go.Proofs.Ytbokggilfepdhaa
open Go.RowKit
set_option linter.unusedVariables false
attribute [local go_sem] Later.cell Later.frozen setCell_twice
abbrev u8v (x : Nat) : Value := .int .u8 (x : Int)
theorem refAdd_any (s b : Nat) (w : World) (h : s < 4294967296) (hb : b < 256) :
    Calls Try.prog 61 #[.int .u32 (s : Int), .int .u8 (b : Int)] w fun e w' => e = .returned (.int .u32 (Crc.add s b : Int)) ∧ w = w' := by
  have h2 : bits .xor .u32 (s : Int) (b : Int) = ((s ^^^ b : Nat) : Int) := u32_xor_nat s b h (by omega)
  have hx := Crc.xor_lt (a := s) (b := b) h (by omega)
  have H2 := Lib.hid h2; clear h2
  go_enter Try.func61, Try.ntmps61
  go_wp2
  rw [H2.out]
  go_loop [0, 5, 6] (fun v i _ => ∃ k : Nat, k ≤ 8 ∧ i = .int .i64 k ∧ v = .int .u32 (Crc.shifts k (s ^^^ b) : Nat)) (fun _ i _ => 8 - (intOf i).toNat)
  case atStart => exact ⟨0, by omega, rfl, rfl⟩
  case round =>
    obtain ⟨k, hk, rfl, rfl⟩ := hrel
    have hs := Crc.shifts_lt k hx
    have HE := Lib.hid (Crc.shifts_succ k (s ^^^ b))
    by_cases hlt : k < 8
    · generalize Crc.shifts k (s ^^^ b) = x at *
      have h3 : bits .xor .u32 ((x : Int) / 2) 3988292384 = ((x / 2 ^^^ 3988292384 : Nat) : Int) := by
        have := u32_xor_nat (x / 2) 3988292384 (by omega) (by decide)
        exact this
      have HX := Lib.hid h3
      clear h3
      by_cases ho : x % 2 = 1
      · have ht : ((x : Int) % 2 == 1) = true := by rw [beq_iff_eq]; omega
        have HS := Lib.hid (show Crc.shift x = x / 2 ^^^ 3988292384 by simp [Crc.shift, ho])
        clear ho
        go_wp2
        go_round
        case rel => exact ⟨k + 1, by omega, by go_num, by rw [HE.out, HS.out, HX.out]⟩
        case measure => simp [intOf]; omega
      · have ht : ((x : Int) % 2 == 1) = false := beq_eq_false_iff_ne.2 (by omega)
        have HS := Lib.hid (show Crc.shift x = x / 2 by simp [Crc.shift, ho])
        clear ho
        go_wp2
        go_round
        case rel => exact ⟨k + 1, by omega, by go_num, by rw [HE.out, HS.out]; go_num⟩
        case measure => simp [intOf]; omega
    · have : k = 8 := by omega
      subst this
      go_wp2
      go_ret
      exact ⟨rfl, rfl⟩
theorem refRaw_any (s : Nat) (A : Option Addr) (c n : Nat) (l : List Nat) (w : World) (hs : s < 4294967296) (h : Sq u8v w w.heap.size A l) (hl : ∀ b ∈ l, b < 256) (hn : l.length ≤ 140737488355328) (he : l.length = n) :
    Calls Try.prog 59 #[.int .u32 (s : Int), .slice A n c] w fun e w' => e = .returned (.int .u32 ((Crc.raw s l : Nat) : Int)) ∧ w = w' := by
  subst he
  go_enter Try.func59, Try.ntmps59
  go_wp2
  go_loop [0, 5] (fun v i => ∃ k : Nat, k ≤ l.length ∧ i = .int .i64 k ∧ v = .int .u32 (Crc.raw s (l.take k) : Nat)) (fun _ i => l.length - (intOf i).toNat)
  case atStart => exact ⟨0, by omega, rfl, rfl⟩
  case round =>
    obtain ⟨k, hk, rfl, rfl⟩ := hrel
    have hsl := Crc.raw_lt (s := s) (l.take k) hs (fun b hb => hl b (List.mem_of_mem_take hb))
    by_cases hlt : k < l.length
    · obtain ⟨b, o, x, rfl, _, hx, hc⟩ := h.at_ hlt
      have hxl := hl x (List.mem_of_getElem? hx)
      have HE := Lib.hid (show Crc.raw s (l.take (k + 1)) = Crc.add (Crc.raw s (l.take k)) x by rw [List.take_add_one, hx, Option.toList, Crc.raw_append]; rfl)
      clear hx
      go_wp2_with fail
      refine (refAdd_any _ _ _ hsl hxl).mono ?_
      rintro e_ w_ ⟨rfl, rfl⟩
      go_wp2
      go_round
      case rel => exact ⟨k + 1, by omega, by go_num, by rw [HE.out]⟩
      case measure => simp [intOf]; omega
    · have : k = l.length := by omega
      subst this
      have HE := Lib.hid (show l.take l.length = l from List.take_length)
      go_wp2
      go_ret
      first | exact ⟨rfl, rfl⟩ | (rw [HE.out]; exact ⟨rfl, rfl⟩)
theorem refRaw_lit (A : Option Addr) (c n : Nat) (l : List Nat) (w : World) (h : Sq u8v w w.heap.size A l) (hl : ∀ b ∈ l, b < 256) (hn : l.length ≤ 140737488355328) (he : l.length = n) :
    Calls Try.prog 59 #[.int .u32 4294967295, .slice A n c] w fun e w' => e = .returned (.int .u32 ((Crc.raw 4294967295 l : Nat) : Int)) ∧ w = w' :=
  refRaw_any 4294967295 A c n l w (by decide) h hl hn he
theorem refBytes_any (A : Option Addr) (c n : Nat) (l : List Nat) (w : World) (h : Sq u8v w w.heap.size A l) (hl : ∀ b ∈ l, b < 256) (hn : l.length ≤ 140737488355328) (he : l.length = n) :
    Calls Try.prog 55 #[.slice A n c] w fun e w' => e = .returned (.int .u32 ((Crc.bytes l : Nat) : Int)) ∧ w = w' := by
  have hR := Crc.raw_lt l (s := 4294967295) (by decide) hl
  have h1 : bits .xor .u32 ((Crc.raw 4294967295 l : Nat) : Int) 4294967295 = ((Crc.bytes l : Nat) : Int) := by
    have h2 := u32_xor_nat (Crc.raw 4294967295 l) 4294967295 hR (by decide)
    rw [Crc.bytes_eq hl, Nat.xor_comm 4294967295]
    exact h2
  have H1 := Lib.hid h1
  clear h1
  go_enter Try.func55, Try.ntmps55
  go_wp2_with fail
  refine (refRaw_lit A c n l w h hl hn he).mono ?_
  rintro e_ w_ ⟨rfl, rfl⟩
  go_wp2
  go_ret
  exact ⟨ret_int H1.out, rfl⟩
end Go.Proofs.Ytbokggilfepdhaa
