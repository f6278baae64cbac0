/- The walks of package sum: shift, Add, Bytes (XSum's under other names, for seats with package disk). -/
import Derived.Test.YtalaobpehkgilaaProg
import Derived.Test.YtalaobpehkgilaaCrc
import Derived.Test.YtalaobpehkgilaaBase
import Derived.WalkLawsBesides
import Derived.WalkSpells
import Derived.Outline
namespace Go.Proofs.Ytalaobpehkgilaa
open Go.RowKit
theorem ck_and1 (s : Nat) (h : s < 4294967296) : bits .and .u32 (s : Int) 1 = ((s % 2 : Nat) : Int) := by
  have := u32_and_nat s 1 h (by decide)
  rw [nat_mask1] at this
  exact this
theorem ck_shift (s : Nat) (w : World) (h : s < 4294967296) :
    Calls Try.prog 37 #[.int .u32 (s : Int)] w fun e w' => e = .returned (.int .u32 (Crc.shift s : Int)) ∧ w = w' := by
  have h1 := ck_and1 s h
  have h2 : bits .xor .u32 ((s : Int) / 2) 3988292384 = ((s / 2 ^^^ 3988292384 : Nat) : Int) := by
    have := u32_xor_nat (s / 2) 3988292384 (by omega) (by decide)
    exact this
  by_cases ho : s % 2 = 1
  · have ht : (bits .and .u32 (s : Int) 1 == 1) = true := by rw [h1, ho]; rfl
    clear h1
    have H2 := Lib.hid h2; clear h2
    go_enter Try.func37, Try.ntmps37
    go_wp2
    go_ret
    exact ⟨ret_int (by rw [H2.out]; simp [Crc.shift, ho]), rfl⟩
  · have ht : (bits .and .u32 (s : Int) 1 == 1) = false := by rw [h1]; simp; omega
    clear h1 h2
    go_enter Try.func37, Try.ntmps37
    go_wp2
    go_ret
    exact ⟨ret_int (by simp [Crc.shift, ho]), rfl⟩

theorem ck_add (s b : Nat) (w : World) (h : s < 4294967296) (hb : b < 256) :
    Calls Try.prog 36 #[.int .u32 (s : Int), .int .u8 (b : Int)] w fun e w' => e = .returned (.int .u32 (Crc.add s b : Int)) ∧ w = w' := by
  have h2 : bits .xor .u32 (s : Int) (b : Int) = ((s ^^^ b : Nat) : Int) := u32_xor_nat s b h (by omega)
  have hx := Crc.xor_lt (a := s) (b := b) h (by omega)
  have H2 := Lib.hid h2; clear h2
  go_enter Try.func36, Try.ntmps36
  go_wp2
  rw [H2.out]
  go_loop [0, 9] (fun v i => ∃ k : Nat, k ≤ 8 ∧ i = .int .i64 k ∧ v = .int .u32 (Crc.shifts k (s ^^^ b) : Nat)) (fun _ i => 8 - (intOf i).toNat)
  case atStart => exact ⟨0, by omega, rfl, rfl⟩
  case round =>
    obtain ⟨k, hk, rfl, rfl⟩ := hrel
    have hs := Crc.shifts_lt k hx
    have HE := Lib.hid (Crc.shifts_succ k (s ^^^ b))
    by_cases hlt : k < 8
    · go_wp2_with (go_at_call 37; refine (ck_shift _ _ hs).mono ?_; rintro e w' ⟨rfl, rfl⟩)
      go_round
      case rel => exact ⟨k + 1, by omega, by go_num, by rw [HE.out]⟩
      case measure => simp [intOf]; omega
    · have : k = 8 := by omega
      subst this
      go_wp2
      go_ret
      exact ⟨rfl, rfl⟩

theorem ck_not (a : Nat) (h : a < 4294967296) : bits .xor .u32 IntKind.u32.max (a : Int) = ((4294967295 - a : Nat) : Int) := by
  have h1 := u32_xor_nat 4294967295 a (by decide) h
  rw [Crc.compl_eq h]
  exact h1

theorem ck_bytes (A : Option Addr) (c : Nat) (l : List Nat) (B : Nat) (w : World) (h : Nums .u8 w B A l) (hl : ∀ b ∈ l, b < 256) (hn : l.length ≤ 140737488355328) :
    Calls Try.prog 32 #[.slice A l.length c] w fun e w' => e = .returned (.int .u32 (Crc.bytes l : Nat)) ∧ w = w' := by
  go_enter Try.func32, Try.ntmps32
  go_wp2
  go_loop [3, 4, 7] (fun v _ i => ∃ k : Nat, k ≤ l.length ∧ i = .int .i64 k ∧ v = .int .u32 (Crc.raw 4294967295 (l.take k) : Nat)) (fun _ _ i => l.length - (intOf i).toNat)
  case atStart => exact ⟨0, by omega, rfl, rfl⟩
  case round =>
    obtain ⟨k, hk, rfl, rfl⟩ := hrel
    have hs := Crc.raw_lt (s := 4294967295) (l.take k) (by decide) (fun b hb => hl b (List.mem_of_mem_take hb))
    by_cases hlt : k < l.length
    · obtain ⟨b, o, x, rfl, _, hx, hc⟩ := h.at_ hlt
      have hxl := hl x (List.mem_of_getElem? hx)
      have HE := Lib.hid (show Crc.raw 4294967295 (l.take (k + 1)) = Crc.add (Crc.raw 4294967295 (l.take k)) x by rw [List.take_add_one, hx, Option.toList, Crc.raw_append]; rfl)
      clear hx
      go_wp2_with (go_at_call 36; refine (ck_add _ _ _ hs hxl).mono ?_; rintro e w' ⟨rfl, rfl⟩)
      go_round
      case rel => exact ⟨k + 1, by omega, by go_num, by rw [HE.out]⟩
      case measure => simp [intOf]; omega
    · have : k = l.length := by omega
      subst this
      have HE := Lib.hid (show l.take l.length = l from List.take_length)
      go_wp2
      go_ret
      rw [HE.out] at hs
      first | exact ⟨ret_int (ck_not _ hs), rfl⟩ | (rw [HE.out]; exact ⟨ret_int (ck_not _ hs), rfl⟩)
theorem ck_bytes_n (A : Option Addr) (c n : Nat) (l : List Nat) (B : Nat) (w : World) (h : Nums .u8 w B A l) (hl : ∀ b ∈ l, b < 256) (hn : l.length ≤ 140737488355328) (he : l.length = n) :
    Calls Try.prog 32 #[.slice A n c] w fun e w' => e = .returned (.int .u32 (Crc.bytes l : Nat)) ∧ w = w' := by
  subst he
  exact ck_bytes A c l B w h hl hn
end Go.Proofs.Ytalaobpehkgilaa
