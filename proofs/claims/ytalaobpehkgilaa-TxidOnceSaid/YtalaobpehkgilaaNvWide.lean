/- Layer 10: wide, number. -/
import Derived.Test.YtalaobpehkgilaaNvRight
import Derived.Test.YtalaobpehkgilaaCopyB
namespace Go.Proofs.Ytalaobpehkgilaa
open Go.RowKit
set_option linter.unusedVariables false
attribute [local go_sem] Later.cell Later.frozen setCell_twice
def WideP (w : World) (B m : Nat) (l : List Nat) (e : Ending) (w' : World) : Prop := ∃ A' c', e = .returned (.slice A' m c') ∧ w'.ownsRow B 5 1 (.slice A' m c') m (l.map byw) ∧ Below B w w'
set_option maxRecDepth 100000 in
set_option maxHeartbeats 400000 in
theorem wide_any (A : Option Addr) (c n x B m : Nat) (l : List Nat) (hn : l.length = n) (hm : n + 4 = m) (hx : x < 4294967296) (w : World) (ho : w.ownsRow B 5 1 (.slice A n c) n (l.map byw)) (hB : B ≤ w.heap.size) (hn2 : n ≤ 100000) :
    Calls Try.prog 31 #[.slice A n c, .int .u32 (x : Int)] w (WideP w B m (l ++ Nr.four x)) := by
  obtain ⟨i0, hif, hz0, hz1, hz2⟩ := info_parts info_b8
  have HO := Lib.hid ho
  have HN := Lib.hid hn
  clear ho hn
  go_enter Try.func31, Try.ntmps31
  go_wp2_with (at_builtin; refine wpList_append_sq (f := byw) _ rfl (.tmp 5) (.tmp 17) 33 rfl (fun _ => rfl) B 5 i0 _ _ Try.underlying33 hif hz0 rfl hz1 hz2 (by decide) (.slice A n c) l rfl (by rw [HN.out]; exact own_below HO.out (bel_alloc (Below.refl _ _) _)) (w.heap.size + 1) (some ⟨w.heap.size, 0, none⟩) (Nr.four x) 4 4 rfl rfl (Sq.lits _ _ _ _ _ _ _ (by simp [Nr.four]) rfl (by omega)) (by simp) (by rw [HN.out]; omega) (by simp; omega) ?_; intro A1 c1 w1 o1 g1 b1; have O1 := Lib.hid o1; have BE := Lib.hid (((Below.refl B w).alloc hB _).trans b1); clear o1 g1 b1)
  go_ret
  have hl : (l ++ Nr.four x).length = m := by rw [List.length_append, HN.out, Nr.four_length]; exact hm
  have o1 := O1.out
  rw [hl] at o1
  exact ⟨A1, c1, by rw [← hl]; simp, o1, BE.out⟩
theorem or32 (a b k : Nat) (hk : k ≤ 32) (hb : b < 2 ^ k) (ha : a * 2 ^ k + b < 4294967296) : bits .or .u32 ((a * 2 ^ k : Nat) : Int) (b : Int) = ((a * 2 ^ k + b : Nat) : Int) := by
  have h2 : 2 ^ k ≤ 2 ^ 32 := Nat.pow_le_pow_right (by decide) hk
  rw [u32_or_nat _ _ (by omega) (by omega), Nat.mul_comm, Nat.two_pow_add_eq_or_of_lt hb]
/-- four bytes, the highest first -/
theorem num_or (x0 x1 x2 x3 : Nat) (h0 : x0 < 256) (h1 : x1 < 256) (h2 : x2 < 256) (h3 : x3 < 256) : bits .or .u32 (bits .or .u32 (bits .or .u32 ((x0 : Int) * 16777216) ((x1 : Int) * 65536)) ((x2 : Int) * 256)) (x3 : Int) = ((x0 * 16777216 + x1 * 65536 + x2 * 256 + x3 : Nat) : Int) := by
  have e1 := or32 x0 (x1 * 65536) 24 (by decide) (by omega) (by omega)
  have e2 := or32 (x0 * 256 + x1) (x2 * 256) 16 (by decide) (by omega) (by omega)
  have e3 := or32 (x0 * 65536 + x1 * 256 + x2) x3 8 (by decide) (by omega) (by omega)
  have r1 : ((x0 : Int) * 16777216) = ((x0 * 2 ^ 24 : Nat) : Int) := by omega
  have r2 : ((x1 : Int) * 65536) = ((x1 * 65536 : Nat) : Int) := by omega
  have r3 : ((x2 : Int) * 256) = ((x2 * 256 : Nat) : Int) := by omega
  rw [r1, r2, r3, e1, show x0 * 2 ^ 24 + x1 * 65536 = (x0 * 256 + x1) * 2 ^ 16 by omega, e2, show (x0 * 256 + x1) * 2 ^ 16 + x2 * 256 = (x0 * 65536 + x1 * 256 + x2) * 2 ^ 8 by omega, e3]
set_option maxRecDepth 100000 in
set_option maxHeartbeats 400000 in
theorem number_any (b o n c : Nat) (l : List Nat) (w : World) (hn : l.length = n) (h4 : 4 ≤ n) (hu : ∀ x ∈ l, x < 256) (hs : Sq byw w w.heap.size (some ⟨b, o, none⟩) l) :
    Calls Try.prog 34 #[.slice (some ⟨b, o, none⟩) n c] w fun e w' => e = .returned (.int .u32 ((Nr.num4 l : Nat) : Int)) ∧ Below w.heap.size w w' := by
  obtain ⟨x0, x1, x2, x3, r, rfl⟩ : ∃ x0 x1 x2 x3 r, l = x0 :: x1 :: x2 :: x3 :: r := by
    match l, (show 4 ≤ l.length by omega) with
    | x0 :: x1 :: x2 :: x3 :: r, _ => exact ⟨_, _, _, _, _, rfl⟩
  have g0 := hu x0 (by simp)
  have g1 := hu x1 (by simp)
  have g2 := hu x2 (by simp)
  have g3 := hu x3 (by simp)
  obtain ⟨b', o', hA, hb, hc⟩ := hs (by simp)
  obtain ⟨rfl, rfl⟩ : b = b' ∧ o = o' := by simpa using hA
  have d0 : w.cell? ⟨b, o, none⟩ = some (.int .u8 (x0 : Int)) := hc 0 _ rfl
  have d1 : w.cell? ⟨b, o + 1, none⟩ = some (.int .u8 (x1 : Int)) := hc 1 _ rfl
  have d2 : w.cell? ⟨b, o + 2, none⟩ = some (.int .u8 (x2 : Int)) := hc 2 _ rfl
  have d3 : w.cell? ⟨b, o + 3, none⟩ = some (.int .u8 (x3 : Int)) := hc 3 _ rfl
  have hN : Hid (Nr.num4 (x0 :: x1 :: x2 :: x3 :: r) = x0 * 16777216 + x1 * 65536 + x2 * 256 + x3) := Lib.hid rfl
  rw [hN.out]
  have hn1 : (1 : Int) < (n : Int) := by omega
  have hn2 : (2 : Int) < (n : Int) := by omega
  have hn3 : (3 : Int) < (n : Int) := by omega
  have hn0 : (0 : Int) < (n : Int) := by omega
  have HE := Lib.hid (num_or x0 x1 x2 x3 g0 g1 g2 g3)
  clear hu hs hA hc hn hN
  go_enter Try.func34, Try.ntmps34
  go_wp2_with fail
  go_quiet (fail)
  go_wp2
  go_ret
  exact ⟨ret_int HE.out, bel_drewN (Below.refl _ _) _⟩
end Go.Proofs.Ytalaobpehkgilaa
