/- SumZeros: the walk. -/
import Derived.Test.YthnfigdeppncdaaDoorZeros
import Derived.Test.YthnfigdeppncdaaDoorSumW
namespace Go.Proofs.YthnfigdeppncdaaDoor
open Go.RowKit
set_option linter.unusedVariables false
attribute [local go_sem] Later.cell Later.frozen setCell_twice
theorem z_zero (s : Nat) : Crc.zeros s 0 = s := rfl
theorem z_neg (s n : Nat) : Crc.zeros s (-1 - (n : Int)) = s := by
  unfold Crc.zeros
  rw [show (-1 - (n : Int)).toNat = 0 by omega]
  rfl
theorem z_one (s : Nat) : Crc.zeros s 1 = Crc.add s 0 := by
  unfold Crc.zeros Crc.add
  rw [Nat.xor_zero]
  rfl
theorem z_add (s n m : Nat) : Crc.zeros (Crc.zeros s (n : Int)) (m : Int) = Crc.zeros s ((n : Int) + (m : Int)) := by
  unfold Crc.zeros
  rw [← Crc.shifts_add]
  congr 1
  omega
theorem z_xor (s t : Nat) (n : Int) : Crc.zeros (s ^^^ t) n = Crc.zeros s n ^^^ Crc.zeros t n := Crc.shifts_xor _ _ _
theorem z_eq0 {s : Nat} (h : s < 4294967296) (n : Int) : Crc.zeros s n = 0 ↔ s = 0 :=
  ⟨Crc.shifts_eq_zero _ h, fun e => by rw [e]; exact Crc.shifts_zero _⟩
theorem z_inj {s t : Nat} (hs : s < 4294967296) (ht : t < 4294967296) (n : Int) : Crc.zeros s n = Crc.zeros t n ↔ s = t := by
  constructor
  · intro h
    have h1 : Crc.zeros (s ^^^ t) n = 0 := by rw [z_xor, h, Nat.xor_self]
    have h2 := (z_eq0 (Crc.xor_lt hs ht) n).1 h1
    have h3 : s ^^^ t ^^^ t = 0 ^^^ t := by rw [h2]
    rw [Nat.xor_assoc, Nat.xor_self, Nat.xor_zero, Nat.zero_xor] at h3
    exact h3
  · intro h
    rw [h]

set_option maxRecDepth 100000 in
set_option maxHeartbeats 2000000 in
theorem sumZeros_walk (s t a b : Nat) (w : World) (hs : s < 4294967296) (ht : t < 4294967296) (ha : a < 18446744073709551616) (hb : b < 18446744073709551616) (h0 : 0 < w.heap.size) (hT : Tab w) :
    Calls Tryd.prog 4 #[.int .u32 (s : Int), .int .u32 (t : Int), .int .u64 (a : Int), .int .u64 (b : Int)] w fun e w' => e = .returned (.bool true) ∧ Below w.heap.size w w' := by
  have HT := Lib.hid hT
  obtain ⟨n, hn⟩ : ∃ n : Nat, n = a % 1099511627777 := ⟨_, rfl⟩
  obtain ⟨m, hm⟩ : ∃ m : Nat, m = b % 1099511627777 := ⟨_, rfl⟩
  have hn1 : n ≤ 1099511627776 := by omega
  have hm1 : m ≤ 1099511627776 := by omega
  have HN1 := Lib.hid hn1
  have HM1 := Lib.hid hm1
  have hn' : (a : Int) % 1099511627777 = (n : Int) := by omega
  have hm' : (b : Int) % 1099511627777 = (m : Int) := by omega
  have kz := fun (x : Nat) (N : Int) (r : Nat) (hx : x < 4294967296) (hN : N ≤ 9223372036854775807) (hr : Crc.zeros x N = r) (W : World) (h : Below w.heap.size w W) => zeros_any x N r W hx hN (Nat.lt_of_lt_of_le h0 h.size) (HT.out.to h0 h) hr
  have hxl := Crc.zeros_lt hs (n : Int)
  have hyl := Crc.zeros_lt ht (n : Int)
  have k1 := Lib.hid (kz s (n : Int) _ hs (by omega) rfl)
  have k2 := Lib.hid (kz _ (m : Int) _ hxl (by omega) (z_add s n m))
  have k3 := Lib.hid (kz s ((n : Int) + (m : Int)) _ hs (by omega) rfl)
  have k4 := Lib.hid (kz s 1 _ hs (by omega) (z_one s))
  have k5 := Lib.hid (kz s 0 _ hs (by omega) (z_zero s))
  have k6 := Lib.hid (kz s (-1 - (n : Int)) _ hs (by omega) (z_neg s n))
  have k7 := Lib.hid (kz t (n : Int) _ ht (by omega) rfl)
  have k8 := kz (s ^^^ t) (n : Int) _ (Crc.xor_lt hs ht) (by omega) (z_xor s t n)
  rw [← u32_xor_nat s t hs ht] at k8
  simp only [← u32_xor_nat _ _ hxl hyl] at k8
  replace k8 := Lib.hid k8
  obtain ⟨q0, hq0⟩ : ∃ q : Bool, ((s : Int) == 0) = q := ⟨_, rfl⟩
  obtain ⟨q1, hq1⟩ : ∃ q : Bool, ((s : Int) == (t : Int)) = q := ⟨_, rfl⟩
  have hq2 : ((Crc.zeros s (n : Int) : Int) == 0) = q0 := by
    rw [← hq0, Bool.eq_iff_iff]
    have := z_eq0 hs (n : Int)
    simp only [beq_iff_eq]
    omega
  have hq3 : ((Crc.zeros s (n : Int) : Int) == (Crc.zeros t (n : Int) : Int)) = q1 := by
    rw [← hq1, Bool.eq_iff_iff]
    have := z_inj hs ht (n : Int)
    simp only [beq_iff_eq]
    omega
  generalize Crc.zeros s (n : Int) = x at *
  generalize Crc.zeros t (n : Int) = y at *
  generalize Crc.zeros s ((n : Int) + (m : Int)) = z at *
  clear hT kz hxl hyl hn hm hn1 hm1 ha hb
  go_enter Tryd.func4, Tryd.ntmps4
  go_wp2_with fail
  refine (k1.out _ (by repeat (first | exact Below.refl _ _ | refine bel_later _ ?_ | refine bel_alloc ?_ _ | refine bel_set ?_ (by first | omega | (simp; done) | (simp; omega)) _ | refine Below.drew ?_ | assumption))).mono ?_
  rintro e_x1 w_x1 ⟨rfl, hb_x1⟩
  obtain ⟨x1, rfl⟩ := later_is hb_x1
  clear hb_x1
  have hz_x1 := x1.bel.size
  try simp at hz_x1
  go_wp2_with fail
  refine (k2.out _ (by repeat (first | exact Below.refl _ _ | refine bel_later _ ?_ | refine bel_alloc ?_ _ | refine bel_set ?_ (by first | omega | (simp; done) | (simp; omega)) _ | refine Below.drew ?_ | assumption))).mono ?_
  rintro e_x2 w_x2 ⟨rfl, hb_x2⟩
  obtain ⟨x2, rfl⟩ := later_is hb_x2
  clear hb_x2
  have hz_x2 := x2.bel.size
  try simp at hz_x2
  go_wp2_with fail
  refine (k3.out _ (by repeat (first | exact Below.refl _ _ | refine bel_later _ ?_ | refine bel_alloc ?_ _ | refine bel_set ?_ (by first | omega | (simp; done) | (simp; omega)) _ | refine Below.drew ?_ | assumption))).mono ?_
  rintro e_x3 w_x3 ⟨rfl, hb_x3⟩
  obtain ⟨x3, rfl⟩ := later_is hb_x3
  clear hb_x3
  have hz_x3 := x3.bel.size
  try simp at hz_x3
  go_wp2_with fail
  refine (k4.out _ (by repeat (first | exact Below.refl _ _ | refine bel_later _ ?_ | refine bel_alloc ?_ _ | refine bel_set ?_ (by first | omega | (simp; done) | (simp; omega)) _ | refine Below.drew ?_ | assumption))).mono ?_
  rintro e_x4 w_x4 ⟨rfl, hb_x4⟩
  obtain ⟨x4, rfl⟩ := later_is hb_x4
  clear hb_x4
  have hz_x4 := x4.bel.size
  try simp at hz_x4
  go_wp2_with fail
  refine (add_any s 0 _ hs (by decide)).mono ?_
  rintro e_ w_ ⟨rfl, rfl⟩
  go_wp2_with fail
  refine (k5.out _ (by repeat (first | exact Below.refl _ _ | refine bel_later _ ?_ | refine bel_alloc ?_ _ | refine bel_set ?_ (by first | omega | (simp; done) | (simp; omega)) _ | refine Below.drew ?_ | assumption))).mono ?_
  rintro e_x5 w_x5 ⟨rfl, hb_x5⟩
  obtain ⟨x5, rfl⟩ := later_is hb_x5
  clear hb_x5
  have hz_x5 := x5.bel.size
  try simp at hz_x5
  go_wp2_with fail
  refine (k6.out _ (by repeat (first | exact Below.refl _ _ | refine bel_later _ ?_ | refine bel_alloc ?_ _ | refine bel_set ?_ (by first | omega | (simp; done) | (simp; omega)) _ | refine Below.drew ?_ | assumption))).mono ?_
  rintro e_x6 w_x6 ⟨rfl, hb_x6⟩
  obtain ⟨x6, rfl⟩ := later_is hb_x6
  clear hb_x6
  have hz_x6 := x6.bel.size
  try simp at hz_x6
  go_wp2_with fail
  refine (k7.out _ (by repeat (first | exact Below.refl _ _ | refine bel_later _ ?_ | refine bel_alloc ?_ _ | refine bel_set ?_ (by first | omega | (simp; done) | (simp; omega)) _ | refine Below.drew ?_ | assumption))).mono ?_
  rintro e_x7 w_x7 ⟨rfl, hb_x7⟩
  obtain ⟨x7, rfl⟩ := later_is hb_x7
  clear hb_x7
  have hz_x7 := x7.bel.size
  try simp at hz_x7
  go_wp2_with fail
  refine (k1.out _ (by repeat (first | exact Below.refl _ _ | refine bel_later _ ?_ | refine bel_alloc ?_ _ | refine bel_set ?_ (by first | omega | (simp; done) | (simp; omega)) _ | refine Below.drew ?_ | assumption))).mono ?_
  rintro e_x8 w_x8 ⟨rfl, hb_x8⟩
  obtain ⟨x8, rfl⟩ := later_is hb_x8
  clear hb_x8
  have hz_x8 := x8.bel.size
  try simp at hz_x8
  go_wp2_with fail
  refine (k7.out _ (by repeat (first | exact Below.refl _ _ | refine bel_later _ ?_ | refine bel_alloc ?_ _ | refine bel_set ?_ (by first | omega | (simp; done) | (simp; omega)) _ | refine Below.drew ?_ | assumption))).mono ?_
  rintro e_x9 w_x9 ⟨rfl, hb_x9⟩
  obtain ⟨x9, rfl⟩ := later_is hb_x9
  clear hb_x9
  have hz_x9 := x9.bel.size
  try simp at hz_x9
  go_wp2_with fail
  refine (k8.out _ (by repeat (first | exact Below.refl _ _ | refine bel_later _ ?_ | refine bel_alloc ?_ _ | refine bel_set ?_ (by first | omega | (simp; done) | (simp; omega)) _ | refine Below.drew ?_ | assumption))).mono ?_
  rintro e_x10 w_x10 ⟨rfl, hb_x10⟩
  obtain ⟨x10, rfl⟩ := later_is hb_x10
  clear hb_x10
  have hz_x10 := x10.bel.size
  try simp at hz_x10
  go_wp2_with fail
  refine (awake_any _).mono ?_
  rintro e_x11 w_x11 ⟨rfl, hb_x11⟩
  obtain ⟨x11, rfl⟩ := later_is hb_x11
  clear hb_x11
  have hz_x11 := x11.bel.size
  try simp at hz_x11
  go_wp2
  go_ret
  exact ⟨rfl, (by repeat (first | exact Below.refl _ _ | refine bel_later _ ?_ | refine bel_alloc ?_ _ | refine bel_set ?_ (by first | omega | (simp; done) | (simp; omega)) _ | refine Below.drew ?_ | assumption))⟩
end Go.Proofs.YthnfigdeppncdaaDoor
