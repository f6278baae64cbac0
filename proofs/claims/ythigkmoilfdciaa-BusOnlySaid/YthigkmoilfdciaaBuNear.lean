/- Layer 11: near. -/
import Derived.Test.YthigkmoilfdciaaBuWant
namespace Go.Proofs.Ythigkmoilfdciaa
open Go.RowKit
set_option linter.unusedVariables false
set_option linter.unusedSimpArgs false
attribute [local go_sem] Later.cell Later.frozen setCell_twice
/-- bit n of bytes -/
def bitAt (l : List Nat) (n : Nat) : Nat := (l.getD (n / 8) 0) / 2 ^ (n % 8) % 2
theorem bit_u8 {x r : Nat} (h : x < 256) : bits .and .u8 ((x : Int) / 2 ^ r) 1 = ((x / 2 ^ r % 2 : Nat) : Int) := by
  have h1 : (x : Int) / 2 ^ r = ((x / 2 ^ r : Nat) : Int) := by simp
  have h2 : x / 2 ^ r < 256 := Nat.lt_of_le_of_lt (Nat.div_le_self _ _) h
  rw [h1, show (1 : Int) = ((1 : Nat) : Int) from rfl, u8_and_nat _ _ h2 (by decide), Nat.and_one_is_mod]
set_option maxRecDepth 100000 in
set_option maxHeartbeats 1000000 in
theorem near_any (la lb : List Nat) (A B : Option Addr) (q ca cb f : Nat) (w : World) (ha : la.length = q) (hb : lb.length = q) (sa : Sq byw w w.heap.size A la) (sb : Sq byw w w.heap.size B lb) (ua : ∀ x ∈ la, x < 256) (ub : ∀ x ∈ lb, x < 256) (hq : q ≤ 300)
    (hn : ∀ n, n < 8 * q → bitAt la n ≠ bitAt lb n → f ≤ n ∧ n < f + 16) :
    Calls Try.prog 29 #[.slice A q ca, .slice B q cb] w fun e w' => e = .returned (.bool true) ∧ Below w.heap.size w w' := by
  have SA := Lib.hid sa
  have SB := Lib.hid sb
  have UA := Lib.hid ua
  have UB := Lib.hid ub
  have HA := Lib.hid ha
  have HB := Lib.hid hb
  have HN := Lib.hid hn
  clear sa sb ua ub ha hb hn
  obtain ⟨N, hN⟩ : ∃ N, 8 * q = N := ⟨_, rfl⟩
  have hNI : 8 * (q : Int) = (N : Int) := by omega
  have hNl : N ≤ 2400 := by omega
  have HNN := Lib.hid hN
  clear hN
  go_enter Try.func29, Try.ntmps29
  have hqq : ((q : Int) != (q : Int)) = false := by simp
  go_wp2
  try rw [hNI]
  clear hNI hqq
  go_loopw [16, 5, 6] (fun i fv lv wr => ∃ (k : Nat) (a b : Int), k ≤ N ∧ i = .int .i64 (k : Int) ∧ fv = .int .i64 a ∧ lv = .int .i64 b ∧ ((a = -1 ∧ b = -1) ∨ (0 ≤ a ∧ a ≤ b ∧ b < (k : Int) ∧ (f : Int) ≤ a ∧ b < (f : Int) + 16)) ∧ Hid (Below w.heap.size w wr)) (fun i _ _ _ => N - (intOf i).toNat)
  case atStart => exact ⟨0, -1, -1, by omega, rfl, rfl, rfl, .inl ⟨rfl, rfl⟩, Lib.hid (Below.refl _ _)⟩
  case round =>
    rename World => wr
    obtain ⟨k, a, b, hk, rfl, rfl, rfl, hab, BW⟩ := hrel
    by_cases hlt : k < N
    · obtain ⟨j, hj⟩ : ∃ j, k / 8 = j := ⟨_, rfl⟩
      obtain ⟨r, hr⟩ : ∃ r, k % 8 = r := ⟨_, rfl⟩
      have hjq : j < q := by have := HNN.out; omega
      have hr8 : r < 8 := by omega
      obtain ⟨ba, oa, x, rfl, hba, hx, hcx⟩ := ((SA.out.below BW.out).more BW.out.size).at_ (j := j) (by rw [HA.out]; exact hjq)
      obtain ⟨bb, ob, y, rfl, hbb, hy, hcy⟩ := ((SB.out.below BW.out).more BW.out.size).at_ (j := j) (by rw [HB.out]; exact hjq)
      have hxl : x < 256 := UA.out x (List.mem_of_getElem? hx)
      have hyl : y < 256 := UB.out y (List.mem_of_getElem? hy)
      have hjI : (k : Int) / 8 = (j : Int) := by omega
      have hrI : (k : Int) % 8 = (r : Int) := by omega
      have hltI : (k : Int) < (N : Int) := by omega
      have hjqI : (j : Int) < (q : Int) := by omega
      have hj0 : (0 : Int) ≤ (j : Int) := by omega
      have hr0 : (0 : Int) ≤ (r : Int) := by omega
      have HX := Lib.hid hx
      have HY := Lib.hid hy
      have HJ := Lib.hid hj
      have HRR := Lib.hid hr
      clear hx hy hj hr
      obtain ⟨px, hpx⟩ : ∃ p, x / 2 ^ r % 2 = p := ⟨_, rfl⟩
      obtain ⟨py, hpy⟩ : ∃ p, y / 2 ^ r % 2 = p := ⟨_, rfl⟩
      have ex : bits .and .u8 ((x : Int) / 2 ^ r) 1 = (px : Int) := by rw [bit_u8 hxl, hpx]
      have ey : bits .and .u8 ((y : Int) / 2 ^ r) 1 = (py : Int) := by rw [bit_u8 hyl, hpy]
      have hba_ : bitAt la k = px := by
        unfold bitAt
        rw [HJ.out, HRR.out, List.getD_eq_getElem?_getD, HX.out]
        exact hpx
      have hbb_ : bitAt lb k = py := by
        unfold bitAt
        rw [HJ.out, HRR.out, List.getD_eq_getElem?_getD, HY.out]
        exact hpy
      have HPA := Lib.hid hba_
      have HPB := Lib.hid hbb_
      clear hpx hpy hba_ hbb_
      go_upto_region 7 with fail
      by_cases hp : px = py
      · have gp : ((px : Int) != (py : Int)) = false := by simp [hp]
        clear hp
        go_quiet (fail)
        obtain ⟨wy, hwy⟩ : ∃ wy, wr.drewN nq = wy := ⟨_, rfl⟩
        try rw [hwy]
        replace BW : Hid (Below w.heap.size w wy) := Lib.hid (by rw [← hwy]; exact bel_drewN BW.out _)
        clear hwy
        go_wp2
        go_roundw
        case rel => exact ⟨k + 1, a, b, by omega, by go_num, rfl, rfl, by omega, BW⟩
        case measure => simp [intOf]; omega
      · have gp : ((px : Int) != (py : Int)) = true := bne_iff_ne.2 (by omega)
        have hf := HN.out k (by rw [HNN.out]; exact hlt) (by rw [HPA.out, HPB.out]; exact hp)
        clear hp
        go_quiet (fail)
        obtain ⟨wy, hwy⟩ : ∃ wy, wr.drewN nq = wy := ⟨_, rfl⟩
        try rw [hwy]
        replace BW : Hid (Below w.heap.size w wy) := Lib.hid (by rw [← hwy]; exact bel_drewN BW.out _)
        clear hwy
        by_cases ha0 : a < 0
        · have ga : decide (a < 0) = true := decide_eq_true ha0
          go_wp2
          go_roundw
          case rel => exact ⟨k + 1, (k : Int), (k : Int), by omega, by go_num, rfl, rfl, by omega, BW⟩
          case measure => simp [intOf]; omega
        · have ga : decide (a < 0) = false := decide_eq_false ha0
          go_wp2
          go_roundw
          case rel => exact ⟨k + 1, a, (k : Int), by omega, by go_num, rfl, rfl, by omega, BW⟩
          case measure => simp [intOf]; omega
    · obtain rfl : k = N := by omega
      by_cases ha0 : a < 0
      · have ga : decide (a < 0) = true := decide_eq_true ha0
        go_wp2
        go_ret
        exact ⟨rfl, BW.out⟩
      · have ga : decide (a < 0) = false := decide_eq_false ha0
        have gb : decide (b - a < 16) = true := decide_eq_true (by omega)
        go_wp2
        go_ret
        exact ⟨rfl, BW.out⟩
end Go.Proofs.Ythigkmoilfdciaa
