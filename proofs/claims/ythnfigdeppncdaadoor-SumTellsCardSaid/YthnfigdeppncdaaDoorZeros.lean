/- The walks of package sum: TrailingZeros32, apply, fill, Zeros. -/
import Derived.Test.YthnfigdeppncdaaDoorSum
import Derived.Test.YthnfigdeppncdaaDoorZLaw
import Derived.Test.YthnfigdeppncdaaDoorSq
import Derived.Shelf.Spec.TrailingZeros
namespace Go.Proofs.YthnfigdeppncdaaDoor
open Go.RowKit
set_option linter.unusedVariables false
attribute [local go_sem] Later.cell Later.frozen setCell_twice

abbrev Tab (w : World) : Prop := TabAt 0 Lib.deBruijn32tab w
theorem Tab.to {w w' : World} (h : Tab w) (h0 : 0 < w.heap.size) (hb : Below w.heap.size w w') : Tab w' := fun j hj => (hb.cell (p := ⟨0, j, none⟩) h0).trans (h j hj)
theorem own_keep {w w' : World} {base e s n : Nat} {v : Value} {xs : List Value} (h : w.ownsRow base e s v n xs) (hb : Below w.heap.size w w') : w'.ownsRow base e s v n xs := by
  refine ⟨h.1, ?_⟩
  rcases h.2 with h2 | ⟨g, cap, cur, hv, hg, hh, r⟩
  · exact .inl h2
  · exact .inr ⟨g, cap, cur, hv, hg, (hb.block g (Array.getElem?_eq_some_iff.1 hh).1).trans hh, r⟩

theorem tz_core (x k idx : Nat) (w : World) (hx0 : ((x : Int) == 0) = false)
    (key : bits BinOp.and IntKind.u32 (x : Int) (-(x : Int) % 4294967296) * 125613361 % 4294967296 / 134217728 = (idx : Int))
    (hi : idx < 32) (hk : k < 32) (hcell : w.cell? ⟨0, idx, none⟩ = some (.int .u8 k)) :
    Calls Tryd.prog 21 #[.int .u32 x] w fun e w' => e = .returned (.int .i64 k) ∧ w = w' := by
  go_enter Tryd.func21, Tryd.ntmps21
  go_wp2_with (simp only [key])
  go_ret
  exact ⟨rfl, rfl⟩
theorem tz_any (x : Nat) (hx : x < 4294967296) (hx0 : x ≠ 0) (w : World) (hT : Tab w) :
    Calls Tryd.prog 21 #[.int .u32 x] w fun e w' => e = .returned (.int .i64 (Lib.ctz 32 x : Nat)) ∧ w = w' := by
  obtain ⟨hlow, hk⟩ := Lib.lowest_bit 32 x hx0 hx
  obtain ⟨hi, htab⟩ := Lib.deBruijn32_at _ hk
  have hcell := hT _ hi
  rw [htab] at hcell
  exact tz_core x _ _ w (by simp; omega) (tz32_key x _ hx hx0 hlow) hi hk hcell

set_option maxHeartbeats 1000000 in
theorem apply_any (b n s : Nat) (w : World) (hs : s < 4294967296) (hbw : b < w.heap.size) (h0 : 0 < w.heap.size) (hT : Tab w) (hE : ∀ j, j < 32 → w.cell? ⟨b, j, none⟩ = some (.int .u32 ((Crc.shifts n (2 ^ j) : Nat) : Int))) :
    Calls Tryd.prog 20 #[.pointer (some ⟨b, 0, none⟩), .int .u32 (s : Int)] w fun e w' => e = .returned (.int .u32 ((Crc.shifts n s : Nat) : Int)) ∧ Below w.heap.size w w' := by
  have HE := Lib.hid hE
  have HT := Lib.hid hT
  clear hE hT
  go_enter Tryd.func20, Tryd.ntmps20
  go_wp2
  go_loopw [1, 5] (fun v u wr => ∃ x y : Nat, x < 4294967296 ∧ y < 4294967296 ∧ v = .int .u32 (x : Int) ∧ u = .int .u32 (y : Int) ∧ Crc.shifts n x ^^^ y = Crc.shifts n s ∧ Below w.heap.size w wr) (fun v _ _ => (intOf v).toNat)
  case atStart => exact ⟨s, 0, hs, by decide, rfl, rfl, by simp, Below.refl _ _⟩
  case round =>
    obtain ⟨x, y, hx, hy, rfl, rfl, he, hbe⟩ := hrel
    by_cases hz : x = 0
    · subst hz
      rw [Crc.shifts_zero, Nat.zero_xor] at he
      have HQ := Lib.hid he
      clear he hx hy
      go_wp2
      go_ret
      exact ⟨by rw [← HQ.out]; rfl, hbe⟩
    · have u1 : ((x : Int) != 0) = true := by simp; omega
      obtain ⟨hk, hxor, hlt⟩ := Crc.low hz hx
      have kt := Lib.hid (fun (W : World) (h : Below w.heap.size w W) => tz_any x hx hz W (HT.out.to h0 h))
      generalize Lib.ctz 32 x = k at *
      have hsz := hbe.size
      have hbr : b < wr.heap.size := by omega
      have d1 : wr.cell? ⟨b, k, none⟩ = some (.int .u32 ((Crc.shifts n (2 ^ k) : Nat) : Int)) := (hbe.cell (p := ⟨b, k, none⟩) hbw).trans (HE.out k hk)
      have hv : Crc.shifts n (2 ^ k) < 4294967296 := Crc.shifts_lt n (show 2 ^ k < 2 ^ 32 from Nat.pow_lt_pow_right (by omega) hk)
      have HX := Lib.hid (u32_xor_nat y (Crc.shifts n (2 ^ k)) hy hv)
      have HA : Hid (bits .and .u32 (x : Int) ((x : Int) - 1) = ((x &&& (x - 1) : Nat) : Int)) := Lib.hid (by
        rw [show (x : Int) - 1 = ((x - 1 : Nat) : Int) by omega]
        exact u32_and_nat x (x - 1) hx (by omega))
      have HN : Hid (Crc.shifts n (x &&& (x - 1)) ^^^ (y ^^^ Crc.shifts n (2 ^ k)) = Crc.shifts n s) := Lib.hid (by
        rw [← he]
        conv => rhs; rw [← hxor]
        rw [Crc.shifts_xor]
        rw [Nat.xor_assoc, Nat.xor_comm y])
      have hvy := Crc.xor_lt hy hv
      have hlt2 : (x &&& (x - 1)) < 4294967296 := by omega
      have e1 : (0 : Int) ≤ (k : Int) := by omega
      have e2 : (k : Int) < 32 := by omega
      generalize Crc.shifts n (2 ^ k) = t at *
      clear he hxor hv hz
      go_wp2
      refine wp_region_lat (by kernel_rfl) (by kernel_rfl) ?_
      repeat (go_big_quiet_step (fail))
      go_big_quiet_step (exact later_same (kt.out _ (bel_later _ hbe)))
      repeat (go_big_quiet_step (fail))
      refine wpQuiet_nil ?_
      rintro _ ⟨x3, rfl⟩
      have hz_x3 := x3.bel.size
      try simp at hz_x3
      go_wp2
      go_roundw
      case rel => exact ⟨x &&& (x - 1), y ^^^ t, hlt2, hvy, by rw [← HA.out], by rw [← HX.out], HN.out, bel_later x3 hbe⟩
      case measure => rw [HA.out]; simp [intOf]; omega

set_option maxHeartbeats 1000000 in
theorem fill_any (b n base e : Nat) (xs : List Value) (w : World) (hown : w.ownsRow base e 1 (.slice (some ⟨b, 0, none⟩) 32 32) 32 xs) :
    Calls Tryd.prog 19 #[.pointer (some ⟨b, 0, none⟩), .int .u32 ((Crc.shifts n (2 ^ 31) : Nat) : Int)] w fun en w' => en = .returned (.tuple #[]) ∧ ∃ ys, w'.ownsRow base e 1 (.slice (some ⟨b, 0, none⟩) 32 32) 32 ys ∧ (∀ j, j < 32 → ys[j]? = some (.int .u32 ((Crc.shifts n (2 ^ j) : Nat) : Int))) ∧ Below base w w' := by
  go_enter Tryd.func19, Tryd.ntmps19
  go_wp2
  go_loopw [1, 4, 5] (fun t _ i wr => ∃ k : Nat, ∃ ys, k ≤ 32 ∧ i = .int .i64 (k : Int) ∧ t = .int .u32 ((Crc.shifts (n + k) (2 ^ 31) : Nat) : Int) ∧ wr.ownsRow base e 1 (.slice (some ⟨b, 0, none⟩) 32 32) 32 ys ∧ (∀ j, 32 - k ≤ j → j < 32 → ys[j]? = some (.int .u32 ((Crc.shifts n (2 ^ j) : Nat) : Int))) ∧ Below base w wr) (fun _ _ i _ => 32 - (intOf i).toNat)
  case atStart => exact ⟨0, xs, by omega, rfl, rfl, hown, fun j h1 h2 => absurd h2 (by omega), Below.refl _ _⟩
  case round =>
    clear hown
    obtain ⟨k, ys, hk, rfl, rfl, hown, hall, hbe⟩ := hrel
    have HALL := Lib.hid hall
    clear hall
    by_cases hlt : k < 32
    · obtain ⟨g, hg, hg1, hg2⟩ := own_some hown (by omega)
      obtain rfl : b = g := by simpa using hg
      clear hg
      have hyl : ys.length = 32 := by simpa using hown.1
      obtain ⟨u, hu⟩ : ∃ u, ys[31 - k]? = some u := ⟨_, List.getElem?_eq_getElem (by omega)⟩
      have d0 : wr.cell? ⟨b, 31 - k, none⟩ = some u := (hown.cellAt _ (by omega)).trans hu
      have f0 := hown.frozenAt (31 - k)
      have HT := Lib.hid (Crc.top_at n k (by omega))
      have HS := Lib.hid (Crc.shifts_succ (n + k) (2 ^ 31))
      have hv : Crc.shifts (n + k) (2 ^ 31) < 4294967296 := Crc.shifts_lt _ (by decide)
      generalize Crc.shifts (n + k) (2 ^ 31) = t at *
      have e1 : (0 : Int) ≤ 31 - (k : Int) := by omega
      have e2 : 31 - (k : Int) < 32 := by omega
      have e3 : (31 - (k : Int)).toNat = 31 - k := by omega
      have HST := Lib.hid (hown.stored (31 - k) (.int .u32 (t : Int))).1
      have hyu : ys.length = 32 := hyl
      clear hu hyl
      go_wp2_with fail
      refine (shift_any t _ hv).mono ?_
      rintro e_ w_ ⟨rfl, rfl⟩
      go_wp2
      go_roundw
      case rel =>
        refine ⟨k + 1, ys.set (31 - k) (.int .u32 (t : Int)), by omega, by go_num, by rw [← Nat.add_assoc, HS.out], HST.out, ?_, hbe.setCell hg1 _⟩
        intro j h1 h2
        by_cases hj : j = 31 - k
        · subst hj
          rw [List.getElem?_set_self (by omega), HT.out]
        · rw [List.getElem?_set_ne (by omega)]
          exact HALL.out j (by omega) h2
      case measure => simp [intOf]; omega
    · obtain rfl : k = 32 := by omega
      go_wp2
      go_end0
      exact ⟨rfl, ys, hown, fun j hj => HALL.out j (by omega) hj, hbe⟩

theorem own_new (w : World) (e n : Nat) (cs : Array Value) (hn : cs.size = n) (hm : n ≤ maxLen) : (w.alloc (.cells cs e)).ownsRow w.heap.size e 1 (.slice (some ⟨w.heap.size, 0, none⟩) n n) n cs.toList := by
  refine ⟨by simp [hn], .inr ⟨w.heap.size, n, cs, rfl, Nat.le_refl _, heap_alloc_new w _, Nat.le_refl _, hm, by omega, ?_⟩⟩
  rw [List.take_of_length_le (by simp [hn])]
set_option maxHeartbeats 2000000 in
theorem zeros_any (s : Nat) (N : Int) (r : Nat) (w : World) (hs : s < 4294967296) (hN : N ≤ 9223372036854775807) (h0 : 0 < w.heap.size) (hT : Tab w) (hr : Crc.zeros s N = r) :
    Calls Tryd.prog 13 #[.int .u32 (s : Int), .int .i64 N] w fun e w' => e = .returned (.int .u32 (r : Int)) ∧ Below w.heap.size w w' := by
  have HT := Lib.hid hT
  have HR := Lib.hid hr
  have HN := Lib.hid hN
  have hadd : Crc.add (2 ^ 31) 0 = Crc.shifts 8 (2 ^ 31) := by unfold Crc.add; rw [Nat.xor_zero]
  have k0 := Lib.hid (fun (W : World) => hadd ▸ add_any (2 ^ 31) 0 W (by decide) (by decide))
  clear hT hr hN hadd
  go_enter Tryd.func13, Tryd.ntmps13
  go_wp2_with fail
  refine (k0.out _).mono ?_
  rintro e_ w_ ⟨rfl, rfl⟩
  go_wp2
  go_loopw [0, 1, 6] (fun v nn t wr => ∃ (z : Int) (x p : Nat) (ys : List Value), z ≤ 9223372036854775807 ∧ x < 4294967296 ∧ v = .int .u32 (x : Int) ∧ nn = .int .i64 z ∧ t = .int .u32 ((Crc.shifts p (2 ^ 31) : Nat) : Int) ∧ Crc.shifts (p * z.toNat) x = r ∧ wr.ownsRow w.heap.size 40 1 (.slice (some ⟨w.heap.size, 0, none⟩) 32 32) 32 ys ∧ Below w.heap.size w wr) (fun _ nn _ _ => (intOf nn).toNat)
  case atStart => exact ⟨N, s, 8, _, HN.out, hs, rfl, rfl, rfl, HR.out, own_new w _ 32 _ rfl (by unfold maxLen; omega), (by repeat (first | exact Below.refl _ _ | refine bel_later _ ?_ | refine bel_alloc ?_ _ | refine bel_set ?_ (by first | omega | (simp; done) | (simp; omega)) _ | refine Below.drew ?_ | assumption))⟩
  case round =>
    obtain ⟨z, x, p, ys, hz, hx, rfl, rfl, rfl, he, hown, hbe⟩ := hrel
    by_cases hz0 : 0 < z
    · obtain ⟨m, rfl⟩ : ∃ m : Nat, z = (m : Int) := ⟨z.toNat, by omega⟩
      rw [Int.toNat_natCast, Crc.shifts_half p m x] at he
      have HEQ := Lib.hid he
      have HTOP : Hid (Crc.shifts p (Crc.shifts p (2 ^ 31)) = Crc.shifts (p * 2) (2 ^ 31)) := Lib.hid (by rw [← Crc.shifts_add, Nat.mul_two])
      have htl : Crc.shifts p (2 ^ 31) < 4294967296 := Crc.shifts_lt _ (by decide)
      have kf := Lib.hid (fill_any w.heap.size p w.heap.size 40 ys wr hown)
      have hsz := hbe.size
      have hxp := Crc.shifts_lt p hx
      have kx := Lib.hid (fun W h1 h2 h3 h4 => apply_any w.heap.size p x W hx h1 h2 h3 h4)
      have kt := Lib.hid (fun W h1 h2 h3 h4 => apply_any w.heap.size p (Crc.shifts p (2 ^ 31)) W htl h1 h2 h3 h4)
      have HM := Lib.hid hz
      have HW : Hid (wrap64 ((m : Int) / 2) = (m : Int) / 2) := Lib.hid (IntWalk.wrap64_in _ (by omega))
      generalize Crc.shifts p (2 ^ 31) = t at *
      clear he hown hz
      go_wp2_with fail
      refine kf.out.mono ?_
      rintro e1 w1 ⟨rfl, ys1, hown1, hall1, hb1⟩
      obtain ⟨g, hg, hg1, hg2⟩ := own_some hown1 (by omega)
      obtain rfl : w.heap.size = g := by simpa using hg
      have HE1 := Lib.hid (show ∀ j, j < 32 → w1.cell? ⟨w.heap.size, j, none⟩ = _ from fun j hj => (hown1.cellAt j (by omega)).trans (hall1 j hj))
      have hbe1 : Below w.heap.size w w1 := hbe.trans hb1
      clear hg hg1 hall1 hb1 hbe kf
      by_cases hp : m % 2 = 1
      · have u1 : ((m : Int) % 2 == 1) = true := by simp; omega
        have HEQ2 : Hid (Crc.shifts (p * 2 * (m / 2)) (Crc.shifts p x) = r) := Lib.hid (by rw [← HEQ.out, hp, Nat.mul_one])
        generalize Crc.shifts p x = xp at *
        clear hp
        go_wp2_with fail
        refine (kx.out _ hg2 (by omega) (HT.out.to h0 hbe1) HE1.out).mono ?_
        rintro e_y1 w_y1 ⟨rfl, hb_y1⟩
        obtain ⟨y1, rfl⟩ := later_is hb_y1
        clear hb_y1
        have hz_y1 := y1.bel.size
        try simp at hz_y1
        have hE2 : ∀ j, j < 32 → y1.val.cell? ⟨w.heap.size, j, none⟩ = _ := fun j hj => (y1.bel.cell (p := ⟨w.heap.size, j, none⟩) hg2).trans (HE1.out j hj)
        have HE2 := Lib.hid hE2
        clear hE2
        go_wp2_with fail
        refine (kt.out _ (by omega) (by omega) (HT.out.to h0 (bel_later y1 hbe1)) HE2.out).mono ?_
        rintro e_y2 w_y2 ⟨rfl, hb_y2⟩
        obtain ⟨y2, rfl⟩ := later_is hb_y2
        clear hb_y2
        have hz_y2 := y2.bel.size
        try simp at hz_y2
        go_wp2
        go_roundw
        case rel => exact ⟨(m : Int) / 2, xp, p * 2, ys1, by have := HM.out; omega, hxp, rfl, by rw [HW.out], by rw [HTOP.out], by rw [show ((m : Int) / 2).toNat = m / 2 by omega]; exact HEQ2.out, own_keep (own_keep hown1 y1.bel) y2.bel, bel_later y2 (bel_later y1 hbe1)⟩
        case measure => rw [HW.out]; simp [intOf]; omega
      · have u1 : ((m : Int) % 2 == 1) = false := by simp; omega
        have HEQ2 : Hid (Crc.shifts (p * 2 * (m / 2)) x = r) := Lib.hid (by rw [← HEQ.out, show m % 2 = 0 by omega, Nat.mul_zero]; rfl)
        clear hp
        go_wp2_with fail
        refine (kt.out _ hg2 (by omega) (HT.out.to h0 hbe1) HE1.out).mono ?_
        rintro e_y2 w_y2 ⟨rfl, hb_y2⟩
        obtain ⟨y2, rfl⟩ := later_is hb_y2
        clear hb_y2
        have hz_y2 := y2.bel.size
        try simp at hz_y2
        go_wp2
        go_roundw
        case rel => exact ⟨(m : Int) / 2, x, p * 2, ys1, by have := HM.out; omega, hx, rfl, by rw [HW.out], by rw [HTOP.out], by rw [show ((m : Int) / 2).toNat = m / 2 by omega]; exact HEQ2.out, own_keep hown1 y2.bel, bel_later y2 hbe1⟩
        case measure => rw [HW.out]; simp [intOf]; omega
    · rw [show z.toNat = 0 by omega, Nat.mul_zero] at he
      have HEQ : Hid (x = r) := Lib.hid he
      clear he hz
      go_wp2
      go_ret
      exact ⟨by rw [← HEQ.out]; rfl, hbe⟩
end Go.Proofs.YthnfigdeppncdaaDoor
