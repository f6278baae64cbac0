/- Layer 15, the document's answer: decimals (layer 12): Right, millionth, Cmp, common, Of. -/
import Derived.Test.YthhokpaidekmnaaVdWdLaw
import Derived.BigQuiet
namespace Go.Proofs.Ythhokpaidekmnaa
open Go.RowKit
set_option linter.unusedVariables false
set_option linter.unusedSimpArgs false
attribute [local go_sem] Later.cell Later.frozen setCell_twice
set_option maxHeartbeats 1000000 in
theorem rrightD_any (n : Int) (d : Nat) (w : World) (hn : -9223372036854775808 ≤ n) (hn2 : n ≤ 9223372036854775807) : Calls Try.prog 28 #[dcV n d] w fun e w' => e = .returned (.bool (Vd.rightD ⟨n, d⟩)) ∧ Below w.heap.size w w' := by
 unfold dcV
 by_cases h1 : -1000000000000 ≤ n
 rotate_left
 ·have g1 : decide (-1000000000000 ≤ n) = false := decide_eq_false h1
  rw [show Vd.rightD ⟨n, d⟩ = false from decide_eq_false (by dsimp only; omega)]
  clear h1
  go_enter Try.func28, Try.ntmps28
  go_wp2
  go_ret
  exact ⟨rfl, bel_alloc (Below.refl _ _) _⟩
 have g1 : decide (-1000000000000 ≤ n) = true := decide_eq_true h1
 by_cases h2 : n ≤ 1000000000000
 rotate_left
 ·have g2 : decide (n ≤ 1000000000000) = false := decide_eq_false h2
  rw [show Vd.rightD ⟨n, d⟩ = false from decide_eq_false (by dsimp only; omega)]
  clear h1
  go_enter Try.func28, Try.ntmps28
  go_wp2
  go_ret
  exact ⟨rfl, bel_alloc (Below.refl _ _) _⟩
 have g2 : decide (n ≤ 1000000000000) = true := decide_eq_true h2
 by_cases h3 : d ≤ 6
 rotate_left
 ·have g3 : decide ((d : Int) ≤ 6) = false := decide_eq_false (by omega)
  rw [show Vd.rightD ⟨n, d⟩ = false from decide_eq_false (by dsimp only; omega)]
  clear h1
  go_enter Try.func28, Try.ntmps28
  go_wp2
  go_ret
  exact ⟨rfl, bel_alloc (Below.refl _ _) _⟩
 have g3 : decide ((d : Int) ≤ 6) = true := decide_eq_true (by omega)
 by_cases h4 : d = 0
 ·have g4 : ((d : Int) == 0) = true := by simp [h4]
  rw [show Vd.rightD ⟨n, d⟩ = true from decide_eq_true (by dsimp only; omega)]
  clear h4
  clear h1
  go_enter Try.func28, Try.ntmps28
  go_wp2
  go_ret
  exact ⟨rfl, bel_alloc (Below.refl _ _) _⟩
 have g4 : ((d : Int) == 0) = false := by simp [h4]
 obtain ⟨m, hm⟩ : ∃ m, n.tmod 10 = m := ⟨_, rfl⟩
 have hmb : -10 < m ∧ m < 10 := by rw [← hm]; have := Int.tmod_lt_of_pos n (b := 10) (by decide); have := Int.lt_tmod_of_pos n (b := 10) (by decide); omega
 have hmw : IntKind.i64.wrap m = m := IntWalk.i64_in _ (by omega)
 by_cases h5 : m = 0
 ·have h6 := (tmod10 n).1 (hm.trans h5)
  have g5 : (m != 0) = false := by simp [h5]
  rw [show Vd.rightD ⟨n, d⟩ = false from decide_eq_false (by dsimp only; omega)]
  clear h5 h6 h4
  clear h1
  go_enter Try.func28, Try.ntmps28
  go_wp2
  go_ret
  exact ⟨rfl, bel_alloc (Below.refl _ _) _⟩
 ·have h6 : n % 10 ≠ 0 := fun h => h5 (hm ▸ (tmod10 n).2 h)
  have g5 : (m != 0) = true := by simp [h5]
  rw [show Vd.rightD ⟨n, d⟩ = true from decide_eq_true (by dsimp only; omega)]
  clear h5 h6 h4
  clear h1
  go_enter Try.func28, Try.ntmps28
  go_wp2
  go_ret
  exact ⟨rfl, bel_alloc (Below.refl _ _) _⟩
set_option maxHeartbeats 1000000 in
theorem millionth_any (n : Int) (d : Nat) (w : World) (hr : Vd.rightD ⟨n, d⟩ = true) : Calls Try.prog 44 #[dcV n d] w fun e w' => e = .returned (.int .i64 (Vd.mil ⟨n, d⟩)) ∧ Below w.heap.size w w' := by
 obtain ⟨a1, a2, a3, _⟩ := rightD_out hr
 obtain ⟨rv, hrv⟩ : ∃ rv, Vd.mil ⟨n, d⟩ = rv := ⟨_, rfl⟩
 rw [hrv]
 have RV := Lib.hid (show n * 10 ^ (6 - d) = rv from hrv)
 have s1 : IntKind.i64.wrap (d : Int) = (d : Int) := IntWalk.i64_in _ (by omega)
 have A1 := Lib.hid a1
 have A2 := Lib.hid a2
 clear hr hrv a1 a2
 unfold dcV
 go_enter Try.func44, Try.ntmps44
 go_wp2
 go_loopw [4, 3] (fun i x wr => ∃ (j : Nat) (q : Int), d ≤ j ∧ j ≤ 6 ∧ Hid (n * 10 ^ (j - d) = q) ∧ i = .int .i64 (j : Int) ∧ x = .int .i64 q ∧ wr = w.alloc (.cells #[.int .i64 n, .int .u8 (d : Int)] 41)) (fun i _ _ => 6 - (RowKit.intOf i).toNat)
 case atStart => exact ⟨d, n, by omega, a3, Lib.hid (by simp), rfl, rfl, rfl⟩
 case round =>
  rename World => wr
  obtain ⟨j, q, hj, hj6, HQ, rfl, rfl, rfl⟩ := hrel
  by_cases hlt : j < 6
  rotate_left
  ·obtain rfl : j = 6 := by omega
   obtain rfl : q = rv := HQ.out.symm.trans RV.out
   clear hlt hj
   go_wp2
   go_ret
   exact ⟨rfl, belo⟩
  have g1 : decide ((j : Int) < 6) = true := decide_eq_true (by omega)
  obtain ⟨q2, hq2⟩ : ∃ q2, q * 10 = q2 := ⟨_, rfl⟩
  have HQ2 : Hid (n * 10 ^ (j + 1 - d) = q2) := Lib.hid (by rw [show j + 1 - d = j - d + 1 by omega, Int.pow_succ, ← Int.mul_assoc, HQ.out, hq2])
  obtain ⟨p, hp⟩ : ∃ p, 10 ^ (j + 1 - d) = p := ⟨_, rfl⟩
  have hpb := pow10_le (k := j + 1 - d) (by omega)
  rw [hp] at hpb
  have hb := mil_bound A1.out A2.out hpb.1 hpb.2
  have hb2 : n * (p : Int) = q2 := by rw [← HQ2.out, ← hp]; simp
  rw [hb2] at hb
  have w1 : IntKind.i64.wrap q2 = q2 := IntWalk.i64_in _ (by omega)
  clear hp hpb hb hb2
  go_wp2
  go_roundw
  case rel => exact ⟨j + 1, q2, by omega, by omega, HQ2, by go_num, by first | rfl | trivial, by first | rfl | trivial⟩
  case measure => simp [RowKit.intOf]; omega
set_option maxHeartbeats 1000000 in
theorem rcmp_any (n1 n2 : Int) (d1 d2 : Nat) (w : World) (h1 : Vd.rightD ⟨n1, d1⟩ = true) (h2 : Vd.rightD ⟨n2, d2⟩ = true) : Calls Try.prog 29 #[dcV n1 d1, dcV n2 d2] w fun e w' => e = .returned (.int .i64 (Vd.cmp ⟨n1, d1⟩ ⟨n2, d2⟩)) ∧ Below w.heap.size w w' := by
 unfold Vd.cmp
 rw [h1, h2, Bool.true_and, if_pos rfl]
 have M1 := Lib.hid (fun w => millionth_any n1 d1 w h1)
 have M2 := Lib.hid (fun w => millionth_any n2 d2 w h2)
 obtain ⟨m1, hm1⟩ : ∃ m, Vd.mil ⟨n1, d1⟩ = m := ⟨_, rfl⟩
 obtain ⟨m2, hm2⟩ : ∃ m, Vd.mil ⟨n2, d2⟩ = m := ⟨_, rfl⟩
 rw [hm1] at M1 ⊢
 rw [hm2] at M2 ⊢
 clear h1 h2 hm1 hm2
 unfold dcV
 by_cases c1 : m1 < m2
 ·rw [if_pos c1]
  have g1 : decide (m1 < m2) = true := decide_eq_true c1
  clear c1
  go_enter Try.func29, Try.ntmps29
  go_upto_region 1 with fail
  refine wp_region_lat (by kernel_rfl) (by kernel_rfl) ?_
  repeat (go_big_quiet_step (fail))
  go_big_quiet_step (exact later_new (M1.out _))
  repeat (go_big_quiet_step (fail))
  go_big_quiet_step (exact later_new (M2.out _))
  repeat (go_big_quiet_step (fail))
  refine wpQuiet_nil ?_
  rintro _ ⟨x3, rfl⟩
  have hz_x3 := x3.bel.size
  try simp at hz_x3
  go_wp2
  go_ret
  exact ⟨rfl, belo⟩
 rw [if_neg c1]
 have g1 : decide (m1 < m2) = false := decide_eq_false c1
 by_cases c2 : m2 < m1
 ·rw [if_pos c2]
  have g2 : decide (m2 < m1) = true := decide_eq_true c2
  clear c1 c2
  go_enter Try.func29, Try.ntmps29
  go_upto_region 1 with fail
  refine wp_region_lat (by kernel_rfl) (by kernel_rfl) ?_
  repeat (go_big_quiet_step (fail))
  go_big_quiet_step (exact later_new (M1.out _))
  repeat (go_big_quiet_step (fail))
  go_big_quiet_step (exact later_new (M2.out _))
  repeat (go_big_quiet_step (fail))
  refine wpQuiet_nil ?_
  rintro _ ⟨x3, rfl⟩
  have hz_x3 := x3.bel.size
  try simp at hz_x3
  go_wp2
  go_ret
  exact ⟨rfl, belo⟩
 rw [if_neg c2]
 have g2 : decide (m2 < m1) = false := decide_eq_false c2
 clear c1 c2
 go_enter Try.func29, Try.ntmps29
 go_upto_region 1 with fail
 refine wp_region_lat (by kernel_rfl) (by kernel_rfl) ?_
 repeat (go_big_quiet_step (fail))
 go_big_quiet_step (exact later_new (M1.out _))
 repeat (go_big_quiet_step (fail))
 go_big_quiet_step (exact later_new (M2.out _))
 repeat (go_big_quiet_step (fail))
 refine wpQuiet_nil ?_
 rintro _ ⟨x3, rfl⟩
 have hz_x3 := x3.bel.size
 try simp at hz_x3
 go_wp2
 go_ret
 exact ⟨rfl, belo⟩
set_option maxHeartbeats 1000000 in
theorem common_any (a b g : Nat) (w : World) (ha : a < 9223372036854775808) (hb : b < 9223372036854775808) (hg : Nat.gcd a b = g) : Calls Try.prog 59 #[.int .i64 (a : Int), .int .i64 (b : Int)] w fun e w' => e = .returned (.int .i64 (g : Int)) ∧ Below w.heap.size w w' := by
 have HG := Lib.hid hg
 clear hg
 go_enter Try.func59, Try.ntmps59
 go_wp2
 go_loopw [0, 1] (fun x y wr => ∃ a b : Nat, a < 9223372036854775808 ∧ b < 9223372036854775808 ∧ Hid (Nat.gcd a b = g) ∧ x = .int .i64 (a : Int) ∧ y = .int .i64 (b : Int) ∧ Below w.heap.size w wr) (fun _ y _ => (RowKit.intOf y).toNat)
 case atStart => exact ⟨a, b, ha, hb, HG, rfl, rfl, Below.refl _ _⟩
 case round =>
  clear HG ha hb
  rename World => wr
  obtain ⟨a, b, ha, hb, HG, rfl, rfl, hbe⟩ := hrel
  rcases Nat.eq_zero_or_pos b with h0 | h0
  ·subst h0
   obtain rfl : a = g := by have := HG.out; rwa [Nat.gcd_zero_right] at this
   go_wp2
   go_ret
   exact ⟨rfl, hbe⟩
  ·have g1 : ((b : Int) != 0) = true := bne_iff_ne.2 (by omega)
   have g2 : ((b : Int) == 0) = false := beq_eq_false_iff_ne.2 (by omega)
   have g3 : (b : Int) ≠ 0 := by omega
   obtain ⟨r, hr⟩ : ∃ r, a % b = r := ⟨_, rfl⟩
   have hrb : r < b := hr ▸ Nat.mod_lt a h0
   have t1 : (a : Int).tmod (b : Int) = (r : Int) := by rw [Int.tmod_eq_emod_of_nonneg (by omega), ← hr]; simp
   have t2 : (a : Int) % (b : Int) = (r : Int) := by rw [← hr]; simp
   have t3 : IntKind.i64.wrap (r : Int) = (r : Int) := IntWalk.i64_in _ (by omega)
   have HG2 : Hid (Nat.gcd b r = g) := Lib.hid (by rw [← hr, Nat.gcd_comm, ← Nat.gcd_rec, Nat.gcd_comm]; exact HG.out)
   clear hr
   go_upto_region 2 with fail
   go_quiet (fail)
   obtain ⟨wy, hwy⟩ : ∃ q, wr.drewN nq = q := ⟨_, rfl⟩
   try rw [hwy]
   have hby : Below w.heap.size w wy := by rw [← hwy]; exact bel_drewN hbe nq
   clear hwy
   go_wp2
   go_roundw
   case rel => exact ⟨b, r, hb, by omega, HG2, by first | rfl | trivial, by first | rfl | trivial, hby⟩
   case measure => simp [RowKit.intOf]; omega
namespace Vd
/-- a decimal of a whole number and its digits -/
def ofI (n : Int) (k : Nat) : Option Dc := if 1000000000000 < (stripI n k).1 ∨ (stripI n k).1 < -1000000000000 then none else some ⟨(stripI n k).1, (stripI n k).2⟩
end Vd
set_option maxHeartbeats 2000000 in
theorem rof_any (n : Int) (k : Nat) (w : World) (hn : -9223372036854775808 ≤ n ∧ n ≤ 9223372036854775807) (hk : k ≤ 6) : Calls Try.prog 60 #[.int .i64 n, .int .i64 (k : Int)] w fun e w' => e = .returned (decV (Vd.ofI n k)) ∧ Below w.heap.size w w' := by
 obtain ⟨z, hz⟩ : ∃ z, Vd.stripI n k = z := ⟨_, rfl⟩
 obtain ⟨rv, hrv⟩ : ∃ rv, decV (Vd.ofI n k) = rv := ⟨_, rfl⟩
 rw [hrv]
 unfold Vd.ofI at hrv
 rw [hz] at hrv
 have RV := Lib.hid hrv
 have HZ := Lib.hid hz
 clear hz hrv
 go_enter Try.func60, Try.ntmps60
 go_wp2
 go_loopw [0, 1] (fun v i wr => ∃ (n : Int) (d : Nat), d ≤ 6 ∧ (-9223372036854775808 ≤ n ∧ n ≤ 9223372036854775807) ∧ Hid (Vd.stripI n d = z) ∧ v = .int .i64 n ∧ i = .int .i64 (d : Int) ∧ wr = w.alloc (.cells #[.int .i64 0, .int .u8 0] 41)) (fun _ i _ => (RowKit.intOf i).toNat)
 case atStart => exact ⟨n, k, hk, hn, HZ, rfl, rfl, rfl⟩
 case round =>
  clear HZ hn
  rename World => wr
  obtain ⟨n, d, hd, hnb, HN, rfl, rfl, rfl⟩ := hrel
  obtain ⟨m, hm⟩ : ∃ m, n.tmod 10 = m := ⟨_, rfl⟩
  have hmb : -10 < m ∧ m < 10 := by rw [← hm]; have := Int.tmod_lt_of_pos n (b := 10) (by decide); have := Int.lt_tmod_of_pos n (b := 10) (by decide); omega
  have hmw : IntKind.i64.wrap m = m := IntWalk.i64_in _ (by omega)
  by_cases c3 : d = 0 ∨ m ≠ 0
  ·have hst : Vd.stripI n d = (n, d) := by
    rcases c3 with rfl | c3
    ·rfl
    ·exact stripI_stop (fun h => c3 (hm ▸ (tmod10 n).2 h))
   obtain rfl : (n, d) = z := hst.symm.trans HN.out
   have u1 : IntKind.u8.wrap (d : Int) = (d : Int) := by simp [IntKind.wrap, IntKind.bits, IntKind.signed]; omega
   have g6 : decide ((6 : Int) < (d : Int)) = false := decide_eq_false (by omega)
   have hst : (0 < d ∧ (m == 0) = false) ∨ decide ((0 : Int) < (d : Int)) = false := by
    rcases Nat.eq_zero_or_pos d with h0 | h0
    ·exact .inr (decide_eq_false (by omega))
    ·exact .inl ⟨h0, beq_eq_false_iff_ne.2 (c3.resolve_left (by omega))⟩
   clear c3 HN
   rcases hst with ⟨h0, g9⟩ | g9
   ·have g10 : decide ((0 : Int) < (d : Int)) = true := decide_eq_true (by omega)
    have g11 : decide (0 < d) = true := decide_eq_true h0
    clear h0
    by_cases c4 : 1000000000000 < n
    ·obtain rfl : decV none = rv := by rw [← RV.out]; dsimp only; rw [if_pos (.inl c4)]
     have g4 : decide (1000000000000 < n) = true := decide_eq_true c4
     clear c4 RV
     go_wp2
     refine bodyPost_ret (v := .tuple #[dcV 0 0, .bool false]) (by simp [results, Try.results60, go_sem, *]) rfl ⟨rfl, belo⟩
    have g4 : decide (1000000000000 < n) = false := decide_eq_false c4
    by_cases c5 : n < -1000000000000
    ·obtain rfl : decV none = rv := by rw [← RV.out]; dsimp only; rw [if_pos (.inr c5)]
     have g5 : decide (n < -1000000000000) = true := decide_eq_true c5
     clear c4 c5 RV
     go_wp2
     refine bodyPost_ret (v := .tuple #[dcV 0 0, .bool false]) (by simp [results, Try.results60, go_sem, *]) rfl ⟨rfl, belo⟩
    have g5 : decide (n < -1000000000000) = false := decide_eq_false c5
    obtain rfl : decV (some ⟨n, d⟩) = rv := by rw [← RV.out]; dsimp only; rw [if_neg (by omega)]
    clear c4 c5 RV
    go_wp2
    refine bodyPost_ret (v := .tuple #[dcV n d, .bool true]) (by simp [results, Try.results60, go_sem, *]) rfl ⟨rfl, belo⟩
   ·have g11 : decide (0 < d) = false := by simpa using g9
    by_cases c4 : 1000000000000 < n
    ·obtain rfl : decV none = rv := by rw [← RV.out]; dsimp only; rw [if_pos (.inl c4)]
     have g4 : decide (1000000000000 < n) = true := decide_eq_true c4
     clear c4 RV
     go_wp2
     refine bodyPost_ret (v := .tuple #[dcV 0 0, .bool false]) (by simp [results, Try.results60, go_sem, *]) rfl ⟨rfl, belo⟩
    have g4 : decide (1000000000000 < n) = false := decide_eq_false c4
    by_cases c5 : n < -1000000000000
    ·obtain rfl : decV none = rv := by rw [← RV.out]; dsimp only; rw [if_pos (.inr c5)]
     have g5 : decide (n < -1000000000000) = true := decide_eq_true c5
     clear c4 c5 RV
     go_wp2
     refine bodyPost_ret (v := .tuple #[dcV 0 0, .bool false]) (by simp [results, Try.results60, go_sem, *]) rfl ⟨rfl, belo⟩
    have g5 : decide (n < -1000000000000) = false := decide_eq_false c5
    obtain rfl : decV (some ⟨n, d⟩) = rv := by rw [← RV.out]; dsimp only; rw [if_neg (by omega)]
    clear c4 c5 RV
    go_wp2
    refine bodyPost_ret (v := .tuple #[dcV n d, .bool true]) (by simp [results, Try.results60, go_sem, *]) rfl ⟨rfl, belo⟩
  ·obtain ⟨d', rfl⟩ : ∃ d', d = d' + 1 := ⟨d - 1, by omega⟩
   have hm0 : m = 0 := by omega
   have h10 : n % 10 = 0 := (tmod10 n).1 (hm.trans hm0)
   have g3 : decide (0 < d' + 1) = true := decide_eq_true (by omega)
   have g3' : decide ((0 : Int) < (d' : Int) + 1) = true := decide_eq_true (by omega)
   have g4 : (m == 0) = true := beq_iff_eq.2 hm0
   obtain ⟨n', hn'⟩ : ∃ n', n.tdiv 10 = n' := ⟨_, rfl⟩
   have hne : n / 10 = n' := by rw [← hn']; exact (Int.tdiv_eq_ediv_of_dvd (Int.dvd_of_emod_eq_zero h10)).symm
   have hnb' : -9223372036854775808 ≤ n' ∧ n' ≤ 9223372036854775807 := by omega
   have hnw : IntKind.i64.wrap n' = n' := IntWalk.i64_in _ (by omega)
   have HN2 : Hid (Vd.stripI n' d' = z) := Lib.hid (by rw [← hne, ← stripI_step h10]; exact HN.out)
   clear c3 hm0 h10 hne
   go_wp2
   go_roundw
   case rel => exact ⟨n', d', by omega, hnb', HN2, by first | rfl | trivial, by go_num, by first | rfl | trivial⟩
   case measure => simp [RowKit.intOf]
end Go.Proofs.Ythhokpaidekmnaa
