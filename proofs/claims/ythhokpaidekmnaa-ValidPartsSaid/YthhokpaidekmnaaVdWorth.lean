/- Layer 15: units.Worth. -/
import Derived.Test.YthhokpaidekmnaaVdWord
namespace Go.Proofs.Ythhokpaidekmnaa
open Go.RowKit
set_option linter.unusedVariables false
set_option linter.unusedSimpArgs false
attribute [local go_sem] Later.cell Later.frozen setCell_twice
/-- a decimal, or none -/
def decV : Option Dc → Value
 | some x => .tuple #[dcV x.n x.d, .bool true]
 | none => .tuple #[dcV 0 0, .bool false]
theorem stripI_zero (n : Int) : Vd.stripI n 0 = (n, 0) := rfl
theorem stripI_stop {n : Int} {d : Nat} (h : n % 10 ≠ 0) : Vd.stripI n d = (n, d) := by
 cases d with
 | zero => rfl
 | succ d => rw [Vd.stripI, if_neg h]
theorem stripI_step {n : Int} {d : Nat} (h : n % 10 = 0) : Vd.stripI n (d + 1) = Vd.stripI (n / 10) d := by rw [Vd.stripI, if_pos h]
theorem regI_bound (x : Nat) (s : Bool) (hx : x < 65536) : -65536 ≤ Vd.regI x s ∧ Vd.regI x s ≤ 65536 := by
 unfold Vd.regI
 split <;> omega
set_option maxHeartbeats 1000000 in
theorem worth_any (x : Nat) (dg : Int) (signed : Bool) (w : World) (hx : x < 65536) : Calls Try.prog 22 #[.int .u16 (x : Int), .int .i64 dg, .bool signed] w fun e w' => e = .returned (decV (Vd.worth x dg signed)) ∧ Below w.heap.size w w' := by
 unfold Vd.worth
 by_cases c1 : dg < 0
 ·rw [if_neg (show ¬ (0 ≤ dg ∧ dg ≤ 6) by omega)]
  have g1 : decide (dg < 0) = true := decide_eq_true c1
  clear c1
  go_enter Try.func22, Try.ntmps22
  go_wp2
  refine bodyPost_ret (v := .tuple #[dcV 0 0, .bool false]) (by simp [results, Try.results22, go_sem, *]) rfl ⟨rfl, belo⟩
 have g1 : decide (dg < 0) = false := decide_eq_false c1
 by_cases c2 : 6 < dg
 ·rw [if_neg (show ¬ (0 ≤ dg ∧ dg ≤ 6) by omega)]
  have g2 : decide (6 < dg) = true := decide_eq_true c2
  clear c1 c2
  go_enter Try.func22, Try.ntmps22
  go_wp2
  refine bodyPost_ret (v := .tuple #[dcV 0 0, .bool false]) (by simp [results, Try.results22, go_sem, *]) rfl ⟨rfl, belo⟩
 have g2 : decide (6 < dg) = false := decide_eq_false c2
 rw [if_pos (show 0 ≤ dg ∧ dg ≤ 6 by omega)]
 obtain ⟨k, rfl⟩ : ∃ k : Nat, dg = (k : Int) := ⟨dg.toNat, by omega⟩
 have hk : k ≤ 6 := by omega
 rw [Int.toNat_natCast]
 obtain ⟨r, hr⟩ : ∃ r, Vd.regI x signed = r := ⟨_, rfl⟩
 obtain ⟨z, hz⟩ : ∃ z, Vd.stripI r k = z := ⟨_, rfl⟩
 have hb := regI_bound x signed hx
 rw [hr] at hb ⊢
 rw [hz]
 have HZ := Lib.hid hz
 clear c1 c2 hz
 cases signed
 ·have hrx : r = (x : Int) := hr.symm
  subst hrx
  clear hr
  go_enter Try.func22, Try.ntmps22
  go_upto_region 6 with fail
  go_loopw [8, 1] (fun v i wr => ∃ (n : Int) (d : Nat), d ≤ 6 ∧ -65536 ≤ n ∧ n ≤ 65536 ∧ Hid (Vd.stripI n d = z) ∧ v = .int .i64 n ∧ i = .int .i64 (d : Int) ∧ wr = w.alloc (.cells #[.int .i64 0, .int .u8 0] 41)) (fun _ i _ => (intOf i).toNat)
  case atStart => exact ⟨_, k, hk, hb.1, hb.2, HZ, rfl, rfl, rfl⟩
  case round =>
   rename World => wr
   obtain ⟨n, d, hd, hn1, hn2, HN, rfl, rfl, rfl⟩ := hrel
   obtain ⟨m, hm⟩ : ∃ m, n.tmod 10 = m := ⟨_, rfl⟩
   have hmb : -10 < m ∧ m < 10 := by rw [← hm]; have := Int.tmod_lt_of_pos n (b := 10) (by decide); have := Int.lt_tmod_of_pos n (b := 10) (by decide); omega
   have hmw : IntKind.i64.wrap m = m := IntWalk.i64_in _ (by omega)
   by_cases c3 : d = 0 ∨ m ≠ 0
   ·have hst : Vd.stripI n d = (n, d) := by
     rcases c3 with rfl | c3
     ·rfl
     ·exact stripI_stop (fun h => c3 (hm ▸ (tmod10 n).2 h))
    obtain rfl : (n, d) = z := hst.symm.trans HN.out
    have u1 : IntKind.u8.wrap (d : Int) = (d : Int) := by simp [IntKind.wrap, IntKind.bits, IntKind.signed]; omega
    rcases Nat.eq_zero_or_pos d with h0 | h0
    ·have g3 : decide (0 < d) = false := decide_eq_false (by omega)
     clear c3 hst h0 hm
     go_wp2
     refine bodyPost_ret (v := .tuple #[dcV n d, .bool true]) (by simp [results, Try.results22, go_sem, *]) rfl ⟨rfl, belo⟩
    ·have g3 : decide (0 < d) = true := decide_eq_true (by omega)
     have g4 : (m == 0) = false := beq_eq_false_iff_ne.2 (c3.resolve_left (by omega))
     clear c3 hst h0
     go_wp2
     refine bodyPost_ret (v := .tuple #[dcV n d, .bool true]) (by simp [results, Try.results22, go_sem, *]) rfl ⟨rfl, belo⟩
   ·obtain ⟨d', rfl⟩ : ∃ d', d = d' + 1 := ⟨d - 1, by omega⟩
    have hm0 : m = 0 := by omega
    have h10 : n % 10 = 0 := (tmod10 n).1 (hm.trans hm0)
    have g3 : decide (0 < d' + 1) = true := decide_eq_true (by omega)
    have g3' : decide ((0 : Int) < (d' : Int) + 1) = true := decide_eq_true (by omega)
    have g4 : (m == 0) = true := beq_iff_eq.2 hm0
    obtain ⟨n', hn'⟩ : ∃ n', n.tdiv 10 = n' := ⟨_, rfl⟩
    have hne : n / 10 = n' := by rw [← hn']; exact (Int.tdiv_eq_ediv_of_dvd (Int.dvd_of_emod_eq_zero h10)).symm
    have hnb : -65536 ≤ n' ∧ n' ≤ 65536 := by omega
    have hnw : IntKind.i64.wrap n' = n' := IntWalk.i64_in _ (by omega)
    have HN2 : Hid (Vd.stripI n' d' = z) := Lib.hid (by rw [← hne, ← stripI_step h10]; exact HN.out)
    clear c3 hm0 h10 hne
    go_wp2
    go_roundw
    case rel => exact ⟨n', d', by omega, hnb.1, hnb.2, HN2, by first | rfl | trivial, by go_num, by first | rfl | trivial⟩
    case measure => simp [intOf]
 ·have KS := (fun w => signed_any x w hx)
  rw [hr] at KS
  replace KS := Lib.hid KS
  clear hr
  go_enter Try.func22, Try.ntmps22
  go_upto_region 6 with ((with_reducible refine (KS.out _).mono ?_); rintro e9 w9 ⟨rfl, rfl⟩)
  go_loopw [8, 1] (fun v i wr => ∃ (n : Int) (d : Nat), d ≤ 6 ∧ -65536 ≤ n ∧ n ≤ 65536 ∧ Hid (Vd.stripI n d = z) ∧ v = .int .i64 n ∧ i = .int .i64 (d : Int) ∧ wr = w.alloc (.cells #[.int .i64 0, .int .u8 0] 41)) (fun _ i _ => (intOf i).toNat)
  case atStart => exact ⟨_, k, hk, hb.1, hb.2, HZ, rfl, rfl, rfl⟩
  case round =>
   rename World => wr
   obtain ⟨n, d, hd, hn1, hn2, HN, rfl, rfl, rfl⟩ := hrel
   obtain ⟨m, hm⟩ : ∃ m, n.tmod 10 = m := ⟨_, rfl⟩
   have hmb : -10 < m ∧ m < 10 := by rw [← hm]; have := Int.tmod_lt_of_pos n (b := 10) (by decide); have := Int.lt_tmod_of_pos n (b := 10) (by decide); omega
   have hmw : IntKind.i64.wrap m = m := IntWalk.i64_in _ (by omega)
   by_cases c3 : d = 0 ∨ m ≠ 0
   ·have hst : Vd.stripI n d = (n, d) := by
     rcases c3 with rfl | c3
     ·rfl
     ·exact stripI_stop (fun h => c3 (hm ▸ (tmod10 n).2 h))
    obtain rfl : (n, d) = z := hst.symm.trans HN.out
    have u1 : IntKind.u8.wrap (d : Int) = (d : Int) := by simp [IntKind.wrap, IntKind.bits, IntKind.signed]; omega
    rcases Nat.eq_zero_or_pos d with h0 | h0
    ·have g3 : decide (0 < d) = false := decide_eq_false (by omega)
     clear c3 hst h0 hm
     go_wp2
     refine bodyPost_ret (v := .tuple #[dcV n d, .bool true]) (by simp [results, Try.results22, go_sem, *]) rfl ⟨rfl, belo⟩
    ·have g3 : decide (0 < d) = true := decide_eq_true (by omega)
     have g4 : (m == 0) = false := beq_eq_false_iff_ne.2 (c3.resolve_left (by omega))
     clear c3 hst h0
     go_wp2
     refine bodyPost_ret (v := .tuple #[dcV n d, .bool true]) (by simp [results, Try.results22, go_sem, *]) rfl ⟨rfl, belo⟩
   ·obtain ⟨d', rfl⟩ : ∃ d', d = d' + 1 := ⟨d - 1, by omega⟩
    have hm0 : m = 0 := by omega
    have h10 : n % 10 = 0 := (tmod10 n).1 (hm.trans hm0)
    have g3 : decide (0 < d' + 1) = true := decide_eq_true (by omega)
    have g3' : decide ((0 : Int) < (d' : Int) + 1) = true := decide_eq_true (by omega)
    have g4 : (m == 0) = true := beq_iff_eq.2 hm0
    obtain ⟨n', hn'⟩ : ∃ n', n.tdiv 10 = n' := ⟨_, rfl⟩
    have hne : n / 10 = n' := by rw [← hn']; exact (Int.tdiv_eq_ediv_of_dvd (Int.dvd_of_emod_eq_zero h10)).symm
    have hnb : -65536 ≤ n' ∧ n' ≤ 65536 := by omega
    have hnw : IntKind.i64.wrap n' = n' := IntWalk.i64_in _ (by omega)
    have HN2 : Hid (Vd.stripI n' d' = z) := Lib.hid (by rw [← hne, ← stripI_step h10]; exact HN.out)
    clear c3 hm0 h10 hne
    go_wp2
    go_roundw
    case rel => exact ⟨n', d', by omega, hnb.1, hnb.2, HN2, by first | rfl | trivial, by go_num, by first | rfl | trivial⟩
    case measure => simp [intOf]
end Go.Proofs.Ythhokpaidekmnaa
