/- Layer 15: recipe.name, unit. -/
import Derived.Test.YthhokpaidekmnaaVdTo
namespace Go.Proofs.Ythhokpaidekmnaa
open Go.RowKit
set_option linter.unusedVariables false
set_option linter.unusedSimpArgs false
theorem lower_any (k : Nat) (b : Bool) (hb : decide (97 ≤ k ∧ k ≤ 122) = b) (w : World) : Calls Try.prog 52 #[.int .u8 (k : Int)] w fun e w' => e = .returned (.bool b) ∧ w = w' := by
 subst hb
 by_cases h1 : 97 ≤ k
 ·have g1 : decide ((97 : Int) ≤ (k : Int)) = true := decide_eq_true (by omega)
  by_cases h2 : k ≤ 122
  ·have g2 : decide ((k : Int) ≤ 122) = true := decide_eq_true (by omega)
   rw [decide_eq_true (show 97 ≤ k ∧ k ≤ 122 from ⟨h1, h2⟩)]
   clear h2
   clear h1
   go_enter Try.func52, Try.ntmps52
   go_wp2
   go_ret
   exact ⟨rfl, rfl⟩
  ·have g2 : decide ((k : Int) ≤ 122) = false := decide_eq_false (by omega)
   rw [decide_eq_false (show ¬ (97 ≤ k ∧ k ≤ 122) by omega)]
   clear h2
   clear h1
   go_enter Try.func52, Try.ntmps52
   go_wp2
   go_ret
   exact ⟨rfl, rfl⟩
 ·have g1 : decide ((97 : Int) ≤ (k : Int)) = false := decide_eq_false (by omega)
  rw [decide_eq_false (show ¬ (97 ≤ k ∧ k ≤ 122) by omega)]
  clear h1
  go_enter Try.func52, Try.ntmps52
  go_wp2
  go_ret
  exact ⟨rfl, rfl⟩
theorem digit_any (k : Nat) (b : Bool) (hb : decide (48 ≤ k ∧ k ≤ 57) = b) (w : World) : Calls Try.prog 53 #[.int .u8 (k : Int)] w fun e w' => e = .returned (.bool b) ∧ w = w' := by
 subst hb
 by_cases h1 : 48 ≤ k
 ·have g1 : decide ((48 : Int) ≤ (k : Int)) = true := decide_eq_true (by omega)
  by_cases h2 : k ≤ 57
  ·have g2 : decide ((k : Int) ≤ 57) = true := decide_eq_true (by omega)
   rw [decide_eq_true (show 48 ≤ k ∧ k ≤ 57 from ⟨h1, h2⟩)]
   clear h2
   clear h1
   go_enter Try.func53, Try.ntmps53
   go_wp2
   go_ret
   exact ⟨rfl, rfl⟩
  ·have g2 : decide ((k : Int) ≤ 57) = false := decide_eq_false (by omega)
   rw [decide_eq_false (show ¬ (48 ≤ k ∧ k ≤ 57) by omega)]
   clear h2
   clear h1
   go_enter Try.func53, Try.ntmps53
   go_wp2
   go_ret
   exact ⟨rfl, rfl⟩
 ·have g1 : decide ((48 : Int) ≤ (k : Int)) = false := decide_eq_false (by omega)
  rw [decide_eq_false (show ¬ (48 ≤ k ∧ k ≤ 57) by omega)]
  clear h1
  go_enter Try.func53, Try.ntmps53
  go_wp2
  go_ret
  exact ⟨rfl, rfl⟩
theorem lit_ne {s : ByteArray} {l : List UInt8} (h : s ≠ ⟨l.toArray⟩) : (s.toList == l) = false := by
 have := str_ne h
 rwa [ByteArray.toList_mk l] at this
theorem lit_eq {s : ByteArray} {l : List UInt8} (h : s = ⟨l.toArray⟩) : (s.toList == l) = true := by
 have := str_eq h
 rwa [ByteArray.toList_mk l] at this
theorem size_list (s : ByteArray) : s.size = s.data.toList.length := by obtain ⟨⟨l⟩⟩ := s; rfl
theorem get_list (s : ByteArray) (j : Nat) (h : j < s.size) : s.data.toList[j]? = some s[j] := by
 rw [List.getElem?_eq_getElem (by rw [← size_list]; exact h)]
 rfl
theorem all_step {l : List UInt8} {p : UInt8 → Bool} {j : Nat} {c : UInt8} (h : (l.take j).all p = true) (hc : l[j]? = some c) (hp : p c = true) : (l.take (j + 1)).all p = true := by
 rw [List.take_add_one, hc, List.all_append, h]
 simp [hp]
theorem all_no {l : List UInt8} {p : UInt8 → Bool} {j : Nat} {c : UInt8} (hc : l[j]? = some c) (hp : p c = false) : l.all p = false := by
 rw [List.all_eq_false]
 exact ⟨c, List.mem_of_getElem? hc, by simp [hp]⟩
theorem nameC_of {c : UInt8} (h : Vd.lowc c = true) : Vd.nameC c = true := by unfold Vd.nameC; rw [h]; rfl
abbrev words3 (s : ByteArray) : Bool := decide (s ≠ ⟨#[114, 101, 99, 105, 112, 101]⟩ ∧ s ≠ ⟨#[115, 108, 97, 118, 101]⟩ ∧ s ≠ ⟨#[101, 110, 100]⟩)
theorem name_eq (s : ByteArray) : Vd.name s = (decide (0 < s.size) && decide (s.size ≤ 20) && (match s.data.toList[0]? with | some c => Vd.lowc c | none => false) && s.data.toList.all Vd.nameC && words3 s) := by
 unfold Vd.name
 rw [size_list]
 split
 ·rename_i h; rw [h]; rfl
 ·rename_i c l h
  rw [h]
  cases hc : Vd.lowc c
  ·simp [hc]
  ·simp [hc, nameC_of hc]
set_option maxHeartbeats 2000000 in
theorem name_any (s : ByteArray) (w : World) : Calls Try.prog 38 #[.string s] w fun e w' => e = .returned (.bool (Vd.name s)) ∧ w = w' := by
 rw [name_eq]
 rcases Nat.eq_zero_or_pos s.size with h0 | h0
 ·have hE : s.toList.isEmpty = true := by rw [ByteArray.toList_eq, List.isEmpty_iff, ← List.length_eq_zero_iff, ← size_list, h0]
  rw [decide_eq_false (show ¬ 0 < s.size by omega)]
  rw [Bool.false_and, Bool.false_and, Bool.false_and, Bool.false_and]
  clear h0
  go_enter Try.func38, Try.ntmps38
  go_wp2
  go_ret
  exact ⟨rfl, rfl⟩
 have hE : s.toList.isEmpty = false := by rw [ByteArray.toList_eq, List.isEmpty_eq_false_iff, ← List.length_pos_iff, ← size_list]; exact h0
 rw [decide_eq_true h0, Bool.true_and]
 by_cases h20 : 20 < s.size
 ·have g1 : decide ((20 : Int) < (s.size : Int)) = true := decide_eq_true (by omega)
  rw [decide_eq_false (show ¬ s.size ≤ 20 by omega)]
  rw [Bool.false_and, Bool.false_and, Bool.false_and]
  clear h20 h0
  go_enter Try.func38, Try.ntmps38
  go_wp2
  go_ret
  exact ⟨rfl, rfl⟩
 have g1 : decide ((20 : Int) < (s.size : Int)) = false := decide_eq_false (by omega)
 rw [decide_eq_true (show s.size ≤ 20 by omega), Bool.true_and, get_list s 0 h0]
 dsimp only
 obtain ⟨k0, hk0⟩ : ∃ k, s[0].toNat = k := ⟨_, rfl⟩
 cases hl : Vd.lowc s[0]
 ·have L0 := Lib.hid (fun w => lower_any k0 false (by rw [← hl, ← hk0]; rfl) w)
  rw [Bool.false_and, Bool.false_and]
  clear hl h20
  go_enter Try.func38, Try.ntmps38
  go_wp2_with fail
  with_reducible refine (L0.out _).mono ?_
  rintro e_ w_ ⟨rfl, rfl⟩
  go_wp2
  go_ret
  exact ⟨rfl, rfl⟩
 have L0 := Lib.hid (fun w => lower_any k0 true (by rw [← hl, ← hk0]; rfl) w)
 rw [Bool.true_and]
 obtain ⟨rv, hrv⟩ : ∃ rv, (s.data.toList.all Vd.nameC && words3 s) = rv := ⟨_, rfl⟩
 rw [hrv]
 have RV := Lib.hid hrv
 clear hrv hl
 go_enter Try.func38, Try.ntmps38
 go_wp2_with fail
 with_reducible refine (L0.out _).mono ?_
 rintro e_ w_ ⟨rfl, rfl⟩
 go_wp2
 go_loopw [19] (fun x wr => ∃ j : Nat, j ≤ s.size ∧ Hid ((s.data.toList.take j).all Vd.nameC = true) ∧ x = .int .i64 (j : Int) ∧ wr = w) (fun i _ => s.size - (RowKit.intOf i).toNat)
 case atStart => exact ⟨0, by omega, Lib.hid rfl, rfl, rfl⟩
 case round =>
  rename World => wr
  obtain ⟨j, hj, HA, rfl, rfl⟩ := hrel
  by_cases hlt : j < s.size
  rotate_left
  ·obtain rfl : j = s.size := by omega
   have ha : s.data.toList.all Vd.nameC = true := by
    have := HA.out
    rwa [size_list, List.take_length] at this
   clear hlt hj
   have W3 := Lib.hid (show words3 s = rv by rw [← RV.out, ha, Bool.true_and])
   clear RV HA ha
   by_cases c1 : s = ⟨#[114, 101, 99, 105, 112, 101]⟩
   ·have e1 : (s.toList == [114, 101, 99, 105, 112, 101]) = true := lit_eq c1
    obtain rfl : false = rv := by rw [← W3.out]; exact (decide_eq_false (by simp [c1])).symm
    clear W3
    clear c1
    go_wp2
    go_ret
    exact ⟨rfl, rfl⟩
   have e1 : (s.toList == [114, 101, 99, 105, 112, 101]) = false := lit_ne c1
   by_cases c2 : s = ⟨#[115, 108, 97, 118, 101]⟩
   ·have e2 : (s.toList == [115, 108, 97, 118, 101]) = true := lit_eq c2
    obtain rfl : false = rv := by rw [← W3.out]; exact (decide_eq_false (by simp [c2])).symm
    clear W3
    clear c1 c2
    go_wp2
    go_ret
    exact ⟨rfl, rfl⟩
   have e2 : (s.toList == [115, 108, 97, 118, 101]) = false := lit_ne c2
   by_cases c3 : s = ⟨#[101, 110, 100]⟩
   ·have e3 : (s.toList == [101, 110, 100]) = true := lit_eq c3
    obtain rfl : false = rv := by rw [← W3.out]; exact (decide_eq_false (by simp [c3])).symm
    clear W3
    clear c1 c2 c3
    go_wp2
    go_ret
    exact ⟨rfl, rfl⟩
   have e3 : (s.toList == [101, 110, 100]) = false := lit_ne c3
   obtain rfl : true = rv := by rw [← W3.out]; exact (decide_eq_true ⟨c1, c2, c3⟩).symm
   clear W3
   clear c1 c2 c3
   go_wp2
   go_ret
   exact ⟨rfl, rfl⟩
  have hltI : (j : Int) < (s.size : Int) := by omega
  have hg := Lib.hid (get_list s j hlt)
  obtain ⟨c, hc⟩ : ∃ c, s[j] = c := ⟨_, rfl⟩
  obtain ⟨k, hk⟩ : ∃ k, c.toNat = k := ⟨_, rfl⟩
  have hck : s[j].toNat = k := by rw [hc, hk]
  rw [hc] at hg
  clear hc
  cases q1 : Vd.lowc c
  rotate_left
  ·have L1 := Lib.hid (fun w => lower_any k true (by rw [← q1, ← hk]; rfl) w)
   have HB := Lib.hid (all_step HA.out hg.out (nameC_of q1))
   clear q1 hk
   go_wp2_with fail
   with_reducible refine (L1.out _).mono ?_
   rintro e_ w_ ⟨rfl, rfl⟩
   go_wp2
   go_roundw
   case rel => exact ⟨j + 1, by omega, HB, by go_num, by first | rfl | trivial⟩
   case measure => simp [RowKit.intOf]; omega
  have L1 := Lib.hid (fun w => lower_any k false (by rw [← q1, ← hk]; rfl) w)
  cases q2 : Vd.digc c
  rotate_left
  ·have L2 := Lib.hid (fun w => digit_any k true (by rw [← q2, ← hk]; rfl) w)
   have HB := Lib.hid (all_step HA.out hg.out (show Vd.nameC c = true by unfold Vd.nameC; rw [q1, q2]; rfl))
   clear q1 q2 hk
   go_wp2_with fail
   with_reducible refine (L1.out _).mono ?_
   rintro e_ w_ ⟨rfl, rfl⟩
   go_wp2_with fail
   with_reducible refine (L2.out _).mono ?_
   rintro e_ w_ ⟨rfl, rfl⟩
   go_wp2
   go_roundw
   case rel => exact ⟨j + 1, by omega, HB, by go_num, by first | rfl | trivial⟩
   case measure => simp [RowKit.intOf]; omega
  have L2 := Lib.hid (fun w => digit_any k false (by rw [← q2, ← hk]; rfl) w)
  by_cases q3 : k = 95
  ·have q3b : ((k : Int) != 95) = false := by simp [q3]
   have HB := Lib.hid (all_step HA.out hg.out (show Vd.nameC c = true by unfold Vd.nameC; rw [q1, q2, hk, q3]; rfl))
   clear q1 q2 q3 hk
   go_wp2_with fail
   with_reducible refine (L1.out _).mono ?_
   rintro e_ w_ ⟨rfl, rfl⟩
   go_wp2_with fail
   with_reducible refine (L2.out _).mono ?_
   rintro e_ w_ ⟨rfl, rfl⟩
   go_wp2
   go_roundw
   case rel => exact ⟨j + 1, by omega, HB, by go_num, by first | rfl | trivial⟩
   case measure => simp [RowKit.intOf]; omega
  ·have q3b : ((k : Int) != 95) = true := bne_iff_ne.2 (by omega)
   obtain rfl : false = rv := by
    rw [← RV.out, all_no hg.out (show Vd.nameC c = false by unfold Vd.nameC; rw [q1, q2, hk]; simp [q3])]
    rfl
   clear q1 q2 q3 hk RV
   go_wp2_with fail
   with_reducible refine (L1.out _).mono ?_
   rintro e_ w_ ⟨rfl, rfl⟩
   go_wp2_with fail
   with_reducible refine (L2.out _).mono ?_
   rintro e_ w_ ⟨rfl, rfl⟩
   go_wp2
   go_ret
   exact ⟨rfl, rfl⟩
end Go.Proofs.Ythhokpaidekmnaa
