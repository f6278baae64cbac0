/- Layer 15: recipe.unit. -/
import Derived.Test.YthhokpaidekmnaaVdName
namespace Go.Proofs.Ythhokpaidekmnaa
open Go.RowKit
set_option linter.unusedVariables false
set_option linter.unusedSimpArgs false
theorem unitC_of {c : UInt8} (h : Vd.letC c = true) : Vd.unitC c = true := by unfold Vd.unitC; rw [h]; rfl
theorem unit_eq (s : ByteArray) : Vd.unit s = (decide (s.size ≤ 20) && (match s.data.toList[0]? with | some c => Vd.letC c | none => true) && s.data.toList.all Vd.unitC) := by
 unfold Vd.unit
 rw [size_list]
 split
 ·rename_i h; rw [h]; rfl
 ·rename_i c l h
  rw [h]
  cases hc : Vd.letC c
  ·simp [hc]
  ·simp [hc, unitC_of hc]
set_option maxHeartbeats 2000000 in
theorem unit_any (s : ByteArray) (w : World) : Calls Try.prog 39 #[.string s] w fun e w' => e = .returned (.bool (Vd.unit s)) ∧ w = w' := by
 rw [unit_eq]
 by_cases h20 : 20 < s.size
 ·have g1 : decide ((20 : Int) < (s.size : Int)) = true := decide_eq_true (by omega)
  rw [decide_eq_false (show ¬ s.size ≤ 20 by omega)]
  rw [Bool.false_and, Bool.false_and]
  clear h20
  go_enter Try.func39, Try.ntmps39
  go_wp2
  go_ret
  exact ⟨rfl, rfl⟩
 have g1 : decide ((20 : Int) < (s.size : Int)) = false := decide_eq_false (by omega)
 rw [decide_eq_true (show s.size ≤ 20 by omega), Bool.true_and]
 obtain ⟨rv, hrv⟩ : ∃ rv, ((match s.data.toList[0]? with | some c => Vd.letC c | none => true) && s.data.toList.all Vd.unitC) = rv := ⟨_, rfl⟩
 rw [hrv]
 have RV := Lib.hid hrv
 clear hrv
 go_enter Try.func39, Try.ntmps39
 go_wp2
 go_loopw [11] (fun x wr => ∃ j : Nat, j ≤ s.size ∧ Hid ((s.data.toList.take j).all Vd.unitC = true ∧ (0 < j → (match s.data.toList[0]? with | some c => Vd.letC c | none => true) = true)) ∧ x = .int .i64 (j : Int) ∧ wr = w) (fun i _ => s.size - (RowKit.intOf i).toNat)
 case atStart => exact ⟨0, by omega, Lib.hid ⟨rfl, fun h => absurd h (by decide)⟩, rfl, rfl⟩
 case round =>
  rename World => wr
  obtain ⟨j, hj, HA, rfl, rfl⟩ := hrel
  by_cases hlt : j < s.size
  rotate_left
  ·obtain rfl : j = s.size := by omega
   obtain rfl : true = rv := by
    have := HA.out.1
    rw [size_list, List.take_length] at this
    rw [← RV.out, this]
    rcases Nat.eq_zero_or_pos s.size with h0 | h0
    ·have : s.data.toList = [] := List.length_eq_zero_iff.1 (by rw [← size_list]; exact h0)
     rw [this]; rfl
    ·rw [HA.out.2 h0]; rfl
   clear hlt hj
   go_wp2
   go_ret
   exact ⟨rfl, rfl⟩
  have hltI : (j : Int) < (s.size : Int) := by omega
  have hg := Lib.hid (get_list s j hlt)
  obtain ⟨c, hc⟩ : ∃ c, s[j] = c := ⟨_, rfl⟩
  obtain ⟨k, hk⟩ : ∃ k, c.toNat = k := ⟨_, rfl⟩
  have hck : s[j].toNat = k := by rw [hc, hk]
  rw [hc] at hg
  clear hc
  have HF := Lib.hid (show j = 0 → (match s.data.toList[0]? with | some c => Vd.letC c | none => true) = Vd.letC c by
   intro h; subst h; rw [hg.out])
  have mk : Vd.unitC c = true → (j = 0 → Vd.letC c = true) → (s.data.toList.take (j + 1)).all Vd.unitC = true ∧ (0 < j + 1 → (match s.data.toList[0]? with | some c => Vd.letC c | none => true) = true) := by
   intro hu hz
   refine ⟨all_step HA.out.1 hg.out hu, fun _ => ?_⟩
   rcases Nat.eq_zero_or_pos j with h0 | h0
   ·rw [HF.out h0]; exact hz h0
   ·exact HA.out.2 h0
  replace mk := Lib.hid mk
  have hlet : Vd.letC c = (Vd.lowc c || decide (65 ≤ k ∧ k ≤ 90) || decide (k = 37)) := by unfold Vd.letC; rw [hk]
  cases q1 : Vd.lowc c
  rotate_left
  ·have L1 := Lib.hid (fun w => lower_any k true (by rw [← q1, ← hk]; rfl) w)
   have hl : Vd.letC c = true := by rw [hlet, q1]; rfl
   have HB := Lib.hid (mk.out (unitC_of hl) (fun _ => hl))
   clear q1 hk hlet hl
   go_wp2_with fail
   with_reducible refine (L1.out _).mono ?_
   rintro e_ w_ ⟨rfl, rfl⟩
   go_wp2
   go_roundw
   case rel => exact ⟨j + 1, by omega, HB, by go_num, by first | rfl | trivial⟩
   case measure => simp [RowKit.intOf]; omega
  have L1 := Lib.hid (fun w => lower_any k false (by rw [← q1, ← hk]; rfl) w)
  rw [q1, Bool.false_or] at hlet
  by_cases u1 : 65 ≤ k
  ·have p1 : decide ((65 : Int) ≤ (k : Int)) = true := decide_eq_true (by omega)
   by_cases u2 : k ≤ 90
   ·have p2 : decide ((k : Int) ≤ 90) = true := decide_eq_true (by omega)
    have hl : Vd.letC c = true := by rw [hlet]; simp; omega
    have HB := Lib.hid (mk.out (unitC_of hl) (fun _ => hl))
    clear q1 hk hlet hl u1 u2
    go_wp2_with fail
    with_reducible refine (L1.out _).mono ?_
    rintro e_ w_ ⟨rfl, rfl⟩
    go_wp2
    go_roundw
    case rel => exact ⟨j + 1, by omega, HB, by go_num, by first | rfl | trivial⟩
    case measure => simp [RowKit.intOf]; omega
   ·have p2 : decide ((k : Int) ≤ 90) = false := decide_eq_false (by omega)
    have p3 : ((k : Int) == 37) = false := beq_eq_false_iff_ne.2 (by omega)
    replace hlet : Vd.letC c = false := by rw [hlet]; simp; omega
    have HU := Lib.hid (show Vd.unitC c = (Vd.digc c || decide (k = 95)) by unfold Vd.unitC; rw [hlet, hk]; rfl)
    by_cases j0 : j = 0
    ·have z0 : ((j : Int) == 0) = true := by simp [j0]
     have z1 : decide (j = 0) = true := by simp [j0]
     obtain rfl : false = rv := by rw [← RV.out, HF.out j0, hlet]; rfl
     clear q1 hk hlet RV j0
     go_wp2_with fail
     with_reducible refine (L1.out _).mono ?_
     rintro e_ w_ ⟨rfl, rfl⟩
     go_wp2
     go_ret
     exact ⟨rfl, rfl⟩
    have z0 : ((j : Int) == 0) = false := beq_eq_false_iff_ne.2 (by omega)
    have z1 : decide (j = 0) = false := by simp [j0]
    cases q2 : Vd.digc c
    rotate_left
    ·have L2 := Lib.hid (fun w => digit_any k true (by rw [← q2, ← hk]; rfl) w)
     have HB := Lib.hid (mk.out (by rw [HU.out, q2]; rfl) (fun h => absurd h j0))
     clear q1 q2 hk hlet j0
     go_wp2_with fail
     with_reducible refine (L1.out _).mono ?_
     rintro e_ w_ ⟨rfl, rfl⟩
     go_wp2_with fail
     with_reducible refine (L2.out _).mono ?_
     rintro e_ w_ ⟨rfl, rfl⟩
     go_wp2
     go_roundw
     case rel => exact ⟨j + 1, by omega, HB, by go_num, by first | rfl | trivial⟩
     case measure => simp [RowKit.intOf]; omega
    have L2 := Lib.hid (fun w => digit_any k false (by rw [← q2, ← hk]; rfl) w)
    by_cases q3 : k = 95
    ·have q3b : ((k : Int) != 95) = false := by simp [q3]
     have HB := Lib.hid (mk.out (by rw [HU.out, q2]; simp [q3]) (fun h => absurd h j0))
     clear q1 q2 q3 hk hlet j0
     go_wp2_with fail
     with_reducible refine (L1.out _).mono ?_
     rintro e_ w_ ⟨rfl, rfl⟩
     go_wp2_with fail
     with_reducible refine (L2.out _).mono ?_
     rintro e_ w_ ⟨rfl, rfl⟩
     go_wp2
     go_roundw
     case rel => exact ⟨j + 1, by omega, HB, by go_num, by first | rfl | trivial⟩
     case measure => simp [RowKit.intOf]; omega
    ·have q3b : ((k : Int) != 95) = true := bne_iff_ne.2 (by omega)
     obtain rfl : false = rv := by
      rw [← RV.out, all_no hg.out (show Vd.unitC c = false by rw [HU.out, q2]; simp [q3])]
      simp
     clear q1 q2 q3 hk hlet j0 RV
     go_wp2_with fail
     with_reducible refine (L1.out _).mono ?_
     rintro e_ w_ ⟨rfl, rfl⟩
     go_wp2_with fail
     with_reducible refine (L2.out _).mono ?_
     rintro e_ w_ ⟨rfl, rfl⟩
     go_wp2
     go_ret
     exact ⟨rfl, rfl⟩
  ·have p1 : decide ((65 : Int) ≤ (k : Int)) = false := decide_eq_false (by omega)
   by_cases u3 : k = 37
   ·have p3 : ((k : Int) == 37) = true := by simp [u3]
    have hl : Vd.letC c = true := by rw [hlet]; simp; omega
    have HB := Lib.hid (mk.out (unitC_of hl) (fun _ => hl))
    clear q1 hk hlet hl u1 u3
    go_wp2_with fail
    with_reducible refine (L1.out _).mono ?_
    rintro e_ w_ ⟨rfl, rfl⟩
    go_wp2
    go_roundw
    case rel => exact ⟨j + 1, by omega, HB, by go_num, by first | rfl | trivial⟩
    case measure => simp [RowKit.intOf]; omega
   ·have p3 : ((k : Int) == 37) = false := beq_eq_false_iff_ne.2 (by omega)
    replace hlet : Vd.letC c = false := by rw [hlet]; simp; omega
    have HU := Lib.hid (show Vd.unitC c = (Vd.digc c || decide (k = 95)) by unfold Vd.unitC; rw [hlet, hk]; rfl)
    by_cases j0 : j = 0
    ·have z0 : ((j : Int) == 0) = true := by simp [j0]
     have z1 : decide (j = 0) = true := by simp [j0]
     obtain rfl : false = rv := by rw [← RV.out, HF.out j0, hlet]; rfl
     clear q1 hk hlet RV j0
     go_wp2_with fail
     with_reducible refine (L1.out _).mono ?_
     rintro e_ w_ ⟨rfl, rfl⟩
     go_wp2
     go_ret
     exact ⟨rfl, rfl⟩
    have z0 : ((j : Int) == 0) = false := beq_eq_false_iff_ne.2 (by omega)
    have z1 : decide (j = 0) = false := by simp [j0]
    cases q2 : Vd.digc c
    rotate_left
    ·have L2 := Lib.hid (fun w => digit_any k true (by rw [← q2, ← hk]; rfl) w)
     have HB := Lib.hid (mk.out (by rw [HU.out, q2]; rfl) (fun h => absurd h j0))
     clear q1 q2 hk hlet j0
     go_wp2_with fail
     with_reducible refine (L1.out _).mono ?_
     rintro e_ w_ ⟨rfl, rfl⟩
     go_wp2_with fail
     with_reducible refine (L2.out _).mono ?_
     rintro e_ w_ ⟨rfl, rfl⟩
     go_wp2
     go_roundw
     case rel => exact ⟨j + 1, by omega, HB, by go_num, by first | rfl | trivial⟩
     case measure => simp [RowKit.intOf]; omega
    have L2 := Lib.hid (fun w => digit_any k false (by rw [← q2, ← hk]; rfl) w)
    by_cases q3 : k = 95
    ·have q3b : ((k : Int) != 95) = false := by simp [q3]
     have HB := Lib.hid (mk.out (by rw [HU.out, q2]; simp [q3]) (fun h => absurd h j0))
     clear q1 q2 q3 hk hlet j0
     go_wp2_with fail
     with_reducible refine (L1.out _).mono ?_
     rintro e_ w_ ⟨rfl, rfl⟩
     go_wp2_with fail
     with_reducible refine (L2.out _).mono ?_
     rintro e_ w_ ⟨rfl, rfl⟩
     go_wp2
     go_roundw
     case rel => exact ⟨j + 1, by omega, HB, by go_num, by first | rfl | trivial⟩
     case measure => simp [RowKit.intOf]; omega
    ·have q3b : ((k : Int) != 95) = true := bne_iff_ne.2 (by omega)
     obtain rfl : false = rv := by
      rw [← RV.out, all_no hg.out (show Vd.unitC c = false by rw [HU.out, q2]; simp [q3])]
      simp
     clear q1 q2 q3 hk hlet j0 RV
     go_wp2_with fail
     with_reducible refine (L1.out _).mono ?_
     rintro e_ w_ ⟨rfl, rfl⟩
     go_wp2_with fail
     with_reducible refine (L2.out _).mono ?_
     rintro e_ w_ ⟨rfl, rfl⟩
     go_wp2
     go_ret
     exact ⟨rfl, rfl⟩
end Go.Proofs.Ythhokpaidekmnaa
