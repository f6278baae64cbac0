/- Layer 15, the document's answer: names (layer 14), letters (layer 13). -/
import Derived.Test.YthhokpaidekmnaaVdRcp
namespace Go.Proofs.Ythhokpaidekmnaa
open Go.RowKit
set_option linter.unusedVariables false
set_option linter.unusedSimpArgs false
set_option maxRecDepth 100000
attribute [local go_sem] Later.cell Later.frozen setCell_twice
def letN (k : Nat) : Prop := 97 ≤ k ∧ k ≤ 122 ∨ 65 ≤ k ∧ k ≤ 90 ∨ k = 37
instance (k : Nat) : Decidable (letN k) := by unfold letN; infer_instance
def digN (k : Nat) : Prop := 48 ≤ k ∧ k ≤ 57
instance (k : Nat) : Decidable (digN k) := by unfold digN; infer_instance
def goesN (kind k : Nat) : Bool := if kind = 1 then decide (letN k) || decide (digN k) || decide (k = 95) else decide (digN k) || decide (k = 46) || decide (k = 45)
theorem letN_c (c : UInt8) : decide (letN c.toNat) = Vd.letC c := by
 rw [Bool.eq_iff_iff, decide_eq_true_iff]
 unfold letN Vd.letC Vd.lowc
 simp [or_assoc]
theorem digN_c (c : UInt8) : decide (digN c.toNat) = Vd.digc c := rfl
theorem goesN_c (c : UInt8) : goesN 1 c.toNat = Vd.unitC c := by
 unfold goesN Vd.unitC
 rw [if_pos rfl, letN_c, digN_c]
set_option maxHeartbeats 1000000 in
theorem letter_any (k : Nat) (b : Bool) (hb : decide (letN k) = b) (w : World) : Calls Try.prog 62 #[.int .u8 (k : Int)] w fun e w' => e = .returned (.bool b) ∧ w = w' := by
 subst hb
 unfold letN
 by_cases h1 : 97 ≤ k
 ·have g1 : decide ((97 : Int) ≤ (k : Int)) = true := decide_eq_true (by omega)
  by_cases h2 : k ≤ 122
  ·have g2 : decide ((k : Int) ≤ 122) = true := decide_eq_true (by omega)
   rw [decide_eq_true (show 97 ≤ k ∧ k ≤ 122 ∨ 65 ≤ k ∧ k ≤ 90 ∨ k = 37 by omega)]
   clear h2
   clear h1
   go_enter Try.func62, Try.ntmps62
   go_wp2
   go_ret
   exact ⟨rfl, rfl⟩
  ·have g2 : decide ((k : Int) ≤ 122) = false := decide_eq_false (by omega)
   by_cases h3 : 65 ≤ k
   ·have g3 : decide ((65 : Int) ≤ (k : Int)) = true := decide_eq_true (by omega)
    by_cases h4 : k ≤ 90
    ·have g4 : decide ((k : Int) ≤ 90) = true := decide_eq_true (by omega)
     rw [decide_eq_true (show 97 ≤ k ∧ k ≤ 122 ∨ 65 ≤ k ∧ k ≤ 90 ∨ k = 37 by omega)]
     clear h3 h4
     clear h1
     go_enter Try.func62, Try.ntmps62
     go_wp2
     go_ret
     exact ⟨rfl, rfl⟩
    ·have g4 : decide ((k : Int) ≤ 90) = false := decide_eq_false (by omega)
     have g5 : ((k : Int) == 37) = false := beq_eq_false_iff_ne.2 (by omega)
     rw [decide_eq_false (show ¬ (97 ≤ k ∧ k ≤ 122 ∨ 65 ≤ k ∧ k ≤ 90 ∨ k = 37) by omega)]
     clear h3 h4
     clear h1
     go_enter Try.func62, Try.ntmps62
     go_wp2
     go_ret
     exact ⟨rfl, rfl⟩
   ·have g3 : decide ((65 : Int) ≤ (k : Int)) = false := decide_eq_false (by omega)
    by_cases h5 : k = 37
    ·have g5 : ((k : Int) == 37) = true := beq_iff_eq.2 (by omega)
     rw [decide_eq_true (show 97 ≤ k ∧ k ≤ 122 ∨ 65 ≤ k ∧ k ≤ 90 ∨ k = 37 by omega)]
     clear h3 h5
     clear h1
     go_enter Try.func62, Try.ntmps62
     go_wp2
     go_ret
     exact ⟨rfl, rfl⟩
    ·have g5 : ((k : Int) == 37) = false := beq_eq_false_iff_ne.2 (by omega)
     rw [decide_eq_false (show ¬ (97 ≤ k ∧ k ≤ 122 ∨ 65 ≤ k ∧ k ≤ 90 ∨ k = 37) by omega)]
     clear h3 h5
     clear h1
     go_enter Try.func62, Try.ntmps62
     go_wp2
     go_ret
     exact ⟨rfl, rfl⟩
 ·have g1 : decide ((97 : Int) ≤ (k : Int)) = false := decide_eq_false (by omega)
  by_cases h3 : 65 ≤ k
  ·have g3 : decide ((65 : Int) ≤ (k : Int)) = true := decide_eq_true (by omega)
   by_cases h4 : k ≤ 90
   ·have g4 : decide ((k : Int) ≤ 90) = true := decide_eq_true (by omega)
    rw [decide_eq_true (show 97 ≤ k ∧ k ≤ 122 ∨ 65 ≤ k ∧ k ≤ 90 ∨ k = 37 by omega)]
    clear h3 h4
    clear h1
    go_enter Try.func62, Try.ntmps62
    go_wp2
    go_ret
    exact ⟨rfl, rfl⟩
   ·have g4 : decide ((k : Int) ≤ 90) = false := decide_eq_false (by omega)
    have g5 : ((k : Int) == 37) = false := beq_eq_false_iff_ne.2 (by omega)
    rw [decide_eq_false (show ¬ (97 ≤ k ∧ k ≤ 122 ∨ 65 ≤ k ∧ k ≤ 90 ∨ k = 37) by omega)]
    clear h3 h4
    clear h1
    go_enter Try.func62, Try.ntmps62
    go_wp2
    go_ret
    exact ⟨rfl, rfl⟩
  ·have g3 : decide ((65 : Int) ≤ (k : Int)) = false := decide_eq_false (by omega)
   by_cases h5 : k = 37
   ·have g5 : ((k : Int) == 37) = true := beq_iff_eq.2 (by omega)
    rw [decide_eq_true (show 97 ≤ k ∧ k ≤ 122 ∨ 65 ≤ k ∧ k ≤ 90 ∨ k = 37 by omega)]
    clear h3 h5
    clear h1
    go_enter Try.func62, Try.ntmps62
    go_wp2
    go_ret
    exact ⟨rfl, rfl⟩
   ·have g5 : ((k : Int) == 37) = false := beq_eq_false_iff_ne.2 (by omega)
    rw [decide_eq_false (show ¬ (97 ≤ k ∧ k ≤ 122 ∨ 65 ≤ k ∧ k ≤ 90 ∨ k = 37) by omega)]
    clear h3 h5
    clear h1
    go_enter Try.func62, Try.ntmps62
    go_wp2
    go_ret
    exact ⟨rfl, rfl⟩
theorem rdigit_any (k : Nat) (b : Bool) (hb : decide (digN k) = b) (w : World) : Calls Try.prog 63 #[.int .u8 (k : Int)] w fun e w' => e = .returned (.bool b) ∧ w = w' := by
 subst hb
 unfold digN
 by_cases h1 : 48 ≤ k
 ·have g1 : decide ((48 : Int) ≤ (k : Int)) = true := decide_eq_true (by omega)
  by_cases h2 : k ≤ 57
  ·have g2 : decide ((k : Int) ≤ 57) = true := decide_eq_true (by omega)
   rw [decide_eq_true (show 48 ≤ k ∧ k ≤ 57 from ⟨h1, h2⟩)]
   clear h2
   clear h1
   go_enter Try.func63, Try.ntmps63
   go_wp2
   go_ret
   exact ⟨rfl, rfl⟩
  ·have g2 : decide ((k : Int) ≤ 57) = false := decide_eq_false (by omega)
   rw [decide_eq_false (show ¬ (48 ≤ k ∧ k ≤ 57) by omega)]
   clear h2
   clear h1
   go_enter Try.func63, Try.ntmps63
   go_wp2
   go_ret
   exact ⟨rfl, rfl⟩
 ·have g1 : decide ((48 : Int) ≤ (k : Int)) = false := decide_eq_false (by omega)
  rw [decide_eq_false (show ¬ (48 ≤ k ∧ k ≤ 57) by omega)]
  clear h1
  go_enter Try.func63, Try.ntmps63
  go_wp2
  go_ret
  exact ⟨rfl, rfl⟩
theorem goes_any (kind k : Nat) (b : Bool) (hb : goesN kind k = b) (w : World) : Calls Try.prog 64 #[.int .u8 (kind : Int), .int .u8 (k : Int)] w fun e w' => e = .returned (.bool b) ∧ w = w' := by
 subst hb
 unfold goesN
 have D := Lib.hid (fun w => rdigit_any k _ rfl w)
 cases q2 : decide (digN k)
 rotate_left
 ·rw [q2] at D
  by_cases h1 : kind = 1
  ·have g1 : ((kind : Int) == 1) = true := beq_iff_eq.2 (by omega)
   rw [if_pos h1]
   have L := Lib.hid (fun w => letter_any k _ rfl w)
   cases q1 : decide (letN k)
   ·rw [q1] at L
    clear q1 q2 h1
    go_enter Try.func64, Try.ntmps64
    go_wp2_with fail
    with_reducible refine (L.out _).mono ?_
    rintro e_ w_ ⟨rfl, rfl⟩
    go_wp2_with fail
    with_reducible refine (D.out _).mono ?_
    rintro e_ w_ ⟨rfl, rfl⟩
    go_wp2
    go_ret
    exact ⟨rfl, rfl⟩
   ·rw [q1] at L
    clear q1 q2 h1
    go_enter Try.func64, Try.ntmps64
    go_wp2_with fail
    with_reducible refine (L.out _).mono ?_
    rintro e_ w_ ⟨rfl, rfl⟩
    go_wp2
    go_ret
    exact ⟨rfl, rfl⟩
  ·have g1 : ((kind : Int) == 1) = false := beq_eq_false_iff_ne.2 (by omega)
   rw [if_neg h1]
   clear q2 h1
   go_enter Try.func64, Try.ntmps64
   go_wp2_with fail
   with_reducible refine (D.out _).mono ?_
   rintro e_ w_ ⟨rfl, rfl⟩
   go_wp2
   go_ret
   exact ⟨rfl, rfl⟩
 rw [q2] at D
 by_cases h1 : kind = 1
 ·have g1 : ((kind : Int) == 1) = true := beq_iff_eq.2 (by omega)
  rw [if_pos h1]
  have L := Lib.hid (fun w => letter_any k _ rfl w)
  cases q1 : decide (letN k)
  ·rw [q1] at L
   by_cases h3 : k = 95
   ·have g3 : ((k : Int) == 95) = true := beq_iff_eq.2 (by omega)
    rw [decide_eq_true h3]
    clear q1 q2 h1 h3
    go_enter Try.func64, Try.ntmps64
    go_wp2_with fail
    with_reducible refine (L.out _).mono ?_
    rintro e_ w_ ⟨rfl, rfl⟩
    go_wp2_with fail
    with_reducible refine (D.out _).mono ?_
    rintro e_ w_ ⟨rfl, rfl⟩
    go_wp2
    go_ret
    exact ⟨rfl, rfl⟩
   ·have g3 : ((k : Int) == 95) = false := beq_eq_false_iff_ne.2 (by omega)
    rw [decide_eq_false h3]
    clear q1 q2 h1 h3
    go_enter Try.func64, Try.ntmps64
    go_wp2_with fail
    with_reducible refine (L.out _).mono ?_
    rintro e_ w_ ⟨rfl, rfl⟩
    go_wp2_with fail
    with_reducible refine (D.out _).mono ?_
    rintro e_ w_ ⟨rfl, rfl⟩
    go_wp2
    go_ret
    exact ⟨rfl, rfl⟩
  ·rw [q1] at L
   clear q1 q2 h1
   go_enter Try.func64, Try.ntmps64
   go_wp2_with fail
   with_reducible refine (L.out _).mono ?_
   rintro e_ w_ ⟨rfl, rfl⟩
   go_wp2
   go_ret
   exact ⟨rfl, rfl⟩
 ·have g1 : ((kind : Int) == 1) = false := beq_eq_false_iff_ne.2 (by omega)
  rw [if_neg h1]
  by_cases h3 : k = 46
  ·have g3 : ((k : Int) == 46) = true := beq_iff_eq.2 (by omega)
   rw [decide_eq_true h3]
   clear q2 h1 h3
   go_enter Try.func64, Try.ntmps64
   go_wp2_with fail
   with_reducible refine (D.out _).mono ?_
   rintro e_ w_ ⟨rfl, rfl⟩
   go_wp2
   go_ret
   exact ⟨rfl, rfl⟩
  have g3 : ((k : Int) == 46) = false := beq_eq_false_iff_ne.2 (by omega)
  rw [decide_eq_false h3]
  by_cases h4 : k = 45
  ·have g4 : ((k : Int) == 45) = true := beq_iff_eq.2 (by omega)
   rw [decide_eq_true h4]
   clear q2 h1 h3 h4
   go_enter Try.func64, Try.ntmps64
   go_wp2_with fail
   with_reducible refine (D.out _).mono ?_
   rintro e_ w_ ⟨rfl, rfl⟩
   go_wp2
   go_ret
   exact ⟨rfl, rfl⟩
  ·have g4 : ((k : Int) == 45) = false := beq_eq_false_iff_ne.2 (by omega)
   rw [decide_eq_false h4]
   clear q2 h1 h3 h4
   go_enter Try.func64, Try.ntmps64
   go_wp2_with fail
   with_reducible refine (D.out _).mono ?_
   rintro e_ w_ ⟨rfl, rfl⟩
   go_wp2
   go_ret
   exact ⟨rfl, rfl⟩
set_option maxHeartbeats 2000000 in
theorem rname_any (s : ByteArray) (w : World) : Calls Try.prog 26 #[.string s] w fun e w' => e = .returned (.bool (Vd.name s)) ∧ w = w' := by
 obtain ⟨rv, hrv⟩ : ∃ rv, Vd.name s = rv := ⟨_, rfl⟩
 rw [hrv]
 rw [name_eq] at hrv
 have RV := Lib.hid hrv
 clear hrv
 rcases Nat.eq_zero_or_pos s.size with h0 | h0
 ·have g1 : decide ((s.size : Int) < 1) = true := decide_eq_true (by omega)
  obtain rfl : false = rv := by rw [← RV.out, decide_eq_false (show ¬ 0 < s.size by omega)]; rfl
  clear h0 RV
  go_enter Try.func26, Try.ntmps26
  go_wp2
  go_ret
  exact ⟨rfl, rfl⟩
 have g1 : decide ((s.size : Int) < 1) = false := decide_eq_false (by omega)
 by_cases h20 : 20 < s.size
 ·have g2 : decide ((20 : Int) < (s.size : Int)) = true := decide_eq_true (by omega)
  obtain rfl : false = rv := by rw [← RV.out, decide_eq_false (show ¬ s.size ≤ 20 by omega), Bool.and_false]; rfl
  clear h0 h20 RV
  go_enter Try.func26, Try.ntmps26
  go_wp2
  go_ret
  exact ⟨rfl, rfl⟩
 have g2 : decide ((20 : Int) < (s.size : Int)) = false := decide_eq_false (by omega)
 by_cases c1 : s = ⟨#[114, 101, 99, 105, 112, 101]⟩
 ·have e1 : (s.toList == [114, 101, 99, 105, 112, 101]) = true := lit_eq c1
  obtain rfl : false = rv := by rw [← RV.out, show words3 s = false from decide_eq_false (by simp [c1]), Bool.and_false]
  clear c1 h0 h20 RV
  go_enter Try.func26, Try.ntmps26
  go_wp2
  go_ret
  exact ⟨rfl, rfl⟩
 have e1 : (s.toList == [114, 101, 99, 105, 112, 101]) = false := lit_ne c1
 by_cases c2 : s = ⟨#[115, 108, 97, 118, 101]⟩
 ·have e2 : (s.toList == [115, 108, 97, 118, 101]) = true := lit_eq c2
  obtain rfl : false = rv := by rw [← RV.out, show words3 s = false from decide_eq_false (by simp [c2]), Bool.and_false]
  clear c1 c2 h0 h20 RV
  go_enter Try.func26, Try.ntmps26
  go_wp2
  go_ret
  exact ⟨rfl, rfl⟩
 have e2 : (s.toList == [115, 108, 97, 118, 101]) = false := lit_ne c2
 by_cases c3 : s = ⟨#[101, 110, 100]⟩
 ·have e3 : (s.toList == [101, 110, 100]) = true := lit_eq c3
  obtain rfl : false = rv := by rw [← RV.out, show words3 s = false from decide_eq_false (by simp [c3]), Bool.and_false]
  clear c1 c2 c3 h0 h20 RV
  go_enter Try.func26, Try.ntmps26
  go_wp2
  go_ret
  exact ⟨rfl, rfl⟩
 have e3 : (s.toList == [101, 110, 100]) = false := lit_ne c3
 have hw3 : words3 s = true := decide_eq_true ⟨c1, c2, c3⟩
 have hrv := RV.out
 rw [decide_eq_true h0, decide_eq_true (show s.size ≤ 20 by omega), get_list s 0 h0, hw3, Bool.and_true, Bool.true_and, Bool.true_and] at hrv
 dsimp only at hrv
 clear c1 c2 c3 hw3 RV
 have RV := Lib.hid hrv
 clear hrv
 obtain ⟨k0, hk0⟩ : ∃ k, s[0].toNat = k := ⟨_, rfl⟩
 have hlow : Vd.lowc s[0] = decide (97 ≤ k0 ∧ k0 ≤ 122) := by unfold Vd.lowc; rw [hk0]
 by_cases c4 : k0 < 97
 ·have g4 : decide ((k0 : Int) < 97) = true := decide_eq_true (by omega)
  obtain rfl : false = rv := by rw [← RV.out, hlow, decide_eq_false (by omega)]; rfl
  clear c4 hlow h20 RV
  go_enter Try.func26, Try.ntmps26
  go_wp2
  go_ret
  exact ⟨rfl, rfl⟩
 have g4 : decide ((k0 : Int) < 97) = false := decide_eq_false (by omega)
 by_cases c5 : 122 < k0
 ·have g5 : decide ((122 : Int) < (k0 : Int)) = true := decide_eq_true (by omega)
  obtain rfl : false = rv := by rw [← RV.out, hlow, decide_eq_false (by omega)]; rfl
  clear c4 c5 hlow h20 RV
  go_enter Try.func26, Try.ntmps26
  go_wp2
  go_ret
  exact ⟨rfl, rfl⟩
 have g5 : decide ((122 : Int) < (k0 : Int)) = false := decide_eq_false (by omega)
 have RV2 : Hid (s.data.toList.all Vd.nameC = rv) := Lib.hid (by rw [← RV.out, hlow, decide_eq_true (by omega), Bool.true_and])
 clear c4 c5 hlow RV
 go_enter Try.func26, Try.ntmps26
 go_wp2
 go_loopw [3] (fun x wr => ∃ j : Nat, j ≤ s.size ∧ Hid ((s.data.toList.take j).all Vd.nameC = true) ∧ x = .int .i64 (j : Int) ∧ wr = w) (fun i _ => s.size - (RowKit.intOf i).toNat)
 case atStart => exact ⟨0, by omega, Lib.hid rfl, rfl, rfl⟩
 case round =>
  rename World => wr
  obtain ⟨j, hj, HA, rfl, rfl⟩ := hrel
  by_cases hlt : j < s.size
  rotate_left
  ·obtain rfl : j = s.size := by omega
   obtain rfl : true = rv := by
    have := HA.out
    rw [size_list, List.take_length] at this
    rw [← RV2.out, this]
   clear hlt hj
   go_wp2
   go_ret
   exact ⟨rfl, rfl⟩
  have hltI : (j : Int) < (s.size : Int) := by omega
  have hg := Lib.hid (get_list s j hlt)
  obtain ⟨c, hc⟩ : ∃ c, s[j] = c := ⟨_, rfl⟩
  obtain ⟨k, hk⟩ : ∃ k, c.toNat = k := ⟨_, rfl⟩
  have hck : s[j].toNat = k := by rw [hc, hk]
  rw [hc] at hg
  have HNC := Lib.hid (show Vd.nameC c = (decide (97 ≤ k ∧ k ≤ 122) || decide (48 ≤ k ∧ k ≤ 57) || decide (k = 95)) by unfold Vd.nameC Vd.lowc Vd.digc; rw [hk])
  clear hc hk
  by_cases q1 : 97 ≤ k
  ·have q1b : decide ((97 : Int) ≤ (k : Int)) = true := decide_eq_true (by omega)
   by_cases q2 : k ≤ 122
   ·have q2b : decide ((k : Int) ≤ 122) = true := decide_eq_true (by omega)
    have HB := Lib.hid (all_step HA.out hg.out (by rw [HNC.out]; simp; omega))
    go_wp2
    go_roundw
    case rel => exact ⟨j + 1, by omega, HB, by go_num, by first | rfl | trivial⟩
    case measure => simp [RowKit.intOf]; omega
   ·have q2b : decide ((k : Int) ≤ 122) = false := decide_eq_false (by omega)
    by_cases q5 : 48 ≤ k
    ·have q5b : decide ((48 : Int) ≤ (k : Int)) = true := decide_eq_true (by omega)
     by_cases q6 : k ≤ 57
     ·have q6b : decide ((k : Int) ≤ 57) = true := decide_eq_true (by omega)
      have HB := Lib.hid (all_step HA.out hg.out (by rw [HNC.out]; simp; omega))
      go_wp2
      go_roundw
      case rel => exact ⟨j + 1, by omega, HB, by go_num, by first | rfl | trivial⟩
      case measure => simp [RowKit.intOf]; omega
     ·have q6b : decide ((k : Int) ≤ 57) = false := decide_eq_false (by omega)
      by_cases q3 : k = 95
      ·have q3b : ((k : Int) != 95) = false := by simp [q3]
       have HB := Lib.hid (all_step HA.out hg.out (by rw [HNC.out]; simp [q3]))
       clear q3
       go_wp2
       go_roundw
       case rel => exact ⟨j + 1, by omega, HB, by go_num, by first | rfl | trivial⟩
       case measure => simp [RowKit.intOf]; omega
      ·have q3b : ((k : Int) != 95) = true := bne_iff_ne.2 (by omega)
       obtain rfl : false = rv := by
        rw [← RV2.out, all_no hg.out (by rw [HNC.out]; simp; omega)]
       clear q3 RV2
       go_wp2
       go_ret
       exact ⟨rfl, rfl⟩
    ·have q5b : decide ((48 : Int) ≤ (k : Int)) = false := decide_eq_false (by omega)
     by_cases q3 : k = 95
     ·have q3b : ((k : Int) != 95) = false := by simp [q3]
      have HB := Lib.hid (all_step HA.out hg.out (by rw [HNC.out]; simp [q3]))
      clear q3
      go_wp2
      go_roundw
      case rel => exact ⟨j + 1, by omega, HB, by go_num, by first | rfl | trivial⟩
      case measure => simp [RowKit.intOf]; omega
     ·have q3b : ((k : Int) != 95) = true := bne_iff_ne.2 (by omega)
      obtain rfl : false = rv := by
       rw [← RV2.out, all_no hg.out (by rw [HNC.out]; simp; omega)]
      clear q3 RV2
      go_wp2
      go_ret
      exact ⟨rfl, rfl⟩
  ·have q1b : decide ((97 : Int) ≤ (k : Int)) = false := decide_eq_false (by omega)
   by_cases q5 : 48 ≤ k
   ·have q5b : decide ((48 : Int) ≤ (k : Int)) = true := decide_eq_true (by omega)
    by_cases q6 : k ≤ 57
    ·have q6b : decide ((k : Int) ≤ 57) = true := decide_eq_true (by omega)
     have HB := Lib.hid (all_step HA.out hg.out (by rw [HNC.out]; simp; omega))
     go_wp2
     go_roundw
     case rel => exact ⟨j + 1, by omega, HB, by go_num, by first | rfl | trivial⟩
     case measure => simp [RowKit.intOf]; omega
    ·have q6b : decide ((k : Int) ≤ 57) = false := decide_eq_false (by omega)
     by_cases q3 : k = 95
     ·have q3b : ((k : Int) != 95) = false := by simp [q3]
      have HB := Lib.hid (all_step HA.out hg.out (by rw [HNC.out]; simp [q3]))
      clear q3
      go_wp2
      go_roundw
      case rel => exact ⟨j + 1, by omega, HB, by go_num, by first | rfl | trivial⟩
      case measure => simp [RowKit.intOf]; omega
     ·have q3b : ((k : Int) != 95) = true := bne_iff_ne.2 (by omega)
      obtain rfl : false = rv := by
       rw [← RV2.out, all_no hg.out (by rw [HNC.out]; simp; omega)]
      clear q3 RV2
      go_wp2
      go_ret
      exact ⟨rfl, rfl⟩
   ·have q5b : decide ((48 : Int) ≤ (k : Int)) = false := decide_eq_false (by omega)
    by_cases q3 : k = 95
    ·have q3b : ((k : Int) != 95) = false := by simp [q3]
     have HB := Lib.hid (all_step HA.out hg.out (by rw [HNC.out]; simp [q3]))
     clear q3
     go_wp2
     go_roundw
     case rel => exact ⟨j + 1, by omega, HB, by go_num, by first | rfl | trivial⟩
     case measure => simp [RowKit.intOf]; omega
    ·have q3b : ((k : Int) != 95) = true := bne_iff_ne.2 (by omega)
     obtain rfl : false = rv := by
      rw [← RV2.out, all_no hg.out (by rw [HNC.out]; simp; omega)]
     clear q3 RV2
     go_wp2
     go_ret
     exact ⟨rfl, rfl⟩
end Go.Proofs.Ythhokpaidekmnaa
