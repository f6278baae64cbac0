/- Layer 15: valid.name, rightPoint, Find, point. -/
import Derived.Test.YthhokpaidekmnaaVdFresh
namespace Go.Proofs.Ythhokpaidekmnaa
open Go.RowKit
set_option linter.unusedVariables false
set_option linter.unusedSimpArgs false
set_option maxRecDepth 100000
attribute [local go_sem] Later.cell Later.frozen setCell_twice
theorem vname_any (s : ByteArray) (w : World) : Calls Try.prog 46 #[.string s] w fun e w' => e = .returned (.bool (Vd.name s)) ∧ Below w.heap.size w w' := by
 have K := Lib.hid (fun w => rcpright_any s none [] 0 0 w rfl ⟨Recs.nil, by simp⟩ ⟨by omega, by omega, fun _ => rfl⟩)
 obtain ⟨b, hb⟩ : ∃ b, Vd.name s = b := ⟨_, rfl⟩
 rw [show Vd.rightR s [] = b by unfold Vd.rightR; rw [hb]; simp] at K
 rw [hb]
 clear hb
 go_enter Try.func46, Try.ntmps46
 go_wp2_with fail
 with_reducible refine (K.out _).mono ?_
 rintro e_x1 w_x1 ⟨rfl, hb_x1⟩
 obtain ⟨x1, rfl⟩ := later_is hb_x1
 clear hb_x1
 have hz_x1 := x1.bel.size
 try simp at hz_x1
 go_wp2
 go_ret
 exact ⟨rfl, belo⟩
set_option maxHeartbeats 4000000 in
theorem rightPt_any (p : Pt) (w : World) (hp : p.Fit) : Calls Try.prog 48 #[.agg #[.string p.name, .int .i64 p.at_, .int .i64 p.digits, .bool p.signed, .int .i64 p.low.n, .int .u8 (p.low.d : Int), .int .i64 p.high.n, .int .u8 (p.high.d : Int), .string p.unit]] w fun e w' => e = .returned (.bool (Vd.rightPt p)) ∧ Below w.heap.size w w' := by
 obtain ⟨nm, at_, dg, sg, ⟨ln, ld⟩, ⟨hn, hd⟩, un⟩ := p
 dsimp only
 have NM := Lib.hid (fun w => vname_any nm w)
 have LW := Lib.hid (fun w => rightD_any ln ld w hp.2.2.1.1 hp.2.2.1.2.1)
 have HI := Lib.hid (fun w => rightD_any hn hd w hp.2.2.2.1 hp.2.2.2.2.1)
 have CP := Lib.hid (fun w => cmp_any ln hn ld hd w hp.2.2.1 hp.2.2.2)
 have KN := Lib.hid (fun w => known_any un w)
 obtain ⟨rv, hrv⟩ : ∃ rv, Vd.rightPt ⟨nm, at_, dg, sg, ⟨ln, ld⟩, ⟨hn, hd⟩, un⟩ = rv := ⟨_, rfl⟩
 rw [hrv]
 unfold Vd.rightPt at hrv
 dsimp only at hrv
 have RV := Lib.hid hrv
 clear hp hrv
 cases q1 : Vd.name nm
 ·obtain rfl : false = rv := by rw [← RV.out, q1]; rfl
  rw [q1] at NM
  clear RV q1
  go_enter Try.func48, Try.ntmps48
  go_wp2_with fail
  with_reducible refine (NM.out _).mono ?_
  rintro e_x1 w_x1 ⟨rfl, hb_x1⟩
  obtain ⟨x1, rfl⟩ := later_is hb_x1
  clear hb_x1
  have hz_x1 := x1.bel.size
  try simp at hz_x1
  have l_x1_0 : w.heap.size < x1.val.heap.size := by omega
  have m_x1_0 : w.heap.size < x1.val.heap.size + 1 := by omega
  have q_ := x1.cq (w.heap.size) 0
  generalize c_x1_0_0 : x1.val.cell? ⟨w.heap.size, 0, none⟩ = q at q_
  first | (have q2_ : q = some _ := q_; subst q2_) | (simp [go_sem] at q_; have q2_ : q = some _ := q_; subst q2_) | (simp [go_sem, *] at q_; have q2_ : q = some _ := q_; subst q2_)
  have q_ := x1.cq (w.heap.size) 1
  generalize c_x1_0_1 : x1.val.cell? ⟨w.heap.size, 1, none⟩ = q at q_
  first | (have q2_ : q = some _ := q_; subst q2_) | (simp [go_sem] at q_; have q2_ : q = some _ := q_; subst q2_) | (simp [go_sem, *] at q_; have q2_ : q = some _ := q_; subst q2_)
  have q_ := x1.cq (w.heap.size) 2
  generalize c_x1_0_2 : x1.val.cell? ⟨w.heap.size, 2, none⟩ = q at q_
  first | (have q2_ : q = some _ := q_; subst q2_) | (simp [go_sem] at q_; have q2_ : q = some _ := q_; subst q2_) | (simp [go_sem, *] at q_; have q2_ : q = some _ := q_; subst q2_)
  have q_ := x1.cq (w.heap.size) 3
  generalize c_x1_0_3 : x1.val.cell? ⟨w.heap.size, 3, none⟩ = q at q_
  first | (have q2_ : q = some _ := q_; subst q2_) | (simp [go_sem] at q_; have q2_ : q = some _ := q_; subst q2_) | (simp [go_sem, *] at q_; have q2_ : q = some _ := q_; subst q2_)
  have q_ := x1.cq (w.heap.size) 4
  generalize c_x1_0_4 : x1.val.cell? ⟨w.heap.size, 4, none⟩ = q at q_
  first | (have q2_ : q = some _ := q_; subst q2_) | (simp [go_sem] at q_; have q2_ : q = some _ := q_; subst q2_) | (simp [go_sem, *] at q_; have q2_ : q = some _ := q_; subst q2_)
  have q_ := x1.cq (w.heap.size) 5
  generalize c_x1_0_5 : x1.val.cell? ⟨w.heap.size, 5, none⟩ = q at q_
  first | (have q2_ : q = some _ := q_; subst q2_) | (simp [go_sem] at q_; have q2_ : q = some _ := q_; subst q2_) | (simp [go_sem, *] at q_; have q2_ : q = some _ := q_; subst q2_)
  have q_ := x1.cq (w.heap.size) 6
  generalize c_x1_0_6 : x1.val.cell? ⟨w.heap.size, 6, none⟩ = q at q_
  first | (have q2_ : q = some _ := q_; subst q2_) | (simp [go_sem] at q_; have q2_ : q = some _ := q_; subst q2_) | (simp [go_sem, *] at q_; have q2_ : q = some _ := q_; subst q2_)
  have q_ := x1.cq (w.heap.size) 7
  generalize c_x1_0_7 : x1.val.cell? ⟨w.heap.size, 7, none⟩ = q at q_
  first | (have q2_ : q = some _ := q_; subst q2_) | (simp [go_sem] at q_; have q2_ : q = some _ := q_; subst q2_) | (simp [go_sem, *] at q_; have q2_ : q = some _ := q_; subst q2_)
  have q_ := x1.cq (w.heap.size) 8
  generalize c_x1_0_8 : x1.val.cell? ⟨w.heap.size, 8, none⟩ = q at q_
  first | (have q2_ : q = some _ := q_; subst q2_) | (simp [go_sem] at q_; have q2_ : q = some _ := q_; subst q2_) | (simp [go_sem, *] at q_; have q2_ : q = some _ := q_; subst q2_)
  go_wp2
  go_ret
  exact ⟨rfl, belo⟩
 rw [q1] at NM RV
 rw [Bool.true_and] at RV
 clear q1
 by_cases c1 : at_ < 0
 ·have g1 : decide (at_ < 0) = true := decide_eq_true c1
  obtain rfl : false = rv := by rw [← RV.out, decide_eq_false (by omega)]; rfl
  clear RV c1
  go_enter Try.func48, Try.ntmps48
  go_wp2_with fail
  with_reducible refine (NM.out _).mono ?_
  rintro e_x1 w_x1 ⟨rfl, hb_x1⟩
  obtain ⟨x1, rfl⟩ := later_is hb_x1
  clear hb_x1
  have hz_x1 := x1.bel.size
  try simp at hz_x1
  have l_x1_0 : w.heap.size < x1.val.heap.size := by omega
  have m_x1_0 : w.heap.size < x1.val.heap.size + 1 := by omega
  have q_ := x1.cq (w.heap.size) 0
  generalize c_x1_0_0 : x1.val.cell? ⟨w.heap.size, 0, none⟩ = q at q_
  first | (have q2_ : q = some _ := q_; subst q2_) | (simp [go_sem] at q_; have q2_ : q = some _ := q_; subst q2_) | (simp [go_sem, *] at q_; have q2_ : q = some _ := q_; subst q2_)
  have q_ := x1.cq (w.heap.size) 1
  generalize c_x1_0_1 : x1.val.cell? ⟨w.heap.size, 1, none⟩ = q at q_
  first | (have q2_ : q = some _ := q_; subst q2_) | (simp [go_sem] at q_; have q2_ : q = some _ := q_; subst q2_) | (simp [go_sem, *] at q_; have q2_ : q = some _ := q_; subst q2_)
  have q_ := x1.cq (w.heap.size) 2
  generalize c_x1_0_2 : x1.val.cell? ⟨w.heap.size, 2, none⟩ = q at q_
  first | (have q2_ : q = some _ := q_; subst q2_) | (simp [go_sem] at q_; have q2_ : q = some _ := q_; subst q2_) | (simp [go_sem, *] at q_; have q2_ : q = some _ := q_; subst q2_)
  have q_ := x1.cq (w.heap.size) 3
  generalize c_x1_0_3 : x1.val.cell? ⟨w.heap.size, 3, none⟩ = q at q_
  first | (have q2_ : q = some _ := q_; subst q2_) | (simp [go_sem] at q_; have q2_ : q = some _ := q_; subst q2_) | (simp [go_sem, *] at q_; have q2_ : q = some _ := q_; subst q2_)
  have q_ := x1.cq (w.heap.size) 4
  generalize c_x1_0_4 : x1.val.cell? ⟨w.heap.size, 4, none⟩ = q at q_
  first | (have q2_ : q = some _ := q_; subst q2_) | (simp [go_sem] at q_; have q2_ : q = some _ := q_; subst q2_) | (simp [go_sem, *] at q_; have q2_ : q = some _ := q_; subst q2_)
  have q_ := x1.cq (w.heap.size) 5
  generalize c_x1_0_5 : x1.val.cell? ⟨w.heap.size, 5, none⟩ = q at q_
  first | (have q2_ : q = some _ := q_; subst q2_) | (simp [go_sem] at q_; have q2_ : q = some _ := q_; subst q2_) | (simp [go_sem, *] at q_; have q2_ : q = some _ := q_; subst q2_)
  have q_ := x1.cq (w.heap.size) 6
  generalize c_x1_0_6 : x1.val.cell? ⟨w.heap.size, 6, none⟩ = q at q_
  first | (have q2_ : q = some _ := q_; subst q2_) | (simp [go_sem] at q_; have q2_ : q = some _ := q_; subst q2_) | (simp [go_sem, *] at q_; have q2_ : q = some _ := q_; subst q2_)
  have q_ := x1.cq (w.heap.size) 7
  generalize c_x1_0_7 : x1.val.cell? ⟨w.heap.size, 7, none⟩ = q at q_
  first | (have q2_ : q = some _ := q_; subst q2_) | (simp [go_sem] at q_; have q2_ : q = some _ := q_; subst q2_) | (simp [go_sem, *] at q_; have q2_ : q = some _ := q_; subst q2_)
  have q_ := x1.cq (w.heap.size) 8
  generalize c_x1_0_8 : x1.val.cell? ⟨w.heap.size, 8, none⟩ = q at q_
  first | (have q2_ : q = some _ := q_; subst q2_) | (simp [go_sem] at q_; have q2_ : q = some _ := q_; subst q2_) | (simp [go_sem, *] at q_; have q2_ : q = some _ := q_; subst q2_)
  go_wp2
  go_ret
  exact ⟨rfl, belo⟩
 have g1 : decide (at_ < 0) = false := decide_eq_false c1
 by_cases c2 : 64 ≤ at_
 ·have g2 : decide (64 ≤ at_) = true := decide_eq_true c2
  obtain rfl : false = rv := by rw [← RV.out, decide_eq_false (by omega)]; rfl
  clear RV c1 c2
  go_enter Try.func48, Try.ntmps48
  go_wp2_with fail
  with_reducible refine (NM.out _).mono ?_
  rintro e_x1 w_x1 ⟨rfl, hb_x1⟩
  obtain ⟨x1, rfl⟩ := later_is hb_x1
  clear hb_x1
  have hz_x1 := x1.bel.size
  try simp at hz_x1
  have l_x1_0 : w.heap.size < x1.val.heap.size := by omega
  have m_x1_0 : w.heap.size < x1.val.heap.size + 1 := by omega
  have q_ := x1.cq (w.heap.size) 0
  generalize c_x1_0_0 : x1.val.cell? ⟨w.heap.size, 0, none⟩ = q at q_
  first | (have q2_ : q = some _ := q_; subst q2_) | (simp [go_sem] at q_; have q2_ : q = some _ := q_; subst q2_) | (simp [go_sem, *] at q_; have q2_ : q = some _ := q_; subst q2_)
  have q_ := x1.cq (w.heap.size) 1
  generalize c_x1_0_1 : x1.val.cell? ⟨w.heap.size, 1, none⟩ = q at q_
  first | (have q2_ : q = some _ := q_; subst q2_) | (simp [go_sem] at q_; have q2_ : q = some _ := q_; subst q2_) | (simp [go_sem, *] at q_; have q2_ : q = some _ := q_; subst q2_)
  have q_ := x1.cq (w.heap.size) 2
  generalize c_x1_0_2 : x1.val.cell? ⟨w.heap.size, 2, none⟩ = q at q_
  first | (have q2_ : q = some _ := q_; subst q2_) | (simp [go_sem] at q_; have q2_ : q = some _ := q_; subst q2_) | (simp [go_sem, *] at q_; have q2_ : q = some _ := q_; subst q2_)
  have q_ := x1.cq (w.heap.size) 3
  generalize c_x1_0_3 : x1.val.cell? ⟨w.heap.size, 3, none⟩ = q at q_
  first | (have q2_ : q = some _ := q_; subst q2_) | (simp [go_sem] at q_; have q2_ : q = some _ := q_; subst q2_) | (simp [go_sem, *] at q_; have q2_ : q = some _ := q_; subst q2_)
  have q_ := x1.cq (w.heap.size) 4
  generalize c_x1_0_4 : x1.val.cell? ⟨w.heap.size, 4, none⟩ = q at q_
  first | (have q2_ : q = some _ := q_; subst q2_) | (simp [go_sem] at q_; have q2_ : q = some _ := q_; subst q2_) | (simp [go_sem, *] at q_; have q2_ : q = some _ := q_; subst q2_)
  have q_ := x1.cq (w.heap.size) 5
  generalize c_x1_0_5 : x1.val.cell? ⟨w.heap.size, 5, none⟩ = q at q_
  first | (have q2_ : q = some _ := q_; subst q2_) | (simp [go_sem] at q_; have q2_ : q = some _ := q_; subst q2_) | (simp [go_sem, *] at q_; have q2_ : q = some _ := q_; subst q2_)
  have q_ := x1.cq (w.heap.size) 6
  generalize c_x1_0_6 : x1.val.cell? ⟨w.heap.size, 6, none⟩ = q at q_
  first | (have q2_ : q = some _ := q_; subst q2_) | (simp [go_sem] at q_; have q2_ : q = some _ := q_; subst q2_) | (simp [go_sem, *] at q_; have q2_ : q = some _ := q_; subst q2_)
  have q_ := x1.cq (w.heap.size) 7
  generalize c_x1_0_7 : x1.val.cell? ⟨w.heap.size, 7, none⟩ = q at q_
  first | (have q2_ : q = some _ := q_; subst q2_) | (simp [go_sem] at q_; have q2_ : q = some _ := q_; subst q2_) | (simp [go_sem, *] at q_; have q2_ : q = some _ := q_; subst q2_)
  have q_ := x1.cq (w.heap.size) 8
  generalize c_x1_0_8 : x1.val.cell? ⟨w.heap.size, 8, none⟩ = q at q_
  first | (have q2_ : q = some _ := q_; subst q2_) | (simp [go_sem] at q_; have q2_ : q = some _ := q_; subst q2_) | (simp [go_sem, *] at q_; have q2_ : q = some _ := q_; subst q2_)
  go_wp2
  go_ret
  exact ⟨rfl, belo⟩
 have g2 : decide (64 ≤ at_) = false := decide_eq_false c2
 by_cases c3 : dg < 0
 ·have g3 : decide (dg < 0) = true := decide_eq_true c3
  obtain rfl : false = rv := by rw [← RV.out, decide_eq_false (by omega)]; rfl
  clear RV c1 c2 c3
  go_enter Try.func48, Try.ntmps48
  go_wp2_with fail
  with_reducible refine (NM.out _).mono ?_
  rintro e_x1 w_x1 ⟨rfl, hb_x1⟩
  obtain ⟨x1, rfl⟩ := later_is hb_x1
  clear hb_x1
  have hz_x1 := x1.bel.size
  try simp at hz_x1
  have l_x1_0 : w.heap.size < x1.val.heap.size := by omega
  have m_x1_0 : w.heap.size < x1.val.heap.size + 1 := by omega
  have q_ := x1.cq (w.heap.size) 0
  generalize c_x1_0_0 : x1.val.cell? ⟨w.heap.size, 0, none⟩ = q at q_
  first | (have q2_ : q = some _ := q_; subst q2_) | (simp [go_sem] at q_; have q2_ : q = some _ := q_; subst q2_) | (simp [go_sem, *] at q_; have q2_ : q = some _ := q_; subst q2_)
  have q_ := x1.cq (w.heap.size) 1
  generalize c_x1_0_1 : x1.val.cell? ⟨w.heap.size, 1, none⟩ = q at q_
  first | (have q2_ : q = some _ := q_; subst q2_) | (simp [go_sem] at q_; have q2_ : q = some _ := q_; subst q2_) | (simp [go_sem, *] at q_; have q2_ : q = some _ := q_; subst q2_)
  have q_ := x1.cq (w.heap.size) 2
  generalize c_x1_0_2 : x1.val.cell? ⟨w.heap.size, 2, none⟩ = q at q_
  first | (have q2_ : q = some _ := q_; subst q2_) | (simp [go_sem] at q_; have q2_ : q = some _ := q_; subst q2_) | (simp [go_sem, *] at q_; have q2_ : q = some _ := q_; subst q2_)
  have q_ := x1.cq (w.heap.size) 3
  generalize c_x1_0_3 : x1.val.cell? ⟨w.heap.size, 3, none⟩ = q at q_
  first | (have q2_ : q = some _ := q_; subst q2_) | (simp [go_sem] at q_; have q2_ : q = some _ := q_; subst q2_) | (simp [go_sem, *] at q_; have q2_ : q = some _ := q_; subst q2_)
  have q_ := x1.cq (w.heap.size) 4
  generalize c_x1_0_4 : x1.val.cell? ⟨w.heap.size, 4, none⟩ = q at q_
  first | (have q2_ : q = some _ := q_; subst q2_) | (simp [go_sem] at q_; have q2_ : q = some _ := q_; subst q2_) | (simp [go_sem, *] at q_; have q2_ : q = some _ := q_; subst q2_)
  have q_ := x1.cq (w.heap.size) 5
  generalize c_x1_0_5 : x1.val.cell? ⟨w.heap.size, 5, none⟩ = q at q_
  first | (have q2_ : q = some _ := q_; subst q2_) | (simp [go_sem] at q_; have q2_ : q = some _ := q_; subst q2_) | (simp [go_sem, *] at q_; have q2_ : q = some _ := q_; subst q2_)
  have q_ := x1.cq (w.heap.size) 6
  generalize c_x1_0_6 : x1.val.cell? ⟨w.heap.size, 6, none⟩ = q at q_
  first | (have q2_ : q = some _ := q_; subst q2_) | (simp [go_sem] at q_; have q2_ : q = some _ := q_; subst q2_) | (simp [go_sem, *] at q_; have q2_ : q = some _ := q_; subst q2_)
  have q_ := x1.cq (w.heap.size) 7
  generalize c_x1_0_7 : x1.val.cell? ⟨w.heap.size, 7, none⟩ = q at q_
  first | (have q2_ : q = some _ := q_; subst q2_) | (simp [go_sem] at q_; have q2_ : q = some _ := q_; subst q2_) | (simp [go_sem, *] at q_; have q2_ : q = some _ := q_; subst q2_)
  have q_ := x1.cq (w.heap.size) 8
  generalize c_x1_0_8 : x1.val.cell? ⟨w.heap.size, 8, none⟩ = q at q_
  first | (have q2_ : q = some _ := q_; subst q2_) | (simp [go_sem] at q_; have q2_ : q = some _ := q_; subst q2_) | (simp [go_sem, *] at q_; have q2_ : q = some _ := q_; subst q2_)
  go_wp2
  go_ret
  exact ⟨rfl, belo⟩
 have g3 : decide (dg < 0) = false := decide_eq_false c3
 by_cases c4 : 6 < dg
 ·have g4 : decide (6 < dg) = true := decide_eq_true c4
  obtain rfl : false = rv := by rw [← RV.out, decide_eq_false (by omega)]; rfl
  clear RV c1 c2 c3 c4
  go_enter Try.func48, Try.ntmps48
  go_wp2_with fail
  with_reducible refine (NM.out _).mono ?_
  rintro e_x1 w_x1 ⟨rfl, hb_x1⟩
  obtain ⟨x1, rfl⟩ := later_is hb_x1
  clear hb_x1
  have hz_x1 := x1.bel.size
  try simp at hz_x1
  have l_x1_0 : w.heap.size < x1.val.heap.size := by omega
  have m_x1_0 : w.heap.size < x1.val.heap.size + 1 := by omega
  have q_ := x1.cq (w.heap.size) 0
  generalize c_x1_0_0 : x1.val.cell? ⟨w.heap.size, 0, none⟩ = q at q_
  first | (have q2_ : q = some _ := q_; subst q2_) | (simp [go_sem] at q_; have q2_ : q = some _ := q_; subst q2_) | (simp [go_sem, *] at q_; have q2_ : q = some _ := q_; subst q2_)
  have q_ := x1.cq (w.heap.size) 1
  generalize c_x1_0_1 : x1.val.cell? ⟨w.heap.size, 1, none⟩ = q at q_
  first | (have q2_ : q = some _ := q_; subst q2_) | (simp [go_sem] at q_; have q2_ : q = some _ := q_; subst q2_) | (simp [go_sem, *] at q_; have q2_ : q = some _ := q_; subst q2_)
  have q_ := x1.cq (w.heap.size) 2
  generalize c_x1_0_2 : x1.val.cell? ⟨w.heap.size, 2, none⟩ = q at q_
  first | (have q2_ : q = some _ := q_; subst q2_) | (simp [go_sem] at q_; have q2_ : q = some _ := q_; subst q2_) | (simp [go_sem, *] at q_; have q2_ : q = some _ := q_; subst q2_)
  have q_ := x1.cq (w.heap.size) 3
  generalize c_x1_0_3 : x1.val.cell? ⟨w.heap.size, 3, none⟩ = q at q_
  first | (have q2_ : q = some _ := q_; subst q2_) | (simp [go_sem] at q_; have q2_ : q = some _ := q_; subst q2_) | (simp [go_sem, *] at q_; have q2_ : q = some _ := q_; subst q2_)
  have q_ := x1.cq (w.heap.size) 4
  generalize c_x1_0_4 : x1.val.cell? ⟨w.heap.size, 4, none⟩ = q at q_
  first | (have q2_ : q = some _ := q_; subst q2_) | (simp [go_sem] at q_; have q2_ : q = some _ := q_; subst q2_) | (simp [go_sem, *] at q_; have q2_ : q = some _ := q_; subst q2_)
  have q_ := x1.cq (w.heap.size) 5
  generalize c_x1_0_5 : x1.val.cell? ⟨w.heap.size, 5, none⟩ = q at q_
  first | (have q2_ : q = some _ := q_; subst q2_) | (simp [go_sem] at q_; have q2_ : q = some _ := q_; subst q2_) | (simp [go_sem, *] at q_; have q2_ : q = some _ := q_; subst q2_)
  have q_ := x1.cq (w.heap.size) 6
  generalize c_x1_0_6 : x1.val.cell? ⟨w.heap.size, 6, none⟩ = q at q_
  first | (have q2_ : q = some _ := q_; subst q2_) | (simp [go_sem] at q_; have q2_ : q = some _ := q_; subst q2_) | (simp [go_sem, *] at q_; have q2_ : q = some _ := q_; subst q2_)
  have q_ := x1.cq (w.heap.size) 7
  generalize c_x1_0_7 : x1.val.cell? ⟨w.heap.size, 7, none⟩ = q at q_
  first | (have q2_ : q = some _ := q_; subst q2_) | (simp [go_sem] at q_; have q2_ : q = some _ := q_; subst q2_) | (simp [go_sem, *] at q_; have q2_ : q = some _ := q_; subst q2_)
  have q_ := x1.cq (w.heap.size) 8
  generalize c_x1_0_8 : x1.val.cell? ⟨w.heap.size, 8, none⟩ = q at q_
  first | (have q2_ : q = some _ := q_; subst q2_) | (simp [go_sem] at q_; have q2_ : q = some _ := q_; subst q2_) | (simp [go_sem, *] at q_; have q2_ : q = some _ := q_; subst q2_)
  go_wp2
  go_ret
  exact ⟨rfl, belo⟩
 have g4 : decide (6 < dg) = false := decide_eq_false c4
 rw [decide_eq_true (show 0 ≤ at_ ∧ at_ < 64 ∧ 0 ≤ dg ∧ dg ≤ 6 by omega), Bool.true_and] at RV
 clear c1 c2 c3 c4
 cases q2 : Vd.rightD ⟨ln, ld⟩
 ·obtain rfl : false = rv := by rw [← RV.out, q2]; rfl
  rw [q2] at LW
  clear RV q2
  go_enter Try.func48, Try.ntmps48
  go_wp2_with fail
  with_reducible refine (NM.out _).mono ?_
  rintro e_x1 w_x1 ⟨rfl, hb_x1⟩
  obtain ⟨x1, rfl⟩ := later_is hb_x1
  clear hb_x1
  have hz_x1 := x1.bel.size
  try simp at hz_x1
  have l_x1_0 : w.heap.size < x1.val.heap.size := by omega
  have m_x1_0 : w.heap.size < x1.val.heap.size + 1 := by omega
  have q_ := x1.cq (w.heap.size) 0
  generalize c_x1_0_0 : x1.val.cell? ⟨w.heap.size, 0, none⟩ = q at q_
  first | (have q2_ : q = some _ := q_; subst q2_) | (simp [go_sem] at q_; have q2_ : q = some _ := q_; subst q2_) | (simp [go_sem, *] at q_; have q2_ : q = some _ := q_; subst q2_)
  have q_ := x1.cq (w.heap.size) 1
  generalize c_x1_0_1 : x1.val.cell? ⟨w.heap.size, 1, none⟩ = q at q_
  first | (have q2_ : q = some _ := q_; subst q2_) | (simp [go_sem] at q_; have q2_ : q = some _ := q_; subst q2_) | (simp [go_sem, *] at q_; have q2_ : q = some _ := q_; subst q2_)
  have q_ := x1.cq (w.heap.size) 2
  generalize c_x1_0_2 : x1.val.cell? ⟨w.heap.size, 2, none⟩ = q at q_
  first | (have q2_ : q = some _ := q_; subst q2_) | (simp [go_sem] at q_; have q2_ : q = some _ := q_; subst q2_) | (simp [go_sem, *] at q_; have q2_ : q = some _ := q_; subst q2_)
  have q_ := x1.cq (w.heap.size) 3
  generalize c_x1_0_3 : x1.val.cell? ⟨w.heap.size, 3, none⟩ = q at q_
  first | (have q2_ : q = some _ := q_; subst q2_) | (simp [go_sem] at q_; have q2_ : q = some _ := q_; subst q2_) | (simp [go_sem, *] at q_; have q2_ : q = some _ := q_; subst q2_)
  have q_ := x1.cq (w.heap.size) 4
  generalize c_x1_0_4 : x1.val.cell? ⟨w.heap.size, 4, none⟩ = q at q_
  first | (have q2_ : q = some _ := q_; subst q2_) | (simp [go_sem] at q_; have q2_ : q = some _ := q_; subst q2_) | (simp [go_sem, *] at q_; have q2_ : q = some _ := q_; subst q2_)
  have q_ := x1.cq (w.heap.size) 5
  generalize c_x1_0_5 : x1.val.cell? ⟨w.heap.size, 5, none⟩ = q at q_
  first | (have q2_ : q = some _ := q_; subst q2_) | (simp [go_sem] at q_; have q2_ : q = some _ := q_; subst q2_) | (simp [go_sem, *] at q_; have q2_ : q = some _ := q_; subst q2_)
  have q_ := x1.cq (w.heap.size) 6
  generalize c_x1_0_6 : x1.val.cell? ⟨w.heap.size, 6, none⟩ = q at q_
  first | (have q2_ : q = some _ := q_; subst q2_) | (simp [go_sem] at q_; have q2_ : q = some _ := q_; subst q2_) | (simp [go_sem, *] at q_; have q2_ : q = some _ := q_; subst q2_)
  have q_ := x1.cq (w.heap.size) 7
  generalize c_x1_0_7 : x1.val.cell? ⟨w.heap.size, 7, none⟩ = q at q_
  first | (have q2_ : q = some _ := q_; subst q2_) | (simp [go_sem] at q_; have q2_ : q = some _ := q_; subst q2_) | (simp [go_sem, *] at q_; have q2_ : q = some _ := q_; subst q2_)
  have q_ := x1.cq (w.heap.size) 8
  generalize c_x1_0_8 : x1.val.cell? ⟨w.heap.size, 8, none⟩ = q at q_
  first | (have q2_ : q = some _ := q_; subst q2_) | (simp [go_sem] at q_; have q2_ : q = some _ := q_; subst q2_) | (simp [go_sem, *] at q_; have q2_ : q = some _ := q_; subst q2_)
  go_wp2_with fail
  with_reducible refine (LW.out _).mono ?_
  rintro e_x2 w_x2 ⟨rfl, hb_x2⟩
  obtain ⟨x2, rfl⟩ := later_is hb_x2
  clear hb_x2
  have hz_x2 := x2.bel.size
  try simp at hz_x2
  replace c_x1_0_0 := x2.carry c_x1_0_0
  replace c_x1_0_1 := x2.carry c_x1_0_1
  replace c_x1_0_2 := x2.carry c_x1_0_2
  replace c_x1_0_3 := x2.carry c_x1_0_3
  replace c_x1_0_4 := x2.carry c_x1_0_4
  replace c_x1_0_5 := x2.carry c_x1_0_5
  replace c_x1_0_6 := x2.carry c_x1_0_6
  replace c_x1_0_7 := x2.carry c_x1_0_7
  replace c_x1_0_8 := x2.carry c_x1_0_8
  have lc_x2_0 : w.heap.size < x2.val.heap.size := by omega
  have mc_x2_0 : w.heap.size < x2.val.heap.size + 1 := by omega
  go_wp2
  go_ret
  exact ⟨rfl, belo⟩
 rw [q2] at LW RV
 rw [Bool.true_and] at RV
 cases q3 : Vd.rightD ⟨hn, hd⟩
 ·obtain rfl : false = rv := by rw [← RV.out, q3]; rfl
  rw [q3] at HI
  clear RV q2 q3
  go_enter Try.func48, Try.ntmps48
  go_wp2_with fail
  with_reducible refine (NM.out _).mono ?_
  rintro e_x1 w_x1 ⟨rfl, hb_x1⟩
  obtain ⟨x1, rfl⟩ := later_is hb_x1
  clear hb_x1
  have hz_x1 := x1.bel.size
  try simp at hz_x1
  have l_x1_0 : w.heap.size < x1.val.heap.size := by omega
  have m_x1_0 : w.heap.size < x1.val.heap.size + 1 := by omega
  have q_ := x1.cq (w.heap.size) 0
  generalize c_x1_0_0 : x1.val.cell? ⟨w.heap.size, 0, none⟩ = q at q_
  first | (have q2_ : q = some _ := q_; subst q2_) | (simp [go_sem] at q_; have q2_ : q = some _ := q_; subst q2_) | (simp [go_sem, *] at q_; have q2_ : q = some _ := q_; subst q2_)
  have q_ := x1.cq (w.heap.size) 1
  generalize c_x1_0_1 : x1.val.cell? ⟨w.heap.size, 1, none⟩ = q at q_
  first | (have q2_ : q = some _ := q_; subst q2_) | (simp [go_sem] at q_; have q2_ : q = some _ := q_; subst q2_) | (simp [go_sem, *] at q_; have q2_ : q = some _ := q_; subst q2_)
  have q_ := x1.cq (w.heap.size) 2
  generalize c_x1_0_2 : x1.val.cell? ⟨w.heap.size, 2, none⟩ = q at q_
  first | (have q2_ : q = some _ := q_; subst q2_) | (simp [go_sem] at q_; have q2_ : q = some _ := q_; subst q2_) | (simp [go_sem, *] at q_; have q2_ : q = some _ := q_; subst q2_)
  have q_ := x1.cq (w.heap.size) 3
  generalize c_x1_0_3 : x1.val.cell? ⟨w.heap.size, 3, none⟩ = q at q_
  first | (have q2_ : q = some _ := q_; subst q2_) | (simp [go_sem] at q_; have q2_ : q = some _ := q_; subst q2_) | (simp [go_sem, *] at q_; have q2_ : q = some _ := q_; subst q2_)
  have q_ := x1.cq (w.heap.size) 4
  generalize c_x1_0_4 : x1.val.cell? ⟨w.heap.size, 4, none⟩ = q at q_
  first | (have q2_ : q = some _ := q_; subst q2_) | (simp [go_sem] at q_; have q2_ : q = some _ := q_; subst q2_) | (simp [go_sem, *] at q_; have q2_ : q = some _ := q_; subst q2_)
  have q_ := x1.cq (w.heap.size) 5
  generalize c_x1_0_5 : x1.val.cell? ⟨w.heap.size, 5, none⟩ = q at q_
  first | (have q2_ : q = some _ := q_; subst q2_) | (simp [go_sem] at q_; have q2_ : q = some _ := q_; subst q2_) | (simp [go_sem, *] at q_; have q2_ : q = some _ := q_; subst q2_)
  have q_ := x1.cq (w.heap.size) 6
  generalize c_x1_0_6 : x1.val.cell? ⟨w.heap.size, 6, none⟩ = q at q_
  first | (have q2_ : q = some _ := q_; subst q2_) | (simp [go_sem] at q_; have q2_ : q = some _ := q_; subst q2_) | (simp [go_sem, *] at q_; have q2_ : q = some _ := q_; subst q2_)
  have q_ := x1.cq (w.heap.size) 7
  generalize c_x1_0_7 : x1.val.cell? ⟨w.heap.size, 7, none⟩ = q at q_
  first | (have q2_ : q = some _ := q_; subst q2_) | (simp [go_sem] at q_; have q2_ : q = some _ := q_; subst q2_) | (simp [go_sem, *] at q_; have q2_ : q = some _ := q_; subst q2_)
  have q_ := x1.cq (w.heap.size) 8
  generalize c_x1_0_8 : x1.val.cell? ⟨w.heap.size, 8, none⟩ = q at q_
  first | (have q2_ : q = some _ := q_; subst q2_) | (simp [go_sem] at q_; have q2_ : q = some _ := q_; subst q2_) | (simp [go_sem, *] at q_; have q2_ : q = some _ := q_; subst q2_)
  go_wp2_with fail
  with_reducible refine (LW.out _).mono ?_
  rintro e_x2 w_x2 ⟨rfl, hb_x2⟩
  obtain ⟨x2, rfl⟩ := later_is hb_x2
  clear hb_x2
  have hz_x2 := x2.bel.size
  try simp at hz_x2
  replace c_x1_0_0 := x2.carry c_x1_0_0
  replace c_x1_0_1 := x2.carry c_x1_0_1
  replace c_x1_0_2 := x2.carry c_x1_0_2
  replace c_x1_0_3 := x2.carry c_x1_0_3
  replace c_x1_0_4 := x2.carry c_x1_0_4
  replace c_x1_0_5 := x2.carry c_x1_0_5
  replace c_x1_0_6 := x2.carry c_x1_0_6
  replace c_x1_0_7 := x2.carry c_x1_0_7
  replace c_x1_0_8 := x2.carry c_x1_0_8
  have lc_x2_0 : w.heap.size < x2.val.heap.size := by omega
  have mc_x2_0 : w.heap.size < x2.val.heap.size + 1 := by omega
  go_wp2_with fail
  with_reducible refine (HI.out _).mono ?_
  rintro e_x3 w_x3 ⟨rfl, hb_x3⟩
  obtain ⟨x3, rfl⟩ := later_is hb_x3
  clear hb_x3
  have hz_x3 := x3.bel.size
  try simp at hz_x3
  replace c_x1_0_0 := x3.carry c_x1_0_0
  replace c_x1_0_1 := x3.carry c_x1_0_1
  replace c_x1_0_2 := x3.carry c_x1_0_2
  replace c_x1_0_3 := x3.carry c_x1_0_3
  replace c_x1_0_4 := x3.carry c_x1_0_4
  replace c_x1_0_5 := x3.carry c_x1_0_5
  replace c_x1_0_6 := x3.carry c_x1_0_6
  replace c_x1_0_7 := x3.carry c_x1_0_7
  replace c_x1_0_8 := x3.carry c_x1_0_8
  have lc_x3_0 : w.heap.size < x3.val.heap.size := by omega
  have mc_x3_0 : w.heap.size < x3.val.heap.size + 1 := by omega
  go_wp2
  go_ret
  exact ⟨rfl, belo⟩
 rw [q3] at HI RV
 rw [Bool.true_and] at RV
 have hc : Vd.cmp ⟨ln, ld⟩ ⟨hn, hd⟩ = if Vd.mil ⟨ln, ld⟩ < Vd.mil ⟨hn, hd⟩ then -1 else if Vd.mil ⟨hn, hd⟩ < Vd.mil ⟨ln, ld⟩ then 1 else 0 := by unfold Vd.cmp; rw [q2, q3]; rfl
 obtain ⟨cv, hcv⟩ : ∃ cv, Vd.cmp ⟨ln, ld⟩ ⟨hn, hd⟩ = cv := ⟨_, rfl⟩
 rw [hcv] at CP hc
 clear q2 q3 hcv
 by_cases c5 : 0 < cv
 ·have g5 : decide (0 < cv) = true := decide_eq_true c5
  obtain rfl : false = rv := by
   rw [← RV.out, decide_eq_false (show ¬ Vd.mil ⟨ln, ld⟩ ≤ Vd.mil ⟨hn, hd⟩ by
    intro h; rw [hc] at c5; split at c5
    ·omega
    ·split at c5 <;> omega)]
   rfl
  clear RV c5 hc
  go_enter Try.func48, Try.ntmps48
  go_wp2_with fail
  with_reducible refine (NM.out _).mono ?_
  rintro e_x1 w_x1 ⟨rfl, hb_x1⟩
  obtain ⟨x1, rfl⟩ := later_is hb_x1
  clear hb_x1
  have hz_x1 := x1.bel.size
  try simp at hz_x1
  have l_x1_0 : w.heap.size < x1.val.heap.size := by omega
  have m_x1_0 : w.heap.size < x1.val.heap.size + 1 := by omega
  have q_ := x1.cq (w.heap.size) 0
  generalize c_x1_0_0 : x1.val.cell? ⟨w.heap.size, 0, none⟩ = q at q_
  first | (have q2_ : q = some _ := q_; subst q2_) | (simp [go_sem] at q_; have q2_ : q = some _ := q_; subst q2_) | (simp [go_sem, *] at q_; have q2_ : q = some _ := q_; subst q2_)
  have q_ := x1.cq (w.heap.size) 1
  generalize c_x1_0_1 : x1.val.cell? ⟨w.heap.size, 1, none⟩ = q at q_
  first | (have q2_ : q = some _ := q_; subst q2_) | (simp [go_sem] at q_; have q2_ : q = some _ := q_; subst q2_) | (simp [go_sem, *] at q_; have q2_ : q = some _ := q_; subst q2_)
  have q_ := x1.cq (w.heap.size) 2
  generalize c_x1_0_2 : x1.val.cell? ⟨w.heap.size, 2, none⟩ = q at q_
  first | (have q2_ : q = some _ := q_; subst q2_) | (simp [go_sem] at q_; have q2_ : q = some _ := q_; subst q2_) | (simp [go_sem, *] at q_; have q2_ : q = some _ := q_; subst q2_)
  have q_ := x1.cq (w.heap.size) 3
  generalize c_x1_0_3 : x1.val.cell? ⟨w.heap.size, 3, none⟩ = q at q_
  first | (have q2_ : q = some _ := q_; subst q2_) | (simp [go_sem] at q_; have q2_ : q = some _ := q_; subst q2_) | (simp [go_sem, *] at q_; have q2_ : q = some _ := q_; subst q2_)
  have q_ := x1.cq (w.heap.size) 4
  generalize c_x1_0_4 : x1.val.cell? ⟨w.heap.size, 4, none⟩ = q at q_
  first | (have q2_ : q = some _ := q_; subst q2_) | (simp [go_sem] at q_; have q2_ : q = some _ := q_; subst q2_) | (simp [go_sem, *] at q_; have q2_ : q = some _ := q_; subst q2_)
  have q_ := x1.cq (w.heap.size) 5
  generalize c_x1_0_5 : x1.val.cell? ⟨w.heap.size, 5, none⟩ = q at q_
  first | (have q2_ : q = some _ := q_; subst q2_) | (simp [go_sem] at q_; have q2_ : q = some _ := q_; subst q2_) | (simp [go_sem, *] at q_; have q2_ : q = some _ := q_; subst q2_)
  have q_ := x1.cq (w.heap.size) 6
  generalize c_x1_0_6 : x1.val.cell? ⟨w.heap.size, 6, none⟩ = q at q_
  first | (have q2_ : q = some _ := q_; subst q2_) | (simp [go_sem] at q_; have q2_ : q = some _ := q_; subst q2_) | (simp [go_sem, *] at q_; have q2_ : q = some _ := q_; subst q2_)
  have q_ := x1.cq (w.heap.size) 7
  generalize c_x1_0_7 : x1.val.cell? ⟨w.heap.size, 7, none⟩ = q at q_
  first | (have q2_ : q = some _ := q_; subst q2_) | (simp [go_sem] at q_; have q2_ : q = some _ := q_; subst q2_) | (simp [go_sem, *] at q_; have q2_ : q = some _ := q_; subst q2_)
  have q_ := x1.cq (w.heap.size) 8
  generalize c_x1_0_8 : x1.val.cell? ⟨w.heap.size, 8, none⟩ = q at q_
  first | (have q2_ : q = some _ := q_; subst q2_) | (simp [go_sem] at q_; have q2_ : q = some _ := q_; subst q2_) | (simp [go_sem, *] at q_; have q2_ : q = some _ := q_; subst q2_)
  go_wp2_with fail
  with_reducible refine (LW.out _).mono ?_
  rintro e_x2 w_x2 ⟨rfl, hb_x2⟩
  obtain ⟨x2, rfl⟩ := later_is hb_x2
  clear hb_x2
  have hz_x2 := x2.bel.size
  try simp at hz_x2
  replace c_x1_0_0 := x2.carry c_x1_0_0
  replace c_x1_0_1 := x2.carry c_x1_0_1
  replace c_x1_0_2 := x2.carry c_x1_0_2
  replace c_x1_0_3 := x2.carry c_x1_0_3
  replace c_x1_0_4 := x2.carry c_x1_0_4
  replace c_x1_0_5 := x2.carry c_x1_0_5
  replace c_x1_0_6 := x2.carry c_x1_0_6
  replace c_x1_0_7 := x2.carry c_x1_0_7
  replace c_x1_0_8 := x2.carry c_x1_0_8
  have lc_x2_0 : w.heap.size < x2.val.heap.size := by omega
  have mc_x2_0 : w.heap.size < x2.val.heap.size + 1 := by omega
  go_wp2_with fail
  with_reducible refine (HI.out _).mono ?_
  rintro e_x3 w_x3 ⟨rfl, hb_x3⟩
  obtain ⟨x3, rfl⟩ := later_is hb_x3
  clear hb_x3
  have hz_x3 := x3.bel.size
  try simp at hz_x3
  replace c_x1_0_0 := x3.carry c_x1_0_0
  replace c_x1_0_1 := x3.carry c_x1_0_1
  replace c_x1_0_2 := x3.carry c_x1_0_2
  replace c_x1_0_3 := x3.carry c_x1_0_3
  replace c_x1_0_4 := x3.carry c_x1_0_4
  replace c_x1_0_5 := x3.carry c_x1_0_5
  replace c_x1_0_6 := x3.carry c_x1_0_6
  replace c_x1_0_7 := x3.carry c_x1_0_7
  replace c_x1_0_8 := x3.carry c_x1_0_8
  have lc_x3_0 : w.heap.size < x3.val.heap.size := by omega
  have mc_x3_0 : w.heap.size < x3.val.heap.size + 1 := by omega
  go_wp2_with fail
  with_reducible refine (CP.out _).mono ?_
  rintro e_x4 w_x4 ⟨rfl, hb_x4⟩
  obtain ⟨x4, rfl⟩ := later_is hb_x4
  clear hb_x4
  have hz_x4 := x4.bel.size
  try simp at hz_x4
  replace c_x1_0_0 := x4.carry c_x1_0_0
  replace c_x1_0_1 := x4.carry c_x1_0_1
  replace c_x1_0_2 := x4.carry c_x1_0_2
  replace c_x1_0_3 := x4.carry c_x1_0_3
  replace c_x1_0_4 := x4.carry c_x1_0_4
  replace c_x1_0_5 := x4.carry c_x1_0_5
  replace c_x1_0_6 := x4.carry c_x1_0_6
  replace c_x1_0_7 := x4.carry c_x1_0_7
  replace c_x1_0_8 := x4.carry c_x1_0_8
  have lc_x4_0 : w.heap.size < x4.val.heap.size := by omega
  have mc_x4_0 : w.heap.size < x4.val.heap.size + 1 := by omega
  go_wp2
  go_ret
  exact ⟨rfl, belo⟩
 have g5 : decide (0 < cv) = false := decide_eq_false c5
 rw [decide_eq_true (show Vd.mil ⟨ln, ld⟩ ≤ Vd.mil ⟨hn, hd⟩ by
    rw [hc] at c5; split at c5
    ·omega
    ·split at c5 <;> omega), Bool.true_and] at RV
 clear c5 hc
 unfold unV2 at KN
 rw [RV.out] at KN
 obtain ⟨⟨ub, u1, u2⟩, hu⟩ : ∃ u, (Vd.known un).getD un0 = u := ⟨_, rfl⟩
 rw [hu] at KN
 clear RV hu
 go_enter Try.func48, Try.ntmps48
 go_wp2_with fail
 with_reducible refine (NM.out _).mono ?_
 rintro e_x1 w_x1 ⟨rfl, hb_x1⟩
 obtain ⟨x1, rfl⟩ := later_is hb_x1
 clear hb_x1
 have hz_x1 := x1.bel.size
 try simp at hz_x1
 have l_x1_0 : w.heap.size < x1.val.heap.size := by omega
 have m_x1_0 : w.heap.size < x1.val.heap.size + 1 := by omega
 have q_ := x1.cq (w.heap.size) 0
 generalize c_x1_0_0 : x1.val.cell? ⟨w.heap.size, 0, none⟩ = q at q_
 first | (have q2_ : q = some _ := q_; subst q2_) | (simp [go_sem] at q_; have q2_ : q = some _ := q_; subst q2_) | (simp [go_sem, *] at q_; have q2_ : q = some _ := q_; subst q2_)
 have q_ := x1.cq (w.heap.size) 1
 generalize c_x1_0_1 : x1.val.cell? ⟨w.heap.size, 1, none⟩ = q at q_
 first | (have q2_ : q = some _ := q_; subst q2_) | (simp [go_sem] at q_; have q2_ : q = some _ := q_; subst q2_) | (simp [go_sem, *] at q_; have q2_ : q = some _ := q_; subst q2_)
 have q_ := x1.cq (w.heap.size) 2
 generalize c_x1_0_2 : x1.val.cell? ⟨w.heap.size, 2, none⟩ = q at q_
 first | (have q2_ : q = some _ := q_; subst q2_) | (simp [go_sem] at q_; have q2_ : q = some _ := q_; subst q2_) | (simp [go_sem, *] at q_; have q2_ : q = some _ := q_; subst q2_)
 have q_ := x1.cq (w.heap.size) 3
 generalize c_x1_0_3 : x1.val.cell? ⟨w.heap.size, 3, none⟩ = q at q_
 first | (have q2_ : q = some _ := q_; subst q2_) | (simp [go_sem] at q_; have q2_ : q = some _ := q_; subst q2_) | (simp [go_sem, *] at q_; have q2_ : q = some _ := q_; subst q2_)
 have q_ := x1.cq (w.heap.size) 4
 generalize c_x1_0_4 : x1.val.cell? ⟨w.heap.size, 4, none⟩ = q at q_
 first | (have q2_ : q = some _ := q_; subst q2_) | (simp [go_sem] at q_; have q2_ : q = some _ := q_; subst q2_) | (simp [go_sem, *] at q_; have q2_ : q = some _ := q_; subst q2_)
 have q_ := x1.cq (w.heap.size) 5
 generalize c_x1_0_5 : x1.val.cell? ⟨w.heap.size, 5, none⟩ = q at q_
 first | (have q2_ : q = some _ := q_; subst q2_) | (simp [go_sem] at q_; have q2_ : q = some _ := q_; subst q2_) | (simp [go_sem, *] at q_; have q2_ : q = some _ := q_; subst q2_)
 have q_ := x1.cq (w.heap.size) 6
 generalize c_x1_0_6 : x1.val.cell? ⟨w.heap.size, 6, none⟩ = q at q_
 first | (have q2_ : q = some _ := q_; subst q2_) | (simp [go_sem] at q_; have q2_ : q = some _ := q_; subst q2_) | (simp [go_sem, *] at q_; have q2_ : q = some _ := q_; subst q2_)
 have q_ := x1.cq (w.heap.size) 7
 generalize c_x1_0_7 : x1.val.cell? ⟨w.heap.size, 7, none⟩ = q at q_
 first | (have q2_ : q = some _ := q_; subst q2_) | (simp [go_sem] at q_; have q2_ : q = some _ := q_; subst q2_) | (simp [go_sem, *] at q_; have q2_ : q = some _ := q_; subst q2_)
 have q_ := x1.cq (w.heap.size) 8
 generalize c_x1_0_8 : x1.val.cell? ⟨w.heap.size, 8, none⟩ = q at q_
 first | (have q2_ : q = some _ := q_; subst q2_) | (simp [go_sem] at q_; have q2_ : q = some _ := q_; subst q2_) | (simp [go_sem, *] at q_; have q2_ : q = some _ := q_; subst q2_)
 go_wp2_with fail
 with_reducible refine (LW.out _).mono ?_
 rintro e_x2 w_x2 ⟨rfl, hb_x2⟩
 obtain ⟨x2, rfl⟩ := later_is hb_x2
 clear hb_x2
 have hz_x2 := x2.bel.size
 try simp at hz_x2
 replace c_x1_0_0 := x2.carry c_x1_0_0
 replace c_x1_0_1 := x2.carry c_x1_0_1
 replace c_x1_0_2 := x2.carry c_x1_0_2
 replace c_x1_0_3 := x2.carry c_x1_0_3
 replace c_x1_0_4 := x2.carry c_x1_0_4
 replace c_x1_0_5 := x2.carry c_x1_0_5
 replace c_x1_0_6 := x2.carry c_x1_0_6
 replace c_x1_0_7 := x2.carry c_x1_0_7
 replace c_x1_0_8 := x2.carry c_x1_0_8
 have lc_x2_0 : w.heap.size < x2.val.heap.size := by omega
 have mc_x2_0 : w.heap.size < x2.val.heap.size + 1 := by omega
 go_wp2_with fail
 with_reducible refine (HI.out _).mono ?_
 rintro e_x3 w_x3 ⟨rfl, hb_x3⟩
 obtain ⟨x3, rfl⟩ := later_is hb_x3
 clear hb_x3
 have hz_x3 := x3.bel.size
 try simp at hz_x3
 replace c_x1_0_0 := x3.carry c_x1_0_0
 replace c_x1_0_1 := x3.carry c_x1_0_1
 replace c_x1_0_2 := x3.carry c_x1_0_2
 replace c_x1_0_3 := x3.carry c_x1_0_3
 replace c_x1_0_4 := x3.carry c_x1_0_4
 replace c_x1_0_5 := x3.carry c_x1_0_5
 replace c_x1_0_6 := x3.carry c_x1_0_6
 replace c_x1_0_7 := x3.carry c_x1_0_7
 replace c_x1_0_8 := x3.carry c_x1_0_8
 have lc_x3_0 : w.heap.size < x3.val.heap.size := by omega
 have mc_x3_0 : w.heap.size < x3.val.heap.size + 1 := by omega
 go_wp2_with fail
 with_reducible refine (CP.out _).mono ?_
 rintro e_x4 w_x4 ⟨rfl, hb_x4⟩
 obtain ⟨x4, rfl⟩ := later_is hb_x4
 clear hb_x4
 have hz_x4 := x4.bel.size
 try simp at hz_x4
 replace c_x1_0_0 := x4.carry c_x1_0_0
 replace c_x1_0_1 := x4.carry c_x1_0_1
 replace c_x1_0_2 := x4.carry c_x1_0_2
 replace c_x1_0_3 := x4.carry c_x1_0_3
 replace c_x1_0_4 := x4.carry c_x1_0_4
 replace c_x1_0_5 := x4.carry c_x1_0_5
 replace c_x1_0_6 := x4.carry c_x1_0_6
 replace c_x1_0_7 := x4.carry c_x1_0_7
 replace c_x1_0_8 := x4.carry c_x1_0_8
 have lc_x4_0 : w.heap.size < x4.val.heap.size := by omega
 have mc_x4_0 : w.heap.size < x4.val.heap.size + 1 := by omega
 go_wp2_with fail
 with_reducible refine (KN.out _).mono ?_
 rintro e_x5 w_x5 ⟨rfl, hb_x5⟩
 obtain ⟨x5, rfl⟩ := later_is hb_x5
 clear hb_x5
 have hz_x5 := x5.bel.size
 try simp at hz_x5
 replace c_x1_0_0 := x5.carry c_x1_0_0
 replace c_x1_0_1 := x5.carry c_x1_0_1
 replace c_x1_0_2 := x5.carry c_x1_0_2
 replace c_x1_0_3 := x5.carry c_x1_0_3
 replace c_x1_0_4 := x5.carry c_x1_0_4
 replace c_x1_0_5 := x5.carry c_x1_0_5
 replace c_x1_0_6 := x5.carry c_x1_0_6
 replace c_x1_0_7 := x5.carry c_x1_0_7
 replace c_x1_0_8 := x5.carry c_x1_0_8
 have lc_x5_0 : w.heap.size < x5.val.heap.size := by omega
 have mc_x5_0 : w.heap.size < x5.val.heap.size + 1 := by omega
 go_wp2
 go_ret
 exact ⟨rfl, belo⟩
end Go.Proofs.Ythhokpaidekmnaa
