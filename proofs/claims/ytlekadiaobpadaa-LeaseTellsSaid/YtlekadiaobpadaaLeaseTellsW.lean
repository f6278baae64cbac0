/- LeaseTells: the walk. -/
import Derived.Test.YtlekadiaobpadaaLeaseAt
import Derived.Test.YtlekadiaobpadaaLeaseRDo
namespace Go.Proofs.Ytlekadiaobpadaa
open Go.RowKit
set_option linter.unusedVariables false
attribute [local go_sem] Later.cell Later.frozen setCell_twice lease_fld0 lease_fld1

set_option maxRecDepth 100000 in
set_option maxHeartbeats 4000000 in
theorem leaseTells_walk (x : Ls.L) (ow : Nat) (t : Int) (w : World) (hf : Ls.fit x) (how : ow < 65536) (h2 : -9223372036854775808 ≤ t) (h3 : t ≤ 9223372036854775807) :
    Calls Try.prog 3 #[.agg #[.int .u16 (x.o : Int), .int .i64 x.l], .int .u16 (ow : Int), .int .i64 t] w fun e w' => e = .returned (.bool true) ∧ Below w.heap.size w w' := by
  have k1 := Lib.hid (fun w => take_any x ow t w hf how h2 h3)
  have k2 := Lib.hid (fun w => ref_take_any x ow t w hf how h2 h3)
  have k3 := Lib.hid (fun w => hold_any x ow w hf how)
  have k4 := Lib.hid (fun w => ref_hold_any x ow w hf how)
  have k5 := Lib.hid (fun w => leave_any x ow w hf how)
  have k6 := Lib.hid (fun w => ref_leave_any x ow w hf how)
  have k7 := Lib.hid (fun w => tick_any x w hf)
  have k8 := Lib.hid (fun w => ref_tick_any x w hf)
  have k9 := Lib.hid (fun w => boot_any x w hf)
  have k10 := Lib.hid (fun w => ref_boot_any x w hf)
  have k11 := Lib.hid (fun w => right_any x w hf)
  have k12 := Lib.hid (fun w => ref_right_any x w hf)
  have k13 := Lib.hid (fun w => free_any x w hf)
  have k14 := Lib.hid (fun w => ref_free_any x w hf)
  generalize Ls.take x ow t = r1 at k1 k2
  generalize Ls.hold x ow = r2 at k3 k4
  generalize Ls.leave x ow = r3 at k5 k6
  generalize Ls.tick x = r4 at k7 k8
  generalize Ls.boot x = r5 at k9 k10
  generalize Ls.right x = r6 at k11 k12
  generalize Ls.free x = r7 at k13 k14
  obtain ⟨⟨a1, b1⟩, e1⟩ := r1
  obtain ⟨⟨a2, b2⟩, e2⟩ := r2
  obtain ⟨⟨a3, b3⟩, e3⟩ := r3
  obtain ⟨⟨a4, b4⟩, e4⟩ := r4
  obtain ⟨a5, b5⟩ := r5
  obtain ⟨o, l⟩ := x
  simp only at k1 k2 k3 k4 k5 k6 k7 k8 k9 k10 k11 k12 k13 k14
  go_enter Try.func3, Try.ntmps3
  go_wp2_with fail
  refine (k1.out _).mono ?_
  rintro e_x1 w_x1 ⟨rfl, hb_x1⟩
  obtain ⟨x1, rfl⟩ := later_is hb_x1
  clear hb_x1
  have hz_x1 := x1.bel.size
  try simp at hz_x1
  have l_x1_0 : w.heap.size < x1.val.heap.size := by omega
  have m_x1_0 : w.heap.size < x1.val.heap.size + 1 := by omega
  have q_ := x1.bel.cell (p := ⟨w.heap.size, 0, none⟩) (by first | omega | (simp; done) | (simp; omega))
  generalize c_x1_0_0 : x1.val.cell? ⟨w.heap.size, 0, none⟩ = q at q_
  first | (have q2_ : q = some _ := q_; subst q2_) | (simp [go_sem] at q_; have q2_ : q = some _ := q_; subst q2_) | (simp [go_sem, *] at q_; have q2_ : q = some _ := q_; subst q2_)
  have q_ := x1.bel.cell (p := ⟨w.heap.size, 1, none⟩) (by first | omega | (simp; done) | (simp; omega))
  generalize c_x1_0_1 : x1.val.cell? ⟨w.heap.size, 1, none⟩ = q at q_
  first | (have q2_ : q = some _ := q_; subst q2_) | (simp [go_sem] at q_; have q2_ : q = some _ := q_; subst q2_) | (simp [go_sem, *] at q_; have q2_ : q = some _ := q_; subst q2_)
  go_wp2_with fail
  refine (k2.out _).mono ?_
  rintro e_x2 w_x2 ⟨rfl, hb_x2⟩
  obtain ⟨x2, rfl⟩ := later_is hb_x2
  clear hb_x2
  have hz_x2 := x2.bel.size
  try simp at hz_x2
  replace c_x1_0_0 := x2.keep (by repeat (first | exact c_x1_0_0 | apply keep_alloc | (apply keep_set; rotate_left; first | (simp; done) | (simp; omega))))
  replace c_x1_0_1 := x2.keep (by repeat (first | exact c_x1_0_1 | apply keep_alloc | (apply keep_set; rotate_left; first | (simp; done) | (simp; omega))))
  have lc_x2_0 : w.heap.size < x2.val.heap.size := by omega
  have mc_x2_0 : w.heap.size < x2.val.heap.size + 1 := by omega
  have l_x2_0 : x1.val.heap.size < x2.val.heap.size := by omega
  have m_x2_0 : x1.val.heap.size < x2.val.heap.size + 1 := by omega
  have q_ := x2.bel.cell (p := ⟨x1.val.heap.size, 0, none⟩) (by first | omega | (simp; done) | (simp; omega))
  generalize c_x2_0_0 : x2.val.cell? ⟨x1.val.heap.size, 0, none⟩ = q at q_
  first | (have q2_ : q = some _ := q_; subst q2_) | (simp [go_sem] at q_; have q2_ : q = some _ := q_; subst q2_) | (simp [go_sem, *] at q_; have q2_ : q = some _ := q_; subst q2_)
  have q_ := x2.bel.cell (p := ⟨x1.val.heap.size, 1, none⟩) (by first | omega | (simp; done) | (simp; omega))
  generalize c_x2_0_1 : x2.val.cell? ⟨x1.val.heap.size, 1, none⟩ = q at q_
  first | (have q2_ : q = some _ := q_; subst q2_) | (simp [go_sem] at q_; have q2_ : q = some _ := q_; subst q2_) | (simp [go_sem, *] at q_; have q2_ : q = some _ := q_; subst q2_)
  go_wp2_with fail
  refine (k3.out _).mono ?_
  rintro e_x3 w_x3 ⟨rfl, hb_x3⟩
  obtain ⟨x3, rfl⟩ := later_is hb_x3
  clear hb_x3
  have hz_x3 := x3.bel.size
  try simp at hz_x3
  replace c_x1_0_0 := x3.keep (by repeat (first | exact c_x1_0_0 | apply keep_alloc | (apply keep_set; rotate_left; first | (simp; done) | (simp; omega))))
  replace c_x1_0_1 := x3.keep (by repeat (first | exact c_x1_0_1 | apply keep_alloc | (apply keep_set; rotate_left; first | (simp; done) | (simp; omega))))
  replace c_x2_0_0 := x3.keep (by repeat (first | exact c_x2_0_0 | apply keep_alloc | (apply keep_set; rotate_left; first | (simp; done) | (simp; omega))))
  replace c_x2_0_1 := x3.keep (by repeat (first | exact c_x2_0_1 | apply keep_alloc | (apply keep_set; rotate_left; first | (simp; done) | (simp; omega))))
  have lc_x3_0 : w.heap.size < x3.val.heap.size := by omega
  have mc_x3_0 : w.heap.size < x3.val.heap.size + 1 := by omega
  have lc_x3_1 : x1.val.heap.size < x3.val.heap.size := by omega
  have mc_x3_1 : x1.val.heap.size < x3.val.heap.size + 1 := by omega
  have l_x3_0 : x2.val.heap.size < x3.val.heap.size := by omega
  have m_x3_0 : x2.val.heap.size < x3.val.heap.size + 1 := by omega
  have q_ := x3.bel.cell (p := ⟨x2.val.heap.size, 0, none⟩) (by first | omega | (simp; done) | (simp; omega))
  generalize c_x3_0_0 : x3.val.cell? ⟨x2.val.heap.size, 0, none⟩ = q at q_
  first | (have q2_ : q = some _ := q_; subst q2_) | (simp [go_sem] at q_; have q2_ : q = some _ := q_; subst q2_) | (simp [go_sem, *] at q_; have q2_ : q = some _ := q_; subst q2_)
  have q_ := x3.bel.cell (p := ⟨x2.val.heap.size, 1, none⟩) (by first | omega | (simp; done) | (simp; omega))
  generalize c_x3_0_1 : x3.val.cell? ⟨x2.val.heap.size, 1, none⟩ = q at q_
  first | (have q2_ : q = some _ := q_; subst q2_) | (simp [go_sem] at q_; have q2_ : q = some _ := q_; subst q2_) | (simp [go_sem, *] at q_; have q2_ : q = some _ := q_; subst q2_)
  go_wp2_with fail
  refine (k4.out _).mono ?_
  rintro e_x4 w_x4 ⟨rfl, hb_x4⟩
  obtain ⟨x4, rfl⟩ := later_is hb_x4
  clear hb_x4
  have hz_x4 := x4.bel.size
  try simp at hz_x4
  replace c_x1_0_0 := x4.keep (by repeat (first | exact c_x1_0_0 | apply keep_alloc | (apply keep_set; rotate_left; first | (simp; done) | (simp; omega))))
  replace c_x1_0_1 := x4.keep (by repeat (first | exact c_x1_0_1 | apply keep_alloc | (apply keep_set; rotate_left; first | (simp; done) | (simp; omega))))
  replace c_x2_0_0 := x4.keep (by repeat (first | exact c_x2_0_0 | apply keep_alloc | (apply keep_set; rotate_left; first | (simp; done) | (simp; omega))))
  replace c_x2_0_1 := x4.keep (by repeat (first | exact c_x2_0_1 | apply keep_alloc | (apply keep_set; rotate_left; first | (simp; done) | (simp; omega))))
  replace c_x3_0_0 := x4.keep (by repeat (first | exact c_x3_0_0 | apply keep_alloc | (apply keep_set; rotate_left; first | (simp; done) | (simp; omega))))
  replace c_x3_0_1 := x4.keep (by repeat (first | exact c_x3_0_1 | apply keep_alloc | (apply keep_set; rotate_left; first | (simp; done) | (simp; omega))))
  have lc_x4_0 : w.heap.size < x4.val.heap.size := by omega
  have mc_x4_0 : w.heap.size < x4.val.heap.size + 1 := by omega
  have lc_x4_1 : x1.val.heap.size < x4.val.heap.size := by omega
  have mc_x4_1 : x1.val.heap.size < x4.val.heap.size + 1 := by omega
  have lc_x4_2 : x2.val.heap.size < x4.val.heap.size := by omega
  have mc_x4_2 : x2.val.heap.size < x4.val.heap.size + 1 := by omega
  have l_x4_0 : x3.val.heap.size < x4.val.heap.size := by omega
  have m_x4_0 : x3.val.heap.size < x4.val.heap.size + 1 := by omega
  have q_ := x4.bel.cell (p := ⟨x3.val.heap.size, 0, none⟩) (by first | omega | (simp; done) | (simp; omega))
  generalize c_x4_0_0 : x4.val.cell? ⟨x3.val.heap.size, 0, none⟩ = q at q_
  first | (have q2_ : q = some _ := q_; subst q2_) | (simp [go_sem] at q_; have q2_ : q = some _ := q_; subst q2_) | (simp [go_sem, *] at q_; have q2_ : q = some _ := q_; subst q2_)
  have q_ := x4.bel.cell (p := ⟨x3.val.heap.size, 1, none⟩) (by first | omega | (simp; done) | (simp; omega))
  generalize c_x4_0_1 : x4.val.cell? ⟨x3.val.heap.size, 1, none⟩ = q at q_
  first | (have q2_ : q = some _ := q_; subst q2_) | (simp [go_sem] at q_; have q2_ : q = some _ := q_; subst q2_) | (simp [go_sem, *] at q_; have q2_ : q = some _ := q_; subst q2_)
  go_wp2_with fail
  refine (k5.out _).mono ?_
  rintro e_x5 w_x5 ⟨rfl, hb_x5⟩
  obtain ⟨x5, rfl⟩ := later_is hb_x5
  clear hb_x5
  have hz_x5 := x5.bel.size
  try simp at hz_x5
  replace c_x1_0_0 := x5.keep (by repeat (first | exact c_x1_0_0 | apply keep_alloc | (apply keep_set; rotate_left; first | (simp; done) | (simp; omega))))
  replace c_x1_0_1 := x5.keep (by repeat (first | exact c_x1_0_1 | apply keep_alloc | (apply keep_set; rotate_left; first | (simp; done) | (simp; omega))))
  replace c_x2_0_0 := x5.keep (by repeat (first | exact c_x2_0_0 | apply keep_alloc | (apply keep_set; rotate_left; first | (simp; done) | (simp; omega))))
  replace c_x2_0_1 := x5.keep (by repeat (first | exact c_x2_0_1 | apply keep_alloc | (apply keep_set; rotate_left; first | (simp; done) | (simp; omega))))
  replace c_x3_0_0 := x5.keep (by repeat (first | exact c_x3_0_0 | apply keep_alloc | (apply keep_set; rotate_left; first | (simp; done) | (simp; omega))))
  replace c_x3_0_1 := x5.keep (by repeat (first | exact c_x3_0_1 | apply keep_alloc | (apply keep_set; rotate_left; first | (simp; done) | (simp; omega))))
  replace c_x4_0_0 := x5.keep (by repeat (first | exact c_x4_0_0 | apply keep_alloc | (apply keep_set; rotate_left; first | (simp; done) | (simp; omega))))
  replace c_x4_0_1 := x5.keep (by repeat (first | exact c_x4_0_1 | apply keep_alloc | (apply keep_set; rotate_left; first | (simp; done) | (simp; omega))))
  have lc_x5_0 : w.heap.size < x5.val.heap.size := by omega
  have mc_x5_0 : w.heap.size < x5.val.heap.size + 1 := by omega
  have lc_x5_1 : x1.val.heap.size < x5.val.heap.size := by omega
  have mc_x5_1 : x1.val.heap.size < x5.val.heap.size + 1 := by omega
  have lc_x5_2 : x2.val.heap.size < x5.val.heap.size := by omega
  have mc_x5_2 : x2.val.heap.size < x5.val.heap.size + 1 := by omega
  have lc_x5_3 : x3.val.heap.size < x5.val.heap.size := by omega
  have mc_x5_3 : x3.val.heap.size < x5.val.heap.size + 1 := by omega
  have l_x5_0 : x4.val.heap.size < x5.val.heap.size := by omega
  have m_x5_0 : x4.val.heap.size < x5.val.heap.size + 1 := by omega
  have q_ := x5.bel.cell (p := ⟨x4.val.heap.size, 0, none⟩) (by first | omega | (simp; done) | (simp; omega))
  generalize c_x5_0_0 : x5.val.cell? ⟨x4.val.heap.size, 0, none⟩ = q at q_
  first | (have q2_ : q = some _ := q_; subst q2_) | (simp [go_sem] at q_; have q2_ : q = some _ := q_; subst q2_) | (simp [go_sem, *] at q_; have q2_ : q = some _ := q_; subst q2_)
  have q_ := x5.bel.cell (p := ⟨x4.val.heap.size, 1, none⟩) (by first | omega | (simp; done) | (simp; omega))
  generalize c_x5_0_1 : x5.val.cell? ⟨x4.val.heap.size, 1, none⟩ = q at q_
  first | (have q2_ : q = some _ := q_; subst q2_) | (simp [go_sem] at q_; have q2_ : q = some _ := q_; subst q2_) | (simp [go_sem, *] at q_; have q2_ : q = some _ := q_; subst q2_)
  go_wp2_with fail
  refine (k6.out _).mono ?_
  rintro e_x6 w_x6 ⟨rfl, hb_x6⟩
  obtain ⟨x6, rfl⟩ := later_is hb_x6
  clear hb_x6
  have hz_x6 := x6.bel.size
  try simp at hz_x6
  replace c_x1_0_0 := x6.keep (by repeat (first | exact c_x1_0_0 | apply keep_alloc | (apply keep_set; rotate_left; first | (simp; done) | (simp; omega))))
  replace c_x1_0_1 := x6.keep (by repeat (first | exact c_x1_0_1 | apply keep_alloc | (apply keep_set; rotate_left; first | (simp; done) | (simp; omega))))
  replace c_x2_0_0 := x6.keep (by repeat (first | exact c_x2_0_0 | apply keep_alloc | (apply keep_set; rotate_left; first | (simp; done) | (simp; omega))))
  replace c_x2_0_1 := x6.keep (by repeat (first | exact c_x2_0_1 | apply keep_alloc | (apply keep_set; rotate_left; first | (simp; done) | (simp; omega))))
  replace c_x3_0_0 := x6.keep (by repeat (first | exact c_x3_0_0 | apply keep_alloc | (apply keep_set; rotate_left; first | (simp; done) | (simp; omega))))
  replace c_x3_0_1 := x6.keep (by repeat (first | exact c_x3_0_1 | apply keep_alloc | (apply keep_set; rotate_left; first | (simp; done) | (simp; omega))))
  replace c_x4_0_0 := x6.keep (by repeat (first | exact c_x4_0_0 | apply keep_alloc | (apply keep_set; rotate_left; first | (simp; done) | (simp; omega))))
  replace c_x4_0_1 := x6.keep (by repeat (first | exact c_x4_0_1 | apply keep_alloc | (apply keep_set; rotate_left; first | (simp; done) | (simp; omega))))
  replace c_x5_0_0 := x6.keep (by repeat (first | exact c_x5_0_0 | apply keep_alloc | (apply keep_set; rotate_left; first | (simp; done) | (simp; omega))))
  replace c_x5_0_1 := x6.keep (by repeat (first | exact c_x5_0_1 | apply keep_alloc | (apply keep_set; rotate_left; first | (simp; done) | (simp; omega))))
  have lc_x6_0 : w.heap.size < x6.val.heap.size := by omega
  have mc_x6_0 : w.heap.size < x6.val.heap.size + 1 := by omega
  have lc_x6_1 : x1.val.heap.size < x6.val.heap.size := by omega
  have mc_x6_1 : x1.val.heap.size < x6.val.heap.size + 1 := by omega
  have lc_x6_2 : x2.val.heap.size < x6.val.heap.size := by omega
  have mc_x6_2 : x2.val.heap.size < x6.val.heap.size + 1 := by omega
  have lc_x6_3 : x3.val.heap.size < x6.val.heap.size := by omega
  have mc_x6_3 : x3.val.heap.size < x6.val.heap.size + 1 := by omega
  have lc_x6_4 : x4.val.heap.size < x6.val.heap.size := by omega
  have mc_x6_4 : x4.val.heap.size < x6.val.heap.size + 1 := by omega
  have l_x6_0 : x5.val.heap.size < x6.val.heap.size := by omega
  have m_x6_0 : x5.val.heap.size < x6.val.heap.size + 1 := by omega
  have q_ := x6.bel.cell (p := ⟨x5.val.heap.size, 0, none⟩) (by first | omega | (simp; done) | (simp; omega))
  generalize c_x6_0_0 : x6.val.cell? ⟨x5.val.heap.size, 0, none⟩ = q at q_
  first | (have q2_ : q = some _ := q_; subst q2_) | (simp [go_sem] at q_; have q2_ : q = some _ := q_; subst q2_) | (simp [go_sem, *] at q_; have q2_ : q = some _ := q_; subst q2_)
  have q_ := x6.bel.cell (p := ⟨x5.val.heap.size, 1, none⟩) (by first | omega | (simp; done) | (simp; omega))
  generalize c_x6_0_1 : x6.val.cell? ⟨x5.val.heap.size, 1, none⟩ = q at q_
  first | (have q2_ : q = some _ := q_; subst q2_) | (simp [go_sem] at q_; have q2_ : q = some _ := q_; subst q2_) | (simp [go_sem, *] at q_; have q2_ : q = some _ := q_; subst q2_)
  go_wp2_with fail
  refine (k7.out _).mono ?_
  rintro e_x7 w_x7 ⟨rfl, hb_x7⟩
  obtain ⟨x7, rfl⟩ := later_is hb_x7
  clear hb_x7
  have hz_x7 := x7.bel.size
  try simp at hz_x7
  replace c_x1_0_0 := x7.keep (by repeat (first | exact c_x1_0_0 | apply keep_alloc | (apply keep_set; rotate_left; first | (simp; done) | (simp; omega))))
  replace c_x1_0_1 := x7.keep (by repeat (first | exact c_x1_0_1 | apply keep_alloc | (apply keep_set; rotate_left; first | (simp; done) | (simp; omega))))
  replace c_x2_0_0 := x7.keep (by repeat (first | exact c_x2_0_0 | apply keep_alloc | (apply keep_set; rotate_left; first | (simp; done) | (simp; omega))))
  replace c_x2_0_1 := x7.keep (by repeat (first | exact c_x2_0_1 | apply keep_alloc | (apply keep_set; rotate_left; first | (simp; done) | (simp; omega))))
  replace c_x3_0_0 := x7.keep (by repeat (first | exact c_x3_0_0 | apply keep_alloc | (apply keep_set; rotate_left; first | (simp; done) | (simp; omega))))
  replace c_x3_0_1 := x7.keep (by repeat (first | exact c_x3_0_1 | apply keep_alloc | (apply keep_set; rotate_left; first | (simp; done) | (simp; omega))))
  replace c_x4_0_0 := x7.keep (by repeat (first | exact c_x4_0_0 | apply keep_alloc | (apply keep_set; rotate_left; first | (simp; done) | (simp; omega))))
  replace c_x4_0_1 := x7.keep (by repeat (first | exact c_x4_0_1 | apply keep_alloc | (apply keep_set; rotate_left; first | (simp; done) | (simp; omega))))
  replace c_x5_0_0 := x7.keep (by repeat (first | exact c_x5_0_0 | apply keep_alloc | (apply keep_set; rotate_left; first | (simp; done) | (simp; omega))))
  replace c_x5_0_1 := x7.keep (by repeat (first | exact c_x5_0_1 | apply keep_alloc | (apply keep_set; rotate_left; first | (simp; done) | (simp; omega))))
  replace c_x6_0_0 := x7.keep (by repeat (first | exact c_x6_0_0 | apply keep_alloc | (apply keep_set; rotate_left; first | (simp; done) | (simp; omega))))
  replace c_x6_0_1 := x7.keep (by repeat (first | exact c_x6_0_1 | apply keep_alloc | (apply keep_set; rotate_left; first | (simp; done) | (simp; omega))))
  have lc_x7_0 : w.heap.size < x7.val.heap.size := by omega
  have mc_x7_0 : w.heap.size < x7.val.heap.size + 1 := by omega
  have lc_x7_1 : x1.val.heap.size < x7.val.heap.size := by omega
  have mc_x7_1 : x1.val.heap.size < x7.val.heap.size + 1 := by omega
  have lc_x7_2 : x2.val.heap.size < x7.val.heap.size := by omega
  have mc_x7_2 : x2.val.heap.size < x7.val.heap.size + 1 := by omega
  have lc_x7_3 : x3.val.heap.size < x7.val.heap.size := by omega
  have mc_x7_3 : x3.val.heap.size < x7.val.heap.size + 1 := by omega
  have lc_x7_4 : x4.val.heap.size < x7.val.heap.size := by omega
  have mc_x7_4 : x4.val.heap.size < x7.val.heap.size + 1 := by omega
  have lc_x7_5 : x5.val.heap.size < x7.val.heap.size := by omega
  have mc_x7_5 : x5.val.heap.size < x7.val.heap.size + 1 := by omega
  have l_x7_0 : x6.val.heap.size < x7.val.heap.size := by omega
  have m_x7_0 : x6.val.heap.size < x7.val.heap.size + 1 := by omega
  have q_ := x7.bel.cell (p := ⟨x6.val.heap.size, 0, none⟩) (by first | omega | (simp; done) | (simp; omega))
  generalize c_x7_0_0 : x7.val.cell? ⟨x6.val.heap.size, 0, none⟩ = q at q_
  first | (have q2_ : q = some _ := q_; subst q2_) | (simp [go_sem] at q_; have q2_ : q = some _ := q_; subst q2_) | (simp [go_sem, *] at q_; have q2_ : q = some _ := q_; subst q2_)
  have q_ := x7.bel.cell (p := ⟨x6.val.heap.size, 1, none⟩) (by first | omega | (simp; done) | (simp; omega))
  generalize c_x7_0_1 : x7.val.cell? ⟨x6.val.heap.size, 1, none⟩ = q at q_
  first | (have q2_ : q = some _ := q_; subst q2_) | (simp [go_sem] at q_; have q2_ : q = some _ := q_; subst q2_) | (simp [go_sem, *] at q_; have q2_ : q = some _ := q_; subst q2_)
  go_wp2_with fail
  refine (k8.out _).mono ?_
  rintro e_x8 w_x8 ⟨rfl, hb_x8⟩
  obtain ⟨x8, rfl⟩ := later_is hb_x8
  clear hb_x8
  have hz_x8 := x8.bel.size
  try simp at hz_x8
  replace c_x1_0_0 := x8.keep (by repeat (first | exact c_x1_0_0 | apply keep_alloc | (apply keep_set; rotate_left; first | (simp; done) | (simp; omega))))
  replace c_x1_0_1 := x8.keep (by repeat (first | exact c_x1_0_1 | apply keep_alloc | (apply keep_set; rotate_left; first | (simp; done) | (simp; omega))))
  replace c_x2_0_0 := x8.keep (by repeat (first | exact c_x2_0_0 | apply keep_alloc | (apply keep_set; rotate_left; first | (simp; done) | (simp; omega))))
  replace c_x2_0_1 := x8.keep (by repeat (first | exact c_x2_0_1 | apply keep_alloc | (apply keep_set; rotate_left; first | (simp; done) | (simp; omega))))
  replace c_x3_0_0 := x8.keep (by repeat (first | exact c_x3_0_0 | apply keep_alloc | (apply keep_set; rotate_left; first | (simp; done) | (simp; omega))))
  replace c_x3_0_1 := x8.keep (by repeat (first | exact c_x3_0_1 | apply keep_alloc | (apply keep_set; rotate_left; first | (simp; done) | (simp; omega))))
  replace c_x4_0_0 := x8.keep (by repeat (first | exact c_x4_0_0 | apply keep_alloc | (apply keep_set; rotate_left; first | (simp; done) | (simp; omega))))
  replace c_x4_0_1 := x8.keep (by repeat (first | exact c_x4_0_1 | apply keep_alloc | (apply keep_set; rotate_left; first | (simp; done) | (simp; omega))))
  replace c_x5_0_0 := x8.keep (by repeat (first | exact c_x5_0_0 | apply keep_alloc | (apply keep_set; rotate_left; first | (simp; done) | (simp; omega))))
  replace c_x5_0_1 := x8.keep (by repeat (first | exact c_x5_0_1 | apply keep_alloc | (apply keep_set; rotate_left; first | (simp; done) | (simp; omega))))
  replace c_x6_0_0 := x8.keep (by repeat (first | exact c_x6_0_0 | apply keep_alloc | (apply keep_set; rotate_left; first | (simp; done) | (simp; omega))))
  replace c_x6_0_1 := x8.keep (by repeat (first | exact c_x6_0_1 | apply keep_alloc | (apply keep_set; rotate_left; first | (simp; done) | (simp; omega))))
  replace c_x7_0_0 := x8.keep (by repeat (first | exact c_x7_0_0 | apply keep_alloc | (apply keep_set; rotate_left; first | (simp; done) | (simp; omega))))
  replace c_x7_0_1 := x8.keep (by repeat (first | exact c_x7_0_1 | apply keep_alloc | (apply keep_set; rotate_left; first | (simp; done) | (simp; omega))))
  have lc_x8_0 : w.heap.size < x8.val.heap.size := by omega
  have mc_x8_0 : w.heap.size < x8.val.heap.size + 1 := by omega
  have lc_x8_1 : x1.val.heap.size < x8.val.heap.size := by omega
  have mc_x8_1 : x1.val.heap.size < x8.val.heap.size + 1 := by omega
  have lc_x8_2 : x2.val.heap.size < x8.val.heap.size := by omega
  have mc_x8_2 : x2.val.heap.size < x8.val.heap.size + 1 := by omega
  have lc_x8_3 : x3.val.heap.size < x8.val.heap.size := by omega
  have mc_x8_3 : x3.val.heap.size < x8.val.heap.size + 1 := by omega
  have lc_x8_4 : x4.val.heap.size < x8.val.heap.size := by omega
  have mc_x8_4 : x4.val.heap.size < x8.val.heap.size + 1 := by omega
  have lc_x8_5 : x5.val.heap.size < x8.val.heap.size := by omega
  have mc_x8_5 : x5.val.heap.size < x8.val.heap.size + 1 := by omega
  have lc_x8_6 : x6.val.heap.size < x8.val.heap.size := by omega
  have mc_x8_6 : x6.val.heap.size < x8.val.heap.size + 1 := by omega
  have l_x8_0 : x7.val.heap.size < x8.val.heap.size := by omega
  have m_x8_0 : x7.val.heap.size < x8.val.heap.size + 1 := by omega
  have q_ := x8.bel.cell (p := ⟨x7.val.heap.size, 0, none⟩) (by first | omega | (simp; done) | (simp; omega))
  generalize c_x8_0_0 : x8.val.cell? ⟨x7.val.heap.size, 0, none⟩ = q at q_
  first | (have q2_ : q = some _ := q_; subst q2_) | (simp [go_sem] at q_; have q2_ : q = some _ := q_; subst q2_) | (simp [go_sem, *] at q_; have q2_ : q = some _ := q_; subst q2_)
  have q_ := x8.bel.cell (p := ⟨x7.val.heap.size, 1, none⟩) (by first | omega | (simp; done) | (simp; omega))
  generalize c_x8_0_1 : x8.val.cell? ⟨x7.val.heap.size, 1, none⟩ = q at q_
  first | (have q2_ : q = some _ := q_; subst q2_) | (simp [go_sem] at q_; have q2_ : q = some _ := q_; subst q2_) | (simp [go_sem, *] at q_; have q2_ : q = some _ := q_; subst q2_)
  go_wp2_with fail
  refine wp_region_lat (by kernel_rfl) (by kernel_rfl) ?_
  repeat (go_big_quiet_step (fail))
  go_big_quiet_step (exact later_new (k11.out _))
  repeat (go_big_quiet_step (fail))
  go_big_quiet_step (exact later_new (k12.out _))
  repeat (go_big_quiet_step (fail))
  go_big_quiet_step (exact later_new (k13.out _))
  repeat (go_big_quiet_step (fail))
  go_big_quiet_step (exact later_new (k14.out _))
  repeat (go_big_quiet_step (fail))
  go_big_quiet_step (exact later_new (k9.out _))
  repeat (go_big_quiet_step (fail))
  go_big_quiet_step (exact later_new (k10.out _))
  repeat (go_big_quiet_step (fail))
  go_big_quiet_step (exact later_new (awake_any _))
  repeat (go_big_quiet_step (fail))
  refine wpQuiet_nil ?_
  rintro _ ⟨x9, rfl⟩
  have hz_x9 := x9.bel.size
  try simp at hz_x9
  go_wp2
  go_ret
  exact ⟨rfl, (by repeat (first | exact Below.refl _ _ | refine bel_later _ ?_ | refine bel_alloc ?_ _ | refine bel_set ?_ (by first | omega | (simp; done) | (simp; omega)) _ | refine Below.drew ?_ | assumption))⟩
end Go.Proofs.Ytlekadiaobpadaa
