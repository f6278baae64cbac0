/- LeaseOdd: the walk. -/
import Derived.Test.YtlekadiaobpadaaLeaseAt
namespace Go.Proofs.Ytlekadiaobpadaa
open Go.RowKit
set_option linter.unusedVariables false
attribute [local go_sem] Later.cell Later.frozen setCell_twice lease_fld0 lease_fld1
namespace Ls
theorem take_none (x : L) (ow : Nat) (t : Int) (h : ow = 0 ∨ t < 1) : take x ow t = (counted x, 2) := by simp [take, takeC, h]
theorem hold_none (x : L) : hold x 0 = (counted x, 2) := by simp [hold, holdC]
theorem leave_none (x : L) : leave x 0 = (counted x, 2) := by simp [leave, leaveC]
theorem odd_take {x : L} (h : right x = false) (ow : Nat) (t : Int) : take x ow t = take ⟨0, 0⟩ ow t := by
  unfold take
  rw [counted_not h, counted_of_right (x := ⟨0, 0⟩) rfl]
theorem odd_hold {x : L} (h : right x = false) (ow : Nat) : ∃ e, hold x ow = (⟨0, 0⟩, e) ∧ e ≠ 0 := by
  unfold hold
  rw [counted_not h]
  by_cases h0 : ow = 0
  · exact ⟨2, by simp [holdC, h0], by decide⟩
  · refine ⟨22, ?_, by decide⟩
    have : (0 : Nat) ≠ ow := fun e => h0 e.symm
    simp [holdC, h0, this]
theorem odd_tick {x : L} (h : right x = false) : tick x = (⟨0, 0⟩, false) := by unfold tick; rw [counted_not h]; rfl
theorem odd_boot {x : L} (h : right x = false) : boot x = ⟨0, 0⟩ := by unfold boot; rw [counted_not h]; rfl
theorem odd_free {x : L} (h : right x = false) : free x = true := by unfold free; rw [counted_not h]; rfl
theorem right_free {x : L} (h : right x = true) : free x = decide (x.o = 0) := by unfold free; rw [counted_of_right h]
end Ls
theorem run_min2i {P : Program} (w : World) (ts : Array TypeId) (t : TypeId) (x y n : Int) (h : n = min x y) :
    (Builtin.min_ ts t #[.int .i64 x, .int .i64 y]).run P w = .ok (.int .i64 n) w := by
  subst h
  simp [Builtin.min_, Builtin.min2]
  repeat split
  all_goals omega
theorem take_low (x : Ls.L) (ow : Nat) (b t : Int) (w : World) (hf : Ls.fit x) (how : ow < 65536) (ht : -9223372036854775808 ≤ t ∧ t ≤ 9223372036854775807) (hb : (ow : Int) = b) (h : ow = 0 ∨ t < 1) :
    Calls Try.prog 8 #[.agg #[.int .u16 (x.o : Int), .int .i64 x.l], .int .u16 b, .int .i64 t] w fun e' w' => e' = .returned (.tuple #[.agg #[.int .u16 ((Ls.counted x).o : Int), .int .i64 (Ls.counted x).l], .int .i64 2]) ∧ Below w.heap.size w w' :=
  take_at x (Ls.counted x) ow _ _ b t _ _ 2 w hf how ht rfl rfl hb rfl rfl (Ls.take_none x ow t h)

set_option maxRecDepth 100000 in
set_option maxHeartbeats 4000000 in
theorem leaseOdd_walk (x : Ls.L) (ow : Nat) (t : Int) (w : World) (hf : Ls.fit x) (how : ow < 65536) (h2 : -9223372036854775808 ≤ t) (h3 : t ≤ 9223372036854775807) :
    Calls Try.prog 7 #[.agg #[.int .u16 (x.o : Int), .int .i64 x.l], .int .u16 (ow : Int), .int .i64 t] w fun e w' => e = .returned (.bool true) ∧ Below w.heap.size w w' := by
  obtain ⟨m, hm⟩ : ∃ m, m = min t 0 := ⟨_, rfl⟩
  have hmin : ∀ w, (Builtin.min_ #[3, 3] 3 #[.int .i64 t, .int .i64 0]).run Try.prog w = .ok (.int .i64 m) w := fun w => run_min2i w _ _ t 0 m hm
  have hm1 : m < 1 := by omega
  have hm2 : -9223372036854775808 ≤ m := by omega
  clear hm
  have k1 := Lib.hid (fun w => take_low x 0 0 t w hf (by decide) ⟨h2, h3⟩ rfl (.inl rfl))
  have k2 := Lib.hid (fun t w h => take_low x ow ow t w hf how h rfl)
  have k3 := Lib.hid (fun w => hold_at x (Ls.counted x) 0 x.o x.l 0 _ _ 2 w hf (by decide) rfl rfl rfl rfl rfl (Ls.hold_none x))
  have k4 := Lib.hid (fun w => leave_at x (Ls.counted x) 0 x.o x.l 0 _ _ 2 w hf (by decide) rfl rfl rfl rfl rfl (Ls.leave_none x))
  have hfr := fun w => free_any x w hf
  generalize Ls.counted x = c at k1 k2 k3 k4
  obtain ⟨c0, c1⟩ := c
  by_cases hr : Ls.right x = true
  · have k5 := Lib.hid (fun w => right_at x true x.o x.l w hf rfl rfl hr)
    rw [Ls.right_free hr] at hfr
    obtain ⟨o, l⟩ := x
    clear hr
    by_cases ho : o = 0
    · subst ho
      have k6 := Lib.hid hfr
      clear hfr
      simp only at k1 k2 k3 k4 k5 k6
      go_enter Try.func7, Try.ntmps7
      go_wp2_with fail
      refine (k1.out _).mono ?_
      rintro e_x1 w_x1 ⟨rfl, hb_x1⟩
      obtain ⟨x1, rfl⟩ := later_is hb_x1
      clear hb_x1
      have hz_x1 := x1.bel.size
      try simp at hz_x1
      have l_x1_0 : w.heap.size < x1.val.heap.size := by omega
      have m_x1_0 : w.heap.size < x1.val.heap.size + 1 := by omega
      have q_ := x1.bel.cell (p := ⟨w.heap.size, 0, none⟩) (by first | omega | (simp; done) | (simp; omega))
      generalize c_x1_0_0 : x1.val.cell? ⟨w.heap.size, 0, none⟩ = q at q_
      first | (have q2_ : q = some _ := q_; subst q2_) | (simp [go_sem] at q_; have q2_ : q = some _ := q_; subst q2_) | (simp [go_sem, *] at q_; have q2_ : q = some _ := q_; subst q2_)
      have q_ := x1.bel.cell (p := ⟨w.heap.size, 1, none⟩) (by first | omega | (simp; done) | (simp; omega))
      generalize c_x1_0_1 : x1.val.cell? ⟨w.heap.size, 1, none⟩ = q at q_
      first | (have q2_ : q = some _ := q_; subst q2_) | (simp [go_sem] at q_; have q2_ : q = some _ := q_; subst q2_) | (simp [go_sem, *] at q_; have q2_ : q = some _ := q_; subst q2_)
      go_wp2_with fail
      refine (k2.out m _ ⟨hm2, by omega⟩ (.inr hm1)).mono ?_
      rintro e_x2 w_x2 ⟨rfl, hb_x2⟩
      obtain ⟨x2, rfl⟩ := later_is hb_x2
      clear hb_x2
      have hz_x2 := x2.bel.size
      try simp at hz_x2
      replace c_x1_0_0 := x2.keep (by repeat (first | exact c_x1_0_0 | apply keep_alloc | (apply keep_set; rotate_left; first | (simp; done) | (simp; omega))))
      replace c_x1_0_1 := x2.keep (by repeat (first | exact c_x1_0_1 | apply keep_alloc | (apply keep_set; rotate_left; first | (simp; done) | (simp; omega))))
      have lc_x2_0 : w.heap.size < x2.val.heap.size := by omega
      have mc_x2_0 : w.heap.size < x2.val.heap.size + 1 := by omega
      go_wp2_with fail
      refine (k3.out _).mono ?_
      rintro e_x3 w_x3 ⟨rfl, hb_x3⟩
      obtain ⟨x3, rfl⟩ := later_is hb_x3
      clear hb_x3
      have hz_x3 := x3.bel.size
      try simp at hz_x3
      replace c_x1_0_0 := x3.keep (by repeat (first | exact c_x1_0_0 | apply keep_alloc | (apply keep_set; rotate_left; first | (simp; done) | (simp; omega))))
      replace c_x1_0_1 := x3.keep (by repeat (first | exact c_x1_0_1 | apply keep_alloc | (apply keep_set; rotate_left; first | (simp; done) | (simp; omega))))
      have lc_x3_0 : w.heap.size < x3.val.heap.size := by omega
      have mc_x3_0 : w.heap.size < x3.val.heap.size + 1 := by omega
      go_wp2_with fail
      refine (k4.out _).mono ?_
      rintro e_x4 w_x4 ⟨rfl, hb_x4⟩
      obtain ⟨x4, rfl⟩ := later_is hb_x4
      clear hb_x4
      have hz_x4 := x4.bel.size
      try simp at hz_x4
      replace c_x1_0_0 := x4.keep (by repeat (first | exact c_x1_0_0 | apply keep_alloc | (apply keep_set; rotate_left; first | (simp; done) | (simp; omega))))
      replace c_x1_0_1 := x4.keep (by repeat (first | exact c_x1_0_1 | apply keep_alloc | (apply keep_set; rotate_left; first | (simp; done) | (simp; omega))))
      have lc_x4_0 : w.heap.size < x4.val.heap.size := by omega
      have mc_x4_0 : w.heap.size < x4.val.heap.size + 1 := by omega
      go_wp2_with fail
      refine (k5.out _).mono ?_
      rintro e_x5 w_x5 ⟨rfl, hb_x5⟩
      obtain ⟨x5, rfl⟩ := later_is hb_x5
      clear hb_x5
      have hz_x5 := x5.bel.size
      try simp at hz_x5
      replace c_x1_0_0 := x5.keep (by repeat (first | exact c_x1_0_0 | apply keep_alloc | (apply keep_set; rotate_left; first | (simp; done) | (simp; omega))))
      replace c_x1_0_1 := x5.keep (by repeat (first | exact c_x1_0_1 | apply keep_alloc | (apply keep_set; rotate_left; first | (simp; done) | (simp; omega))))
      have lc_x5_0 : w.heap.size < x5.val.heap.size := by omega
      have mc_x5_0 : w.heap.size < x5.val.heap.size + 1 := by omega
      go_wp2_with fail
      refine wp_region_lat (by kernel_rfl) (by kernel_rfl) ?_
      repeat (go_big_quiet_step (fail))
      go_big_quiet_step (exact later_new (k6.out _))
      repeat (go_big_quiet_step (fail))
      go_big_quiet_step (exact later_new (awake_any _))
      repeat (go_big_quiet_step (fail))
      refine wpQuiet_nil ?_
      rintro _ ⟨x6, rfl⟩
      have hz_x6 := x6.bel.size
      try simp at hz_x6
      go_wp2
      go_ret
      exact ⟨rfl, (by repeat (first | exact Below.refl _ _ | refine bel_later _ ?_ | refine bel_alloc ?_ _ | refine bel_set ?_ (by first | omega | (simp; done) | (simp; omega)) _ | refine Below.drew ?_ | assumption))⟩
    · simp only [show decide (o = 0) = false by simpa using ho] at hfr
      have h0 : ((o : Int) == 0) = false := beq_eq_false_iff_ne.2 (by omega)
      have k6 := Lib.hid hfr
      clear hfr
      simp only at k1 k2 k3 k4 k5 k6
      go_enter Try.func7, Try.ntmps7
      go_wp2_with fail
      refine (k1.out _).mono ?_
      rintro e_x1 w_x1 ⟨rfl, hb_x1⟩
      obtain ⟨x1, rfl⟩ := later_is hb_x1
      clear hb_x1
      have hz_x1 := x1.bel.size
      try simp at hz_x1
      have l_x1_0 : w.heap.size < x1.val.heap.size := by omega
      have m_x1_0 : w.heap.size < x1.val.heap.size + 1 := by omega
      have q_ := x1.bel.cell (p := ⟨w.heap.size, 0, none⟩) (by first | omega | (simp; done) | (simp; omega))
      generalize c_x1_0_0 : x1.val.cell? ⟨w.heap.size, 0, none⟩ = q at q_
      first | (have q2_ : q = some _ := q_; subst q2_) | (simp [go_sem] at q_; have q2_ : q = some _ := q_; subst q2_) | (simp [go_sem, *] at q_; have q2_ : q = some _ := q_; subst q2_)
      have q_ := x1.bel.cell (p := ⟨w.heap.size, 1, none⟩) (by first | omega | (simp; done) | (simp; omega))
      generalize c_x1_0_1 : x1.val.cell? ⟨w.heap.size, 1, none⟩ = q at q_
      first | (have q2_ : q = some _ := q_; subst q2_) | (simp [go_sem] at q_; have q2_ : q = some _ := q_; subst q2_) | (simp [go_sem, *] at q_; have q2_ : q = some _ := q_; subst q2_)
      go_wp2_with fail
      refine (k2.out m _ ⟨hm2, by omega⟩ (.inr hm1)).mono ?_
      rintro e_x2 w_x2 ⟨rfl, hb_x2⟩
      obtain ⟨x2, rfl⟩ := later_is hb_x2
      clear hb_x2
      have hz_x2 := x2.bel.size
      try simp at hz_x2
      replace c_x1_0_0 := x2.keep (by repeat (first | exact c_x1_0_0 | apply keep_alloc | (apply keep_set; rotate_left; first | (simp; done) | (simp; omega))))
      replace c_x1_0_1 := x2.keep (by repeat (first | exact c_x1_0_1 | apply keep_alloc | (apply keep_set; rotate_left; first | (simp; done) | (simp; omega))))
      have lc_x2_0 : w.heap.size < x2.val.heap.size := by omega
      have mc_x2_0 : w.heap.size < x2.val.heap.size + 1 := by omega
      go_wp2_with fail
      refine (k3.out _).mono ?_
      rintro e_x3 w_x3 ⟨rfl, hb_x3⟩
      obtain ⟨x3, rfl⟩ := later_is hb_x3
      clear hb_x3
      have hz_x3 := x3.bel.size
      try simp at hz_x3
      replace c_x1_0_0 := x3.keep (by repeat (first | exact c_x1_0_0 | apply keep_alloc | (apply keep_set; rotate_left; first | (simp; done) | (simp; omega))))
      replace c_x1_0_1 := x3.keep (by repeat (first | exact c_x1_0_1 | apply keep_alloc | (apply keep_set; rotate_left; first | (simp; done) | (simp; omega))))
      have lc_x3_0 : w.heap.size < x3.val.heap.size := by omega
      have mc_x3_0 : w.heap.size < x3.val.heap.size + 1 := by omega
      go_wp2_with fail
      refine (k4.out _).mono ?_
      rintro e_x4 w_x4 ⟨rfl, hb_x4⟩
      obtain ⟨x4, rfl⟩ := later_is hb_x4
      clear hb_x4
      have hz_x4 := x4.bel.size
      try simp at hz_x4
      replace c_x1_0_0 := x4.keep (by repeat (first | exact c_x1_0_0 | apply keep_alloc | (apply keep_set; rotate_left; first | (simp; done) | (simp; omega))))
      replace c_x1_0_1 := x4.keep (by repeat (first | exact c_x1_0_1 | apply keep_alloc | (apply keep_set; rotate_left; first | (simp; done) | (simp; omega))))
      have lc_x4_0 : w.heap.size < x4.val.heap.size := by omega
      have mc_x4_0 : w.heap.size < x4.val.heap.size + 1 := by omega
      go_wp2_with fail
      refine (k5.out _).mono ?_
      rintro e_x5 w_x5 ⟨rfl, hb_x5⟩
      obtain ⟨x5, rfl⟩ := later_is hb_x5
      clear hb_x5
      have hz_x5 := x5.bel.size
      try simp at hz_x5
      replace c_x1_0_0 := x5.keep (by repeat (first | exact c_x1_0_0 | apply keep_alloc | (apply keep_set; rotate_left; first | (simp; done) | (simp; omega))))
      replace c_x1_0_1 := x5.keep (by repeat (first | exact c_x1_0_1 | apply keep_alloc | (apply keep_set; rotate_left; first | (simp; done) | (simp; omega))))
      have lc_x5_0 : w.heap.size < x5.val.heap.size := by omega
      have mc_x5_0 : w.heap.size < x5.val.heap.size + 1 := by omega
      go_wp2_with fail
      refine wp_region_lat (by kernel_rfl) (by kernel_rfl) ?_
      repeat (go_big_quiet_step (fail))
      go_big_quiet_step (exact later_new (k6.out _))
      repeat (go_big_quiet_step (fail))
      go_big_quiet_step (exact later_new (awake_any _))
      repeat (go_big_quiet_step (fail))
      refine wpQuiet_nil ?_
      rintro _ ⟨x6, rfl⟩
      have hz_x6 := x6.bel.size
      try simp at hz_x6
      go_wp2
      go_ret
      exact ⟨rfl, (by repeat (first | exact Below.refl _ _ | refine bel_later _ ?_ | refine bel_alloc ?_ _ | refine bel_set ?_ (by first | omega | (simp; done) | (simp; omega)) _ | refine Below.drew ?_ | assumption))⟩
  · have hr' : Ls.right x = false := by simpa using hr
    have k5 := Lib.hid (fun w => right_at x false x.o x.l w hf rfl rfl hr')
    have k6 := Lib.hid (fun w => free_at x true x.o x.l w hf rfl rfl (Ls.odd_free hr'))
    obtain ⟨e8, hh, he8⟩ := Ls.odd_hold hr' ow
    have k7 := Lib.hid (fun w => take_any x ow t w hf how h2 h3)
    rw [Ls.odd_take hr'] at k7
    have k8 := Lib.hid (fun w => take_at ⟨0, 0⟩ (Ls.take ⟨0, 0⟩ ow t).1 ow 0 0 ow t _ _ (Ls.take ⟨0, 0⟩ ow t).2 w fit00 how ⟨h2, h3⟩ rfl rfl rfl rfl rfl rfl)
    have k9 := Lib.hid (fun w => hold_at x ⟨0, 0⟩ ow x.o x.l ow 0 0 e8 w hf how rfl rfl rfl rfl rfl hh)
    have k10 := Lib.hid (fun w => tick_at x ⟨0, 0⟩ false x.o x.l 0 0 w hf rfl rfl rfl rfl (Ls.odd_tick hr'))
    have k11 := Lib.hid (fun w => boot_at x ⟨0, 0⟩ x.o x.l 0 0 w hf rfl rfl rfl rfl (Ls.odd_boot hr'))
    generalize Ls.take ⟨0, 0⟩ ow t = r at k7 k8
    obtain ⟨⟨r0, r1⟩, r2⟩ := r
    obtain ⟨o, l⟩ := x
    have q8 : (e8 != 0) = true := by rw [bne_iff_ne]; exact he8
    clear hr hr' hfr hh he8
    simp only at k1 k2 k3 k4 k5 k6 k7 k8 k9 k10 k11
    go_enter Try.func7, Try.ntmps7
    go_wp2_with fail
    refine (k1.out _).mono ?_
    rintro e_x1 w_x1 ⟨rfl, hb_x1⟩
    obtain ⟨x1, rfl⟩ := later_is hb_x1
    clear hb_x1
    have hz_x1 := x1.bel.size
    try simp at hz_x1
    have l_x1_0 : w.heap.size < x1.val.heap.size := by omega
    have m_x1_0 : w.heap.size < x1.val.heap.size + 1 := by omega
    have q_ := x1.bel.cell (p := ⟨w.heap.size, 0, none⟩) (by first | omega | (simp; done) | (simp; omega))
    generalize c_x1_0_0 : x1.val.cell? ⟨w.heap.size, 0, none⟩ = q at q_
    first | (have q2_ : q = some _ := q_; subst q2_) | (simp [go_sem] at q_; have q2_ : q = some _ := q_; subst q2_) | (simp [go_sem, *] at q_; have q2_ : q = some _ := q_; subst q2_)
    have q_ := x1.bel.cell (p := ⟨w.heap.size, 1, none⟩) (by first | omega | (simp; done) | (simp; omega))
    generalize c_x1_0_1 : x1.val.cell? ⟨w.heap.size, 1, none⟩ = q at q_
    first | (have q2_ : q = some _ := q_; subst q2_) | (simp [go_sem] at q_; have q2_ : q = some _ := q_; subst q2_) | (simp [go_sem, *] at q_; have q2_ : q = some _ := q_; subst q2_)
    go_wp2_with fail
    refine (k2.out m _ ⟨hm2, by omega⟩ (.inr hm1)).mono ?_
    rintro e_x2 w_x2 ⟨rfl, hb_x2⟩
    obtain ⟨x2, rfl⟩ := later_is hb_x2
    clear hb_x2
    have hz_x2 := x2.bel.size
    try simp at hz_x2
    replace c_x1_0_0 := x2.keep (by repeat (first | exact c_x1_0_0 | apply keep_alloc | (apply keep_set; rotate_left; first | (simp; done) | (simp; omega))))
    replace c_x1_0_1 := x2.keep (by repeat (first | exact c_x1_0_1 | apply keep_alloc | (apply keep_set; rotate_left; first | (simp; done) | (simp; omega))))
    have lc_x2_0 : w.heap.size < x2.val.heap.size := by omega
    have mc_x2_0 : w.heap.size < x2.val.heap.size + 1 := by omega
    go_wp2_with fail
    refine (k3.out _).mono ?_
    rintro e_x3 w_x3 ⟨rfl, hb_x3⟩
    obtain ⟨x3, rfl⟩ := later_is hb_x3
    clear hb_x3
    have hz_x3 := x3.bel.size
    try simp at hz_x3
    replace c_x1_0_0 := x3.keep (by repeat (first | exact c_x1_0_0 | apply keep_alloc | (apply keep_set; rotate_left; first | (simp; done) | (simp; omega))))
    replace c_x1_0_1 := x3.keep (by repeat (first | exact c_x1_0_1 | apply keep_alloc | (apply keep_set; rotate_left; first | (simp; done) | (simp; omega))))
    have lc_x3_0 : w.heap.size < x3.val.heap.size := by omega
    have mc_x3_0 : w.heap.size < x3.val.heap.size + 1 := by omega
    go_wp2_with fail
    refine (k4.out _).mono ?_
    rintro e_x4 w_x4 ⟨rfl, hb_x4⟩
    obtain ⟨x4, rfl⟩ := later_is hb_x4
    clear hb_x4
    have hz_x4 := x4.bel.size
    try simp at hz_x4
    replace c_x1_0_0 := x4.keep (by repeat (first | exact c_x1_0_0 | apply keep_alloc | (apply keep_set; rotate_left; first | (simp; done) | (simp; omega))))
    replace c_x1_0_1 := x4.keep (by repeat (first | exact c_x1_0_1 | apply keep_alloc | (apply keep_set; rotate_left; first | (simp; done) | (simp; omega))))
    have lc_x4_0 : w.heap.size < x4.val.heap.size := by omega
    have mc_x4_0 : w.heap.size < x4.val.heap.size + 1 := by omega
    go_wp2_with fail
    refine (k5.out _).mono ?_
    rintro e_x5 w_x5 ⟨rfl, hb_x5⟩
    obtain ⟨x5, rfl⟩ := later_is hb_x5
    clear hb_x5
    have hz_x5 := x5.bel.size
    try simp at hz_x5
    replace c_x1_0_0 := x5.keep (by repeat (first | exact c_x1_0_0 | apply keep_alloc | (apply keep_set; rotate_left; first | (simp; done) | (simp; omega))))
    replace c_x1_0_1 := x5.keep (by repeat (first | exact c_x1_0_1 | apply keep_alloc | (apply keep_set; rotate_left; first | (simp; done) | (simp; omega))))
    have lc_x5_0 : w.heap.size < x5.val.heap.size := by omega
    have mc_x5_0 : w.heap.size < x5.val.heap.size + 1 := by omega
    go_wp2_with fail
    refine (k7.out _).mono ?_
    rintro e_x6 w_x6 ⟨rfl, hb_x6⟩
    obtain ⟨x6, rfl⟩ := later_is hb_x6
    clear hb_x6
    have hz_x6 := x6.bel.size
    try simp at hz_x6
    replace c_x1_0_0 := x6.keep (by repeat (first | exact c_x1_0_0 | apply keep_alloc | (apply keep_set; rotate_left; first | (simp; done) | (simp; omega))))
    replace c_x1_0_1 := x6.keep (by repeat (first | exact c_x1_0_1 | apply keep_alloc | (apply keep_set; rotate_left; first | (simp; done) | (simp; omega))))
    have lc_x6_0 : w.heap.size < x6.val.heap.size := by omega
    have mc_x6_0 : w.heap.size < x6.val.heap.size + 1 := by omega
    go_wp2_with fail
    refine (k8.out _).mono ?_
    rintro e_x7 w_x7 ⟨rfl, hb_x7⟩
    obtain ⟨x7, rfl⟩ := later_is hb_x7
    clear hb_x7
    have hz_x7 := x7.bel.size
    try simp at hz_x7
    replace c_x1_0_0 := x7.keep (by repeat (first | exact c_x1_0_0 | apply keep_alloc | (apply keep_set; rotate_left; first | (simp; done) | (simp; omega))))
    replace c_x1_0_1 := x7.keep (by repeat (first | exact c_x1_0_1 | apply keep_alloc | (apply keep_set; rotate_left; first | (simp; done) | (simp; omega))))
    have lc_x7_0 : w.heap.size < x7.val.heap.size := by omega
    have mc_x7_0 : w.heap.size < x7.val.heap.size + 1 := by omega
    have l_x7_0 : x6.val.heap.size < x7.val.heap.size := by omega
    have m_x7_0 : x6.val.heap.size < x7.val.heap.size + 1 := by omega
    have q_ := x7.bel.cell (p := ⟨x6.val.heap.size, 0, none⟩) (by first | omega | (simp; done) | (simp; omega))
    generalize c_x7_0_0 : x7.val.cell? ⟨x6.val.heap.size, 0, none⟩ = q at q_
    first | (have q2_ : q = some _ := q_; subst q2_) | (simp [go_sem] at q_; have q2_ : q = some _ := q_; subst q2_) | (simp [go_sem, *] at q_; have q2_ : q = some _ := q_; subst q2_)
    have q_ := x7.bel.cell (p := ⟨x6.val.heap.size, 1, none⟩) (by first | omega | (simp; done) | (simp; omega))
    generalize c_x7_0_1 : x7.val.cell? ⟨x6.val.heap.size, 1, none⟩ = q at q_
    first | (have q2_ : q = some _ := q_; subst q2_) | (simp [go_sem] at q_; have q2_ : q = some _ := q_; subst q2_) | (simp [go_sem, *] at q_; have q2_ : q = some _ := q_; subst q2_)
    go_wp2_with fail
    refine (k9.out _).mono ?_
    rintro e_x8 w_x8 ⟨rfl, hb_x8⟩
    obtain ⟨x8, rfl⟩ := later_is hb_x8
    clear hb_x8
    have hz_x8 := x8.bel.size
    try simp at hz_x8
    replace c_x1_0_0 := x8.keep (by repeat (first | exact c_x1_0_0 | apply keep_alloc | (apply keep_set; rotate_left; first | (simp; done) | (simp; omega))))
    replace c_x1_0_1 := x8.keep (by repeat (first | exact c_x1_0_1 | apply keep_alloc | (apply keep_set; rotate_left; first | (simp; done) | (simp; omega))))
    replace c_x7_0_0 := x8.keep (by repeat (first | exact c_x7_0_0 | apply keep_alloc | (apply keep_set; rotate_left; first | (simp; done) | (simp; omega))))
    replace c_x7_0_1 := x8.keep (by repeat (first | exact c_x7_0_1 | apply keep_alloc | (apply keep_set; rotate_left; first | (simp; done) | (simp; omega))))
    have lc_x8_0 : w.heap.size < x8.val.heap.size := by omega
    have mc_x8_0 : w.heap.size < x8.val.heap.size + 1 := by omega
    have lc_x8_1 : x6.val.heap.size < x8.val.heap.size := by omega
    have mc_x8_1 : x6.val.heap.size < x8.val.heap.size + 1 := by omega
    have l_x8_0 : x7.val.heap.size < x8.val.heap.size := by omega
    have m_x8_0 : x7.val.heap.size < x8.val.heap.size + 1 := by omega
    have q_ := x8.bel.cell (p := ⟨x7.val.heap.size, 0, none⟩) (by first | omega | (simp; done) | (simp; omega))
    generalize c_x8_0_0 : x8.val.cell? ⟨x7.val.heap.size, 0, none⟩ = q at q_
    first | (have q2_ : q = some _ := q_; subst q2_) | (simp [go_sem] at q_; have q2_ : q = some _ := q_; subst q2_) | (simp [go_sem, *] at q_; have q2_ : q = some _ := q_; subst q2_)
    have q_ := x8.bel.cell (p := ⟨x7.val.heap.size, 1, none⟩) (by first | omega | (simp; done) | (simp; omega))
    generalize c_x8_0_1 : x8.val.cell? ⟨x7.val.heap.size, 1, none⟩ = q at q_
    first | (have q2_ : q = some _ := q_; subst q2_) | (simp [go_sem] at q_; have q2_ : q = some _ := q_; subst q2_) | (simp [go_sem, *] at q_; have q2_ : q = some _ := q_; subst q2_)
    go_wp2_with fail
    refine (k10.out _).mono ?_
    rintro e_x9 w_x9 ⟨rfl, hb_x9⟩
    obtain ⟨x9, rfl⟩ := later_is hb_x9
    clear hb_x9
    have hz_x9 := x9.bel.size
    try simp at hz_x9
    replace c_x1_0_0 := x9.keep (by repeat (first | exact c_x1_0_0 | apply keep_alloc | (apply keep_set; rotate_left; first | (simp; done) | (simp; omega))))
    replace c_x1_0_1 := x9.keep (by repeat (first | exact c_x1_0_1 | apply keep_alloc | (apply keep_set; rotate_left; first | (simp; done) | (simp; omega))))
    replace c_x7_0_0 := x9.keep (by repeat (first | exact c_x7_0_0 | apply keep_alloc | (apply keep_set; rotate_left; first | (simp; done) | (simp; omega))))
    replace c_x7_0_1 := x9.keep (by repeat (first | exact c_x7_0_1 | apply keep_alloc | (apply keep_set; rotate_left; first | (simp; done) | (simp; omega))))
    replace c_x8_0_0 := x9.keep (by repeat (first | exact c_x8_0_0 | apply keep_alloc | (apply keep_set; rotate_left; first | (simp; done) | (simp; omega))))
    replace c_x8_0_1 := x9.keep (by repeat (first | exact c_x8_0_1 | apply keep_alloc | (apply keep_set; rotate_left; first | (simp; done) | (simp; omega))))
    have lc_x9_0 : w.heap.size < x9.val.heap.size := by omega
    have mc_x9_0 : w.heap.size < x9.val.heap.size + 1 := by omega
    have lc_x9_1 : x6.val.heap.size < x9.val.heap.size := by omega
    have mc_x9_1 : x6.val.heap.size < x9.val.heap.size + 1 := by omega
    have lc_x9_2 : x7.val.heap.size < x9.val.heap.size := by omega
    have mc_x9_2 : x7.val.heap.size < x9.val.heap.size + 1 := by omega
    go_wp2_with fail
    refine (k6.out _).mono ?_
    rintro e_x10 w_x10 ⟨rfl, hb_x10⟩
    obtain ⟨x10, rfl⟩ := later_is hb_x10
    clear hb_x10
    have hz_x10 := x10.bel.size
    try simp at hz_x10
    replace c_x1_0_0 := x10.keep (by repeat (first | exact c_x1_0_0 | apply keep_alloc | (apply keep_set; rotate_left; first | (simp; done) | (simp; omega))))
    replace c_x1_0_1 := x10.keep (by repeat (first | exact c_x1_0_1 | apply keep_alloc | (apply keep_set; rotate_left; first | (simp; done) | (simp; omega))))
    replace c_x7_0_0 := x10.keep (by repeat (first | exact c_x7_0_0 | apply keep_alloc | (apply keep_set; rotate_left; first | (simp; done) | (simp; omega))))
    replace c_x7_0_1 := x10.keep (by repeat (first | exact c_x7_0_1 | apply keep_alloc | (apply keep_set; rotate_left; first | (simp; done) | (simp; omega))))
    replace c_x8_0_0 := x10.keep (by repeat (first | exact c_x8_0_0 | apply keep_alloc | (apply keep_set; rotate_left; first | (simp; done) | (simp; omega))))
    replace c_x8_0_1 := x10.keep (by repeat (first | exact c_x8_0_1 | apply keep_alloc | (apply keep_set; rotate_left; first | (simp; done) | (simp; omega))))
    have lc_x10_0 : w.heap.size < x10.val.heap.size := by omega
    have mc_x10_0 : w.heap.size < x10.val.heap.size + 1 := by omega
    have lc_x10_1 : x6.val.heap.size < x10.val.heap.size := by omega
    have mc_x10_1 : x6.val.heap.size < x10.val.heap.size + 1 := by omega
    have lc_x10_2 : x7.val.heap.size < x10.val.heap.size := by omega
    have mc_x10_2 : x7.val.heap.size < x10.val.heap.size + 1 := by omega
    have l_x10_0 : x9.val.heap.size < x10.val.heap.size := by omega
    have m_x10_0 : x9.val.heap.size < x10.val.heap.size + 1 := by omega
    have q_ := x10.bel.cell (p := ⟨x9.val.heap.size, 0, none⟩) (by first | omega | (simp; done) | (simp; omega))
    generalize c_x10_0_0 : x10.val.cell? ⟨x9.val.heap.size, 0, none⟩ = q at q_
    first | (have q2_ : q = some _ := q_; subst q2_) | (simp [go_sem] at q_; have q2_ : q = some _ := q_; subst q2_) | (simp [go_sem, *] at q_; have q2_ : q = some _ := q_; subst q2_)
    have q_ := x10.bel.cell (p := ⟨x9.val.heap.size, 1, none⟩) (by first | omega | (simp; done) | (simp; omega))
    generalize c_x10_0_1 : x10.val.cell? ⟨x9.val.heap.size, 1, none⟩ = q at q_
    first | (have q2_ : q = some _ := q_; subst q2_) | (simp [go_sem] at q_; have q2_ : q = some _ := q_; subst q2_) | (simp [go_sem, *] at q_; have q2_ : q = some _ := q_; subst q2_)
    go_wp2_with fail
    refine (k11.out _).mono ?_
    rintro e_x11 w_x11 ⟨rfl, hb_x11⟩
    obtain ⟨x11, rfl⟩ := later_is hb_x11
    clear hb_x11
    have hz_x11 := x11.bel.size
    try simp at hz_x11
    go_wp2_with fail
    refine (awake_any _).mono ?_
    rintro e_x12 w_x12 ⟨rfl, hb_x12⟩
    obtain ⟨x12, rfl⟩ := later_is hb_x12
    clear hb_x12
    have hz_x12 := x12.bel.size
    try simp at hz_x12
    go_wp2
    go_ret
    exact ⟨rfl, (by repeat (first | exact Below.refl _ _ | refine bel_later _ ?_ | refine bel_alloc ?_ _ | refine bel_set ?_ (by first | omega | (simp; done) | (simp; omega)) _ | refine Below.drew ?_ | assumption))⟩
end Go.Proofs.Ytlekadiaobpadaa
