/- The contracts of package lease at numbers, and the chapter's examples (awake). -/
import Derived.Test.YtlekadiaobpadaaLeaseDo
namespace Go.Proofs.Ytlekadiaobpadaa
open Go.RowKit
set_option linter.unusedVariables false
attribute [local go_sem] Later.cell Later.frozen setCell_twice lease_fld0 lease_fld1

theorem take_at (x y : Ls.L) (ow : Nat) (a l b t ya yl e : Int) (w : World) (hf : Ls.fit x) (how : ow < 65536) (ht : -9223372036854775808 ≤ t ∧ t ≤ 9223372036854775807) (h1 : (x.o : Int) = a) (h2 : x.l = l) (h3 : (ow : Int) = b) (h4 : (y.o : Int) = ya) (h5 : y.l = yl) (h : Ls.take x ow t = (y, e)) :
    Calls Try.prog 8 #[.agg #[.int .u16 a, .int .i64 l], .int .u16 b, .int .i64 t] w fun e' w' => e' = .returned (.tuple #[.agg #[.int .u16 ya, .int .i64 yl], .int .i64 e]) ∧ Below w.heap.size w w' := by
  subst h1 h2 h3 h4 h5
  have := take_any x ow t w hf how ht.1 ht.2
  rw [h] at this
  exact this
theorem hold_at (x y : Ls.L) (ow : Nat) (a l b ya yl e : Int) (w : World) (hf : Ls.fit x) (how : ow < 65536) (h1 : (x.o : Int) = a) (h2 : x.l = l) (h3 : (ow : Int) = b) (h4 : (y.o : Int) = ya) (h5 : y.l = yl) (h : Ls.hold x ow = (y, e)) :
    Calls Try.prog 10 #[.agg #[.int .u16 a, .int .i64 l], .int .u16 b] w fun e' w' => e' = .returned (.tuple #[.agg #[.int .u16 ya, .int .i64 yl], .int .i64 e]) ∧ Below w.heap.size w w' := by
  subst h1 h2 h3 h4 h5
  have := hold_any x ow w hf how
  rw [h] at this
  exact this
theorem leave_at (x y : Ls.L) (ow : Nat) (a l b ya yl e : Int) (w : World) (hf : Ls.fit x) (how : ow < 65536) (h1 : (x.o : Int) = a) (h2 : x.l = l) (h3 : (ow : Int) = b) (h4 : (y.o : Int) = ya) (h5 : y.l = yl) (h : Ls.leave x ow = (y, e)) :
    Calls Try.prog 12 #[.agg #[.int .u16 a, .int .i64 l], .int .u16 b] w fun e' w' => e' = .returned (.tuple #[.agg #[.int .u16 ya, .int .i64 yl], .int .i64 e]) ∧ Below w.heap.size w w' := by
  subst h1 h2 h3 h4 h5
  have := leave_any x ow w hf how
  rw [h] at this
  exact this
theorem tick_at (x y : Ls.L) (b : Bool) (a l ya yl : Int) (w : World) (hf : Ls.fit x) (h1 : (x.o : Int) = a) (h2 : x.l = l) (h4 : (y.o : Int) = ya) (h5 : y.l = yl) (h : Ls.tick x = (y, b)) :
    Calls Try.prog 14 #[.agg #[.int .u16 a, .int .i64 l]] w fun e' w' => e' = .returned (.tuple #[.agg #[.int .u16 ya, .int .i64 yl], .bool b]) ∧ Below w.heap.size w w' := by
  subst h1 h2 h4 h5
  have := tick_any x w hf
  rw [h] at this
  exact this
theorem boot_at (x y : Ls.L) (a l ya yl : Int) (w : World) (hf : Ls.fit x) (h1 : (x.o : Int) = a) (h2 : x.l = l) (h4 : (y.o : Int) = ya) (h5 : y.l = yl) (h : Ls.boot x = y) :
    Calls Try.prog 20 #[.agg #[.int .u16 a, .int .i64 l]] w fun e' w' => e' = .returned (.agg #[.int .u16 ya, .int .i64 yl]) ∧ Below w.heap.size w w' := by
  subst h1 h2 h4 h5
  have := boot_any x w hf
  rw [h] at this
  exact this
theorem free_at (x : Ls.L) (b : Bool) (a l : Int) (w : World) (hf : Ls.fit x) (h1 : (x.o : Int) = a) (h2 : x.l = l) (h : Ls.free x = b) :
    Calls Try.prog 18 #[.agg #[.int .u16 a, .int .i64 l]] w fun e' w' => e' = .returned (.bool b) ∧ Below w.heap.size w w' := by
  subst h1 h2 h
  exact free_any x w hf
theorem right_at (x : Ls.L) (b : Bool) (a l : Int) (w : World) (hf : Ls.fit x) (h1 : (x.o : Int) = a) (h2 : x.l = l) (h : Ls.right x = b) :
    Calls Try.prog 16 #[.agg #[.int .u16 a, .int .i64 l]] w fun e' w' => e' = .returned (.bool b) ∧ Below w.heap.size w w' := by
  subst h1 h2 h
  exact right_any x w hf

theorem fit00 : Ls.fit ⟨0, 0⟩ := ⟨by decide, by decide, by decide⟩
theorem fit73 : Ls.fit ⟨7, 3⟩ := ⟨by decide, by decide, by decide⟩
theorem fit72 : Ls.fit ⟨7, 2⟩ := ⟨by decide, by decide, by decide⟩
theorem fit71 : Ls.fit ⟨7, 1⟩ := ⟨by decide, by decide, by decide⟩
theorem fit7h : Ls.fit ⟨7, -1⟩ := ⟨by decide, by decide, by decide⟩

set_option maxRecDepth 100000 in
set_option maxHeartbeats 2000000 in
theorem awake_any (w : World) : Calls Try.prog 22 #[] w fun e w' => e = .returned (.bool true) ∧ Below w.heap.size w w' := by
  go_enter Try.func22, Try.ntmps22
  go_wp2_with fail
  refine (take_at ⟨0, 0⟩ ⟨7, 3⟩ 7 0 0 7 3 7 3 0 _ fit00 (by decide) (by decide) rfl rfl rfl rfl rfl rfl).mono ?_
  rintro e_x1 w_x1 ⟨rfl, hb_x1⟩
  obtain ⟨x1, rfl⟩ := later_is hb_x1
  clear hb_x1
  have hz_x1 := x1.bel.size
  try simp at hz_x1
  go_wp2_with fail
  refine (take_at ⟨7, 3⟩ ⟨7, 3⟩ 8 7 3 8 9 7 3 22 _ fit73 (by decide) (by decide) rfl rfl rfl rfl rfl rfl).mono ?_
  rintro e_x2 w_x2 ⟨rfl, hb_x2⟩
  obtain ⟨x2, rfl⟩ := later_is hb_x2
  clear hb_x2
  have hz_x2 := x2.bel.size
  try simp at hz_x2
  have l_x2_0 : x1.val.heap.size < x2.val.heap.size := by omega
  have m_x2_0 : x1.val.heap.size < x2.val.heap.size + 1 := by omega
  have q_ := x2.bel.cell (p := ⟨x1.val.heap.size, 0, none⟩) (by first | omega | (simp; done) | (simp; omega))
  generalize c_x2_0_0 : x2.val.cell? ⟨x1.val.heap.size, 0, none⟩ = q at q_
  first | (have q2_ : q = some _ := q_; subst q2_) | (simp [go_sem] at q_; have q2_ : q = some _ := q_; subst q2_) | (simp [go_sem, *] at q_; have q2_ : q = some _ := q_; subst q2_)
  have q_ := x2.bel.cell (p := ⟨x1.val.heap.size, 1, none⟩) (by first | omega | (simp; done) | (simp; omega))
  generalize c_x2_0_1 : x2.val.cell? ⟨x1.val.heap.size, 1, none⟩ = q at q_
  first | (have q2_ : q = some _ := q_; subst q2_) | (simp [go_sem] at q_; have q2_ : q = some _ := q_; subst q2_) | (simp [go_sem, *] at q_; have q2_ : q = some _ := q_; subst q2_)
  go_wp2_with fail
  refine (tick_at ⟨7, 3⟩ ⟨7, 2⟩ false 7 3 7 2 _ fit73 rfl rfl rfl rfl rfl).mono ?_
  rintro e_x3 w_x3 ⟨rfl, hb_x3⟩
  obtain ⟨x3, rfl⟩ := later_is hb_x3
  clear hb_x3
  have hz_x3 := x3.bel.size
  try simp at hz_x3
  replace c_x2_0_0 := x3.keep (by repeat (first | exact c_x2_0_0 | apply keep_alloc | (apply keep_set; rotate_left; first | (simp; done) | (simp; omega))))
  replace c_x2_0_1 := x3.keep (by repeat (first | exact c_x2_0_1 | apply keep_alloc | (apply keep_set; rotate_left; first | (simp; done) | (simp; omega))))
  have lc_x3_0 : x1.val.heap.size < x3.val.heap.size := by omega
  have mc_x3_0 : x1.val.heap.size < x3.val.heap.size + 1 := by omega
  have l_x3_0 : x2.val.heap.size < x3.val.heap.size := by omega
  have m_x3_0 : x2.val.heap.size < x3.val.heap.size + 1 := by omega
  have q_ := x3.bel.cell (p := ⟨x2.val.heap.size, 0, none⟩) (by first | omega | (simp; done) | (simp; omega))
  generalize c_x3_0_0 : x3.val.cell? ⟨x2.val.heap.size, 0, none⟩ = q at q_
  first | (have q2_ : q = some _ := q_; subst q2_) | (simp [go_sem] at q_; have q2_ : q = some _ := q_; subst q2_) | (simp [go_sem, *] at q_; have q2_ : q = some _ := q_; subst q2_)
  have q_ := x3.bel.cell (p := ⟨x2.val.heap.size, 1, none⟩) (by first | omega | (simp; done) | (simp; omega))
  generalize c_x3_0_1 : x3.val.cell? ⟨x2.val.heap.size, 1, none⟩ = q at q_
  first | (have q2_ : q = some _ := q_; subst q2_) | (simp [go_sem] at q_; have q2_ : q = some _ := q_; subst q2_) | (simp [go_sem, *] at q_; have q2_ : q = some _ := q_; subst q2_)
  go_wp2_with fail
  refine (tick_at ⟨7, 2⟩ ⟨7, 1⟩ false 7 2 7 1 _ fit72 rfl rfl rfl rfl rfl).mono ?_
  rintro e_x4 w_x4 ⟨rfl, hb_x4⟩
  obtain ⟨x4, rfl⟩ := later_is hb_x4
  clear hb_x4
  have hz_x4 := x4.bel.size
  try simp at hz_x4
  replace c_x2_0_0 := x4.keep (by repeat (first | exact c_x2_0_0 | apply keep_alloc | (apply keep_set; rotate_left; first | (simp; done) | (simp; omega))))
  replace c_x2_0_1 := x4.keep (by repeat (first | exact c_x2_0_1 | apply keep_alloc | (apply keep_set; rotate_left; first | (simp; done) | (simp; omega))))
  replace c_x3_0_0 := x4.keep (by repeat (first | exact c_x3_0_0 | apply keep_alloc | (apply keep_set; rotate_left; first | (simp; done) | (simp; omega))))
  replace c_x3_0_1 := x4.keep (by repeat (first | exact c_x3_0_1 | apply keep_alloc | (apply keep_set; rotate_left; first | (simp; done) | (simp; omega))))
  have lc_x4_0 : x1.val.heap.size < x4.val.heap.size := by omega
  have mc_x4_0 : x1.val.heap.size < x4.val.heap.size + 1 := by omega
  have lc_x4_1 : x2.val.heap.size < x4.val.heap.size := by omega
  have mc_x4_1 : x2.val.heap.size < x4.val.heap.size + 1 := by omega
  have l_x4_0 : x3.val.heap.size < x4.val.heap.size := by omega
  have m_x4_0 : x3.val.heap.size < x4.val.heap.size + 1 := by omega
  have q_ := x4.bel.cell (p := ⟨x3.val.heap.size, 0, none⟩) (by first | omega | (simp; done) | (simp; omega))
  generalize c_x4_0_0 : x4.val.cell? ⟨x3.val.heap.size, 0, none⟩ = q at q_
  first | (have q2_ : q = some _ := q_; subst q2_) | (simp [go_sem] at q_; have q2_ : q = some _ := q_; subst q2_) | (simp [go_sem, *] at q_; have q2_ : q = some _ := q_; subst q2_)
  have q_ := x4.bel.frozen (p := ⟨x3.val.heap.size, 0, none⟩) (by first | omega | (simp; done) | (simp; omega))
  generalize z_x4_0_0 : x4.val.frozen? ⟨x3.val.heap.size, 0, none⟩ = q at q_
  first | (have q2_ : q = false := q_; subst q2_) | (simp [go_sem] at q_; have q2_ : q = false := q_; subst q2_) | (simp [go_sem, *] at q_; have q2_ : q = false := q_; subst q2_)
  have q_ := x4.bel.cell (p := ⟨x3.val.heap.size, 1, none⟩) (by first | omega | (simp; done) | (simp; omega))
  generalize c_x4_0_1 : x4.val.cell? ⟨x3.val.heap.size, 1, none⟩ = q at q_
  first | (have q2_ : q = some _ := q_; subst q2_) | (simp [go_sem] at q_; have q2_ : q = some _ := q_; subst q2_) | (simp [go_sem, *] at q_; have q2_ : q = some _ := q_; subst q2_)
  have q_ := x4.bel.frozen (p := ⟨x3.val.heap.size, 1, none⟩) (by first | omega | (simp; done) | (simp; omega))
  generalize z_x4_0_1 : x4.val.frozen? ⟨x3.val.heap.size, 1, none⟩ = q at q_
  first | (have q2_ : q = false := q_; subst q2_) | (simp [go_sem] at q_; have q2_ : q = false := q_; subst q2_) | (simp [go_sem, *] at q_; have q2_ : q = false := q_; subst q2_)
  go_wp2_with fail
  refine (take_at ⟨7, 1⟩ ⟨7, 3⟩ 7 7 1 7 3 7 3 0 _ fit71 (by decide) (by decide) rfl rfl rfl rfl rfl rfl).mono ?_
  rintro e_x5 w_x5 ⟨rfl, hb_x5⟩
  obtain ⟨x5, rfl⟩ := later_is hb_x5
  clear hb_x5
  have hz_x5 := x5.bel.size
  try simp at hz_x5
  have l_x5_0 : x3.val.heap.size < x5.val.heap.size := by omega
  have m_x5_0 : x3.val.heap.size < x5.val.heap.size + 1 := by omega
  have q_ := x5.bel.cell (p := ⟨x3.val.heap.size, 0, none⟩) (by first | omega | (simp; done) | (simp; omega))
  generalize c_x5_0_0 : x5.val.cell? ⟨x3.val.heap.size, 0, none⟩ = q at q_
  first | (have q2_ : q = some _ := q_; subst q2_) | (simp [go_sem] at q_; have q2_ : q = some _ := q_; subst q2_) | (simp [go_sem, *] at q_; have q2_ : q = some _ := q_; subst q2_)
  have q_ := x5.bel.cell (p := ⟨x3.val.heap.size, 1, none⟩) (by first | omega | (simp; done) | (simp; omega))
  generalize c_x5_0_1 : x5.val.cell? ⟨x3.val.heap.size, 1, none⟩ = q at q_
  first | (have q2_ : q = some _ := q_; subst q2_) | (simp [go_sem] at q_; have q2_ : q = some _ := q_; subst q2_) | (simp [go_sem, *] at q_; have q2_ : q = some _ := q_; subst q2_)
  go_wp2_with fail
  refine (hold_at ⟨7, 3⟩ ⟨7, -1⟩ 7 7 3 7 7 (-1) 0 _ fit73 (by decide) rfl rfl rfl rfl rfl rfl).mono ?_
  rintro e_x6 w_x6 ⟨rfl, hb_x6⟩
  obtain ⟨x6, rfl⟩ := later_is hb_x6
  clear hb_x6
  have hz_x6 := x6.bel.size
  try simp at hz_x6
  replace c_x5_0_0 := x6.keep (by repeat (first | exact c_x5_0_0 | apply keep_alloc | (apply keep_set; rotate_left; first | (simp; done) | (simp; omega))))
  replace c_x5_0_1 := x6.keep (by repeat (first | exact c_x5_0_1 | apply keep_alloc | (apply keep_set; rotate_left; first | (simp; done) | (simp; omega))))
  have lc_x6_0 : x3.val.heap.size < x6.val.heap.size := by omega
  have mc_x6_0 : x3.val.heap.size < x6.val.heap.size + 1 := by omega
  have l_x6_0 : x5.val.heap.size < x6.val.heap.size := by omega
  have m_x6_0 : x5.val.heap.size < x6.val.heap.size + 1 := by omega
  have q_ := x6.bel.cell (p := ⟨x5.val.heap.size, 0, none⟩) (by first | omega | (simp; done) | (simp; omega))
  generalize c_x6_0_0 : x6.val.cell? ⟨x5.val.heap.size, 0, none⟩ = q at q_
  first | (have q2_ : q = some _ := q_; subst q2_) | (simp [go_sem] at q_; have q2_ : q = some _ := q_; subst q2_) | (simp [go_sem, *] at q_; have q2_ : q = some _ := q_; subst q2_)
  have q_ := x6.bel.cell (p := ⟨x5.val.heap.size, 1, none⟩) (by first | omega | (simp; done) | (simp; omega))
  generalize c_x6_0_1 : x6.val.cell? ⟨x5.val.heap.size, 1, none⟩ = q at q_
  first | (have q2_ : q = some _ := q_; subst q2_) | (simp [go_sem] at q_; have q2_ : q = some _ := q_; subst q2_) | (simp [go_sem, *] at q_; have q2_ : q = some _ := q_; subst q2_)
  go_wp2_with fail
  refine (tick_at ⟨7, -1⟩ ⟨7, -1⟩ false 7 (-1) 7 (-1) _ fit7h rfl rfl rfl rfl rfl).mono ?_
  rintro e_x7 w_x7 ⟨rfl, hb_x7⟩
  obtain ⟨x7, rfl⟩ := later_is hb_x7
  clear hb_x7
  have hz_x7 := x7.bel.size
  try simp at hz_x7
  replace c_x5_0_0 := x7.keep (by repeat (first | exact c_x5_0_0 | apply keep_alloc | (apply keep_set; rotate_left; first | (simp; done) | (simp; omega))))
  replace c_x5_0_1 := x7.keep (by repeat (first | exact c_x5_0_1 | apply keep_alloc | (apply keep_set; rotate_left; first | (simp; done) | (simp; omega))))
  replace c_x6_0_0 := x7.keep (by repeat (first | exact c_x6_0_0 | apply keep_alloc | (apply keep_set; rotate_left; first | (simp; done) | (simp; omega))))
  replace c_x6_0_1 := x7.keep (by repeat (first | exact c_x6_0_1 | apply keep_alloc | (apply keep_set; rotate_left; first | (simp; done) | (simp; omega))))
  have lc_x7_0 : x3.val.heap.size < x7.val.heap.size := by omega
  have mc_x7_0 : x3.val.heap.size < x7.val.heap.size + 1 := by omega
  have lc_x7_1 : x5.val.heap.size < x7.val.heap.size := by omega
  have mc_x7_1 : x5.val.heap.size < x7.val.heap.size + 1 := by omega
  have l_x7_0 : x6.val.heap.size < x7.val.heap.size := by omega
  have m_x7_0 : x6.val.heap.size < x7.val.heap.size + 1 := by omega
  have q_ := x7.bel.cell (p := ⟨x6.val.heap.size, 0, none⟩) (by first | omega | (simp; done) | (simp; omega))
  generalize c_x7_0_0 : x7.val.cell? ⟨x6.val.heap.size, 0, none⟩ = q at q_
  first | (have q2_ : q = some _ := q_; subst q2_) | (simp [go_sem] at q_; have q2_ : q = some _ := q_; subst q2_) | (simp [go_sem, *] at q_; have q2_ : q = some _ := q_; subst q2_)
  have q_ := x7.bel.cell (p := ⟨x6.val.heap.size, 1, none⟩) (by first | omega | (simp; done) | (simp; omega))
  generalize c_x7_0_1 : x7.val.cell? ⟨x6.val.heap.size, 1, none⟩ = q at q_
  first | (have q2_ : q = some _ := q_; subst q2_) | (simp [go_sem] at q_; have q2_ : q = some _ := q_; subst q2_) | (simp [go_sem, *] at q_; have q2_ : q = some _ := q_; subst q2_)
  go_wp2_with fail
  refine (boot_at ⟨7, -1⟩ ⟨7, -1⟩ 7 (-1) 7 (-1) _ fit7h rfl rfl rfl rfl rfl).mono ?_
  rintro e_x8 w_x8 ⟨rfl, hb_x8⟩
  obtain ⟨x8, rfl⟩ := later_is hb_x8
  clear hb_x8
  have hz_x8 := x8.bel.size
  try simp at hz_x8
  replace c_x5_0_0 := x8.keep (by repeat (first | exact c_x5_0_0 | apply keep_alloc | (apply keep_set; rotate_left; first | (simp; done) | (simp; omega))))
  replace c_x5_0_1 := x8.keep (by repeat (first | exact c_x5_0_1 | apply keep_alloc | (apply keep_set; rotate_left; first | (simp; done) | (simp; omega))))
  replace c_x6_0_0 := x8.keep (by repeat (first | exact c_x6_0_0 | apply keep_alloc | (apply keep_set; rotate_left; first | (simp; done) | (simp; omega))))
  replace c_x6_0_1 := x8.keep (by repeat (first | exact c_x6_0_1 | apply keep_alloc | (apply keep_set; rotate_left; first | (simp; done) | (simp; omega))))
  replace c_x7_0_0 := x8.keep (by repeat (first | exact c_x7_0_0 | apply keep_alloc | (apply keep_set; rotate_left; first | (simp; done) | (simp; omega))))
  replace c_x7_0_1 := x8.keep (by repeat (first | exact c_x7_0_1 | apply keep_alloc | (apply keep_set; rotate_left; first | (simp; done) | (simp; omega))))
  have lc_x8_0 : x3.val.heap.size < x8.val.heap.size := by omega
  have mc_x8_0 : x3.val.heap.size < x8.val.heap.size + 1 := by omega
  have lc_x8_1 : x5.val.heap.size < x8.val.heap.size := by omega
  have mc_x8_1 : x5.val.heap.size < x8.val.heap.size + 1 := by omega
  have lc_x8_2 : x6.val.heap.size < x8.val.heap.size := by omega
  have mc_x8_2 : x6.val.heap.size < x8.val.heap.size + 1 := by omega
  have l_x8_0 : x7.val.heap.size < x8.val.heap.size := by omega
  have m_x8_0 : x7.val.heap.size < x8.val.heap.size + 1 := by omega
  have q_ := x8.bel.cell (p := ⟨x7.val.heap.size, 0, none⟩) (by first | omega | (simp; done) | (simp; omega))
  generalize c_x8_0_0 : x8.val.cell? ⟨x7.val.heap.size, 0, none⟩ = q at q_
  first | (have q2_ : q = some _ := q_; subst q2_) | (simp [go_sem] at q_; have q2_ : q = some _ := q_; subst q2_) | (simp [go_sem, *] at q_; have q2_ : q = some _ := q_; subst q2_)
  have q_ := x8.bel.cell (p := ⟨x7.val.heap.size, 1, none⟩) (by first | omega | (simp; done) | (simp; omega))
  generalize c_x8_0_1 : x8.val.cell? ⟨x7.val.heap.size, 1, none⟩ = q at q_
  first | (have q2_ : q = some _ := q_; subst q2_) | (simp [go_sem] at q_; have q2_ : q = some _ := q_; subst q2_) | (simp [go_sem, *] at q_; have q2_ : q = some _ := q_; subst q2_)
  go_wp2_with fail
  refine (leave_at ⟨7, -1⟩ ⟨0, 0⟩ 7 7 (-1) 7 0 0 0 _ fit7h (by decide) rfl rfl rfl rfl rfl rfl).mono ?_
  rintro e_x9 w_x9 ⟨rfl, hb_x9⟩
  obtain ⟨x9, rfl⟩ := later_is hb_x9
  clear hb_x9
  have hz_x9 := x9.bel.size
  try simp at hz_x9
  replace c_x5_0_0 := x9.keep (by repeat (first | exact c_x5_0_0 | apply keep_alloc | (apply keep_set; rotate_left; first | (simp; done) | (simp; omega))))
  replace c_x5_0_1 := x9.keep (by repeat (first | exact c_x5_0_1 | apply keep_alloc | (apply keep_set; rotate_left; first | (simp; done) | (simp; omega))))
  replace c_x6_0_0 := x9.keep (by repeat (first | exact c_x6_0_0 | apply keep_alloc | (apply keep_set; rotate_left; first | (simp; done) | (simp; omega))))
  replace c_x6_0_1 := x9.keep (by repeat (first | exact c_x6_0_1 | apply keep_alloc | (apply keep_set; rotate_left; first | (simp; done) | (simp; omega))))
  replace c_x7_0_0 := x9.keep (by repeat (first | exact c_x7_0_0 | apply keep_alloc | (apply keep_set; rotate_left; first | (simp; done) | (simp; omega))))
  replace c_x7_0_1 := x9.keep (by repeat (first | exact c_x7_0_1 | apply keep_alloc | (apply keep_set; rotate_left; first | (simp; done) | (simp; omega))))
  replace c_x8_0_0 := x9.keep (by repeat (first | exact c_x8_0_0 | apply keep_alloc | (apply keep_set; rotate_left; first | (simp; done) | (simp; omega))))
  replace c_x8_0_1 := x9.keep (by repeat (first | exact c_x8_0_1 | apply keep_alloc | (apply keep_set; rotate_left; first | (simp; done) | (simp; omega))))
  have lc_x9_0 : x3.val.heap.size < x9.val.heap.size := by omega
  have mc_x9_0 : x3.val.heap.size < x9.val.heap.size + 1 := by omega
  have lc_x9_1 : x5.val.heap.size < x9.val.heap.size := by omega
  have mc_x9_1 : x5.val.heap.size < x9.val.heap.size + 1 := by omega
  have lc_x9_2 : x6.val.heap.size < x9.val.heap.size := by omega
  have mc_x9_2 : x6.val.heap.size < x9.val.heap.size + 1 := by omega
  have lc_x9_3 : x7.val.heap.size < x9.val.heap.size := by omega
  have mc_x9_3 : x7.val.heap.size < x9.val.heap.size + 1 := by omega
  go_wp2_with fail
  refine (free_at ⟨0, 0⟩ true 0 0 _ fit00 rfl rfl rfl).mono ?_
  rintro e wz ⟨rfl, hbz⟩
  obtain ⟨x10, rfl⟩ := later_is hbz
  have d0 := x10.bel.cell (p := ⟨x9.val.heap.size, 0, none⟩) (by simp)
  have d1 := x10.bel.cell (p := ⟨x9.val.heap.size, 1, none⟩) (by simp)
  simp only [World.cell?_alloc_new] at d0 d1
  clear hbz
  go_wp2
  go_ret
  exact ⟨rfl, (by repeat (first | exact Below.refl _ _ | refine bel_later _ ?_ | refine bel_alloc ?_ _ | refine bel_set ?_ (by first | omega | (simp; done) | (simp; omega)) _ | refine Below.drew ?_ | assumption))⟩
end Go.Proofs.Ytlekadiaobpadaa
