/- The walks of package lease: what becomes of a lease. -/
import Derived.Test.YtajbghjjpebndaaQ19
namespace Go.Proofs.Ytajbghjjpebndaa
set_option maxRecDepth 100000
open Go.RowKit
set_option linter.unusedVariables false
attribute [local go_sem] Later.cell Later.frozen setCell_twice

theorem free_eq (x : Ls.L) (b : Bool) (w : World) (hf : Ls.fit x) (h : Ls.free x = b) :
    Calls Try.prog 45 #[.agg #[.int .u16 (x.o : Int), .int .i64 x.l]] w fun e w' => e = .returned (.bool b) ∧ Below w.heap.size w w' := by
  subst h
  exact free_any x w hf

set_option maxHeartbeats 1000000 in
theorem take_any (x : Ls.L) (ow : Nat) (t : Int) (w : World) (hf : Ls.fit x) (how : ow < 65536) (h2 : -9223372036854775808 ≤ t) (h3 : t ≤ 9223372036854775807) :
    Calls Try.prog 97 #[.agg #[.int .u16 (x.o : Int), .int .i64 x.l], .int .u16 (ow : Int), .int .i64 t] w fun e w' => e = .returned (.tuple #[.agg #[.int .u16 ((Ls.take x ow t).1.o : Int), .int .i64 (Ls.take x ow t).1.l], .int .i64 (Ls.take x ow t).2]) ∧ Below w.heap.size w w' := by
  obtain ⟨c, hc⟩ : ∃ c, Ls.counted x = c := ⟨_, rfl⟩
  have kc := Lib.hid (fun w => counted_any x c w hf hc)
  have hr := Ls.right_counted x
  have hfc := Ls.counted_fit hf
  have hs : Ls.take x ow t = Ls.takeC c ow t := by rw [← hc]; rfl
  rw [hs]
  rw [hc] at hr hfc
  obtain ⟨o, l⟩ := c
  obtain ⟨f1, f2, f3⟩ := hfc
  simp only at f1 f2 f3
  have hrc := Ls.right_cases hr
  simp only at hrc
  clear hc hs hr
  by_cases h0 : ow = 0
  · subst h0
    rw [show Ls.takeC ⟨o, l⟩ 0 t = (⟨o, l⟩, 2) by simp [Ls.takeC]]
    clear hrc
    go_enter Try.func97, Try.ntmps97
    go_wp2_with fail
    refine (kc.out _).mono ?_
    rintro e_x1 w_x1 ⟨rfl, hb_x1⟩
    obtain ⟨x1, rfl⟩ := later_is hb_x1
    clear hb_x1
    have hz_x1 := x1.bel.size
    try simp at hz_x1
    have l_x1_0 : w.heap.size < x1.val.heap.size := by omega
    have m_x1_0 : w.heap.size < x1.val.heap.size + 1 := by omega
    have q_ := x1.bel.cell (p := ⟨w.heap.size, 0, none⟩) (by first | omega | (simp; done) | (simp; omega))
    generalize c_x1_0_0 : x1.val.cell? ⟨w.heap.size, 0, none⟩ = q at q_
    first | (have q2_ : q = some _ := q_; subst q2_) | (simp [go_sem] at q_; have q2_ : q = some _ := q_; subst q2_) | (simp [go_sem, *] at q_; have q2_ : q = some _ := q_; subst q2_)
    have q_ := x1.bel.frozen (p := ⟨w.heap.size, 0, none⟩) (by first | omega | (simp; done) | (simp; omega))
    generalize z_x1_0_0 : x1.val.frozen? ⟨w.heap.size, 0, none⟩ = q at q_
    first | (have q2_ : q = false := q_; subst q2_) | (simp [go_sem] at q_; have q2_ : q = false := q_; subst q2_) | (simp [go_sem, *] at q_; have q2_ : q = false := q_; subst q2_)
    have q_ := x1.bel.cell (p := ⟨w.heap.size, 1, none⟩) (by first | omega | (simp; done) | (simp; omega))
    generalize c_x1_0_1 : x1.val.cell? ⟨w.heap.size, 1, none⟩ = q at q_
    first | (have q2_ : q = some _ := q_; subst q2_) | (simp [go_sem] at q_; have q2_ : q = some _ := q_; subst q2_) | (simp [go_sem, *] at q_; have q2_ : q = some _ := q_; subst q2_)
    have q_ := x1.bel.frozen (p := ⟨w.heap.size, 1, none⟩) (by first | omega | (simp; done) | (simp; omega))
    generalize z_x1_0_1 : x1.val.frozen? ⟨w.heap.size, 1, none⟩ = q at q_
    first | (have q2_ : q = false := q_; subst q2_) | (simp [go_sem] at q_; have q2_ : q = false := q_; subst q2_) | (simp [go_sem, *] at q_; have q2_ : q = false := q_; subst q2_)
    have l_x1_1 : w.heap.size+1 < x1.val.heap.size := by omega
    have m_x1_1 : w.heap.size+1 < x1.val.heap.size + 1 := by omega
    have q_ := x1.bel.cell (p := ⟨w.heap.size+1, 0, none⟩) (by first | omega | (simp; done) | (simp; omega))
    generalize c_x1_1_0 : x1.val.cell? ⟨w.heap.size+1, 0, none⟩ = q at q_
    first | (have q2_ : q = some _ := q_; subst q2_) | (simp [go_sem] at q_; have q2_ : q = some _ := q_; subst q2_) | (simp [go_sem, *] at q_; have q2_ : q = some _ := q_; subst q2_)
    have q_ := x1.bel.frozen (p := ⟨w.heap.size+1, 0, none⟩) (by first | omega | (simp; done) | (simp; omega))
    generalize z_x1_1_0 : x1.val.frozen? ⟨w.heap.size+1, 0, none⟩ = q at q_
    first | (have q2_ : q = false := q_; subst q2_) | (simp [go_sem] at q_; have q2_ : q = false := q_; subst q2_) | (simp [go_sem, *] at q_; have q2_ : q = false := q_; subst q2_)
    have q_ := x1.bel.cell (p := ⟨w.heap.size+1, 1, none⟩) (by first | omega | (simp; done) | (simp; omega))
    generalize c_x1_1_1 : x1.val.cell? ⟨w.heap.size+1, 1, none⟩ = q at q_
    first | (have q2_ : q = some _ := q_; subst q2_) | (simp [go_sem] at q_; have q2_ : q = some _ := q_; subst q2_) | (simp [go_sem, *] at q_; have q2_ : q = some _ := q_; subst q2_)
    have q_ := x1.bel.frozen (p := ⟨w.heap.size+1, 1, none⟩) (by first | omega | (simp; done) | (simp; omega))
    generalize z_x1_1_1 : x1.val.frozen? ⟨w.heap.size+1, 1, none⟩ = q at q_
    first | (have q2_ : q = false := q_; subst q2_) | (simp [go_sem] at q_; have q2_ : q = false := q_; subst q2_) | (simp [go_sem, *] at q_; have q2_ : q = false := q_; subst q2_)
    go_wp2
    refine bodyPost_ret (v := .tuple #[.agg #[.int .u16 (o : Int), .int .i64 l], .int .i64 2]) (by simp [results, Try.results97, go_sem, *]) rfl ⟨rfl, (by repeat (first | with_reducible exact Below.refl _ _ | with_reducible refine bel_later _ ?_ | with_reducible refine bel_alloc ?_ _ | refine bel_set ?_ (by first | omega | (simp; done) | (simp; omega)) _ | with_reducible refine Below.drew ?_ | with_reducible refine bel_drewN ?_ _ | with_reducible assumption | assumption))⟩
  have h0' : ((ow : Int) == 0) = false := beq_eq_false_iff_ne.2 (by omega)
  by_cases h1 : t < 1
  · rw [show Ls.takeC ⟨o, l⟩ ow t = (⟨o, l⟩, 2) by simp [Ls.takeC, h1]]
    clear hrc
    go_enter Try.func97, Try.ntmps97
    go_wp2_with fail
    refine (kc.out _).mono ?_
    rintro e_x1 w_x1 ⟨rfl, hb_x1⟩
    obtain ⟨x1, rfl⟩ := later_is hb_x1
    clear hb_x1
    have hz_x1 := x1.bel.size
    try simp at hz_x1
    have l_x1_0 : w.heap.size < x1.val.heap.size := by omega
    have m_x1_0 : w.heap.size < x1.val.heap.size + 1 := by omega
    have q_ := x1.bel.cell (p := ⟨w.heap.size, 0, none⟩) (by first | omega | (simp; done) | (simp; omega))
    generalize c_x1_0_0 : x1.val.cell? ⟨w.heap.size, 0, none⟩ = q at q_
    first | (have q2_ : q = some _ := q_; subst q2_) | (simp [go_sem] at q_; have q2_ : q = some _ := q_; subst q2_) | (simp [go_sem, *] at q_; have q2_ : q = some _ := q_; subst q2_)
    have q_ := x1.bel.frozen (p := ⟨w.heap.size, 0, none⟩) (by first | omega | (simp; done) | (simp; omega))
    generalize z_x1_0_0 : x1.val.frozen? ⟨w.heap.size, 0, none⟩ = q at q_
    first | (have q2_ : q = false := q_; subst q2_) | (simp [go_sem] at q_; have q2_ : q = false := q_; subst q2_) | (simp [go_sem, *] at q_; have q2_ : q = false := q_; subst q2_)
    have q_ := x1.bel.cell (p := ⟨w.heap.size, 1, none⟩) (by first | omega | (simp; done) | (simp; omega))
    generalize c_x1_0_1 : x1.val.cell? ⟨w.heap.size, 1, none⟩ = q at q_
    first | (have q2_ : q = some _ := q_; subst q2_) | (simp [go_sem] at q_; have q2_ : q = some _ := q_; subst q2_) | (simp [go_sem, *] at q_; have q2_ : q = some _ := q_; subst q2_)
    have q_ := x1.bel.frozen (p := ⟨w.heap.size, 1, none⟩) (by first | omega | (simp; done) | (simp; omega))
    generalize z_x1_0_1 : x1.val.frozen? ⟨w.heap.size, 1, none⟩ = q at q_
    first | (have q2_ : q = false := q_; subst q2_) | (simp [go_sem] at q_; have q2_ : q = false := q_; subst q2_) | (simp [go_sem, *] at q_; have q2_ : q = false := q_; subst q2_)
    have l_x1_1 : w.heap.size+1 < x1.val.heap.size := by omega
    have m_x1_1 : w.heap.size+1 < x1.val.heap.size + 1 := by omega
    have q_ := x1.bel.cell (p := ⟨w.heap.size+1, 0, none⟩) (by first | omega | (simp; done) | (simp; omega))
    generalize c_x1_1_0 : x1.val.cell? ⟨w.heap.size+1, 0, none⟩ = q at q_
    first | (have q2_ : q = some _ := q_; subst q2_) | (simp [go_sem] at q_; have q2_ : q = some _ := q_; subst q2_) | (simp [go_sem, *] at q_; have q2_ : q = some _ := q_; subst q2_)
    have q_ := x1.bel.frozen (p := ⟨w.heap.size+1, 0, none⟩) (by first | omega | (simp; done) | (simp; omega))
    generalize z_x1_1_0 : x1.val.frozen? ⟨w.heap.size+1, 0, none⟩ = q at q_
    first | (have q2_ : q = false := q_; subst q2_) | (simp [go_sem] at q_; have q2_ : q = false := q_; subst q2_) | (simp [go_sem, *] at q_; have q2_ : q = false := q_; subst q2_)
    have q_ := x1.bel.cell (p := ⟨w.heap.size+1, 1, none⟩) (by first | omega | (simp; done) | (simp; omega))
    generalize c_x1_1_1 : x1.val.cell? ⟨w.heap.size+1, 1, none⟩ = q at q_
    first | (have q2_ : q = some _ := q_; subst q2_) | (simp [go_sem] at q_; have q2_ : q = some _ := q_; subst q2_) | (simp [go_sem, *] at q_; have q2_ : q = some _ := q_; subst q2_)
    have q_ := x1.bel.frozen (p := ⟨w.heap.size+1, 1, none⟩) (by first | omega | (simp; done) | (simp; omega))
    generalize z_x1_1_1 : x1.val.frozen? ⟨w.heap.size+1, 1, none⟩ = q at q_
    first | (have q2_ : q = false := q_; subst q2_) | (simp [go_sem] at q_; have q2_ : q = false := q_; subst q2_) | (simp [go_sem, *] at q_; have q2_ : q = false := q_; subst q2_)
    go_wp2
    refine bodyPost_ret (v := .tuple #[.agg #[.int .u16 (o : Int), .int .i64 l], .int .i64 2]) (by simp [results, Try.results97, go_sem, *]) rfl ⟨rfl, (by repeat (first | with_reducible exact Below.refl _ _ | with_reducible refine bel_later _ ?_ | with_reducible refine bel_alloc ?_ _ | refine bel_set ?_ (by first | omega | (simp; done) | (simp; omega)) _ | with_reducible refine Below.drew ?_ | with_reducible refine bel_drewN ?_ _ | with_reducible assumption | assumption))⟩
  have h1' : decide (t < 1) = false := by simp; omega
  by_cases hz : o = 0
  · obtain ⟨rfl, rfl⟩ : o = 0 ∧ l = 0 := by omega
    rw [show Ls.takeC ⟨0, 0⟩ ow t = (⟨ow, t⟩, 0) by simp [Ls.takeC, h0, h1]]
    clear hrc h1
    have q1 : ¬ (ow : Int) = 0 := by omega
    have q2 : ¬ (0 : Int) = (ow : Int) := by omega
    go_enter Try.func97, Try.ntmps97
    go_wp2_with fail
    refine (kc.out _).mono ?_
    rintro e_x1 w_x1 ⟨rfl, hb_x1⟩
    obtain ⟨x1, rfl⟩ := later_is hb_x1
    clear hb_x1
    have hz_x1 := x1.bel.size
    try simp at hz_x1
    have l_x1_0 : w.heap.size < x1.val.heap.size := by omega
    have m_x1_0 : w.heap.size < x1.val.heap.size + 1 := by omega
    have q_ := x1.bel.cell (p := ⟨w.heap.size, 0, none⟩) (by first | omega | (simp; done) | (simp; omega))
    generalize c_x1_0_0 : x1.val.cell? ⟨w.heap.size, 0, none⟩ = q at q_
    first | (have q2_ : q = some _ := q_; subst q2_) | (simp [go_sem] at q_; have q2_ : q = some _ := q_; subst q2_) | (simp [go_sem, *] at q_; have q2_ : q = some _ := q_; subst q2_)
    have q_ := x1.bel.frozen (p := ⟨w.heap.size, 0, none⟩) (by first | omega | (simp; done) | (simp; omega))
    generalize z_x1_0_0 : x1.val.frozen? ⟨w.heap.size, 0, none⟩ = q at q_
    first | (have q2_ : q = false := q_; subst q2_) | (simp [go_sem] at q_; have q2_ : q = false := q_; subst q2_) | (simp [go_sem, *] at q_; have q2_ : q = false := q_; subst q2_)
    have q_ := x1.bel.cell (p := ⟨w.heap.size, 1, none⟩) (by first | omega | (simp; done) | (simp; omega))
    generalize c_x1_0_1 : x1.val.cell? ⟨w.heap.size, 1, none⟩ = q at q_
    first | (have q2_ : q = some _ := q_; subst q2_) | (simp [go_sem] at q_; have q2_ : q = some _ := q_; subst q2_) | (simp [go_sem, *] at q_; have q2_ : q = some _ := q_; subst q2_)
    have q_ := x1.bel.frozen (p := ⟨w.heap.size, 1, none⟩) (by first | omega | (simp; done) | (simp; omega))
    generalize z_x1_0_1 : x1.val.frozen? ⟨w.heap.size, 1, none⟩ = q at q_
    first | (have q2_ : q = false := q_; subst q2_) | (simp [go_sem] at q_; have q2_ : q = false := q_; subst q2_) | (simp [go_sem, *] at q_; have q2_ : q = false := q_; subst q2_)
    have l_x1_1 : w.heap.size+1 < x1.val.heap.size := by omega
    have m_x1_1 : w.heap.size+1 < x1.val.heap.size + 1 := by omega
    have q_ := x1.bel.cell (p := ⟨w.heap.size+1, 0, none⟩) (by first | omega | (simp; done) | (simp; omega))
    generalize c_x1_1_0 : x1.val.cell? ⟨w.heap.size+1, 0, none⟩ = q at q_
    first | (have q2_ : q = some _ := q_; subst q2_) | (simp [go_sem] at q_; have q2_ : q = some _ := q_; subst q2_) | (simp [go_sem, *] at q_; have q2_ : q = some _ := q_; subst q2_)
    have q_ := x1.bel.frozen (p := ⟨w.heap.size+1, 0, none⟩) (by first | omega | (simp; done) | (simp; omega))
    generalize z_x1_1_0 : x1.val.frozen? ⟨w.heap.size+1, 0, none⟩ = q at q_
    first | (have q2_ : q = false := q_; subst q2_) | (simp [go_sem] at q_; have q2_ : q = false := q_; subst q2_) | (simp [go_sem, *] at q_; have q2_ : q = false := q_; subst q2_)
    have q_ := x1.bel.cell (p := ⟨w.heap.size+1, 1, none⟩) (by first | omega | (simp; done) | (simp; omega))
    generalize c_x1_1_1 : x1.val.cell? ⟨w.heap.size+1, 1, none⟩ = q at q_
    first | (have q2_ : q = some _ := q_; subst q2_) | (simp [go_sem] at q_; have q2_ : q = some _ := q_; subst q2_) | (simp [go_sem, *] at q_; have q2_ : q = some _ := q_; subst q2_)
    have q_ := x1.bel.frozen (p := ⟨w.heap.size+1, 1, none⟩) (by first | omega | (simp; done) | (simp; omega))
    generalize z_x1_1_1 : x1.val.frozen? ⟨w.heap.size+1, 1, none⟩ = q at q_
    first | (have q2_ : q = false := q_; subst q2_) | (simp [go_sem] at q_; have q2_ : q = false := q_; subst q2_) | (simp [go_sem, *] at q_; have q2_ : q = false := q_; subst q2_)
    go_wp2_with fail
    refine (free_eq ⟨0, 0⟩ true _ ⟨by decide, by decide, by decide⟩ rfl).mono ?_
    rintro e_x2 w_x2 ⟨rfl, hb_x2⟩
    obtain ⟨x2, rfl⟩ := later_is hb_x2
    clear hb_x2
    have hz_x2 := x2.bel.size
    try simp at hz_x2
    have l_x2_0 : w.heap.size < x2.val.heap.size := by omega
    have m_x2_0 : w.heap.size < x2.val.heap.size + 1 := by omega
    have q_ := x2.bel.cell (p := ⟨w.heap.size, 0, none⟩) (by first | omega | (simp; done) | (simp; omega))
    generalize c_x2_0_0 : x2.val.cell? ⟨w.heap.size, 0, none⟩ = q at q_
    first | (have q2_ : q = some _ := q_; subst q2_) | (simp [go_sem] at q_; have q2_ : q = some _ := q_; subst q2_) | (simp [go_sem, *] at q_; have q2_ : q = some _ := q_; subst q2_)
    have q_ := x2.bel.frozen (p := ⟨w.heap.size, 0, none⟩) (by first | omega | (simp; done) | (simp; omega))
    generalize z_x2_0_0 : x2.val.frozen? ⟨w.heap.size, 0, none⟩ = q at q_
    first | (have q2_ : q = false := q_; subst q2_) | (simp [go_sem] at q_; have q2_ : q = false := q_; subst q2_) | (simp [go_sem, *] at q_; have q2_ : q = false := q_; subst q2_)
    have q_ := x2.bel.cell (p := ⟨w.heap.size, 1, none⟩) (by first | omega | (simp; done) | (simp; omega))
    generalize c_x2_0_1 : x2.val.cell? ⟨w.heap.size, 1, none⟩ = q at q_
    first | (have q2_ : q = some _ := q_; subst q2_) | (simp [go_sem] at q_; have q2_ : q = some _ := q_; subst q2_) | (simp [go_sem, *] at q_; have q2_ : q = some _ := q_; subst q2_)
    have q_ := x2.bel.frozen (p := ⟨w.heap.size, 1, none⟩) (by first | omega | (simp; done) | (simp; omega))
    generalize z_x2_0_1 : x2.val.frozen? ⟨w.heap.size, 1, none⟩ = q at q_
    first | (have q2_ : q = false := q_; subst q2_) | (simp [go_sem] at q_; have q2_ : q = false := q_; subst q2_) | (simp [go_sem, *] at q_; have q2_ : q = false := q_; subst q2_)
    have l_x2_1 : w.heap.size+1 < x2.val.heap.size := by omega
    have m_x2_1 : w.heap.size+1 < x2.val.heap.size + 1 := by omega
    have q_ := x2.bel.cell (p := ⟨w.heap.size+1, 0, none⟩) (by first | omega | (simp; done) | (simp; omega))
    generalize c_x2_1_0 : x2.val.cell? ⟨w.heap.size+1, 0, none⟩ = q at q_
    first | (have q2_ : q = some _ := q_; subst q2_) | (simp [go_sem] at q_; have q2_ : q = some _ := q_; subst q2_) | (simp [go_sem, *] at q_; have q2_ : q = some _ := q_; subst q2_)
    have q_ := x2.bel.frozen (p := ⟨w.heap.size+1, 0, none⟩) (by first | omega | (simp; done) | (simp; omega))
    generalize z_x2_1_0 : x2.val.frozen? ⟨w.heap.size+1, 0, none⟩ = q at q_
    first | (have q2_ : q = false := q_; subst q2_) | (simp [go_sem] at q_; have q2_ : q = false := q_; subst q2_) | (simp [go_sem, *] at q_; have q2_ : q = false := q_; subst q2_)
    have q_ := x2.bel.cell (p := ⟨w.heap.size+1, 1, none⟩) (by first | omega | (simp; done) | (simp; omega))
    generalize c_x2_1_1 : x2.val.cell? ⟨w.heap.size+1, 1, none⟩ = q at q_
    first | (have q2_ : q = some _ := q_; subst q2_) | (simp [go_sem] at q_; have q2_ : q = some _ := q_; subst q2_) | (simp [go_sem, *] at q_; have q2_ : q = some _ := q_; subst q2_)
    have q_ := x2.bel.frozen (p := ⟨w.heap.size+1, 1, none⟩) (by first | omega | (simp; done) | (simp; omega))
    generalize z_x2_1_1 : x2.val.frozen? ⟨w.heap.size+1, 1, none⟩ = q at q_
    first | (have q2_ : q = false := q_; subst q2_) | (simp [go_sem] at q_; have q2_ : q = false := q_; subst q2_) | (simp [go_sem, *] at q_; have q2_ : q = false := q_; subst q2_)
    go_wp2
    refine wp_region_lat (by kernel_rfl) (by kernel_rfl) ?_
    repeat (go_big_quiet_step (fail))
    go_big_quiet_step (exact later_new (held_any _ _ how))
    repeat (go_big_quiet_step (fail))
    refine wpQuiet_nil ?_
    rintro _ ⟨x3, rfl⟩
    have hz_x3 := x3.bel.size
    try simp at hz_x3
    have l_x3_0 : w.heap.size < x3.val.heap.size := by omega
    have m_x3_0 : w.heap.size < x3.val.heap.size + 1 := by omega
    have q_ := x3.bel.cell (p := ⟨w.heap.size, 0, none⟩) (by first | omega | (simp; done) | (simp; omega))
    generalize c_x3_0_0 : x3.val.cell? ⟨w.heap.size, 0, none⟩ = q at q_
    first | (have q2_ : q = some _ := q_; subst q2_) | (simp [go_sem] at q_; have q2_ : q = some _ := q_; subst q2_) | (simp [go_sem, *] at q_; have q2_ : q = some _ := q_; subst q2_)
    have q_ := x3.bel.frozen (p := ⟨w.heap.size, 0, none⟩) (by first | omega | (simp; done) | (simp; omega))
    generalize z_x3_0_0 : x3.val.frozen? ⟨w.heap.size, 0, none⟩ = q at q_
    first | (have q2_ : q = false := q_; subst q2_) | (simp [go_sem] at q_; have q2_ : q = false := q_; subst q2_) | (simp [go_sem, *] at q_; have q2_ : q = false := q_; subst q2_)
    have q_ := x3.bel.cell (p := ⟨w.heap.size, 1, none⟩) (by first | omega | (simp; done) | (simp; omega))
    generalize c_x3_0_1 : x3.val.cell? ⟨w.heap.size, 1, none⟩ = q at q_
    first | (have q2_ : q = some _ := q_; subst q2_) | (simp [go_sem] at q_; have q2_ : q = some _ := q_; subst q2_) | (simp [go_sem, *] at q_; have q2_ : q = some _ := q_; subst q2_)
    have q_ := x3.bel.frozen (p := ⟨w.heap.size, 1, none⟩) (by first | omega | (simp; done) | (simp; omega))
    generalize z_x3_0_1 : x3.val.frozen? ⟨w.heap.size, 1, none⟩ = q at q_
    first | (have q2_ : q = false := q_; subst q2_) | (simp [go_sem] at q_; have q2_ : q = false := q_; subst q2_) | (simp [go_sem, *] at q_; have q2_ : q = false := q_; subst q2_)
    have l_x3_1 : w.heap.size+1 < x3.val.heap.size := by omega
    have m_x3_1 : w.heap.size+1 < x3.val.heap.size + 1 := by omega
    have q_ := x3.bel.cell (p := ⟨w.heap.size+1, 0, none⟩) (by first | omega | (simp; done) | (simp; omega))
    generalize c_x3_1_0 : x3.val.cell? ⟨w.heap.size+1, 0, none⟩ = q at q_
    first | (have q2_ : q = some _ := q_; subst q2_) | (simp [go_sem] at q_; have q2_ : q = some _ := q_; subst q2_) | (simp [go_sem, *] at q_; have q2_ : q = some _ := q_; subst q2_)
    have q_ := x3.bel.frozen (p := ⟨w.heap.size+1, 0, none⟩) (by first | omega | (simp; done) | (simp; omega))
    generalize z_x3_1_0 : x3.val.frozen? ⟨w.heap.size+1, 0, none⟩ = q at q_
    first | (have q2_ : q = false := q_; subst q2_) | (simp [go_sem] at q_; have q2_ : q = false := q_; subst q2_) | (simp [go_sem, *] at q_; have q2_ : q = false := q_; subst q2_)
    have q_ := x3.bel.cell (p := ⟨w.heap.size+1, 1, none⟩) (by first | omega | (simp; done) | (simp; omega))
    generalize c_x3_1_1 : x3.val.cell? ⟨w.heap.size+1, 1, none⟩ = q at q_
    first | (have q2_ : q = some _ := q_; subst q2_) | (simp [go_sem] at q_; have q2_ : q = some _ := q_; subst q2_) | (simp [go_sem, *] at q_; have q2_ : q = some _ := q_; subst q2_)
    have q_ := x3.bel.frozen (p := ⟨w.heap.size+1, 1, none⟩) (by first | omega | (simp; done) | (simp; omega))
    generalize z_x3_1_1 : x3.val.frozen? ⟨w.heap.size+1, 1, none⟩ = q at q_
    first | (have q2_ : q = false := q_; subst q2_) | (simp [go_sem] at q_; have q2_ : q = false := q_; subst q2_) | (simp [go_sem, *] at q_; have q2_ : q = false := q_; subst q2_)
    go_wp2
    refine bodyPost_ret (v := .tuple #[.agg #[.int .u16 (ow : Int), .int .i64 t], .int .i64 0]) (by simp [results, Try.results97, go_sem, *]) rfl ⟨rfl, (by repeat (first | with_reducible exact Below.refl _ _ | with_reducible refine bel_later _ ?_ | with_reducible refine bel_alloc ?_ _ | refine bel_set ?_ (by first | omega | (simp; done) | (simp; omega)) _ | with_reducible refine Below.drew ?_ | with_reducible refine bel_drewN ?_ _ | with_reducible assumption | assumption))⟩
  have hfr : Ls.free ⟨o, l⟩ = false := by
    have : Ls.right ⟨o, l⟩ = true := by rcases hrc with h | h | h
                                        · omega
                                        · exact Ls.right_of_runs h.1 h.2
                                        · exact Ls.right_of_held h.1 h.2
    simp [Ls.free, Ls.counted_of_right this, hz]
  have q1 : ¬ (o : Int) = 0 := by omega
  have q3 : ((o : Int) == 0) = false := beq_eq_false_iff_ne.2 (by omega)
  by_cases hw : o = ow
  · subst hw
    by_cases hm : l = -1
    · subst hm
      rw [show Ls.takeC ⟨o, -1⟩ o t = (⟨o, -1⟩, 0) by simp [Ls.takeC, h0, h1]]
      have kf := Lib.hid (fun w => free_eq ⟨o, -1⟩ false w ⟨f1, f2, f3⟩ hfr)
      clear hrc h1 hfr
      go_enter Try.func97, Try.ntmps97
      go_wp2_with fail
      refine (kc.out _).mono ?_
      rintro e_x1 w_x1 ⟨rfl, hb_x1⟩
      obtain ⟨x1, rfl⟩ := later_is hb_x1
      clear hb_x1
      have hz_x1 := x1.bel.size
      try simp at hz_x1
      have l_x1_0 : w.heap.size < x1.val.heap.size := by omega
      have m_x1_0 : w.heap.size < x1.val.heap.size + 1 := by omega
      have q_ := x1.bel.cell (p := ⟨w.heap.size, 0, none⟩) (by first | omega | (simp; done) | (simp; omega))
      generalize c_x1_0_0 : x1.val.cell? ⟨w.heap.size, 0, none⟩ = q at q_
      first | (have q2_ : q = some _ := q_; subst q2_) | (simp [go_sem] at q_; have q2_ : q = some _ := q_; subst q2_) | (simp [go_sem, *] at q_; have q2_ : q = some _ := q_; subst q2_)
      have q_ := x1.bel.frozen (p := ⟨w.heap.size, 0, none⟩) (by first | omega | (simp; done) | (simp; omega))
      generalize z_x1_0_0 : x1.val.frozen? ⟨w.heap.size, 0, none⟩ = q at q_
      first | (have q2_ : q = false := q_; subst q2_) | (simp [go_sem] at q_; have q2_ : q = false := q_; subst q2_) | (simp [go_sem, *] at q_; have q2_ : q = false := q_; subst q2_)
      have q_ := x1.bel.cell (p := ⟨w.heap.size, 1, none⟩) (by first | omega | (simp; done) | (simp; omega))
      generalize c_x1_0_1 : x1.val.cell? ⟨w.heap.size, 1, none⟩ = q at q_
      first | (have q2_ : q = some _ := q_; subst q2_) | (simp [go_sem] at q_; have q2_ : q = some _ := q_; subst q2_) | (simp [go_sem, *] at q_; have q2_ : q = some _ := q_; subst q2_)
      have q_ := x1.bel.frozen (p := ⟨w.heap.size, 1, none⟩) (by first | omega | (simp; done) | (simp; omega))
      generalize z_x1_0_1 : x1.val.frozen? ⟨w.heap.size, 1, none⟩ = q at q_
      first | (have q2_ : q = false := q_; subst q2_) | (simp [go_sem] at q_; have q2_ : q = false := q_; subst q2_) | (simp [go_sem, *] at q_; have q2_ : q = false := q_; subst q2_)
      have l_x1_1 : w.heap.size+1 < x1.val.heap.size := by omega
      have m_x1_1 : w.heap.size+1 < x1.val.heap.size + 1 := by omega
      have q_ := x1.bel.cell (p := ⟨w.heap.size+1, 0, none⟩) (by first | omega | (simp; done) | (simp; omega))
      generalize c_x1_1_0 : x1.val.cell? ⟨w.heap.size+1, 0, none⟩ = q at q_
      first | (have q2_ : q = some _ := q_; subst q2_) | (simp [go_sem] at q_; have q2_ : q = some _ := q_; subst q2_) | (simp [go_sem, *] at q_; have q2_ : q = some _ := q_; subst q2_)
      have q_ := x1.bel.frozen (p := ⟨w.heap.size+1, 0, none⟩) (by first | omega | (simp; done) | (simp; omega))
      generalize z_x1_1_0 : x1.val.frozen? ⟨w.heap.size+1, 0, none⟩ = q at q_
      first | (have q2_ : q = false := q_; subst q2_) | (simp [go_sem] at q_; have q2_ : q = false := q_; subst q2_) | (simp [go_sem, *] at q_; have q2_ : q = false := q_; subst q2_)
      have q_ := x1.bel.cell (p := ⟨w.heap.size+1, 1, none⟩) (by first | omega | (simp; done) | (simp; omega))
      generalize c_x1_1_1 : x1.val.cell? ⟨w.heap.size+1, 1, none⟩ = q at q_
      first | (have q2_ : q = some _ := q_; subst q2_) | (simp [go_sem] at q_; have q2_ : q = some _ := q_; subst q2_) | (simp [go_sem, *] at q_; have q2_ : q = some _ := q_; subst q2_)
      have q_ := x1.bel.frozen (p := ⟨w.heap.size+1, 1, none⟩) (by first | omega | (simp; done) | (simp; omega))
      generalize z_x1_1_1 : x1.val.frozen? ⟨w.heap.size+1, 1, none⟩ = q at q_
      first | (have q2_ : q = false := q_; subst q2_) | (simp [go_sem] at q_; have q2_ : q = false := q_; subst q2_) | (simp [go_sem, *] at q_; have q2_ : q = false := q_; subst q2_)
      go_wp2_with fail
      refine (kf.out _).mono ?_
      rintro e_x2 w_x2 ⟨rfl, hb_x2⟩
      obtain ⟨x2, rfl⟩ := later_is hb_x2
      clear hb_x2
      have hz_x2 := x2.bel.size
      try simp at hz_x2
      have l_x2_0 : w.heap.size < x2.val.heap.size := by omega
      have m_x2_0 : w.heap.size < x2.val.heap.size + 1 := by omega
      have q_ := x2.bel.cell (p := ⟨w.heap.size, 0, none⟩) (by first | omega | (simp; done) | (simp; omega))
      generalize c_x2_0_0 : x2.val.cell? ⟨w.heap.size, 0, none⟩ = q at q_
      first | (have q2_ : q = some _ := q_; subst q2_) | (simp [go_sem] at q_; have q2_ : q = some _ := q_; subst q2_) | (simp [go_sem, *] at q_; have q2_ : q = some _ := q_; subst q2_)
      have q_ := x2.bel.frozen (p := ⟨w.heap.size, 0, none⟩) (by first | omega | (simp; done) | (simp; omega))
      generalize z_x2_0_0 : x2.val.frozen? ⟨w.heap.size, 0, none⟩ = q at q_
      first | (have q2_ : q = false := q_; subst q2_) | (simp [go_sem] at q_; have q2_ : q = false := q_; subst q2_) | (simp [go_sem, *] at q_; have q2_ : q = false := q_; subst q2_)
      have q_ := x2.bel.cell (p := ⟨w.heap.size, 1, none⟩) (by first | omega | (simp; done) | (simp; omega))
      generalize c_x2_0_1 : x2.val.cell? ⟨w.heap.size, 1, none⟩ = q at q_
      first | (have q2_ : q = some _ := q_; subst q2_) | (simp [go_sem] at q_; have q2_ : q = some _ := q_; subst q2_) | (simp [go_sem, *] at q_; have q2_ : q = some _ := q_; subst q2_)
      have q_ := x2.bel.frozen (p := ⟨w.heap.size, 1, none⟩) (by first | omega | (simp; done) | (simp; omega))
      generalize z_x2_0_1 : x2.val.frozen? ⟨w.heap.size, 1, none⟩ = q at q_
      first | (have q2_ : q = false := q_; subst q2_) | (simp [go_sem] at q_; have q2_ : q = false := q_; subst q2_) | (simp [go_sem, *] at q_; have q2_ : q = false := q_; subst q2_)
      have l_x2_1 : w.heap.size+1 < x2.val.heap.size := by omega
      have m_x2_1 : w.heap.size+1 < x2.val.heap.size + 1 := by omega
      have q_ := x2.bel.cell (p := ⟨w.heap.size+1, 0, none⟩) (by first | omega | (simp; done) | (simp; omega))
      generalize c_x2_1_0 : x2.val.cell? ⟨w.heap.size+1, 0, none⟩ = q at q_
      first | (have q2_ : q = some _ := q_; subst q2_) | (simp [go_sem] at q_; have q2_ : q = some _ := q_; subst q2_) | (simp [go_sem, *] at q_; have q2_ : q = some _ := q_; subst q2_)
      have q_ := x2.bel.frozen (p := ⟨w.heap.size+1, 0, none⟩) (by first | omega | (simp; done) | (simp; omega))
      generalize z_x2_1_0 : x2.val.frozen? ⟨w.heap.size+1, 0, none⟩ = q at q_
      first | (have q2_ : q = false := q_; subst q2_) | (simp [go_sem] at q_; have q2_ : q = false := q_; subst q2_) | (simp [go_sem, *] at q_; have q2_ : q = false := q_; subst q2_)
      have q_ := x2.bel.cell (p := ⟨w.heap.size+1, 1, none⟩) (by first | omega | (simp; done) | (simp; omega))
      generalize c_x2_1_1 : x2.val.cell? ⟨w.heap.size+1, 1, none⟩ = q at q_
      first | (have q2_ : q = some _ := q_; subst q2_) | (simp [go_sem] at q_; have q2_ : q = some _ := q_; subst q2_) | (simp [go_sem, *] at q_; have q2_ : q = some _ := q_; subst q2_)
      have q_ := x2.bel.frozen (p := ⟨w.heap.size+1, 1, none⟩) (by first | omega | (simp; done) | (simp; omega))
      generalize z_x2_1_1 : x2.val.frozen? ⟨w.heap.size+1, 1, none⟩ = q at q_
      first | (have q2_ : q = false := q_; subst q2_) | (simp [go_sem] at q_; have q2_ : q = false := q_; subst q2_) | (simp [go_sem, *] at q_; have q2_ : q = false := q_; subst q2_)
      go_wp2
      refine wp_region_lat (by kernel_rfl) (by kernel_rfl) ?_
      repeat (go_big_quiet_step (fail))
      go_big_quiet_step (exact later_new (held_any _ _ how))
      repeat (go_big_quiet_step (fail))
      refine wpQuiet_nil ?_
      rintro _ ⟨x3, rfl⟩
      have hz_x3 := x3.bel.size
      try simp at hz_x3
      have l_x3_0 : w.heap.size < x3.val.heap.size := by omega
      have m_x3_0 : w.heap.size < x3.val.heap.size + 1 := by omega
      have q_ := x3.bel.cell (p := ⟨w.heap.size, 0, none⟩) (by first | omega | (simp; done) | (simp; omega))
      generalize c_x3_0_0 : x3.val.cell? ⟨w.heap.size, 0, none⟩ = q at q_
      first | (have q2_ : q = some _ := q_; subst q2_) | (simp [go_sem] at q_; have q2_ : q = some _ := q_; subst q2_) | (simp [go_sem, *] at q_; have q2_ : q = some _ := q_; subst q2_)
      have q_ := x3.bel.frozen (p := ⟨w.heap.size, 0, none⟩) (by first | omega | (simp; done) | (simp; omega))
      generalize z_x3_0_0 : x3.val.frozen? ⟨w.heap.size, 0, none⟩ = q at q_
      first | (have q2_ : q = false := q_; subst q2_) | (simp [go_sem] at q_; have q2_ : q = false := q_; subst q2_) | (simp [go_sem, *] at q_; have q2_ : q = false := q_; subst q2_)
      have q_ := x3.bel.cell (p := ⟨w.heap.size, 1, none⟩) (by first | omega | (simp; done) | (simp; omega))
      generalize c_x3_0_1 : x3.val.cell? ⟨w.heap.size, 1, none⟩ = q at q_
      first | (have q2_ : q = some _ := q_; subst q2_) | (simp [go_sem] at q_; have q2_ : q = some _ := q_; subst q2_) | (simp [go_sem, *] at q_; have q2_ : q = some _ := q_; subst q2_)
      have q_ := x3.bel.frozen (p := ⟨w.heap.size, 1, none⟩) (by first | omega | (simp; done) | (simp; omega))
      generalize z_x3_0_1 : x3.val.frozen? ⟨w.heap.size, 1, none⟩ = q at q_
      first | (have q2_ : q = false := q_; subst q2_) | (simp [go_sem] at q_; have q2_ : q = false := q_; subst q2_) | (simp [go_sem, *] at q_; have q2_ : q = false := q_; subst q2_)
      have l_x3_1 : w.heap.size+1 < x3.val.heap.size := by omega
      have m_x3_1 : w.heap.size+1 < x3.val.heap.size + 1 := by omega
      have q_ := x3.bel.cell (p := ⟨w.heap.size+1, 0, none⟩) (by first | omega | (simp; done) | (simp; omega))
      generalize c_x3_1_0 : x3.val.cell? ⟨w.heap.size+1, 0, none⟩ = q at q_
      first | (have q2_ : q = some _ := q_; subst q2_) | (simp [go_sem] at q_; have q2_ : q = some _ := q_; subst q2_) | (simp [go_sem, *] at q_; have q2_ : q = some _ := q_; subst q2_)
      have q_ := x3.bel.frozen (p := ⟨w.heap.size+1, 0, none⟩) (by first | omega | (simp; done) | (simp; omega))
      generalize z_x3_1_0 : x3.val.frozen? ⟨w.heap.size+1, 0, none⟩ = q at q_
      first | (have q2_ : q = false := q_; subst q2_) | (simp [go_sem] at q_; have q2_ : q = false := q_; subst q2_) | (simp [go_sem, *] at q_; have q2_ : q = false := q_; subst q2_)
      have q_ := x3.bel.cell (p := ⟨w.heap.size+1, 1, none⟩) (by first | omega | (simp; done) | (simp; omega))
      generalize c_x3_1_1 : x3.val.cell? ⟨w.heap.size+1, 1, none⟩ = q at q_
      first | (have q2_ : q = some _ := q_; subst q2_) | (simp [go_sem] at q_; have q2_ : q = some _ := q_; subst q2_) | (simp [go_sem, *] at q_; have q2_ : q = some _ := q_; subst q2_)
      have q_ := x3.bel.frozen (p := ⟨w.heap.size+1, 1, none⟩) (by first | omega | (simp; done) | (simp; omega))
      generalize z_x3_1_1 : x3.val.frozen? ⟨w.heap.size+1, 1, none⟩ = q at q_
      first | (have q2_ : q = false := q_; subst q2_) | (simp [go_sem] at q_; have q2_ : q = false := q_; subst q2_) | (simp [go_sem, *] at q_; have q2_ : q = false := q_; subst q2_)
      go_wp2
      refine bodyPost_ret (v := .tuple #[.agg #[.int .u16 (o : Int), .int .i64 (-1)], .int .i64 0]) (by simp [results, Try.results97, go_sem, *]) rfl ⟨rfl, (by repeat (first | with_reducible exact Below.refl _ _ | with_reducible refine bel_later _ ?_ | with_reducible refine bel_alloc ?_ _ | refine bel_set ?_ (by first | omega | (simp; done) | (simp; omega)) _ | with_reducible refine Below.drew ?_ | with_reducible refine bel_drewN ?_ _ | with_reducible assumption | assumption))⟩
    · rw [show Ls.takeC ⟨o, l⟩ o t = (⟨o, t⟩, 0) by simp [Ls.takeC, h0, h1, hm]]
      have kf := Lib.hid (fun w => free_eq ⟨o, l⟩ false w ⟨f1, f2, f3⟩ hfr)
      have hm' : (l == -1) = false := beq_eq_false_iff_ne.2 hm
      clear hrc h1 hfr
      go_enter Try.func97, Try.ntmps97
      go_wp2_with fail
      refine (kc.out _).mono ?_
      rintro e_x1 w_x1 ⟨rfl, hb_x1⟩
      obtain ⟨x1, rfl⟩ := later_is hb_x1
      clear hb_x1
      have hz_x1 := x1.bel.size
      try simp at hz_x1
      have l_x1_0 : w.heap.size < x1.val.heap.size := by omega
      have m_x1_0 : w.heap.size < x1.val.heap.size + 1 := by omega
      have q_ := x1.bel.cell (p := ⟨w.heap.size, 0, none⟩) (by first | omega | (simp; done) | (simp; omega))
      generalize c_x1_0_0 : x1.val.cell? ⟨w.heap.size, 0, none⟩ = q at q_
      first | (have q2_ : q = some _ := q_; subst q2_) | (simp [go_sem] at q_; have q2_ : q = some _ := q_; subst q2_) | (simp [go_sem, *] at q_; have q2_ : q = some _ := q_; subst q2_)
      have q_ := x1.bel.frozen (p := ⟨w.heap.size, 0, none⟩) (by first | omega | (simp; done) | (simp; omega))
      generalize z_x1_0_0 : x1.val.frozen? ⟨w.heap.size, 0, none⟩ = q at q_
      first | (have q2_ : q = false := q_; subst q2_) | (simp [go_sem] at q_; have q2_ : q = false := q_; subst q2_) | (simp [go_sem, *] at q_; have q2_ : q = false := q_; subst q2_)
      have q_ := x1.bel.cell (p := ⟨w.heap.size, 1, none⟩) (by first | omega | (simp; done) | (simp; omega))
      generalize c_x1_0_1 : x1.val.cell? ⟨w.heap.size, 1, none⟩ = q at q_
      first | (have q2_ : q = some _ := q_; subst q2_) | (simp [go_sem] at q_; have q2_ : q = some _ := q_; subst q2_) | (simp [go_sem, *] at q_; have q2_ : q = some _ := q_; subst q2_)
      have q_ := x1.bel.frozen (p := ⟨w.heap.size, 1, none⟩) (by first | omega | (simp; done) | (simp; omega))
      generalize z_x1_0_1 : x1.val.frozen? ⟨w.heap.size, 1, none⟩ = q at q_
      first | (have q2_ : q = false := q_; subst q2_) | (simp [go_sem] at q_; have q2_ : q = false := q_; subst q2_) | (simp [go_sem, *] at q_; have q2_ : q = false := q_; subst q2_)
      have l_x1_1 : w.heap.size+1 < x1.val.heap.size := by omega
      have m_x1_1 : w.heap.size+1 < x1.val.heap.size + 1 := by omega
      have q_ := x1.bel.cell (p := ⟨w.heap.size+1, 0, none⟩) (by first | omega | (simp; done) | (simp; omega))
      generalize c_x1_1_0 : x1.val.cell? ⟨w.heap.size+1, 0, none⟩ = q at q_
      first | (have q2_ : q = some _ := q_; subst q2_) | (simp [go_sem] at q_; have q2_ : q = some _ := q_; subst q2_) | (simp [go_sem, *] at q_; have q2_ : q = some _ := q_; subst q2_)
      have q_ := x1.bel.frozen (p := ⟨w.heap.size+1, 0, none⟩) (by first | omega | (simp; done) | (simp; omega))
      generalize z_x1_1_0 : x1.val.frozen? ⟨w.heap.size+1, 0, none⟩ = q at q_
      first | (have q2_ : q = false := q_; subst q2_) | (simp [go_sem] at q_; have q2_ : q = false := q_; subst q2_) | (simp [go_sem, *] at q_; have q2_ : q = false := q_; subst q2_)
      have q_ := x1.bel.cell (p := ⟨w.heap.size+1, 1, none⟩) (by first | omega | (simp; done) | (simp; omega))
      generalize c_x1_1_1 : x1.val.cell? ⟨w.heap.size+1, 1, none⟩ = q at q_
      first | (have q2_ : q = some _ := q_; subst q2_) | (simp [go_sem] at q_; have q2_ : q = some _ := q_; subst q2_) | (simp [go_sem, *] at q_; have q2_ : q = some _ := q_; subst q2_)
      have q_ := x1.bel.frozen (p := ⟨w.heap.size+1, 1, none⟩) (by first | omega | (simp; done) | (simp; omega))
      generalize z_x1_1_1 : x1.val.frozen? ⟨w.heap.size+1, 1, none⟩ = q at q_
      first | (have q2_ : q = false := q_; subst q2_) | (simp [go_sem] at q_; have q2_ : q = false := q_; subst q2_) | (simp [go_sem, *] at q_; have q2_ : q = false := q_; subst q2_)
      go_wp2_with fail
      refine (kf.out _).mono ?_
      rintro e_x2 w_x2 ⟨rfl, hb_x2⟩
      obtain ⟨x2, rfl⟩ := later_is hb_x2
      clear hb_x2
      have hz_x2 := x2.bel.size
      try simp at hz_x2
      have l_x2_0 : w.heap.size < x2.val.heap.size := by omega
      have m_x2_0 : w.heap.size < x2.val.heap.size + 1 := by omega
      have q_ := x2.bel.cell (p := ⟨w.heap.size, 0, none⟩) (by first | omega | (simp; done) | (simp; omega))
      generalize c_x2_0_0 : x2.val.cell? ⟨w.heap.size, 0, none⟩ = q at q_
      first | (have q2_ : q = some _ := q_; subst q2_) | (simp [go_sem] at q_; have q2_ : q = some _ := q_; subst q2_) | (simp [go_sem, *] at q_; have q2_ : q = some _ := q_; subst q2_)
      have q_ := x2.bel.frozen (p := ⟨w.heap.size, 0, none⟩) (by first | omega | (simp; done) | (simp; omega))
      generalize z_x2_0_0 : x2.val.frozen? ⟨w.heap.size, 0, none⟩ = q at q_
      first | (have q2_ : q = false := q_; subst q2_) | (simp [go_sem] at q_; have q2_ : q = false := q_; subst q2_) | (simp [go_sem, *] at q_; have q2_ : q = false := q_; subst q2_)
      have q_ := x2.bel.cell (p := ⟨w.heap.size, 1, none⟩) (by first | omega | (simp; done) | (simp; omega))
      generalize c_x2_0_1 : x2.val.cell? ⟨w.heap.size, 1, none⟩ = q at q_
      first | (have q2_ : q = some _ := q_; subst q2_) | (simp [go_sem] at q_; have q2_ : q = some _ := q_; subst q2_) | (simp [go_sem, *] at q_; have q2_ : q = some _ := q_; subst q2_)
      have q_ := x2.bel.frozen (p := ⟨w.heap.size, 1, none⟩) (by first | omega | (simp; done) | (simp; omega))
      generalize z_x2_0_1 : x2.val.frozen? ⟨w.heap.size, 1, none⟩ = q at q_
      first | (have q2_ : q = false := q_; subst q2_) | (simp [go_sem] at q_; have q2_ : q = false := q_; subst q2_) | (simp [go_sem, *] at q_; have q2_ : q = false := q_; subst q2_)
      have l_x2_1 : w.heap.size+1 < x2.val.heap.size := by omega
      have m_x2_1 : w.heap.size+1 < x2.val.heap.size + 1 := by omega
      have q_ := x2.bel.cell (p := ⟨w.heap.size+1, 0, none⟩) (by first | omega | (simp; done) | (simp; omega))
      generalize c_x2_1_0 : x2.val.cell? ⟨w.heap.size+1, 0, none⟩ = q at q_
      first | (have q2_ : q = some _ := q_; subst q2_) | (simp [go_sem] at q_; have q2_ : q = some _ := q_; subst q2_) | (simp [go_sem, *] at q_; have q2_ : q = some _ := q_; subst q2_)
      have q_ := x2.bel.frozen (p := ⟨w.heap.size+1, 0, none⟩) (by first | omega | (simp; done) | (simp; omega))
      generalize z_x2_1_0 : x2.val.frozen? ⟨w.heap.size+1, 0, none⟩ = q at q_
      first | (have q2_ : q = false := q_; subst q2_) | (simp [go_sem] at q_; have q2_ : q = false := q_; subst q2_) | (simp [go_sem, *] at q_; have q2_ : q = false := q_; subst q2_)
      have q_ := x2.bel.cell (p := ⟨w.heap.size+1, 1, none⟩) (by first | omega | (simp; done) | (simp; omega))
      generalize c_x2_1_1 : x2.val.cell? ⟨w.heap.size+1, 1, none⟩ = q at q_
      first | (have q2_ : q = some _ := q_; subst q2_) | (simp [go_sem] at q_; have q2_ : q = some _ := q_; subst q2_) | (simp [go_sem, *] at q_; have q2_ : q = some _ := q_; subst q2_)
      have q_ := x2.bel.frozen (p := ⟨w.heap.size+1, 1, none⟩) (by first | omega | (simp; done) | (simp; omega))
      generalize z_x2_1_1 : x2.val.frozen? ⟨w.heap.size+1, 1, none⟩ = q at q_
      first | (have q2_ : q = false := q_; subst q2_) | (simp [go_sem] at q_; have q2_ : q = false := q_; subst q2_) | (simp [go_sem, *] at q_; have q2_ : q = false := q_; subst q2_)
      go_wp2
      refine wp_region_lat (by kernel_rfl) (by kernel_rfl) ?_
      repeat (go_big_quiet_step (fail))
      go_big_quiet_step (exact later_new (held_any _ _ how))
      repeat (go_big_quiet_step (fail))
      refine wpQuiet_nil ?_
      rintro _ ⟨x3, rfl⟩
      have hz_x3 := x3.bel.size
      try simp at hz_x3
      have l_x3_0 : w.heap.size < x3.val.heap.size := by omega
      have m_x3_0 : w.heap.size < x3.val.heap.size + 1 := by omega
      have q_ := x3.bel.cell (p := ⟨w.heap.size, 0, none⟩) (by first | omega | (simp; done) | (simp; omega))
      generalize c_x3_0_0 : x3.val.cell? ⟨w.heap.size, 0, none⟩ = q at q_
      first | (have q2_ : q = some _ := q_; subst q2_) | (simp [go_sem] at q_; have q2_ : q = some _ := q_; subst q2_) | (simp [go_sem, *] at q_; have q2_ : q = some _ := q_; subst q2_)
      have q_ := x3.bel.frozen (p := ⟨w.heap.size, 0, none⟩) (by first | omega | (simp; done) | (simp; omega))
      generalize z_x3_0_0 : x3.val.frozen? ⟨w.heap.size, 0, none⟩ = q at q_
      first | (have q2_ : q = false := q_; subst q2_) | (simp [go_sem] at q_; have q2_ : q = false := q_; subst q2_) | (simp [go_sem, *] at q_; have q2_ : q = false := q_; subst q2_)
      have q_ := x3.bel.cell (p := ⟨w.heap.size, 1, none⟩) (by first | omega | (simp; done) | (simp; omega))
      generalize c_x3_0_1 : x3.val.cell? ⟨w.heap.size, 1, none⟩ = q at q_
      first | (have q2_ : q = some _ := q_; subst q2_) | (simp [go_sem] at q_; have q2_ : q = some _ := q_; subst q2_) | (simp [go_sem, *] at q_; have q2_ : q = some _ := q_; subst q2_)
      have q_ := x3.bel.frozen (p := ⟨w.heap.size, 1, none⟩) (by first | omega | (simp; done) | (simp; omega))
      generalize z_x3_0_1 : x3.val.frozen? ⟨w.heap.size, 1, none⟩ = q at q_
      first | (have q2_ : q = false := q_; subst q2_) | (simp [go_sem] at q_; have q2_ : q = false := q_; subst q2_) | (simp [go_sem, *] at q_; have q2_ : q = false := q_; subst q2_)
      have l_x3_1 : w.heap.size+1 < x3.val.heap.size := by omega
      have m_x3_1 : w.heap.size+1 < x3.val.heap.size + 1 := by omega
      have q_ := x3.bel.cell (p := ⟨w.heap.size+1, 0, none⟩) (by first | omega | (simp; done) | (simp; omega))
      generalize c_x3_1_0 : x3.val.cell? ⟨w.heap.size+1, 0, none⟩ = q at q_
      first | (have q2_ : q = some _ := q_; subst q2_) | (simp [go_sem] at q_; have q2_ : q = some _ := q_; subst q2_) | (simp [go_sem, *] at q_; have q2_ : q = some _ := q_; subst q2_)
      have q_ := x3.bel.frozen (p := ⟨w.heap.size+1, 0, none⟩) (by first | omega | (simp; done) | (simp; omega))
      generalize z_x3_1_0 : x3.val.frozen? ⟨w.heap.size+1, 0, none⟩ = q at q_
      first | (have q2_ : q = false := q_; subst q2_) | (simp [go_sem] at q_; have q2_ : q = false := q_; subst q2_) | (simp [go_sem, *] at q_; have q2_ : q = false := q_; subst q2_)
      have q_ := x3.bel.cell (p := ⟨w.heap.size+1, 1, none⟩) (by first | omega | (simp; done) | (simp; omega))
      generalize c_x3_1_1 : x3.val.cell? ⟨w.heap.size+1, 1, none⟩ = q at q_
      first | (have q2_ : q = some _ := q_; subst q2_) | (simp [go_sem] at q_; have q2_ : q = some _ := q_; subst q2_) | (simp [go_sem, *] at q_; have q2_ : q = some _ := q_; subst q2_)
      have q_ := x3.bel.frozen (p := ⟨w.heap.size+1, 1, none⟩) (by first | omega | (simp; done) | (simp; omega))
      generalize z_x3_1_1 : x3.val.frozen? ⟨w.heap.size+1, 1, none⟩ = q at q_
      first | (have q2_ : q = false := q_; subst q2_) | (simp [go_sem] at q_; have q2_ : q = false := q_; subst q2_) | (simp [go_sem, *] at q_; have q2_ : q = false := q_; subst q2_)
      go_wp2
      refine bodyPost_ret (v := .tuple #[.agg #[.int .u16 (o : Int), .int .i64 t], .int .i64 0]) (by simp [results, Try.results97, go_sem, *]) rfl ⟨rfl, (by repeat (first | with_reducible exact Below.refl _ _ | with_reducible refine bel_later _ ?_ | with_reducible refine bel_alloc ?_ _ | refine bel_set ?_ (by first | omega | (simp; done) | (simp; omega)) _ | with_reducible refine Below.drew ?_ | with_reducible refine bel_drewN ?_ _ | with_reducible assumption | assumption))⟩
  · rw [show Ls.takeC ⟨o, l⟩ ow t = (⟨o, l⟩, 22) by simp [Ls.takeC, h0, h1, hz, hw]]
    have kf := Lib.hid (fun w => free_eq ⟨o, l⟩ false w ⟨f1, f2, f3⟩ hfr)
    have hw' : ((o : Int) != (ow : Int)) = true := by rw [bne_iff_ne]; omega
    have hw2 : ((o : Int) == (ow : Int)) = false := beq_eq_false_iff_ne.2 (by omega)
    clear hrc h1 hfr
    go_enter Try.func97, Try.ntmps97
    go_wp2_with fail
    refine (kc.out _).mono ?_
    rintro e_x1 w_x1 ⟨rfl, hb_x1⟩
    obtain ⟨x1, rfl⟩ := later_is hb_x1
    clear hb_x1
    have hz_x1 := x1.bel.size
    try simp at hz_x1
    have l_x1_0 : w.heap.size < x1.val.heap.size := by omega
    have m_x1_0 : w.heap.size < x1.val.heap.size + 1 := by omega
    have q_ := x1.bel.cell (p := ⟨w.heap.size, 0, none⟩) (by first | omega | (simp; done) | (simp; omega))
    generalize c_x1_0_0 : x1.val.cell? ⟨w.heap.size, 0, none⟩ = q at q_
    first | (have q2_ : q = some _ := q_; subst q2_) | (simp [go_sem] at q_; have q2_ : q = some _ := q_; subst q2_) | (simp [go_sem, *] at q_; have q2_ : q = some _ := q_; subst q2_)
    have q_ := x1.bel.frozen (p := ⟨w.heap.size, 0, none⟩) (by first | omega | (simp; done) | (simp; omega))
    generalize z_x1_0_0 : x1.val.frozen? ⟨w.heap.size, 0, none⟩ = q at q_
    first | (have q2_ : q = false := q_; subst q2_) | (simp [go_sem] at q_; have q2_ : q = false := q_; subst q2_) | (simp [go_sem, *] at q_; have q2_ : q = false := q_; subst q2_)
    have q_ := x1.bel.cell (p := ⟨w.heap.size, 1, none⟩) (by first | omega | (simp; done) | (simp; omega))
    generalize c_x1_0_1 : x1.val.cell? ⟨w.heap.size, 1, none⟩ = q at q_
    first | (have q2_ : q = some _ := q_; subst q2_) | (simp [go_sem] at q_; have q2_ : q = some _ := q_; subst q2_) | (simp [go_sem, *] at q_; have q2_ : q = some _ := q_; subst q2_)
    have q_ := x1.bel.frozen (p := ⟨w.heap.size, 1, none⟩) (by first | omega | (simp; done) | (simp; omega))
    generalize z_x1_0_1 : x1.val.frozen? ⟨w.heap.size, 1, none⟩ = q at q_
    first | (have q2_ : q = false := q_; subst q2_) | (simp [go_sem] at q_; have q2_ : q = false := q_; subst q2_) | (simp [go_sem, *] at q_; have q2_ : q = false := q_; subst q2_)
    have l_x1_1 : w.heap.size+1 < x1.val.heap.size := by omega
    have m_x1_1 : w.heap.size+1 < x1.val.heap.size + 1 := by omega
    have q_ := x1.bel.cell (p := ⟨w.heap.size+1, 0, none⟩) (by first | omega | (simp; done) | (simp; omega))
    generalize c_x1_1_0 : x1.val.cell? ⟨w.heap.size+1, 0, none⟩ = q at q_
    first | (have q2_ : q = some _ := q_; subst q2_) | (simp [go_sem] at q_; have q2_ : q = some _ := q_; subst q2_) | (simp [go_sem, *] at q_; have q2_ : q = some _ := q_; subst q2_)
    have q_ := x1.bel.frozen (p := ⟨w.heap.size+1, 0, none⟩) (by first | omega | (simp; done) | (simp; omega))
    generalize z_x1_1_0 : x1.val.frozen? ⟨w.heap.size+1, 0, none⟩ = q at q_
    first | (have q2_ : q = false := q_; subst q2_) | (simp [go_sem] at q_; have q2_ : q = false := q_; subst q2_) | (simp [go_sem, *] at q_; have q2_ : q = false := q_; subst q2_)
    have q_ := x1.bel.cell (p := ⟨w.heap.size+1, 1, none⟩) (by first | omega | (simp; done) | (simp; omega))
    generalize c_x1_1_1 : x1.val.cell? ⟨w.heap.size+1, 1, none⟩ = q at q_
    first | (have q2_ : q = some _ := q_; subst q2_) | (simp [go_sem] at q_; have q2_ : q = some _ := q_; subst q2_) | (simp [go_sem, *] at q_; have q2_ : q = some _ := q_; subst q2_)
    have q_ := x1.bel.frozen (p := ⟨w.heap.size+1, 1, none⟩) (by first | omega | (simp; done) | (simp; omega))
    generalize z_x1_1_1 : x1.val.frozen? ⟨w.heap.size+1, 1, none⟩ = q at q_
    first | (have q2_ : q = false := q_; subst q2_) | (simp [go_sem] at q_; have q2_ : q = false := q_; subst q2_) | (simp [go_sem, *] at q_; have q2_ : q = false := q_; subst q2_)
    go_wp2_with fail
    refine (kf.out _).mono ?_
    rintro e_x2 w_x2 ⟨rfl, hb_x2⟩
    obtain ⟨x2, rfl⟩ := later_is hb_x2
    clear hb_x2
    have hz_x2 := x2.bel.size
    try simp at hz_x2
    have l_x2_0 : w.heap.size < x2.val.heap.size := by omega
    have m_x2_0 : w.heap.size < x2.val.heap.size + 1 := by omega
    have q_ := x2.bel.cell (p := ⟨w.heap.size, 0, none⟩) (by first | omega | (simp; done) | (simp; omega))
    generalize c_x2_0_0 : x2.val.cell? ⟨w.heap.size, 0, none⟩ = q at q_
    first | (have q2_ : q = some _ := q_; subst q2_) | (simp [go_sem] at q_; have q2_ : q = some _ := q_; subst q2_) | (simp [go_sem, *] at q_; have q2_ : q = some _ := q_; subst q2_)
    have q_ := x2.bel.frozen (p := ⟨w.heap.size, 0, none⟩) (by first | omega | (simp; done) | (simp; omega))
    generalize z_x2_0_0 : x2.val.frozen? ⟨w.heap.size, 0, none⟩ = q at q_
    first | (have q2_ : q = false := q_; subst q2_) | (simp [go_sem] at q_; have q2_ : q = false := q_; subst q2_) | (simp [go_sem, *] at q_; have q2_ : q = false := q_; subst q2_)
    have q_ := x2.bel.cell (p := ⟨w.heap.size, 1, none⟩) (by first | omega | (simp; done) | (simp; omega))
    generalize c_x2_0_1 : x2.val.cell? ⟨w.heap.size, 1, none⟩ = q at q_
    first | (have q2_ : q = some _ := q_; subst q2_) | (simp [go_sem] at q_; have q2_ : q = some _ := q_; subst q2_) | (simp [go_sem, *] at q_; have q2_ : q = some _ := q_; subst q2_)
    have q_ := x2.bel.frozen (p := ⟨w.heap.size, 1, none⟩) (by first | omega | (simp; done) | (simp; omega))
    generalize z_x2_0_1 : x2.val.frozen? ⟨w.heap.size, 1, none⟩ = q at q_
    first | (have q2_ : q = false := q_; subst q2_) | (simp [go_sem] at q_; have q2_ : q = false := q_; subst q2_) | (simp [go_sem, *] at q_; have q2_ : q = false := q_; subst q2_)
    have l_x2_1 : w.heap.size+1 < x2.val.heap.size := by omega
    have m_x2_1 : w.heap.size+1 < x2.val.heap.size + 1 := by omega
    have q_ := x2.bel.cell (p := ⟨w.heap.size+1, 0, none⟩) (by first | omega | (simp; done) | (simp; omega))
    generalize c_x2_1_0 : x2.val.cell? ⟨w.heap.size+1, 0, none⟩ = q at q_
    first | (have q2_ : q = some _ := q_; subst q2_) | (simp [go_sem] at q_; have q2_ : q = some _ := q_; subst q2_) | (simp [go_sem, *] at q_; have q2_ : q = some _ := q_; subst q2_)
    have q_ := x2.bel.frozen (p := ⟨w.heap.size+1, 0, none⟩) (by first | omega | (simp; done) | (simp; omega))
    generalize z_x2_1_0 : x2.val.frozen? ⟨w.heap.size+1, 0, none⟩ = q at q_
    first | (have q2_ : q = false := q_; subst q2_) | (simp [go_sem] at q_; have q2_ : q = false := q_; subst q2_) | (simp [go_sem, *] at q_; have q2_ : q = false := q_; subst q2_)
    have q_ := x2.bel.cell (p := ⟨w.heap.size+1, 1, none⟩) (by first | omega | (simp; done) | (simp; omega))
    generalize c_x2_1_1 : x2.val.cell? ⟨w.heap.size+1, 1, none⟩ = q at q_
    first | (have q2_ : q = some _ := q_; subst q2_) | (simp [go_sem] at q_; have q2_ : q = some _ := q_; subst q2_) | (simp [go_sem, *] at q_; have q2_ : q = some _ := q_; subst q2_)
    have q_ := x2.bel.frozen (p := ⟨w.heap.size+1, 1, none⟩) (by first | omega | (simp; done) | (simp; omega))
    generalize z_x2_1_1 : x2.val.frozen? ⟨w.heap.size+1, 1, none⟩ = q at q_
    first | (have q2_ : q = false := q_; subst q2_) | (simp [go_sem] at q_; have q2_ : q = false := q_; subst q2_) | (simp [go_sem, *] at q_; have q2_ : q = false := q_; subst q2_)
    go_wp2
    refine bodyPost_ret (v := .tuple #[.agg #[.int .u16 (o : Int), .int .i64 l], .int .i64 22]) (by simp [results, Try.results97, go_sem, *]) rfl ⟨rfl, (by repeat (first | with_reducible exact Below.refl _ _ | with_reducible refine bel_later _ ?_ | with_reducible refine bel_alloc ?_ _ | refine bel_set ?_ (by first | omega | (simp; done) | (simp; omega)) _ | with_reducible refine Below.drew ?_ | with_reducible refine bel_drewN ?_ _ | with_reducible assumption | assumption))⟩
set_option maxHeartbeats 1000000 in
theorem hold_any (x : Ls.L) (ow : Nat) (w : World) (hf : Ls.fit x) (how : ow < 65536) :
    Calls Try.prog 107 #[.agg #[.int .u16 (x.o : Int), .int .i64 x.l], .int .u16 (ow : Int)] w fun e w' => e = .returned (.tuple #[.agg #[.int .u16 ((Ls.hold x ow).1.o : Int), .int .i64 (Ls.hold x ow).1.l], .int .i64 (Ls.hold x ow).2]) ∧ Below w.heap.size w w' := by
  obtain ⟨c, hc⟩ : ∃ c, Ls.counted x = c := ⟨_, rfl⟩
  have kc := Lib.hid (fun w => counted_any x c w hf hc)
  have hr := Ls.right_counted x
  have hfc := Ls.counted_fit hf
  have hs : Ls.hold x ow = Ls.holdC c ow := by rw [← hc]; rfl
  rw [hs]
  rw [hc] at hr hfc
  obtain ⟨o, l⟩ := c
  obtain ⟨f1, f2, f3⟩ := hfc
  simp only at f1 f2 f3
  have hrc := Ls.right_cases hr
  simp only at hrc
  clear hc hs hr
  by_cases h0 : ow = 0
  · subst h0
    rw [show Ls.holdC ⟨o, l⟩ 0 = (⟨o, l⟩, 2) by simp [Ls.holdC]]
    clear hrc
    go_enter Try.func107, Try.ntmps107
    go_wp2_with fail
    refine (kc.out _).mono ?_
    rintro e_x1 w_x1 ⟨rfl, hb_x1⟩
    obtain ⟨x1, rfl⟩ := later_is hb_x1
    clear hb_x1
    have hz_x1 := x1.bel.size
    try simp at hz_x1
    have l_x1_0 : w.heap.size < x1.val.heap.size := by omega
    have m_x1_0 : w.heap.size < x1.val.heap.size + 1 := by omega
    have q_ := x1.bel.cell (p := ⟨w.heap.size, 0, none⟩) (by first | omega | (simp; done) | (simp; omega))
    generalize c_x1_0_0 : x1.val.cell? ⟨w.heap.size, 0, none⟩ = q at q_
    first | (have q2_ : q = some _ := q_; subst q2_) | (simp [go_sem] at q_; have q2_ : q = some _ := q_; subst q2_) | (simp [go_sem, *] at q_; have q2_ : q = some _ := q_; subst q2_)
    have q_ := x1.bel.frozen (p := ⟨w.heap.size, 0, none⟩) (by first | omega | (simp; done) | (simp; omega))
    generalize z_x1_0_0 : x1.val.frozen? ⟨w.heap.size, 0, none⟩ = q at q_
    first | (have q2_ : q = false := q_; subst q2_) | (simp [go_sem] at q_; have q2_ : q = false := q_; subst q2_) | (simp [go_sem, *] at q_; have q2_ : q = false := q_; subst q2_)
    have q_ := x1.bel.cell (p := ⟨w.heap.size, 1, none⟩) (by first | omega | (simp; done) | (simp; omega))
    generalize c_x1_0_1 : x1.val.cell? ⟨w.heap.size, 1, none⟩ = q at q_
    first | (have q2_ : q = some _ := q_; subst q2_) | (simp [go_sem] at q_; have q2_ : q = some _ := q_; subst q2_) | (simp [go_sem, *] at q_; have q2_ : q = some _ := q_; subst q2_)
    have q_ := x1.bel.frozen (p := ⟨w.heap.size, 1, none⟩) (by first | omega | (simp; done) | (simp; omega))
    generalize z_x1_0_1 : x1.val.frozen? ⟨w.heap.size, 1, none⟩ = q at q_
    first | (have q2_ : q = false := q_; subst q2_) | (simp [go_sem] at q_; have q2_ : q = false := q_; subst q2_) | (simp [go_sem, *] at q_; have q2_ : q = false := q_; subst q2_)
    have l_x1_1 : w.heap.size+1 < x1.val.heap.size := by omega
    have m_x1_1 : w.heap.size+1 < x1.val.heap.size + 1 := by omega
    have q_ := x1.bel.cell (p := ⟨w.heap.size+1, 0, none⟩) (by first | omega | (simp; done) | (simp; omega))
    generalize c_x1_1_0 : x1.val.cell? ⟨w.heap.size+1, 0, none⟩ = q at q_
    first | (have q2_ : q = some _ := q_; subst q2_) | (simp [go_sem] at q_; have q2_ : q = some _ := q_; subst q2_) | (simp [go_sem, *] at q_; have q2_ : q = some _ := q_; subst q2_)
    have q_ := x1.bel.frozen (p := ⟨w.heap.size+1, 0, none⟩) (by first | omega | (simp; done) | (simp; omega))
    generalize z_x1_1_0 : x1.val.frozen? ⟨w.heap.size+1, 0, none⟩ = q at q_
    first | (have q2_ : q = false := q_; subst q2_) | (simp [go_sem] at q_; have q2_ : q = false := q_; subst q2_) | (simp [go_sem, *] at q_; have q2_ : q = false := q_; subst q2_)
    have q_ := x1.bel.cell (p := ⟨w.heap.size+1, 1, none⟩) (by first | omega | (simp; done) | (simp; omega))
    generalize c_x1_1_1 : x1.val.cell? ⟨w.heap.size+1, 1, none⟩ = q at q_
    first | (have q2_ : q = some _ := q_; subst q2_) | (simp [go_sem] at q_; have q2_ : q = some _ := q_; subst q2_) | (simp [go_sem, *] at q_; have q2_ : q = some _ := q_; subst q2_)
    have q_ := x1.bel.frozen (p := ⟨w.heap.size+1, 1, none⟩) (by first | omega | (simp; done) | (simp; omega))
    generalize z_x1_1_1 : x1.val.frozen? ⟨w.heap.size+1, 1, none⟩ = q at q_
    first | (have q2_ : q = false := q_; subst q2_) | (simp [go_sem] at q_; have q2_ : q = false := q_; subst q2_) | (simp [go_sem, *] at q_; have q2_ : q = false := q_; subst q2_)
    go_wp2
    refine bodyPost_ret (v := .tuple #[.agg #[.int .u16 (o : Int), .int .i64 l], .int .i64 2]) (by simp [results, Try.results107, go_sem, *]) rfl ⟨rfl, (by repeat (first | with_reducible exact Below.refl _ _ | with_reducible refine bel_later _ ?_ | with_reducible refine bel_alloc ?_ _ | refine bel_set ?_ (by first | omega | (simp; done) | (simp; omega)) _ | with_reducible refine Below.drew ?_ | with_reducible refine bel_drewN ?_ _ | with_reducible assumption | assumption))⟩
  have h0' : ((ow : Int) == 0) = false := beq_eq_false_iff_ne.2 (by omega)
  by_cases hw : o = ow
  · subst hw
    rw [show Ls.holdC ⟨o, l⟩ o = (⟨o, -1⟩, 0) by simp [Ls.holdC, h0]]
    clear hrc
    go_enter Try.func107, Try.ntmps107
    go_wp2_with fail
    refine (kc.out _).mono ?_
    rintro e_x1 w_x1 ⟨rfl, hb_x1⟩
    obtain ⟨x1, rfl⟩ := later_is hb_x1
    clear hb_x1
    have hz_x1 := x1.bel.size
    try simp at hz_x1
    have l_x1_0 : w.heap.size < x1.val.heap.size := by omega
    have m_x1_0 : w.heap.size < x1.val.heap.size + 1 := by omega
    have q_ := x1.bel.cell (p := ⟨w.heap.size, 0, none⟩) (by first | omega | (simp; done) | (simp; omega))
    generalize c_x1_0_0 : x1.val.cell? ⟨w.heap.size, 0, none⟩ = q at q_
    first | (have q2_ : q = some _ := q_; subst q2_) | (simp [go_sem] at q_; have q2_ : q = some _ := q_; subst q2_) | (simp [go_sem, *] at q_; have q2_ : q = some _ := q_; subst q2_)
    have q_ := x1.bel.frozen (p := ⟨w.heap.size, 0, none⟩) (by first | omega | (simp; done) | (simp; omega))
    generalize z_x1_0_0 : x1.val.frozen? ⟨w.heap.size, 0, none⟩ = q at q_
    first | (have q2_ : q = false := q_; subst q2_) | (simp [go_sem] at q_; have q2_ : q = false := q_; subst q2_) | (simp [go_sem, *] at q_; have q2_ : q = false := q_; subst q2_)
    have q_ := x1.bel.cell (p := ⟨w.heap.size, 1, none⟩) (by first | omega | (simp; done) | (simp; omega))
    generalize c_x1_0_1 : x1.val.cell? ⟨w.heap.size, 1, none⟩ = q at q_
    first | (have q2_ : q = some _ := q_; subst q2_) | (simp [go_sem] at q_; have q2_ : q = some _ := q_; subst q2_) | (simp [go_sem, *] at q_; have q2_ : q = some _ := q_; subst q2_)
    have q_ := x1.bel.frozen (p := ⟨w.heap.size, 1, none⟩) (by first | omega | (simp; done) | (simp; omega))
    generalize z_x1_0_1 : x1.val.frozen? ⟨w.heap.size, 1, none⟩ = q at q_
    first | (have q2_ : q = false := q_; subst q2_) | (simp [go_sem] at q_; have q2_ : q = false := q_; subst q2_) | (simp [go_sem, *] at q_; have q2_ : q = false := q_; subst q2_)
    have l_x1_1 : w.heap.size+1 < x1.val.heap.size := by omega
    have m_x1_1 : w.heap.size+1 < x1.val.heap.size + 1 := by omega
    have q_ := x1.bel.cell (p := ⟨w.heap.size+1, 0, none⟩) (by first | omega | (simp; done) | (simp; omega))
    generalize c_x1_1_0 : x1.val.cell? ⟨w.heap.size+1, 0, none⟩ = q at q_
    first | (have q2_ : q = some _ := q_; subst q2_) | (simp [go_sem] at q_; have q2_ : q = some _ := q_; subst q2_) | (simp [go_sem, *] at q_; have q2_ : q = some _ := q_; subst q2_)
    have q_ := x1.bel.frozen (p := ⟨w.heap.size+1, 0, none⟩) (by first | omega | (simp; done) | (simp; omega))
    generalize z_x1_1_0 : x1.val.frozen? ⟨w.heap.size+1, 0, none⟩ = q at q_
    first | (have q2_ : q = false := q_; subst q2_) | (simp [go_sem] at q_; have q2_ : q = false := q_; subst q2_) | (simp [go_sem, *] at q_; have q2_ : q = false := q_; subst q2_)
    have q_ := x1.bel.cell (p := ⟨w.heap.size+1, 1, none⟩) (by first | omega | (simp; done) | (simp; omega))
    generalize c_x1_1_1 : x1.val.cell? ⟨w.heap.size+1, 1, none⟩ = q at q_
    first | (have q2_ : q = some _ := q_; subst q2_) | (simp [go_sem] at q_; have q2_ : q = some _ := q_; subst q2_) | (simp [go_sem, *] at q_; have q2_ : q = some _ := q_; subst q2_)
    have q_ := x1.bel.frozen (p := ⟨w.heap.size+1, 1, none⟩) (by first | omega | (simp; done) | (simp; omega))
    generalize z_x1_1_1 : x1.val.frozen? ⟨w.heap.size+1, 1, none⟩ = q at q_
    first | (have q2_ : q = false := q_; subst q2_) | (simp [go_sem] at q_; have q2_ : q = false := q_; subst q2_) | (simp [go_sem, *] at q_; have q2_ : q = false := q_; subst q2_)
    go_wp2_with fail
    refine (held_any _ _ how).mono ?_
    rintro e_x2 w_x2 ⟨rfl, hb_x2⟩
    obtain ⟨x2, rfl⟩ := later_is hb_x2
    clear hb_x2
    have hz_x2 := x2.bel.size
    try simp at hz_x2
    have l_x2_0 : w.heap.size < x2.val.heap.size := by omega
    have m_x2_0 : w.heap.size < x2.val.heap.size + 1 := by omega
    have q_ := x2.bel.cell (p := ⟨w.heap.size, 0, none⟩) (by first | omega | (simp; done) | (simp; omega))
    generalize c_x2_0_0 : x2.val.cell? ⟨w.heap.size, 0, none⟩ = q at q_
    first | (have q2_ : q = some _ := q_; subst q2_) | (simp [go_sem] at q_; have q2_ : q = some _ := q_; subst q2_) | (simp [go_sem, *] at q_; have q2_ : q = some _ := q_; subst q2_)
    have q_ := x2.bel.frozen (p := ⟨w.heap.size, 0, none⟩) (by first | omega | (simp; done) | (simp; omega))
    generalize z_x2_0_0 : x2.val.frozen? ⟨w.heap.size, 0, none⟩ = q at q_
    first | (have q2_ : q = false := q_; subst q2_) | (simp [go_sem] at q_; have q2_ : q = false := q_; subst q2_) | (simp [go_sem, *] at q_; have q2_ : q = false := q_; subst q2_)
    have q_ := x2.bel.cell (p := ⟨w.heap.size, 1, none⟩) (by first | omega | (simp; done) | (simp; omega))
    generalize c_x2_0_1 : x2.val.cell? ⟨w.heap.size, 1, none⟩ = q at q_
    first | (have q2_ : q = some _ := q_; subst q2_) | (simp [go_sem] at q_; have q2_ : q = some _ := q_; subst q2_) | (simp [go_sem, *] at q_; have q2_ : q = some _ := q_; subst q2_)
    have q_ := x2.bel.frozen (p := ⟨w.heap.size, 1, none⟩) (by first | omega | (simp; done) | (simp; omega))
    generalize z_x2_0_1 : x2.val.frozen? ⟨w.heap.size, 1, none⟩ = q at q_
    first | (have q2_ : q = false := q_; subst q2_) | (simp [go_sem] at q_; have q2_ : q = false := q_; subst q2_) | (simp [go_sem, *] at q_; have q2_ : q = false := q_; subst q2_)
    have l_x2_1 : w.heap.size+1 < x2.val.heap.size := by omega
    have m_x2_1 : w.heap.size+1 < x2.val.heap.size + 1 := by omega
    have q_ := x2.bel.cell (p := ⟨w.heap.size+1, 0, none⟩) (by first | omega | (simp; done) | (simp; omega))
    generalize c_x2_1_0 : x2.val.cell? ⟨w.heap.size+1, 0, none⟩ = q at q_
    first | (have q2_ : q = some _ := q_; subst q2_) | (simp [go_sem] at q_; have q2_ : q = some _ := q_; subst q2_) | (simp [go_sem, *] at q_; have q2_ : q = some _ := q_; subst q2_)
    have q_ := x2.bel.frozen (p := ⟨w.heap.size+1, 0, none⟩) (by first | omega | (simp; done) | (simp; omega))
    generalize z_x2_1_0 : x2.val.frozen? ⟨w.heap.size+1, 0, none⟩ = q at q_
    first | (have q2_ : q = false := q_; subst q2_) | (simp [go_sem] at q_; have q2_ : q = false := q_; subst q2_) | (simp [go_sem, *] at q_; have q2_ : q = false := q_; subst q2_)
    have q_ := x2.bel.cell (p := ⟨w.heap.size+1, 1, none⟩) (by first | omega | (simp; done) | (simp; omega))
    generalize c_x2_1_1 : x2.val.cell? ⟨w.heap.size+1, 1, none⟩ = q at q_
    first | (have q2_ : q = some _ := q_; subst q2_) | (simp [go_sem] at q_; have q2_ : q = some _ := q_; subst q2_) | (simp [go_sem, *] at q_; have q2_ : q = some _ := q_; subst q2_)
    have q_ := x2.bel.frozen (p := ⟨w.heap.size+1, 1, none⟩) (by first | omega | (simp; done) | (simp; omega))
    generalize z_x2_1_1 : x2.val.frozen? ⟨w.heap.size+1, 1, none⟩ = q at q_
    first | (have q2_ : q = false := q_; subst q2_) | (simp [go_sem] at q_; have q2_ : q = false := q_; subst q2_) | (simp [go_sem, *] at q_; have q2_ : q = false := q_; subst q2_)
    go_wp2
    refine bodyPost_ret (v := .tuple #[.agg #[.int .u16 (o : Int), .int .i64 (-1)], .int .i64 0]) (by simp [results, Try.results107, go_sem, *]) rfl ⟨rfl, (by repeat (first | with_reducible exact Below.refl _ _ | with_reducible refine bel_later _ ?_ | with_reducible refine bel_alloc ?_ _ | refine bel_set ?_ (by first | omega | (simp; done) | (simp; omega)) _ | with_reducible refine Below.drew ?_ | with_reducible refine bel_drewN ?_ _ | with_reducible assumption | assumption))⟩
  · rw [show Ls.holdC ⟨o, l⟩ ow = (⟨o, l⟩, 22) by simp [Ls.holdC, h0, hw]]
    have hw' : ((o : Int) != (ow : Int)) = true := by rw [bne_iff_ne]; omega
    clear hrc
    go_enter Try.func107, Try.ntmps107
    go_wp2_with fail
    refine (kc.out _).mono ?_
    rintro e_x1 w_x1 ⟨rfl, hb_x1⟩
    obtain ⟨x1, rfl⟩ := later_is hb_x1
    clear hb_x1
    have hz_x1 := x1.bel.size
    try simp at hz_x1
    have l_x1_0 : w.heap.size < x1.val.heap.size := by omega
    have m_x1_0 : w.heap.size < x1.val.heap.size + 1 := by omega
    have q_ := x1.bel.cell (p := ⟨w.heap.size, 0, none⟩) (by first | omega | (simp; done) | (simp; omega))
    generalize c_x1_0_0 : x1.val.cell? ⟨w.heap.size, 0, none⟩ = q at q_
    first | (have q2_ : q = some _ := q_; subst q2_) | (simp [go_sem] at q_; have q2_ : q = some _ := q_; subst q2_) | (simp [go_sem, *] at q_; have q2_ : q = some _ := q_; subst q2_)
    have q_ := x1.bel.frozen (p := ⟨w.heap.size, 0, none⟩) (by first | omega | (simp; done) | (simp; omega))
    generalize z_x1_0_0 : x1.val.frozen? ⟨w.heap.size, 0, none⟩ = q at q_
    first | (have q2_ : q = false := q_; subst q2_) | (simp [go_sem] at q_; have q2_ : q = false := q_; subst q2_) | (simp [go_sem, *] at q_; have q2_ : q = false := q_; subst q2_)
    have q_ := x1.bel.cell (p := ⟨w.heap.size, 1, none⟩) (by first | omega | (simp; done) | (simp; omega))
    generalize c_x1_0_1 : x1.val.cell? ⟨w.heap.size, 1, none⟩ = q at q_
    first | (have q2_ : q = some _ := q_; subst q2_) | (simp [go_sem] at q_; have q2_ : q = some _ := q_; subst q2_) | (simp [go_sem, *] at q_; have q2_ : q = some _ := q_; subst q2_)
    have q_ := x1.bel.frozen (p := ⟨w.heap.size, 1, none⟩) (by first | omega | (simp; done) | (simp; omega))
    generalize z_x1_0_1 : x1.val.frozen? ⟨w.heap.size, 1, none⟩ = q at q_
    first | (have q2_ : q = false := q_; subst q2_) | (simp [go_sem] at q_; have q2_ : q = false := q_; subst q2_) | (simp [go_sem, *] at q_; have q2_ : q = false := q_; subst q2_)
    have l_x1_1 : w.heap.size+1 < x1.val.heap.size := by omega
    have m_x1_1 : w.heap.size+1 < x1.val.heap.size + 1 := by omega
    have q_ := x1.bel.cell (p := ⟨w.heap.size+1, 0, none⟩) (by first | omega | (simp; done) | (simp; omega))
    generalize c_x1_1_0 : x1.val.cell? ⟨w.heap.size+1, 0, none⟩ = q at q_
    first | (have q2_ : q = some _ := q_; subst q2_) | (simp [go_sem] at q_; have q2_ : q = some _ := q_; subst q2_) | (simp [go_sem, *] at q_; have q2_ : q = some _ := q_; subst q2_)
    have q_ := x1.bel.frozen (p := ⟨w.heap.size+1, 0, none⟩) (by first | omega | (simp; done) | (simp; omega))
    generalize z_x1_1_0 : x1.val.frozen? ⟨w.heap.size+1, 0, none⟩ = q at q_
    first | (have q2_ : q = false := q_; subst q2_) | (simp [go_sem] at q_; have q2_ : q = false := q_; subst q2_) | (simp [go_sem, *] at q_; have q2_ : q = false := q_; subst q2_)
    have q_ := x1.bel.cell (p := ⟨w.heap.size+1, 1, none⟩) (by first | omega | (simp; done) | (simp; omega))
    generalize c_x1_1_1 : x1.val.cell? ⟨w.heap.size+1, 1, none⟩ = q at q_
    first | (have q2_ : q = some _ := q_; subst q2_) | (simp [go_sem] at q_; have q2_ : q = some _ := q_; subst q2_) | (simp [go_sem, *] at q_; have q2_ : q = some _ := q_; subst q2_)
    have q_ := x1.bel.frozen (p := ⟨w.heap.size+1, 1, none⟩) (by first | omega | (simp; done) | (simp; omega))
    generalize z_x1_1_1 : x1.val.frozen? ⟨w.heap.size+1, 1, none⟩ = q at q_
    first | (have q2_ : q = false := q_; subst q2_) | (simp [go_sem] at q_; have q2_ : q = false := q_; subst q2_) | (simp [go_sem, *] at q_; have q2_ : q = false := q_; subst q2_)
    go_wp2
    refine bodyPost_ret (v := .tuple #[.agg #[.int .u16 (o : Int), .int .i64 l], .int .i64 22]) (by simp [results, Try.results107, go_sem, *]) rfl ⟨rfl, (by repeat (first | with_reducible exact Below.refl _ _ | with_reducible refine bel_later _ ?_ | with_reducible refine bel_alloc ?_ _ | refine bel_set ?_ (by first | omega | (simp; done) | (simp; omega)) _ | with_reducible refine Below.drew ?_ | with_reducible refine bel_drewN ?_ _ | with_reducible assumption | assumption))⟩
set_option maxHeartbeats 1000000 in
theorem tick_any (x : Ls.L) (w : World) (hf : Ls.fit x) :
    Calls Try.prog 68 #[.agg #[.int .u16 (x.o : Int), .int .i64 x.l]] w fun e w' => e = .returned (.tuple #[.agg #[.int .u16 ((Ls.tick x).1.o : Int), .int .i64 (Ls.tick x).1.l], .bool (Ls.tick x).2]) ∧ Below w.heap.size w w' := by
  obtain ⟨c, hc⟩ : ∃ c, Ls.counted x = c := ⟨_, rfl⟩
  have kc := Lib.hid (fun w => counted_any x c w hf hc)
  have hr := Ls.right_counted x
  have hfc := Ls.counted_fit hf
  have hs : Ls.tick x = Ls.tickC c := by rw [← hc]; rfl
  rw [hs]
  rw [hc] at hr hfc
  obtain ⟨o, l⟩ := c
  obtain ⟨f1, f2, f3⟩ := hfc
  simp only at f1 f2 f3
  have hrc := Ls.right_cases hr
  simp only at hrc
  clear hc hs hr
  by_cases hz : o = 0
  · obtain ⟨rfl, rfl⟩ : o = 0 ∧ l = 0 := by omega
    rw [show Ls.tickC ⟨0, 0⟩ = (⟨0, 0⟩, false) by simp [Ls.tickC]]
    clear hrc
    go_enter Try.func68, Try.ntmps68
    go_wp2_with fail
    refine (kc.out _).mono ?_
    rintro e_x1 w_x1 ⟨rfl, hb_x1⟩
    obtain ⟨x1, rfl⟩ := later_is hb_x1
    clear hb_x1
    have hz_x1 := x1.bel.size
    try simp at hz_x1
    have l_x1_0 : w.heap.size < x1.val.heap.size := by omega
    have m_x1_0 : w.heap.size < x1.val.heap.size + 1 := by omega
    have q_ := x1.bel.cell (p := ⟨w.heap.size, 0, none⟩) (by first | omega | (simp; done) | (simp; omega))
    generalize c_x1_0_0 : x1.val.cell? ⟨w.heap.size, 0, none⟩ = q at q_
    first | (have q2_ : q = some _ := q_; subst q2_) | (simp [go_sem] at q_; have q2_ : q = some _ := q_; subst q2_) | (simp [go_sem, *] at q_; have q2_ : q = some _ := q_; subst q2_)
    have q_ := x1.bel.frozen (p := ⟨w.heap.size, 0, none⟩) (by first | omega | (simp; done) | (simp; omega))
    generalize z_x1_0_0 : x1.val.frozen? ⟨w.heap.size, 0, none⟩ = q at q_
    first | (have q2_ : q = false := q_; subst q2_) | (simp [go_sem] at q_; have q2_ : q = false := q_; subst q2_) | (simp [go_sem, *] at q_; have q2_ : q = false := q_; subst q2_)
    have q_ := x1.bel.cell (p := ⟨w.heap.size, 1, none⟩) (by first | omega | (simp; done) | (simp; omega))
    generalize c_x1_0_1 : x1.val.cell? ⟨w.heap.size, 1, none⟩ = q at q_
    first | (have q2_ : q = some _ := q_; subst q2_) | (simp [go_sem] at q_; have q2_ : q = some _ := q_; subst q2_) | (simp [go_sem, *] at q_; have q2_ : q = some _ := q_; subst q2_)
    have q_ := x1.bel.frozen (p := ⟨w.heap.size, 1, none⟩) (by first | omega | (simp; done) | (simp; omega))
    generalize z_x1_0_1 : x1.val.frozen? ⟨w.heap.size, 1, none⟩ = q at q_
    first | (have q2_ : q = false := q_; subst q2_) | (simp [go_sem] at q_; have q2_ : q = false := q_; subst q2_) | (simp [go_sem, *] at q_; have q2_ : q = false := q_; subst q2_)
    have l_x1_1 : w.heap.size+1 < x1.val.heap.size := by omega
    have m_x1_1 : w.heap.size+1 < x1.val.heap.size + 1 := by omega
    have q_ := x1.bel.cell (p := ⟨w.heap.size+1, 0, none⟩) (by first | omega | (simp; done) | (simp; omega))
    generalize c_x1_1_0 : x1.val.cell? ⟨w.heap.size+1, 0, none⟩ = q at q_
    first | (have q2_ : q = some _ := q_; subst q2_) | (simp [go_sem] at q_; have q2_ : q = some _ := q_; subst q2_) | (simp [go_sem, *] at q_; have q2_ : q = some _ := q_; subst q2_)
    have q_ := x1.bel.frozen (p := ⟨w.heap.size+1, 0, none⟩) (by first | omega | (simp; done) | (simp; omega))
    generalize z_x1_1_0 : x1.val.frozen? ⟨w.heap.size+1, 0, none⟩ = q at q_
    first | (have q2_ : q = false := q_; subst q2_) | (simp [go_sem] at q_; have q2_ : q = false := q_; subst q2_) | (simp [go_sem, *] at q_; have q2_ : q = false := q_; subst q2_)
    have q_ := x1.bel.cell (p := ⟨w.heap.size+1, 1, none⟩) (by first | omega | (simp; done) | (simp; omega))
    generalize c_x1_1_1 : x1.val.cell? ⟨w.heap.size+1, 1, none⟩ = q at q_
    first | (have q2_ : q = some _ := q_; subst q2_) | (simp [go_sem] at q_; have q2_ : q = some _ := q_; subst q2_) | (simp [go_sem, *] at q_; have q2_ : q = some _ := q_; subst q2_)
    have q_ := x1.bel.frozen (p := ⟨w.heap.size+1, 1, none⟩) (by first | omega | (simp; done) | (simp; omega))
    generalize z_x1_1_1 : x1.val.frozen? ⟨w.heap.size+1, 1, none⟩ = q at q_
    first | (have q2_ : q = false := q_; subst q2_) | (simp [go_sem] at q_; have q2_ : q = false := q_; subst q2_) | (simp [go_sem, *] at q_; have q2_ : q = false := q_; subst q2_)
    go_wp2_with fail
    refine wp_region_lat (by kernel_rfl) (by kernel_rfl) ?_
    repeat (go_big_quiet_step (fail))
    go_big_quiet_step (exact later_new (free_eq ⟨0, 0⟩ true _ ⟨by decide, by decide, by decide⟩ rfl))
    repeat (go_big_quiet_step (fail))
    refine wpQuiet_nil ?_
    rintro _ ⟨x2, rfl⟩
    have hz_x2 := x2.bel.size
    try simp at hz_x2
    have l_x2_0 : w.heap.size < x2.val.heap.size := by omega
    have m_x2_0 : w.heap.size < x2.val.heap.size + 1 := by omega
    have q_ := x2.bel.cell (p := ⟨w.heap.size, 0, none⟩) (by first | omega | (simp; done) | (simp; omega))
    generalize c_x2_0_0 : x2.val.cell? ⟨w.heap.size, 0, none⟩ = q at q_
    first | (have q2_ : q = some _ := q_; subst q2_) | (simp [go_sem] at q_; have q2_ : q = some _ := q_; subst q2_) | (simp [go_sem, *] at q_; have q2_ : q = some _ := q_; subst q2_)
    have q_ := x2.bel.frozen (p := ⟨w.heap.size, 0, none⟩) (by first | omega | (simp; done) | (simp; omega))
    generalize z_x2_0_0 : x2.val.frozen? ⟨w.heap.size, 0, none⟩ = q at q_
    first | (have q2_ : q = false := q_; subst q2_) | (simp [go_sem] at q_; have q2_ : q = false := q_; subst q2_) | (simp [go_sem, *] at q_; have q2_ : q = false := q_; subst q2_)
    have q_ := x2.bel.cell (p := ⟨w.heap.size, 1, none⟩) (by first | omega | (simp; done) | (simp; omega))
    generalize c_x2_0_1 : x2.val.cell? ⟨w.heap.size, 1, none⟩ = q at q_
    first | (have q2_ : q = some _ := q_; subst q2_) | (simp [go_sem] at q_; have q2_ : q = some _ := q_; subst q2_) | (simp [go_sem, *] at q_; have q2_ : q = some _ := q_; subst q2_)
    have q_ := x2.bel.frozen (p := ⟨w.heap.size, 1, none⟩) (by first | omega | (simp; done) | (simp; omega))
    generalize z_x2_0_1 : x2.val.frozen? ⟨w.heap.size, 1, none⟩ = q at q_
    first | (have q2_ : q = false := q_; subst q2_) | (simp [go_sem] at q_; have q2_ : q = false := q_; subst q2_) | (simp [go_sem, *] at q_; have q2_ : q = false := q_; subst q2_)
    have l_x2_1 : w.heap.size+1 < x2.val.heap.size := by omega
    have m_x2_1 : w.heap.size+1 < x2.val.heap.size + 1 := by omega
    have q_ := x2.bel.cell (p := ⟨w.heap.size+1, 0, none⟩) (by first | omega | (simp; done) | (simp; omega))
    generalize c_x2_1_0 : x2.val.cell? ⟨w.heap.size+1, 0, none⟩ = q at q_
    first | (have q2_ : q = some _ := q_; subst q2_) | (simp [go_sem] at q_; have q2_ : q = some _ := q_; subst q2_) | (simp [go_sem, *] at q_; have q2_ : q = some _ := q_; subst q2_)
    have q_ := x2.bel.frozen (p := ⟨w.heap.size+1, 0, none⟩) (by first | omega | (simp; done) | (simp; omega))
    generalize z_x2_1_0 : x2.val.frozen? ⟨w.heap.size+1, 0, none⟩ = q at q_
    first | (have q2_ : q = false := q_; subst q2_) | (simp [go_sem] at q_; have q2_ : q = false := q_; subst q2_) | (simp [go_sem, *] at q_; have q2_ : q = false := q_; subst q2_)
    have q_ := x2.bel.cell (p := ⟨w.heap.size+1, 1, none⟩) (by first | omega | (simp; done) | (simp; omega))
    generalize c_x2_1_1 : x2.val.cell? ⟨w.heap.size+1, 1, none⟩ = q at q_
    first | (have q2_ : q = some _ := q_; subst q2_) | (simp [go_sem] at q_; have q2_ : q = some _ := q_; subst q2_) | (simp [go_sem, *] at q_; have q2_ : q = some _ := q_; subst q2_)
    have q_ := x2.bel.frozen (p := ⟨w.heap.size+1, 1, none⟩) (by first | omega | (simp; done) | (simp; omega))
    generalize z_x2_1_1 : x2.val.frozen? ⟨w.heap.size+1, 1, none⟩ = q at q_
    first | (have q2_ : q = false := q_; subst q2_) | (simp [go_sem] at q_; have q2_ : q = false := q_; subst q2_) | (simp [go_sem, *] at q_; have q2_ : q = false := q_; subst q2_)
    go_wp2
    refine bodyPost_ret (v := .tuple #[.agg #[.int .u16 (0 : Int), .int .i64 0], .bool false]) (by simp [results, Try.results68, go_sem, *]) rfl ⟨rfl, (by repeat (first | with_reducible exact Below.refl _ _ | with_reducible refine bel_later _ ?_ | with_reducible refine bel_alloc ?_ _ | refine bel_set ?_ (by first | omega | (simp; done) | (simp; omega)) _ | with_reducible refine Below.drew ?_ | with_reducible refine bel_drewN ?_ _ | with_reducible assumption | assumption))⟩
  have hfr : Ls.free ⟨o, l⟩ = false := by
    have : Ls.right ⟨o, l⟩ = true := by rcases hrc with h | h | h
                                        · omega
                                        · exact Ls.right_of_runs h.1 h.2
                                        · exact Ls.right_of_held h.1 h.2
    simp [Ls.free, Ls.counted_of_right this, hz]
  by_cases hm : l = -1
  · subst hm
    rw [show Ls.tickC ⟨o, -1⟩ = (⟨o, -1⟩, false) by simp [Ls.tickC]]
    have kf := Lib.hid (fun w => free_eq ⟨o, -1⟩ false w ⟨f1, f2, f3⟩ hfr)
    clear hrc hfr
    go_enter Try.func68, Try.ntmps68
    go_wp2_with fail
    refine (kc.out _).mono ?_
    rintro e_x1 w_x1 ⟨rfl, hb_x1⟩
    obtain ⟨x1, rfl⟩ := later_is hb_x1
    clear hb_x1
    have hz_x1 := x1.bel.size
    try simp at hz_x1
    have l_x1_0 : w.heap.size < x1.val.heap.size := by omega
    have m_x1_0 : w.heap.size < x1.val.heap.size + 1 := by omega
    have q_ := x1.bel.cell (p := ⟨w.heap.size, 0, none⟩) (by first | omega | (simp; done) | (simp; omega))
    generalize c_x1_0_0 : x1.val.cell? ⟨w.heap.size, 0, none⟩ = q at q_
    first | (have q2_ : q = some _ := q_; subst q2_) | (simp [go_sem] at q_; have q2_ : q = some _ := q_; subst q2_) | (simp [go_sem, *] at q_; have q2_ : q = some _ := q_; subst q2_)
    have q_ := x1.bel.frozen (p := ⟨w.heap.size, 0, none⟩) (by first | omega | (simp; done) | (simp; omega))
    generalize z_x1_0_0 : x1.val.frozen? ⟨w.heap.size, 0, none⟩ = q at q_
    first | (have q2_ : q = false := q_; subst q2_) | (simp [go_sem] at q_; have q2_ : q = false := q_; subst q2_) | (simp [go_sem, *] at q_; have q2_ : q = false := q_; subst q2_)
    have q_ := x1.bel.cell (p := ⟨w.heap.size, 1, none⟩) (by first | omega | (simp; done) | (simp; omega))
    generalize c_x1_0_1 : x1.val.cell? ⟨w.heap.size, 1, none⟩ = q at q_
    first | (have q2_ : q = some _ := q_; subst q2_) | (simp [go_sem] at q_; have q2_ : q = some _ := q_; subst q2_) | (simp [go_sem, *] at q_; have q2_ : q = some _ := q_; subst q2_)
    have q_ := x1.bel.frozen (p := ⟨w.heap.size, 1, none⟩) (by first | omega | (simp; done) | (simp; omega))
    generalize z_x1_0_1 : x1.val.frozen? ⟨w.heap.size, 1, none⟩ = q at q_
    first | (have q2_ : q = false := q_; subst q2_) | (simp [go_sem] at q_; have q2_ : q = false := q_; subst q2_) | (simp [go_sem, *] at q_; have q2_ : q = false := q_; subst q2_)
    have l_x1_1 : w.heap.size+1 < x1.val.heap.size := by omega
    have m_x1_1 : w.heap.size+1 < x1.val.heap.size + 1 := by omega
    have q_ := x1.bel.cell (p := ⟨w.heap.size+1, 0, none⟩) (by first | omega | (simp; done) | (simp; omega))
    generalize c_x1_1_0 : x1.val.cell? ⟨w.heap.size+1, 0, none⟩ = q at q_
    first | (have q2_ : q = some _ := q_; subst q2_) | (simp [go_sem] at q_; have q2_ : q = some _ := q_; subst q2_) | (simp [go_sem, *] at q_; have q2_ : q = some _ := q_; subst q2_)
    have q_ := x1.bel.frozen (p := ⟨w.heap.size+1, 0, none⟩) (by first | omega | (simp; done) | (simp; omega))
    generalize z_x1_1_0 : x1.val.frozen? ⟨w.heap.size+1, 0, none⟩ = q at q_
    first | (have q2_ : q = false := q_; subst q2_) | (simp [go_sem] at q_; have q2_ : q = false := q_; subst q2_) | (simp [go_sem, *] at q_; have q2_ : q = false := q_; subst q2_)
    have q_ := x1.bel.cell (p := ⟨w.heap.size+1, 1, none⟩) (by first | omega | (simp; done) | (simp; omega))
    generalize c_x1_1_1 : x1.val.cell? ⟨w.heap.size+1, 1, none⟩ = q at q_
    first | (have q2_ : q = some _ := q_; subst q2_) | (simp [go_sem] at q_; have q2_ : q = some _ := q_; subst q2_) | (simp [go_sem, *] at q_; have q2_ : q = some _ := q_; subst q2_)
    have q_ := x1.bel.frozen (p := ⟨w.heap.size+1, 1, none⟩) (by first | omega | (simp; done) | (simp; omega))
    generalize z_x1_1_1 : x1.val.frozen? ⟨w.heap.size+1, 1, none⟩ = q at q_
    first | (have q2_ : q = false := q_; subst q2_) | (simp [go_sem] at q_; have q2_ : q = false := q_; subst q2_) | (simp [go_sem, *] at q_; have q2_ : q = false := q_; subst q2_)
    go_wp2_with fail
    refine wp_region_lat (by kernel_rfl) (by kernel_rfl) ?_
    repeat (go_big_quiet_step (fail))
    go_big_quiet_step (exact later_new (kf.out _))
    repeat (go_big_quiet_step (fail))
    go_big_quiet_step (exact later_new (held_any _ _ f1))
    repeat (go_big_quiet_step (fail))
    refine wpQuiet_nil ?_
    rintro _ ⟨x2, rfl⟩
    have hz_x2 := x2.bel.size
    try simp at hz_x2
    have l_x2_0 : w.heap.size < x2.val.heap.size := by omega
    have m_x2_0 : w.heap.size < x2.val.heap.size + 1 := by omega
    have q_ := x2.bel.cell (p := ⟨w.heap.size, 0, none⟩) (by first | omega | (simp; done) | (simp; omega))
    generalize c_x2_0_0 : x2.val.cell? ⟨w.heap.size, 0, none⟩ = q at q_
    first | (have q2_ : q = some _ := q_; subst q2_) | (simp [go_sem] at q_; have q2_ : q = some _ := q_; subst q2_) | (simp [go_sem, *] at q_; have q2_ : q = some _ := q_; subst q2_)
    have q_ := x2.bel.frozen (p := ⟨w.heap.size, 0, none⟩) (by first | omega | (simp; done) | (simp; omega))
    generalize z_x2_0_0 : x2.val.frozen? ⟨w.heap.size, 0, none⟩ = q at q_
    first | (have q2_ : q = false := q_; subst q2_) | (simp [go_sem] at q_; have q2_ : q = false := q_; subst q2_) | (simp [go_sem, *] at q_; have q2_ : q = false := q_; subst q2_)
    have q_ := x2.bel.cell (p := ⟨w.heap.size, 1, none⟩) (by first | omega | (simp; done) | (simp; omega))
    generalize c_x2_0_1 : x2.val.cell? ⟨w.heap.size, 1, none⟩ = q at q_
    first | (have q2_ : q = some _ := q_; subst q2_) | (simp [go_sem] at q_; have q2_ : q = some _ := q_; subst q2_) | (simp [go_sem, *] at q_; have q2_ : q = some _ := q_; subst q2_)
    have q_ := x2.bel.frozen (p := ⟨w.heap.size, 1, none⟩) (by first | omega | (simp; done) | (simp; omega))
    generalize z_x2_0_1 : x2.val.frozen? ⟨w.heap.size, 1, none⟩ = q at q_
    first | (have q2_ : q = false := q_; subst q2_) | (simp [go_sem] at q_; have q2_ : q = false := q_; subst q2_) | (simp [go_sem, *] at q_; have q2_ : q = false := q_; subst q2_)
    have l_x2_1 : w.heap.size+1 < x2.val.heap.size := by omega
    have m_x2_1 : w.heap.size+1 < x2.val.heap.size + 1 := by omega
    have q_ := x2.bel.cell (p := ⟨w.heap.size+1, 0, none⟩) (by first | omega | (simp; done) | (simp; omega))
    generalize c_x2_1_0 : x2.val.cell? ⟨w.heap.size+1, 0, none⟩ = q at q_
    first | (have q2_ : q = some _ := q_; subst q2_) | (simp [go_sem] at q_; have q2_ : q = some _ := q_; subst q2_) | (simp [go_sem, *] at q_; have q2_ : q = some _ := q_; subst q2_)
    have q_ := x2.bel.frozen (p := ⟨w.heap.size+1, 0, none⟩) (by first | omega | (simp; done) | (simp; omega))
    generalize z_x2_1_0 : x2.val.frozen? ⟨w.heap.size+1, 0, none⟩ = q at q_
    first | (have q2_ : q = false := q_; subst q2_) | (simp [go_sem] at q_; have q2_ : q = false := q_; subst q2_) | (simp [go_sem, *] at q_; have q2_ : q = false := q_; subst q2_)
    have q_ := x2.bel.cell (p := ⟨w.heap.size+1, 1, none⟩) (by first | omega | (simp; done) | (simp; omega))
    generalize c_x2_1_1 : x2.val.cell? ⟨w.heap.size+1, 1, none⟩ = q at q_
    first | (have q2_ : q = some _ := q_; subst q2_) | (simp [go_sem] at q_; have q2_ : q = some _ := q_; subst q2_) | (simp [go_sem, *] at q_; have q2_ : q = some _ := q_; subst q2_)
    have q_ := x2.bel.frozen (p := ⟨w.heap.size+1, 1, none⟩) (by first | omega | (simp; done) | (simp; omega))
    generalize z_x2_1_1 : x2.val.frozen? ⟨w.heap.size+1, 1, none⟩ = q at q_
    first | (have q2_ : q = false := q_; subst q2_) | (simp [go_sem] at q_; have q2_ : q = false := q_; subst q2_) | (simp [go_sem, *] at q_; have q2_ : q = false := q_; subst q2_)
    go_wp2
    refine bodyPost_ret (v := .tuple #[.agg #[.int .u16 (o : Int), .int .i64 (-1)], .bool false]) (by simp [results, Try.results68, go_sem, *]) rfl ⟨rfl, (by repeat (first | with_reducible exact Below.refl _ _ | with_reducible refine bel_later _ ?_ | with_reducible refine bel_alloc ?_ _ | refine bel_set ?_ (by first | omega | (simp; done) | (simp; omega)) _ | with_reducible refine Below.drew ?_ | with_reducible refine bel_drewN ?_ _ | with_reducible assumption | assumption))⟩
  have hp : 1 ≤ l := by omega
  by_cases h1 : l = 1
  · subst h1
    rw [show Ls.tickC ⟨o, 1⟩ = (⟨0, 0⟩, true) by simp [Ls.tickC]]
    have kf := Lib.hid (fun w => free_eq ⟨o, 1⟩ false w ⟨f1, f2, f3⟩ hfr)
    clear hrc hfr
    go_enter Try.func68, Try.ntmps68
    go_wp2_with fail
    refine (kc.out _).mono ?_
    rintro e_x1 w_x1 ⟨rfl, hb_x1⟩
    obtain ⟨x1, rfl⟩ := later_is hb_x1
    clear hb_x1
    have hz_x1 := x1.bel.size
    try simp at hz_x1
    have l_x1_0 : w.heap.size < x1.val.heap.size := by omega
    have m_x1_0 : w.heap.size < x1.val.heap.size + 1 := by omega
    have q_ := x1.bel.cell (p := ⟨w.heap.size, 0, none⟩) (by first | omega | (simp; done) | (simp; omega))
    generalize c_x1_0_0 : x1.val.cell? ⟨w.heap.size, 0, none⟩ = q at q_
    first | (have q2_ : q = some _ := q_; subst q2_) | (simp [go_sem] at q_; have q2_ : q = some _ := q_; subst q2_) | (simp [go_sem, *] at q_; have q2_ : q = some _ := q_; subst q2_)
    have q_ := x1.bel.frozen (p := ⟨w.heap.size, 0, none⟩) (by first | omega | (simp; done) | (simp; omega))
    generalize z_x1_0_0 : x1.val.frozen? ⟨w.heap.size, 0, none⟩ = q at q_
    first | (have q2_ : q = false := q_; subst q2_) | (simp [go_sem] at q_; have q2_ : q = false := q_; subst q2_) | (simp [go_sem, *] at q_; have q2_ : q = false := q_; subst q2_)
    have q_ := x1.bel.cell (p := ⟨w.heap.size, 1, none⟩) (by first | omega | (simp; done) | (simp; omega))
    generalize c_x1_0_1 : x1.val.cell? ⟨w.heap.size, 1, none⟩ = q at q_
    first | (have q2_ : q = some _ := q_; subst q2_) | (simp [go_sem] at q_; have q2_ : q = some _ := q_; subst q2_) | (simp [go_sem, *] at q_; have q2_ : q = some _ := q_; subst q2_)
    have q_ := x1.bel.frozen (p := ⟨w.heap.size, 1, none⟩) (by first | omega | (simp; done) | (simp; omega))
    generalize z_x1_0_1 : x1.val.frozen? ⟨w.heap.size, 1, none⟩ = q at q_
    first | (have q2_ : q = false := q_; subst q2_) | (simp [go_sem] at q_; have q2_ : q = false := q_; subst q2_) | (simp [go_sem, *] at q_; have q2_ : q = false := q_; subst q2_)
    have l_x1_1 : w.heap.size+1 < x1.val.heap.size := by omega
    have m_x1_1 : w.heap.size+1 < x1.val.heap.size + 1 := by omega
    have q_ := x1.bel.cell (p := ⟨w.heap.size+1, 0, none⟩) (by first | omega | (simp; done) | (simp; omega))
    generalize c_x1_1_0 : x1.val.cell? ⟨w.heap.size+1, 0, none⟩ = q at q_
    first | (have q2_ : q = some _ := q_; subst q2_) | (simp [go_sem] at q_; have q2_ : q = some _ := q_; subst q2_) | (simp [go_sem, *] at q_; have q2_ : q = some _ := q_; subst q2_)
    have q_ := x1.bel.frozen (p := ⟨w.heap.size+1, 0, none⟩) (by first | omega | (simp; done) | (simp; omega))
    generalize z_x1_1_0 : x1.val.frozen? ⟨w.heap.size+1, 0, none⟩ = q at q_
    first | (have q2_ : q = false := q_; subst q2_) | (simp [go_sem] at q_; have q2_ : q = false := q_; subst q2_) | (simp [go_sem, *] at q_; have q2_ : q = false := q_; subst q2_)
    have q_ := x1.bel.cell (p := ⟨w.heap.size+1, 1, none⟩) (by first | omega | (simp; done) | (simp; omega))
    generalize c_x1_1_1 : x1.val.cell? ⟨w.heap.size+1, 1, none⟩ = q at q_
    first | (have q2_ : q = some _ := q_; subst q2_) | (simp [go_sem] at q_; have q2_ : q = some _ := q_; subst q2_) | (simp [go_sem, *] at q_; have q2_ : q = some _ := q_; subst q2_)
    have q_ := x1.bel.frozen (p := ⟨w.heap.size+1, 1, none⟩) (by first | omega | (simp; done) | (simp; omega))
    generalize z_x1_1_1 : x1.val.frozen? ⟨w.heap.size+1, 1, none⟩ = q at q_
    first | (have q2_ : q = false := q_; subst q2_) | (simp [go_sem] at q_; have q2_ : q = false := q_; subst q2_) | (simp [go_sem, *] at q_; have q2_ : q = false := q_; subst q2_)
    go_wp2_with fail
    refine wp_region_lat (by kernel_rfl) (by kernel_rfl) ?_
    repeat (go_big_quiet_step (fail))
    go_big_quiet_step (exact later_new (kf.out _))
    repeat (go_big_quiet_step (fail))
    go_big_quiet_step (exact later_new (held_any _ _ f1))
    repeat (go_big_quiet_step (fail))
    refine wpQuiet_nil ?_
    rintro _ ⟨x2, rfl⟩
    have hz_x2 := x2.bel.size
    try simp at hz_x2
    have l_x2_0 : w.heap.size < x2.val.heap.size := by omega
    have m_x2_0 : w.heap.size < x2.val.heap.size + 1 := by omega
    have q_ := x2.bel.cell (p := ⟨w.heap.size, 0, none⟩) (by first | omega | (simp; done) | (simp; omega))
    generalize c_x2_0_0 : x2.val.cell? ⟨w.heap.size, 0, none⟩ = q at q_
    first | (have q2_ : q = some _ := q_; subst q2_) | (simp [go_sem] at q_; have q2_ : q = some _ := q_; subst q2_) | (simp [go_sem, *] at q_; have q2_ : q = some _ := q_; subst q2_)
    have q_ := x2.bel.frozen (p := ⟨w.heap.size, 0, none⟩) (by first | omega | (simp; done) | (simp; omega))
    generalize z_x2_0_0 : x2.val.frozen? ⟨w.heap.size, 0, none⟩ = q at q_
    first | (have q2_ : q = false := q_; subst q2_) | (simp [go_sem] at q_; have q2_ : q = false := q_; subst q2_) | (simp [go_sem, *] at q_; have q2_ : q = false := q_; subst q2_)
    have q_ := x2.bel.cell (p := ⟨w.heap.size, 1, none⟩) (by first | omega | (simp; done) | (simp; omega))
    generalize c_x2_0_1 : x2.val.cell? ⟨w.heap.size, 1, none⟩ = q at q_
    first | (have q2_ : q = some _ := q_; subst q2_) | (simp [go_sem] at q_; have q2_ : q = some _ := q_; subst q2_) | (simp [go_sem, *] at q_; have q2_ : q = some _ := q_; subst q2_)
    have q_ := x2.bel.frozen (p := ⟨w.heap.size, 1, none⟩) (by first | omega | (simp; done) | (simp; omega))
    generalize z_x2_0_1 : x2.val.frozen? ⟨w.heap.size, 1, none⟩ = q at q_
    first | (have q2_ : q = false := q_; subst q2_) | (simp [go_sem] at q_; have q2_ : q = false := q_; subst q2_) | (simp [go_sem, *] at q_; have q2_ : q = false := q_; subst q2_)
    have l_x2_1 : w.heap.size+1 < x2.val.heap.size := by omega
    have m_x2_1 : w.heap.size+1 < x2.val.heap.size + 1 := by omega
    have q_ := x2.bel.cell (p := ⟨w.heap.size+1, 0, none⟩) (by first | omega | (simp; done) | (simp; omega))
    generalize c_x2_1_0 : x2.val.cell? ⟨w.heap.size+1, 0, none⟩ = q at q_
    first | (have q2_ : q = some _ := q_; subst q2_) | (simp [go_sem] at q_; have q2_ : q = some _ := q_; subst q2_) | (simp [go_sem, *] at q_; have q2_ : q = some _ := q_; subst q2_)
    have q_ := x2.bel.frozen (p := ⟨w.heap.size+1, 0, none⟩) (by first | omega | (simp; done) | (simp; omega))
    generalize z_x2_1_0 : x2.val.frozen? ⟨w.heap.size+1, 0, none⟩ = q at q_
    first | (have q2_ : q = false := q_; subst q2_) | (simp [go_sem] at q_; have q2_ : q = false := q_; subst q2_) | (simp [go_sem, *] at q_; have q2_ : q = false := q_; subst q2_)
    have q_ := x2.bel.cell (p := ⟨w.heap.size+1, 1, none⟩) (by first | omega | (simp; done) | (simp; omega))
    generalize c_x2_1_1 : x2.val.cell? ⟨w.heap.size+1, 1, none⟩ = q at q_
    first | (have q2_ : q = some _ := q_; subst q2_) | (simp [go_sem] at q_; have q2_ : q = some _ := q_; subst q2_) | (simp [go_sem, *] at q_; have q2_ : q = some _ := q_; subst q2_)
    have q_ := x2.bel.frozen (p := ⟨w.heap.size+1, 1, none⟩) (by first | omega | (simp; done) | (simp; omega))
    generalize z_x2_1_1 : x2.val.frozen? ⟨w.heap.size+1, 1, none⟩ = q at q_
    first | (have q2_ : q = false := q_; subst q2_) | (simp [go_sem] at q_; have q2_ : q = false := q_; subst q2_) | (simp [go_sem, *] at q_; have q2_ : q = false := q_; subst q2_)
    go_wp2
    refine bodyPost_ret (v := .tuple #[.agg #[.int .u16 (0 : Int), .int .i64 0], .bool true]) (by simp [results, Try.results68, go_sem, *]) rfl ⟨rfl, (by repeat (first | with_reducible exact Below.refl _ _ | with_reducible refine bel_later _ ?_ | with_reducible refine bel_alloc ?_ _ | refine bel_set ?_ (by first | omega | (simp; done) | (simp; omega)) _ | with_reducible refine Below.drew ?_ | with_reducible refine bel_drewN ?_ _ | with_reducible assumption | assumption))⟩
  · rw [show Ls.tickC ⟨o, l⟩ = (⟨o, l - 1⟩, false) by simp only [Ls.tickC]; rw [if_pos (by omega), if_neg h1]]
    have kf := Lib.hid (fun w => free_eq ⟨o, l⟩ false w ⟨f1, f2, f3⟩ hfr)
    have h1' : (l - 1 == 0) = false := beq_eq_false_iff_ne.2 (by omega)
    have h2' : ¬ l - 1 = 0 := by omega
    clear hrc hfr
    go_enter Try.func68, Try.ntmps68
    go_wp2_with fail
    refine (kc.out _).mono ?_
    rintro e_x1 w_x1 ⟨rfl, hb_x1⟩
    obtain ⟨x1, rfl⟩ := later_is hb_x1
    clear hb_x1
    have hz_x1 := x1.bel.size
    try simp at hz_x1
    have l_x1_0 : w.heap.size < x1.val.heap.size := by omega
    have m_x1_0 : w.heap.size < x1.val.heap.size + 1 := by omega
    have q_ := x1.bel.cell (p := ⟨w.heap.size, 0, none⟩) (by first | omega | (simp; done) | (simp; omega))
    generalize c_x1_0_0 : x1.val.cell? ⟨w.heap.size, 0, none⟩ = q at q_
    first | (have q2_ : q = some _ := q_; subst q2_) | (simp [go_sem] at q_; have q2_ : q = some _ := q_; subst q2_) | (simp [go_sem, *] at q_; have q2_ : q = some _ := q_; subst q2_)
    have q_ := x1.bel.frozen (p := ⟨w.heap.size, 0, none⟩) (by first | omega | (simp; done) | (simp; omega))
    generalize z_x1_0_0 : x1.val.frozen? ⟨w.heap.size, 0, none⟩ = q at q_
    first | (have q2_ : q = false := q_; subst q2_) | (simp [go_sem] at q_; have q2_ : q = false := q_; subst q2_) | (simp [go_sem, *] at q_; have q2_ : q = false := q_; subst q2_)
    have q_ := x1.bel.cell (p := ⟨w.heap.size, 1, none⟩) (by first | omega | (simp; done) | (simp; omega))
    generalize c_x1_0_1 : x1.val.cell? ⟨w.heap.size, 1, none⟩ = q at q_
    first | (have q2_ : q = some _ := q_; subst q2_) | (simp [go_sem] at q_; have q2_ : q = some _ := q_; subst q2_) | (simp [go_sem, *] at q_; have q2_ : q = some _ := q_; subst q2_)
    have q_ := x1.bel.frozen (p := ⟨w.heap.size, 1, none⟩) (by first | omega | (simp; done) | (simp; omega))
    generalize z_x1_0_1 : x1.val.frozen? ⟨w.heap.size, 1, none⟩ = q at q_
    first | (have q2_ : q = false := q_; subst q2_) | (simp [go_sem] at q_; have q2_ : q = false := q_; subst q2_) | (simp [go_sem, *] at q_; have q2_ : q = false := q_; subst q2_)
    have l_x1_1 : w.heap.size+1 < x1.val.heap.size := by omega
    have m_x1_1 : w.heap.size+1 < x1.val.heap.size + 1 := by omega
    have q_ := x1.bel.cell (p := ⟨w.heap.size+1, 0, none⟩) (by first | omega | (simp; done) | (simp; omega))
    generalize c_x1_1_0 : x1.val.cell? ⟨w.heap.size+1, 0, none⟩ = q at q_
    first | (have q2_ : q = some _ := q_; subst q2_) | (simp [go_sem] at q_; have q2_ : q = some _ := q_; subst q2_) | (simp [go_sem, *] at q_; have q2_ : q = some _ := q_; subst q2_)
    have q_ := x1.bel.frozen (p := ⟨w.heap.size+1, 0, none⟩) (by first | omega | (simp; done) | (simp; omega))
    generalize z_x1_1_0 : x1.val.frozen? ⟨w.heap.size+1, 0, none⟩ = q at q_
    first | (have q2_ : q = false := q_; subst q2_) | (simp [go_sem] at q_; have q2_ : q = false := q_; subst q2_) | (simp [go_sem, *] at q_; have q2_ : q = false := q_; subst q2_)
    have q_ := x1.bel.cell (p := ⟨w.heap.size+1, 1, none⟩) (by first | omega | (simp; done) | (simp; omega))
    generalize c_x1_1_1 : x1.val.cell? ⟨w.heap.size+1, 1, none⟩ = q at q_
    first | (have q2_ : q = some _ := q_; subst q2_) | (simp [go_sem] at q_; have q2_ : q = some _ := q_; subst q2_) | (simp [go_sem, *] at q_; have q2_ : q = some _ := q_; subst q2_)
    have q_ := x1.bel.frozen (p := ⟨w.heap.size+1, 1, none⟩) (by first | omega | (simp; done) | (simp; omega))
    generalize z_x1_1_1 : x1.val.frozen? ⟨w.heap.size+1, 1, none⟩ = q at q_
    first | (have q2_ : q = false := q_; subst q2_) | (simp [go_sem] at q_; have q2_ : q = false := q_; subst q2_) | (simp [go_sem, *] at q_; have q2_ : q = false := q_; subst q2_)
    go_wp2_with fail
    refine wp_region_lat (by kernel_rfl) (by kernel_rfl) ?_
    repeat (go_big_quiet_step (fail))
    go_big_quiet_step (exact later_new (kf.out _))
    repeat (go_big_quiet_step (fail))
    go_big_quiet_step (exact later_new (held_any _ _ f1))
    repeat (go_big_quiet_step (fail))
    refine wpQuiet_nil ?_
    rintro _ ⟨x2, rfl⟩
    have hz_x2 := x2.bel.size
    try simp at hz_x2
    have l_x2_0 : w.heap.size < x2.val.heap.size := by omega
    have m_x2_0 : w.heap.size < x2.val.heap.size + 1 := by omega
    have q_ := x2.bel.cell (p := ⟨w.heap.size, 0, none⟩) (by first | omega | (simp; done) | (simp; omega))
    generalize c_x2_0_0 : x2.val.cell? ⟨w.heap.size, 0, none⟩ = q at q_
    first | (have q2_ : q = some _ := q_; subst q2_) | (simp [go_sem] at q_; have q2_ : q = some _ := q_; subst q2_) | (simp [go_sem, *] at q_; have q2_ : q = some _ := q_; subst q2_)
    have q_ := x2.bel.frozen (p := ⟨w.heap.size, 0, none⟩) (by first | omega | (simp; done) | (simp; omega))
    generalize z_x2_0_0 : x2.val.frozen? ⟨w.heap.size, 0, none⟩ = q at q_
    first | (have q2_ : q = false := q_; subst q2_) | (simp [go_sem] at q_; have q2_ : q = false := q_; subst q2_) | (simp [go_sem, *] at q_; have q2_ : q = false := q_; subst q2_)
    have q_ := x2.bel.cell (p := ⟨w.heap.size, 1, none⟩) (by first | omega | (simp; done) | (simp; omega))
    generalize c_x2_0_1 : x2.val.cell? ⟨w.heap.size, 1, none⟩ = q at q_
    first | (have q2_ : q = some _ := q_; subst q2_) | (simp [go_sem] at q_; have q2_ : q = some _ := q_; subst q2_) | (simp [go_sem, *] at q_; have q2_ : q = some _ := q_; subst q2_)
    have q_ := x2.bel.frozen (p := ⟨w.heap.size, 1, none⟩) (by first | omega | (simp; done) | (simp; omega))
    generalize z_x2_0_1 : x2.val.frozen? ⟨w.heap.size, 1, none⟩ = q at q_
    first | (have q2_ : q = false := q_; subst q2_) | (simp [go_sem] at q_; have q2_ : q = false := q_; subst q2_) | (simp [go_sem, *] at q_; have q2_ : q = false := q_; subst q2_)
    have l_x2_1 : w.heap.size+1 < x2.val.heap.size := by omega
    have m_x2_1 : w.heap.size+1 < x2.val.heap.size + 1 := by omega
    have q_ := x2.bel.cell (p := ⟨w.heap.size+1, 0, none⟩) (by first | omega | (simp; done) | (simp; omega))
    generalize c_x2_1_0 : x2.val.cell? ⟨w.heap.size+1, 0, none⟩ = q at q_
    first | (have q2_ : q = some _ := q_; subst q2_) | (simp [go_sem] at q_; have q2_ : q = some _ := q_; subst q2_) | (simp [go_sem, *] at q_; have q2_ : q = some _ := q_; subst q2_)
    have q_ := x2.bel.frozen (p := ⟨w.heap.size+1, 0, none⟩) (by first | omega | (simp; done) | (simp; omega))
    generalize z_x2_1_0 : x2.val.frozen? ⟨w.heap.size+1, 0, none⟩ = q at q_
    first | (have q2_ : q = false := q_; subst q2_) | (simp [go_sem] at q_; have q2_ : q = false := q_; subst q2_) | (simp [go_sem, *] at q_; have q2_ : q = false := q_; subst q2_)
    have q_ := x2.bel.cell (p := ⟨w.heap.size+1, 1, none⟩) (by first | omega | (simp; done) | (simp; omega))
    generalize c_x2_1_1 : x2.val.cell? ⟨w.heap.size+1, 1, none⟩ = q at q_
    first | (have q2_ : q = some _ := q_; subst q2_) | (simp [go_sem] at q_; have q2_ : q = some _ := q_; subst q2_) | (simp [go_sem, *] at q_; have q2_ : q = some _ := q_; subst q2_)
    have q_ := x2.bel.frozen (p := ⟨w.heap.size+1, 1, none⟩) (by first | omega | (simp; done) | (simp; omega))
    generalize z_x2_1_1 : x2.val.frozen? ⟨w.heap.size+1, 1, none⟩ = q at q_
    first | (have q2_ : q = false := q_; subst q2_) | (simp [go_sem] at q_; have q2_ : q = false := q_; subst q2_) | (simp [go_sem, *] at q_; have q2_ : q = false := q_; subst q2_)
    go_wp2
    refine bodyPost_ret (v := .tuple #[.agg #[.int .u16 (o : Int), .int .i64 (l - 1)], .bool false]) (by simp [results, Try.results68, go_sem, *]) rfl ⟨rfl, (by repeat (first | with_reducible exact Below.refl _ _ | with_reducible refine bel_later _ ?_ | with_reducible refine bel_alloc ?_ _ | refine bel_set ?_ (by first | omega | (simp; done) | (simp; omega)) _ | with_reducible refine Below.drew ?_ | with_reducible refine bel_drewN ?_ _ | with_reducible assumption | assumption))⟩
end Go.Proofs.Ytajbghjjpebndaa
