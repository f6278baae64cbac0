/- The walks of package lease. -/
import Derived.Test.YtlekadiaobpadaaProg
import Derived.Test.YtlekadiaobpadaaLsLaw
import Derived.Test.YtlekadiaobpadaaBase
import Derived.WalkLawsBesides
import Derived.WalkSpells
import Derived.Outline
namespace Go.Proofs.Ytlekadiaobpadaa
open Go.RowKit
set_option linter.unusedVariables false
attribute [local go_sem] Later.cell Later.frozen


theorem lease_fld0 (a b : Value) (w : World) : (Instr.field 24 (.agg #[a, b]) 0).run Try.prog w = .ok a w := by kernel_rfl
theorem lease_fld1 (a b : Value) (w : World) : (Instr.field 24 (.agg #[a, b]) 1).run Try.prog w = .ok b w := by kernel_rfl

theorem held_any (o : Nat) (w : World) (h : o < 65536) :
    Calls Try.prog 25 #[.int .u16 (o : Int)] w fun e w' => e = .returned (.agg #[.int .u16 (o : Int), .int .i64 (-1)]) ∧ Below w.heap.size w w' := by
  go_enter Try.func25, Try.ntmps25
  go_wp2
  exact bodyPost_ret (v := .agg #[.int .u16 (o : Int), .int .i64 (-1)]) (by simp [results, Try.results25, go_sem, *]) rfl ⟨rfl, (by repeat (first | exact Below.refl _ _ | refine bel_later _ ?_ | refine bel_alloc ?_ _ | refine bel_set ?_ (by first | omega | (simp; done) | (simp; omega)) _ | refine Below.drew ?_ | assumption))⟩

theorem right_any (x : Ls.L) (w : World) (hf : Ls.fit x) :
    Calls Try.prog 16 #[.agg #[.int .u16 (x.o : Int), .int .i64 x.l]] w fun e w' => e = .returned (.bool (Ls.right x)) ∧ Below w.heap.size w w' := by
  obtain ⟨o, l⟩ := x
  obtain ⟨h1, h2, h3⟩ := hf
  simp only at h1 h2 h3
  by_cases ho : o = 0
  · subst ho
    by_cases hl : l = 0
    · subst hl
      go_enter Try.func16, Try.ntmps16
      go_wp2
      go_ret
      exact ⟨rfl, (by repeat (first | exact Below.refl _ _ | refine bel_later _ ?_ | refine bel_alloc ?_ _ | refine bel_set ?_ (by first | omega | (simp; done) | (simp; omega)) _ | refine Below.drew ?_ | assumption))⟩
    · rw [Ls.right_not_free rfl hl]
      go_enter Try.func16, Try.ntmps16
      go_wp2
      go_ret
      exact ⟨rfl, (by repeat (first | exact Below.refl _ _ | refine bel_later _ ?_ | refine bel_alloc ?_ _ | refine bel_set ?_ (by first | omega | (simp; done) | (simp; omega)) _ | refine Below.drew ?_ | assumption))⟩
  have h0 : ((o : Int) == 0) = false := beq_eq_false_iff_ne.2 (by omega)
  by_cases hl : 1 ≤ l
  · rw [Ls.right_of_runs ho hl]
    go_enter Try.func16, Try.ntmps16
    go_wp2
    refine wp_region_lat (by kernel_rfl) (by kernel_rfl) ?_
    repeat (go_big_quiet_step (fail))
    refine wpQuiet_nil ?_
    rintro _ ⟨x, rfl⟩
    have hz_x := x.bel.size
    try simp at hz_x
    go_wp2
    go_ret
    exact ⟨rfl, (by repeat (first | exact Below.refl _ _ | refine bel_later _ ?_ | refine bel_alloc ?_ _ | refine bel_set ?_ (by first | omega | (simp; done) | (simp; omega)) _ | refine Below.drew ?_ | assumption))⟩
  have hl1 : decide (1 ≤ l) = false := by simp; omega
  by_cases hm : l = -1
  · subst hm
    rw [Ls.right_of_held ho rfl]
    go_enter Try.func16, Try.ntmps16
    go_wp2
    refine wp_region_lat (by kernel_rfl) (by kernel_rfl) ?_
    repeat (go_big_quiet_step (fail))
    go_big_quiet_step (exact later_new (held_any _ _ h1))
    repeat (go_big_quiet_step (fail))
    refine wpQuiet_nil ?_
    rintro _ ⟨x, rfl⟩
    have hz_x := x.bel.size
    try simp at hz_x
    go_wp2
    go_ret
    exact ⟨rfl, (by repeat (first | exact Below.refl _ _ | refine bel_later _ ?_ | refine bel_alloc ?_ _ | refine bel_set ?_ (by first | omega | (simp; done) | (simp; omega)) _ | refine Below.drew ?_ | assumption))⟩
  · rw [Ls.right_not ho (by simp only; omega) hm]
    go_enter Try.func16, Try.ntmps16
    go_wp2
    refine wp_region_lat (by kernel_rfl) (by kernel_rfl) ?_
    repeat (go_big_quiet_step (fail))
    go_big_quiet_step (exact later_new (held_any _ _ h1))
    repeat (go_big_quiet_step (fail))
    refine wpQuiet_nil ?_
    rintro _ ⟨x, rfl⟩
    have hz_x := x.bel.size
    try simp at hz_x
    go_wp2
    go_ret
    exact ⟨rfl, (by repeat (first | exact Below.refl _ _ | refine bel_later _ ?_ | refine bel_alloc ?_ _ | refine bel_set ?_ (by first | omega | (simp; done) | (simp; omega)) _ | refine Below.drew ?_ | assumption))⟩

theorem counted_any (x c : Ls.L) (w : World) (hf : Ls.fit x) (hc : Ls.counted x = c) :
    Calls Try.prog 24 #[.agg #[.int .u16 (x.o : Int), .int .i64 x.l]] w fun e w' => e = .returned (.agg #[.int .u16 (c.o : Int), .int .i64 c.l]) ∧ Below w.heap.size w w' := by
  have hr := fun w => right_any x w hf
  subst hc
  by_cases h : Ls.right x = true
  · rw [h] at hr
    rw [Ls.counted_of_right h]
    have kr := Lib.hid hr
    clear hr h
    go_enter Try.func24, Try.ntmps24
    go_wp2_with fail
    refine (kr.out _).mono ?_
    rintro e_x1 w_x1 ⟨rfl, hb_x1⟩
    obtain ⟨x1, rfl⟩ := later_is hb_x1
    clear hb_x1
    have hz_x1 := x1.bel.size
    try simp at hz_x1
    go_wp2
    exact bodyPost_ret (v := .agg #[.int .u16 (x.o : Int), .int .i64 x.l]) (by simp [results, Try.results24, go_sem, *]) rfl ⟨rfl, (by repeat (first | exact Below.refl _ _ | refine bel_later _ ?_ | refine bel_alloc ?_ _ | refine bel_set ?_ (by first | omega | (simp; done) | (simp; omega)) _ | refine Below.drew ?_ | assumption))⟩
  · have h' : Ls.right x = false := by simpa using h
    rw [h'] at hr
    rw [Ls.counted_not h']
    have kr := Lib.hid hr
    clear hr h h'
    go_enter Try.func24, Try.ntmps24
    go_wp2_with fail
    refine (kr.out _).mono ?_
    rintro e_x1 w_x1 ⟨rfl, hb_x1⟩
    obtain ⟨x1, rfl⟩ := later_is hb_x1
    clear hb_x1
    have hz_x1 := x1.bel.size
    try simp at hz_x1
    go_wp2
    exact bodyPost_ret (v := .agg #[.int .u16 (0 : Int), .int .i64 0]) (by simp [results, Try.results24, go_sem, *]) rfl ⟨rfl, (by repeat (first | exact Below.refl _ _ | refine bel_later _ ?_ | refine bel_alloc ?_ _ | refine bel_set ?_ (by first | omega | (simp; done) | (simp; omega)) _ | refine Below.drew ?_ | assumption))⟩

theorem free_any (x : Ls.L) (w : World) (hf : Ls.fit x) :
    Calls Try.prog 18 #[.agg #[.int .u16 (x.o : Int), .int .i64 x.l]] w fun e w' => e = .returned (.bool (Ls.free x)) ∧ Below w.heap.size w w' := by
  obtain ⟨c, hc⟩ : ∃ c, Ls.counted x = c := ⟨_, rfl⟩
  have kc := Lib.hid (fun w => counted_any x c w hf hc)
  have hr := Ls.right_counted x
  have hfr : Ls.free x = decide (c.o = 0) := by rw [← hc]; rfl
  rw [hfr]
  rw [hc] at hr
  obtain ⟨o, l⟩ := c
  clear hc hfr
  rcases Ls.right_cases hr with ⟨h1, h2⟩ | ⟨h1, h2⟩ | ⟨h1, h2⟩ <;> simp only at h1 h2 <;> clear hr
  · subst h1 h2
    go_enter Try.func18, Try.ntmps18
    go_wp2_with fail
    refine (kc.out _).mono ?_
    rintro e_x1 w_x1 ⟨rfl, hb_x1⟩
    obtain ⟨x1, rfl⟩ := later_is hb_x1
    clear hb_x1
    have hz_x1 := x1.bel.size
    try simp at hz_x1
    go_wp2
    go_ret
    exact ⟨rfl, (by repeat (first | exact Below.refl _ _ | refine bel_later _ ?_ | refine bel_alloc ?_ _ | refine bel_set ?_ (by first | omega | (simp; done) | (simp; omega)) _ | refine Below.drew ?_ | assumption))⟩
  all_goals
    have h0 : decide (o = 0) = false := by simpa using h1
    simp only [h0]
    have h3 : ¬ (o : Int) = 0 := by omega
    clear h0
    go_enter Try.func18, Try.ntmps18
    go_wp2_with fail
    refine (kc.out _).mono ?_
    rintro e_x1 w_x1 ⟨rfl, hb_x1⟩
    obtain ⟨x1, rfl⟩ := later_is hb_x1
    clear hb_x1
    have hz_x1 := x1.bel.size
    try simp at hz_x1
    go_wp2
    go_ret
    exact ⟨rfl, (by repeat (first | exact Below.refl _ _ | refine bel_later _ ?_ | refine bel_alloc ?_ _ | refine bel_set ?_ (by first | omega | (simp; done) | (simp; omega)) _ | refine Below.drew ?_ | assumption))⟩

end Go.Proofs.Ytlekadiaobpadaa
