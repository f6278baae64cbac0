/- The walks of the reference's leases (saucierref18). -/
import Derived.Test.YtajbghjjpebndaaQ19
namespace Go.Proofs.Ytajbghjjpebndaa
set_option maxRecDepth 100000
open Go.RowKit
set_option linter.unusedVariables false
attribute [local go_sem] Later.cell Later.frozen setCell_twice lease_fld0 lease_fld1

theorem ref_right_any (x : Ls.L) (w : World) (hf : Ls.fit x) :
    Calls Try.prog 54 #[.agg #[.int .u16 (x.o : Int), .int .i64 x.l]] w fun e w' => e = .returned (.bool (Ls.right x)) ∧ Below w.heap.size w w' := by
  obtain ⟨o, l⟩ := x
  obtain ⟨h1, h2, h3⟩ := hf
  simp only at h1 h2 h3
  by_cases ho : o = 0
  · subst ho
    by_cases hl : l = 0
    · subst hl
      go_enter Try.func54, Try.ntmps54
      go_wp2
      go_ret
      exact ⟨rfl, (by repeat (first | with_reducible exact Below.refl _ _ | with_reducible refine bel_later _ ?_ | with_reducible refine bel_alloc ?_ _ | refine bel_set ?_ (by first | omega | (simp; done) | (simp; omega)) _ | with_reducible refine Below.drew ?_ | with_reducible refine bel_drewN ?_ _ | with_reducible assumption | assumption))⟩
    · rw [Ls.right_not_free rfl hl]
      have hl' : (l == 0) = false := beq_eq_false_iff_ne.2 hl
      go_enter Try.func54, Try.ntmps54
      go_wp2
      go_ret
      exact ⟨rfl, (by repeat (first | with_reducible exact Below.refl _ _ | with_reducible refine bel_later _ ?_ | with_reducible refine bel_alloc ?_ _ | refine bel_set ?_ (by first | omega | (simp; done) | (simp; omega)) _ | with_reducible refine Below.drew ?_ | with_reducible refine bel_drewN ?_ _ | with_reducible assumption | assumption))⟩
  have h0 : ((o : Int) == 0) = false := beq_eq_false_iff_ne.2 (by omega)
  by_cases hl : 1 ≤ l
  · rw [Ls.right_of_runs ho hl]
    have hl' : decide (0 < l) = true := by simp; omega
    go_enter Try.func54, Try.ntmps54
    go_wp2
    go_ret
    exact ⟨rfl, (by repeat (first | with_reducible exact Below.refl _ _ | with_reducible refine bel_later _ ?_ | with_reducible refine bel_alloc ?_ _ | refine bel_set ?_ (by first | omega | (simp; done) | (simp; omega)) _ | with_reducible refine Below.drew ?_ | with_reducible refine bel_drewN ?_ _ | with_reducible assumption | assumption))⟩
  have hl1 : decide (0 < l) = false := by simp; omega
  by_cases hm : l = -1
  · subst hm
    rw [Ls.right_of_held ho rfl]
    go_enter Try.func54, Try.ntmps54
    go_wp2
    go_ret
    exact ⟨rfl, (by repeat (first | with_reducible exact Below.refl _ _ | with_reducible refine bel_later _ ?_ | with_reducible refine bel_alloc ?_ _ | refine bel_set ?_ (by first | omega | (simp; done) | (simp; omega)) _ | with_reducible refine Below.drew ?_ | with_reducible refine bel_drewN ?_ _ | with_reducible assumption | assumption))⟩
  · rw [Ls.right_not ho (by simp only; omega) hm]
    have hl' : (l == -1) = false := beq_eq_false_iff_ne.2 hm
    go_enter Try.func54, Try.ntmps54
    go_wp2
    go_ret
    exact ⟨rfl, (by repeat (first | with_reducible exact Below.refl _ _ | with_reducible refine bel_later _ ?_ | with_reducible refine bel_alloc ?_ _ | refine bel_set ?_ (by first | omega | (simp; done) | (simp; omega)) _ | with_reducible refine Below.drew ?_ | with_reducible refine bel_drewN ?_ _ | with_reducible assumption | assumption))⟩

theorem ref_as_any (x c : Ls.L) (w : World) (hf : Ls.fit x) (hc : Ls.counted x = c) :
    Calls Try.prog 83 #[.agg #[.int .u16 (x.o : Int), .int .i64 x.l]] w fun e w' => e = .returned (.agg #[.int .u16 (c.o : Int), .int .i64 c.l]) ∧ Below w.heap.size w w' := by
  have hr := fun w => ref_right_any x w hf
  subst hc
  by_cases h : Ls.right x = true
  · rw [h] at hr
    rw [Ls.counted_of_right h]
    have kr := Lib.hid hr
    clear hr h
    go_enter Try.func83, Try.ntmps83
    go_wp2_with fail
    refine (kr.out _).mono ?_
    rintro e_x1 w_x1 ⟨rfl, hb_x1⟩
    obtain ⟨x1, rfl⟩ := later_is hb_x1
    clear hb_x1
    have hz_x1 := x1.bel.size
    try simp at hz_x1
    go_wp2
    refine bodyPost_ret (v := .agg #[.int .u16 (x.o : Int), .int .i64 x.l]) (by simp [results, Try.results83, go_sem, *]) rfl ⟨rfl, (by repeat (first | with_reducible exact Below.refl _ _ | with_reducible refine bel_later _ ?_ | with_reducible refine bel_alloc ?_ _ | refine bel_set ?_ (by first | omega | (simp; done) | (simp; omega)) _ | with_reducible refine Below.drew ?_ | with_reducible refine bel_drewN ?_ _ | with_reducible assumption | assumption))⟩
  · have h' : Ls.right x = false := by simpa using h
    rw [h'] at hr
    rw [Ls.counted_not h']
    have kr := Lib.hid hr
    clear hr h h'
    go_enter Try.func83, Try.ntmps83
    go_wp2_with fail
    refine (kr.out _).mono ?_
    rintro e_x1 w_x1 ⟨rfl, hb_x1⟩
    obtain ⟨x1, rfl⟩ := later_is hb_x1
    clear hb_x1
    have hz_x1 := x1.bel.size
    try simp at hz_x1
    go_wp2
    refine bodyPost_ret (v := .agg #[.int .u16 (0 : Int), .int .i64 0]) (by simp [results, Try.results83, go_sem, *]) rfl ⟨rfl, (by repeat (first | with_reducible exact Below.refl _ _ | with_reducible refine bel_later _ ?_ | with_reducible refine bel_alloc ?_ _ | refine bel_set ?_ (by first | omega | (simp; done) | (simp; omega)) _ | with_reducible refine Below.drew ?_ | with_reducible refine bel_drewN ?_ _ | with_reducible assumption | assumption))⟩

theorem ref_free_any (x : Ls.L) (w : World) (hf : Ls.fit x) :
    Calls Try.prog 56 #[.agg #[.int .u16 (x.o : Int), .int .i64 x.l]] w fun e w' => e = .returned (.bool (Ls.free x)) ∧ Below w.heap.size w w' := by
  obtain ⟨c, hc⟩ : ∃ c, Ls.counted x = c := ⟨_, rfl⟩
  have kc := Lib.hid (fun w => ref_as_any x c w hf hc)
  have hr := Ls.right_counted x
  have hfr : Ls.free x = decide (c.o = 0) := by rw [← hc]; rfl
  rw [hfr]
  rw [hc] at hr
  obtain ⟨o, l⟩ := c
  clear hc hfr
  rcases Ls.right_cases hr with ⟨h1, h2⟩ | ⟨h1, h2⟩ | ⟨h1, h2⟩ <;> simp only at h1 h2 <;> clear hr
  · subst h1 h2
    go_enter Try.func56, Try.ntmps56
    go_wp2_with fail
    refine (kc.out _).mono ?_
    rintro e_x1 w_x1 ⟨rfl, hb_x1⟩
    obtain ⟨x1, rfl⟩ := later_is hb_x1
    clear hb_x1
    have hz_x1 := x1.bel.size
    try simp at hz_x1
    go_wp2
    go_ret
    exact ⟨rfl, (by repeat (first | with_reducible exact Below.refl _ _ | with_reducible refine bel_later _ ?_ | with_reducible refine bel_alloc ?_ _ | refine bel_set ?_ (by first | omega | (simp; done) | (simp; omega)) _ | with_reducible refine Below.drew ?_ | with_reducible refine bel_drewN ?_ _ | with_reducible assumption | assumption))⟩
  all_goals
    have h0 : decide (o = 0) = false := by simpa using h1
    simp only [h0]
    have h3 : ¬ (o : Int) = 0 := by omega
    have h4 : ((o : Int) == 0) = false := beq_eq_false_iff_ne.2 h3
    clear h0
    go_enter Try.func56, Try.ntmps56
    go_wp2_with fail
    refine (kc.out _).mono ?_
    rintro e_x1 w_x1 ⟨rfl, hb_x1⟩
    obtain ⟨x1, rfl⟩ := later_is hb_x1
    clear hb_x1
    have hz_x1 := x1.bel.size
    try simp at hz_x1
    go_wp2
    go_ret
    exact ⟨rfl, (by repeat (first | with_reducible exact Below.refl _ _ | with_reducible refine bel_later _ ?_ | with_reducible refine bel_alloc ?_ _ | refine bel_set ?_ (by first | omega | (simp; done) | (simp; omega)) _ | with_reducible refine Below.drew ?_ | with_reducible refine bel_drewN ?_ _ | with_reducible assumption | assumption))⟩

end Go.Proofs.Ytajbghjjpebndaa
