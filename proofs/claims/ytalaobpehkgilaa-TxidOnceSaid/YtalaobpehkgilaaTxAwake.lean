/- The chapter's examples (awake). -/
import Derived.Test.YtalaobpehkgilaaTx
namespace Go.Proofs.Ytalaobpehkgilaa
open Go.RowKit
set_option linter.unusedVariables false
attribute [local go_sem] Later.cell Later.frozen setCell_twice

theorem Recs.one (w : World) (r : Rec) (t : TypeId) (n B : Nat) (hn : n = w.heap.size) (hB : n < B) : Recs Rec.cells 5 (w.alloc (.cells #[.int .u8 (r.what : Int), .int .u32 (r.tx : Int), .int .u8 (r.who : Int), .bool r.yes, .slice r.ta r.tn r.tc] t)) B (some ⟨n, 0, none⟩) [r] := fun _ => by
  subst hn
  refine ⟨w.heap.size, 0, rfl, hB, fun j a hj i v hv => ?_⟩
  have hj0 : j = 0 := by
    rcases Nat.eq_zero_or_pos j with h | h
    · exact h
    · rw [List.getElem?_eq_none (by simp; omega)] at hj; cases hj
  subst hj0
  simp at hj
  subst hj
  have : 0 + (0 * 5 + i) = i := by omega
  rw [this, World.cell?_alloc_new]
  rw [← hv]
  simp [Rec.cells]

set_option maxRecDepth 100000 in
set_option maxHeartbeats 2000000 in
theorem awake_any (w : World) : Calls Try.prog 14 #[] w fun e w' => e = .returned (.bool true) ∧ Below w.heap.size w w' := by
  go_enter Try.func14, Try.ntmps14
  go_wp2_with fail
  refine (tx_open_any none [] 0 1 _ Recs.nil (by simp) (by decide) rfl).mono ?_
  rintro e_x1 w_x1 ⟨rfl, hb_x1⟩
  obtain ⟨x1, rfl⟩ := later_is hb_x1
  clear hb_x1
  have hz_x1 := x1.bel.size
  try simp at hz_x1
  go_wp2_with fail
  refine (need_yes 1 _ (by decide) 17 rfl).mono ?_
  rintro e_x2 w_x2 ⟨rfl, hb_x2⟩
  obtain ⟨x2, rfl⟩ := later_is hb_x2
  clear hb_x2
  have hz_x2 := x2.bel.size
  try simp at hz_x2
  have l_x2_0 : x1.val.heap.size < x2.val.heap.size := by omega
  have m_x2_0 : x1.val.heap.size < x2.val.heap.size + 1 := by omega
  have q_ := x2.bel.cell (p := ⟨x1.val.heap.size, 0, none⟩) (by first | omega | (simp; done) | (simp; omega))
  generalize c_x2_0_0 : x2.val.cell? ⟨x1.val.heap.size, 0, none⟩ = q at q_
  first | (have q2_ : q = some _ := q_; subst q2_) | (simp [go_sem] at q_; have q2_ : q = some _ := q_; subst q2_) | (simp [go_sem, *] at q_; have q2_ : q = some _ := q_; subst q2_)
  have q_ := x2.bel.cell (p := ⟨x1.val.heap.size, 1, none⟩) (by first | omega | (simp; done) | (simp; omega))
  generalize c_x2_0_1 : x2.val.cell? ⟨x1.val.heap.size, 1, none⟩ = q at q_
  first | (have q2_ : q = some _ := q_; subst q2_) | (simp [go_sem] at q_; have q2_ : q = some _ := q_; subst q2_) | (simp [go_sem, *] at q_; have q2_ : q = some _ := q_; subst q2_)
  go_wp2_with fail
  refine (reserve_any 1 17 _ (by decide) rfl).mono ?_
  rintro e_x3 w_x3 ⟨rfl, hb_x3⟩
  obtain ⟨x3, rfl⟩ := later_is hb_x3
  clear hb_x3
  have hz_x3 := x3.bel.size
  try simp at hz_x3
  replace c_x2_0_0 := x3.keep (by repeat (first | exact c_x2_0_0 | apply keep_alloc | (apply keep_set; rotate_left; first | (simp; done) | (simp; omega))))
  replace c_x2_0_1 := x3.keep (by repeat (first | exact c_x2_0_1 | apply keep_alloc | (apply keep_set; rotate_left; first | (simp; done) | (simp; omega))))
  have lc_x3_0 : x1.val.heap.size < x3.val.heap.size := by omega
  have mc_x3_0 : x1.val.heap.size < x3.val.heap.size + 1 := by omega
  have l_x3_0 : x2.val.heap.size < x3.val.heap.size := by omega
  have m_x3_0 : x2.val.heap.size < x3.val.heap.size + 1 := by omega
  have q_ := x3.bel.cell (p := ⟨x2.val.heap.size, 0, none⟩) (by first | omega | (simp; done) | (simp; omega))
  generalize c_x3_0_0 : x3.val.cell? ⟨x2.val.heap.size, 0, none⟩ = q at q_
  first | (have q2_ : q = some _ := q_; subst q2_) | (simp [go_sem] at q_; have q2_ : q = some _ := q_; subst q2_) | (simp [go_sem, *] at q_; have q2_ : q = some _ := q_; subst q2_)
  have q_ := x3.bel.cell (p := ⟨x2.val.heap.size, 1, none⟩) (by first | omega | (simp; done) | (simp; omega))
  generalize c_x3_0_1 : x3.val.cell? ⟨x2.val.heap.size, 1, none⟩ = q at q_
  first | (have q2_ : q = some _ := q_; subst q2_) | (simp [go_sem] at q_; have q2_ : q = some _ := q_; subst q2_) | (simp [go_sem, *] at q_; have q2_ : q = some _ := q_; subst q2_)
  have q_ := x3.bel.cell (p := ⟨x2.val.heap.size, 2, none⟩) (by first | omega | (simp; done) | (simp; omega))
  generalize c_x3_0_2 : x3.val.cell? ⟨x2.val.heap.size, 2, none⟩ = q at q_
  first | (have q2_ : q = some _ := q_; subst q2_) | (simp [go_sem] at q_; have q2_ : q = some _ := q_; subst q2_) | (simp [go_sem, *] at q_; have q2_ : q = some _ := q_; subst q2_)
  have q_ := x3.bel.cell (p := ⟨x2.val.heap.size, 3, none⟩) (by first | omega | (simp; done) | (simp; omega))
  generalize c_x3_0_3 : x3.val.cell? ⟨x2.val.heap.size, 3, none⟩ = q at q_
  first | (have q2_ : q = some _ := q_; subst q2_) | (simp [go_sem] at q_; have q2_ : q = some _ := q_; subst q2_) | (simp [go_sem, *] at q_; have q2_ : q = some _ := q_; subst q2_)
  have q_ := x3.bel.cell (p := ⟨x2.val.heap.size, 4, none⟩) (by first | omega | (simp; done) | (simp; omega))
  generalize c_x3_0_4 : x3.val.cell? ⟨x2.val.heap.size, 4, none⟩ = q at q_
  first | (have q2_ : q = some _ := q_; subst q2_) | (simp [go_sem] at q_; have q2_ : q = some _ := q_; subst q2_) | (simp [go_sem, *] at q_; have q2_ : q = some _ := q_; subst q2_)
  go_wp2_with fail
  refine (tx_take_one 1 17 _ (by decide) (by decide)).mono ?_
  rintro e_x4 w_x4 ⟨rfl, hb_x4⟩
  obtain ⟨x4, rfl⟩ := later_is hb_x4
  clear hb_x4
  have hz_x4 := x4.bel.size
  try simp at hz_x4
  replace c_x2_0_0 := x4.keep (by repeat (first | exact c_x2_0_0 | apply keep_alloc | (apply keep_set; rotate_left; first | (simp; done) | (simp; omega))))
  replace c_x2_0_1 := x4.keep (by repeat (first | exact c_x2_0_1 | apply keep_alloc | (apply keep_set; rotate_left; first | (simp; done) | (simp; omega))))
  replace c_x3_0_0 := x4.keep (by repeat (first | exact c_x3_0_0 | apply keep_alloc | (apply keep_set; rotate_left; first | (simp; done) | (simp; omega))))
  replace c_x3_0_1 := x4.keep (by repeat (first | exact c_x3_0_1 | apply keep_alloc | (apply keep_set; rotate_left; first | (simp; done) | (simp; omega))))
  replace c_x3_0_2 := x4.keep (by repeat (first | exact c_x3_0_2 | apply keep_alloc | (apply keep_set; rotate_left; first | (simp; done) | (simp; omega))))
  replace c_x3_0_3 := x4.keep (by repeat (first | exact c_x3_0_3 | apply keep_alloc | (apply keep_set; rotate_left; first | (simp; done) | (simp; omega))))
  replace c_x3_0_4 := x4.keep (by repeat (first | exact c_x3_0_4 | apply keep_alloc | (apply keep_set; rotate_left; first | (simp; done) | (simp; omega))))
  have lc_x4_0 : x1.val.heap.size < x4.val.heap.size := by omega
  have mc_x4_0 : x1.val.heap.size < x4.val.heap.size + 1 := by omega
  have lc_x4_1 : x2.val.heap.size < x4.val.heap.size := by omega
  have mc_x4_1 : x2.val.heap.size < x4.val.heap.size + 1 := by omega
  have l_x4_0 : x3.val.heap.size < x4.val.heap.size := by omega
  have m_x4_0 : x3.val.heap.size < x4.val.heap.size + 1 := by omega
  have q_ := x4.bel.cell (p := ⟨x3.val.heap.size, 0, none⟩) (by first | omega | (simp; done) | (simp; omega))
  generalize c_x4_0_0 : x4.val.cell? ⟨x3.val.heap.size, 0, none⟩ = q at q_
  first | (have q2_ : q = some _ := q_; subst q2_) | (simp [go_sem] at q_; have q2_ : q = some _ := q_; subst q2_) | (simp [go_sem, *] at q_; have q2_ : q = some _ := q_; subst q2_)
  have q_ := x4.bel.cell (p := ⟨x3.val.heap.size, 1, none⟩) (by first | omega | (simp; done) | (simp; omega))
  generalize c_x4_0_1 : x4.val.cell? ⟨x3.val.heap.size, 1, none⟩ = q at q_
  first | (have q2_ : q = some _ := q_; subst q2_) | (simp [go_sem] at q_; have q2_ : q = some _ := q_; subst q2_) | (simp [go_sem, *] at q_; have q2_ : q = some _ := q_; subst q2_)
  go_wp2_with fail
  refine (need_no 4294967295 4294967295 _ (by decide) (by decide) (.inr rfl)).mono ?_
  rintro e_x5 w_x5 ⟨rfl, hb_x5⟩
  obtain ⟨x5, rfl⟩ := later_is hb_x5
  clear hb_x5
  have hz_x5 := x5.bel.size
  try simp at hz_x5
  replace c_x2_0_0 := x5.keep (by repeat (first | exact c_x2_0_0 | apply keep_alloc | (apply keep_set; rotate_left; first | (simp; done) | (simp; omega))))
  replace c_x2_0_1 := x5.keep (by repeat (first | exact c_x2_0_1 | apply keep_alloc | (apply keep_set; rotate_left; first | (simp; done) | (simp; omega))))
  replace c_x3_0_0 := x5.keep (by repeat (first | exact c_x3_0_0 | apply keep_alloc | (apply keep_set; rotate_left; first | (simp; done) | (simp; omega))))
  replace c_x3_0_1 := x5.keep (by repeat (first | exact c_x3_0_1 | apply keep_alloc | (apply keep_set; rotate_left; first | (simp; done) | (simp; omega))))
  replace c_x3_0_2 := x5.keep (by repeat (first | exact c_x3_0_2 | apply keep_alloc | (apply keep_set; rotate_left; first | (simp; done) | (simp; omega))))
  replace c_x3_0_3 := x5.keep (by repeat (first | exact c_x3_0_3 | apply keep_alloc | (apply keep_set; rotate_left; first | (simp; done) | (simp; omega))))
  replace c_x3_0_4 := x5.keep (by repeat (first | exact c_x3_0_4 | apply keep_alloc | (apply keep_set; rotate_left; first | (simp; done) | (simp; omega))))
  replace c_x4_0_0 := x5.keep (by repeat (first | exact c_x4_0_0 | apply keep_alloc | (apply keep_set; rotate_left; first | (simp; done) | (simp; omega))))
  replace c_x4_0_1 := x5.keep (by repeat (first | exact c_x4_0_1 | apply keep_alloc | (apply keep_set; rotate_left; first | (simp; done) | (simp; omega))))
  have lc_x5_0 : x1.val.heap.size < x5.val.heap.size := by omega
  have mc_x5_0 : x1.val.heap.size < x5.val.heap.size + 1 := by omega
  have lc_x5_1 : x2.val.heap.size < x5.val.heap.size := by omega
  have mc_x5_1 : x2.val.heap.size < x5.val.heap.size + 1 := by omega
  have lc_x5_2 : x3.val.heap.size < x5.val.heap.size := by omega
  have mc_x5_2 : x3.val.heap.size < x5.val.heap.size + 1 := by omega
  have l_x5_0 : x4.val.heap.size < x5.val.heap.size := by omega
  have m_x5_0 : x4.val.heap.size < x5.val.heap.size + 1 := by omega
  have q_ := x5.bel.cell (p := ⟨x4.val.heap.size, 0, none⟩) (by first | omega | (simp; done) | (simp; omega))
  generalize c_x5_0_0 : x5.val.cell? ⟨x4.val.heap.size, 0, none⟩ = q at q_
  first | (have q2_ : q = some _ := q_; subst q2_) | (simp [go_sem] at q_; have q2_ : q = some _ := q_; subst q2_) | (simp [go_sem, *] at q_; have q2_ : q = some _ := q_; subst q2_)
  have q_ := x5.bel.cell (p := ⟨x4.val.heap.size, 1, none⟩) (by first | omega | (simp; done) | (simp; omega))
  generalize c_x5_0_1 : x5.val.cell? ⟨x4.val.heap.size, 1, none⟩ = q at q_
  first | (have q2_ : q = some _ := q_; subst q2_) | (simp [go_sem] at q_; have q2_ : q = some _ := q_; subst q2_) | (simp [go_sem, *] at q_; have q2_ : q = some _ := q_; subst q2_)
  go_wp2_with fail
  refine (tx_take_spent 4294967295 _).mono ?_
  rintro e_x6 w_x6 ⟨rfl, hb_x6⟩
  obtain ⟨x6, rfl⟩ := later_is hb_x6
  clear hb_x6
  have hz_x6 := x6.bel.size
  try simp at hz_x6
  replace c_x2_0_0 := x6.keep (by repeat (first | exact c_x2_0_0 | apply keep_alloc | (apply keep_set; rotate_left; first | (simp; done) | (simp; omega))))
  replace c_x2_0_1 := x6.keep (by repeat (first | exact c_x2_0_1 | apply keep_alloc | (apply keep_set; rotate_left; first | (simp; done) | (simp; omega))))
  replace c_x3_0_0 := x6.keep (by repeat (first | exact c_x3_0_0 | apply keep_alloc | (apply keep_set; rotate_left; first | (simp; done) | (simp; omega))))
  replace c_x3_0_1 := x6.keep (by repeat (first | exact c_x3_0_1 | apply keep_alloc | (apply keep_set; rotate_left; first | (simp; done) | (simp; omega))))
  replace c_x3_0_2 := x6.keep (by repeat (first | exact c_x3_0_2 | apply keep_alloc | (apply keep_set; rotate_left; first | (simp; done) | (simp; omega))))
  replace c_x3_0_3 := x6.keep (by repeat (first | exact c_x3_0_3 | apply keep_alloc | (apply keep_set; rotate_left; first | (simp; done) | (simp; omega))))
  replace c_x3_0_4 := x6.keep (by repeat (first | exact c_x3_0_4 | apply keep_alloc | (apply keep_set; rotate_left; first | (simp; done) | (simp; omega))))
  replace c_x4_0_0 := x6.keep (by repeat (first | exact c_x4_0_0 | apply keep_alloc | (apply keep_set; rotate_left; first | (simp; done) | (simp; omega))))
  replace c_x4_0_1 := x6.keep (by repeat (first | exact c_x4_0_1 | apply keep_alloc | (apply keep_set; rotate_left; first | (simp; done) | (simp; omega))))
  replace c_x5_0_0 := x6.keep (by repeat (first | exact c_x5_0_0 | apply keep_alloc | (apply keep_set; rotate_left; first | (simp; done) | (simp; omega))))
  replace c_x5_0_1 := x6.keep (by repeat (first | exact c_x5_0_1 | apply keep_alloc | (apply keep_set; rotate_left; first | (simp; done) | (simp; omega))))
  have lc_x6_0 : x1.val.heap.size < x6.val.heap.size := by omega
  have mc_x6_0 : x1.val.heap.size < x6.val.heap.size + 1 := by omega
  have lc_x6_1 : x2.val.heap.size < x6.val.heap.size := by omega
  have mc_x6_1 : x2.val.heap.size < x6.val.heap.size + 1 := by omega
  have lc_x6_2 : x3.val.heap.size < x6.val.heap.size := by omega
  have mc_x6_2 : x3.val.heap.size < x6.val.heap.size + 1 := by omega
  have lc_x6_3 : x4.val.heap.size < x6.val.heap.size := by omega
  have mc_x6_3 : x4.val.heap.size < x6.val.heap.size + 1 := by omega
  go_wp2_with fail
  refine (need_yes 4294967291 _ (by decide) 4294967295 rfl).mono ?_
  rintro e_x7 w_x7 ⟨rfl, hb_x7⟩
  obtain ⟨x7, rfl⟩ := later_is hb_x7
  clear hb_x7
  have hz_x7 := x7.bel.size
  try simp at hz_x7
  replace c_x2_0_0 := x7.keep (by repeat (first | exact c_x2_0_0 | apply keep_alloc | (apply keep_set; rotate_left; first | (simp; done) | (simp; omega))))
  replace c_x2_0_1 := x7.keep (by repeat (first | exact c_x2_0_1 | apply keep_alloc | (apply keep_set; rotate_left; first | (simp; done) | (simp; omega))))
  replace c_x3_0_0 := x7.keep (by repeat (first | exact c_x3_0_0 | apply keep_alloc | (apply keep_set; rotate_left; first | (simp; done) | (simp; omega))))
  replace c_x3_0_1 := x7.keep (by repeat (first | exact c_x3_0_1 | apply keep_alloc | (apply keep_set; rotate_left; first | (simp; done) | (simp; omega))))
  replace c_x3_0_2 := x7.keep (by repeat (first | exact c_x3_0_2 | apply keep_alloc | (apply keep_set; rotate_left; first | (simp; done) | (simp; omega))))
  replace c_x3_0_3 := x7.keep (by repeat (first | exact c_x3_0_3 | apply keep_alloc | (apply keep_set; rotate_left; first | (simp; done) | (simp; omega))))
  replace c_x3_0_4 := x7.keep (by repeat (first | exact c_x3_0_4 | apply keep_alloc | (apply keep_set; rotate_left; first | (simp; done) | (simp; omega))))
  replace c_x4_0_0 := x7.keep (by repeat (first | exact c_x4_0_0 | apply keep_alloc | (apply keep_set; rotate_left; first | (simp; done) | (simp; omega))))
  replace c_x4_0_1 := x7.keep (by repeat (first | exact c_x4_0_1 | apply keep_alloc | (apply keep_set; rotate_left; first | (simp; done) | (simp; omega))))
  replace c_x5_0_0 := x7.keep (by repeat (first | exact c_x5_0_0 | apply keep_alloc | (apply keep_set; rotate_left; first | (simp; done) | (simp; omega))))
  replace c_x5_0_1 := x7.keep (by repeat (first | exact c_x5_0_1 | apply keep_alloc | (apply keep_set; rotate_left; first | (simp; done) | (simp; omega))))
  have lc_x7_0 : x1.val.heap.size < x7.val.heap.size := by omega
  have mc_x7_0 : x1.val.heap.size < x7.val.heap.size + 1 := by omega
  have lc_x7_1 : x2.val.heap.size < x7.val.heap.size := by omega
  have mc_x7_1 : x2.val.heap.size < x7.val.heap.size + 1 := by omega
  have lc_x7_2 : x3.val.heap.size < x7.val.heap.size := by omega
  have mc_x7_2 : x3.val.heap.size < x7.val.heap.size + 1 := by omega
  have lc_x7_3 : x4.val.heap.size < x7.val.heap.size := by omega
  have mc_x7_3 : x4.val.heap.size < x7.val.heap.size + 1 := by omega
  go_wp2_with fail
  refine (tx_open_any _ [⟨1, 17, 0, false, none, 0, 0⟩] 1 17 _ (Recs.one _ ⟨1, 17, 0, false, none, 0, 0⟩ _ _ _ (by simp) (by simp)) (by intro r hr; simp at hr; subst hr; exact ⟨by decide, by decide, by decide⟩) (by decide) rfl).mono ?_
  rintro e w8 ⟨rfl, hb8⟩
  obtain ⟨x8, rfl⟩ := later_is hb8
  have t1 := x8.bel.cell (p := ⟨x7.val.heap.size, 1, none⟩) (by simp; omega)
  rw [World.cell?_alloc_lt _ _ _ (by simp)] at t1
  simp only [World.cell?_alloc_new] at t1
  clear hb8
  go_wp2
  go_ret
  exact ⟨rfl, (by repeat (first | with_reducible exact Below.refl _ _ | with_reducible refine bel_later _ ?_ | with_reducible refine bel_alloc ?_ _ | refine bel_set ?_ (by first | omega | (simp; done) | (simp; omega)) _ | with_reducible refine Below.drew ?_ | with_reducible refine bel_drewN ?_ _ | with_reducible assumption | assumption))⟩
end Go.Proofs.Ytalaobpehkgilaa
