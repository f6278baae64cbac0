/- Layer 15, the document's answer: Word (layer 15). -/
import Derived.Test.YthhokpaidekmnaaVdFind
import Derived.Test.YthhokpaidekmnaaVrTo
namespace Go.Proofs.Ythhokpaidekmnaa
open Go.RowKit
set_option linter.unusedVariables false
set_option linter.unusedSimpArgs false
set_option maxRecDepth 100000
attribute [local go_sem] Later.cell Later.frozen setCell_twice
set_option maxHeartbeats 4000000 in
theorem rvword_any (p : Pt) (s : St) (w : World) (hp : p.Fit) (hs : s.value.Fit) (hl : Vd.rightD p.low = true) (hh : Vd.rightD p.high = true) (hd0 : 0 ≤ p.digits) : Calls Try.prog 17 #[ptV p, stV s] w fun e w' => e = .returned (regE (Vd.vword p s)) ∧ Below w.heap.size w w' := by
 obtain ⟨nm, at_, dg, sg, ⟨ln, ld⟩, ⟨hn, hd⟩, un⟩ := p
 obtain ⟨sp, ⟨vn, vd⟩, su, sl⟩ := s
 dsimp only at hs hl hh hd0 ⊢
 unfold Vd.vword
 dsimp only
 have TO := Lib.hid (fun w => rto_any vn vd su un w hs)
 cases hT : Vd.to_ ⟨vn, vd⟩ su un with
 | none =>
  rw [hT] at TO
  unfold decV at TO
  clear hT hp hs
  go_enter Try.func17, Try.ntmps17
  go_wp2_with fail
  with_reducible refine (TO.out _).mono ?_
  rintro e_x1 w_x1 ⟨rfl, hb_x1⟩
  obtain ⟨x1, rfl⟩ := later_is hb_x1
  clear hb_x1
  have hz_x1 := x1.bel.size
  try simp at hz_x1
  have l_x1_0 : w.heap.size < x1.val.heap.size := by omega
  have m_x1_0 : w.heap.size < x1.val.heap.size + 1 := by omega
  have q_ := x1.cq (w.heap.size) 0
  generalize c_x1_0_0 : x1.val.cell? ⟨w.heap.size, 0, none⟩ = q at q_
  first | (have q2_ : q = some _ := q_; subst q2_) | (simp [go_sem] at q_; have q2_ : q = some _ := q_; subst q2_) | (simp [go_sem, *] at q_; have q2_ : q = some _ := q_; subst q2_)
  have q_ := x1.cq (w.heap.size) 1
  generalize c_x1_0_1 : x1.val.cell? ⟨w.heap.size, 1, none⟩ = q at q_
  first | (have q2_ : q = some _ := q_; subst q2_) | (simp [go_sem] at q_; have q2_ : q = some _ := q_; subst q2_) | (simp [go_sem, *] at q_; have q2_ : q = some _ := q_; subst q2_)
  have q_ := x1.cq (w.heap.size) 2
  generalize c_x1_0_2 : x1.val.cell? ⟨w.heap.size, 2, none⟩ = q at q_
  first | (have q2_ : q = some _ := q_; subst q2_) | (simp [go_sem] at q_; have q2_ : q = some _ := q_; subst q2_) | (simp [go_sem, *] at q_; have q2_ : q = some _ := q_; subst q2_)
  have q_ := x1.cq (w.heap.size) 3
  generalize c_x1_0_3 : x1.val.cell? ⟨w.heap.size, 3, none⟩ = q at q_
  first | (have q2_ : q = some _ := q_; subst q2_) | (simp [go_sem] at q_; have q2_ : q = some _ := q_; subst q2_) | (simp [go_sem, *] at q_; have q2_ : q = some _ := q_; subst q2_)
  have q_ := x1.cq (w.heap.size) 4
  generalize c_x1_0_4 : x1.val.cell? ⟨w.heap.size, 4, none⟩ = q at q_
  first | (have q2_ : q = some _ := q_; subst q2_) | (simp [go_sem] at q_; have q2_ : q = some _ := q_; subst q2_) | (simp [go_sem, *] at q_; have q2_ : q = some _ := q_; subst q2_)
  have q_ := x1.cq (w.heap.size) 5
  generalize c_x1_0_5 : x1.val.cell? ⟨w.heap.size, 5, none⟩ = q at q_
  first | (have q2_ : q = some _ := q_; subst q2_) | (simp [go_sem] at q_; have q2_ : q = some _ := q_; subst q2_) | (simp [go_sem, *] at q_; have q2_ : q = some _ := q_; subst q2_)
  have q_ := x1.cq (w.heap.size) 6
  generalize c_x1_0_6 : x1.val.cell? ⟨w.heap.size, 6, none⟩ = q at q_
  first | (have q2_ : q = some _ := q_; subst q2_) | (simp [go_sem] at q_; have q2_ : q = some _ := q_; subst q2_) | (simp [go_sem, *] at q_; have q2_ : q = some _ := q_; subst q2_)
  have q_ := x1.cq (w.heap.size) 7
  generalize c_x1_0_7 : x1.val.cell? ⟨w.heap.size, 7, none⟩ = q at q_
  first | (have q2_ : q = some _ := q_; subst q2_) | (simp [go_sem] at q_; have q2_ : q = some _ := q_; subst q2_) | (simp [go_sem, *] at q_; have q2_ : q = some _ := q_; subst q2_)
  have q_ := x1.cq (w.heap.size) 8
  generalize c_x1_0_8 : x1.val.cell? ⟨w.heap.size, 8, none⟩ = q at q_
  first | (have q2_ : q = some _ := q_; subst q2_) | (simp [go_sem] at q_; have q2_ : q = some _ := q_; subst q2_) | (simp [go_sem, *] at q_; have q2_ : q = some _ := q_; subst q2_)
  have l_x1_1 : (w.heap.size+1) < x1.val.heap.size := by omega
  have m_x1_1 : (w.heap.size+1) < x1.val.heap.size + 1 := by omega
  have q_ := x1.cq ((w.heap.size+1)) 0
  generalize c_x1_1_0 : x1.val.cell? ⟨(w.heap.size+1), 0, none⟩ = q at q_
  first | (have q2_ : q = some _ := q_; subst q2_) | (simp [go_sem] at q_; have q2_ : q = some _ := q_; subst q2_) | (simp [go_sem, *] at q_; have q2_ : q = some _ := q_; subst q2_)
  have q_ := x1.cq ((w.heap.size+1)) 1
  generalize c_x1_1_1 : x1.val.cell? ⟨(w.heap.size+1), 1, none⟩ = q at q_
  first | (have q2_ : q = some _ := q_; subst q2_) | (simp [go_sem] at q_; have q2_ : q = some _ := q_; subst q2_) | (simp [go_sem, *] at q_; have q2_ : q = some _ := q_; subst q2_)
  have q_ := x1.cq ((w.heap.size+1)) 2
  generalize c_x1_1_2 : x1.val.cell? ⟨(w.heap.size+1), 2, none⟩ = q at q_
  first | (have q2_ : q = some _ := q_; subst q2_) | (simp [go_sem] at q_; have q2_ : q = some _ := q_; subst q2_) | (simp [go_sem, *] at q_; have q2_ : q = some _ := q_; subst q2_)
  have q_ := x1.cq ((w.heap.size+1)) 3
  generalize c_x1_1_3 : x1.val.cell? ⟨(w.heap.size+1), 3, none⟩ = q at q_
  first | (have q2_ : q = some _ := q_; subst q2_) | (simp [go_sem] at q_; have q2_ : q = some _ := q_; subst q2_) | (simp [go_sem, *] at q_; have q2_ : q = some _ := q_; subst q2_)
  have q_ := x1.cq ((w.heap.size+1)) 4
  generalize c_x1_1_4 : x1.val.cell? ⟨(w.heap.size+1), 4, none⟩ = q at q_
  first | (have q2_ : q = some _ := q_; subst q2_) | (simp [go_sem] at q_; have q2_ : q = some _ := q_; subst q2_) | (simp [go_sem, *] at q_; have q2_ : q = some _ := q_; subst q2_)
  go_wp2
  go_ret2
  exact ⟨rfl, belo⟩
 | some r =>
  rw [hT] at TO
  unfold decV at TO
  have hr := to_right hT
  have hf := right_fit hr
  obtain ⟨rn, rd⟩ := r
  dsimp only at TO ⊢
  have CL := Lib.hid (fun w => rcmp_any rn ln rd ld w hr hl)
  have CH := Lib.hid (fun w => rcmp_any rn hn rd hd w hr hh)
  have WD := Lib.hid (fun w => rword_any rn rd dg sg w hf hd0)
  obtain ⟨cl, hcl⟩ : ∃ c, Vd.cmp ⟨rn, rd⟩ ⟨ln, ld⟩ = c := ⟨_, rfl⟩
  obtain ⟨ch, hch⟩ : ∃ c, Vd.cmp ⟨rn, rd⟩ ⟨hn, hd⟩ = c := ⟨_, rfl⟩
  rw [hcl] at CL ⊢
  rw [hch] at CH ⊢
  clear hT hp hs hf hcl hch hr hl hh hd0
  cases hW : Vd.word ⟨rn, rd⟩ dg sg with
  | none =>
   rw [hW] at WD
   unfold regV at WD
   clear hW
   by_cases c1 : cl < 0
   ·have g1 : decide (cl < 0) = true := decide_eq_true c1
    rw [if_pos (.inl c1)]
    clear c1
    go_enter Try.func17, Try.ntmps17
    go_wp2_with fail
    with_reducible refine (TO.out _).mono ?_
    rintro e_x1 w_x1 ⟨rfl, hb_x1⟩
    obtain ⟨x1, rfl⟩ := later_is hb_x1
    clear hb_x1
    have hz_x1 := x1.bel.size
    try simp at hz_x1
    have l_x1_0 : w.heap.size < x1.val.heap.size := by omega
    have m_x1_0 : w.heap.size < x1.val.heap.size + 1 := by omega
    have q_ := x1.cq (w.heap.size) 0
    generalize c_x1_0_0 : x1.val.cell? ⟨w.heap.size, 0, none⟩ = q at q_
    first | (have q2_ : q = some _ := q_; subst q2_) | (simp [go_sem] at q_; have q2_ : q = some _ := q_; subst q2_) | (simp [go_sem, *] at q_; have q2_ : q = some _ := q_; subst q2_)
    have q_ := x1.cq (w.heap.size) 1
    generalize c_x1_0_1 : x1.val.cell? ⟨w.heap.size, 1, none⟩ = q at q_
    first | (have q2_ : q = some _ := q_; subst q2_) | (simp [go_sem] at q_; have q2_ : q = some _ := q_; subst q2_) | (simp [go_sem, *] at q_; have q2_ : q = some _ := q_; subst q2_)
    have q_ := x1.cq (w.heap.size) 2
    generalize c_x1_0_2 : x1.val.cell? ⟨w.heap.size, 2, none⟩ = q at q_
    first | (have q2_ : q = some _ := q_; subst q2_) | (simp [go_sem] at q_; have q2_ : q = some _ := q_; subst q2_) | (simp [go_sem, *] at q_; have q2_ : q = some _ := q_; subst q2_)
    have q_ := x1.cq (w.heap.size) 3
    generalize c_x1_0_3 : x1.val.cell? ⟨w.heap.size, 3, none⟩ = q at q_
    first | (have q2_ : q = some _ := q_; subst q2_) | (simp [go_sem] at q_; have q2_ : q = some _ := q_; subst q2_) | (simp [go_sem, *] at q_; have q2_ : q = some _ := q_; subst q2_)
    have q_ := x1.cq (w.heap.size) 4
    generalize c_x1_0_4 : x1.val.cell? ⟨w.heap.size, 4, none⟩ = q at q_
    first | (have q2_ : q = some _ := q_; subst q2_) | (simp [go_sem] at q_; have q2_ : q = some _ := q_; subst q2_) | (simp [go_sem, *] at q_; have q2_ : q = some _ := q_; subst q2_)
    have q_ := x1.cq (w.heap.size) 5
    generalize c_x1_0_5 : x1.val.cell? ⟨w.heap.size, 5, none⟩ = q at q_
    first | (have q2_ : q = some _ := q_; subst q2_) | (simp [go_sem] at q_; have q2_ : q = some _ := q_; subst q2_) | (simp [go_sem, *] at q_; have q2_ : q = some _ := q_; subst q2_)
    have q_ := x1.cq (w.heap.size) 6
    generalize c_x1_0_6 : x1.val.cell? ⟨w.heap.size, 6, none⟩ = q at q_
    first | (have q2_ : q = some _ := q_; subst q2_) | (simp [go_sem] at q_; have q2_ : q = some _ := q_; subst q2_) | (simp [go_sem, *] at q_; have q2_ : q = some _ := q_; subst q2_)
    have q_ := x1.cq (w.heap.size) 7
    generalize c_x1_0_7 : x1.val.cell? ⟨w.heap.size, 7, none⟩ = q at q_
    first | (have q2_ : q = some _ := q_; subst q2_) | (simp [go_sem] at q_; have q2_ : q = some _ := q_; subst q2_) | (simp [go_sem, *] at q_; have q2_ : q = some _ := q_; subst q2_)
    have q_ := x1.cq (w.heap.size) 8
    generalize c_x1_0_8 : x1.val.cell? ⟨w.heap.size, 8, none⟩ = q at q_
    first | (have q2_ : q = some _ := q_; subst q2_) | (simp [go_sem] at q_; have q2_ : q = some _ := q_; subst q2_) | (simp [go_sem, *] at q_; have q2_ : q = some _ := q_; subst q2_)
    have l_x1_1 : (w.heap.size+1) < x1.val.heap.size := by omega
    have m_x1_1 : (w.heap.size+1) < x1.val.heap.size + 1 := by omega
    have q_ := x1.cq ((w.heap.size+1)) 0
    generalize c_x1_1_0 : x1.val.cell? ⟨(w.heap.size+1), 0, none⟩ = q at q_
    first | (have q2_ : q = some _ := q_; subst q2_) | (simp [go_sem] at q_; have q2_ : q = some _ := q_; subst q2_) | (simp [go_sem, *] at q_; have q2_ : q = some _ := q_; subst q2_)
    have q_ := x1.cq ((w.heap.size+1)) 1
    generalize c_x1_1_1 : x1.val.cell? ⟨(w.heap.size+1), 1, none⟩ = q at q_
    first | (have q2_ : q = some _ := q_; subst q2_) | (simp [go_sem] at q_; have q2_ : q = some _ := q_; subst q2_) | (simp [go_sem, *] at q_; have q2_ : q = some _ := q_; subst q2_)
    have q_ := x1.cq ((w.heap.size+1)) 2
    generalize c_x1_1_2 : x1.val.cell? ⟨(w.heap.size+1), 2, none⟩ = q at q_
    first | (have q2_ : q = some _ := q_; subst q2_) | (simp [go_sem] at q_; have q2_ : q = some _ := q_; subst q2_) | (simp [go_sem, *] at q_; have q2_ : q = some _ := q_; subst q2_)
    have q_ := x1.cq ((w.heap.size+1)) 3
    generalize c_x1_1_3 : x1.val.cell? ⟨(w.heap.size+1), 3, none⟩ = q at q_
    first | (have q2_ : q = some _ := q_; subst q2_) | (simp [go_sem] at q_; have q2_ : q = some _ := q_; subst q2_) | (simp [go_sem, *] at q_; have q2_ : q = some _ := q_; subst q2_)
    have q_ := x1.cq ((w.heap.size+1)) 4
    generalize c_x1_1_4 : x1.val.cell? ⟨(w.heap.size+1), 4, none⟩ = q at q_
    first | (have q2_ : q = some _ := q_; subst q2_) | (simp [go_sem] at q_; have q2_ : q = some _ := q_; subst q2_) | (simp [go_sem, *] at q_; have q2_ : q = some _ := q_; subst q2_)
    go_wp2_with fail
    with_reducible refine (WD.out _).mono ?_
    rintro e_x2 w_x2 ⟨rfl, hb_x2⟩
    obtain ⟨x2, rfl⟩ := later_is hb_x2
    clear hb_x2
    have hz_x2 := x2.bel.size
    try simp at hz_x2
    replace c_x1_0_0 := x2.carry c_x1_0_0
    replace c_x1_0_1 := x2.carry c_x1_0_1
    replace c_x1_0_2 := x2.carry c_x1_0_2
    replace c_x1_0_3 := x2.carry c_x1_0_3
    replace c_x1_0_4 := x2.carry c_x1_0_4
    replace c_x1_0_5 := x2.carry c_x1_0_5
    replace c_x1_0_6 := x2.carry c_x1_0_6
    replace c_x1_0_7 := x2.carry c_x1_0_7
    replace c_x1_0_8 := x2.carry c_x1_0_8
    replace c_x1_1_0 := x2.carry c_x1_1_0
    replace c_x1_1_1 := x2.carry c_x1_1_1
    replace c_x1_1_2 := x2.carry c_x1_1_2
    replace c_x1_1_3 := x2.carry c_x1_1_3
    replace c_x1_1_4 := x2.carry c_x1_1_4
    have lc_x2_0 : w.heap.size < x2.val.heap.size := by omega
    have mc_x2_0 : w.heap.size < x2.val.heap.size + 1 := by omega
    have lc_x2_1 : (w.heap.size+1) < x2.val.heap.size := by omega
    have mc_x2_1 : (w.heap.size+1) < x2.val.heap.size + 1 := by omega
    have l_x2_0 : x1.val.heap.size < x2.val.heap.size := by omega
    have m_x2_0 : x1.val.heap.size < x2.val.heap.size + 1 := by omega
    have q_ := x2.cq (x1.val.heap.size) 0
    generalize c_x2_0_0 : x2.val.cell? ⟨x1.val.heap.size, 0, none⟩ = q at q_
    first | (have q2_ : q = some _ := q_; subst q2_) | (simp [go_sem] at q_; have q2_ : q = some _ := q_; subst q2_) | (simp [go_sem, *] at q_; have q2_ : q = some _ := q_; subst q2_)
    have q_ := x2.cq (x1.val.heap.size) 1
    generalize c_x2_0_1 : x2.val.cell? ⟨x1.val.heap.size, 1, none⟩ = q at q_
    first | (have q2_ : q = some _ := q_; subst q2_) | (simp [go_sem] at q_; have q2_ : q = some _ := q_; subst q2_) | (simp [go_sem, *] at q_; have q2_ : q = some _ := q_; subst q2_)
    go_wp2_with fail
    with_reducible refine (CL.out _).mono ?_
    rintro e_x3 w_x3 ⟨rfl, hb_x3⟩
    obtain ⟨x3, rfl⟩ := later_is hb_x3
    clear hb_x3
    have hz_x3 := x3.bel.size
    try simp at hz_x3
    replace c_x1_0_0 := x3.carry c_x1_0_0
    replace c_x1_0_1 := x3.carry c_x1_0_1
    replace c_x1_0_2 := x3.carry c_x1_0_2
    replace c_x1_0_3 := x3.carry c_x1_0_3
    replace c_x1_0_4 := x3.carry c_x1_0_4
    replace c_x1_0_5 := x3.carry c_x1_0_5
    replace c_x1_0_6 := x3.carry c_x1_0_6
    replace c_x1_0_7 := x3.carry c_x1_0_7
    replace c_x1_0_8 := x3.carry c_x1_0_8
    replace c_x1_1_0 := x3.carry c_x1_1_0
    replace c_x1_1_1 := x3.carry c_x1_1_1
    replace c_x1_1_2 := x3.carry c_x1_1_2
    replace c_x1_1_3 := x3.carry c_x1_1_3
    replace c_x1_1_4 := x3.carry c_x1_1_4
    replace c_x2_0_0 := x3.carry c_x2_0_0
    replace c_x2_0_1 := x3.carry c_x2_0_1
    have lc_x3_0 : w.heap.size < x3.val.heap.size := by omega
    have mc_x3_0 : w.heap.size < x3.val.heap.size + 1 := by omega
    have lc_x3_1 : (w.heap.size+1) < x3.val.heap.size := by omega
    have mc_x3_1 : (w.heap.size+1) < x3.val.heap.size + 1 := by omega
    have lc_x3_2 : x1.val.heap.size < x3.val.heap.size := by omega
    have mc_x3_2 : x1.val.heap.size < x3.val.heap.size + 1 := by omega
    go_wp2
    go_ret2
    exact ⟨rfl, belo⟩
   have g1 : decide (cl < 0) = false := decide_eq_false c1
   by_cases c2 : 0 < ch
   ·have g2 : decide (0 < ch) = true := decide_eq_true c2
    rw [if_pos (.inr c2)]
    clear c1 c2
    go_enter Try.func17, Try.ntmps17
    go_wp2_with fail
    with_reducible refine (TO.out _).mono ?_
    rintro e_x1 w_x1 ⟨rfl, hb_x1⟩
    obtain ⟨x1, rfl⟩ := later_is hb_x1
    clear hb_x1
    have hz_x1 := x1.bel.size
    try simp at hz_x1
    have l_x1_0 : w.heap.size < x1.val.heap.size := by omega
    have m_x1_0 : w.heap.size < x1.val.heap.size + 1 := by omega
    have q_ := x1.cq (w.heap.size) 0
    generalize c_x1_0_0 : x1.val.cell? ⟨w.heap.size, 0, none⟩ = q at q_
    first | (have q2_ : q = some _ := q_; subst q2_) | (simp [go_sem] at q_; have q2_ : q = some _ := q_; subst q2_) | (simp [go_sem, *] at q_; have q2_ : q = some _ := q_; subst q2_)
    have q_ := x1.cq (w.heap.size) 1
    generalize c_x1_0_1 : x1.val.cell? ⟨w.heap.size, 1, none⟩ = q at q_
    first | (have q2_ : q = some _ := q_; subst q2_) | (simp [go_sem] at q_; have q2_ : q = some _ := q_; subst q2_) | (simp [go_sem, *] at q_; have q2_ : q = some _ := q_; subst q2_)
    have q_ := x1.cq (w.heap.size) 2
    generalize c_x1_0_2 : x1.val.cell? ⟨w.heap.size, 2, none⟩ = q at q_
    first | (have q2_ : q = some _ := q_; subst q2_) | (simp [go_sem] at q_; have q2_ : q = some _ := q_; subst q2_) | (simp [go_sem, *] at q_; have q2_ : q = some _ := q_; subst q2_)
    have q_ := x1.cq (w.heap.size) 3
    generalize c_x1_0_3 : x1.val.cell? ⟨w.heap.size, 3, none⟩ = q at q_
    first | (have q2_ : q = some _ := q_; subst q2_) | (simp [go_sem] at q_; have q2_ : q = some _ := q_; subst q2_) | (simp [go_sem, *] at q_; have q2_ : q = some _ := q_; subst q2_)
    have q_ := x1.cq (w.heap.size) 4
    generalize c_x1_0_4 : x1.val.cell? ⟨w.heap.size, 4, none⟩ = q at q_
    first | (have q2_ : q = some _ := q_; subst q2_) | (simp [go_sem] at q_; have q2_ : q = some _ := q_; subst q2_) | (simp [go_sem, *] at q_; have q2_ : q = some _ := q_; subst q2_)
    have q_ := x1.cq (w.heap.size) 5
    generalize c_x1_0_5 : x1.val.cell? ⟨w.heap.size, 5, none⟩ = q at q_
    first | (have q2_ : q = some _ := q_; subst q2_) | (simp [go_sem] at q_; have q2_ : q = some _ := q_; subst q2_) | (simp [go_sem, *] at q_; have q2_ : q = some _ := q_; subst q2_)
    have q_ := x1.cq (w.heap.size) 6
    generalize c_x1_0_6 : x1.val.cell? ⟨w.heap.size, 6, none⟩ = q at q_
    first | (have q2_ : q = some _ := q_; subst q2_) | (simp [go_sem] at q_; have q2_ : q = some _ := q_; subst q2_) | (simp [go_sem, *] at q_; have q2_ : q = some _ := q_; subst q2_)
    have q_ := x1.cq (w.heap.size) 7
    generalize c_x1_0_7 : x1.val.cell? ⟨w.heap.size, 7, none⟩ = q at q_
    first | (have q2_ : q = some _ := q_; subst q2_) | (simp [go_sem] at q_; have q2_ : q = some _ := q_; subst q2_) | (simp [go_sem, *] at q_; have q2_ : q = some _ := q_; subst q2_)
    have q_ := x1.cq (w.heap.size) 8
    generalize c_x1_0_8 : x1.val.cell? ⟨w.heap.size, 8, none⟩ = q at q_
    first | (have q2_ : q = some _ := q_; subst q2_) | (simp [go_sem] at q_; have q2_ : q = some _ := q_; subst q2_) | (simp [go_sem, *] at q_; have q2_ : q = some _ := q_; subst q2_)
    have l_x1_1 : (w.heap.size+1) < x1.val.heap.size := by omega
    have m_x1_1 : (w.heap.size+1) < x1.val.heap.size + 1 := by omega
    have q_ := x1.cq ((w.heap.size+1)) 0
    generalize c_x1_1_0 : x1.val.cell? ⟨(w.heap.size+1), 0, none⟩ = q at q_
    first | (have q2_ : q = some _ := q_; subst q2_) | (simp [go_sem] at q_; have q2_ : q = some _ := q_; subst q2_) | (simp [go_sem, *] at q_; have q2_ : q = some _ := q_; subst q2_)
    have q_ := x1.cq ((w.heap.size+1)) 1
    generalize c_x1_1_1 : x1.val.cell? ⟨(w.heap.size+1), 1, none⟩ = q at q_
    first | (have q2_ : q = some _ := q_; subst q2_) | (simp [go_sem] at q_; have q2_ : q = some _ := q_; subst q2_) | (simp [go_sem, *] at q_; have q2_ : q = some _ := q_; subst q2_)
    have q_ := x1.cq ((w.heap.size+1)) 2
    generalize c_x1_1_2 : x1.val.cell? ⟨(w.heap.size+1), 2, none⟩ = q at q_
    first | (have q2_ : q = some _ := q_; subst q2_) | (simp [go_sem] at q_; have q2_ : q = some _ := q_; subst q2_) | (simp [go_sem, *] at q_; have q2_ : q = some _ := q_; subst q2_)
    have q_ := x1.cq ((w.heap.size+1)) 3
    generalize c_x1_1_3 : x1.val.cell? ⟨(w.heap.size+1), 3, none⟩ = q at q_
    first | (have q2_ : q = some _ := q_; subst q2_) | (simp [go_sem] at q_; have q2_ : q = some _ := q_; subst q2_) | (simp [go_sem, *] at q_; have q2_ : q = some _ := q_; subst q2_)
    have q_ := x1.cq ((w.heap.size+1)) 4
    generalize c_x1_1_4 : x1.val.cell? ⟨(w.heap.size+1), 4, none⟩ = q at q_
    first | (have q2_ : q = some _ := q_; subst q2_) | (simp [go_sem] at q_; have q2_ : q = some _ := q_; subst q2_) | (simp [go_sem, *] at q_; have q2_ : q = some _ := q_; subst q2_)
    go_wp2_with fail
    with_reducible refine (WD.out _).mono ?_
    rintro e_x2 w_x2 ⟨rfl, hb_x2⟩
    obtain ⟨x2, rfl⟩ := later_is hb_x2
    clear hb_x2
    have hz_x2 := x2.bel.size
    try simp at hz_x2
    replace c_x1_0_0 := x2.carry c_x1_0_0
    replace c_x1_0_1 := x2.carry c_x1_0_1
    replace c_x1_0_2 := x2.carry c_x1_0_2
    replace c_x1_0_3 := x2.carry c_x1_0_3
    replace c_x1_0_4 := x2.carry c_x1_0_4
    replace c_x1_0_5 := x2.carry c_x1_0_5
    replace c_x1_0_6 := x2.carry c_x1_0_6
    replace c_x1_0_7 := x2.carry c_x1_0_7
    replace c_x1_0_8 := x2.carry c_x1_0_8
    replace c_x1_1_0 := x2.carry c_x1_1_0
    replace c_x1_1_1 := x2.carry c_x1_1_1
    replace c_x1_1_2 := x2.carry c_x1_1_2
    replace c_x1_1_3 := x2.carry c_x1_1_3
    replace c_x1_1_4 := x2.carry c_x1_1_4
    have lc_x2_0 : w.heap.size < x2.val.heap.size := by omega
    have mc_x2_0 : w.heap.size < x2.val.heap.size + 1 := by omega
    have lc_x2_1 : (w.heap.size+1) < x2.val.heap.size := by omega
    have mc_x2_1 : (w.heap.size+1) < x2.val.heap.size + 1 := by omega
    have l_x2_0 : x1.val.heap.size < x2.val.heap.size := by omega
    have m_x2_0 : x1.val.heap.size < x2.val.heap.size + 1 := by omega
    have q_ := x2.cq (x1.val.heap.size) 0
    generalize c_x2_0_0 : x2.val.cell? ⟨x1.val.heap.size, 0, none⟩ = q at q_
    first | (have q2_ : q = some _ := q_; subst q2_) | (simp [go_sem] at q_; have q2_ : q = some _ := q_; subst q2_) | (simp [go_sem, *] at q_; have q2_ : q = some _ := q_; subst q2_)
    have q_ := x2.cq (x1.val.heap.size) 1
    generalize c_x2_0_1 : x2.val.cell? ⟨x1.val.heap.size, 1, none⟩ = q at q_
    first | (have q2_ : q = some _ := q_; subst q2_) | (simp [go_sem] at q_; have q2_ : q = some _ := q_; subst q2_) | (simp [go_sem, *] at q_; have q2_ : q = some _ := q_; subst q2_)
    go_wp2_with fail
    with_reducible refine (CL.out _).mono ?_
    rintro e_x3 w_x3 ⟨rfl, hb_x3⟩
    obtain ⟨x3, rfl⟩ := later_is hb_x3
    clear hb_x3
    have hz_x3 := x3.bel.size
    try simp at hz_x3
    replace c_x1_0_0 := x3.carry c_x1_0_0
    replace c_x1_0_1 := x3.carry c_x1_0_1
    replace c_x1_0_2 := x3.carry c_x1_0_2
    replace c_x1_0_3 := x3.carry c_x1_0_3
    replace c_x1_0_4 := x3.carry c_x1_0_4
    replace c_x1_0_5 := x3.carry c_x1_0_5
    replace c_x1_0_6 := x3.carry c_x1_0_6
    replace c_x1_0_7 := x3.carry c_x1_0_7
    replace c_x1_0_8 := x3.carry c_x1_0_8
    replace c_x1_1_0 := x3.carry c_x1_1_0
    replace c_x1_1_1 := x3.carry c_x1_1_1
    replace c_x1_1_2 := x3.carry c_x1_1_2
    replace c_x1_1_3 := x3.carry c_x1_1_3
    replace c_x1_1_4 := x3.carry c_x1_1_4
    replace c_x2_0_0 := x3.carry c_x2_0_0
    replace c_x2_0_1 := x3.carry c_x2_0_1
    have lc_x3_0 : w.heap.size < x3.val.heap.size := by omega
    have mc_x3_0 : w.heap.size < x3.val.heap.size + 1 := by omega
    have lc_x3_1 : (w.heap.size+1) < x3.val.heap.size := by omega
    have mc_x3_1 : (w.heap.size+1) < x3.val.heap.size + 1 := by omega
    have lc_x3_2 : x1.val.heap.size < x3.val.heap.size := by omega
    have mc_x3_2 : x1.val.heap.size < x3.val.heap.size + 1 := by omega
    go_wp2_with fail
    with_reducible refine (CH.out _).mono ?_
    rintro e_x4 w_x4 ⟨rfl, hb_x4⟩
    obtain ⟨x4, rfl⟩ := later_is hb_x4
    clear hb_x4
    have hz_x4 := x4.bel.size
    try simp at hz_x4
    replace c_x1_0_0 := x4.carry c_x1_0_0
    replace c_x1_0_1 := x4.carry c_x1_0_1
    replace c_x1_0_2 := x4.carry c_x1_0_2
    replace c_x1_0_3 := x4.carry c_x1_0_3
    replace c_x1_0_4 := x4.carry c_x1_0_4
    replace c_x1_0_5 := x4.carry c_x1_0_5
    replace c_x1_0_6 := x4.carry c_x1_0_6
    replace c_x1_0_7 := x4.carry c_x1_0_7
    replace c_x1_0_8 := x4.carry c_x1_0_8
    replace c_x1_1_0 := x4.carry c_x1_1_0
    replace c_x1_1_1 := x4.carry c_x1_1_1
    replace c_x1_1_2 := x4.carry c_x1_1_2
    replace c_x1_1_3 := x4.carry c_x1_1_3
    replace c_x1_1_4 := x4.carry c_x1_1_4
    replace c_x2_0_0 := x4.carry c_x2_0_0
    replace c_x2_0_1 := x4.carry c_x2_0_1
    have lc_x4_0 : w.heap.size < x4.val.heap.size := by omega
    have mc_x4_0 : w.heap.size < x4.val.heap.size + 1 := by omega
    have lc_x4_1 : (w.heap.size+1) < x4.val.heap.size := by omega
    have mc_x4_1 : (w.heap.size+1) < x4.val.heap.size + 1 := by omega
    have lc_x4_2 : x1.val.heap.size < x4.val.heap.size := by omega
    have mc_x4_2 : x1.val.heap.size < x4.val.heap.size + 1 := by omega
    go_wp2
    go_ret2
    exact ⟨rfl, belo⟩
   have g2 : decide (0 < ch) = false := decide_eq_false c2
   rw [if_neg (by omega)]
   clear c1 c2
   go_enter Try.func17, Try.ntmps17
   go_wp2_with fail
   with_reducible refine (TO.out _).mono ?_
   rintro e_x1 w_x1 ⟨rfl, hb_x1⟩
   obtain ⟨x1, rfl⟩ := later_is hb_x1
   clear hb_x1
   have hz_x1 := x1.bel.size
   try simp at hz_x1
   have l_x1_0 : w.heap.size < x1.val.heap.size := by omega
   have m_x1_0 : w.heap.size < x1.val.heap.size + 1 := by omega
   have q_ := x1.cq (w.heap.size) 0
   generalize c_x1_0_0 : x1.val.cell? ⟨w.heap.size, 0, none⟩ = q at q_
   first | (have q2_ : q = some _ := q_; subst q2_) | (simp [go_sem] at q_; have q2_ : q = some _ := q_; subst q2_) | (simp [go_sem, *] at q_; have q2_ : q = some _ := q_; subst q2_)
   have q_ := x1.cq (w.heap.size) 1
   generalize c_x1_0_1 : x1.val.cell? ⟨w.heap.size, 1, none⟩ = q at q_
   first | (have q2_ : q = some _ := q_; subst q2_) | (simp [go_sem] at q_; have q2_ : q = some _ := q_; subst q2_) | (simp [go_sem, *] at q_; have q2_ : q = some _ := q_; subst q2_)
   have q_ := x1.cq (w.heap.size) 2
   generalize c_x1_0_2 : x1.val.cell? ⟨w.heap.size, 2, none⟩ = q at q_
   first | (have q2_ : q = some _ := q_; subst q2_) | (simp [go_sem] at q_; have q2_ : q = some _ := q_; subst q2_) | (simp [go_sem, *] at q_; have q2_ : q = some _ := q_; subst q2_)
   have q_ := x1.cq (w.heap.size) 3
   generalize c_x1_0_3 : x1.val.cell? ⟨w.heap.size, 3, none⟩ = q at q_
   first | (have q2_ : q = some _ := q_; subst q2_) | (simp [go_sem] at q_; have q2_ : q = some _ := q_; subst q2_) | (simp [go_sem, *] at q_; have q2_ : q = some _ := q_; subst q2_)
   have q_ := x1.cq (w.heap.size) 4
   generalize c_x1_0_4 : x1.val.cell? ⟨w.heap.size, 4, none⟩ = q at q_
   first | (have q2_ : q = some _ := q_; subst q2_) | (simp [go_sem] at q_; have q2_ : q = some _ := q_; subst q2_) | (simp [go_sem, *] at q_; have q2_ : q = some _ := q_; subst q2_)
   have q_ := x1.cq (w.heap.size) 5
   generalize c_x1_0_5 : x1.val.cell? ⟨w.heap.size, 5, none⟩ = q at q_
   first | (have q2_ : q = some _ := q_; subst q2_) | (simp [go_sem] at q_; have q2_ : q = some _ := q_; subst q2_) | (simp [go_sem, *] at q_; have q2_ : q = some _ := q_; subst q2_)
   have q_ := x1.cq (w.heap.size) 6
   generalize c_x1_0_6 : x1.val.cell? ⟨w.heap.size, 6, none⟩ = q at q_
   first | (have q2_ : q = some _ := q_; subst q2_) | (simp [go_sem] at q_; have q2_ : q = some _ := q_; subst q2_) | (simp [go_sem, *] at q_; have q2_ : q = some _ := q_; subst q2_)
   have q_ := x1.cq (w.heap.size) 7
   generalize c_x1_0_7 : x1.val.cell? ⟨w.heap.size, 7, none⟩ = q at q_
   first | (have q2_ : q = some _ := q_; subst q2_) | (simp [go_sem] at q_; have q2_ : q = some _ := q_; subst q2_) | (simp [go_sem, *] at q_; have q2_ : q = some _ := q_; subst q2_)
   have q_ := x1.cq (w.heap.size) 8
   generalize c_x1_0_8 : x1.val.cell? ⟨w.heap.size, 8, none⟩ = q at q_
   first | (have q2_ : q = some _ := q_; subst q2_) | (simp [go_sem] at q_; have q2_ : q = some _ := q_; subst q2_) | (simp [go_sem, *] at q_; have q2_ : q = some _ := q_; subst q2_)
   have l_x1_1 : (w.heap.size+1) < x1.val.heap.size := by omega
   have m_x1_1 : (w.heap.size+1) < x1.val.heap.size + 1 := by omega
   have q_ := x1.cq ((w.heap.size+1)) 0
   generalize c_x1_1_0 : x1.val.cell? ⟨(w.heap.size+1), 0, none⟩ = q at q_
   first | (have q2_ : q = some _ := q_; subst q2_) | (simp [go_sem] at q_; have q2_ : q = some _ := q_; subst q2_) | (simp [go_sem, *] at q_; have q2_ : q = some _ := q_; subst q2_)
   have q_ := x1.cq ((w.heap.size+1)) 1
   generalize c_x1_1_1 : x1.val.cell? ⟨(w.heap.size+1), 1, none⟩ = q at q_
   first | (have q2_ : q = some _ := q_; subst q2_) | (simp [go_sem] at q_; have q2_ : q = some _ := q_; subst q2_) | (simp [go_sem, *] at q_; have q2_ : q = some _ := q_; subst q2_)
   have q_ := x1.cq ((w.heap.size+1)) 2
   generalize c_x1_1_2 : x1.val.cell? ⟨(w.heap.size+1), 2, none⟩ = q at q_
   first | (have q2_ : q = some _ := q_; subst q2_) | (simp [go_sem] at q_; have q2_ : q = some _ := q_; subst q2_) | (simp [go_sem, *] at q_; have q2_ : q = some _ := q_; subst q2_)
   have q_ := x1.cq ((w.heap.size+1)) 3
   generalize c_x1_1_3 : x1.val.cell? ⟨(w.heap.size+1), 3, none⟩ = q at q_
   first | (have q2_ : q = some _ := q_; subst q2_) | (simp [go_sem] at q_; have q2_ : q = some _ := q_; subst q2_) | (simp [go_sem, *] at q_; have q2_ : q = some _ := q_; subst q2_)
   have q_ := x1.cq ((w.heap.size+1)) 4
   generalize c_x1_1_4 : x1.val.cell? ⟨(w.heap.size+1), 4, none⟩ = q at q_
   first | (have q2_ : q = some _ := q_; subst q2_) | (simp [go_sem] at q_; have q2_ : q = some _ := q_; subst q2_) | (simp [go_sem, *] at q_; have q2_ : q = some _ := q_; subst q2_)
   go_wp2_with fail
   with_reducible refine (WD.out _).mono ?_
   rintro e_x2 w_x2 ⟨rfl, hb_x2⟩
   obtain ⟨x2, rfl⟩ := later_is hb_x2
   clear hb_x2
   have hz_x2 := x2.bel.size
   try simp at hz_x2
   replace c_x1_0_0 := x2.carry c_x1_0_0
   replace c_x1_0_1 := x2.carry c_x1_0_1
   replace c_x1_0_2 := x2.carry c_x1_0_2
   replace c_x1_0_3 := x2.carry c_x1_0_3
   replace c_x1_0_4 := x2.carry c_x1_0_4
   replace c_x1_0_5 := x2.carry c_x1_0_5
   replace c_x1_0_6 := x2.carry c_x1_0_6
   replace c_x1_0_7 := x2.carry c_x1_0_7
   replace c_x1_0_8 := x2.carry c_x1_0_8
   replace c_x1_1_0 := x2.carry c_x1_1_0
   replace c_x1_1_1 := x2.carry c_x1_1_1
   replace c_x1_1_2 := x2.carry c_x1_1_2
   replace c_x1_1_3 := x2.carry c_x1_1_3
   replace c_x1_1_4 := x2.carry c_x1_1_4
   have lc_x2_0 : w.heap.size < x2.val.heap.size := by omega
   have mc_x2_0 : w.heap.size < x2.val.heap.size + 1 := by omega
   have lc_x2_1 : (w.heap.size+1) < x2.val.heap.size := by omega
   have mc_x2_1 : (w.heap.size+1) < x2.val.heap.size + 1 := by omega
   have l_x2_0 : x1.val.heap.size < x2.val.heap.size := by omega
   have m_x2_0 : x1.val.heap.size < x2.val.heap.size + 1 := by omega
   have q_ := x2.cq (x1.val.heap.size) 0
   generalize c_x2_0_0 : x2.val.cell? ⟨x1.val.heap.size, 0, none⟩ = q at q_
   first | (have q2_ : q = some _ := q_; subst q2_) | (simp [go_sem] at q_; have q2_ : q = some _ := q_; subst q2_) | (simp [go_sem, *] at q_; have q2_ : q = some _ := q_; subst q2_)
   have q_ := x2.cq (x1.val.heap.size) 1
   generalize c_x2_0_1 : x2.val.cell? ⟨x1.val.heap.size, 1, none⟩ = q at q_
   first | (have q2_ : q = some _ := q_; subst q2_) | (simp [go_sem] at q_; have q2_ : q = some _ := q_; subst q2_) | (simp [go_sem, *] at q_; have q2_ : q = some _ := q_; subst q2_)
   go_wp2_with fail
   with_reducible refine (CL.out _).mono ?_
   rintro e_x3 w_x3 ⟨rfl, hb_x3⟩
   obtain ⟨x3, rfl⟩ := later_is hb_x3
   clear hb_x3
   have hz_x3 := x3.bel.size
   try simp at hz_x3
   replace c_x1_0_0 := x3.carry c_x1_0_0
   replace c_x1_0_1 := x3.carry c_x1_0_1
   replace c_x1_0_2 := x3.carry c_x1_0_2
   replace c_x1_0_3 := x3.carry c_x1_0_3
   replace c_x1_0_4 := x3.carry c_x1_0_4
   replace c_x1_0_5 := x3.carry c_x1_0_5
   replace c_x1_0_6 := x3.carry c_x1_0_6
   replace c_x1_0_7 := x3.carry c_x1_0_7
   replace c_x1_0_8 := x3.carry c_x1_0_8
   replace c_x1_1_0 := x3.carry c_x1_1_0
   replace c_x1_1_1 := x3.carry c_x1_1_1
   replace c_x1_1_2 := x3.carry c_x1_1_2
   replace c_x1_1_3 := x3.carry c_x1_1_3
   replace c_x1_1_4 := x3.carry c_x1_1_4
   replace c_x2_0_0 := x3.carry c_x2_0_0
   replace c_x2_0_1 := x3.carry c_x2_0_1
   have lc_x3_0 : w.heap.size < x3.val.heap.size := by omega
   have mc_x3_0 : w.heap.size < x3.val.heap.size + 1 := by omega
   have lc_x3_1 : (w.heap.size+1) < x3.val.heap.size := by omega
   have mc_x3_1 : (w.heap.size+1) < x3.val.heap.size + 1 := by omega
   have lc_x3_2 : x1.val.heap.size < x3.val.heap.size := by omega
   have mc_x3_2 : x1.val.heap.size < x3.val.heap.size + 1 := by omega
   go_wp2_with fail
   with_reducible refine (CH.out _).mono ?_
   rintro e_x4 w_x4 ⟨rfl, hb_x4⟩
   obtain ⟨x4, rfl⟩ := later_is hb_x4
   clear hb_x4
   have hz_x4 := x4.bel.size
   try simp at hz_x4
   replace c_x1_0_0 := x4.carry c_x1_0_0
   replace c_x1_0_1 := x4.carry c_x1_0_1
   replace c_x1_0_2 := x4.carry c_x1_0_2
   replace c_x1_0_3 := x4.carry c_x1_0_3
   replace c_x1_0_4 := x4.carry c_x1_0_4
   replace c_x1_0_5 := x4.carry c_x1_0_5
   replace c_x1_0_6 := x4.carry c_x1_0_6
   replace c_x1_0_7 := x4.carry c_x1_0_7
   replace c_x1_0_8 := x4.carry c_x1_0_8
   replace c_x1_1_0 := x4.carry c_x1_1_0
   replace c_x1_1_1 := x4.carry c_x1_1_1
   replace c_x1_1_2 := x4.carry c_x1_1_2
   replace c_x1_1_3 := x4.carry c_x1_1_3
   replace c_x1_1_4 := x4.carry c_x1_1_4
   replace c_x2_0_0 := x4.carry c_x2_0_0
   replace c_x2_0_1 := x4.carry c_x2_0_1
   have lc_x4_0 : w.heap.size < x4.val.heap.size := by omega
   have mc_x4_0 : w.heap.size < x4.val.heap.size + 1 := by omega
   have lc_x4_1 : (w.heap.size+1) < x4.val.heap.size := by omega
   have mc_x4_1 : (w.heap.size+1) < x4.val.heap.size + 1 := by omega
   have lc_x4_2 : x1.val.heap.size < x4.val.heap.size := by omega
   have mc_x4_2 : x1.val.heap.size < x4.val.heap.size + 1 := by omega
   go_wp2
   go_ret2
   exact ⟨rfl, belo⟩
  | some q =>
   rw [hW] at WD
   unfold regV at WD
   dsimp only at WD ⊢
   clear hW
   by_cases c1 : cl < 0
   ·have g1 : decide (cl < 0) = true := decide_eq_true c1
    rw [if_pos (.inl c1)]
    clear c1
    go_enter Try.func17, Try.ntmps17
    go_wp2_with fail
    with_reducible refine (TO.out _).mono ?_
    rintro e_x1 w_x1 ⟨rfl, hb_x1⟩
    obtain ⟨x1, rfl⟩ := later_is hb_x1
    clear hb_x1
    have hz_x1 := x1.bel.size
    try simp at hz_x1
    have l_x1_0 : w.heap.size < x1.val.heap.size := by omega
    have m_x1_0 : w.heap.size < x1.val.heap.size + 1 := by omega
    have q_ := x1.cq (w.heap.size) 0
    generalize c_x1_0_0 : x1.val.cell? ⟨w.heap.size, 0, none⟩ = q at q_
    first | (have q2_ : q = some _ := q_; subst q2_) | (simp [go_sem] at q_; have q2_ : q = some _ := q_; subst q2_) | (simp [go_sem, *] at q_; have q2_ : q = some _ := q_; subst q2_)
    have q_ := x1.cq (w.heap.size) 1
    generalize c_x1_0_1 : x1.val.cell? ⟨w.heap.size, 1, none⟩ = q at q_
    first | (have q2_ : q = some _ := q_; subst q2_) | (simp [go_sem] at q_; have q2_ : q = some _ := q_; subst q2_) | (simp [go_sem, *] at q_; have q2_ : q = some _ := q_; subst q2_)
    have q_ := x1.cq (w.heap.size) 2
    generalize c_x1_0_2 : x1.val.cell? ⟨w.heap.size, 2, none⟩ = q at q_
    first | (have q2_ : q = some _ := q_; subst q2_) | (simp [go_sem] at q_; have q2_ : q = some _ := q_; subst q2_) | (simp [go_sem, *] at q_; have q2_ : q = some _ := q_; subst q2_)
    have q_ := x1.cq (w.heap.size) 3
    generalize c_x1_0_3 : x1.val.cell? ⟨w.heap.size, 3, none⟩ = q at q_
    first | (have q2_ : q = some _ := q_; subst q2_) | (simp [go_sem] at q_; have q2_ : q = some _ := q_; subst q2_) | (simp [go_sem, *] at q_; have q2_ : q = some _ := q_; subst q2_)
    have q_ := x1.cq (w.heap.size) 4
    generalize c_x1_0_4 : x1.val.cell? ⟨w.heap.size, 4, none⟩ = q at q_
    first | (have q2_ : q = some _ := q_; subst q2_) | (simp [go_sem] at q_; have q2_ : q = some _ := q_; subst q2_) | (simp [go_sem, *] at q_; have q2_ : q = some _ := q_; subst q2_)
    have q_ := x1.cq (w.heap.size) 5
    generalize c_x1_0_5 : x1.val.cell? ⟨w.heap.size, 5, none⟩ = q at q_
    first | (have q2_ : q = some _ := q_; subst q2_) | (simp [go_sem] at q_; have q2_ : q = some _ := q_; subst q2_) | (simp [go_sem, *] at q_; have q2_ : q = some _ := q_; subst q2_)
    have q_ := x1.cq (w.heap.size) 6
    generalize c_x1_0_6 : x1.val.cell? ⟨w.heap.size, 6, none⟩ = q at q_
    first | (have q2_ : q = some _ := q_; subst q2_) | (simp [go_sem] at q_; have q2_ : q = some _ := q_; subst q2_) | (simp [go_sem, *] at q_; have q2_ : q = some _ := q_; subst q2_)
    have q_ := x1.cq (w.heap.size) 7
    generalize c_x1_0_7 : x1.val.cell? ⟨w.heap.size, 7, none⟩ = q at q_
    first | (have q2_ : q = some _ := q_; subst q2_) | (simp [go_sem] at q_; have q2_ : q = some _ := q_; subst q2_) | (simp [go_sem, *] at q_; have q2_ : q = some _ := q_; subst q2_)
    have q_ := x1.cq (w.heap.size) 8
    generalize c_x1_0_8 : x1.val.cell? ⟨w.heap.size, 8, none⟩ = q at q_
    first | (have q2_ : q = some _ := q_; subst q2_) | (simp [go_sem] at q_; have q2_ : q = some _ := q_; subst q2_) | (simp [go_sem, *] at q_; have q2_ : q = some _ := q_; subst q2_)
    have l_x1_1 : (w.heap.size+1) < x1.val.heap.size := by omega
    have m_x1_1 : (w.heap.size+1) < x1.val.heap.size + 1 := by omega
    have q_ := x1.cq ((w.heap.size+1)) 0
    generalize c_x1_1_0 : x1.val.cell? ⟨(w.heap.size+1), 0, none⟩ = q at q_
    first | (have q2_ : q = some _ := q_; subst q2_) | (simp [go_sem] at q_; have q2_ : q = some _ := q_; subst q2_) | (simp [go_sem, *] at q_; have q2_ : q = some _ := q_; subst q2_)
    have q_ := x1.cq ((w.heap.size+1)) 1
    generalize c_x1_1_1 : x1.val.cell? ⟨(w.heap.size+1), 1, none⟩ = q at q_
    first | (have q2_ : q = some _ := q_; subst q2_) | (simp [go_sem] at q_; have q2_ : q = some _ := q_; subst q2_) | (simp [go_sem, *] at q_; have q2_ : q = some _ := q_; subst q2_)
    have q_ := x1.cq ((w.heap.size+1)) 2
    generalize c_x1_1_2 : x1.val.cell? ⟨(w.heap.size+1), 2, none⟩ = q at q_
    first | (have q2_ : q = some _ := q_; subst q2_) | (simp [go_sem] at q_; have q2_ : q = some _ := q_; subst q2_) | (simp [go_sem, *] at q_; have q2_ : q = some _ := q_; subst q2_)
    have q_ := x1.cq ((w.heap.size+1)) 3
    generalize c_x1_1_3 : x1.val.cell? ⟨(w.heap.size+1), 3, none⟩ = q at q_
    first | (have q2_ : q = some _ := q_; subst q2_) | (simp [go_sem] at q_; have q2_ : q = some _ := q_; subst q2_) | (simp [go_sem, *] at q_; have q2_ : q = some _ := q_; subst q2_)
    have q_ := x1.cq ((w.heap.size+1)) 4
    generalize c_x1_1_4 : x1.val.cell? ⟨(w.heap.size+1), 4, none⟩ = q at q_
    first | (have q2_ : q = some _ := q_; subst q2_) | (simp [go_sem] at q_; have q2_ : q = some _ := q_; subst q2_) | (simp [go_sem, *] at q_; have q2_ : q = some _ := q_; subst q2_)
    go_wp2_with fail
    with_reducible refine (WD.out _).mono ?_
    rintro e_x2 w_x2 ⟨rfl, hb_x2⟩
    obtain ⟨x2, rfl⟩ := later_is hb_x2
    clear hb_x2
    have hz_x2 := x2.bel.size
    try simp at hz_x2
    replace c_x1_0_0 := x2.carry c_x1_0_0
    replace c_x1_0_1 := x2.carry c_x1_0_1
    replace c_x1_0_2 := x2.carry c_x1_0_2
    replace c_x1_0_3 := x2.carry c_x1_0_3
    replace c_x1_0_4 := x2.carry c_x1_0_4
    replace c_x1_0_5 := x2.carry c_x1_0_5
    replace c_x1_0_6 := x2.carry c_x1_0_6
    replace c_x1_0_7 := x2.carry c_x1_0_7
    replace c_x1_0_8 := x2.carry c_x1_0_8
    replace c_x1_1_0 := x2.carry c_x1_1_0
    replace c_x1_1_1 := x2.carry c_x1_1_1
    replace c_x1_1_2 := x2.carry c_x1_1_2
    replace c_x1_1_3 := x2.carry c_x1_1_3
    replace c_x1_1_4 := x2.carry c_x1_1_4
    have lc_x2_0 : w.heap.size < x2.val.heap.size := by omega
    have mc_x2_0 : w.heap.size < x2.val.heap.size + 1 := by omega
    have lc_x2_1 : (w.heap.size+1) < x2.val.heap.size := by omega
    have mc_x2_1 : (w.heap.size+1) < x2.val.heap.size + 1 := by omega
    have l_x2_0 : x1.val.heap.size < x2.val.heap.size := by omega
    have m_x2_0 : x1.val.heap.size < x2.val.heap.size + 1 := by omega
    have q_ := x2.cq (x1.val.heap.size) 0
    generalize c_x2_0_0 : x2.val.cell? ⟨x1.val.heap.size, 0, none⟩ = q at q_
    first | (have q2_ : q = some _ := q_; subst q2_) | (simp [go_sem] at q_; have q2_ : q = some _ := q_; subst q2_) | (simp [go_sem, *] at q_; have q2_ : q = some _ := q_; subst q2_)
    have q_ := x2.cq (x1.val.heap.size) 1
    generalize c_x2_0_1 : x2.val.cell? ⟨x1.val.heap.size, 1, none⟩ = q at q_
    first | (have q2_ : q = some _ := q_; subst q2_) | (simp [go_sem] at q_; have q2_ : q = some _ := q_; subst q2_) | (simp [go_sem, *] at q_; have q2_ : q = some _ := q_; subst q2_)
    go_wp2_with fail
    with_reducible refine (CL.out _).mono ?_
    rintro e_x3 w_x3 ⟨rfl, hb_x3⟩
    obtain ⟨x3, rfl⟩ := later_is hb_x3
    clear hb_x3
    have hz_x3 := x3.bel.size
    try simp at hz_x3
    replace c_x1_0_0 := x3.carry c_x1_0_0
    replace c_x1_0_1 := x3.carry c_x1_0_1
    replace c_x1_0_2 := x3.carry c_x1_0_2
    replace c_x1_0_3 := x3.carry c_x1_0_3
    replace c_x1_0_4 := x3.carry c_x1_0_4
    replace c_x1_0_5 := x3.carry c_x1_0_5
    replace c_x1_0_6 := x3.carry c_x1_0_6
    replace c_x1_0_7 := x3.carry c_x1_0_7
    replace c_x1_0_8 := x3.carry c_x1_0_8
    replace c_x1_1_0 := x3.carry c_x1_1_0
    replace c_x1_1_1 := x3.carry c_x1_1_1
    replace c_x1_1_2 := x3.carry c_x1_1_2
    replace c_x1_1_3 := x3.carry c_x1_1_3
    replace c_x1_1_4 := x3.carry c_x1_1_4
    replace c_x2_0_0 := x3.carry c_x2_0_0
    replace c_x2_0_1 := x3.carry c_x2_0_1
    have lc_x3_0 : w.heap.size < x3.val.heap.size := by omega
    have mc_x3_0 : w.heap.size < x3.val.heap.size + 1 := by omega
    have lc_x3_1 : (w.heap.size+1) < x3.val.heap.size := by omega
    have mc_x3_1 : (w.heap.size+1) < x3.val.heap.size + 1 := by omega
    have lc_x3_2 : x1.val.heap.size < x3.val.heap.size := by omega
    have mc_x3_2 : x1.val.heap.size < x3.val.heap.size + 1 := by omega
    go_wp2
    go_ret2
    exact ⟨rfl, belo⟩
   have g1 : decide (cl < 0) = false := decide_eq_false c1
   by_cases c2 : 0 < ch
   ·have g2 : decide (0 < ch) = true := decide_eq_true c2
    rw [if_pos (.inr c2)]
    clear c1 c2
    go_enter Try.func17, Try.ntmps17
    go_wp2_with fail
    with_reducible refine (TO.out _).mono ?_
    rintro e_x1 w_x1 ⟨rfl, hb_x1⟩
    obtain ⟨x1, rfl⟩ := later_is hb_x1
    clear hb_x1
    have hz_x1 := x1.bel.size
    try simp at hz_x1
    have l_x1_0 : w.heap.size < x1.val.heap.size := by omega
    have m_x1_0 : w.heap.size < x1.val.heap.size + 1 := by omega
    have q_ := x1.cq (w.heap.size) 0
    generalize c_x1_0_0 : x1.val.cell? ⟨w.heap.size, 0, none⟩ = q at q_
    first | (have q2_ : q = some _ := q_; subst q2_) | (simp [go_sem] at q_; have q2_ : q = some _ := q_; subst q2_) | (simp [go_sem, *] at q_; have q2_ : q = some _ := q_; subst q2_)
    have q_ := x1.cq (w.heap.size) 1
    generalize c_x1_0_1 : x1.val.cell? ⟨w.heap.size, 1, none⟩ = q at q_
    first | (have q2_ : q = some _ := q_; subst q2_) | (simp [go_sem] at q_; have q2_ : q = some _ := q_; subst q2_) | (simp [go_sem, *] at q_; have q2_ : q = some _ := q_; subst q2_)
    have q_ := x1.cq (w.heap.size) 2
    generalize c_x1_0_2 : x1.val.cell? ⟨w.heap.size, 2, none⟩ = q at q_
    first | (have q2_ : q = some _ := q_; subst q2_) | (simp [go_sem] at q_; have q2_ : q = some _ := q_; subst q2_) | (simp [go_sem, *] at q_; have q2_ : q = some _ := q_; subst q2_)
    have q_ := x1.cq (w.heap.size) 3
    generalize c_x1_0_3 : x1.val.cell? ⟨w.heap.size, 3, none⟩ = q at q_
    first | (have q2_ : q = some _ := q_; subst q2_) | (simp [go_sem] at q_; have q2_ : q = some _ := q_; subst q2_) | (simp [go_sem, *] at q_; have q2_ : q = some _ := q_; subst q2_)
    have q_ := x1.cq (w.heap.size) 4
    generalize c_x1_0_4 : x1.val.cell? ⟨w.heap.size, 4, none⟩ = q at q_
    first | (have q2_ : q = some _ := q_; subst q2_) | (simp [go_sem] at q_; have q2_ : q = some _ := q_; subst q2_) | (simp [go_sem, *] at q_; have q2_ : q = some _ := q_; subst q2_)
    have q_ := x1.cq (w.heap.size) 5
    generalize c_x1_0_5 : x1.val.cell? ⟨w.heap.size, 5, none⟩ = q at q_
    first | (have q2_ : q = some _ := q_; subst q2_) | (simp [go_sem] at q_; have q2_ : q = some _ := q_; subst q2_) | (simp [go_sem, *] at q_; have q2_ : q = some _ := q_; subst q2_)
    have q_ := x1.cq (w.heap.size) 6
    generalize c_x1_0_6 : x1.val.cell? ⟨w.heap.size, 6, none⟩ = q at q_
    first | (have q2_ : q = some _ := q_; subst q2_) | (simp [go_sem] at q_; have q2_ : q = some _ := q_; subst q2_) | (simp [go_sem, *] at q_; have q2_ : q = some _ := q_; subst q2_)
    have q_ := x1.cq (w.heap.size) 7
    generalize c_x1_0_7 : x1.val.cell? ⟨w.heap.size, 7, none⟩ = q at q_
    first | (have q2_ : q = some _ := q_; subst q2_) | (simp [go_sem] at q_; have q2_ : q = some _ := q_; subst q2_) | (simp [go_sem, *] at q_; have q2_ : q = some _ := q_; subst q2_)
    have q_ := x1.cq (w.heap.size) 8
    generalize c_x1_0_8 : x1.val.cell? ⟨w.heap.size, 8, none⟩ = q at q_
    first | (have q2_ : q = some _ := q_; subst q2_) | (simp [go_sem] at q_; have q2_ : q = some _ := q_; subst q2_) | (simp [go_sem, *] at q_; have q2_ : q = some _ := q_; subst q2_)
    have l_x1_1 : (w.heap.size+1) < x1.val.heap.size := by omega
    have m_x1_1 : (w.heap.size+1) < x1.val.heap.size + 1 := by omega
    have q_ := x1.cq ((w.heap.size+1)) 0
    generalize c_x1_1_0 : x1.val.cell? ⟨(w.heap.size+1), 0, none⟩ = q at q_
    first | (have q2_ : q = some _ := q_; subst q2_) | (simp [go_sem] at q_; have q2_ : q = some _ := q_; subst q2_) | (simp [go_sem, *] at q_; have q2_ : q = some _ := q_; subst q2_)
    have q_ := x1.cq ((w.heap.size+1)) 1
    generalize c_x1_1_1 : x1.val.cell? ⟨(w.heap.size+1), 1, none⟩ = q at q_
    first | (have q2_ : q = some _ := q_; subst q2_) | (simp [go_sem] at q_; have q2_ : q = some _ := q_; subst q2_) | (simp [go_sem, *] at q_; have q2_ : q = some _ := q_; subst q2_)
    have q_ := x1.cq ((w.heap.size+1)) 2
    generalize c_x1_1_2 : x1.val.cell? ⟨(w.heap.size+1), 2, none⟩ = q at q_
    first | (have q2_ : q = some _ := q_; subst q2_) | (simp [go_sem] at q_; have q2_ : q = some _ := q_; subst q2_) | (simp [go_sem, *] at q_; have q2_ : q = some _ := q_; subst q2_)
    have q_ := x1.cq ((w.heap.size+1)) 3
    generalize c_x1_1_3 : x1.val.cell? ⟨(w.heap.size+1), 3, none⟩ = q at q_
    first | (have q2_ : q = some _ := q_; subst q2_) | (simp [go_sem] at q_; have q2_ : q = some _ := q_; subst q2_) | (simp [go_sem, *] at q_; have q2_ : q = some _ := q_; subst q2_)
    have q_ := x1.cq ((w.heap.size+1)) 4
    generalize c_x1_1_4 : x1.val.cell? ⟨(w.heap.size+1), 4, none⟩ = q at q_
    first | (have q2_ : q = some _ := q_; subst q2_) | (simp [go_sem] at q_; have q2_ : q = some _ := q_; subst q2_) | (simp [go_sem, *] at q_; have q2_ : q = some _ := q_; subst q2_)
    go_wp2_with fail
    with_reducible refine (WD.out _).mono ?_
    rintro e_x2 w_x2 ⟨rfl, hb_x2⟩
    obtain ⟨x2, rfl⟩ := later_is hb_x2
    clear hb_x2
    have hz_x2 := x2.bel.size
    try simp at hz_x2
    replace c_x1_0_0 := x2.carry c_x1_0_0
    replace c_x1_0_1 := x2.carry c_x1_0_1
    replace c_x1_0_2 := x2.carry c_x1_0_2
    replace c_x1_0_3 := x2.carry c_x1_0_3
    replace c_x1_0_4 := x2.carry c_x1_0_4
    replace c_x1_0_5 := x2.carry c_x1_0_5
    replace c_x1_0_6 := x2.carry c_x1_0_6
    replace c_x1_0_7 := x2.carry c_x1_0_7
    replace c_x1_0_8 := x2.carry c_x1_0_8
    replace c_x1_1_0 := x2.carry c_x1_1_0
    replace c_x1_1_1 := x2.carry c_x1_1_1
    replace c_x1_1_2 := x2.carry c_x1_1_2
    replace c_x1_1_3 := x2.carry c_x1_1_3
    replace c_x1_1_4 := x2.carry c_x1_1_4
    have lc_x2_0 : w.heap.size < x2.val.heap.size := by omega
    have mc_x2_0 : w.heap.size < x2.val.heap.size + 1 := by omega
    have lc_x2_1 : (w.heap.size+1) < x2.val.heap.size := by omega
    have mc_x2_1 : (w.heap.size+1) < x2.val.heap.size + 1 := by omega
    have l_x2_0 : x1.val.heap.size < x2.val.heap.size := by omega
    have m_x2_0 : x1.val.heap.size < x2.val.heap.size + 1 := by omega
    have q_ := x2.cq (x1.val.heap.size) 0
    generalize c_x2_0_0 : x2.val.cell? ⟨x1.val.heap.size, 0, none⟩ = q at q_
    first | (have q2_ : q = some _ := q_; subst q2_) | (simp [go_sem] at q_; have q2_ : q = some _ := q_; subst q2_) | (simp [go_sem, *] at q_; have q2_ : q = some _ := q_; subst q2_)
    have q_ := x2.cq (x1.val.heap.size) 1
    generalize c_x2_0_1 : x2.val.cell? ⟨x1.val.heap.size, 1, none⟩ = q at q_
    first | (have q2_ : q = some _ := q_; subst q2_) | (simp [go_sem] at q_; have q2_ : q = some _ := q_; subst q2_) | (simp [go_sem, *] at q_; have q2_ : q = some _ := q_; subst q2_)
    go_wp2_with fail
    with_reducible refine (CL.out _).mono ?_
    rintro e_x3 w_x3 ⟨rfl, hb_x3⟩
    obtain ⟨x3, rfl⟩ := later_is hb_x3
    clear hb_x3
    have hz_x3 := x3.bel.size
    try simp at hz_x3
    replace c_x1_0_0 := x3.carry c_x1_0_0
    replace c_x1_0_1 := x3.carry c_x1_0_1
    replace c_x1_0_2 := x3.carry c_x1_0_2
    replace c_x1_0_3 := x3.carry c_x1_0_3
    replace c_x1_0_4 := x3.carry c_x1_0_4
    replace c_x1_0_5 := x3.carry c_x1_0_5
    replace c_x1_0_6 := x3.carry c_x1_0_6
    replace c_x1_0_7 := x3.carry c_x1_0_7
    replace c_x1_0_8 := x3.carry c_x1_0_8
    replace c_x1_1_0 := x3.carry c_x1_1_0
    replace c_x1_1_1 := x3.carry c_x1_1_1
    replace c_x1_1_2 := x3.carry c_x1_1_2
    replace c_x1_1_3 := x3.carry c_x1_1_3
    replace c_x1_1_4 := x3.carry c_x1_1_4
    replace c_x2_0_0 := x3.carry c_x2_0_0
    replace c_x2_0_1 := x3.carry c_x2_0_1
    have lc_x3_0 : w.heap.size < x3.val.heap.size := by omega
    have mc_x3_0 : w.heap.size < x3.val.heap.size + 1 := by omega
    have lc_x3_1 : (w.heap.size+1) < x3.val.heap.size := by omega
    have mc_x3_1 : (w.heap.size+1) < x3.val.heap.size + 1 := by omega
    have lc_x3_2 : x1.val.heap.size < x3.val.heap.size := by omega
    have mc_x3_2 : x1.val.heap.size < x3.val.heap.size + 1 := by omega
    go_wp2_with fail
    with_reducible refine (CH.out _).mono ?_
    rintro e_x4 w_x4 ⟨rfl, hb_x4⟩
    obtain ⟨x4, rfl⟩ := later_is hb_x4
    clear hb_x4
    have hz_x4 := x4.bel.size
    try simp at hz_x4
    replace c_x1_0_0 := x4.carry c_x1_0_0
    replace c_x1_0_1 := x4.carry c_x1_0_1
    replace c_x1_0_2 := x4.carry c_x1_0_2
    replace c_x1_0_3 := x4.carry c_x1_0_3
    replace c_x1_0_4 := x4.carry c_x1_0_4
    replace c_x1_0_5 := x4.carry c_x1_0_5
    replace c_x1_0_6 := x4.carry c_x1_0_6
    replace c_x1_0_7 := x4.carry c_x1_0_7
    replace c_x1_0_8 := x4.carry c_x1_0_8
    replace c_x1_1_0 := x4.carry c_x1_1_0
    replace c_x1_1_1 := x4.carry c_x1_1_1
    replace c_x1_1_2 := x4.carry c_x1_1_2
    replace c_x1_1_3 := x4.carry c_x1_1_3
    replace c_x1_1_4 := x4.carry c_x1_1_4
    replace c_x2_0_0 := x4.carry c_x2_0_0
    replace c_x2_0_1 := x4.carry c_x2_0_1
    have lc_x4_0 : w.heap.size < x4.val.heap.size := by omega
    have mc_x4_0 : w.heap.size < x4.val.heap.size + 1 := by omega
    have lc_x4_1 : (w.heap.size+1) < x4.val.heap.size := by omega
    have mc_x4_1 : (w.heap.size+1) < x4.val.heap.size + 1 := by omega
    have lc_x4_2 : x1.val.heap.size < x4.val.heap.size := by omega
    have mc_x4_2 : x1.val.heap.size < x4.val.heap.size + 1 := by omega
    go_wp2
    go_ret2
    exact ⟨rfl, belo⟩
   have g2 : decide (0 < ch) = false := decide_eq_false c2
   rw [if_neg (by omega)]
   clear c1 c2
   go_enter Try.func17, Try.ntmps17
   go_wp2_with fail
   with_reducible refine (TO.out _).mono ?_
   rintro e_x1 w_x1 ⟨rfl, hb_x1⟩
   obtain ⟨x1, rfl⟩ := later_is hb_x1
   clear hb_x1
   have hz_x1 := x1.bel.size
   try simp at hz_x1
   have l_x1_0 : w.heap.size < x1.val.heap.size := by omega
   have m_x1_0 : w.heap.size < x1.val.heap.size + 1 := by omega
   have q_ := x1.cq (w.heap.size) 0
   generalize c_x1_0_0 : x1.val.cell? ⟨w.heap.size, 0, none⟩ = q at q_
   first | (have q2_ : q = some _ := q_; subst q2_) | (simp [go_sem] at q_; have q2_ : q = some _ := q_; subst q2_) | (simp [go_sem, *] at q_; have q2_ : q = some _ := q_; subst q2_)
   have q_ := x1.cq (w.heap.size) 1
   generalize c_x1_0_1 : x1.val.cell? ⟨w.heap.size, 1, none⟩ = q at q_
   first | (have q2_ : q = some _ := q_; subst q2_) | (simp [go_sem] at q_; have q2_ : q = some _ := q_; subst q2_) | (simp [go_sem, *] at q_; have q2_ : q = some _ := q_; subst q2_)
   have q_ := x1.cq (w.heap.size) 2
   generalize c_x1_0_2 : x1.val.cell? ⟨w.heap.size, 2, none⟩ = q at q_
   first | (have q2_ : q = some _ := q_; subst q2_) | (simp [go_sem] at q_; have q2_ : q = some _ := q_; subst q2_) | (simp [go_sem, *] at q_; have q2_ : q = some _ := q_; subst q2_)
   have q_ := x1.cq (w.heap.size) 3
   generalize c_x1_0_3 : x1.val.cell? ⟨w.heap.size, 3, none⟩ = q at q_
   first | (have q2_ : q = some _ := q_; subst q2_) | (simp [go_sem] at q_; have q2_ : q = some _ := q_; subst q2_) | (simp [go_sem, *] at q_; have q2_ : q = some _ := q_; subst q2_)
   have q_ := x1.cq (w.heap.size) 4
   generalize c_x1_0_4 : x1.val.cell? ⟨w.heap.size, 4, none⟩ = q at q_
   first | (have q2_ : q = some _ := q_; subst q2_) | (simp [go_sem] at q_; have q2_ : q = some _ := q_; subst q2_) | (simp [go_sem, *] at q_; have q2_ : q = some _ := q_; subst q2_)
   have q_ := x1.cq (w.heap.size) 5
   generalize c_x1_0_5 : x1.val.cell? ⟨w.heap.size, 5, none⟩ = q at q_
   first | (have q2_ : q = some _ := q_; subst q2_) | (simp [go_sem] at q_; have q2_ : q = some _ := q_; subst q2_) | (simp [go_sem, *] at q_; have q2_ : q = some _ := q_; subst q2_)
   have q_ := x1.cq (w.heap.size) 6
   generalize c_x1_0_6 : x1.val.cell? ⟨w.heap.size, 6, none⟩ = q at q_
   first | (have q2_ : q = some _ := q_; subst q2_) | (simp [go_sem] at q_; have q2_ : q = some _ := q_; subst q2_) | (simp [go_sem, *] at q_; have q2_ : q = some _ := q_; subst q2_)
   have q_ := x1.cq (w.heap.size) 7
   generalize c_x1_0_7 : x1.val.cell? ⟨w.heap.size, 7, none⟩ = q at q_
   first | (have q2_ : q = some _ := q_; subst q2_) | (simp [go_sem] at q_; have q2_ : q = some _ := q_; subst q2_) | (simp [go_sem, *] at q_; have q2_ : q = some _ := q_; subst q2_)
   have q_ := x1.cq (w.heap.size) 8
   generalize c_x1_0_8 : x1.val.cell? ⟨w.heap.size, 8, none⟩ = q at q_
   first | (have q2_ : q = some _ := q_; subst q2_) | (simp [go_sem] at q_; have q2_ : q = some _ := q_; subst q2_) | (simp [go_sem, *] at q_; have q2_ : q = some _ := q_; subst q2_)
   have l_x1_1 : (w.heap.size+1) < x1.val.heap.size := by omega
   have m_x1_1 : (w.heap.size+1) < x1.val.heap.size + 1 := by omega
   have q_ := x1.cq ((w.heap.size+1)) 0
   generalize c_x1_1_0 : x1.val.cell? ⟨(w.heap.size+1), 0, none⟩ = q at q_
   first | (have q2_ : q = some _ := q_; subst q2_) | (simp [go_sem] at q_; have q2_ : q = some _ := q_; subst q2_) | (simp [go_sem, *] at q_; have q2_ : q = some _ := q_; subst q2_)
   have q_ := x1.cq ((w.heap.size+1)) 1
   generalize c_x1_1_1 : x1.val.cell? ⟨(w.heap.size+1), 1, none⟩ = q at q_
   first | (have q2_ : q = some _ := q_; subst q2_) | (simp [go_sem] at q_; have q2_ : q = some _ := q_; subst q2_) | (simp [go_sem, *] at q_; have q2_ : q = some _ := q_; subst q2_)
   have q_ := x1.cq ((w.heap.size+1)) 2
   generalize c_x1_1_2 : x1.val.cell? ⟨(w.heap.size+1), 2, none⟩ = q at q_
   first | (have q2_ : q = some _ := q_; subst q2_) | (simp [go_sem] at q_; have q2_ : q = some _ := q_; subst q2_) | (simp [go_sem, *] at q_; have q2_ : q = some _ := q_; subst q2_)
   have q_ := x1.cq ((w.heap.size+1)) 3
   generalize c_x1_1_3 : x1.val.cell? ⟨(w.heap.size+1), 3, none⟩ = q at q_
   first | (have q2_ : q = some _ := q_; subst q2_) | (simp [go_sem] at q_; have q2_ : q = some _ := q_; subst q2_) | (simp [go_sem, *] at q_; have q2_ : q = some _ := q_; subst q2_)
   have q_ := x1.cq ((w.heap.size+1)) 4
   generalize c_x1_1_4 : x1.val.cell? ⟨(w.heap.size+1), 4, none⟩ = q at q_
   first | (have q2_ : q = some _ := q_; subst q2_) | (simp [go_sem] at q_; have q2_ : q = some _ := q_; subst q2_) | (simp [go_sem, *] at q_; have q2_ : q = some _ := q_; subst q2_)
   go_wp2_with fail
   with_reducible refine (WD.out _).mono ?_
   rintro e_x2 w_x2 ⟨rfl, hb_x2⟩
   obtain ⟨x2, rfl⟩ := later_is hb_x2
   clear hb_x2
   have hz_x2 := x2.bel.size
   try simp at hz_x2
   replace c_x1_0_0 := x2.carry c_x1_0_0
   replace c_x1_0_1 := x2.carry c_x1_0_1
   replace c_x1_0_2 := x2.carry c_x1_0_2
   replace c_x1_0_3 := x2.carry c_x1_0_3
   replace c_x1_0_4 := x2.carry c_x1_0_4
   replace c_x1_0_5 := x2.carry c_x1_0_5
   replace c_x1_0_6 := x2.carry c_x1_0_6
   replace c_x1_0_7 := x2.carry c_x1_0_7
   replace c_x1_0_8 := x2.carry c_x1_0_8
   replace c_x1_1_0 := x2.carry c_x1_1_0
   replace c_x1_1_1 := x2.carry c_x1_1_1
   replace c_x1_1_2 := x2.carry c_x1_1_2
   replace c_x1_1_3 := x2.carry c_x1_1_3
   replace c_x1_1_4 := x2.carry c_x1_1_4
   have lc_x2_0 : w.heap.size < x2.val.heap.size := by omega
   have mc_x2_0 : w.heap.size < x2.val.heap.size + 1 := by omega
   have lc_x2_1 : (w.heap.size+1) < x2.val.heap.size := by omega
   have mc_x2_1 : (w.heap.size+1) < x2.val.heap.size + 1 := by omega
   have l_x2_0 : x1.val.heap.size < x2.val.heap.size := by omega
   have m_x2_0 : x1.val.heap.size < x2.val.heap.size + 1 := by omega
   have q_ := x2.cq (x1.val.heap.size) 0
   generalize c_x2_0_0 : x2.val.cell? ⟨x1.val.heap.size, 0, none⟩ = q at q_
   first | (have q2_ : q = some _ := q_; subst q2_) | (simp [go_sem] at q_; have q2_ : q = some _ := q_; subst q2_) | (simp [go_sem, *] at q_; have q2_ : q = some _ := q_; subst q2_)
   have q_ := x2.cq (x1.val.heap.size) 1
   generalize c_x2_0_1 : x2.val.cell? ⟨x1.val.heap.size, 1, none⟩ = q at q_
   first | (have q2_ : q = some _ := q_; subst q2_) | (simp [go_sem] at q_; have q2_ : q = some _ := q_; subst q2_) | (simp [go_sem, *] at q_; have q2_ : q = some _ := q_; subst q2_)
   go_wp2_with fail
   with_reducible refine (CL.out _).mono ?_
   rintro e_x3 w_x3 ⟨rfl, hb_x3⟩
   obtain ⟨x3, rfl⟩ := later_is hb_x3
   clear hb_x3
   have hz_x3 := x3.bel.size
   try simp at hz_x3
   replace c_x1_0_0 := x3.carry c_x1_0_0
   replace c_x1_0_1 := x3.carry c_x1_0_1
   replace c_x1_0_2 := x3.carry c_x1_0_2
   replace c_x1_0_3 := x3.carry c_x1_0_3
   replace c_x1_0_4 := x3.carry c_x1_0_4
   replace c_x1_0_5 := x3.carry c_x1_0_5
   replace c_x1_0_6 := x3.carry c_x1_0_6
   replace c_x1_0_7 := x3.carry c_x1_0_7
   replace c_x1_0_8 := x3.carry c_x1_0_8
   replace c_x1_1_0 := x3.carry c_x1_1_0
   replace c_x1_1_1 := x3.carry c_x1_1_1
   replace c_x1_1_2 := x3.carry c_x1_1_2
   replace c_x1_1_3 := x3.carry c_x1_1_3
   replace c_x1_1_4 := x3.carry c_x1_1_4
   replace c_x2_0_0 := x3.carry c_x2_0_0
   replace c_x2_0_1 := x3.carry c_x2_0_1
   have lc_x3_0 : w.heap.size < x3.val.heap.size := by omega
   have mc_x3_0 : w.heap.size < x3.val.heap.size + 1 := by omega
   have lc_x3_1 : (w.heap.size+1) < x3.val.heap.size := by omega
   have mc_x3_1 : (w.heap.size+1) < x3.val.heap.size + 1 := by omega
   have lc_x3_2 : x1.val.heap.size < x3.val.heap.size := by omega
   have mc_x3_2 : x1.val.heap.size < x3.val.heap.size + 1 := by omega
   go_wp2_with fail
   with_reducible refine (CH.out _).mono ?_
   rintro e_x4 w_x4 ⟨rfl, hb_x4⟩
   obtain ⟨x4, rfl⟩ := later_is hb_x4
   clear hb_x4
   have hz_x4 := x4.bel.size
   try simp at hz_x4
   replace c_x1_0_0 := x4.carry c_x1_0_0
   replace c_x1_0_1 := x4.carry c_x1_0_1
   replace c_x1_0_2 := x4.carry c_x1_0_2
   replace c_x1_0_3 := x4.carry c_x1_0_3
   replace c_x1_0_4 := x4.carry c_x1_0_4
   replace c_x1_0_5 := x4.carry c_x1_0_5
   replace c_x1_0_6 := x4.carry c_x1_0_6
   replace c_x1_0_7 := x4.carry c_x1_0_7
   replace c_x1_0_8 := x4.carry c_x1_0_8
   replace c_x1_1_0 := x4.carry c_x1_1_0
   replace c_x1_1_1 := x4.carry c_x1_1_1
   replace c_x1_1_2 := x4.carry c_x1_1_2
   replace c_x1_1_3 := x4.carry c_x1_1_3
   replace c_x1_1_4 := x4.carry c_x1_1_4
   replace c_x2_0_0 := x4.carry c_x2_0_0
   replace c_x2_0_1 := x4.carry c_x2_0_1
   have lc_x4_0 : w.heap.size < x4.val.heap.size := by omega
   have mc_x4_0 : w.heap.size < x4.val.heap.size + 1 := by omega
   have lc_x4_1 : (w.heap.size+1) < x4.val.heap.size := by omega
   have mc_x4_1 : (w.heap.size+1) < x4.val.heap.size + 1 := by omega
   have lc_x4_2 : x1.val.heap.size < x4.val.heap.size := by omega
   have mc_x4_2 : x1.val.heap.size < x4.val.heap.size + 1 := by omega
   go_wp2
   go_ret2
   exact ⟨rfl, belo⟩
end Go.Proofs.Ythhokpaidekmnaa
