/- LeaseHolds: the walk. -/
import Derived.Test.YtlekadiaobpadaaLeaseDoes
namespace Go.Proofs.Ytlekadiaobpadaa
open Go.RowKit
set_option linter.unusedVariables false
attribute [local go_sem] Later.cell Later.frozen setCell_twice lease_fld0 lease_fld1
namespace Ls
theorem held_counted {ow : Nat} (h : ow ≠ 0) : counted ⟨ow, -1⟩ = ⟨ow, -1⟩ := counted_of_right (right_of_held (x := ⟨ow, -1⟩) h rfl)
theorem held_stays {ow : Nat} (o : Op) (h : ow ≠ 0) (hn : ow ≠ o.ow) : ∃ e, does o ⟨ow, -1⟩ = (⟨ow, -1⟩, e) := by
  unfold does take hold leave tick boot
  rw [held_counted h]
  repeat' split
  · unfold takeC
    repeat' split
    · exact ⟨_, rfl⟩
    · exact ⟨_, rfl⟩
    · exact ⟨_, rfl⟩
    · rename_i h1 h2 h3; exact absurd rfl h3
  · unfold holdC
    repeat' split
    · exact ⟨_, rfl⟩
    · exact ⟨_, rfl⟩
  · unfold leaveC
    repeat' split
    · exact ⟨_, rfl⟩
    · exact ⟨_, rfl⟩
  · exact ⟨_, rfl⟩
  · exact ⟨_, rfl⟩
theorem held_take {ow : Nat} {t : Int} (h : ow ≠ 0) (ht : 1 ≤ t) : take ⟨ow, -1⟩ ow t = (⟨ow, -1⟩, 0) := by
  have h1 : ¬ t < 1 := by omega
  unfold take
  rw [held_counted h]
  simp [takeC, h, h1]
theorem held_leave {ow : Nat} (h : ow ≠ 0) : leave ⟨ow, -1⟩ ow = (⟨0, 0⟩, 0) := by
  unfold leave
  rw [held_counted h]
  simp [leaveC, h]
theorem runs_hold {ow : Nat} (h : ow ≠ 0) : hold ⟨ow, 1⟩ ow = (⟨ow, -1⟩, 0) := by
  unfold hold
  rw [counted_of_right (right_of_runs (x := ⟨ow, 1⟩) h (by simp only; omega))]
  simp [holdC, h]
theorem take_free1 {ow : Nat} (h : ow ≠ 0) : take ⟨0, 0⟩ ow 1 = (⟨ow, 1⟩, 0) := by
  simp [take, counted_of_right (x := ⟨0, 0⟩) rfl, takeC, h]
end Ls
theorem run_min2n {P : Program} (w : World) (ts : Array TypeId) (t : TypeId) (x y n : Nat) (h : n = min x y) :
    (Builtin.min_ ts t #[.int .i64 (x : Int), .int .i64 (y : Int)]).run P w = .ok (.int .i64 (n : Int)) w := by
  subst h
  simp [Builtin.min_, Builtin.min2]
  repeat split
  all_goals omega
theorem fit_held {ow : Nat} (h : ow < 65536) : Ls.fit ⟨ow, -1⟩ := ⟨h, by show (-9223372036854775808 : Int) ≤ -1; omega, by show (-1 : Int) ≤ 9223372036854775807; omega⟩
theorem fit_one {ow : Nat} (h : ow < 65536) : Ls.fit ⟨ow, 1⟩ := ⟨h, by show (-9223372036854775808 : Int) ≤ 1; omega, by show (1 : Int) ≤ 9223372036854775807; omega⟩

set_option maxRecDepth 100000 in
set_option maxHeartbeats 4000000 in
theorem leaseHolds_walk (ow ot : Nat) (A : Option Addr) (l : List Ls.Op) (c : Nat) (w : World) (how : ow < 65536) (hot : ot < 65536) (hR : Recs Ls.Op.cells 3 w w.heap.size A l) (hl : ∀ o ∈ l, o.fit) (hlc : l.length ≤ c) (hc : c ≤ 9223372036854775807) (hA : A = none → c = 0) :
    Calls Try.prog 6 #[.int .u16 (ow : Int), .int .u16 (ot : Int), .slice A l.length c] w fun e w' => e = .returned (.bool true) ∧ Below w.heap.size w w' := by
  by_cases h0 : ow = 0
  · subst h0
    go_enter Try.func6, Try.ntmps6
    go_wp2_with fail
    refine (awake_any _).mono ?_
    rintro e_x1 w_x1 ⟨rfl, hb_x1⟩
    obtain ⟨x1, rfl⟩ := later_is hb_x1
    clear hb_x1
    have hz_x1 := x1.bel.size
    try simp at hz_x1
    go_wp2
    go_ret
    exact ⟨rfl, (by repeat (first | exact Below.refl _ _ | refine bel_later _ ?_ | refine bel_alloc ?_ _ | refine bel_set ?_ (by first | omega | (simp; done) | (simp; omega)) _ | refine Below.drew ?_ | assumption))⟩
  have h0' : ((ow : Int) == 0) = false := beq_eq_false_iff_ne.2 (by omega)
  by_cases h1 : ow = ot
  · have h1' : ((ow : Int) == (ot : Int)) = true := by rw [beq_iff_eq]; omega
    clear h1
    go_enter Try.func6, Try.ntmps6
    go_wp2_with fail
    refine (awake_any _).mono ?_
    rintro e_x1 w_x1 ⟨rfl, hb_x1⟩
    obtain ⟨x1, rfl⟩ := later_is hb_x1
    clear hb_x1
    have hz_x1 := x1.bel.size
    try simp at hz_x1
    go_wp2
    go_ret
    exact ⟨rfl, (by repeat (first | exact Below.refl _ _ | refine bel_later _ ?_ | refine bel_alloc ?_ _ | refine bel_set ?_ (by first | omega | (simp; done) | (simp; omega)) _ | refine Below.drew ?_ | assumption))⟩
  have h1' : ((ow : Int) == (ot : Int)) = false := beq_eq_false_iff_ne.2 (by omega)
  obtain ⟨n, hn⟩ : ∃ n : Nat, n = min l.length 100 := ⟨_, rfl⟩
  have hmin : ∀ w, (Builtin.min_ #[3, 3] 3 #[.int .i64 (l.length : Int), .int .i64 100]).run Try.prog w = .ok (.int .i64 (n : Int)) w := fun w => run_min2n w _ _ l.length 100 n hn
  have n1 : n ≤ l.length := by omega
  have n2 : n ≤ 100 := by omega
  clear hn
  go_enter Try.func6, Try.ntmps6
  go_wp2_with fail
  refine (take_at ⟨0, 0⟩ ⟨ow, 1⟩ ow 0 0 ow 1 ow 1 0 _ fit00 how (by decide) rfl rfl rfl rfl rfl (Ls.take_free1 h0)).mono ?_
  rintro e_x1 w_x1 ⟨rfl, hb_x1⟩
  obtain ⟨x1, rfl⟩ := later_is hb_x1
  clear hb_x1
  have hz_x1 := x1.bel.size
  try simp at hz_x1
  go_wp2_with fail
  refine (hold_at ⟨ow, 1⟩ ⟨ow, -1⟩ ow ow 1 ow ow (-1) 0 _ (fit_one how) how rfl rfl rfl rfl rfl (Ls.runs_hold h0)).mono ?_
  rintro e_x2 w_x2 ⟨rfl, hb_x2⟩
  obtain ⟨x2, rfl⟩ := later_is hb_x2
  clear hb_x2
  have hz_x2 := x2.bel.size
  try simp at hz_x2
  have l_x2_0 : x1.val.heap.size < x2.val.heap.size := by omega
  have m_x2_0 : x1.val.heap.size < x2.val.heap.size + 1 := by omega
  have q_ := x2.bel.cell (p := ⟨x1.val.heap.size, 0, none⟩) (by first | omega | (simp; done) | (simp; omega))
  generalize c_x2_0_0 : x2.val.cell? ⟨x1.val.heap.size, 0, none⟩ = q at q_
  first | (have q2_ : q = some _ := q_; subst q2_) | (simp [go_sem] at q_; have q2_ : q = some _ := q_; subst q2_) | (simp [go_sem, *] at q_; have q2_ : q = some _ := q_; subst q2_)
  have q_ := x2.bel.frozen (p := ⟨x1.val.heap.size, 0, none⟩) (by first | omega | (simp; done) | (simp; omega))
  generalize z_x2_0_0 : x2.val.frozen? ⟨x1.val.heap.size, 0, none⟩ = q at q_
  first | (have q2_ : q = false := q_; subst q2_) | (simp [go_sem] at q_; have q2_ : q = false := q_; subst q2_) | (simp [go_sem, *] at q_; have q2_ : q = false := q_; subst q2_)
  have q_ := x2.bel.cell (p := ⟨x1.val.heap.size, 1, none⟩) (by first | omega | (simp; done) | (simp; omega))
  generalize c_x2_0_1 : x2.val.cell? ⟨x1.val.heap.size, 1, none⟩ = q at q_
  first | (have q2_ : q = some _ := q_; subst q2_) | (simp [go_sem] at q_; have q2_ : q = some _ := q_; subst q2_) | (simp [go_sem, *] at q_; have q2_ : q = some _ := q_; subst q2_)
  have q_ := x2.bel.frozen (p := ⟨x1.val.heap.size, 1, none⟩) (by first | omega | (simp; done) | (simp; omega))
  generalize z_x2_0_1 : x2.val.frozen? ⟨x1.val.heap.size, 1, none⟩ = q at q_
  first | (have q2_ : q = false := q_; subst q2_) | (simp [go_sem] at q_; have q2_ : q = false := q_; subst q2_) | (simp [go_sem, *] at q_; have q2_ : q = false := q_; subst q2_)
  go_wp2
  obtain ⟨W2, hW2⟩ : ∃ W2, W2 = (x2.val.setCell ⟨x1.val.heap.size, 0, none⟩ (.int .u16 (ow : Int))).setCell ⟨x1.val.heap.size, 1, none⟩ (.int .i64 (-1)) := ⟨_, rfl⟩
  have hbel2 : Below w.heap.size w W2 := by rw [hW2]; exact (by repeat (first | exact Below.refl _ _ | refine bel_later _ ?_ | refine bel_alloc ?_ _ | refine bel_set ?_ (by first | omega | (simp; done) | (simp; omega)) _ | refine Below.drew ?_ | assumption))
  have hbox2 : Box W2 x1.val.heap.size ow (-1) := by rw [hW2]; exact (Box.mk c_x2_0_0 c_x2_0_1 z_x2_0_0 z_x2_0_1).set _ _
  rw [← hW2]
  clear hW2 c_x2_0_0 c_x2_0_1 z_x2_0_0 z_x2_0_1 l_x2_0 m_x2_0 hmin
  generalize x1.val.heap.size = b at *
  clear hz_x2 x2 x1
  go_loopw [52] (fun i wr => ∃ k : Nat, k ≤ n ∧ i = .int .i64 k ∧ Box wr b ow (-1) ∧ Below w.heap.size w wr) (fun i _ => n - (intOf i).toNat)
  case atStart => exact ⟨0, by omega, rfl, hbox2, hbel2⟩
  case round =>
    clear hbox2 hbel2
    obtain ⟨k, hk, rfl, hbox, hbel⟩ := hrel
    obtain ⟨c0, c1, f0, f1⟩ := hbox
    have hbw : b < wr.heap.size := block_lt_of_cell c0
    by_cases hlt : k < n
    · obtain ⟨bo, oo, op, rfl, hbo, hop, hcell⟩ := hR.at_ (show k < l.length by omega)
      have hfit := hl op (List.mem_of_getElem? hop)
      have a0 : wr.cell? ⟨bo, oo + k * 3, none⟩ = some (.int .u8 (op.q : Int)) := (hbel.cell (p := ⟨bo, oo + k * 3, none⟩) hbo).trans (hcell 0 _ rfl)
      have a1 : wr.cell? ⟨bo, oo + k * 3 + 1, none⟩ = some (.int .u16 (op.ow : Int)) := (hbel.cell (p := ⟨bo, oo + k * 3 + 1, none⟩) hbo).trans (hcell 1 _ rfl)
      have a2 : wr.cell? ⟨bo, oo + k * 3 + 2, none⟩ = some (.int .i64 op.t) := (hbel.cell (p := ⟨bo, oo + k * 3 + 2, none⟩) hbo).trans (hcell 2 _ rfl)
      obtain ⟨e1, he⟩ := Ls.held_stays ⟨op.q, ot, op.t⟩ h0 h1
      have kd := Lib.hid (fun w => does_any ⟨op.q, ot, op.t⟩ ⟨ow, -1⟩ w ⟨hfit.1, hot, hfit.2.2⟩ (fit_held how))
      rw [he] at kd
      clear hcell hop he hfit
      obtain ⟨q, po, t⟩ := op
      simp only at a0 a1 a2 kd
      have e4 : (k : Int) < (n : Int) := by omega
      go_wp2_with fail
      refine (kd.out _).mono ?_
      rintro e w2 ⟨rfl, hb2⟩
      obtain ⟨x2, rfl⟩ := later_is hb2
      have hz2 := x2.bel.size
      have d0 := x2.keep (keep_alloc c0)
      have d1 := x2.keep (keep_alloc c1)
      have g0 := (x2.frozen b 0 (by simp; omega)).trans (((Below.refl _ _).alloc (Nat.le_refl _) _).frozen (p := ⟨b, 0, none⟩) hbw |>.trans f0)
      have g1 := (x2.frozen b 1 (by simp; omega)).trans (((Below.refl _ _).alloc (Nat.le_refl _) _).frozen (p := ⟨b, 1, none⟩) hbw |>.trans f1)
      have hbx : b < x2.val.heap.size := block_lt_of_cell d0
      clear hb2 kd
      go_wp2
      go_roundw
      case rel => exact ⟨k + 1, by omega, by go_num, (Box.mk d0 d1 g0 g1).alloc _, (by repeat (first | exact Below.refl _ _ | refine bel_later _ ?_ | refine bel_alloc ?_ _ | refine bel_set ?_ (by first | omega | (simp; done) | (simp; omega)) _ | refine Below.drew ?_ | assumption))⟩
      case measure => simp [intOf]; omega
    · obtain rfl : k = n := by omega
      clear hR hA
      have kt := Lib.hid (fun w => take_at ⟨ow, -1⟩ ⟨ow, -1⟩ ow ow (-1) ow 50 ow (-1) 0 w (fit_held how) how (by omega) rfl rfl rfl rfl rfl (Ls.held_take h0 (by omega)))
      have kl := Lib.hid (fun w => leave_at ⟨ow, -1⟩ ⟨0, 0⟩ ow ow (-1) ow 0 0 0 w (fit_held how) how rfl rfl rfl rfl rfl (Ls.held_leave h0))
      by_cases ho : ot = 0
      · subst ho
        go_wp2_with fail
        refine (kt.out _).mono ?_
        rintro e w2 ⟨rfl, hb2⟩
        obtain ⟨y1, rfl⟩ := later_is hb2
        have c0 := y1.keep c0
        have c1 := y1.keep c1
        have lb1 : b < y1.val.heap.size := block_lt_of_cell c0
        clear hb2
        go_wp2_with fail
        refine (kl.out _).mono ?_
        rintro e w2 ⟨rfl, hb2⟩
        obtain ⟨y2, rfl⟩ := later_is hb2
        have hz2 := y2.bel.size
        simp at hz2
        have c0 := y2.keep (keep_alloc c0)
        have c1 := y2.keep (keep_alloc c1)
        have q0 := y2.bel.cell (p := ⟨y1.val.heap.size, 0, none⟩) (by simp)
        have q1 := y2.bel.cell (p := ⟨y1.val.heap.size, 1, none⟩) (by simp)
        simp only [World.cell?_alloc_new] at q0 q1
        have lb2 : b < y2.val.heap.size := block_lt_of_cell c0
        have lb3 : y1.val.heap.size < y2.val.heap.size := by omega
        clear hb2
        go_wp2_with fail
        refine (take_at ⟨0, 0⟩ ⟨0, 0⟩ 0 0 0 0 1 0 0 2 _ fit00 (by decide) (by decide) rfl rfl rfl rfl rfl rfl).mono ?_
        rintro e w2 ⟨rfl, hb2⟩
        obtain ⟨y3, rfl⟩ := later_is hb2
        have hz3 := y3.bel.size
        simp at hz3
        have c0 := y3.keep (keep_alloc c0)
        have c1 := y3.keep (keep_alloc c1)
        have q0 := y3.keep (keep_alloc q0)
        have q1 := y3.keep (keep_alloc q1)
        have r0 := y3.bel.cell (p := ⟨y2.val.heap.size, 0, none⟩) (by simp)
        have r1 := y3.bel.cell (p := ⟨y2.val.heap.size, 1, none⟩) (by simp)
        simp only [World.cell?_alloc_new] at r0 r1
        have lb4 : b < y3.val.heap.size := block_lt_of_cell c0
        have lb5 : y1.val.heap.size < y3.val.heap.size := by omega
        have lb6 : y2.val.heap.size < y3.val.heap.size := by omega
        clear hb2
        go_wp2_with fail
        refine (free_at ⟨0, 0⟩ true 0 0 _ fit00 rfl rfl rfl).mono ?_
        rintro e w2 ⟨rfl, hb2⟩
        obtain ⟨y4, rfl⟩ := later_is hb2
        clear hb2
        go_wp2_with fail
        refine (awake_any _).mono ?_
        rintro e w2 ⟨rfl, hb2⟩
        obtain ⟨y5, rfl⟩ := later_is hb2
        clear hb2
        go_wp2
        go_ret
        exact ⟨rfl, (by repeat (first | exact Below.refl _ _ | refine bel_later _ ?_ | refine bel_alloc ?_ _ | refine bel_set ?_ (by first | omega | (simp; done) | (simp; omega)) _ | refine Below.drew ?_ | assumption))⟩
      · have ho' : ((ot : Int) == 0) = false := beq_eq_false_iff_ne.2 (by omega)
        have ho2 : ((ot : Int) != 0) = true := by rw [bne_iff_ne]; omega
        have kf := Lib.hid (fun w => take_at ⟨0, 0⟩ ⟨ot, 1⟩ ot 0 0 ot 1 ot 1 0 w fit00 hot (by decide) rfl rfl rfl rfl rfl (Ls.take_free1 ho))
        go_wp2_with fail
        refine (kt.out _).mono ?_
        rintro e w2 ⟨rfl, hb2⟩
        obtain ⟨y1, rfl⟩ := later_is hb2
        have c0 := y1.keep c0
        have c1 := y1.keep c1
        have lb1 : b < y1.val.heap.size := block_lt_of_cell c0
        clear hb2
        go_wp2_with fail
        refine (kl.out _).mono ?_
        rintro e w2 ⟨rfl, hb2⟩
        obtain ⟨y2, rfl⟩ := later_is hb2
        have hz2 := y2.bel.size
        simp at hz2
        have c0 := y2.keep (keep_alloc c0)
        have c1 := y2.keep (keep_alloc c1)
        have q0 := y2.bel.cell (p := ⟨y1.val.heap.size, 0, none⟩) (by simp)
        have q1 := y2.bel.cell (p := ⟨y1.val.heap.size, 1, none⟩) (by simp)
        simp only [World.cell?_alloc_new] at q0 q1
        have lb2 : b < y2.val.heap.size := block_lt_of_cell c0
        have lb3 : y1.val.heap.size < y2.val.heap.size := by omega
        clear hb2
        go_wp2_with fail
        refine (kf.out _).mono ?_
        rintro e w2 ⟨rfl, hb2⟩
        obtain ⟨y3, rfl⟩ := later_is hb2
        have hz3 := y3.bel.size
        simp at hz3
        have c0 := y3.keep (keep_alloc c0)
        have c1 := y3.keep (keep_alloc c1)
        have q0 := y3.keep (keep_alloc q0)
        have q1 := y3.keep (keep_alloc q1)
        have r0 := y3.bel.cell (p := ⟨y2.val.heap.size, 0, none⟩) (by simp)
        have r1 := y3.bel.cell (p := ⟨y2.val.heap.size, 1, none⟩) (by simp)
        simp only [World.cell?_alloc_new] at r0 r1
        have lb4 : b < y3.val.heap.size := block_lt_of_cell c0
        have lb5 : y1.val.heap.size < y3.val.heap.size := by omega
        have lb6 : y2.val.heap.size < y3.val.heap.size := by omega
        clear hb2
        go_wp2_with fail
        refine (free_at ⟨0, 0⟩ true 0 0 _ fit00 rfl rfl rfl).mono ?_
        rintro e w2 ⟨rfl, hb2⟩
        obtain ⟨y4, rfl⟩ := later_is hb2
        clear hb2
        go_wp2_with fail
        refine (awake_any _).mono ?_
        rintro e w2 ⟨rfl, hb2⟩
        obtain ⟨y5, rfl⟩ := later_is hb2
        clear hb2
        go_wp2
        go_ret
        exact ⟨rfl, (by repeat (first | exact Below.refl _ _ | refine bel_later _ ?_ | refine bel_alloc ?_ _ | refine bel_set ?_ (by first | omega | (simp; done) | (simp; omega)) _ | refine Below.drew ?_ | assumption))⟩
end Go.Proofs.Ytlekadiaobpadaa
