/- LeaseOne: the law of one thing done, and the walk. -/
import Derived.Test.YtlekadiaobpadaaLeaseHoldsW
namespace Go.Proofs.Ytlekadiaobpadaa
open Go.RowKit
set_option linter.unusedVariables false
attribute [local go_sem] Later.cell Later.frozen setCell_twice lease_fld0 lease_fld1
namespace Ls
structure Good (x y : L) (e : Int) (q ow : Nat) : Prop where
  r : right y = true
  e : e ≠ 0 → y = x
  s : x.o ≠ 0 → y.o ≠ 0 → y.o = x.o
  l : x.o ≠ 0 → y.o = 0 → q % 5 = 2 → ow = x.o
  n : x.o = 0 → y.o ≠ 0 → q % 5 = 0 ∧ y.o = ow
theorem Good.same {x : L} (h : right x = true) (e : Int) (q ow : Nat) : Good x x e q ow := ⟨h, fun _ => rfl, fun _ _ => rfl, fun a b => absurd b a, fun a b => absurd a b⟩
theorem good (o : Op) {x : L} (h : right x = true) : Good x (does o x).1 (does o x).2 o.q o.ow := by
  obtain ⟨q, ow, t⟩ := o
  have hc := right_cases h
  unfold does take hold leave tick boot
  rw [counted_of_right h]
  simp only
  by_cases q0 : q % 5 = 0
  · rw [if_pos q0]
    unfold takeC
    by_cases h1 : ow = 0 ∨ t < 1
    · rw [if_pos h1]; exact Good.same h _ _ _
    rw [if_neg h1]
    by_cases h2 : x.o ≠ 0 ∧ x.o ≠ ow
    · rw [if_pos h2]; exact Good.same h _ _ _
    rw [if_neg h2]
    by_cases h3 : x.l = -1
    · rw [if_pos h3]; exact Good.same h _ _ _
    rw [if_neg h3]
    exact ⟨right_of_runs (by simp only; omega) (by simp only; omega), fun k => absurd rfl k, fun a b => by simp only; omega, fun a b => by simp only at b; omega, fun a b => ⟨q0, rfl⟩⟩
  rw [if_neg q0]
  by_cases q1 : q % 5 = 1
  · rw [if_pos q1]
    unfold holdC
    by_cases h1 : ow = 0
    · rw [if_pos h1]; exact Good.same h _ _ _
    rw [if_neg h1]
    by_cases h2 : x.o ≠ ow
    · rw [if_pos h2]; exact Good.same h _ _ _
    rw [if_neg h2]
    exact ⟨right_of_held (by simp only; omega) rfl, fun k => absurd rfl k, fun a b => by simp only; omega, fun a b => by simp only at b; omega, fun a b => by omega⟩
  rw [if_neg q1]
  by_cases q2 : q % 5 = 2
  · rw [if_pos q2]
    unfold leaveC
    by_cases h1 : ow = 0
    · rw [if_pos h1]; exact Good.same h _ _ _
    rw [if_neg h1]
    by_cases h2 : x.o ≠ ow
    · rw [if_pos h2]; exact Good.same h _ _ _
    rw [if_neg h2]
    exact ⟨rfl, fun k => absurd rfl k, fun a b => absurd rfl b, fun a b _ => by omega, fun a b => absurd rfl b⟩
  rw [if_neg q2]
  by_cases q3 : q % 5 = 3
  · rw [if_pos q3]
    unfold tickC
    by_cases h1 : 0 < x.l
    · rw [if_pos h1]
      by_cases h2 : x.l = 1
      · rw [if_pos h2]
        exact ⟨rfl, fun k => absurd rfl k, fun a b => absurd rfl b, fun a b c => by omega, fun a b => absurd rfl b⟩
      · rw [if_neg h2]
        exact ⟨right_of_runs (by simp only; omega) (by simp only; omega), fun k => absurd rfl k, fun a b => rfl, fun a b c => by omega, fun a b => by simp only at b; omega⟩
    · rw [if_neg h1]; exact Good.same h _ _ _
  · rw [if_neg q3]
    unfold bootC
    by_cases h1 : x.l = -1
    · rw [if_pos h1]; exact Good.same h _ _ _
    · rw [if_neg h1]
      exact ⟨rfl, fun k => absurd rfl k, fun a b => absurd rfl b, fun a b c => by omega, fun a b => absurd rfl b⟩
theorem free_right {x : L} (h : right x = true) : free x = decide (x.o = 0) := by unfold free; rw [counted_of_right h]
end Ls

set_option maxRecDepth 100000 in
set_option maxHeartbeats 8000000 in
theorem leaseOne_walk (A : Option Addr) (l : List Ls.Op) (c : Nat) (w : World) (hR : Recs Ls.Op.cells 3 w w.heap.size A l) (hl : ∀ o ∈ l, o.fit) (hlc : l.length ≤ c) (hc : c ≤ 9223372036854775807) (hA : A = none → c = 0) :
    Calls Try.prog 4 #[.slice A l.length c] w fun e w' => e = .returned (.bool true) ∧ Below w.heap.size w w' := by
  obtain ⟨n, hn⟩ : ∃ n : Nat, n = min l.length 300 := ⟨_, rfl⟩
  have hmin : ∀ w, (Builtin.min_ #[3, 3] 3 #[.int .i64 (l.length : Int), .int .i64 300]).run Try.prog w = .ok (.int .i64 (n : Int)) w := fun w => run_min2n w _ _ l.length 300 n hn
  have n1 : n ≤ l.length := by omega
  have n2 : n ≤ 300 := by omega
  clear hn
  go_enter Try.func4, Try.ntmps4
  go_wp2
  obtain ⟨W2, hW2⟩ : ∃ W2, W2 = w.alloc (.cells #[.int .u16 0, .int .i64 0] 24) := ⟨_, rfl⟩
  have hbel2 : Below w.heap.size w W2 := by rw [hW2]; exact (by repeat (first | exact Below.refl _ _ | refine bel_later _ ?_ | refine bel_alloc ?_ _ | refine bel_set ?_ (by first | omega | (simp; done) | (simp; omega)) _ | refine Below.drew ?_ | assumption))
  have hbox2 : Box W2 w.heap.size 0 0 := by rw [hW2]; exact Box.new _ _ _ _
  rw [← hW2]
  clear hW2 hmin
  obtain ⟨b, hb0⟩ : ∃ b, b = w.heap.size := ⟨_, rfl⟩
  rw [← hb0] at hbox2 ⊢
  have hb1 : w.heap.size ≤ b := by omega
  clear hb0
  go_loopw [15] (fun i wr => ∃ k : Nat, ∃ x : Ls.L, k ≤ n ∧ i = .int .i64 k ∧ Ls.right x = true ∧ Ls.fit x ∧ Box wr b x.o x.l ∧ Below w.heap.size w wr) (fun i _ => n - (intOf i).toNat)
  case atStart => exact ⟨0, ⟨0, 0⟩, by omega, rfl, rfl, fit00, hbox2, hbel2⟩
  case round =>
    clear hbox2 hbel2
    obtain ⟨k, x, hk, rfl, hrx, hfx, hbox, hbel⟩ := hrel
    obtain ⟨c0, c1, f0, f1⟩ := hbox
    have hbw : b < wr.heap.size := block_lt_of_cell c0
    by_cases hlt : k < n
    · obtain ⟨bo, oo, op, rfl, hbo, hop, hcell⟩ := hR.at_ (show k < l.length by omega)
      have hfit := hl op (List.mem_of_getElem? hop)
      have a0 : wr.cell? ⟨bo, oo + k * 3, none⟩ = some (.int .u8 (op.q : Int)) := (hbel.cell (p := ⟨bo, oo + k * 3, none⟩) hbo).trans (hcell 0 _ rfl)
      have a1 : wr.cell? ⟨bo, oo + k * 3 + 1, none⟩ = some (.int .u16 (op.ow : Int)) := (hbel.cell (p := ⟨bo, oo + k * 3 + 1, none⟩) hbo).trans (hcell 1 _ rfl)
      have a2 : wr.cell? ⟨bo, oo + k * 3 + 2, none⟩ = some (.int .i64 op.t) := (hbel.cell (p := ⟨bo, oo + k * 3 + 2, none⟩) hbo).trans (hcell 2 _ rfl)
      have hg := Ls.good op hrx
      have hfy := Ls.does_fit hfit hfx
      have kd := Lib.hid (fun w => does_any op x w hfit hfx)
      generalize Ls.does op x = r at *
      obtain ⟨y, er⟩ := r
      simp only at hg hfy kd
      have hry := hg.r
      have kr := Lib.hid (fun w => right_at y true y.o y.l w hfy rfl rfl hry)
      have kf := Lib.hid (fun w => free_at y (decide (y.o = 0)) y.o y.l w hfy rfl rfl (Ls.free_right hry))
      have HF := Lib.hid hfy
      have HR := Lib.hid hry
      have HG := Lib.hid hg
      obtain ⟨q, po, t⟩ := op
      have hq : q < 256 := hfit.1
      simp only at a0 a1 a2 kd HG
      have e4 : (k : Int) < (n : Int) := by omega
      clear hcell hop hfit hg hfy hry hfx hrx
      go_wp2_with fail
      refine (kd.out _).mono ?_
      rintro e w2 ⟨rfl, hb2⟩
      obtain ⟨x2, rfl⟩ := later_is hb2
      have hz2 := x2.bel.size
      simp at hz2
      have d0 := x2.keep (keep_alloc c0)
      have d1 := x2.keep (keep_alloc c1)
      have g0 := (x2.frozen b 0 (by simp; omega)).trans (((Below.refl _ _).alloc (Nat.le_refl _) _).frozen (p := ⟨b, 0, none⟩) hbw |>.trans f0)
      have g1 := (x2.frozen b 1 (by simp; omega)).trans (((Below.refl _ _).alloc (Nat.le_refl _) _).frozen (p := ⟨b, 1, none⟩) hbw |>.trans f1)
      have o0 := x2.bel.cell (p := ⟨wr.heap.size, 0, none⟩) (by simp)
      have o1 := x2.bel.cell (p := ⟨wr.heap.size, 1, none⟩) (by simp)
      simp only [World.cell?_alloc_new] at o0 o1
      have hbx : b < x2.val.heap.size := block_lt_of_cell d0
      have hbx1 : b < x2.val.heap.size + 1 := by omega
      have hox : wr.heap.size < x2.val.heap.size := by omega
      have hox1 : wr.heap.size < x2.val.heap.size + 1 := by omega
      clear hb2 kd c0 c1 f0 f1 a0 a1 a2
      obtain ⟨xo, xl⟩ := x
      obtain ⟨yo, yl⟩ := y
      simp only at *
      by_cases he : er = 0
      · subst he
        by_cases hx : xo = 0
        · subst hx
          by_cases hy : yo = 0
          · subst hy
            go_wp2_with fail
            refine wp_region_lat (by kernel_rfl) (by kernel_rfl) ?_
            repeat (go_big_quiet_step (fail))
            go_big_quiet_step (exact later_new (kr.out _))
            repeat (go_big_quiet_step (fail))
            go_big_quiet_step (exact later_new (kf.out _))
            repeat (go_big_quiet_step (fail))
            refine wpQuiet_nil ?_
            rintro _ ⟨x3, rfl⟩
            have hz_x3 := x3.bel.size
            try simp at hz_x3
            have p0 := x3.keep (keep_alloc d0)
            have p1 := x3.keep (keep_alloc d1)
            have r0 := (x3.frozen b 0 (by simp; omega)).trans (((Below.refl _ _).alloc (Nat.le_refl _) _).frozen (p := ⟨b, 0, none⟩) hbx |>.trans g0)
            have r1 := (x3.frozen b 1 (by simp; omega)).trans (((Below.refl _ _).alloc (Nat.le_refl _) _).frozen (p := ⟨b, 1, none⟩) hbx |>.trans g1)
            have s0 := x3.keep (keep_alloc o0)
            have s1 := x3.keep (keep_alloc o1)
            have t0 := x3.bel.cell (p := ⟨x2.val.heap.size, 0, none⟩) (by simp)
            have t1 := x3.bel.cell (p := ⟨x2.val.heap.size, 1, none⟩) (by simp)
            simp only [World.cell?_alloc_new] at t0 t1
            go_wp2
            go_roundw
            case rel => exact ⟨k + 1, _, by omega, by go_num, HR.out, HF.out, (Box.mk p0 p1 r0 r1).set _ _, (by repeat (first | exact Below.refl _ _ | refine bel_later _ ?_ | refine bel_alloc ?_ _ | refine bel_set ?_ (by first | omega | (simp; done) | (simp; omega)) _ | refine Below.drew ?_ | assumption))⟩
            case measure => simp [intOf]; omega
          · obtain ⟨hq0, rfl⟩ := HG.out.n rfl hy
            have u1 : ((yo : Int) != 0) = true := by rw [bne_iff_ne]; omega
            have u2 : ((yo : Int) == 0) = false := beq_eq_false_iff_ne.2 (by omega)
            have u3 : decide (yo = 0) = false := by simpa using hy
            have u4 : ((q : Int) % 5 != 0) = false := by rw [bne_eq_false_iff_eq]; omega
            rw [u3] at kf
            clear u3 hq0
            go_wp2_with fail
            refine wp_region_lat (by kernel_rfl) (by kernel_rfl) ?_
            repeat (go_big_quiet_step (fail))
            go_big_quiet_step (exact later_new (kr.out _))
            repeat (go_big_quiet_step (fail))
            go_big_quiet_step (exact later_new (kf.out _))
            repeat (go_big_quiet_step (fail))
            refine wpQuiet_nil ?_
            rintro _ ⟨x3, rfl⟩
            have hz_x3 := x3.bel.size
            try simp at hz_x3
            have p0 := x3.keep (keep_alloc d0)
            have p1 := x3.keep (keep_alloc d1)
            have r0 := (x3.frozen b 0 (by simp; omega)).trans (((Below.refl _ _).alloc (Nat.le_refl _) _).frozen (p := ⟨b, 0, none⟩) hbx |>.trans g0)
            have r1 := (x3.frozen b 1 (by simp; omega)).trans (((Below.refl _ _).alloc (Nat.le_refl _) _).frozen (p := ⟨b, 1, none⟩) hbx |>.trans g1)
            have s0 := x3.keep (keep_alloc o0)
            have s1 := x3.keep (keep_alloc o1)
            have t0 := x3.bel.cell (p := ⟨x2.val.heap.size, 0, none⟩) (by simp)
            have t1 := x3.bel.cell (p := ⟨x2.val.heap.size, 1, none⟩) (by simp)
            simp only [World.cell?_alloc_new] at t0 t1
            go_wp2
            go_roundw
            case rel => exact ⟨k + 1, _, by omega, by go_num, HR.out, HF.out, (Box.mk p0 p1 r0 r1).set _ _, (by repeat (first | exact Below.refl _ _ | refine bel_later _ ?_ | refine bel_alloc ?_ _ | refine bel_set ?_ (by first | omega | (simp; done) | (simp; omega)) _ | refine Below.drew ?_ | assumption))⟩
            case measure => simp [intOf]; omega
        · have v1 : ((xo : Int) != 0) = true := by rw [bne_iff_ne]; omega
          have v2 : ((xo : Int) == 0) = false := beq_eq_false_iff_ne.2 (by omega)
          by_cases hy : yo = 0
          · subst hy
            by_cases hq2 : q % 5 = 2
            · obtain rfl := HG.out.l hx rfl hq2
              have u4 : ((q : Int) % 5 == 2) = true := by rw [beq_iff_eq]; omega
              clear hq2
              go_wp2_with fail
              refine wp_region_lat (by kernel_rfl) (by kernel_rfl) ?_
              repeat (go_big_quiet_step (fail))
              go_big_quiet_step (exact later_new (kr.out _))
              repeat (go_big_quiet_step (fail))
              go_big_quiet_step (exact later_new (kf.out _))
              repeat (go_big_quiet_step (fail))
              refine wpQuiet_nil ?_
              rintro _ ⟨x3, rfl⟩
              have hz_x3 := x3.bel.size
              try simp at hz_x3
              have p0 := x3.keep (keep_alloc d0)
              have p1 := x3.keep (keep_alloc d1)
              have r0 := (x3.frozen b 0 (by simp; omega)).trans (((Below.refl _ _).alloc (Nat.le_refl _) _).frozen (p := ⟨b, 0, none⟩) hbx |>.trans g0)
              have r1 := (x3.frozen b 1 (by simp; omega)).trans (((Below.refl _ _).alloc (Nat.le_refl _) _).frozen (p := ⟨b, 1, none⟩) hbx |>.trans g1)
              have s0 := x3.keep (keep_alloc o0)
              have s1 := x3.keep (keep_alloc o1)
              have t0 := x3.bel.cell (p := ⟨x2.val.heap.size, 0, none⟩) (by simp)
              have t1 := x3.bel.cell (p := ⟨x2.val.heap.size, 1, none⟩) (by simp)
              simp only [World.cell?_alloc_new] at t0 t1
              go_wp2
              go_roundw
              case rel => exact ⟨k + 1, _, by omega, by go_num, HR.out, HF.out, (Box.mk p0 p1 r0 r1).set _ _, (by repeat (first | exact Below.refl _ _ | refine bel_later _ ?_ | refine bel_alloc ?_ _ | refine bel_set ?_ (by first | omega | (simp; done) | (simp; omega)) _ | refine Below.drew ?_ | assumption))⟩
              case measure => simp [intOf]; omega
            · have u4 : ((q : Int) % 5 == 2) = false := beq_eq_false_iff_ne.2 (by omega)
              clear hq2
              go_wp2_with fail
              refine wp_region_lat (by kernel_rfl) (by kernel_rfl) ?_
              repeat (go_big_quiet_step (fail))
              go_big_quiet_step (exact later_new (kr.out _))
              repeat (go_big_quiet_step (fail))
              go_big_quiet_step (exact later_new (kf.out _))
              repeat (go_big_quiet_step (fail))
              refine wpQuiet_nil ?_
              rintro _ ⟨x3, rfl⟩
              have hz_x3 := x3.bel.size
              try simp at hz_x3
              have p0 := x3.keep (keep_alloc d0)
              have p1 := x3.keep (keep_alloc d1)
              have r0 := (x3.frozen b 0 (by simp; omega)).trans (((Below.refl _ _).alloc (Nat.le_refl _) _).frozen (p := ⟨b, 0, none⟩) hbx |>.trans g0)
              have r1 := (x3.frozen b 1 (by simp; omega)).trans (((Below.refl _ _).alloc (Nat.le_refl _) _).frozen (p := ⟨b, 1, none⟩) hbx |>.trans g1)
              have s0 := x3.keep (keep_alloc o0)
              have s1 := x3.keep (keep_alloc o1)
              have t0 := x3.bel.cell (p := ⟨x2.val.heap.size, 0, none⟩) (by simp)
              have t1 := x3.bel.cell (p := ⟨x2.val.heap.size, 1, none⟩) (by simp)
              simp only [World.cell?_alloc_new] at t0 t1
              go_wp2
              go_roundw
              case rel => exact ⟨k + 1, _, by omega, by go_num, HR.out, HF.out, (Box.mk p0 p1 r0 r1).set _ _, (by repeat (first | exact Below.refl _ _ | refine bel_later _ ?_ | refine bel_alloc ?_ _ | refine bel_set ?_ (by first | omega | (simp; done) | (simp; omega)) _ | refine Below.drew ?_ | assumption))⟩
              case measure => simp [intOf]; omega
          · obtain rfl := HG.out.s hx hy
            have u3 : decide (yo = 0) = false := by simpa using hy
            rw [u3] at kf
            clear u3
            go_wp2_with fail
            refine wp_region_lat (by kernel_rfl) (by kernel_rfl) ?_
            repeat (go_big_quiet_step (fail))
            go_big_quiet_step (exact later_new (kr.out _))
            repeat (go_big_quiet_step (fail))
            go_big_quiet_step (exact later_new (kf.out _))
            repeat (go_big_quiet_step (fail))
            refine wpQuiet_nil ?_
            rintro _ ⟨x3, rfl⟩
            have hz_x3 := x3.bel.size
            try simp at hz_x3
            have p0 := x3.keep (keep_alloc d0)
            have p1 := x3.keep (keep_alloc d1)
            have r0 := (x3.frozen b 0 (by simp; omega)).trans (((Below.refl _ _).alloc (Nat.le_refl _) _).frozen (p := ⟨b, 0, none⟩) hbx |>.trans g0)
            have r1 := (x3.frozen b 1 (by simp; omega)).trans (((Below.refl _ _).alloc (Nat.le_refl _) _).frozen (p := ⟨b, 1, none⟩) hbx |>.trans g1)
            have s0 := x3.keep (keep_alloc o0)
            have s1 := x3.keep (keep_alloc o1)
            have t0 := x3.bel.cell (p := ⟨x2.val.heap.size, 0, none⟩) (by simp)
            have t1 := x3.bel.cell (p := ⟨x2.val.heap.size, 1, none⟩) (by simp)
            simp only [World.cell?_alloc_new] at t0 t1
            go_wp2
            go_roundw
            case rel => exact ⟨k + 1, _, by omega, by go_num, HR.out, HF.out, (Box.mk p0 p1 r0 r1).set _ _, (by repeat (first | exact Below.refl _ _ | refine bel_later _ ?_ | refine bel_alloc ?_ _ | refine bel_set ?_ (by first | omega | (simp; done) | (simp; omega)) _ | refine Below.drew ?_ | assumption))⟩
            case measure => simp [intOf]; omega
      · obtain ⟨rfl, rfl⟩ : yo = xo ∧ yl = xl := by have := HG.out.e he; simpa using this
        have w1 : (er != 0) = true := by rw [bne_iff_ne]; exact he
        by_cases hx : yo = 0
        · subst hx
          go_wp2_with fail
          refine wp_region_lat (by kernel_rfl) (by kernel_rfl) ?_
          repeat (go_big_quiet_step (fail))
          go_big_quiet_step (exact later_new (kr.out _))
          repeat (go_big_quiet_step (fail))
          go_big_quiet_step (exact later_new (kf.out _))
          repeat (go_big_quiet_step (fail))
          refine wpQuiet_nil ?_
          rintro _ ⟨x3, rfl⟩
          have hz_x3 := x3.bel.size
          try simp at hz_x3
          have p0 := x3.keep (keep_alloc d0)
          have p1 := x3.keep (keep_alloc d1)
          have r0 := (x3.frozen b 0 (by simp; omega)).trans (((Below.refl _ _).alloc (Nat.le_refl _) _).frozen (p := ⟨b, 0, none⟩) hbx |>.trans g0)
          have r1 := (x3.frozen b 1 (by simp; omega)).trans (((Below.refl _ _).alloc (Nat.le_refl _) _).frozen (p := ⟨b, 1, none⟩) hbx |>.trans g1)
          have s0 := x3.keep (keep_alloc o0)
          have s1 := x3.keep (keep_alloc o1)
          have t0 := x3.bel.cell (p := ⟨x2.val.heap.size, 0, none⟩) (by simp)
          have t1 := x3.bel.cell (p := ⟨x2.val.heap.size, 1, none⟩) (by simp)
          simp only [World.cell?_alloc_new] at t0 t1
          go_wp2
          go_roundw
          case rel => exact ⟨k + 1, _, by omega, by go_num, HR.out, HF.out, (Box.mk p0 p1 r0 r1).set _ _, (by repeat (first | exact Below.refl _ _ | refine bel_later _ ?_ | refine bel_alloc ?_ _ | refine bel_set ?_ (by first | omega | (simp; done) | (simp; omega)) _ | refine Below.drew ?_ | assumption))⟩
          case measure => simp [intOf]; omega
        · have v1 : ((yo : Int) != 0) = true := by rw [bne_iff_ne]; omega
          have v2 : ((yo : Int) == 0) = false := beq_eq_false_iff_ne.2 (by omega)
          have u3 : decide (yo = 0) = false := by simpa using hx
          rw [u3] at kf
          clear u3
          go_wp2_with fail
          refine wp_region_lat (by kernel_rfl) (by kernel_rfl) ?_
          repeat (go_big_quiet_step (fail))
          go_big_quiet_step (exact later_new (kr.out _))
          repeat (go_big_quiet_step (fail))
          go_big_quiet_step (exact later_new (kf.out _))
          repeat (go_big_quiet_step (fail))
          refine wpQuiet_nil ?_
          rintro _ ⟨x3, rfl⟩
          have hz_x3 := x3.bel.size
          try simp at hz_x3
          have p0 := x3.keep (keep_alloc d0)
          have p1 := x3.keep (keep_alloc d1)
          have r0 := (x3.frozen b 0 (by simp; omega)).trans (((Below.refl _ _).alloc (Nat.le_refl _) _).frozen (p := ⟨b, 0, none⟩) hbx |>.trans g0)
          have r1 := (x3.frozen b 1 (by simp; omega)).trans (((Below.refl _ _).alloc (Nat.le_refl _) _).frozen (p := ⟨b, 1, none⟩) hbx |>.trans g1)
          have s0 := x3.keep (keep_alloc o0)
          have s1 := x3.keep (keep_alloc o1)
          have t0 := x3.bel.cell (p := ⟨x2.val.heap.size, 0, none⟩) (by simp)
          have t1 := x3.bel.cell (p := ⟨x2.val.heap.size, 1, none⟩) (by simp)
          simp only [World.cell?_alloc_new] at t0 t1
          go_wp2
          go_roundw
          case rel => exact ⟨k + 1, _, by omega, by go_num, HR.out, HF.out, (Box.mk p0 p1 r0 r1).set _ _, (by repeat (first | exact Below.refl _ _ | refine bel_later _ ?_ | refine bel_alloc ?_ _ | refine bel_set ?_ (by first | omega | (simp; done) | (simp; omega)) _ | refine Below.drew ?_ | assumption))⟩
          case measure => simp [intOf]; omega
    · go_wp2_with fail
      refine (awake_any _).mono ?_
      rintro e w2 ⟨rfl, hb2⟩
      obtain ⟨y5, rfl⟩ := later_is hb2
      clear hb2
      go_wp2
      go_ret
      exact ⟨rfl, (by repeat (first | exact Below.refl _ _ | refine bel_later _ ?_ | refine bel_alloc ?_ _ | refine bel_set ?_ (by first | omega | (simp; done) | (simp; omega)) _ | refine Below.drew ?_ | assumption))⟩
end Go.Proofs.Ytlekadiaobpadaa
