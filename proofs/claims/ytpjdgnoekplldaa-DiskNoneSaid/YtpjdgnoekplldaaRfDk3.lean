/- The reference's disk (saucierref09), by value: Cut. -/
import Derived.Test.YtpjdgnoekplldaaRfDk2
namespace Go.Proofs.Ytpjdgnoekplldaa
open Go.RowKit
set_option linter.unusedVariables false
attribute [local go_sem] Later.cell Later.frozen setCell_twice
set_option maxHeartbeats 2000000 in
theorem rcut_any (D : Dk) (A : Option Addr) (c : Nat) (w : World) (n : Int) (hlo : -9223372036854775808 ≤ n) (hhi : n ≤ 9223372036854775807) (hok : D.Ok) (hb : Rb w A c D.l) :
    Calls Try.prog 34 #[D.R A c, .int .i64 n] w (RdP w A (D.cut n)) := by
  obtain ⟨i0, hi, hz0, hz1, hz2⟩ := info_parts info_b8
  have HB := Lib.hid hb
  have hcap := hb.cap
  have hmc := hb.le
  obtain ⟨D1, b, hd⟩ : ∃ D1 b, D.sparked = (D1, b) := ⟨_, _, rfl⟩
  have hll := Dk.sparked_l D
  rw [hd] at hll
  have ks := Lib.hid (fun w => rspark_any D D1 b A c w hok.left hd)
  obtain ⟨HC, hC⟩ : ∃ r, D.cut n = r := ⟨_, rfl⟩
  rw [hC]
  unfold Dk.cut at hC
  rw [hd] at hC
  have hmr : D.l.length ≤ 262144 := Nat.le_trans hok.room hok.hi
  clear hd hok hb
  obtain ⟨room, l, safe, left, off⟩ := D
  obtain ⟨room1, l1, safe1, left1, off1⟩ := D1
  obtain ⟨zl, hzl⟩ : ∃ z, lf left = z := ⟨_, rfl⟩
  obtain ⟨zl1, hzl1⟩ : ∃ z, lf left1 = z := ⟨_, rfl⟩
  obtain ⟨m, hm⟩ : ∃ m, l.length = m := ⟨_, rfl⟩
  simp only [Dk.R, hzl, hzl1] at ks ⊢
  dsimp only at hll hC hmc hmr
  obtain ⟨rfl, rfl, rfl⟩ := hll
  rw [hm] at ks hmc hmr hC ⊢
  have HM := Lib.hid hm
  have HZ := Lib.hid hzl
  have HZ1 := Lib.hid hzl1
  clear hm hzl hzl1
  cases off
  · rw [if_neg (by decide)] at hC
    by_cases h1 : n < 0
    · rw [if_pos (Or.inl h1)] at hC
      subst hC
      go_enter Try.func34, Try.ntmps34
      go_wp2
      refine bodyPost_ret (v := .tuple #[.agg #[.int .i64 (room1 : Int), .int .i64 (safe1 : Int), .int .i64 zl, .slice A m c, .bool false], .int .i64 2]) (by simp [results, Try.results34, go_sem, *]) rfl (RdP.of HB.out rfl (by simp [Dk.R, HM.out, HZ.out]) (by repeat (first | with_reducible exact Below.refl _ _ | with_reducible refine bel_later _ ?_ | with_reducible refine bel_alloc ?_ _ | refine bel_set ?_ (by first | omega | (simp; done) | (simp; omega)) _ | with_reducible refine Below.drew ?_ | with_reducible refine bel_drewN ?_ _ | with_reducible assumption | assumption)))
    · have g1 : decide (n < 0) = false := decide_eq_false h1
      by_cases h2 : (m : Int) < n
      · rw [if_pos (Or.inr h2)] at hC
        subst hC
        have g2 : decide ((m : Int) < n) = true := decide_eq_true h2
        go_enter Try.func34, Try.ntmps34
        go_wp2
        refine bodyPost_ret (v := .tuple #[.agg #[.int .i64 (room1 : Int), .int .i64 (safe1 : Int), .int .i64 zl, .slice A m c, .bool false], .int .i64 2]) (by simp [results, Try.results34, go_sem, *]) rfl (RdP.of HB.out rfl (by simp [Dk.R, HM.out, HZ.out]) (by repeat (first | with_reducible exact Below.refl _ _ | with_reducible refine bel_later _ ?_ | with_reducible refine bel_alloc ?_ _ | refine bel_set ?_ (by first | omega | (simp; done) | (simp; omega)) _ | with_reducible refine Below.drew ?_ | with_reducible refine bel_drewN ?_ _ | with_reducible assumption | assumption)))
      · obtain ⟨k, rfl⟩ : ∃ k : Nat, n = (k : Int) := ⟨n.toNat, by omega⟩
        rw [if_neg (by omega)] at hC
        have hkm : k ≤ m := by omega
        have hkc : k ≤ c := by omega
        have g2 : decide (m < k) = false := decide_eq_false (by omega)
        have HTK : Hid ((l1.take k).length = k) := Lib.hid (by rw [List.length_take, HM.out]; omega)
        clear h1 h2 g1
        cases b
        · rw [if_neg (by decide)] at hC
          subst hC
          go_enter Try.func34, Try.ntmps34
          go_wp2_with fail
          refine (ks.out _).mono ?_
          rintro e_x1 w_x1 ⟨rfl, hb_x1⟩
          obtain ⟨x1, rfl⟩ := later_is hb_x1
          clear hb_x1
          have hz_x1 := x1.bel.size
          try simp at hz_x1
          have l_x1_0 : w.heap.size < x1.val.heap.size := by omega
          have m_x1_0 : w.heap.size < x1.val.heap.size + 1 := by omega
          have q_ := x1.bel.cell (p := ⟨w.heap.size, 0, none⟩) (by first | omega | (simp; done) | (simp; omega))
          generalize c_x1_0_0 : x1.val.cell? ⟨w.heap.size, 0, none⟩ = q at q_
          first | (have q2_ : q = some _ := q_; subst q2_) | (simp [go_sem] at q_; have q2_ : q = some _ := q_; subst q2_) | (simp [go_sem, *] at q_; have q2_ : q = some _ := q_; subst q2_)
          have q_ := x1.bel.frozen (p := ⟨w.heap.size, 0, none⟩) (by first | omega | (simp; done) | (simp; omega))
          generalize z_x1_0_0 : x1.val.frozen? ⟨w.heap.size, 0, none⟩ = q at q_
          first | (have q2_ : q = false := q_; subst q2_) | (simp [go_sem] at q_; have q2_ : q = false := q_; subst q2_) | (simp [go_sem, *] at q_; have q2_ : q = false := q_; subst q2_)
          have q_ := x1.bel.cell (p := ⟨w.heap.size, 1, none⟩) (by first | omega | (simp; done) | (simp; omega))
          generalize c_x1_0_1 : x1.val.cell? ⟨w.heap.size, 1, none⟩ = q at q_
          first | (have q2_ : q = some _ := q_; subst q2_) | (simp [go_sem] at q_; have q2_ : q = some _ := q_; subst q2_) | (simp [go_sem, *] at q_; have q2_ : q = some _ := q_; subst q2_)
          have q_ := x1.bel.frozen (p := ⟨w.heap.size, 1, none⟩) (by first | omega | (simp; done) | (simp; omega))
          generalize z_x1_0_1 : x1.val.frozen? ⟨w.heap.size, 1, none⟩ = q at q_
          first | (have q2_ : q = false := q_; subst q2_) | (simp [go_sem] at q_; have q2_ : q = false := q_; subst q2_) | (simp [go_sem, *] at q_; have q2_ : q = false := q_; subst q2_)
          have q_ := x1.bel.cell (p := ⟨w.heap.size, 2, none⟩) (by first | omega | (simp; done) | (simp; omega))
          generalize c_x1_0_2 : x1.val.cell? ⟨w.heap.size, 2, none⟩ = q at q_
          first | (have q2_ : q = some _ := q_; subst q2_) | (simp [go_sem] at q_; have q2_ : q = some _ := q_; subst q2_) | (simp [go_sem, *] at q_; have q2_ : q = some _ := q_; subst q2_)
          have q_ := x1.bel.frozen (p := ⟨w.heap.size, 2, none⟩) (by first | omega | (simp; done) | (simp; omega))
          generalize z_x1_0_2 : x1.val.frozen? ⟨w.heap.size, 2, none⟩ = q at q_
          first | (have q2_ : q = false := q_; subst q2_) | (simp [go_sem] at q_; have q2_ : q = false := q_; subst q2_) | (simp [go_sem, *] at q_; have q2_ : q = false := q_; subst q2_)
          have q_ := x1.bel.cell (p := ⟨w.heap.size, 3, none⟩) (by first | omega | (simp; done) | (simp; omega))
          generalize c_x1_0_3 : x1.val.cell? ⟨w.heap.size, 3, none⟩ = q at q_
          first | (have q2_ : q = some _ := q_; subst q2_) | (simp [go_sem] at q_; have q2_ : q = some _ := q_; subst q2_) | (simp [go_sem, *] at q_; have q2_ : q = some _ := q_; subst q2_)
          have q_ := x1.bel.frozen (p := ⟨w.heap.size, 3, none⟩) (by first | omega | (simp; done) | (simp; omega))
          generalize z_x1_0_3 : x1.val.frozen? ⟨w.heap.size, 3, none⟩ = q at q_
          first | (have q2_ : q = false := q_; subst q2_) | (simp [go_sem] at q_; have q2_ : q = false := q_; subst q2_) | (simp [go_sem, *] at q_; have q2_ : q = false := q_; subst q2_)
          have q_ := x1.bel.cell (p := ⟨w.heap.size, 4, none⟩) (by first | omega | (simp; done) | (simp; omega))
          generalize c_x1_0_4 : x1.val.cell? ⟨w.heap.size, 4, none⟩ = q at q_
          first | (have q2_ : q = some _ := q_; subst q2_) | (simp [go_sem] at q_; have q2_ : q = some _ := q_; subst q2_) | (simp [go_sem, *] at q_; have q2_ : q = some _ := q_; subst q2_)
          have q_ := x1.bel.frozen (p := ⟨w.heap.size, 4, none⟩) (by first | omega | (simp; done) | (simp; omega))
          generalize z_x1_0_4 : x1.val.frozen? ⟨w.heap.size, 4, none⟩ = q at q_
          first | (have q2_ : q = false := q_; subst q2_) | (simp [go_sem] at q_; have q2_ : q = false := q_; subst q2_) | (simp [go_sem, *] at q_; have q2_ : q = false := q_; subst q2_)
          have l_x1_1 : w.heap.size+1 < x1.val.heap.size := by omega
          have m_x1_1 : w.heap.size+1 < x1.val.heap.size + 1 := by omega
          have q_ := x1.bel.cell (p := ⟨w.heap.size+1, 0, none⟩) (by first | omega | (simp; done) | (simp; omega))
          generalize c_x1_1_0 : x1.val.cell? ⟨w.heap.size+1, 0, none⟩ = q at q_
          first | (have q2_ : q = some _ := q_; subst q2_) | (simp [go_sem] at q_; have q2_ : q = some _ := q_; subst q2_) | (simp [go_sem, *] at q_; have q2_ : q = some _ := q_; subst q2_)
          have q_ := x1.bel.frozen (p := ⟨w.heap.size+1, 0, none⟩) (by first | omega | (simp; done) | (simp; omega))
          generalize z_x1_1_0 : x1.val.frozen? ⟨w.heap.size+1, 0, none⟩ = q at q_
          first | (have q2_ : q = false := q_; subst q2_) | (simp [go_sem] at q_; have q2_ : q = false := q_; subst q2_) | (simp [go_sem, *] at q_; have q2_ : q = false := q_; subst q2_)
          have q_ := x1.bel.cell (p := ⟨w.heap.size+1, 1, none⟩) (by first | omega | (simp; done) | (simp; omega))
          generalize c_x1_1_1 : x1.val.cell? ⟨w.heap.size+1, 1, none⟩ = q at q_
          first | (have q2_ : q = some _ := q_; subst q2_) | (simp [go_sem] at q_; have q2_ : q = some _ := q_; subst q2_) | (simp [go_sem, *] at q_; have q2_ : q = some _ := q_; subst q2_)
          have q_ := x1.bel.frozen (p := ⟨w.heap.size+1, 1, none⟩) (by first | omega | (simp; done) | (simp; omega))
          generalize z_x1_1_1 : x1.val.frozen? ⟨w.heap.size+1, 1, none⟩ = q at q_
          first | (have q2_ : q = false := q_; subst q2_) | (simp [go_sem] at q_; have q2_ : q = false := q_; subst q2_) | (simp [go_sem, *] at q_; have q2_ : q = false := q_; subst q2_)
          have q_ := x1.bel.cell (p := ⟨w.heap.size+1, 2, none⟩) (by first | omega | (simp; done) | (simp; omega))
          generalize c_x1_1_2 : x1.val.cell? ⟨w.heap.size+1, 2, none⟩ = q at q_
          first | (have q2_ : q = some _ := q_; subst q2_) | (simp [go_sem] at q_; have q2_ : q = some _ := q_; subst q2_) | (simp [go_sem, *] at q_; have q2_ : q = some _ := q_; subst q2_)
          have q_ := x1.bel.frozen (p := ⟨w.heap.size+1, 2, none⟩) (by first | omega | (simp; done) | (simp; omega))
          generalize z_x1_1_2 : x1.val.frozen? ⟨w.heap.size+1, 2, none⟩ = q at q_
          first | (have q2_ : q = false := q_; subst q2_) | (simp [go_sem] at q_; have q2_ : q = false := q_; subst q2_) | (simp [go_sem, *] at q_; have q2_ : q = false := q_; subst q2_)
          have q_ := x1.bel.cell (p := ⟨w.heap.size+1, 3, none⟩) (by first | omega | (simp; done) | (simp; omega))
          generalize c_x1_1_3 : x1.val.cell? ⟨w.heap.size+1, 3, none⟩ = q at q_
          first | (have q2_ : q = some _ := q_; subst q2_) | (simp [go_sem] at q_; have q2_ : q = some _ := q_; subst q2_) | (simp [go_sem, *] at q_; have q2_ : q = some _ := q_; subst q2_)
          have q_ := x1.bel.frozen (p := ⟨w.heap.size+1, 3, none⟩) (by first | omega | (simp; done) | (simp; omega))
          generalize z_x1_1_3 : x1.val.frozen? ⟨w.heap.size+1, 3, none⟩ = q at q_
          first | (have q2_ : q = false := q_; subst q2_) | (simp [go_sem] at q_; have q2_ : q = false := q_; subst q2_) | (simp [go_sem, *] at q_; have q2_ : q = false := q_; subst q2_)
          have q_ := x1.bel.cell (p := ⟨w.heap.size+1, 4, none⟩) (by first | omega | (simp; done) | (simp; omega))
          generalize c_x1_1_4 : x1.val.cell? ⟨w.heap.size+1, 4, none⟩ = q at q_
          first | (have q2_ : q = some _ := q_; subst q2_) | (simp [go_sem] at q_; have q2_ : q = some _ := q_; subst q2_) | (simp [go_sem, *] at q_; have q2_ : q = some _ := q_; subst q2_)
          have q_ := x1.bel.frozen (p := ⟨w.heap.size+1, 4, none⟩) (by first | omega | (simp; done) | (simp; omega))
          generalize z_x1_1_4 : x1.val.frozen? ⟨w.heap.size+1, 4, none⟩ = q at q_
          first | (have q2_ : q = false := q_; subst q2_) | (simp [go_sem] at q_; have q2_ : q = false := q_; subst q2_) | (simp [go_sem, *] at q_; have q2_ : q = false := q_; subst q2_)
          go_wp2
          refine bodyPost_ret (v := .tuple #[.agg #[.int .i64 (room1 : Int), .int .i64 (safe1 : Int), .int .i64 zl1, .slice A m c, .bool off1], .int .i64 6]) (by simp [results, Try.results34, go_sem, *]) rfl (RdP.of HB.out rfl (by simp [Dk.R, HM.out, HZ1.out]) (by repeat (first | with_reducible exact Below.refl _ _ | with_reducible refine bel_later _ ?_ | with_reducible refine bel_alloc ?_ _ | refine bel_set ?_ (by first | omega | (simp; done) | (simp; omega)) _ | with_reducible refine Below.drew ?_ | with_reducible refine bel_drewN ?_ _ | with_reducible assumption | assumption)))
        · rw [if_pos rfl] at hC
          subst hC
          by_cases h3 : k < safe1
          · have g3 : decide (k < safe1) = true := decide_eq_true h3
            have hmin : Hid (min safe1 k = k) := Lib.hid (by omega)
            cases A
            · go_enter Try.func34, Try.ntmps34
              go_wp2_with fail
              refine (ks.out _).mono ?_
              rintro e_x1 w_x1 ⟨rfl, hb_x1⟩
              obtain ⟨x1, rfl⟩ := later_is hb_x1
              clear hb_x1
              have hz_x1 := x1.bel.size
              try simp at hz_x1
              have l_x1_0 : w.heap.size < x1.val.heap.size := by omega
              have m_x1_0 : w.heap.size < x1.val.heap.size + 1 := by omega
              have q_ := x1.bel.cell (p := ⟨w.heap.size, 0, none⟩) (by first | omega | (simp; done) | (simp; omega))
              generalize c_x1_0_0 : x1.val.cell? ⟨w.heap.size, 0, none⟩ = q at q_
              first | (have q2_ : q = some _ := q_; subst q2_) | (simp [go_sem] at q_; have q2_ : q = some _ := q_; subst q2_) | (simp [go_sem, *] at q_; have q2_ : q = some _ := q_; subst q2_)
              have q_ := x1.bel.frozen (p := ⟨w.heap.size, 0, none⟩) (by first | omega | (simp; done) | (simp; omega))
              generalize z_x1_0_0 : x1.val.frozen? ⟨w.heap.size, 0, none⟩ = q at q_
              first | (have q2_ : q = false := q_; subst q2_) | (simp [go_sem] at q_; have q2_ : q = false := q_; subst q2_) | (simp [go_sem, *] at q_; have q2_ : q = false := q_; subst q2_)
              have q_ := x1.bel.cell (p := ⟨w.heap.size, 1, none⟩) (by first | omega | (simp; done) | (simp; omega))
              generalize c_x1_0_1 : x1.val.cell? ⟨w.heap.size, 1, none⟩ = q at q_
              first | (have q2_ : q = some _ := q_; subst q2_) | (simp [go_sem] at q_; have q2_ : q = some _ := q_; subst q2_) | (simp [go_sem, *] at q_; have q2_ : q = some _ := q_; subst q2_)
              have q_ := x1.bel.frozen (p := ⟨w.heap.size, 1, none⟩) (by first | omega | (simp; done) | (simp; omega))
              generalize z_x1_0_1 : x1.val.frozen? ⟨w.heap.size, 1, none⟩ = q at q_
              first | (have q2_ : q = false := q_; subst q2_) | (simp [go_sem] at q_; have q2_ : q = false := q_; subst q2_) | (simp [go_sem, *] at q_; have q2_ : q = false := q_; subst q2_)
              have q_ := x1.bel.cell (p := ⟨w.heap.size, 2, none⟩) (by first | omega | (simp; done) | (simp; omega))
              generalize c_x1_0_2 : x1.val.cell? ⟨w.heap.size, 2, none⟩ = q at q_
              first | (have q2_ : q = some _ := q_; subst q2_) | (simp [go_sem] at q_; have q2_ : q = some _ := q_; subst q2_) | (simp [go_sem, *] at q_; have q2_ : q = some _ := q_; subst q2_)
              have q_ := x1.bel.frozen (p := ⟨w.heap.size, 2, none⟩) (by first | omega | (simp; done) | (simp; omega))
              generalize z_x1_0_2 : x1.val.frozen? ⟨w.heap.size, 2, none⟩ = q at q_
              first | (have q2_ : q = false := q_; subst q2_) | (simp [go_sem] at q_; have q2_ : q = false := q_; subst q2_) | (simp [go_sem, *] at q_; have q2_ : q = false := q_; subst q2_)
              have q_ := x1.bel.cell (p := ⟨w.heap.size, 3, none⟩) (by first | omega | (simp; done) | (simp; omega))
              generalize c_x1_0_3 : x1.val.cell? ⟨w.heap.size, 3, none⟩ = q at q_
              first | (have q2_ : q = some _ := q_; subst q2_) | (simp [go_sem] at q_; have q2_ : q = some _ := q_; subst q2_) | (simp [go_sem, *] at q_; have q2_ : q = some _ := q_; subst q2_)
              have q_ := x1.bel.frozen (p := ⟨w.heap.size, 3, none⟩) (by first | omega | (simp; done) | (simp; omega))
              generalize z_x1_0_3 : x1.val.frozen? ⟨w.heap.size, 3, none⟩ = q at q_
              first | (have q2_ : q = false := q_; subst q2_) | (simp [go_sem] at q_; have q2_ : q = false := q_; subst q2_) | (simp [go_sem, *] at q_; have q2_ : q = false := q_; subst q2_)
              have q_ := x1.bel.cell (p := ⟨w.heap.size, 4, none⟩) (by first | omega | (simp; done) | (simp; omega))
              generalize c_x1_0_4 : x1.val.cell? ⟨w.heap.size, 4, none⟩ = q at q_
              first | (have q2_ : q = some _ := q_; subst q2_) | (simp [go_sem] at q_; have q2_ : q = some _ := q_; subst q2_) | (simp [go_sem, *] at q_; have q2_ : q = some _ := q_; subst q2_)
              have q_ := x1.bel.frozen (p := ⟨w.heap.size, 4, none⟩) (by first | omega | (simp; done) | (simp; omega))
              generalize z_x1_0_4 : x1.val.frozen? ⟨w.heap.size, 4, none⟩ = q at q_
              first | (have q2_ : q = false := q_; subst q2_) | (simp [go_sem] at q_; have q2_ : q = false := q_; subst q2_) | (simp [go_sem, *] at q_; have q2_ : q = false := q_; subst q2_)
              have l_x1_1 : w.heap.size+1 < x1.val.heap.size := by omega
              have m_x1_1 : w.heap.size+1 < x1.val.heap.size + 1 := by omega
              have q_ := x1.bel.cell (p := ⟨w.heap.size+1, 0, none⟩) (by first | omega | (simp; done) | (simp; omega))
              generalize c_x1_1_0 : x1.val.cell? ⟨w.heap.size+1, 0, none⟩ = q at q_
              first | (have q2_ : q = some _ := q_; subst q2_) | (simp [go_sem] at q_; have q2_ : q = some _ := q_; subst q2_) | (simp [go_sem, *] at q_; have q2_ : q = some _ := q_; subst q2_)
              have q_ := x1.bel.frozen (p := ⟨w.heap.size+1, 0, none⟩) (by first | omega | (simp; done) | (simp; omega))
              generalize z_x1_1_0 : x1.val.frozen? ⟨w.heap.size+1, 0, none⟩ = q at q_
              first | (have q2_ : q = false := q_; subst q2_) | (simp [go_sem] at q_; have q2_ : q = false := q_; subst q2_) | (simp [go_sem, *] at q_; have q2_ : q = false := q_; subst q2_)
              have q_ := x1.bel.cell (p := ⟨w.heap.size+1, 1, none⟩) (by first | omega | (simp; done) | (simp; omega))
              generalize c_x1_1_1 : x1.val.cell? ⟨w.heap.size+1, 1, none⟩ = q at q_
              first | (have q2_ : q = some _ := q_; subst q2_) | (simp [go_sem] at q_; have q2_ : q = some _ := q_; subst q2_) | (simp [go_sem, *] at q_; have q2_ : q = some _ := q_; subst q2_)
              have q_ := x1.bel.frozen (p := ⟨w.heap.size+1, 1, none⟩) (by first | omega | (simp; done) | (simp; omega))
              generalize z_x1_1_1 : x1.val.frozen? ⟨w.heap.size+1, 1, none⟩ = q at q_
              first | (have q2_ : q = false := q_; subst q2_) | (simp [go_sem] at q_; have q2_ : q = false := q_; subst q2_) | (simp [go_sem, *] at q_; have q2_ : q = false := q_; subst q2_)
              have q_ := x1.bel.cell (p := ⟨w.heap.size+1, 2, none⟩) (by first | omega | (simp; done) | (simp; omega))
              generalize c_x1_1_2 : x1.val.cell? ⟨w.heap.size+1, 2, none⟩ = q at q_
              first | (have q2_ : q = some _ := q_; subst q2_) | (simp [go_sem] at q_; have q2_ : q = some _ := q_; subst q2_) | (simp [go_sem, *] at q_; have q2_ : q = some _ := q_; subst q2_)
              have q_ := x1.bel.frozen (p := ⟨w.heap.size+1, 2, none⟩) (by first | omega | (simp; done) | (simp; omega))
              generalize z_x1_1_2 : x1.val.frozen? ⟨w.heap.size+1, 2, none⟩ = q at q_
              first | (have q2_ : q = false := q_; subst q2_) | (simp [go_sem] at q_; have q2_ : q = false := q_; subst q2_) | (simp [go_sem, *] at q_; have q2_ : q = false := q_; subst q2_)
              have q_ := x1.bel.cell (p := ⟨w.heap.size+1, 3, none⟩) (by first | omega | (simp; done) | (simp; omega))
              generalize c_x1_1_3 : x1.val.cell? ⟨w.heap.size+1, 3, none⟩ = q at q_
              first | (have q2_ : q = some _ := q_; subst q2_) | (simp [go_sem] at q_; have q2_ : q = some _ := q_; subst q2_) | (simp [go_sem, *] at q_; have q2_ : q = some _ := q_; subst q2_)
              have q_ := x1.bel.frozen (p := ⟨w.heap.size+1, 3, none⟩) (by first | omega | (simp; done) | (simp; omega))
              generalize z_x1_1_3 : x1.val.frozen? ⟨w.heap.size+1, 3, none⟩ = q at q_
              first | (have q2_ : q = false := q_; subst q2_) | (simp [go_sem] at q_; have q2_ : q = false := q_; subst q2_) | (simp [go_sem, *] at q_; have q2_ : q = false := q_; subst q2_)
              have q_ := x1.bel.cell (p := ⟨w.heap.size+1, 4, none⟩) (by first | omega | (simp; done) | (simp; omega))
              generalize c_x1_1_4 : x1.val.cell? ⟨w.heap.size+1, 4, none⟩ = q at q_
              first | (have q2_ : q = some _ := q_; subst q2_) | (simp [go_sem] at q_; have q2_ : q = some _ := q_; subst q2_) | (simp [go_sem, *] at q_; have q2_ : q = some _ := q_; subst q2_)
              have q_ := x1.bel.frozen (p := ⟨w.heap.size+1, 4, none⟩) (by first | omega | (simp; done) | (simp; omega))
              generalize z_x1_1_4 : x1.val.frozen? ⟨w.heap.size+1, 4, none⟩ = q at q_
              first | (have q2_ : q = false := q_; subst q2_) | (simp [go_sem] at q_; have q2_ : q = false := q_; subst q2_) | (simp [go_sem, *] at q_; have q2_ : q = false := q_; subst q2_)
              go_wp2_with (
                at_builtin
                go_loud (
                refine wpList_append_sq (f := byw) _ rfl _ _ 22 rfl (fun _ => rfl) (x1.val.heap.size + 1) 5 i0 _ _ Try.underlying22 hi hz0 rfl hz1 hz2 (by decide) _ [] rfl (own_sq_empty byw _ _ _ _ (by simp) (by simp)) w.heap.size _ (l1.take k) c k HTK.out rfl (((HB.out.sq.below (B := w.heap.size) (by exact (by repeat (first | with_reducible exact Below.refl _ _ | with_reducible refine bel_later _ ?_ | with_reducible refine bel_alloc ?_ _ | refine bel_set ?_ (by first | omega | (simp; done) | (simp; omega)) _ | with_reducible refine Below.drew ?_ | with_reducible refine bel_drewN ?_ _ | with_reducible assumption | assumption)))).take k)) HB.out.nil (by simp; omega) (by simp) ?_
                intro A' c' w' hown hg hb
                obtain ⟨x2, rfl⟩ := later_is hb
                simp only [List.nil_append, HTK.out] at hown ⊢
                have HO := Lib.hid hown
                have hbw : Below w.heap.size w x2.val := Below.trans (by exact (by repeat (first | with_reducible exact Below.refl _ _ | with_reducible refine bel_later _ ?_ | with_reducible refine bel_alloc ?_ _ | refine bel_set ?_ (by first | omega | (simp; done) | (simp; omega)) _ | with_reducible refine Below.drew ?_ | with_reducible refine bel_drewN ?_ _ | with_reducible assumption | assumption))) (x2.bel.mono (by omega))
                clear hown hg hb
                have hz_x2 := x2.bel.size
                try simp at hz_x2
                have l_x2_0 : w.heap.size < x2.val.heap.size := by omega
                have m_x2_0 : w.heap.size < x2.val.heap.size + 1 := by omega
                have q_ := x2.bel.cell (p := ⟨w.heap.size, 0, none⟩) (by first | omega | (simp; done) | (simp; omega))
                generalize c_x2_0_0 : x2.val.cell? ⟨w.heap.size, 0, none⟩ = q at q_
                first | (have q2_ : q = some _ := q_; subst q2_) | (simp [go_sem] at q_; have q2_ : q = some _ := q_; subst q2_) | (simp [go_sem, *] at q_; have q2_ : q = some _ := q_; subst q2_)
                have q_ := x2.bel.frozen (p := ⟨w.heap.size, 0, none⟩) (by first | omega | (simp; done) | (simp; omega))
                generalize z_x2_0_0 : x2.val.frozen? ⟨w.heap.size, 0, none⟩ = q at q_
                first | (have q2_ : q = false := q_; subst q2_) | (simp [go_sem] at q_; have q2_ : q = false := q_; subst q2_) | (simp [go_sem, *] at q_; have q2_ : q = false := q_; subst q2_)
                have q_ := x2.bel.cell (p := ⟨w.heap.size, 1, none⟩) (by first | omega | (simp; done) | (simp; omega))
                generalize c_x2_0_1 : x2.val.cell? ⟨w.heap.size, 1, none⟩ = q at q_
                first | (have q2_ : q = some _ := q_; subst q2_) | (simp [go_sem] at q_; have q2_ : q = some _ := q_; subst q2_) | (simp [go_sem, *] at q_; have q2_ : q = some _ := q_; subst q2_)
                have q_ := x2.bel.frozen (p := ⟨w.heap.size, 1, none⟩) (by first | omega | (simp; done) | (simp; omega))
                generalize z_x2_0_1 : x2.val.frozen? ⟨w.heap.size, 1, none⟩ = q at q_
                first | (have q2_ : q = false := q_; subst q2_) | (simp [go_sem] at q_; have q2_ : q = false := q_; subst q2_) | (simp [go_sem, *] at q_; have q2_ : q = false := q_; subst q2_)
                have q_ := x2.bel.cell (p := ⟨w.heap.size, 2, none⟩) (by first | omega | (simp; done) | (simp; omega))
                generalize c_x2_0_2 : x2.val.cell? ⟨w.heap.size, 2, none⟩ = q at q_
                first | (have q2_ : q = some _ := q_; subst q2_) | (simp [go_sem] at q_; have q2_ : q = some _ := q_; subst q2_) | (simp [go_sem, *] at q_; have q2_ : q = some _ := q_; subst q2_)
                have q_ := x2.bel.frozen (p := ⟨w.heap.size, 2, none⟩) (by first | omega | (simp; done) | (simp; omega))
                generalize z_x2_0_2 : x2.val.frozen? ⟨w.heap.size, 2, none⟩ = q at q_
                first | (have q2_ : q = false := q_; subst q2_) | (simp [go_sem] at q_; have q2_ : q = false := q_; subst q2_) | (simp [go_sem, *] at q_; have q2_ : q = false := q_; subst q2_)
                have q_ := x2.bel.cell (p := ⟨w.heap.size, 3, none⟩) (by first | omega | (simp; done) | (simp; omega))
                generalize c_x2_0_3 : x2.val.cell? ⟨w.heap.size, 3, none⟩ = q at q_
                first | (have q2_ : q = some _ := q_; subst q2_) | (simp [go_sem] at q_; have q2_ : q = some _ := q_; subst q2_) | (simp [go_sem, *] at q_; have q2_ : q = some _ := q_; subst q2_)
                have q_ := x2.bel.frozen (p := ⟨w.heap.size, 3, none⟩) (by first | omega | (simp; done) | (simp; omega))
                generalize z_x2_0_3 : x2.val.frozen? ⟨w.heap.size, 3, none⟩ = q at q_
                first | (have q2_ : q = false := q_; subst q2_) | (simp [go_sem] at q_; have q2_ : q = false := q_; subst q2_) | (simp [go_sem, *] at q_; have q2_ : q = false := q_; subst q2_)
                have q_ := x2.bel.cell (p := ⟨w.heap.size, 4, none⟩) (by first | omega | (simp; done) | (simp; omega))
                generalize c_x2_0_4 : x2.val.cell? ⟨w.heap.size, 4, none⟩ = q at q_
                first | (have q2_ : q = some _ := q_; subst q2_) | (simp [go_sem] at q_; have q2_ : q = some _ := q_; subst q2_) | (simp [go_sem, *] at q_; have q2_ : q = some _ := q_; subst q2_)
                have q_ := x2.bel.frozen (p := ⟨w.heap.size, 4, none⟩) (by first | omega | (simp; done) | (simp; omega))
                generalize z_x2_0_4 : x2.val.frozen? ⟨w.heap.size, 4, none⟩ = q at q_
                first | (have q2_ : q = false := q_; subst q2_) | (simp [go_sem] at q_; have q2_ : q = false := q_; subst q2_) | (simp [go_sem, *] at q_; have q2_ : q = false := q_; subst q2_)
                have l_x2_1 : w.heap.size+1 < x2.val.heap.size := by omega
                have m_x2_1 : w.heap.size+1 < x2.val.heap.size + 1 := by omega
                have q_ := x2.bel.cell (p := ⟨w.heap.size+1, 0, none⟩) (by first | omega | (simp; done) | (simp; omega))
                generalize c_x2_1_0 : x2.val.cell? ⟨w.heap.size+1, 0, none⟩ = q at q_
                first | (have q2_ : q = some _ := q_; subst q2_) | (simp [go_sem] at q_; have q2_ : q = some _ := q_; subst q2_) | (simp [go_sem, *] at q_; have q2_ : q = some _ := q_; subst q2_)
                have q_ := x2.bel.frozen (p := ⟨w.heap.size+1, 0, none⟩) (by first | omega | (simp; done) | (simp; omega))
                generalize z_x2_1_0 : x2.val.frozen? ⟨w.heap.size+1, 0, none⟩ = q at q_
                first | (have q2_ : q = false := q_; subst q2_) | (simp [go_sem] at q_; have q2_ : q = false := q_; subst q2_) | (simp [go_sem, *] at q_; have q2_ : q = false := q_; subst q2_)
                have q_ := x2.bel.cell (p := ⟨w.heap.size+1, 1, none⟩) (by first | omega | (simp; done) | (simp; omega))
                generalize c_x2_1_1 : x2.val.cell? ⟨w.heap.size+1, 1, none⟩ = q at q_
                first | (have q2_ : q = some _ := q_; subst q2_) | (simp [go_sem] at q_; have q2_ : q = some _ := q_; subst q2_) | (simp [go_sem, *] at q_; have q2_ : q = some _ := q_; subst q2_)
                have q_ := x2.bel.frozen (p := ⟨w.heap.size+1, 1, none⟩) (by first | omega | (simp; done) | (simp; omega))
                generalize z_x2_1_1 : x2.val.frozen? ⟨w.heap.size+1, 1, none⟩ = q at q_
                first | (have q2_ : q = false := q_; subst q2_) | (simp [go_sem] at q_; have q2_ : q = false := q_; subst q2_) | (simp [go_sem, *] at q_; have q2_ : q = false := q_; subst q2_)
                have q_ := x2.bel.cell (p := ⟨w.heap.size+1, 2, none⟩) (by first | omega | (simp; done) | (simp; omega))
                generalize c_x2_1_2 : x2.val.cell? ⟨w.heap.size+1, 2, none⟩ = q at q_
                first | (have q2_ : q = some _ := q_; subst q2_) | (simp [go_sem] at q_; have q2_ : q = some _ := q_; subst q2_) | (simp [go_sem, *] at q_; have q2_ : q = some _ := q_; subst q2_)
                have q_ := x2.bel.frozen (p := ⟨w.heap.size+1, 2, none⟩) (by first | omega | (simp; done) | (simp; omega))
                generalize z_x2_1_2 : x2.val.frozen? ⟨w.heap.size+1, 2, none⟩ = q at q_
                first | (have q2_ : q = false := q_; subst q2_) | (simp [go_sem] at q_; have q2_ : q = false := q_; subst q2_) | (simp [go_sem, *] at q_; have q2_ : q = false := q_; subst q2_)
                have q_ := x2.bel.cell (p := ⟨w.heap.size+1, 3, none⟩) (by first | omega | (simp; done) | (simp; omega))
                generalize c_x2_1_3 : x2.val.cell? ⟨w.heap.size+1, 3, none⟩ = q at q_
                first | (have q2_ : q = some _ := q_; subst q2_) | (simp [go_sem] at q_; have q2_ : q = some _ := q_; subst q2_) | (simp [go_sem, *] at q_; have q2_ : q = some _ := q_; subst q2_)
                have q_ := x2.bel.frozen (p := ⟨w.heap.size+1, 3, none⟩) (by first | omega | (simp; done) | (simp; omega))
                generalize z_x2_1_3 : x2.val.frozen? ⟨w.heap.size+1, 3, none⟩ = q at q_
                first | (have q2_ : q = false := q_; subst q2_) | (simp [go_sem] at q_; have q2_ : q = false := q_; subst q2_) | (simp [go_sem, *] at q_; have q2_ : q = false := q_; subst q2_)
                have q_ := x2.bel.cell (p := ⟨w.heap.size+1, 4, none⟩) (by first | omega | (simp; done) | (simp; omega))
                generalize c_x2_1_4 : x2.val.cell? ⟨w.heap.size+1, 4, none⟩ = q at q_
                first | (have q2_ : q = some _ := q_; subst q2_) | (simp [go_sem] at q_; have q2_ : q = some _ := q_; subst q2_) | (simp [go_sem, *] at q_; have q2_ : q = some _ := q_; subst q2_)
                have q_ := x2.bel.frozen (p := ⟨w.heap.size+1, 4, none⟩) (by first | omega | (simp; done) | (simp; omega))
                generalize z_x2_1_4 : x2.val.frozen? ⟨w.heap.size+1, 4, none⟩ = q at q_
                first | (have q2_ : q = false := q_; subst q2_) | (simp [go_sem] at q_; have q2_ : q = false := q_; subst q2_) | (simp [go_sem, *] at q_; have q2_ : q = false := q_; subst q2_)
                have l_x2_2 : x1.val.heap.size < x2.val.heap.size := by omega
                have m_x2_2 : x1.val.heap.size < x2.val.heap.size + 1 := by omega
                have q_ := x2.bel.cell (p := ⟨x1.val.heap.size, 0, none⟩) (by first | omega | (simp; done) | (simp; omega))
                generalize c_x2_2_0 : x2.val.cell? ⟨x1.val.heap.size, 0, none⟩ = q at q_
                first | (have q2_ : q = some _ := q_; subst q2_) | (simp [go_sem] at q_; have q2_ : q = some _ := q_; subst q2_) | (simp [go_sem, *] at q_; have q2_ : q = some _ := q_; subst q2_)
                have q_ := x2.bel.frozen (p := ⟨x1.val.heap.size, 0, none⟩) (by first | omega | (simp; done) | (simp; omega))
                generalize z_x2_2_0 : x2.val.frozen? ⟨x1.val.heap.size, 0, none⟩ = q at q_
                first | (have q2_ : q = false := q_; subst q2_) | (simp [go_sem] at q_; have q2_ : q = false := q_; subst q2_) | (simp [go_sem, *] at q_; have q2_ : q = false := q_; subst q2_)
                have q_ := x2.bel.cell (p := ⟨x1.val.heap.size, 1, none⟩) (by first | omega | (simp; done) | (simp; omega))
                generalize c_x2_2_1 : x2.val.cell? ⟨x1.val.heap.size, 1, none⟩ = q at q_
                first | (have q2_ : q = some _ := q_; subst q2_) | (simp [go_sem] at q_; have q2_ : q = some _ := q_; subst q2_) | (simp [go_sem, *] at q_; have q2_ : q = some _ := q_; subst q2_)
                have q_ := x2.bel.frozen (p := ⟨x1.val.heap.size, 1, none⟩) (by first | omega | (simp; done) | (simp; omega))
                generalize z_x2_2_1 : x2.val.frozen? ⟨x1.val.heap.size, 1, none⟩ = q at q_
                first | (have q2_ : q = false := q_; subst q2_) | (simp [go_sem] at q_; have q2_ : q = false := q_; subst q2_) | (simp [go_sem, *] at q_; have q2_ : q = false := q_; subst q2_)
                have q_ := x2.bel.cell (p := ⟨x1.val.heap.size, 2, none⟩) (by first | omega | (simp; done) | (simp; omega))
                generalize c_x2_2_2 : x2.val.cell? ⟨x1.val.heap.size, 2, none⟩ = q at q_
                first | (have q2_ : q = some _ := q_; subst q2_) | (simp [go_sem] at q_; have q2_ : q = some _ := q_; subst q2_) | (simp [go_sem, *] at q_; have q2_ : q = some _ := q_; subst q2_)
                have q_ := x2.bel.frozen (p := ⟨x1.val.heap.size, 2, none⟩) (by first | omega | (simp; done) | (simp; omega))
                generalize z_x2_2_2 : x2.val.frozen? ⟨x1.val.heap.size, 2, none⟩ = q at q_
                first | (have q2_ : q = false := q_; subst q2_) | (simp [go_sem] at q_; have q2_ : q = false := q_; subst q2_) | (simp [go_sem, *] at q_; have q2_ : q = false := q_; subst q2_)
                have q_ := x2.bel.cell (p := ⟨x1.val.heap.size, 3, none⟩) (by first | omega | (simp; done) | (simp; omega))
                generalize c_x2_2_3 : x2.val.cell? ⟨x1.val.heap.size, 3, none⟩ = q at q_
                first | (have q2_ : q = some _ := q_; subst q2_) | (simp [go_sem] at q_; have q2_ : q = some _ := q_; subst q2_) | (simp [go_sem, *] at q_; have q2_ : q = some _ := q_; subst q2_)
                have q_ := x2.bel.frozen (p := ⟨x1.val.heap.size, 3, none⟩) (by first | omega | (simp; done) | (simp; omega))
                generalize z_x2_2_3 : x2.val.frozen? ⟨x1.val.heap.size, 3, none⟩ = q at q_
                first | (have q2_ : q = false := q_; subst q2_) | (simp [go_sem] at q_; have q2_ : q = false := q_; subst q2_) | (simp [go_sem, *] at q_; have q2_ : q = false := q_; subst q2_)
                have q_ := x2.bel.cell (p := ⟨x1.val.heap.size, 4, none⟩) (by first | omega | (simp; done) | (simp; omega))
                generalize c_x2_2_4 : x2.val.cell? ⟨x1.val.heap.size, 4, none⟩ = q at q_
                first | (have q2_ : q = some _ := q_; subst q2_) | (simp [go_sem] at q_; have q2_ : q = some _ := q_; subst q2_) | (simp [go_sem, *] at q_; have q2_ : q = some _ := q_; subst q2_)
                have q_ := x2.bel.frozen (p := ⟨x1.val.heap.size, 4, none⟩) (by first | omega | (simp; done) | (simp; omega))
                generalize z_x2_2_4 : x2.val.frozen? ⟨x1.val.heap.size, 4, none⟩ = q at q_
                first | (have q2_ : q = false := q_; subst q2_) | (simp [go_sem] at q_; have q2_ : q = false := q_; subst q2_) | (simp [go_sem, *] at q_; have q2_ : q = false := q_; subst q2_)
                skip))
              refine bodyPost_ret (v := .tuple #[.agg #[.int .i64 (room1 : Int), .int .i64 (k : Int), .int .i64 zl1, .slice A' k c', .bool off1], .int .i64 0]) (by simp [results, Try.results34, go_sem, *]) rfl (RdP.own (A' := A') (c' := c') (base := x1.val.heap.size + 1) (by simp [Dk.R, HTK.out, HZ1.out, hmin.out]) HTK.out (by repeat (first | with_reducible exact HO.out | refine own_set ?_ (by omega) | refine own_below ?_ (bel_alloc (Below.refl _ _) _))) (by omega) (by repeat (first | with_reducible exact Below.refl _ _ | with_reducible refine bel_later _ ?_ | with_reducible refine bel_alloc ?_ _ | refine bel_set ?_ (by first | omega | (simp; done) | (simp; omega)) _ | with_reducible refine Below.drew ?_ | with_reducible refine bel_drewN ?_ _ | with_reducible assumption | assumption)))
            · go_enter Try.func34, Try.ntmps34
              go_wp2_with fail
              refine (ks.out _).mono ?_
              rintro e_x1 w_x1 ⟨rfl, hb_x1⟩
              obtain ⟨x1, rfl⟩ := later_is hb_x1
              clear hb_x1
              have hz_x1 := x1.bel.size
              try simp at hz_x1
              have l_x1_0 : w.heap.size < x1.val.heap.size := by omega
              have m_x1_0 : w.heap.size < x1.val.heap.size + 1 := by omega
              have q_ := x1.bel.cell (p := ⟨w.heap.size, 0, none⟩) (by first | omega | (simp; done) | (simp; omega))
              generalize c_x1_0_0 : x1.val.cell? ⟨w.heap.size, 0, none⟩ = q at q_
              first | (have q2_ : q = some _ := q_; subst q2_) | (simp [go_sem] at q_; have q2_ : q = some _ := q_; subst q2_) | (simp [go_sem, *] at q_; have q2_ : q = some _ := q_; subst q2_)
              have q_ := x1.bel.frozen (p := ⟨w.heap.size, 0, none⟩) (by first | omega | (simp; done) | (simp; omega))
              generalize z_x1_0_0 : x1.val.frozen? ⟨w.heap.size, 0, none⟩ = q at q_
              first | (have q2_ : q = false := q_; subst q2_) | (simp [go_sem] at q_; have q2_ : q = false := q_; subst q2_) | (simp [go_sem, *] at q_; have q2_ : q = false := q_; subst q2_)
              have q_ := x1.bel.cell (p := ⟨w.heap.size, 1, none⟩) (by first | omega | (simp; done) | (simp; omega))
              generalize c_x1_0_1 : x1.val.cell? ⟨w.heap.size, 1, none⟩ = q at q_
              first | (have q2_ : q = some _ := q_; subst q2_) | (simp [go_sem] at q_; have q2_ : q = some _ := q_; subst q2_) | (simp [go_sem, *] at q_; have q2_ : q = some _ := q_; subst q2_)
              have q_ := x1.bel.frozen (p := ⟨w.heap.size, 1, none⟩) (by first | omega | (simp; done) | (simp; omega))
              generalize z_x1_0_1 : x1.val.frozen? ⟨w.heap.size, 1, none⟩ = q at q_
              first | (have q2_ : q = false := q_; subst q2_) | (simp [go_sem] at q_; have q2_ : q = false := q_; subst q2_) | (simp [go_sem, *] at q_; have q2_ : q = false := q_; subst q2_)
              have q_ := x1.bel.cell (p := ⟨w.heap.size, 2, none⟩) (by first | omega | (simp; done) | (simp; omega))
              generalize c_x1_0_2 : x1.val.cell? ⟨w.heap.size, 2, none⟩ = q at q_
              first | (have q2_ : q = some _ := q_; subst q2_) | (simp [go_sem] at q_; have q2_ : q = some _ := q_; subst q2_) | (simp [go_sem, *] at q_; have q2_ : q = some _ := q_; subst q2_)
              have q_ := x1.bel.frozen (p := ⟨w.heap.size, 2, none⟩) (by first | omega | (simp; done) | (simp; omega))
              generalize z_x1_0_2 : x1.val.frozen? ⟨w.heap.size, 2, none⟩ = q at q_
              first | (have q2_ : q = false := q_; subst q2_) | (simp [go_sem] at q_; have q2_ : q = false := q_; subst q2_) | (simp [go_sem, *] at q_; have q2_ : q = false := q_; subst q2_)
              have q_ := x1.bel.cell (p := ⟨w.heap.size, 3, none⟩) (by first | omega | (simp; done) | (simp; omega))
              generalize c_x1_0_3 : x1.val.cell? ⟨w.heap.size, 3, none⟩ = q at q_
              first | (have q2_ : q = some _ := q_; subst q2_) | (simp [go_sem] at q_; have q2_ : q = some _ := q_; subst q2_) | (simp [go_sem, *] at q_; have q2_ : q = some _ := q_; subst q2_)
              have q_ := x1.bel.frozen (p := ⟨w.heap.size, 3, none⟩) (by first | omega | (simp; done) | (simp; omega))
              generalize z_x1_0_3 : x1.val.frozen? ⟨w.heap.size, 3, none⟩ = q at q_
              first | (have q2_ : q = false := q_; subst q2_) | (simp [go_sem] at q_; have q2_ : q = false := q_; subst q2_) | (simp [go_sem, *] at q_; have q2_ : q = false := q_; subst q2_)
              have q_ := x1.bel.cell (p := ⟨w.heap.size, 4, none⟩) (by first | omega | (simp; done) | (simp; omega))
              generalize c_x1_0_4 : x1.val.cell? ⟨w.heap.size, 4, none⟩ = q at q_
              first | (have q2_ : q = some _ := q_; subst q2_) | (simp [go_sem] at q_; have q2_ : q = some _ := q_; subst q2_) | (simp [go_sem, *] at q_; have q2_ : q = some _ := q_; subst q2_)
              have q_ := x1.bel.frozen (p := ⟨w.heap.size, 4, none⟩) (by first | omega | (simp; done) | (simp; omega))
              generalize z_x1_0_4 : x1.val.frozen? ⟨w.heap.size, 4, none⟩ = q at q_
              first | (have q2_ : q = false := q_; subst q2_) | (simp [go_sem] at q_; have q2_ : q = false := q_; subst q2_) | (simp [go_sem, *] at q_; have q2_ : q = false := q_; subst q2_)
              have l_x1_1 : w.heap.size+1 < x1.val.heap.size := by omega
              have m_x1_1 : w.heap.size+1 < x1.val.heap.size + 1 := by omega
              have q_ := x1.bel.cell (p := ⟨w.heap.size+1, 0, none⟩) (by first | omega | (simp; done) | (simp; omega))
              generalize c_x1_1_0 : x1.val.cell? ⟨w.heap.size+1, 0, none⟩ = q at q_
              first | (have q2_ : q = some _ := q_; subst q2_) | (simp [go_sem] at q_; have q2_ : q = some _ := q_; subst q2_) | (simp [go_sem, *] at q_; have q2_ : q = some _ := q_; subst q2_)
              have q_ := x1.bel.frozen (p := ⟨w.heap.size+1, 0, none⟩) (by first | omega | (simp; done) | (simp; omega))
              generalize z_x1_1_0 : x1.val.frozen? ⟨w.heap.size+1, 0, none⟩ = q at q_
              first | (have q2_ : q = false := q_; subst q2_) | (simp [go_sem] at q_; have q2_ : q = false := q_; subst q2_) | (simp [go_sem, *] at q_; have q2_ : q = false := q_; subst q2_)
              have q_ := x1.bel.cell (p := ⟨w.heap.size+1, 1, none⟩) (by first | omega | (simp; done) | (simp; omega))
              generalize c_x1_1_1 : x1.val.cell? ⟨w.heap.size+1, 1, none⟩ = q at q_
              first | (have q2_ : q = some _ := q_; subst q2_) | (simp [go_sem] at q_; have q2_ : q = some _ := q_; subst q2_) | (simp [go_sem, *] at q_; have q2_ : q = some _ := q_; subst q2_)
              have q_ := x1.bel.frozen (p := ⟨w.heap.size+1, 1, none⟩) (by first | omega | (simp; done) | (simp; omega))
              generalize z_x1_1_1 : x1.val.frozen? ⟨w.heap.size+1, 1, none⟩ = q at q_
              first | (have q2_ : q = false := q_; subst q2_) | (simp [go_sem] at q_; have q2_ : q = false := q_; subst q2_) | (simp [go_sem, *] at q_; have q2_ : q = false := q_; subst q2_)
              have q_ := x1.bel.cell (p := ⟨w.heap.size+1, 2, none⟩) (by first | omega | (simp; done) | (simp; omega))
              generalize c_x1_1_2 : x1.val.cell? ⟨w.heap.size+1, 2, none⟩ = q at q_
              first | (have q2_ : q = some _ := q_; subst q2_) | (simp [go_sem] at q_; have q2_ : q = some _ := q_; subst q2_) | (simp [go_sem, *] at q_; have q2_ : q = some _ := q_; subst q2_)
              have q_ := x1.bel.frozen (p := ⟨w.heap.size+1, 2, none⟩) (by first | omega | (simp; done) | (simp; omega))
              generalize z_x1_1_2 : x1.val.frozen? ⟨w.heap.size+1, 2, none⟩ = q at q_
              first | (have q2_ : q = false := q_; subst q2_) | (simp [go_sem] at q_; have q2_ : q = false := q_; subst q2_) | (simp [go_sem, *] at q_; have q2_ : q = false := q_; subst q2_)
              have q_ := x1.bel.cell (p := ⟨w.heap.size+1, 3, none⟩) (by first | omega | (simp; done) | (simp; omega))
              generalize c_x1_1_3 : x1.val.cell? ⟨w.heap.size+1, 3, none⟩ = q at q_
              first | (have q2_ : q = some _ := q_; subst q2_) | (simp [go_sem] at q_; have q2_ : q = some _ := q_; subst q2_) | (simp [go_sem, *] at q_; have q2_ : q = some _ := q_; subst q2_)
              have q_ := x1.bel.frozen (p := ⟨w.heap.size+1, 3, none⟩) (by first | omega | (simp; done) | (simp; omega))
              generalize z_x1_1_3 : x1.val.frozen? ⟨w.heap.size+1, 3, none⟩ = q at q_
              first | (have q2_ : q = false := q_; subst q2_) | (simp [go_sem] at q_; have q2_ : q = false := q_; subst q2_) | (simp [go_sem, *] at q_; have q2_ : q = false := q_; subst q2_)
              have q_ := x1.bel.cell (p := ⟨w.heap.size+1, 4, none⟩) (by first | omega | (simp; done) | (simp; omega))
              generalize c_x1_1_4 : x1.val.cell? ⟨w.heap.size+1, 4, none⟩ = q at q_
              first | (have q2_ : q = some _ := q_; subst q2_) | (simp [go_sem] at q_; have q2_ : q = some _ := q_; subst q2_) | (simp [go_sem, *] at q_; have q2_ : q = some _ := q_; subst q2_)
              have q_ := x1.bel.frozen (p := ⟨w.heap.size+1, 4, none⟩) (by first | omega | (simp; done) | (simp; omega))
              generalize z_x1_1_4 : x1.val.frozen? ⟨w.heap.size+1, 4, none⟩ = q at q_
              first | (have q2_ : q = false := q_; subst q2_) | (simp [go_sem] at q_; have q2_ : q = false := q_; subst q2_) | (simp [go_sem, *] at q_; have q2_ : q = false := q_; subst q2_)
              go_wp2_with (
                at_builtin
                go_loud (
                refine wpList_append_sq (f := byw) _ rfl _ _ 22 rfl (fun _ => rfl) (x1.val.heap.size + 1) 5 i0 _ _ Try.underlying22 hi hz0 rfl hz1 hz2 (by decide) _ [] rfl (own_sq_empty byw _ _ _ _ (by simp) (by simp)) w.heap.size _ (l1.take k) c k HTK.out rfl (((HB.out.sq.below (B := w.heap.size) (by exact (by repeat (first | with_reducible exact Below.refl _ _ | with_reducible refine bel_later _ ?_ | with_reducible refine bel_alloc ?_ _ | refine bel_set ?_ (by first | omega | (simp; done) | (simp; omega)) _ | with_reducible refine Below.drew ?_ | with_reducible refine bel_drewN ?_ _ | with_reducible assumption | assumption)))).take k)) HB.out.nil (by simp; omega) (by simp) ?_
                intro A' c' w' hown hg hb
                obtain ⟨x2, rfl⟩ := later_is hb
                simp only [List.nil_append, HTK.out] at hown ⊢
                have HO := Lib.hid hown
                have hbw : Below w.heap.size w x2.val := Below.trans (by exact (by repeat (first | with_reducible exact Below.refl _ _ | with_reducible refine bel_later _ ?_ | with_reducible refine bel_alloc ?_ _ | refine bel_set ?_ (by first | omega | (simp; done) | (simp; omega)) _ | with_reducible refine Below.drew ?_ | with_reducible refine bel_drewN ?_ _ | with_reducible assumption | assumption))) (x2.bel.mono (by omega))
                clear hown hg hb
                have hz_x2 := x2.bel.size
                try simp at hz_x2
                have l_x2_0 : w.heap.size < x2.val.heap.size := by omega
                have m_x2_0 : w.heap.size < x2.val.heap.size + 1 := by omega
                have q_ := x2.bel.cell (p := ⟨w.heap.size, 0, none⟩) (by first | omega | (simp; done) | (simp; omega))
                generalize c_x2_0_0 : x2.val.cell? ⟨w.heap.size, 0, none⟩ = q at q_
                first | (have q2_ : q = some _ := q_; subst q2_) | (simp [go_sem] at q_; have q2_ : q = some _ := q_; subst q2_) | (simp [go_sem, *] at q_; have q2_ : q = some _ := q_; subst q2_)
                have q_ := x2.bel.frozen (p := ⟨w.heap.size, 0, none⟩) (by first | omega | (simp; done) | (simp; omega))
                generalize z_x2_0_0 : x2.val.frozen? ⟨w.heap.size, 0, none⟩ = q at q_
                first | (have q2_ : q = false := q_; subst q2_) | (simp [go_sem] at q_; have q2_ : q = false := q_; subst q2_) | (simp [go_sem, *] at q_; have q2_ : q = false := q_; subst q2_)
                have q_ := x2.bel.cell (p := ⟨w.heap.size, 1, none⟩) (by first | omega | (simp; done) | (simp; omega))
                generalize c_x2_0_1 : x2.val.cell? ⟨w.heap.size, 1, none⟩ = q at q_
                first | (have q2_ : q = some _ := q_; subst q2_) | (simp [go_sem] at q_; have q2_ : q = some _ := q_; subst q2_) | (simp [go_sem, *] at q_; have q2_ : q = some _ := q_; subst q2_)
                have q_ := x2.bel.frozen (p := ⟨w.heap.size, 1, none⟩) (by first | omega | (simp; done) | (simp; omega))
                generalize z_x2_0_1 : x2.val.frozen? ⟨w.heap.size, 1, none⟩ = q at q_
                first | (have q2_ : q = false := q_; subst q2_) | (simp [go_sem] at q_; have q2_ : q = false := q_; subst q2_) | (simp [go_sem, *] at q_; have q2_ : q = false := q_; subst q2_)
                have q_ := x2.bel.cell (p := ⟨w.heap.size, 2, none⟩) (by first | omega | (simp; done) | (simp; omega))
                generalize c_x2_0_2 : x2.val.cell? ⟨w.heap.size, 2, none⟩ = q at q_
                first | (have q2_ : q = some _ := q_; subst q2_) | (simp [go_sem] at q_; have q2_ : q = some _ := q_; subst q2_) | (simp [go_sem, *] at q_; have q2_ : q = some _ := q_; subst q2_)
                have q_ := x2.bel.frozen (p := ⟨w.heap.size, 2, none⟩) (by first | omega | (simp; done) | (simp; omega))
                generalize z_x2_0_2 : x2.val.frozen? ⟨w.heap.size, 2, none⟩ = q at q_
                first | (have q2_ : q = false := q_; subst q2_) | (simp [go_sem] at q_; have q2_ : q = false := q_; subst q2_) | (simp [go_sem, *] at q_; have q2_ : q = false := q_; subst q2_)
                have q_ := x2.bel.cell (p := ⟨w.heap.size, 3, none⟩) (by first | omega | (simp; done) | (simp; omega))
                generalize c_x2_0_3 : x2.val.cell? ⟨w.heap.size, 3, none⟩ = q at q_
                first | (have q2_ : q = some _ := q_; subst q2_) | (simp [go_sem] at q_; have q2_ : q = some _ := q_; subst q2_) | (simp [go_sem, *] at q_; have q2_ : q = some _ := q_; subst q2_)
                have q_ := x2.bel.frozen (p := ⟨w.heap.size, 3, none⟩) (by first | omega | (simp; done) | (simp; omega))
                generalize z_x2_0_3 : x2.val.frozen? ⟨w.heap.size, 3, none⟩ = q at q_
                first | (have q2_ : q = false := q_; subst q2_) | (simp [go_sem] at q_; have q2_ : q = false := q_; subst q2_) | (simp [go_sem, *] at q_; have q2_ : q = false := q_; subst q2_)
                have q_ := x2.bel.cell (p := ⟨w.heap.size, 4, none⟩) (by first | omega | (simp; done) | (simp; omega))
                generalize c_x2_0_4 : x2.val.cell? ⟨w.heap.size, 4, none⟩ = q at q_
                first | (have q2_ : q = some _ := q_; subst q2_) | (simp [go_sem] at q_; have q2_ : q = some _ := q_; subst q2_) | (simp [go_sem, *] at q_; have q2_ : q = some _ := q_; subst q2_)
                have q_ := x2.bel.frozen (p := ⟨w.heap.size, 4, none⟩) (by first | omega | (simp; done) | (simp; omega))
                generalize z_x2_0_4 : x2.val.frozen? ⟨w.heap.size, 4, none⟩ = q at q_
                first | (have q2_ : q = false := q_; subst q2_) | (simp [go_sem] at q_; have q2_ : q = false := q_; subst q2_) | (simp [go_sem, *] at q_; have q2_ : q = false := q_; subst q2_)
                have l_x2_1 : w.heap.size+1 < x2.val.heap.size := by omega
                have m_x2_1 : w.heap.size+1 < x2.val.heap.size + 1 := by omega
                have q_ := x2.bel.cell (p := ⟨w.heap.size+1, 0, none⟩) (by first | omega | (simp; done) | (simp; omega))
                generalize c_x2_1_0 : x2.val.cell? ⟨w.heap.size+1, 0, none⟩ = q at q_
                first | (have q2_ : q = some _ := q_; subst q2_) | (simp [go_sem] at q_; have q2_ : q = some _ := q_; subst q2_) | (simp [go_sem, *] at q_; have q2_ : q = some _ := q_; subst q2_)
                have q_ := x2.bel.frozen (p := ⟨w.heap.size+1, 0, none⟩) (by first | omega | (simp; done) | (simp; omega))
                generalize z_x2_1_0 : x2.val.frozen? ⟨w.heap.size+1, 0, none⟩ = q at q_
                first | (have q2_ : q = false := q_; subst q2_) | (simp [go_sem] at q_; have q2_ : q = false := q_; subst q2_) | (simp [go_sem, *] at q_; have q2_ : q = false := q_; subst q2_)
                have q_ := x2.bel.cell (p := ⟨w.heap.size+1, 1, none⟩) (by first | omega | (simp; done) | (simp; omega))
                generalize c_x2_1_1 : x2.val.cell? ⟨w.heap.size+1, 1, none⟩ = q at q_
                first | (have q2_ : q = some _ := q_; subst q2_) | (simp [go_sem] at q_; have q2_ : q = some _ := q_; subst q2_) | (simp [go_sem, *] at q_; have q2_ : q = some _ := q_; subst q2_)
                have q_ := x2.bel.frozen (p := ⟨w.heap.size+1, 1, none⟩) (by first | omega | (simp; done) | (simp; omega))
                generalize z_x2_1_1 : x2.val.frozen? ⟨w.heap.size+1, 1, none⟩ = q at q_
                first | (have q2_ : q = false := q_; subst q2_) | (simp [go_sem] at q_; have q2_ : q = false := q_; subst q2_) | (simp [go_sem, *] at q_; have q2_ : q = false := q_; subst q2_)
                have q_ := x2.bel.cell (p := ⟨w.heap.size+1, 2, none⟩) (by first | omega | (simp; done) | (simp; omega))
                generalize c_x2_1_2 : x2.val.cell? ⟨w.heap.size+1, 2, none⟩ = q at q_
                first | (have q2_ : q = some _ := q_; subst q2_) | (simp [go_sem] at q_; have q2_ : q = some _ := q_; subst q2_) | (simp [go_sem, *] at q_; have q2_ : q = some _ := q_; subst q2_)
                have q_ := x2.bel.frozen (p := ⟨w.heap.size+1, 2, none⟩) (by first | omega | (simp; done) | (simp; omega))
                generalize z_x2_1_2 : x2.val.frozen? ⟨w.heap.size+1, 2, none⟩ = q at q_
                first | (have q2_ : q = false := q_; subst q2_) | (simp [go_sem] at q_; have q2_ : q = false := q_; subst q2_) | (simp [go_sem, *] at q_; have q2_ : q = false := q_; subst q2_)
                have q_ := x2.bel.cell (p := ⟨w.heap.size+1, 3, none⟩) (by first | omega | (simp; done) | (simp; omega))
                generalize c_x2_1_3 : x2.val.cell? ⟨w.heap.size+1, 3, none⟩ = q at q_
                first | (have q2_ : q = some _ := q_; subst q2_) | (simp [go_sem] at q_; have q2_ : q = some _ := q_; subst q2_) | (simp [go_sem, *] at q_; have q2_ : q = some _ := q_; subst q2_)
                have q_ := x2.bel.frozen (p := ⟨w.heap.size+1, 3, none⟩) (by first | omega | (simp; done) | (simp; omega))
                generalize z_x2_1_3 : x2.val.frozen? ⟨w.heap.size+1, 3, none⟩ = q at q_
                first | (have q2_ : q = false := q_; subst q2_) | (simp [go_sem] at q_; have q2_ : q = false := q_; subst q2_) | (simp [go_sem, *] at q_; have q2_ : q = false := q_; subst q2_)
                have q_ := x2.bel.cell (p := ⟨w.heap.size+1, 4, none⟩) (by first | omega | (simp; done) | (simp; omega))
                generalize c_x2_1_4 : x2.val.cell? ⟨w.heap.size+1, 4, none⟩ = q at q_
                first | (have q2_ : q = some _ := q_; subst q2_) | (simp [go_sem] at q_; have q2_ : q = some _ := q_; subst q2_) | (simp [go_sem, *] at q_; have q2_ : q = some _ := q_; subst q2_)
                have q_ := x2.bel.frozen (p := ⟨w.heap.size+1, 4, none⟩) (by first | omega | (simp; done) | (simp; omega))
                generalize z_x2_1_4 : x2.val.frozen? ⟨w.heap.size+1, 4, none⟩ = q at q_
                first | (have q2_ : q = false := q_; subst q2_) | (simp [go_sem] at q_; have q2_ : q = false := q_; subst q2_) | (simp [go_sem, *] at q_; have q2_ : q = false := q_; subst q2_)
                have l_x2_2 : x1.val.heap.size < x2.val.heap.size := by omega
                have m_x2_2 : x1.val.heap.size < x2.val.heap.size + 1 := by omega
                have q_ := x2.bel.cell (p := ⟨x1.val.heap.size, 0, none⟩) (by first | omega | (simp; done) | (simp; omega))
                generalize c_x2_2_0 : x2.val.cell? ⟨x1.val.heap.size, 0, none⟩ = q at q_
                first | (have q2_ : q = some _ := q_; subst q2_) | (simp [go_sem] at q_; have q2_ : q = some _ := q_; subst q2_) | (simp [go_sem, *] at q_; have q2_ : q = some _ := q_; subst q2_)
                have q_ := x2.bel.frozen (p := ⟨x1.val.heap.size, 0, none⟩) (by first | omega | (simp; done) | (simp; omega))
                generalize z_x2_2_0 : x2.val.frozen? ⟨x1.val.heap.size, 0, none⟩ = q at q_
                first | (have q2_ : q = false := q_; subst q2_) | (simp [go_sem] at q_; have q2_ : q = false := q_; subst q2_) | (simp [go_sem, *] at q_; have q2_ : q = false := q_; subst q2_)
                have q_ := x2.bel.cell (p := ⟨x1.val.heap.size, 1, none⟩) (by first | omega | (simp; done) | (simp; omega))
                generalize c_x2_2_1 : x2.val.cell? ⟨x1.val.heap.size, 1, none⟩ = q at q_
                first | (have q2_ : q = some _ := q_; subst q2_) | (simp [go_sem] at q_; have q2_ : q = some _ := q_; subst q2_) | (simp [go_sem, *] at q_; have q2_ : q = some _ := q_; subst q2_)
                have q_ := x2.bel.frozen (p := ⟨x1.val.heap.size, 1, none⟩) (by first | omega | (simp; done) | (simp; omega))
                generalize z_x2_2_1 : x2.val.frozen? ⟨x1.val.heap.size, 1, none⟩ = q at q_
                first | (have q2_ : q = false := q_; subst q2_) | (simp [go_sem] at q_; have q2_ : q = false := q_; subst q2_) | (simp [go_sem, *] at q_; have q2_ : q = false := q_; subst q2_)
                have q_ := x2.bel.cell (p := ⟨x1.val.heap.size, 2, none⟩) (by first | omega | (simp; done) | (simp; omega))
                generalize c_x2_2_2 : x2.val.cell? ⟨x1.val.heap.size, 2, none⟩ = q at q_
                first | (have q2_ : q = some _ := q_; subst q2_) | (simp [go_sem] at q_; have q2_ : q = some _ := q_; subst q2_) | (simp [go_sem, *] at q_; have q2_ : q = some _ := q_; subst q2_)
                have q_ := x2.bel.frozen (p := ⟨x1.val.heap.size, 2, none⟩) (by first | omega | (simp; done) | (simp; omega))
                generalize z_x2_2_2 : x2.val.frozen? ⟨x1.val.heap.size, 2, none⟩ = q at q_
                first | (have q2_ : q = false := q_; subst q2_) | (simp [go_sem] at q_; have q2_ : q = false := q_; subst q2_) | (simp [go_sem, *] at q_; have q2_ : q = false := q_; subst q2_)
                have q_ := x2.bel.cell (p := ⟨x1.val.heap.size, 3, none⟩) (by first | omega | (simp; done) | (simp; omega))
                generalize c_x2_2_3 : x2.val.cell? ⟨x1.val.heap.size, 3, none⟩ = q at q_
                first | (have q2_ : q = some _ := q_; subst q2_) | (simp [go_sem] at q_; have q2_ : q = some _ := q_; subst q2_) | (simp [go_sem, *] at q_; have q2_ : q = some _ := q_; subst q2_)
                have q_ := x2.bel.frozen (p := ⟨x1.val.heap.size, 3, none⟩) (by first | omega | (simp; done) | (simp; omega))
                generalize z_x2_2_3 : x2.val.frozen? ⟨x1.val.heap.size, 3, none⟩ = q at q_
                first | (have q2_ : q = false := q_; subst q2_) | (simp [go_sem] at q_; have q2_ : q = false := q_; subst q2_) | (simp [go_sem, *] at q_; have q2_ : q = false := q_; subst q2_)
                have q_ := x2.bel.cell (p := ⟨x1.val.heap.size, 4, none⟩) (by first | omega | (simp; done) | (simp; omega))
                generalize c_x2_2_4 : x2.val.cell? ⟨x1.val.heap.size, 4, none⟩ = q at q_
                first | (have q2_ : q = some _ := q_; subst q2_) | (simp [go_sem] at q_; have q2_ : q = some _ := q_; subst q2_) | (simp [go_sem, *] at q_; have q2_ : q = some _ := q_; subst q2_)
                have q_ := x2.bel.frozen (p := ⟨x1.val.heap.size, 4, none⟩) (by first | omega | (simp; done) | (simp; omega))
                generalize z_x2_2_4 : x2.val.frozen? ⟨x1.val.heap.size, 4, none⟩ = q at q_
                first | (have q2_ : q = false := q_; subst q2_) | (simp [go_sem] at q_; have q2_ : q = false := q_; subst q2_) | (simp [go_sem, *] at q_; have q2_ : q = false := q_; subst q2_)
                skip))
              refine bodyPost_ret (v := .tuple #[.agg #[.int .i64 (room1 : Int), .int .i64 (k : Int), .int .i64 zl1, .slice A' k c', .bool off1], .int .i64 0]) (by simp [results, Try.results34, go_sem, *]) rfl (RdP.own (A' := A') (c' := c') (base := x1.val.heap.size + 1) (by simp [Dk.R, HTK.out, HZ1.out, hmin.out]) HTK.out (by repeat (first | with_reducible exact HO.out | refine own_set ?_ (by omega) | refine own_below ?_ (bel_alloc (Below.refl _ _) _))) (by omega) (by repeat (first | with_reducible exact Below.refl _ _ | with_reducible refine bel_later _ ?_ | with_reducible refine bel_alloc ?_ _ | refine bel_set ?_ (by first | omega | (simp; done) | (simp; omega)) _ | with_reducible refine Below.drew ?_ | with_reducible refine bel_drewN ?_ _ | with_reducible assumption | assumption)))
          · have g3 : decide (k < safe1) = false := decide_eq_false h3
            have hmin : Hid (min safe1 k = safe1) := Lib.hid (by omega)
            cases A
            · go_enter Try.func34, Try.ntmps34
              go_wp2_with fail
              refine (ks.out _).mono ?_
              rintro e_x1 w_x1 ⟨rfl, hb_x1⟩
              obtain ⟨x1, rfl⟩ := later_is hb_x1
              clear hb_x1
              have hz_x1 := x1.bel.size
              try simp at hz_x1
              have l_x1_0 : w.heap.size < x1.val.heap.size := by omega
              have m_x1_0 : w.heap.size < x1.val.heap.size + 1 := by omega
              have q_ := x1.bel.cell (p := ⟨w.heap.size, 0, none⟩) (by first | omega | (simp; done) | (simp; omega))
              generalize c_x1_0_0 : x1.val.cell? ⟨w.heap.size, 0, none⟩ = q at q_
              first | (have q2_ : q = some _ := q_; subst q2_) | (simp [go_sem] at q_; have q2_ : q = some _ := q_; subst q2_) | (simp [go_sem, *] at q_; have q2_ : q = some _ := q_; subst q2_)
              have q_ := x1.bel.frozen (p := ⟨w.heap.size, 0, none⟩) (by first | omega | (simp; done) | (simp; omega))
              generalize z_x1_0_0 : x1.val.frozen? ⟨w.heap.size, 0, none⟩ = q at q_
              first | (have q2_ : q = false := q_; subst q2_) | (simp [go_sem] at q_; have q2_ : q = false := q_; subst q2_) | (simp [go_sem, *] at q_; have q2_ : q = false := q_; subst q2_)
              have q_ := x1.bel.cell (p := ⟨w.heap.size, 1, none⟩) (by first | omega | (simp; done) | (simp; omega))
              generalize c_x1_0_1 : x1.val.cell? ⟨w.heap.size, 1, none⟩ = q at q_
              first | (have q2_ : q = some _ := q_; subst q2_) | (simp [go_sem] at q_; have q2_ : q = some _ := q_; subst q2_) | (simp [go_sem, *] at q_; have q2_ : q = some _ := q_; subst q2_)
              have q_ := x1.bel.frozen (p := ⟨w.heap.size, 1, none⟩) (by first | omega | (simp; done) | (simp; omega))
              generalize z_x1_0_1 : x1.val.frozen? ⟨w.heap.size, 1, none⟩ = q at q_
              first | (have q2_ : q = false := q_; subst q2_) | (simp [go_sem] at q_; have q2_ : q = false := q_; subst q2_) | (simp [go_sem, *] at q_; have q2_ : q = false := q_; subst q2_)
              have q_ := x1.bel.cell (p := ⟨w.heap.size, 2, none⟩) (by first | omega | (simp; done) | (simp; omega))
              generalize c_x1_0_2 : x1.val.cell? ⟨w.heap.size, 2, none⟩ = q at q_
              first | (have q2_ : q = some _ := q_; subst q2_) | (simp [go_sem] at q_; have q2_ : q = some _ := q_; subst q2_) | (simp [go_sem, *] at q_; have q2_ : q = some _ := q_; subst q2_)
              have q_ := x1.bel.frozen (p := ⟨w.heap.size, 2, none⟩) (by first | omega | (simp; done) | (simp; omega))
              generalize z_x1_0_2 : x1.val.frozen? ⟨w.heap.size, 2, none⟩ = q at q_
              first | (have q2_ : q = false := q_; subst q2_) | (simp [go_sem] at q_; have q2_ : q = false := q_; subst q2_) | (simp [go_sem, *] at q_; have q2_ : q = false := q_; subst q2_)
              have q_ := x1.bel.cell (p := ⟨w.heap.size, 3, none⟩) (by first | omega | (simp; done) | (simp; omega))
              generalize c_x1_0_3 : x1.val.cell? ⟨w.heap.size, 3, none⟩ = q at q_
              first | (have q2_ : q = some _ := q_; subst q2_) | (simp [go_sem] at q_; have q2_ : q = some _ := q_; subst q2_) | (simp [go_sem, *] at q_; have q2_ : q = some _ := q_; subst q2_)
              have q_ := x1.bel.frozen (p := ⟨w.heap.size, 3, none⟩) (by first | omega | (simp; done) | (simp; omega))
              generalize z_x1_0_3 : x1.val.frozen? ⟨w.heap.size, 3, none⟩ = q at q_
              first | (have q2_ : q = false := q_; subst q2_) | (simp [go_sem] at q_; have q2_ : q = false := q_; subst q2_) | (simp [go_sem, *] at q_; have q2_ : q = false := q_; subst q2_)
              have q_ := x1.bel.cell (p := ⟨w.heap.size, 4, none⟩) (by first | omega | (simp; done) | (simp; omega))
              generalize c_x1_0_4 : x1.val.cell? ⟨w.heap.size, 4, none⟩ = q at q_
              first | (have q2_ : q = some _ := q_; subst q2_) | (simp [go_sem] at q_; have q2_ : q = some _ := q_; subst q2_) | (simp [go_sem, *] at q_; have q2_ : q = some _ := q_; subst q2_)
              have q_ := x1.bel.frozen (p := ⟨w.heap.size, 4, none⟩) (by first | omega | (simp; done) | (simp; omega))
              generalize z_x1_0_4 : x1.val.frozen? ⟨w.heap.size, 4, none⟩ = q at q_
              first | (have q2_ : q = false := q_; subst q2_) | (simp [go_sem] at q_; have q2_ : q = false := q_; subst q2_) | (simp [go_sem, *] at q_; have q2_ : q = false := q_; subst q2_)
              have l_x1_1 : w.heap.size+1 < x1.val.heap.size := by omega
              have m_x1_1 : w.heap.size+1 < x1.val.heap.size + 1 := by omega
              have q_ := x1.bel.cell (p := ⟨w.heap.size+1, 0, none⟩) (by first | omega | (simp; done) | (simp; omega))
              generalize c_x1_1_0 : x1.val.cell? ⟨w.heap.size+1, 0, none⟩ = q at q_
              first | (have q2_ : q = some _ := q_; subst q2_) | (simp [go_sem] at q_; have q2_ : q = some _ := q_; subst q2_) | (simp [go_sem, *] at q_; have q2_ : q = some _ := q_; subst q2_)
              have q_ := x1.bel.frozen (p := ⟨w.heap.size+1, 0, none⟩) (by first | omega | (simp; done) | (simp; omega))
              generalize z_x1_1_0 : x1.val.frozen? ⟨w.heap.size+1, 0, none⟩ = q at q_
              first | (have q2_ : q = false := q_; subst q2_) | (simp [go_sem] at q_; have q2_ : q = false := q_; subst q2_) | (simp [go_sem, *] at q_; have q2_ : q = false := q_; subst q2_)
              have q_ := x1.bel.cell (p := ⟨w.heap.size+1, 1, none⟩) (by first | omega | (simp; done) | (simp; omega))
              generalize c_x1_1_1 : x1.val.cell? ⟨w.heap.size+1, 1, none⟩ = q at q_
              first | (have q2_ : q = some _ := q_; subst q2_) | (simp [go_sem] at q_; have q2_ : q = some _ := q_; subst q2_) | (simp [go_sem, *] at q_; have q2_ : q = some _ := q_; subst q2_)
              have q_ := x1.bel.frozen (p := ⟨w.heap.size+1, 1, none⟩) (by first | omega | (simp; done) | (simp; omega))
              generalize z_x1_1_1 : x1.val.frozen? ⟨w.heap.size+1, 1, none⟩ = q at q_
              first | (have q2_ : q = false := q_; subst q2_) | (simp [go_sem] at q_; have q2_ : q = false := q_; subst q2_) | (simp [go_sem, *] at q_; have q2_ : q = false := q_; subst q2_)
              have q_ := x1.bel.cell (p := ⟨w.heap.size+1, 2, none⟩) (by first | omega | (simp; done) | (simp; omega))
              generalize c_x1_1_2 : x1.val.cell? ⟨w.heap.size+1, 2, none⟩ = q at q_
              first | (have q2_ : q = some _ := q_; subst q2_) | (simp [go_sem] at q_; have q2_ : q = some _ := q_; subst q2_) | (simp [go_sem, *] at q_; have q2_ : q = some _ := q_; subst q2_)
              have q_ := x1.bel.frozen (p := ⟨w.heap.size+1, 2, none⟩) (by first | omega | (simp; done) | (simp; omega))
              generalize z_x1_1_2 : x1.val.frozen? ⟨w.heap.size+1, 2, none⟩ = q at q_
              first | (have q2_ : q = false := q_; subst q2_) | (simp [go_sem] at q_; have q2_ : q = false := q_; subst q2_) | (simp [go_sem, *] at q_; have q2_ : q = false := q_; subst q2_)
              have q_ := x1.bel.cell (p := ⟨w.heap.size+1, 3, none⟩) (by first | omega | (simp; done) | (simp; omega))
              generalize c_x1_1_3 : x1.val.cell? ⟨w.heap.size+1, 3, none⟩ = q at q_
              first | (have q2_ : q = some _ := q_; subst q2_) | (simp [go_sem] at q_; have q2_ : q = some _ := q_; subst q2_) | (simp [go_sem, *] at q_; have q2_ : q = some _ := q_; subst q2_)
              have q_ := x1.bel.frozen (p := ⟨w.heap.size+1, 3, none⟩) (by first | omega | (simp; done) | (simp; omega))
              generalize z_x1_1_3 : x1.val.frozen? ⟨w.heap.size+1, 3, none⟩ = q at q_
              first | (have q2_ : q = false := q_; subst q2_) | (simp [go_sem] at q_; have q2_ : q = false := q_; subst q2_) | (simp [go_sem, *] at q_; have q2_ : q = false := q_; subst q2_)
              have q_ := x1.bel.cell (p := ⟨w.heap.size+1, 4, none⟩) (by first | omega | (simp; done) | (simp; omega))
              generalize c_x1_1_4 : x1.val.cell? ⟨w.heap.size+1, 4, none⟩ = q at q_
              first | (have q2_ : q = some _ := q_; subst q2_) | (simp [go_sem] at q_; have q2_ : q = some _ := q_; subst q2_) | (simp [go_sem, *] at q_; have q2_ : q = some _ := q_; subst q2_)
              have q_ := x1.bel.frozen (p := ⟨w.heap.size+1, 4, none⟩) (by first | omega | (simp; done) | (simp; omega))
              generalize z_x1_1_4 : x1.val.frozen? ⟨w.heap.size+1, 4, none⟩ = q at q_
              first | (have q2_ : q = false := q_; subst q2_) | (simp [go_sem] at q_; have q2_ : q = false := q_; subst q2_) | (simp [go_sem, *] at q_; have q2_ : q = false := q_; subst q2_)
              go_wp2_with (
                at_builtin
                go_loud (
                refine wpList_append_sq (f := byw) _ rfl _ _ 22 rfl (fun _ => rfl) (x1.val.heap.size + 1) 5 i0 _ _ Try.underlying22 hi hz0 rfl hz1 hz2 (by decide) _ [] rfl (own_sq_empty byw _ _ _ _ (by simp) (by simp)) w.heap.size _ (l1.take k) c k HTK.out rfl (((HB.out.sq.below (B := w.heap.size) (by exact (by repeat (first | with_reducible exact Below.refl _ _ | with_reducible refine bel_later _ ?_ | with_reducible refine bel_alloc ?_ _ | refine bel_set ?_ (by first | omega | (simp; done) | (simp; omega)) _ | with_reducible refine Below.drew ?_ | with_reducible refine bel_drewN ?_ _ | with_reducible assumption | assumption)))).take k)) HB.out.nil (by simp; omega) (by simp) ?_
                intro A' c' w' hown hg hb
                obtain ⟨x2, rfl⟩ := later_is hb
                simp only [List.nil_append, HTK.out] at hown ⊢
                have HO := Lib.hid hown
                have hbw : Below w.heap.size w x2.val := Below.trans (by exact (by repeat (first | with_reducible exact Below.refl _ _ | with_reducible refine bel_later _ ?_ | with_reducible refine bel_alloc ?_ _ | refine bel_set ?_ (by first | omega | (simp; done) | (simp; omega)) _ | with_reducible refine Below.drew ?_ | with_reducible refine bel_drewN ?_ _ | with_reducible assumption | assumption))) (x2.bel.mono (by omega))
                clear hown hg hb
                have hz_x2 := x2.bel.size
                try simp at hz_x2
                have l_x2_0 : w.heap.size < x2.val.heap.size := by omega
                have m_x2_0 : w.heap.size < x2.val.heap.size + 1 := by omega
                have q_ := x2.bel.cell (p := ⟨w.heap.size, 0, none⟩) (by first | omega | (simp; done) | (simp; omega))
                generalize c_x2_0_0 : x2.val.cell? ⟨w.heap.size, 0, none⟩ = q at q_
                first | (have q2_ : q = some _ := q_; subst q2_) | (simp [go_sem] at q_; have q2_ : q = some _ := q_; subst q2_) | (simp [go_sem, *] at q_; have q2_ : q = some _ := q_; subst q2_)
                have q_ := x2.bel.frozen (p := ⟨w.heap.size, 0, none⟩) (by first | omega | (simp; done) | (simp; omega))
                generalize z_x2_0_0 : x2.val.frozen? ⟨w.heap.size, 0, none⟩ = q at q_
                first | (have q2_ : q = false := q_; subst q2_) | (simp [go_sem] at q_; have q2_ : q = false := q_; subst q2_) | (simp [go_sem, *] at q_; have q2_ : q = false := q_; subst q2_)
                have q_ := x2.bel.cell (p := ⟨w.heap.size, 1, none⟩) (by first | omega | (simp; done) | (simp; omega))
                generalize c_x2_0_1 : x2.val.cell? ⟨w.heap.size, 1, none⟩ = q at q_
                first | (have q2_ : q = some _ := q_; subst q2_) | (simp [go_sem] at q_; have q2_ : q = some _ := q_; subst q2_) | (simp [go_sem, *] at q_; have q2_ : q = some _ := q_; subst q2_)
                have q_ := x2.bel.frozen (p := ⟨w.heap.size, 1, none⟩) (by first | omega | (simp; done) | (simp; omega))
                generalize z_x2_0_1 : x2.val.frozen? ⟨w.heap.size, 1, none⟩ = q at q_
                first | (have q2_ : q = false := q_; subst q2_) | (simp [go_sem] at q_; have q2_ : q = false := q_; subst q2_) | (simp [go_sem, *] at q_; have q2_ : q = false := q_; subst q2_)
                have q_ := x2.bel.cell (p := ⟨w.heap.size, 2, none⟩) (by first | omega | (simp; done) | (simp; omega))
                generalize c_x2_0_2 : x2.val.cell? ⟨w.heap.size, 2, none⟩ = q at q_
                first | (have q2_ : q = some _ := q_; subst q2_) | (simp [go_sem] at q_; have q2_ : q = some _ := q_; subst q2_) | (simp [go_sem, *] at q_; have q2_ : q = some _ := q_; subst q2_)
                have q_ := x2.bel.frozen (p := ⟨w.heap.size, 2, none⟩) (by first | omega | (simp; done) | (simp; omega))
                generalize z_x2_0_2 : x2.val.frozen? ⟨w.heap.size, 2, none⟩ = q at q_
                first | (have q2_ : q = false := q_; subst q2_) | (simp [go_sem] at q_; have q2_ : q = false := q_; subst q2_) | (simp [go_sem, *] at q_; have q2_ : q = false := q_; subst q2_)
                have q_ := x2.bel.cell (p := ⟨w.heap.size, 3, none⟩) (by first | omega | (simp; done) | (simp; omega))
                generalize c_x2_0_3 : x2.val.cell? ⟨w.heap.size, 3, none⟩ = q at q_
                first | (have q2_ : q = some _ := q_; subst q2_) | (simp [go_sem] at q_; have q2_ : q = some _ := q_; subst q2_) | (simp [go_sem, *] at q_; have q2_ : q = some _ := q_; subst q2_)
                have q_ := x2.bel.frozen (p := ⟨w.heap.size, 3, none⟩) (by first | omega | (simp; done) | (simp; omega))
                generalize z_x2_0_3 : x2.val.frozen? ⟨w.heap.size, 3, none⟩ = q at q_
                first | (have q2_ : q = false := q_; subst q2_) | (simp [go_sem] at q_; have q2_ : q = false := q_; subst q2_) | (simp [go_sem, *] at q_; have q2_ : q = false := q_; subst q2_)
                have q_ := x2.bel.cell (p := ⟨w.heap.size, 4, none⟩) (by first | omega | (simp; done) | (simp; omega))
                generalize c_x2_0_4 : x2.val.cell? ⟨w.heap.size, 4, none⟩ = q at q_
                first | (have q2_ : q = some _ := q_; subst q2_) | (simp [go_sem] at q_; have q2_ : q = some _ := q_; subst q2_) | (simp [go_sem, *] at q_; have q2_ : q = some _ := q_; subst q2_)
                have q_ := x2.bel.frozen (p := ⟨w.heap.size, 4, none⟩) (by first | omega | (simp; done) | (simp; omega))
                generalize z_x2_0_4 : x2.val.frozen? ⟨w.heap.size, 4, none⟩ = q at q_
                first | (have q2_ : q = false := q_; subst q2_) | (simp [go_sem] at q_; have q2_ : q = false := q_; subst q2_) | (simp [go_sem, *] at q_; have q2_ : q = false := q_; subst q2_)
                have l_x2_1 : w.heap.size+1 < x2.val.heap.size := by omega
                have m_x2_1 : w.heap.size+1 < x2.val.heap.size + 1 := by omega
                have q_ := x2.bel.cell (p := ⟨w.heap.size+1, 0, none⟩) (by first | omega | (simp; done) | (simp; omega))
                generalize c_x2_1_0 : x2.val.cell? ⟨w.heap.size+1, 0, none⟩ = q at q_
                first | (have q2_ : q = some _ := q_; subst q2_) | (simp [go_sem] at q_; have q2_ : q = some _ := q_; subst q2_) | (simp [go_sem, *] at q_; have q2_ : q = some _ := q_; subst q2_)
                have q_ := x2.bel.frozen (p := ⟨w.heap.size+1, 0, none⟩) (by first | omega | (simp; done) | (simp; omega))
                generalize z_x2_1_0 : x2.val.frozen? ⟨w.heap.size+1, 0, none⟩ = q at q_
                first | (have q2_ : q = false := q_; subst q2_) | (simp [go_sem] at q_; have q2_ : q = false := q_; subst q2_) | (simp [go_sem, *] at q_; have q2_ : q = false := q_; subst q2_)
                have q_ := x2.bel.cell (p := ⟨w.heap.size+1, 1, none⟩) (by first | omega | (simp; done) | (simp; omega))
                generalize c_x2_1_1 : x2.val.cell? ⟨w.heap.size+1, 1, none⟩ = q at q_
                first | (have q2_ : q = some _ := q_; subst q2_) | (simp [go_sem] at q_; have q2_ : q = some _ := q_; subst q2_) | (simp [go_sem, *] at q_; have q2_ : q = some _ := q_; subst q2_)
                have q_ := x2.bel.frozen (p := ⟨w.heap.size+1, 1, none⟩) (by first | omega | (simp; done) | (simp; omega))
                generalize z_x2_1_1 : x2.val.frozen? ⟨w.heap.size+1, 1, none⟩ = q at q_
                first | (have q2_ : q = false := q_; subst q2_) | (simp [go_sem] at q_; have q2_ : q = false := q_; subst q2_) | (simp [go_sem, *] at q_; have q2_ : q = false := q_; subst q2_)
                have q_ := x2.bel.cell (p := ⟨w.heap.size+1, 2, none⟩) (by first | omega | (simp; done) | (simp; omega))
                generalize c_x2_1_2 : x2.val.cell? ⟨w.heap.size+1, 2, none⟩ = q at q_
                first | (have q2_ : q = some _ := q_; subst q2_) | (simp [go_sem] at q_; have q2_ : q = some _ := q_; subst q2_) | (simp [go_sem, *] at q_; have q2_ : q = some _ := q_; subst q2_)
                have q_ := x2.bel.frozen (p := ⟨w.heap.size+1, 2, none⟩) (by first | omega | (simp; done) | (simp; omega))
                generalize z_x2_1_2 : x2.val.frozen? ⟨w.heap.size+1, 2, none⟩ = q at q_
                first | (have q2_ : q = false := q_; subst q2_) | (simp [go_sem] at q_; have q2_ : q = false := q_; subst q2_) | (simp [go_sem, *] at q_; have q2_ : q = false := q_; subst q2_)
                have q_ := x2.bel.cell (p := ⟨w.heap.size+1, 3, none⟩) (by first | omega | (simp; done) | (simp; omega))
                generalize c_x2_1_3 : x2.val.cell? ⟨w.heap.size+1, 3, none⟩ = q at q_
                first | (have q2_ : q = some _ := q_; subst q2_) | (simp [go_sem] at q_; have q2_ : q = some _ := q_; subst q2_) | (simp [go_sem, *] at q_; have q2_ : q = some _ := q_; subst q2_)
                have q_ := x2.bel.frozen (p := ⟨w.heap.size+1, 3, none⟩) (by first | omega | (simp; done) | (simp; omega))
                generalize z_x2_1_3 : x2.val.frozen? ⟨w.heap.size+1, 3, none⟩ = q at q_
                first | (have q2_ : q = false := q_; subst q2_) | (simp [go_sem] at q_; have q2_ : q = false := q_; subst q2_) | (simp [go_sem, *] at q_; have q2_ : q = false := q_; subst q2_)
                have q_ := x2.bel.cell (p := ⟨w.heap.size+1, 4, none⟩) (by first | omega | (simp; done) | (simp; omega))
                generalize c_x2_1_4 : x2.val.cell? ⟨w.heap.size+1, 4, none⟩ = q at q_
                first | (have q2_ : q = some _ := q_; subst q2_) | (simp [go_sem] at q_; have q2_ : q = some _ := q_; subst q2_) | (simp [go_sem, *] at q_; have q2_ : q = some _ := q_; subst q2_)
                have q_ := x2.bel.frozen (p := ⟨w.heap.size+1, 4, none⟩) (by first | omega | (simp; done) | (simp; omega))
                generalize z_x2_1_4 : x2.val.frozen? ⟨w.heap.size+1, 4, none⟩ = q at q_
                first | (have q2_ : q = false := q_; subst q2_) | (simp [go_sem] at q_; have q2_ : q = false := q_; subst q2_) | (simp [go_sem, *] at q_; have q2_ : q = false := q_; subst q2_)
                have l_x2_2 : x1.val.heap.size < x2.val.heap.size := by omega
                have m_x2_2 : x1.val.heap.size < x2.val.heap.size + 1 := by omega
                have q_ := x2.bel.cell (p := ⟨x1.val.heap.size, 0, none⟩) (by first | omega | (simp; done) | (simp; omega))
                generalize c_x2_2_0 : x2.val.cell? ⟨x1.val.heap.size, 0, none⟩ = q at q_
                first | (have q2_ : q = some _ := q_; subst q2_) | (simp [go_sem] at q_; have q2_ : q = some _ := q_; subst q2_) | (simp [go_sem, *] at q_; have q2_ : q = some _ := q_; subst q2_)
                have q_ := x2.bel.frozen (p := ⟨x1.val.heap.size, 0, none⟩) (by first | omega | (simp; done) | (simp; omega))
                generalize z_x2_2_0 : x2.val.frozen? ⟨x1.val.heap.size, 0, none⟩ = q at q_
                first | (have q2_ : q = false := q_; subst q2_) | (simp [go_sem] at q_; have q2_ : q = false := q_; subst q2_) | (simp [go_sem, *] at q_; have q2_ : q = false := q_; subst q2_)
                have q_ := x2.bel.cell (p := ⟨x1.val.heap.size, 1, none⟩) (by first | omega | (simp; done) | (simp; omega))
                generalize c_x2_2_1 : x2.val.cell? ⟨x1.val.heap.size, 1, none⟩ = q at q_
                first | (have q2_ : q = some _ := q_; subst q2_) | (simp [go_sem] at q_; have q2_ : q = some _ := q_; subst q2_) | (simp [go_sem, *] at q_; have q2_ : q = some _ := q_; subst q2_)
                have q_ := x2.bel.frozen (p := ⟨x1.val.heap.size, 1, none⟩) (by first | omega | (simp; done) | (simp; omega))
                generalize z_x2_2_1 : x2.val.frozen? ⟨x1.val.heap.size, 1, none⟩ = q at q_
                first | (have q2_ : q = false := q_; subst q2_) | (simp [go_sem] at q_; have q2_ : q = false := q_; subst q2_) | (simp [go_sem, *] at q_; have q2_ : q = false := q_; subst q2_)
                have q_ := x2.bel.cell (p := ⟨x1.val.heap.size, 2, none⟩) (by first | omega | (simp; done) | (simp; omega))
                generalize c_x2_2_2 : x2.val.cell? ⟨x1.val.heap.size, 2, none⟩ = q at q_
                first | (have q2_ : q = some _ := q_; subst q2_) | (simp [go_sem] at q_; have q2_ : q = some _ := q_; subst q2_) | (simp [go_sem, *] at q_; have q2_ : q = some _ := q_; subst q2_)
                have q_ := x2.bel.frozen (p := ⟨x1.val.heap.size, 2, none⟩) (by first | omega | (simp; done) | (simp; omega))
                generalize z_x2_2_2 : x2.val.frozen? ⟨x1.val.heap.size, 2, none⟩ = q at q_
                first | (have q2_ : q = false := q_; subst q2_) | (simp [go_sem] at q_; have q2_ : q = false := q_; subst q2_) | (simp [go_sem, *] at q_; have q2_ : q = false := q_; subst q2_)
                have q_ := x2.bel.cell (p := ⟨x1.val.heap.size, 3, none⟩) (by first | omega | (simp; done) | (simp; omega))
                generalize c_x2_2_3 : x2.val.cell? ⟨x1.val.heap.size, 3, none⟩ = q at q_
                first | (have q2_ : q = some _ := q_; subst q2_) | (simp [go_sem] at q_; have q2_ : q = some _ := q_; subst q2_) | (simp [go_sem, *] at q_; have q2_ : q = some _ := q_; subst q2_)
                have q_ := x2.bel.frozen (p := ⟨x1.val.heap.size, 3, none⟩) (by first | omega | (simp; done) | (simp; omega))
                generalize z_x2_2_3 : x2.val.frozen? ⟨x1.val.heap.size, 3, none⟩ = q at q_
                first | (have q2_ : q = false := q_; subst q2_) | (simp [go_sem] at q_; have q2_ : q = false := q_; subst q2_) | (simp [go_sem, *] at q_; have q2_ : q = false := q_; subst q2_)
                have q_ := x2.bel.cell (p := ⟨x1.val.heap.size, 4, none⟩) (by first | omega | (simp; done) | (simp; omega))
                generalize c_x2_2_4 : x2.val.cell? ⟨x1.val.heap.size, 4, none⟩ = q at q_
                first | (have q2_ : q = some _ := q_; subst q2_) | (simp [go_sem] at q_; have q2_ : q = some _ := q_; subst q2_) | (simp [go_sem, *] at q_; have q2_ : q = some _ := q_; subst q2_)
                have q_ := x2.bel.frozen (p := ⟨x1.val.heap.size, 4, none⟩) (by first | omega | (simp; done) | (simp; omega))
                generalize z_x2_2_4 : x2.val.frozen? ⟨x1.val.heap.size, 4, none⟩ = q at q_
                first | (have q2_ : q = false := q_; subst q2_) | (simp [go_sem] at q_; have q2_ : q = false := q_; subst q2_) | (simp [go_sem, *] at q_; have q2_ : q = false := q_; subst q2_)
                skip))
              refine bodyPost_ret (v := .tuple #[.agg #[.int .i64 (room1 : Int), .int .i64 (safe1 : Int), .int .i64 zl1, .slice A' k c', .bool off1], .int .i64 0]) (by simp [results, Try.results34, go_sem, *]) rfl (RdP.own (A' := A') (c' := c') (base := x1.val.heap.size + 1) (by simp [Dk.R, HTK.out, HZ1.out, hmin.out]) HTK.out (by repeat (first | with_reducible exact HO.out | refine own_set ?_ (by omega) | refine own_below ?_ (bel_alloc (Below.refl _ _) _))) (by omega) (by repeat (first | with_reducible exact Below.refl _ _ | with_reducible refine bel_later _ ?_ | with_reducible refine bel_alloc ?_ _ | refine bel_set ?_ (by first | omega | (simp; done) | (simp; omega)) _ | with_reducible refine Below.drew ?_ | with_reducible refine bel_drewN ?_ _ | with_reducible assumption | assumption)))
            · go_enter Try.func34, Try.ntmps34
              go_wp2_with fail
              refine (ks.out _).mono ?_
              rintro e_x1 w_x1 ⟨rfl, hb_x1⟩
              obtain ⟨x1, rfl⟩ := later_is hb_x1
              clear hb_x1
              have hz_x1 := x1.bel.size
              try simp at hz_x1
              have l_x1_0 : w.heap.size < x1.val.heap.size := by omega
              have m_x1_0 : w.heap.size < x1.val.heap.size + 1 := by omega
              have q_ := x1.bel.cell (p := ⟨w.heap.size, 0, none⟩) (by first | omega | (simp; done) | (simp; omega))
              generalize c_x1_0_0 : x1.val.cell? ⟨w.heap.size, 0, none⟩ = q at q_
              first | (have q2_ : q = some _ := q_; subst q2_) | (simp [go_sem] at q_; have q2_ : q = some _ := q_; subst q2_) | (simp [go_sem, *] at q_; have q2_ : q = some _ := q_; subst q2_)
              have q_ := x1.bel.frozen (p := ⟨w.heap.size, 0, none⟩) (by first | omega | (simp; done) | (simp; omega))
              generalize z_x1_0_0 : x1.val.frozen? ⟨w.heap.size, 0, none⟩ = q at q_
              first | (have q2_ : q = false := q_; subst q2_) | (simp [go_sem] at q_; have q2_ : q = false := q_; subst q2_) | (simp [go_sem, *] at q_; have q2_ : q = false := q_; subst q2_)
              have q_ := x1.bel.cell (p := ⟨w.heap.size, 1, none⟩) (by first | omega | (simp; done) | (simp; omega))
              generalize c_x1_0_1 : x1.val.cell? ⟨w.heap.size, 1, none⟩ = q at q_
              first | (have q2_ : q = some _ := q_; subst q2_) | (simp [go_sem] at q_; have q2_ : q = some _ := q_; subst q2_) | (simp [go_sem, *] at q_; have q2_ : q = some _ := q_; subst q2_)
              have q_ := x1.bel.frozen (p := ⟨w.heap.size, 1, none⟩) (by first | omega | (simp; done) | (simp; omega))
              generalize z_x1_0_1 : x1.val.frozen? ⟨w.heap.size, 1, none⟩ = q at q_
              first | (have q2_ : q = false := q_; subst q2_) | (simp [go_sem] at q_; have q2_ : q = false := q_; subst q2_) | (simp [go_sem, *] at q_; have q2_ : q = false := q_; subst q2_)
              have q_ := x1.bel.cell (p := ⟨w.heap.size, 2, none⟩) (by first | omega | (simp; done) | (simp; omega))
              generalize c_x1_0_2 : x1.val.cell? ⟨w.heap.size, 2, none⟩ = q at q_
              first | (have q2_ : q = some _ := q_; subst q2_) | (simp [go_sem] at q_; have q2_ : q = some _ := q_; subst q2_) | (simp [go_sem, *] at q_; have q2_ : q = some _ := q_; subst q2_)
              have q_ := x1.bel.frozen (p := ⟨w.heap.size, 2, none⟩) (by first | omega | (simp; done) | (simp; omega))
              generalize z_x1_0_2 : x1.val.frozen? ⟨w.heap.size, 2, none⟩ = q at q_
              first | (have q2_ : q = false := q_; subst q2_) | (simp [go_sem] at q_; have q2_ : q = false := q_; subst q2_) | (simp [go_sem, *] at q_; have q2_ : q = false := q_; subst q2_)
              have q_ := x1.bel.cell (p := ⟨w.heap.size, 3, none⟩) (by first | omega | (simp; done) | (simp; omega))
              generalize c_x1_0_3 : x1.val.cell? ⟨w.heap.size, 3, none⟩ = q at q_
              first | (have q2_ : q = some _ := q_; subst q2_) | (simp [go_sem] at q_; have q2_ : q = some _ := q_; subst q2_) | (simp [go_sem, *] at q_; have q2_ : q = some _ := q_; subst q2_)
              have q_ := x1.bel.frozen (p := ⟨w.heap.size, 3, none⟩) (by first | omega | (simp; done) | (simp; omega))
              generalize z_x1_0_3 : x1.val.frozen? ⟨w.heap.size, 3, none⟩ = q at q_
              first | (have q2_ : q = false := q_; subst q2_) | (simp [go_sem] at q_; have q2_ : q = false := q_; subst q2_) | (simp [go_sem, *] at q_; have q2_ : q = false := q_; subst q2_)
              have q_ := x1.bel.cell (p := ⟨w.heap.size, 4, none⟩) (by first | omega | (simp; done) | (simp; omega))
              generalize c_x1_0_4 : x1.val.cell? ⟨w.heap.size, 4, none⟩ = q at q_
              first | (have q2_ : q = some _ := q_; subst q2_) | (simp [go_sem] at q_; have q2_ : q = some _ := q_; subst q2_) | (simp [go_sem, *] at q_; have q2_ : q = some _ := q_; subst q2_)
              have q_ := x1.bel.frozen (p := ⟨w.heap.size, 4, none⟩) (by first | omega | (simp; done) | (simp; omega))
              generalize z_x1_0_4 : x1.val.frozen? ⟨w.heap.size, 4, none⟩ = q at q_
              first | (have q2_ : q = false := q_; subst q2_) | (simp [go_sem] at q_; have q2_ : q = false := q_; subst q2_) | (simp [go_sem, *] at q_; have q2_ : q = false := q_; subst q2_)
              have l_x1_1 : w.heap.size+1 < x1.val.heap.size := by omega
              have m_x1_1 : w.heap.size+1 < x1.val.heap.size + 1 := by omega
              have q_ := x1.bel.cell (p := ⟨w.heap.size+1, 0, none⟩) (by first | omega | (simp; done) | (simp; omega))
              generalize c_x1_1_0 : x1.val.cell? ⟨w.heap.size+1, 0, none⟩ = q at q_
              first | (have q2_ : q = some _ := q_; subst q2_) | (simp [go_sem] at q_; have q2_ : q = some _ := q_; subst q2_) | (simp [go_sem, *] at q_; have q2_ : q = some _ := q_; subst q2_)
              have q_ := x1.bel.frozen (p := ⟨w.heap.size+1, 0, none⟩) (by first | omega | (simp; done) | (simp; omega))
              generalize z_x1_1_0 : x1.val.frozen? ⟨w.heap.size+1, 0, none⟩ = q at q_
              first | (have q2_ : q = false := q_; subst q2_) | (simp [go_sem] at q_; have q2_ : q = false := q_; subst q2_) | (simp [go_sem, *] at q_; have q2_ : q = false := q_; subst q2_)
              have q_ := x1.bel.cell (p := ⟨w.heap.size+1, 1, none⟩) (by first | omega | (simp; done) | (simp; omega))
              generalize c_x1_1_1 : x1.val.cell? ⟨w.heap.size+1, 1, none⟩ = q at q_
              first | (have q2_ : q = some _ := q_; subst q2_) | (simp [go_sem] at q_; have q2_ : q = some _ := q_; subst q2_) | (simp [go_sem, *] at q_; have q2_ : q = some _ := q_; subst q2_)
              have q_ := x1.bel.frozen (p := ⟨w.heap.size+1, 1, none⟩) (by first | omega | (simp; done) | (simp; omega))
              generalize z_x1_1_1 : x1.val.frozen? ⟨w.heap.size+1, 1, none⟩ = q at q_
              first | (have q2_ : q = false := q_; subst q2_) | (simp [go_sem] at q_; have q2_ : q = false := q_; subst q2_) | (simp [go_sem, *] at q_; have q2_ : q = false := q_; subst q2_)
              have q_ := x1.bel.cell (p := ⟨w.heap.size+1, 2, none⟩) (by first | omega | (simp; done) | (simp; omega))
              generalize c_x1_1_2 : x1.val.cell? ⟨w.heap.size+1, 2, none⟩ = q at q_
              first | (have q2_ : q = some _ := q_; subst q2_) | (simp [go_sem] at q_; have q2_ : q = some _ := q_; subst q2_) | (simp [go_sem, *] at q_; have q2_ : q = some _ := q_; subst q2_)
              have q_ := x1.bel.frozen (p := ⟨w.heap.size+1, 2, none⟩) (by first | omega | (simp; done) | (simp; omega))
              generalize z_x1_1_2 : x1.val.frozen? ⟨w.heap.size+1, 2, none⟩ = q at q_
              first | (have q2_ : q = false := q_; subst q2_) | (simp [go_sem] at q_; have q2_ : q = false := q_; subst q2_) | (simp [go_sem, *] at q_; have q2_ : q = false := q_; subst q2_)
              have q_ := x1.bel.cell (p := ⟨w.heap.size+1, 3, none⟩) (by first | omega | (simp; done) | (simp; omega))
              generalize c_x1_1_3 : x1.val.cell? ⟨w.heap.size+1, 3, none⟩ = q at q_
              first | (have q2_ : q = some _ := q_; subst q2_) | (simp [go_sem] at q_; have q2_ : q = some _ := q_; subst q2_) | (simp [go_sem, *] at q_; have q2_ : q = some _ := q_; subst q2_)
              have q_ := x1.bel.frozen (p := ⟨w.heap.size+1, 3, none⟩) (by first | omega | (simp; done) | (simp; omega))
              generalize z_x1_1_3 : x1.val.frozen? ⟨w.heap.size+1, 3, none⟩ = q at q_
              first | (have q2_ : q = false := q_; subst q2_) | (simp [go_sem] at q_; have q2_ : q = false := q_; subst q2_) | (simp [go_sem, *] at q_; have q2_ : q = false := q_; subst q2_)
              have q_ := x1.bel.cell (p := ⟨w.heap.size+1, 4, none⟩) (by first | omega | (simp; done) | (simp; omega))
              generalize c_x1_1_4 : x1.val.cell? ⟨w.heap.size+1, 4, none⟩ = q at q_
              first | (have q2_ : q = some _ := q_; subst q2_) | (simp [go_sem] at q_; have q2_ : q = some _ := q_; subst q2_) | (simp [go_sem, *] at q_; have q2_ : q = some _ := q_; subst q2_)
              have q_ := x1.bel.frozen (p := ⟨w.heap.size+1, 4, none⟩) (by first | omega | (simp; done) | (simp; omega))
              generalize z_x1_1_4 : x1.val.frozen? ⟨w.heap.size+1, 4, none⟩ = q at q_
              first | (have q2_ : q = false := q_; subst q2_) | (simp [go_sem] at q_; have q2_ : q = false := q_; subst q2_) | (simp [go_sem, *] at q_; have q2_ : q = false := q_; subst q2_)
              go_wp2_with (
                at_builtin
                go_loud (
                refine wpList_append_sq (f := byw) _ rfl _ _ 22 rfl (fun _ => rfl) (x1.val.heap.size + 1) 5 i0 _ _ Try.underlying22 hi hz0 rfl hz1 hz2 (by decide) _ [] rfl (own_sq_empty byw _ _ _ _ (by simp) (by simp)) w.heap.size _ (l1.take k) c k HTK.out rfl (((HB.out.sq.below (B := w.heap.size) (by exact (by repeat (first | with_reducible exact Below.refl _ _ | with_reducible refine bel_later _ ?_ | with_reducible refine bel_alloc ?_ _ | refine bel_set ?_ (by first | omega | (simp; done) | (simp; omega)) _ | with_reducible refine Below.drew ?_ | with_reducible refine bel_drewN ?_ _ | with_reducible assumption | assumption)))).take k)) HB.out.nil (by simp; omega) (by simp) ?_
                intro A' c' w' hown hg hb
                obtain ⟨x2, rfl⟩ := later_is hb
                simp only [List.nil_append, HTK.out] at hown ⊢
                have HO := Lib.hid hown
                have hbw : Below w.heap.size w x2.val := Below.trans (by exact (by repeat (first | with_reducible exact Below.refl _ _ | with_reducible refine bel_later _ ?_ | with_reducible refine bel_alloc ?_ _ | refine bel_set ?_ (by first | omega | (simp; done) | (simp; omega)) _ | with_reducible refine Below.drew ?_ | with_reducible refine bel_drewN ?_ _ | with_reducible assumption | assumption))) (x2.bel.mono (by omega))
                clear hown hg hb
                have hz_x2 := x2.bel.size
                try simp at hz_x2
                have l_x2_0 : w.heap.size < x2.val.heap.size := by omega
                have m_x2_0 : w.heap.size < x2.val.heap.size + 1 := by omega
                have q_ := x2.bel.cell (p := ⟨w.heap.size, 0, none⟩) (by first | omega | (simp; done) | (simp; omega))
                generalize c_x2_0_0 : x2.val.cell? ⟨w.heap.size, 0, none⟩ = q at q_
                first | (have q2_ : q = some _ := q_; subst q2_) | (simp [go_sem] at q_; have q2_ : q = some _ := q_; subst q2_) | (simp [go_sem, *] at q_; have q2_ : q = some _ := q_; subst q2_)
                have q_ := x2.bel.frozen (p := ⟨w.heap.size, 0, none⟩) (by first | omega | (simp; done) | (simp; omega))
                generalize z_x2_0_0 : x2.val.frozen? ⟨w.heap.size, 0, none⟩ = q at q_
                first | (have q2_ : q = false := q_; subst q2_) | (simp [go_sem] at q_; have q2_ : q = false := q_; subst q2_) | (simp [go_sem, *] at q_; have q2_ : q = false := q_; subst q2_)
                have q_ := x2.bel.cell (p := ⟨w.heap.size, 1, none⟩) (by first | omega | (simp; done) | (simp; omega))
                generalize c_x2_0_1 : x2.val.cell? ⟨w.heap.size, 1, none⟩ = q at q_
                first | (have q2_ : q = some _ := q_; subst q2_) | (simp [go_sem] at q_; have q2_ : q = some _ := q_; subst q2_) | (simp [go_sem, *] at q_; have q2_ : q = some _ := q_; subst q2_)
                have q_ := x2.bel.frozen (p := ⟨w.heap.size, 1, none⟩) (by first | omega | (simp; done) | (simp; omega))
                generalize z_x2_0_1 : x2.val.frozen? ⟨w.heap.size, 1, none⟩ = q at q_
                first | (have q2_ : q = false := q_; subst q2_) | (simp [go_sem] at q_; have q2_ : q = false := q_; subst q2_) | (simp [go_sem, *] at q_; have q2_ : q = false := q_; subst q2_)
                have q_ := x2.bel.cell (p := ⟨w.heap.size, 2, none⟩) (by first | omega | (simp; done) | (simp; omega))
                generalize c_x2_0_2 : x2.val.cell? ⟨w.heap.size, 2, none⟩ = q at q_
                first | (have q2_ : q = some _ := q_; subst q2_) | (simp [go_sem] at q_; have q2_ : q = some _ := q_; subst q2_) | (simp [go_sem, *] at q_; have q2_ : q = some _ := q_; subst q2_)
                have q_ := x2.bel.frozen (p := ⟨w.heap.size, 2, none⟩) (by first | omega | (simp; done) | (simp; omega))
                generalize z_x2_0_2 : x2.val.frozen? ⟨w.heap.size, 2, none⟩ = q at q_
                first | (have q2_ : q = false := q_; subst q2_) | (simp [go_sem] at q_; have q2_ : q = false := q_; subst q2_) | (simp [go_sem, *] at q_; have q2_ : q = false := q_; subst q2_)
                have q_ := x2.bel.cell (p := ⟨w.heap.size, 3, none⟩) (by first | omega | (simp; done) | (simp; omega))
                generalize c_x2_0_3 : x2.val.cell? ⟨w.heap.size, 3, none⟩ = q at q_
                first | (have q2_ : q = some _ := q_; subst q2_) | (simp [go_sem] at q_; have q2_ : q = some _ := q_; subst q2_) | (simp [go_sem, *] at q_; have q2_ : q = some _ := q_; subst q2_)
                have q_ := x2.bel.frozen (p := ⟨w.heap.size, 3, none⟩) (by first | omega | (simp; done) | (simp; omega))
                generalize z_x2_0_3 : x2.val.frozen? ⟨w.heap.size, 3, none⟩ = q at q_
                first | (have q2_ : q = false := q_; subst q2_) | (simp [go_sem] at q_; have q2_ : q = false := q_; subst q2_) | (simp [go_sem, *] at q_; have q2_ : q = false := q_; subst q2_)
                have q_ := x2.bel.cell (p := ⟨w.heap.size, 4, none⟩) (by first | omega | (simp; done) | (simp; omega))
                generalize c_x2_0_4 : x2.val.cell? ⟨w.heap.size, 4, none⟩ = q at q_
                first | (have q2_ : q = some _ := q_; subst q2_) | (simp [go_sem] at q_; have q2_ : q = some _ := q_; subst q2_) | (simp [go_sem, *] at q_; have q2_ : q = some _ := q_; subst q2_)
                have q_ := x2.bel.frozen (p := ⟨w.heap.size, 4, none⟩) (by first | omega | (simp; done) | (simp; omega))
                generalize z_x2_0_4 : x2.val.frozen? ⟨w.heap.size, 4, none⟩ = q at q_
                first | (have q2_ : q = false := q_; subst q2_) | (simp [go_sem] at q_; have q2_ : q = false := q_; subst q2_) | (simp [go_sem, *] at q_; have q2_ : q = false := q_; subst q2_)
                have l_x2_1 : w.heap.size+1 < x2.val.heap.size := by omega
                have m_x2_1 : w.heap.size+1 < x2.val.heap.size + 1 := by omega
                have q_ := x2.bel.cell (p := ⟨w.heap.size+1, 0, none⟩) (by first | omega | (simp; done) | (simp; omega))
                generalize c_x2_1_0 : x2.val.cell? ⟨w.heap.size+1, 0, none⟩ = q at q_
                first | (have q2_ : q = some _ := q_; subst q2_) | (simp [go_sem] at q_; have q2_ : q = some _ := q_; subst q2_) | (simp [go_sem, *] at q_; have q2_ : q = some _ := q_; subst q2_)
                have q_ := x2.bel.frozen (p := ⟨w.heap.size+1, 0, none⟩) (by first | omega | (simp; done) | (simp; omega))
                generalize z_x2_1_0 : x2.val.frozen? ⟨w.heap.size+1, 0, none⟩ = q at q_
                first | (have q2_ : q = false := q_; subst q2_) | (simp [go_sem] at q_; have q2_ : q = false := q_; subst q2_) | (simp [go_sem, *] at q_; have q2_ : q = false := q_; subst q2_)
                have q_ := x2.bel.cell (p := ⟨w.heap.size+1, 1, none⟩) (by first | omega | (simp; done) | (simp; omega))
                generalize c_x2_1_1 : x2.val.cell? ⟨w.heap.size+1, 1, none⟩ = q at q_
                first | (have q2_ : q = some _ := q_; subst q2_) | (simp [go_sem] at q_; have q2_ : q = some _ := q_; subst q2_) | (simp [go_sem, *] at q_; have q2_ : q = some _ := q_; subst q2_)
                have q_ := x2.bel.frozen (p := ⟨w.heap.size+1, 1, none⟩) (by first | omega | (simp; done) | (simp; omega))
                generalize z_x2_1_1 : x2.val.frozen? ⟨w.heap.size+1, 1, none⟩ = q at q_
                first | (have q2_ : q = false := q_; subst q2_) | (simp [go_sem] at q_; have q2_ : q = false := q_; subst q2_) | (simp [go_sem, *] at q_; have q2_ : q = false := q_; subst q2_)
                have q_ := x2.bel.cell (p := ⟨w.heap.size+1, 2, none⟩) (by first | omega | (simp; done) | (simp; omega))
                generalize c_x2_1_2 : x2.val.cell? ⟨w.heap.size+1, 2, none⟩ = q at q_
                first | (have q2_ : q = some _ := q_; subst q2_) | (simp [go_sem] at q_; have q2_ : q = some _ := q_; subst q2_) | (simp [go_sem, *] at q_; have q2_ : q = some _ := q_; subst q2_)
                have q_ := x2.bel.frozen (p := ⟨w.heap.size+1, 2, none⟩) (by first | omega | (simp; done) | (simp; omega))
                generalize z_x2_1_2 : x2.val.frozen? ⟨w.heap.size+1, 2, none⟩ = q at q_
                first | (have q2_ : q = false := q_; subst q2_) | (simp [go_sem] at q_; have q2_ : q = false := q_; subst q2_) | (simp [go_sem, *] at q_; have q2_ : q = false := q_; subst q2_)
                have q_ := x2.bel.cell (p := ⟨w.heap.size+1, 3, none⟩) (by first | omega | (simp; done) | (simp; omega))
                generalize c_x2_1_3 : x2.val.cell? ⟨w.heap.size+1, 3, none⟩ = q at q_
                first | (have q2_ : q = some _ := q_; subst q2_) | (simp [go_sem] at q_; have q2_ : q = some _ := q_; subst q2_) | (simp [go_sem, *] at q_; have q2_ : q = some _ := q_; subst q2_)
                have q_ := x2.bel.frozen (p := ⟨w.heap.size+1, 3, none⟩) (by first | omega | (simp; done) | (simp; omega))
                generalize z_x2_1_3 : x2.val.frozen? ⟨w.heap.size+1, 3, none⟩ = q at q_
                first | (have q2_ : q = false := q_; subst q2_) | (simp [go_sem] at q_; have q2_ : q = false := q_; subst q2_) | (simp [go_sem, *] at q_; have q2_ : q = false := q_; subst q2_)
                have q_ := x2.bel.cell (p := ⟨w.heap.size+1, 4, none⟩) (by first | omega | (simp; done) | (simp; omega))
                generalize c_x2_1_4 : x2.val.cell? ⟨w.heap.size+1, 4, none⟩ = q at q_
                first | (have q2_ : q = some _ := q_; subst q2_) | (simp [go_sem] at q_; have q2_ : q = some _ := q_; subst q2_) | (simp [go_sem, *] at q_; have q2_ : q = some _ := q_; subst q2_)
                have q_ := x2.bel.frozen (p := ⟨w.heap.size+1, 4, none⟩) (by first | omega | (simp; done) | (simp; omega))
                generalize z_x2_1_4 : x2.val.frozen? ⟨w.heap.size+1, 4, none⟩ = q at q_
                first | (have q2_ : q = false := q_; subst q2_) | (simp [go_sem] at q_; have q2_ : q = false := q_; subst q2_) | (simp [go_sem, *] at q_; have q2_ : q = false := q_; subst q2_)
                have l_x2_2 : x1.val.heap.size < x2.val.heap.size := by omega
                have m_x2_2 : x1.val.heap.size < x2.val.heap.size + 1 := by omega
                have q_ := x2.bel.cell (p := ⟨x1.val.heap.size, 0, none⟩) (by first | omega | (simp; done) | (simp; omega))
                generalize c_x2_2_0 : x2.val.cell? ⟨x1.val.heap.size, 0, none⟩ = q at q_
                first | (have q2_ : q = some _ := q_; subst q2_) | (simp [go_sem] at q_; have q2_ : q = some _ := q_; subst q2_) | (simp [go_sem, *] at q_; have q2_ : q = some _ := q_; subst q2_)
                have q_ := x2.bel.frozen (p := ⟨x1.val.heap.size, 0, none⟩) (by first | omega | (simp; done) | (simp; omega))
                generalize z_x2_2_0 : x2.val.frozen? ⟨x1.val.heap.size, 0, none⟩ = q at q_
                first | (have q2_ : q = false := q_; subst q2_) | (simp [go_sem] at q_; have q2_ : q = false := q_; subst q2_) | (simp [go_sem, *] at q_; have q2_ : q = false := q_; subst q2_)
                have q_ := x2.bel.cell (p := ⟨x1.val.heap.size, 1, none⟩) (by first | omega | (simp; done) | (simp; omega))
                generalize c_x2_2_1 : x2.val.cell? ⟨x1.val.heap.size, 1, none⟩ = q at q_
                first | (have q2_ : q = some _ := q_; subst q2_) | (simp [go_sem] at q_; have q2_ : q = some _ := q_; subst q2_) | (simp [go_sem, *] at q_; have q2_ : q = some _ := q_; subst q2_)
                have q_ := x2.bel.frozen (p := ⟨x1.val.heap.size, 1, none⟩) (by first | omega | (simp; done) | (simp; omega))
                generalize z_x2_2_1 : x2.val.frozen? ⟨x1.val.heap.size, 1, none⟩ = q at q_
                first | (have q2_ : q = false := q_; subst q2_) | (simp [go_sem] at q_; have q2_ : q = false := q_; subst q2_) | (simp [go_sem, *] at q_; have q2_ : q = false := q_; subst q2_)
                have q_ := x2.bel.cell (p := ⟨x1.val.heap.size, 2, none⟩) (by first | omega | (simp; done) | (simp; omega))
                generalize c_x2_2_2 : x2.val.cell? ⟨x1.val.heap.size, 2, none⟩ = q at q_
                first | (have q2_ : q = some _ := q_; subst q2_) | (simp [go_sem] at q_; have q2_ : q = some _ := q_; subst q2_) | (simp [go_sem, *] at q_; have q2_ : q = some _ := q_; subst q2_)
                have q_ := x2.bel.frozen (p := ⟨x1.val.heap.size, 2, none⟩) (by first | omega | (simp; done) | (simp; omega))
                generalize z_x2_2_2 : x2.val.frozen? ⟨x1.val.heap.size, 2, none⟩ = q at q_
                first | (have q2_ : q = false := q_; subst q2_) | (simp [go_sem] at q_; have q2_ : q = false := q_; subst q2_) | (simp [go_sem, *] at q_; have q2_ : q = false := q_; subst q2_)
                have q_ := x2.bel.cell (p := ⟨x1.val.heap.size, 3, none⟩) (by first | omega | (simp; done) | (simp; omega))
                generalize c_x2_2_3 : x2.val.cell? ⟨x1.val.heap.size, 3, none⟩ = q at q_
                first | (have q2_ : q = some _ := q_; subst q2_) | (simp [go_sem] at q_; have q2_ : q = some _ := q_; subst q2_) | (simp [go_sem, *] at q_; have q2_ : q = some _ := q_; subst q2_)
                have q_ := x2.bel.frozen (p := ⟨x1.val.heap.size, 3, none⟩) (by first | omega | (simp; done) | (simp; omega))
                generalize z_x2_2_3 : x2.val.frozen? ⟨x1.val.heap.size, 3, none⟩ = q at q_
                first | (have q2_ : q = false := q_; subst q2_) | (simp [go_sem] at q_; have q2_ : q = false := q_; subst q2_) | (simp [go_sem, *] at q_; have q2_ : q = false := q_; subst q2_)
                have q_ := x2.bel.cell (p := ⟨x1.val.heap.size, 4, none⟩) (by first | omega | (simp; done) | (simp; omega))
                generalize c_x2_2_4 : x2.val.cell? ⟨x1.val.heap.size, 4, none⟩ = q at q_
                first | (have q2_ : q = some _ := q_; subst q2_) | (simp [go_sem] at q_; have q2_ : q = some _ := q_; subst q2_) | (simp [go_sem, *] at q_; have q2_ : q = some _ := q_; subst q2_)
                have q_ := x2.bel.frozen (p := ⟨x1.val.heap.size, 4, none⟩) (by first | omega | (simp; done) | (simp; omega))
                generalize z_x2_2_4 : x2.val.frozen? ⟨x1.val.heap.size, 4, none⟩ = q at q_
                first | (have q2_ : q = false := q_; subst q2_) | (simp [go_sem] at q_; have q2_ : q = false := q_; subst q2_) | (simp [go_sem, *] at q_; have q2_ : q = false := q_; subst q2_)
                skip))
              refine bodyPost_ret (v := .tuple #[.agg #[.int .i64 (room1 : Int), .int .i64 (safe1 : Int), .int .i64 zl1, .slice A' k c', .bool off1], .int .i64 0]) (by simp [results, Try.results34, go_sem, *]) rfl (RdP.own (A' := A') (c' := c') (base := x1.val.heap.size + 1) (by simp [Dk.R, HTK.out, HZ1.out, hmin.out]) HTK.out (by repeat (first | with_reducible exact HO.out | refine own_set ?_ (by omega) | refine own_below ?_ (bel_alloc (Below.refl _ _) _))) (by omega) (by repeat (first | with_reducible exact Below.refl _ _ | with_reducible refine bel_later _ ?_ | with_reducible refine bel_alloc ?_ _ | refine bel_set ?_ (by first | omega | (simp; done) | (simp; omega)) _ | with_reducible refine Below.drew ?_ | with_reducible refine bel_drewN ?_ _ | with_reducible assumption | assumption)))
  · rw [if_pos rfl] at hC
    subst hC
    go_enter Try.func34, Try.ntmps34
    go_wp2
    refine bodyPost_ret (v := .tuple #[.agg #[.int .i64 (room1 : Int), .int .i64 (safe1 : Int), .int .i64 zl, .slice A m c, .bool true], .int .i64 6]) (by simp [results, Try.results34, go_sem, *]) rfl (RdP.of HB.out rfl (by simp [Dk.R, HM.out, HZ.out]) (by repeat (first | with_reducible exact Below.refl _ _ | with_reducible refine bel_later _ ?_ | with_reducible refine bel_alloc ?_ _ | refine bel_set ?_ (by first | omega | (simp; done) | (simp; omega)) _ | with_reducible refine Below.drew ?_ | with_reducible refine bel_drewN ?_ _ | with_reducible assumption | assumption)))
end Go.Proofs.Ytpjdgnoekplldaa
