/- The walk of StageOne. -/
import Derived.Test.YtopkncbpkccfbaaStgA
namespace Go.Proofs.Ytopkncbpkccfbaa
open Go.RowKit
set_option linter.unusedVariables false
attribute [local go_sem] Later.cell Later.frozen setCell_twice
theorem Blks.one {w : World} {b : Blk} {t : TypeId} {g : Nat} (hg : g = w.heap.size) (h : b.Ok w w.heap.size) : Blks (w.alloc (.cells #[.int .i64 b.a, .slice b.A b.ws.length b.c] t)) (w.alloc (.cells #[.int .i64 b.a, .slice b.A b.ws.length b.c] t)).heap.size (some ⟨g, 0, none⟩) [b] := by
  subst hg
  refine ⟨fun _ => ⟨w.heap.size, 0, rfl, by simp, fun j x hx i v hv => ?_⟩, fun x hx => ?_⟩
  · have hj : j = 0 := by
      rcases Nat.lt_or_ge j 1 with h1 | h1
      · omega
      · rw [List.getElem?_eq_none (by simpa using h1)] at hx; cases hx
    subst hj
    obtain rfl : b = x := by simpa using hx
    rw [cell_of_row _ _ _ _ _ _ (heap_alloc_new w _)]
    simpa using hv
  · obtain rfl : x = b := by simpa using hx
    exact h.to (bel_alloc (Below.refl _ _) _)
theorem words_ok {o t : Nat} {k a : Int} {ws : List Nat} (h : (Stg.words o t k a ws).2 = 0) : 0 ≤ k ∧ k ≤ 7 ∧ Bk.fits a ws.length = true ∧ (Stg.words o t k a ws).1 = Stg.tagged o t k.toNat a ws := by
  unfold Stg.words at h ⊢
  split at h
  · exact absurd h (by decide)
  rename_i h1
  split at h
  · rename_i h2
    rw [if_neg h1, if_pos h2]
    exact ⟨by omega, by omega, h2, rfl⟩
  · exact absurd h (by decide)
theorem words_same {o p t u : Nat} {n m : Int} {x y : Bk.Pr} (h1 : (Stg.words o t n x.1 x.2).2 = 0) (h2 : (Stg.words p u m y.1 y.2).2 = 0) :
    (Stg.words o t n x.1 x.2).1 = (Stg.words p u m y.1 y.2).1 ↔ o = p ∧ t = u ∧ n = m ∧ x = y := by
  obtain ⟨a1, a2, a3, a4⟩ := words_ok h1
  obtain ⟨b1, b2, b3, b4⟩ := words_ok h2
  rw [a4, b4, Stg.tagged_inj a3 b3 (by omega) (by omega)]
  obtain ⟨xa, xw⟩ := x
  obtain ⟨ya, yw⟩ := y
  simp only [Prod.mk.injEq]
  constructor
  · rintro ⟨h1, h2, h3, h4, h5⟩; exact ⟨h1, h2, by omega, h4, h5⟩
  · rintro ⟨h1, h2, h3, h4, h5⟩; exact ⟨h1, h2, by omega, h4, h5⟩
theorem Blk.Ok.lim {w : World} {B : Nat} {b : Blk} (h : b.Ok w B) : b.ws.length ≤ 9223372036854775807 := Nat.le_trans h.ln h.cap
set_option maxRecDepth 100000 in
set_option maxHeartbeats 1000000 in
theorem stageOne_walk (o p t u : Nat) (n m : Int) (x y : Blk) (w : World) (ho : o < 65536) (hp : p < 65536) (ht : t < 4294967296) (hu : u < 4294967296) (hx : x.Ok w w.heap.size) (hy : y.Ok w w.heap.size) :
    Calls Try.prog 4 #[.int .u16 (o : Int), .int .u16 (p : Int), .int .u32 (t : Int), .int .u32 (u : Int), .int .i64 n, .int .i64 m, .agg #[.int .i64 x.a, .slice x.A x.ws.length x.c], .agg #[.int .i64 y.a, .slice y.A y.ws.length y.c]] w fun e w' => e = .returned (.bool true) ∧ Below w.heap.size w w' := by
  by_cases h1 : 100 < x.ws.length
  · have g1 : decide ((100 : Int) < (x.ws.length : Int)) = true := by simp; omega
    go_enter Try.func4, Try.ntmps4
    go_wp2_with fail
    refine (awake_any _).mono ?_
    rintro e_x1 w_x1 ⟨rfl, hb_x1⟩
    obtain ⟨x1, rfl⟩ := later_is hb_x1
    clear hb_x1
    have hz_x1 := x1.bel.size
    try simp at hz_x1
    go_wp2
    go_ret
    exact ⟨rfl, (by repeat (first | exact Below.refl _ _ | refine bel_later _ ?_ | refine bel_alloc ?_ _ | refine bel_set ?_ (by first | omega | (simp; done) | (simp; omega)) _ | refine Below.drew ?_ | refine bel_drewN ?_ _ | assumption))⟩
  have g1 : decide ((100 : Int) < (x.ws.length : Int)) = false := by simp; omega
  by_cases h2 : 100 < y.ws.length
  · have g2 : decide ((100 : Int) < (y.ws.length : Int)) = true := by simp; omega
    go_enter Try.func4, Try.ntmps4
    go_wp2_with fail
    refine (awake_any _).mono ?_
    rintro e_x1 w_x1 ⟨rfl, hb_x1⟩
    obtain ⟨x1, rfl⟩ := later_is hb_x1
    clear hb_x1
    have hz_x1 := x1.bel.size
    try simp at hz_x1
    go_wp2
    go_ret
    exact ⟨rfl, (by repeat (first | exact Below.refl _ _ | refine bel_later _ ?_ | refine bel_alloc ?_ _ | refine bel_set ?_ (by first | omega | (simp; done) | (simp; omega)) _ | refine Below.drew ?_ | refine bel_drewN ?_ _ | assumption))⟩
  have g2 : decide ((100 : Int) < (y.ws.length : Int)) = false := by simp; omega
  have hl1 := Stg.words_u16 (n := n) (a := x.a) ho ht hx.u
  have hl2 := Stg.words_u16 (n := m) (a := y.a) hp hu hy.u
  have hL1 := Stg.words_length o t n x.a x.ws
  have hL2 := Stg.words_length p u m y.a y.ws
  have kx := Lib.hid (fun W (h : Below w.heap.size w W) => words_any o t n x.a x.ws x.A x.c _ W ho ht rfl (hx.to h).sq hx.lo hx.hi hx.lim hx.nl)
  have ky := Lib.hid (fun W (h : Below w.heap.size w W) => words_any p u m y.a y.ws y.A y.c _ W hp hu rfl (hy.to h).sq hy.lo hy.hi hy.lim hy.nl)
  have HS := Lib.hid (words_same (o := o) (p := p) (t := t) (u := u) (n := n) (m := m) (x := x.pr) (y := y.pr))
  generalize Stg.words o t n x.a x.ws = ra at *
  generalize Stg.words p u m y.a y.ws = rb at *
  obtain ⟨la, ea⟩ := ra
  obtain ⟨lb, eb⟩ := rb
  simp only at hl1 hl2 hL1 hL2 HS
  clear h1 h2
  by_cases q1 : o = p
  · by_cases q2 : t = u
    · by_cases q3 : n = m
      · subst q1 q2 q3
        obtain ⟨r, hr⟩ : ∃ r, decide (prs [x] = prs [y]) = r := ⟨_, rfl⟩
        have kxo := Lib.hid (fun W (h : Below w.heap.size w W) => hx.to h)
        have kyo := Lib.hid (fun W (h : Below w.heap.size w W) => hy.to h)
        have hx100 : x.ws.length ≤ 100 := by have := g1; simp at this; omega
        have hlx : ∀ b ∈ [x], b.ws.length ≤ 140737488355328 := by
          intro b hb
          obtain rfl : b = x := by simpa using hb
          omega
        have HR := Lib.hid hr
        clear hr
        by_cases he : ea = 0
        · subst he
          by_cases hf : eb = 0
          · subst hf
            have HD : Hid (decide (la = lb) = r) := Lib.hid (by
              rw [← HR.out, decide_eq_decide, HS.out rfl rfl]
              simp)
            go_enter Try.func4, Try.ntmps4
            go_wp2_with fail
            with_reducible refine (kx.out _ (by repeat (first | exact Below.refl _ _ | refine bel_later _ ?_ | refine bel_alloc ?_ _ | refine bel_set ?_ (by first | omega | (simp; done) | (simp; omega)) _ | refine Below.drew ?_ | refine bel_drewN ?_ _ | assumption))).mono ?_
            rintro e_x1 w_x1 ⟨Ax1, cx1, rfl, ox1, hb_x1⟩
            obtain ⟨x1, rfl⟩ := later_is hb_x1
            clear hb_x1
            have hz_x1 := x1.bel.size
            try simp at hz_x1
            have l_x1_0 : w.heap.size < x1.val.heap.size := by omega
            have m_x1_0 : w.heap.size < x1.val.heap.size + 1 := by omega
            have q_ := x1.bel.cell (p := ⟨w.heap.size, 0, none⟩) (by first | omega | (simp; done) | (simp; omega))
            generalize c_x1_0_0 : x1.val.cell? ⟨w.heap.size, 0, none⟩ = q at q_
            first | (have q2_ : q = some _ := q_; subst q2_) | (simp [go_sem] at q_; have q2_ : q = some _ := q_; subst q2_) | (simp [go_sem, *] at q_; have q2_ : q = some _ := q_; subst q2_)
            have q_ := x1.bel.frozen (p := ⟨w.heap.size, 0, none⟩) (by first | omega | (simp; done) | (simp; omega))
            generalize z_x1_0_0 : x1.val.frozen? ⟨w.heap.size, 0, none⟩ = q at q_
            first | (have q2_ : q = false := q_; subst q2_) | (simp [go_sem] at q_; have q2_ : q = false := q_; subst q2_) | (simp [go_sem, *] at q_; have q2_ : q = false := q_; subst q2_)
            have q_ := x1.bel.cell (p := ⟨w.heap.size, 1, none⟩) (by first | omega | (simp; done) | (simp; omega))
            generalize c_x1_0_1 : x1.val.cell? ⟨w.heap.size, 1, none⟩ = q at q_
            first | (have q2_ : q = some _ := q_; subst q2_) | (simp [go_sem] at q_; have q2_ : q = some _ := q_; subst q2_) | (simp [go_sem, *] at q_; have q2_ : q = some _ := q_; subst q2_)
            have q_ := x1.bel.frozen (p := ⟨w.heap.size, 1, none⟩) (by first | omega | (simp; done) | (simp; omega))
            generalize z_x1_0_1 : x1.val.frozen? ⟨w.heap.size, 1, none⟩ = q at q_
            first | (have q2_ : q = false := q_; subst q2_) | (simp [go_sem] at q_; have q2_ : q = false := q_; subst q2_) | (simp [go_sem, *] at q_; have q2_ : q = false := q_; subst q2_)
            have l_x1_1 : w.heap.size+1 < x1.val.heap.size := by omega
            have m_x1_1 : w.heap.size+1 < x1.val.heap.size + 1 := by omega
            have q_ := x1.bel.cell (p := ⟨w.heap.size+1, 0, none⟩) (by first | omega | (simp; done) | (simp; omega))
            generalize c_x1_1_0 : x1.val.cell? ⟨w.heap.size+1, 0, none⟩ = q at q_
            first | (have q2_ : q = some _ := q_; subst q2_) | (simp [go_sem] at q_; have q2_ : q = some _ := q_; subst q2_) | (simp [go_sem, *] at q_; have q2_ : q = some _ := q_; subst q2_)
            have q_ := x1.bel.frozen (p := ⟨w.heap.size+1, 0, none⟩) (by first | omega | (simp; done) | (simp; omega))
            generalize z_x1_1_0 : x1.val.frozen? ⟨w.heap.size+1, 0, none⟩ = q at q_
            first | (have q2_ : q = false := q_; subst q2_) | (simp [go_sem] at q_; have q2_ : q = false := q_; subst q2_) | (simp [go_sem, *] at q_; have q2_ : q = false := q_; subst q2_)
            have q_ := x1.bel.cell (p := ⟨w.heap.size+1, 1, none⟩) (by first | omega | (simp; done) | (simp; omega))
            generalize c_x1_1_1 : x1.val.cell? ⟨w.heap.size+1, 1, none⟩ = q at q_
            first | (have q2_ : q = some _ := q_; subst q2_) | (simp [go_sem] at q_; have q2_ : q = some _ := q_; subst q2_) | (simp [go_sem, *] at q_; have q2_ : q = some _ := q_; subst q2_)
            have q_ := x1.bel.frozen (p := ⟨w.heap.size+1, 1, none⟩) (by first | omega | (simp; done) | (simp; omega))
            generalize z_x1_1_1 : x1.val.frozen? ⟨w.heap.size+1, 1, none⟩ = q at q_
            first | (have q2_ : q = false := q_; subst q2_) | (simp [go_sem] at q_; have q2_ : q = false := q_; subst q2_) | (simp [go_sem, *] at q_; have q2_ : q = false := q_; subst q2_)
            go_wp2_with fail
            with_reducible refine (ky.out _ (by repeat (first | exact Below.refl _ _ | refine bel_later _ ?_ | refine bel_alloc ?_ _ | refine bel_set ?_ (by first | omega | (simp; done) | (simp; omega)) _ | refine Below.drew ?_ | refine bel_drewN ?_ _ | assumption))).mono ?_
            rintro e_x2 w_x2 ⟨Ax2, cx2, rfl, ox2, hb_x2⟩
            obtain ⟨x2, rfl⟩ := later_is hb_x2
            clear hb_x2
            have hz_x2 := x2.bel.size
            try simp at hz_x2
            have l_x2_0 : w.heap.size < x2.val.heap.size := by omega
            have m_x2_0 : w.heap.size < x2.val.heap.size + 1 := by omega
            have q_ := x2.bel.cell (p := ⟨w.heap.size, 0, none⟩) (by first | omega | (simp; done) | (simp; omega))
            generalize c_x2_0_0 : x2.val.cell? ⟨w.heap.size, 0, none⟩ = q at q_
            first | (have q2_ : q = some _ := q_; subst q2_) | (simp [go_sem] at q_; have q2_ : q = some _ := q_; subst q2_) | (simp [go_sem, *] at q_; have q2_ : q = some _ := q_; subst q2_)
            have q_ := x2.bel.frozen (p := ⟨w.heap.size, 0, none⟩) (by first | omega | (simp; done) | (simp; omega))
            generalize z_x2_0_0 : x2.val.frozen? ⟨w.heap.size, 0, none⟩ = q at q_
            first | (have q2_ : q = false := q_; subst q2_) | (simp [go_sem] at q_; have q2_ : q = false := q_; subst q2_) | (simp [go_sem, *] at q_; have q2_ : q = false := q_; subst q2_)
            have q_ := x2.bel.cell (p := ⟨w.heap.size, 1, none⟩) (by first | omega | (simp; done) | (simp; omega))
            generalize c_x2_0_1 : x2.val.cell? ⟨w.heap.size, 1, none⟩ = q at q_
            first | (have q2_ : q = some _ := q_; subst q2_) | (simp [go_sem] at q_; have q2_ : q = some _ := q_; subst q2_) | (simp [go_sem, *] at q_; have q2_ : q = some _ := q_; subst q2_)
            have q_ := x2.bel.frozen (p := ⟨w.heap.size, 1, none⟩) (by first | omega | (simp; done) | (simp; omega))
            generalize z_x2_0_1 : x2.val.frozen? ⟨w.heap.size, 1, none⟩ = q at q_
            first | (have q2_ : q = false := q_; subst q2_) | (simp [go_sem] at q_; have q2_ : q = false := q_; subst q2_) | (simp [go_sem, *] at q_; have q2_ : q = false := q_; subst q2_)
            have l_x2_1 : w.heap.size+1 < x2.val.heap.size := by omega
            have m_x2_1 : w.heap.size+1 < x2.val.heap.size + 1 := by omega
            have q_ := x2.bel.cell (p := ⟨w.heap.size+1, 0, none⟩) (by first | omega | (simp; done) | (simp; omega))
            generalize c_x2_1_0 : x2.val.cell? ⟨w.heap.size+1, 0, none⟩ = q at q_
            first | (have q2_ : q = some _ := q_; subst q2_) | (simp [go_sem] at q_; have q2_ : q = some _ := q_; subst q2_) | (simp [go_sem, *] at q_; have q2_ : q = some _ := q_; subst q2_)
            have q_ := x2.bel.frozen (p := ⟨w.heap.size+1, 0, none⟩) (by first | omega | (simp; done) | (simp; omega))
            generalize z_x2_1_0 : x2.val.frozen? ⟨w.heap.size+1, 0, none⟩ = q at q_
            first | (have q2_ : q = false := q_; subst q2_) | (simp [go_sem] at q_; have q2_ : q = false := q_; subst q2_) | (simp [go_sem, *] at q_; have q2_ : q = false := q_; subst q2_)
            have q_ := x2.bel.cell (p := ⟨w.heap.size+1, 1, none⟩) (by first | omega | (simp; done) | (simp; omega))
            generalize c_x2_1_1 : x2.val.cell? ⟨w.heap.size+1, 1, none⟩ = q at q_
            first | (have q2_ : q = some _ := q_; subst q2_) | (simp [go_sem] at q_; have q2_ : q = some _ := q_; subst q2_) | (simp [go_sem, *] at q_; have q2_ : q = some _ := q_; subst q2_)
            have q_ := x2.bel.frozen (p := ⟨w.heap.size+1, 1, none⟩) (by first | omega | (simp; done) | (simp; omega))
            generalize z_x2_1_1 : x2.val.frozen? ⟨w.heap.size+1, 1, none⟩ = q at q_
            first | (have q2_ : q = false := q_; subst q2_) | (simp [go_sem] at q_; have q2_ : q = false := q_; subst q2_) | (simp [go_sem, *] at q_; have q2_ : q = false := q_; subst q2_)
            replace ox1 := own_below ox1 x2.bel
            have ks := Lib.hid (sameBlocks_any (some ⟨x2.val.heap.size, 0, none⟩) (some ⟨x2.val.heap.size + 1, 0, none⟩) [x] [y] 1 1 1 1 r _ rfl rfl ((Blks.one (t := 26) rfl (kxo.out x2.val (bel_later x2 (bel_later x1 (bel_alloc (bel_alloc (Below.refl _ _) _) _))))).to (bel_alloc (Below.refl _ _) _)) (Blks.one (t := 26) (by simp) ((kyo.out x2.val (bel_later x2 (bel_later x1 (bel_alloc (bel_alloc (Below.refl _ _) _) _)))).to (bel_alloc (Below.refl _ _) _))) (by simp) hlx HR.out)
            go_wp2_with fail
            refine (ks.out).mono ?_
            rintro e_x3 w_x3 ⟨rfl, hb_x3⟩
            obtain ⟨x3, rfl⟩ := later_is hb_x3
            clear hb_x3
            have hz_x3 := x3.bel.size
            try simp at hz_x3
            replace ox1 := own_below ((ox1.alloc _).alloc _) x3.bel
            replace ox2 := own_below ((ox2.alloc _).alloc _) x3.bel
            go_wp2_with fail
            refine (lowWords_any Ax1 Ax2 la lb _ _ _ _ r x3.val rfl rfl (Sq.of_own ox1) (Sq.of_own ox2) (by omega) HD.out).mono ?_
            rintro e_x4 w_x4 ⟨rfl, hb_x4⟩
            obtain ⟨x4, rfl⟩ := later_is hb_x4
            clear hb_x4
            have hz_x4 := x4.bel.size
            try simp at hz_x4
            cases r <;> (
              go_wp2_with fail
              refine (awake_any _).mono ?_
              rintro e_x5 w_x5 ⟨rfl, hb_x5⟩
              obtain ⟨x5, rfl⟩ := later_is hb_x5
              clear hb_x5
              have hz_x5 := x5.bel.size
              try simp at hz_x5
              go_wp2
              go_ret
              exact ⟨rfl, (by repeat (first | exact Below.refl _ _ | refine bel_later _ ?_ | refine bel_alloc ?_ _ | refine bel_set ?_ (by first | omega | (simp; done) | (simp; omega)) _ | refine Below.drew ?_ | refine bel_drewN ?_ _ | assumption))⟩)
          · have f2 : (eb != 0) = true := by rw [bne_iff_ne]; exact hf
            clear hf
            go_enter Try.func4, Try.ntmps4
            go_wp2_with fail
            with_reducible refine (kx.out _ (by repeat (first | exact Below.refl _ _ | refine bel_later _ ?_ | refine bel_alloc ?_ _ | refine bel_set ?_ (by first | omega | (simp; done) | (simp; omega)) _ | refine Below.drew ?_ | refine bel_drewN ?_ _ | assumption))).mono ?_
            rintro e_x1 w_x1 ⟨Ax1, cx1, rfl, ox1, hb_x1⟩
            obtain ⟨x1, rfl⟩ := later_is hb_x1
            clear hb_x1
            have hz_x1 := x1.bel.size
            try simp at hz_x1
            have l_x1_0 : w.heap.size < x1.val.heap.size := by omega
            have m_x1_0 : w.heap.size < x1.val.heap.size + 1 := by omega
            have q_ := x1.bel.cell (p := ⟨w.heap.size, 0, none⟩) (by first | omega | (simp; done) | (simp; omega))
            generalize c_x1_0_0 : x1.val.cell? ⟨w.heap.size, 0, none⟩ = q at q_
            first | (have q2_ : q = some _ := q_; subst q2_) | (simp [go_sem] at q_; have q2_ : q = some _ := q_; subst q2_) | (simp [go_sem, *] at q_; have q2_ : q = some _ := q_; subst q2_)
            have q_ := x1.bel.frozen (p := ⟨w.heap.size, 0, none⟩) (by first | omega | (simp; done) | (simp; omega))
            generalize z_x1_0_0 : x1.val.frozen? ⟨w.heap.size, 0, none⟩ = q at q_
            first | (have q2_ : q = false := q_; subst q2_) | (simp [go_sem] at q_; have q2_ : q = false := q_; subst q2_) | (simp [go_sem, *] at q_; have q2_ : q = false := q_; subst q2_)
            have q_ := x1.bel.cell (p := ⟨w.heap.size, 1, none⟩) (by first | omega | (simp; done) | (simp; omega))
            generalize c_x1_0_1 : x1.val.cell? ⟨w.heap.size, 1, none⟩ = q at q_
            first | (have q2_ : q = some _ := q_; subst q2_) | (simp [go_sem] at q_; have q2_ : q = some _ := q_; subst q2_) | (simp [go_sem, *] at q_; have q2_ : q = some _ := q_; subst q2_)
            have q_ := x1.bel.frozen (p := ⟨w.heap.size, 1, none⟩) (by first | omega | (simp; done) | (simp; omega))
            generalize z_x1_0_1 : x1.val.frozen? ⟨w.heap.size, 1, none⟩ = q at q_
            first | (have q2_ : q = false := q_; subst q2_) | (simp [go_sem] at q_; have q2_ : q = false := q_; subst q2_) | (simp [go_sem, *] at q_; have q2_ : q = false := q_; subst q2_)
            have l_x1_1 : w.heap.size+1 < x1.val.heap.size := by omega
            have m_x1_1 : w.heap.size+1 < x1.val.heap.size + 1 := by omega
            have q_ := x1.bel.cell (p := ⟨w.heap.size+1, 0, none⟩) (by first | omega | (simp; done) | (simp; omega))
            generalize c_x1_1_0 : x1.val.cell? ⟨w.heap.size+1, 0, none⟩ = q at q_
            first | (have q2_ : q = some _ := q_; subst q2_) | (simp [go_sem] at q_; have q2_ : q = some _ := q_; subst q2_) | (simp [go_sem, *] at q_; have q2_ : q = some _ := q_; subst q2_)
            have q_ := x1.bel.frozen (p := ⟨w.heap.size+1, 0, none⟩) (by first | omega | (simp; done) | (simp; omega))
            generalize z_x1_1_0 : x1.val.frozen? ⟨w.heap.size+1, 0, none⟩ = q at q_
            first | (have q2_ : q = false := q_; subst q2_) | (simp [go_sem] at q_; have q2_ : q = false := q_; subst q2_) | (simp [go_sem, *] at q_; have q2_ : q = false := q_; subst q2_)
            have q_ := x1.bel.cell (p := ⟨w.heap.size+1, 1, none⟩) (by first | omega | (simp; done) | (simp; omega))
            generalize c_x1_1_1 : x1.val.cell? ⟨w.heap.size+1, 1, none⟩ = q at q_
            first | (have q2_ : q = some _ := q_; subst q2_) | (simp [go_sem] at q_; have q2_ : q = some _ := q_; subst q2_) | (simp [go_sem, *] at q_; have q2_ : q = some _ := q_; subst q2_)
            have q_ := x1.bel.frozen (p := ⟨w.heap.size+1, 1, none⟩) (by first | omega | (simp; done) | (simp; omega))
            generalize z_x1_1_1 : x1.val.frozen? ⟨w.heap.size+1, 1, none⟩ = q at q_
            first | (have q2_ : q = false := q_; subst q2_) | (simp [go_sem] at q_; have q2_ : q = false := q_; subst q2_) | (simp [go_sem, *] at q_; have q2_ : q = false := q_; subst q2_)
            go_wp2_with fail
            with_reducible refine (ky.out _ (by repeat (first | exact Below.refl _ _ | refine bel_later _ ?_ | refine bel_alloc ?_ _ | refine bel_set ?_ (by first | omega | (simp; done) | (simp; omega)) _ | refine Below.drew ?_ | refine bel_drewN ?_ _ | assumption))).mono ?_
            rintro e_x2 w_x2 ⟨Ax2, cx2, rfl, ox2, hb_x2⟩
            obtain ⟨x2, rfl⟩ := later_is hb_x2
            clear hb_x2
            have hz_x2 := x2.bel.size
            try simp at hz_x2
            have l_x2_0 : w.heap.size < x2.val.heap.size := by omega
            have m_x2_0 : w.heap.size < x2.val.heap.size + 1 := by omega
            have q_ := x2.bel.cell (p := ⟨w.heap.size, 0, none⟩) (by first | omega | (simp; done) | (simp; omega))
            generalize c_x2_0_0 : x2.val.cell? ⟨w.heap.size, 0, none⟩ = q at q_
            first | (have q2_ : q = some _ := q_; subst q2_) | (simp [go_sem] at q_; have q2_ : q = some _ := q_; subst q2_) | (simp [go_sem, *] at q_; have q2_ : q = some _ := q_; subst q2_)
            have q_ := x2.bel.frozen (p := ⟨w.heap.size, 0, none⟩) (by first | omega | (simp; done) | (simp; omega))
            generalize z_x2_0_0 : x2.val.frozen? ⟨w.heap.size, 0, none⟩ = q at q_
            first | (have q2_ : q = false := q_; subst q2_) | (simp [go_sem] at q_; have q2_ : q = false := q_; subst q2_) | (simp [go_sem, *] at q_; have q2_ : q = false := q_; subst q2_)
            have q_ := x2.bel.cell (p := ⟨w.heap.size, 1, none⟩) (by first | omega | (simp; done) | (simp; omega))
            generalize c_x2_0_1 : x2.val.cell? ⟨w.heap.size, 1, none⟩ = q at q_
            first | (have q2_ : q = some _ := q_; subst q2_) | (simp [go_sem] at q_; have q2_ : q = some _ := q_; subst q2_) | (simp [go_sem, *] at q_; have q2_ : q = some _ := q_; subst q2_)
            have q_ := x2.bel.frozen (p := ⟨w.heap.size, 1, none⟩) (by first | omega | (simp; done) | (simp; omega))
            generalize z_x2_0_1 : x2.val.frozen? ⟨w.heap.size, 1, none⟩ = q at q_
            first | (have q2_ : q = false := q_; subst q2_) | (simp [go_sem] at q_; have q2_ : q = false := q_; subst q2_) | (simp [go_sem, *] at q_; have q2_ : q = false := q_; subst q2_)
            have l_x2_1 : w.heap.size+1 < x2.val.heap.size := by omega
            have m_x2_1 : w.heap.size+1 < x2.val.heap.size + 1 := by omega
            have q_ := x2.bel.cell (p := ⟨w.heap.size+1, 0, none⟩) (by first | omega | (simp; done) | (simp; omega))
            generalize c_x2_1_0 : x2.val.cell? ⟨w.heap.size+1, 0, none⟩ = q at q_
            first | (have q2_ : q = some _ := q_; subst q2_) | (simp [go_sem] at q_; have q2_ : q = some _ := q_; subst q2_) | (simp [go_sem, *] at q_; have q2_ : q = some _ := q_; subst q2_)
            have q_ := x2.bel.frozen (p := ⟨w.heap.size+1, 0, none⟩) (by first | omega | (simp; done) | (simp; omega))
            generalize z_x2_1_0 : x2.val.frozen? ⟨w.heap.size+1, 0, none⟩ = q at q_
            first | (have q2_ : q = false := q_; subst q2_) | (simp [go_sem] at q_; have q2_ : q = false := q_; subst q2_) | (simp [go_sem, *] at q_; have q2_ : q = false := q_; subst q2_)
            have q_ := x2.bel.cell (p := ⟨w.heap.size+1, 1, none⟩) (by first | omega | (simp; done) | (simp; omega))
            generalize c_x2_1_1 : x2.val.cell? ⟨w.heap.size+1, 1, none⟩ = q at q_
            first | (have q2_ : q = some _ := q_; subst q2_) | (simp [go_sem] at q_; have q2_ : q = some _ := q_; subst q2_) | (simp [go_sem, *] at q_; have q2_ : q = some _ := q_; subst q2_)
            have q_ := x2.bel.frozen (p := ⟨w.heap.size+1, 1, none⟩) (by first | omega | (simp; done) | (simp; omega))
            generalize z_x2_1_1 : x2.val.frozen? ⟨w.heap.size+1, 1, none⟩ = q at q_
            first | (have q2_ : q = false := q_; subst q2_) | (simp [go_sem] at q_; have q2_ : q = false := q_; subst q2_) | (simp [go_sem, *] at q_; have q2_ : q = false := q_; subst q2_)
            replace ox1 := own_below ox1 x2.bel
            have ks := Lib.hid (sameBlocks_any (some ⟨x2.val.heap.size, 0, none⟩) (some ⟨x2.val.heap.size + 1, 0, none⟩) [x] [y] 1 1 1 1 r _ rfl rfl ((Blks.one (t := 26) rfl (kxo.out x2.val (bel_later x2 (bel_later x1 (bel_alloc (bel_alloc (Below.refl _ _) _) _))))).to (bel_alloc (Below.refl _ _) _)) (Blks.one (t := 26) (by simp) ((kyo.out x2.val (bel_later x2 (bel_later x1 (bel_alloc (bel_alloc (Below.refl _ _) _) _)))).to (bel_alloc (Below.refl _ _) _))) (by simp) hlx HR.out)
            go_wp2_with fail
            refine (ks.out).mono ?_
            rintro e_x3 w_x3 ⟨rfl, hb_x3⟩
            obtain ⟨x3, rfl⟩ := later_is hb_x3
            clear hb_x3
            have hz_x3 := x3.bel.size
            try simp at hz_x3
            replace ox1 := own_below ((ox1.alloc _).alloc _) x3.bel
            replace ox2 := own_below ((ox2.alloc _).alloc _) x3.bel
            go_wp2_with fail
            refine (awake_any _).mono ?_
            rintro e_x5 w_x5 ⟨rfl, hb_x5⟩
            obtain ⟨x5, rfl⟩ := later_is hb_x5
            clear hb_x5
            have hz_x5 := x5.bel.size
            try simp at hz_x5
            go_wp2
            go_ret
            exact ⟨rfl, (by repeat (first | exact Below.refl _ _ | refine bel_later _ ?_ | refine bel_alloc ?_ _ | refine bel_set ?_ (by first | omega | (simp; done) | (simp; omega)) _ | refine Below.drew ?_ | refine bel_drewN ?_ _ | assumption))⟩
        · have f1 : (ea != 0) = true := by rw [bne_iff_ne]; exact he
          clear he
          go_enter Try.func4, Try.ntmps4
          go_wp2_with fail
          with_reducible refine (kx.out _ (by repeat (first | exact Below.refl _ _ | refine bel_later _ ?_ | refine bel_alloc ?_ _ | refine bel_set ?_ (by first | omega | (simp; done) | (simp; omega)) _ | refine Below.drew ?_ | refine bel_drewN ?_ _ | assumption))).mono ?_
          rintro e_x1 w_x1 ⟨Ax1, cx1, rfl, ox1, hb_x1⟩
          obtain ⟨x1, rfl⟩ := later_is hb_x1
          clear hb_x1
          have hz_x1 := x1.bel.size
          try simp at hz_x1
          have l_x1_0 : w.heap.size < x1.val.heap.size := by omega
          have m_x1_0 : w.heap.size < x1.val.heap.size + 1 := by omega
          have q_ := x1.bel.cell (p := ⟨w.heap.size, 0, none⟩) (by first | omega | (simp; done) | (simp; omega))
          generalize c_x1_0_0 : x1.val.cell? ⟨w.heap.size, 0, none⟩ = q at q_
          first | (have q2_ : q = some _ := q_; subst q2_) | (simp [go_sem] at q_; have q2_ : q = some _ := q_; subst q2_) | (simp [go_sem, *] at q_; have q2_ : q = some _ := q_; subst q2_)
          have q_ := x1.bel.frozen (p := ⟨w.heap.size, 0, none⟩) (by first | omega | (simp; done) | (simp; omega))
          generalize z_x1_0_0 : x1.val.frozen? ⟨w.heap.size, 0, none⟩ = q at q_
          first | (have q2_ : q = false := q_; subst q2_) | (simp [go_sem] at q_; have q2_ : q = false := q_; subst q2_) | (simp [go_sem, *] at q_; have q2_ : q = false := q_; subst q2_)
          have q_ := x1.bel.cell (p := ⟨w.heap.size, 1, none⟩) (by first | omega | (simp; done) | (simp; omega))
          generalize c_x1_0_1 : x1.val.cell? ⟨w.heap.size, 1, none⟩ = q at q_
          first | (have q2_ : q = some _ := q_; subst q2_) | (simp [go_sem] at q_; have q2_ : q = some _ := q_; subst q2_) | (simp [go_sem, *] at q_; have q2_ : q = some _ := q_; subst q2_)
          have q_ := x1.bel.frozen (p := ⟨w.heap.size, 1, none⟩) (by first | omega | (simp; done) | (simp; omega))
          generalize z_x1_0_1 : x1.val.frozen? ⟨w.heap.size, 1, none⟩ = q at q_
          first | (have q2_ : q = false := q_; subst q2_) | (simp [go_sem] at q_; have q2_ : q = false := q_; subst q2_) | (simp [go_sem, *] at q_; have q2_ : q = false := q_; subst q2_)
          have l_x1_1 : w.heap.size+1 < x1.val.heap.size := by omega
          have m_x1_1 : w.heap.size+1 < x1.val.heap.size + 1 := by omega
          have q_ := x1.bel.cell (p := ⟨w.heap.size+1, 0, none⟩) (by first | omega | (simp; done) | (simp; omega))
          generalize c_x1_1_0 : x1.val.cell? ⟨w.heap.size+1, 0, none⟩ = q at q_
          first | (have q2_ : q = some _ := q_; subst q2_) | (simp [go_sem] at q_; have q2_ : q = some _ := q_; subst q2_) | (simp [go_sem, *] at q_; have q2_ : q = some _ := q_; subst q2_)
          have q_ := x1.bel.frozen (p := ⟨w.heap.size+1, 0, none⟩) (by first | omega | (simp; done) | (simp; omega))
          generalize z_x1_1_0 : x1.val.frozen? ⟨w.heap.size+1, 0, none⟩ = q at q_
          first | (have q2_ : q = false := q_; subst q2_) | (simp [go_sem] at q_; have q2_ : q = false := q_; subst q2_) | (simp [go_sem, *] at q_; have q2_ : q = false := q_; subst q2_)
          have q_ := x1.bel.cell (p := ⟨w.heap.size+1, 1, none⟩) (by first | omega | (simp; done) | (simp; omega))
          generalize c_x1_1_1 : x1.val.cell? ⟨w.heap.size+1, 1, none⟩ = q at q_
          first | (have q2_ : q = some _ := q_; subst q2_) | (simp [go_sem] at q_; have q2_ : q = some _ := q_; subst q2_) | (simp [go_sem, *] at q_; have q2_ : q = some _ := q_; subst q2_)
          have q_ := x1.bel.frozen (p := ⟨w.heap.size+1, 1, none⟩) (by first | omega | (simp; done) | (simp; omega))
          generalize z_x1_1_1 : x1.val.frozen? ⟨w.heap.size+1, 1, none⟩ = q at q_
          first | (have q2_ : q = false := q_; subst q2_) | (simp [go_sem] at q_; have q2_ : q = false := q_; subst q2_) | (simp [go_sem, *] at q_; have q2_ : q = false := q_; subst q2_)
          go_wp2_with fail
          with_reducible refine (ky.out _ (by repeat (first | exact Below.refl _ _ | refine bel_later _ ?_ | refine bel_alloc ?_ _ | refine bel_set ?_ (by first | omega | (simp; done) | (simp; omega)) _ | refine Below.drew ?_ | refine bel_drewN ?_ _ | assumption))).mono ?_
          rintro e_x2 w_x2 ⟨Ax2, cx2, rfl, ox2, hb_x2⟩
          obtain ⟨x2, rfl⟩ := later_is hb_x2
          clear hb_x2
          have hz_x2 := x2.bel.size
          try simp at hz_x2
          have l_x2_0 : w.heap.size < x2.val.heap.size := by omega
          have m_x2_0 : w.heap.size < x2.val.heap.size + 1 := by omega
          have q_ := x2.bel.cell (p := ⟨w.heap.size, 0, none⟩) (by first | omega | (simp; done) | (simp; omega))
          generalize c_x2_0_0 : x2.val.cell? ⟨w.heap.size, 0, none⟩ = q at q_
          first | (have q2_ : q = some _ := q_; subst q2_) | (simp [go_sem] at q_; have q2_ : q = some _ := q_; subst q2_) | (simp [go_sem, *] at q_; have q2_ : q = some _ := q_; subst q2_)
          have q_ := x2.bel.frozen (p := ⟨w.heap.size, 0, none⟩) (by first | omega | (simp; done) | (simp; omega))
          generalize z_x2_0_0 : x2.val.frozen? ⟨w.heap.size, 0, none⟩ = q at q_
          first | (have q2_ : q = false := q_; subst q2_) | (simp [go_sem] at q_; have q2_ : q = false := q_; subst q2_) | (simp [go_sem, *] at q_; have q2_ : q = false := q_; subst q2_)
          have q_ := x2.bel.cell (p := ⟨w.heap.size, 1, none⟩) (by first | omega | (simp; done) | (simp; omega))
          generalize c_x2_0_1 : x2.val.cell? ⟨w.heap.size, 1, none⟩ = q at q_
          first | (have q2_ : q = some _ := q_; subst q2_) | (simp [go_sem] at q_; have q2_ : q = some _ := q_; subst q2_) | (simp [go_sem, *] at q_; have q2_ : q = some _ := q_; subst q2_)
          have q_ := x2.bel.frozen (p := ⟨w.heap.size, 1, none⟩) (by first | omega | (simp; done) | (simp; omega))
          generalize z_x2_0_1 : x2.val.frozen? ⟨w.heap.size, 1, none⟩ = q at q_
          first | (have q2_ : q = false := q_; subst q2_) | (simp [go_sem] at q_; have q2_ : q = false := q_; subst q2_) | (simp [go_sem, *] at q_; have q2_ : q = false := q_; subst q2_)
          have l_x2_1 : w.heap.size+1 < x2.val.heap.size := by omega
          have m_x2_1 : w.heap.size+1 < x2.val.heap.size + 1 := by omega
          have q_ := x2.bel.cell (p := ⟨w.heap.size+1, 0, none⟩) (by first | omega | (simp; done) | (simp; omega))
          generalize c_x2_1_0 : x2.val.cell? ⟨w.heap.size+1, 0, none⟩ = q at q_
          first | (have q2_ : q = some _ := q_; subst q2_) | (simp [go_sem] at q_; have q2_ : q = some _ := q_; subst q2_) | (simp [go_sem, *] at q_; have q2_ : q = some _ := q_; subst q2_)
          have q_ := x2.bel.frozen (p := ⟨w.heap.size+1, 0, none⟩) (by first | omega | (simp; done) | (simp; omega))
          generalize z_x2_1_0 : x2.val.frozen? ⟨w.heap.size+1, 0, none⟩ = q at q_
          first | (have q2_ : q = false := q_; subst q2_) | (simp [go_sem] at q_; have q2_ : q = false := q_; subst q2_) | (simp [go_sem, *] at q_; have q2_ : q = false := q_; subst q2_)
          have q_ := x2.bel.cell (p := ⟨w.heap.size+1, 1, none⟩) (by first | omega | (simp; done) | (simp; omega))
          generalize c_x2_1_1 : x2.val.cell? ⟨w.heap.size+1, 1, none⟩ = q at q_
          first | (have q2_ : q = some _ := q_; subst q2_) | (simp [go_sem] at q_; have q2_ : q = some _ := q_; subst q2_) | (simp [go_sem, *] at q_; have q2_ : q = some _ := q_; subst q2_)
          have q_ := x2.bel.frozen (p := ⟨w.heap.size+1, 1, none⟩) (by first | omega | (simp; done) | (simp; omega))
          generalize z_x2_1_1 : x2.val.frozen? ⟨w.heap.size+1, 1, none⟩ = q at q_
          first | (have q2_ : q = false := q_; subst q2_) | (simp [go_sem] at q_; have q2_ : q = false := q_; subst q2_) | (simp [go_sem, *] at q_; have q2_ : q = false := q_; subst q2_)
          replace ox1 := own_below ox1 x2.bel
          have ks := Lib.hid (sameBlocks_any (some ⟨x2.val.heap.size, 0, none⟩) (some ⟨x2.val.heap.size + 1, 0, none⟩) [x] [y] 1 1 1 1 r _ rfl rfl ((Blks.one (t := 26) rfl (kxo.out x2.val (bel_later x2 (bel_later x1 (bel_alloc (bel_alloc (Below.refl _ _) _) _))))).to (bel_alloc (Below.refl _ _) _)) (Blks.one (t := 26) (by simp) ((kyo.out x2.val (bel_later x2 (bel_later x1 (bel_alloc (bel_alloc (Below.refl _ _) _) _)))).to (bel_alloc (Below.refl _ _) _))) (by simp) hlx HR.out)
          go_wp2_with fail
          refine (ks.out).mono ?_
          rintro e_x3 w_x3 ⟨rfl, hb_x3⟩
          obtain ⟨x3, rfl⟩ := later_is hb_x3
          clear hb_x3
          have hz_x3 := x3.bel.size
          try simp at hz_x3
          replace ox1 := own_below ((ox1.alloc _).alloc _) x3.bel
          replace ox2 := own_below ((ox2.alloc _).alloc _) x3.bel
          go_wp2_with fail
          refine (awake_any _).mono ?_
          rintro e_x5 w_x5 ⟨rfl, hb_x5⟩
          obtain ⟨x5, rfl⟩ := later_is hb_x5
          clear hb_x5
          have hz_x5 := x5.bel.size
          try simp at hz_x5
          go_wp2
          go_ret
          exact ⟨rfl, (by repeat (first | exact Below.refl _ _ | refine bel_later _ ?_ | refine bel_alloc ?_ _ | refine bel_set ?_ (by first | omega | (simp; done) | (simp; omega)) _ | refine Below.drew ?_ | refine bel_drewN ?_ _ | assumption))⟩
      · have c3 : (n == m) = false := beq_eq_false_iff_ne.2 q3
        have c2 : ((t : Int) == (u : Int)) = true := by rw [beq_iff_eq]; omega
        have c1 : ((o : Int) == (p : Int)) = true := by rw [beq_iff_eq]; omega
        have HN : Hid (¬ (o = p ∧ t = u ∧ n = m ∧ x.pr = y.pr)) := Lib.hid (fun h => q3 h.2.2.1)
        clear q1 q2 q3
        by_cases he : ea = 0
        · subst he
          by_cases hf : eb = 0
          · subst hf
            have HD : Hid (decide (la = lb) = false) := Lib.hid (by
              rw [decide_eq_false_iff_not]
              intro h
              have h1 := (HS.out rfl rfl).1 h
              exact HN.out h1)
            go_enter Try.func4, Try.ntmps4
            go_wp2_with fail
            with_reducible refine (kx.out _ (by repeat (first | exact Below.refl _ _ | refine bel_later _ ?_ | refine bel_alloc ?_ _ | refine bel_set ?_ (by first | omega | (simp; done) | (simp; omega)) _ | refine Below.drew ?_ | refine bel_drewN ?_ _ | assumption))).mono ?_
            rintro e_x1 w_x1 ⟨Ax1, cx1, rfl, ox1, hb_x1⟩
            obtain ⟨x1, rfl⟩ := later_is hb_x1
            clear hb_x1
            have hz_x1 := x1.bel.size
            try simp at hz_x1
            have l_x1_0 : w.heap.size < x1.val.heap.size := by omega
            have m_x1_0 : w.heap.size < x1.val.heap.size + 1 := by omega
            have q_ := x1.bel.cell (p := ⟨w.heap.size, 0, none⟩) (by first | omega | (simp; done) | (simp; omega))
            generalize c_x1_0_0 : x1.val.cell? ⟨w.heap.size, 0, none⟩ = q at q_
            first | (have q2_ : q = some _ := q_; subst q2_) | (simp [go_sem] at q_; have q2_ : q = some _ := q_; subst q2_) | (simp [go_sem, *] at q_; have q2_ : q = some _ := q_; subst q2_)
            have q_ := x1.bel.frozen (p := ⟨w.heap.size, 0, none⟩) (by first | omega | (simp; done) | (simp; omega))
            generalize z_x1_0_0 : x1.val.frozen? ⟨w.heap.size, 0, none⟩ = q at q_
            first | (have q2_ : q = false := q_; subst q2_) | (simp [go_sem] at q_; have q2_ : q = false := q_; subst q2_) | (simp [go_sem, *] at q_; have q2_ : q = false := q_; subst q2_)
            have q_ := x1.bel.cell (p := ⟨w.heap.size, 1, none⟩) (by first | omega | (simp; done) | (simp; omega))
            generalize c_x1_0_1 : x1.val.cell? ⟨w.heap.size, 1, none⟩ = q at q_
            first | (have q2_ : q = some _ := q_; subst q2_) | (simp [go_sem] at q_; have q2_ : q = some _ := q_; subst q2_) | (simp [go_sem, *] at q_; have q2_ : q = some _ := q_; subst q2_)
            have q_ := x1.bel.frozen (p := ⟨w.heap.size, 1, none⟩) (by first | omega | (simp; done) | (simp; omega))
            generalize z_x1_0_1 : x1.val.frozen? ⟨w.heap.size, 1, none⟩ = q at q_
            first | (have q2_ : q = false := q_; subst q2_) | (simp [go_sem] at q_; have q2_ : q = false := q_; subst q2_) | (simp [go_sem, *] at q_; have q2_ : q = false := q_; subst q2_)
            have l_x1_1 : w.heap.size+1 < x1.val.heap.size := by omega
            have m_x1_1 : w.heap.size+1 < x1.val.heap.size + 1 := by omega
            have q_ := x1.bel.cell (p := ⟨w.heap.size+1, 0, none⟩) (by first | omega | (simp; done) | (simp; omega))
            generalize c_x1_1_0 : x1.val.cell? ⟨w.heap.size+1, 0, none⟩ = q at q_
            first | (have q2_ : q = some _ := q_; subst q2_) | (simp [go_sem] at q_; have q2_ : q = some _ := q_; subst q2_) | (simp [go_sem, *] at q_; have q2_ : q = some _ := q_; subst q2_)
            have q_ := x1.bel.frozen (p := ⟨w.heap.size+1, 0, none⟩) (by first | omega | (simp; done) | (simp; omega))
            generalize z_x1_1_0 : x1.val.frozen? ⟨w.heap.size+1, 0, none⟩ = q at q_
            first | (have q2_ : q = false := q_; subst q2_) | (simp [go_sem] at q_; have q2_ : q = false := q_; subst q2_) | (simp [go_sem, *] at q_; have q2_ : q = false := q_; subst q2_)
            have q_ := x1.bel.cell (p := ⟨w.heap.size+1, 1, none⟩) (by first | omega | (simp; done) | (simp; omega))
            generalize c_x1_1_1 : x1.val.cell? ⟨w.heap.size+1, 1, none⟩ = q at q_
            first | (have q2_ : q = some _ := q_; subst q2_) | (simp [go_sem] at q_; have q2_ : q = some _ := q_; subst q2_) | (simp [go_sem, *] at q_; have q2_ : q = some _ := q_; subst q2_)
            have q_ := x1.bel.frozen (p := ⟨w.heap.size+1, 1, none⟩) (by first | omega | (simp; done) | (simp; omega))
            generalize z_x1_1_1 : x1.val.frozen? ⟨w.heap.size+1, 1, none⟩ = q at q_
            first | (have q2_ : q = false := q_; subst q2_) | (simp [go_sem] at q_; have q2_ : q = false := q_; subst q2_) | (simp [go_sem, *] at q_; have q2_ : q = false := q_; subst q2_)
            go_wp2_with fail
            with_reducible refine (ky.out _ (by repeat (first | exact Below.refl _ _ | refine bel_later _ ?_ | refine bel_alloc ?_ _ | refine bel_set ?_ (by first | omega | (simp; done) | (simp; omega)) _ | refine Below.drew ?_ | refine bel_drewN ?_ _ | assumption))).mono ?_
            rintro e_x2 w_x2 ⟨Ax2, cx2, rfl, ox2, hb_x2⟩
            obtain ⟨x2, rfl⟩ := later_is hb_x2
            clear hb_x2
            have hz_x2 := x2.bel.size
            try simp at hz_x2
            have l_x2_0 : w.heap.size < x2.val.heap.size := by omega
            have m_x2_0 : w.heap.size < x2.val.heap.size + 1 := by omega
            have q_ := x2.bel.cell (p := ⟨w.heap.size, 0, none⟩) (by first | omega | (simp; done) | (simp; omega))
            generalize c_x2_0_0 : x2.val.cell? ⟨w.heap.size, 0, none⟩ = q at q_
            first | (have q2_ : q = some _ := q_; subst q2_) | (simp [go_sem] at q_; have q2_ : q = some _ := q_; subst q2_) | (simp [go_sem, *] at q_; have q2_ : q = some _ := q_; subst q2_)
            have q_ := x2.bel.frozen (p := ⟨w.heap.size, 0, none⟩) (by first | omega | (simp; done) | (simp; omega))
            generalize z_x2_0_0 : x2.val.frozen? ⟨w.heap.size, 0, none⟩ = q at q_
            first | (have q2_ : q = false := q_; subst q2_) | (simp [go_sem] at q_; have q2_ : q = false := q_; subst q2_) | (simp [go_sem, *] at q_; have q2_ : q = false := q_; subst q2_)
            have q_ := x2.bel.cell (p := ⟨w.heap.size, 1, none⟩) (by first | omega | (simp; done) | (simp; omega))
            generalize c_x2_0_1 : x2.val.cell? ⟨w.heap.size, 1, none⟩ = q at q_
            first | (have q2_ : q = some _ := q_; subst q2_) | (simp [go_sem] at q_; have q2_ : q = some _ := q_; subst q2_) | (simp [go_sem, *] at q_; have q2_ : q = some _ := q_; subst q2_)
            have q_ := x2.bel.frozen (p := ⟨w.heap.size, 1, none⟩) (by first | omega | (simp; done) | (simp; omega))
            generalize z_x2_0_1 : x2.val.frozen? ⟨w.heap.size, 1, none⟩ = q at q_
            first | (have q2_ : q = false := q_; subst q2_) | (simp [go_sem] at q_; have q2_ : q = false := q_; subst q2_) | (simp [go_sem, *] at q_; have q2_ : q = false := q_; subst q2_)
            have l_x2_1 : w.heap.size+1 < x2.val.heap.size := by omega
            have m_x2_1 : w.heap.size+1 < x2.val.heap.size + 1 := by omega
            have q_ := x2.bel.cell (p := ⟨w.heap.size+1, 0, none⟩) (by first | omega | (simp; done) | (simp; omega))
            generalize c_x2_1_0 : x2.val.cell? ⟨w.heap.size+1, 0, none⟩ = q at q_
            first | (have q2_ : q = some _ := q_; subst q2_) | (simp [go_sem] at q_; have q2_ : q = some _ := q_; subst q2_) | (simp [go_sem, *] at q_; have q2_ : q = some _ := q_; subst q2_)
            have q_ := x2.bel.frozen (p := ⟨w.heap.size+1, 0, none⟩) (by first | omega | (simp; done) | (simp; omega))
            generalize z_x2_1_0 : x2.val.frozen? ⟨w.heap.size+1, 0, none⟩ = q at q_
            first | (have q2_ : q = false := q_; subst q2_) | (simp [go_sem] at q_; have q2_ : q = false := q_; subst q2_) | (simp [go_sem, *] at q_; have q2_ : q = false := q_; subst q2_)
            have q_ := x2.bel.cell (p := ⟨w.heap.size+1, 1, none⟩) (by first | omega | (simp; done) | (simp; omega))
            generalize c_x2_1_1 : x2.val.cell? ⟨w.heap.size+1, 1, none⟩ = q at q_
            first | (have q2_ : q = some _ := q_; subst q2_) | (simp [go_sem] at q_; have q2_ : q = some _ := q_; subst q2_) | (simp [go_sem, *] at q_; have q2_ : q = some _ := q_; subst q2_)
            have q_ := x2.bel.frozen (p := ⟨w.heap.size+1, 1, none⟩) (by first | omega | (simp; done) | (simp; omega))
            generalize z_x2_1_1 : x2.val.frozen? ⟨w.heap.size+1, 1, none⟩ = q at q_
            first | (have q2_ : q = false := q_; subst q2_) | (simp [go_sem] at q_; have q2_ : q = false := q_; subst q2_) | (simp [go_sem, *] at q_; have q2_ : q = false := q_; subst q2_)
            replace ox1 := own_below ox1 x2.bel
            go_wp2_with fail
            refine (lowWords_any Ax1 Ax2 la lb _ _ _ _ false x2.val rfl rfl (Sq.of_own ox1) (Sq.of_own ox2) (by omega) HD.out).mono ?_
            rintro e_x3 w_x3 ⟨rfl, hb_x3⟩
            obtain ⟨x3, rfl⟩ := later_is hb_x3
            clear hb_x3
            have hz_x3 := x3.bel.size
            try simp at hz_x3
            go_wp2_with fail
            refine (awake_any _).mono ?_
            rintro e_x4 w_x4 ⟨rfl, hb_x4⟩
            obtain ⟨x4, rfl⟩ := later_is hb_x4
            clear hb_x4
            have hz_x4 := x4.bel.size
            try simp at hz_x4
            go_wp2
            go_ret
            exact ⟨rfl, (by repeat (first | exact Below.refl _ _ | refine bel_later _ ?_ | refine bel_alloc ?_ _ | refine bel_set ?_ (by first | omega | (simp; done) | (simp; omega)) _ | refine Below.drew ?_ | refine bel_drewN ?_ _ | assumption))⟩
          · have f2 : (eb != 0) = true := by rw [bne_iff_ne]; exact hf
            clear hf
            go_enter Try.func4, Try.ntmps4
            go_wp2_with fail
            with_reducible refine (kx.out _ (by repeat (first | exact Below.refl _ _ | refine bel_later _ ?_ | refine bel_alloc ?_ _ | refine bel_set ?_ (by first | omega | (simp; done) | (simp; omega)) _ | refine Below.drew ?_ | refine bel_drewN ?_ _ | assumption))).mono ?_
            rintro e_x1 w_x1 ⟨Ax1, cx1, rfl, ox1, hb_x1⟩
            obtain ⟨x1, rfl⟩ := later_is hb_x1
            clear hb_x1
            have hz_x1 := x1.bel.size
            try simp at hz_x1
            have l_x1_0 : w.heap.size < x1.val.heap.size := by omega
            have m_x1_0 : w.heap.size < x1.val.heap.size + 1 := by omega
            have q_ := x1.bel.cell (p := ⟨w.heap.size, 0, none⟩) (by first | omega | (simp; done) | (simp; omega))
            generalize c_x1_0_0 : x1.val.cell? ⟨w.heap.size, 0, none⟩ = q at q_
            first | (have q2_ : q = some _ := q_; subst q2_) | (simp [go_sem] at q_; have q2_ : q = some _ := q_; subst q2_) | (simp [go_sem, *] at q_; have q2_ : q = some _ := q_; subst q2_)
            have q_ := x1.bel.frozen (p := ⟨w.heap.size, 0, none⟩) (by first | omega | (simp; done) | (simp; omega))
            generalize z_x1_0_0 : x1.val.frozen? ⟨w.heap.size, 0, none⟩ = q at q_
            first | (have q2_ : q = false := q_; subst q2_) | (simp [go_sem] at q_; have q2_ : q = false := q_; subst q2_) | (simp [go_sem, *] at q_; have q2_ : q = false := q_; subst q2_)
            have q_ := x1.bel.cell (p := ⟨w.heap.size, 1, none⟩) (by first | omega | (simp; done) | (simp; omega))
            generalize c_x1_0_1 : x1.val.cell? ⟨w.heap.size, 1, none⟩ = q at q_
            first | (have q2_ : q = some _ := q_; subst q2_) | (simp [go_sem] at q_; have q2_ : q = some _ := q_; subst q2_) | (simp [go_sem, *] at q_; have q2_ : q = some _ := q_; subst q2_)
            have q_ := x1.bel.frozen (p := ⟨w.heap.size, 1, none⟩) (by first | omega | (simp; done) | (simp; omega))
            generalize z_x1_0_1 : x1.val.frozen? ⟨w.heap.size, 1, none⟩ = q at q_
            first | (have q2_ : q = false := q_; subst q2_) | (simp [go_sem] at q_; have q2_ : q = false := q_; subst q2_) | (simp [go_sem, *] at q_; have q2_ : q = false := q_; subst q2_)
            have l_x1_1 : w.heap.size+1 < x1.val.heap.size := by omega
            have m_x1_1 : w.heap.size+1 < x1.val.heap.size + 1 := by omega
            have q_ := x1.bel.cell (p := ⟨w.heap.size+1, 0, none⟩) (by first | omega | (simp; done) | (simp; omega))
            generalize c_x1_1_0 : x1.val.cell? ⟨w.heap.size+1, 0, none⟩ = q at q_
            first | (have q2_ : q = some _ := q_; subst q2_) | (simp [go_sem] at q_; have q2_ : q = some _ := q_; subst q2_) | (simp [go_sem, *] at q_; have q2_ : q = some _ := q_; subst q2_)
            have q_ := x1.bel.frozen (p := ⟨w.heap.size+1, 0, none⟩) (by first | omega | (simp; done) | (simp; omega))
            generalize z_x1_1_0 : x1.val.frozen? ⟨w.heap.size+1, 0, none⟩ = q at q_
            first | (have q2_ : q = false := q_; subst q2_) | (simp [go_sem] at q_; have q2_ : q = false := q_; subst q2_) | (simp [go_sem, *] at q_; have q2_ : q = false := q_; subst q2_)
            have q_ := x1.bel.cell (p := ⟨w.heap.size+1, 1, none⟩) (by first | omega | (simp; done) | (simp; omega))
            generalize c_x1_1_1 : x1.val.cell? ⟨w.heap.size+1, 1, none⟩ = q at q_
            first | (have q2_ : q = some _ := q_; subst q2_) | (simp [go_sem] at q_; have q2_ : q = some _ := q_; subst q2_) | (simp [go_sem, *] at q_; have q2_ : q = some _ := q_; subst q2_)
            have q_ := x1.bel.frozen (p := ⟨w.heap.size+1, 1, none⟩) (by first | omega | (simp; done) | (simp; omega))
            generalize z_x1_1_1 : x1.val.frozen? ⟨w.heap.size+1, 1, none⟩ = q at q_
            first | (have q2_ : q = false := q_; subst q2_) | (simp [go_sem] at q_; have q2_ : q = false := q_; subst q2_) | (simp [go_sem, *] at q_; have q2_ : q = false := q_; subst q2_)
            go_wp2_with fail
            with_reducible refine (ky.out _ (by repeat (first | exact Below.refl _ _ | refine bel_later _ ?_ | refine bel_alloc ?_ _ | refine bel_set ?_ (by first | omega | (simp; done) | (simp; omega)) _ | refine Below.drew ?_ | refine bel_drewN ?_ _ | assumption))).mono ?_
            rintro e_x2 w_x2 ⟨Ax2, cx2, rfl, ox2, hb_x2⟩
            obtain ⟨x2, rfl⟩ := later_is hb_x2
            clear hb_x2
            have hz_x2 := x2.bel.size
            try simp at hz_x2
            have l_x2_0 : w.heap.size < x2.val.heap.size := by omega
            have m_x2_0 : w.heap.size < x2.val.heap.size + 1 := by omega
            have q_ := x2.bel.cell (p := ⟨w.heap.size, 0, none⟩) (by first | omega | (simp; done) | (simp; omega))
            generalize c_x2_0_0 : x2.val.cell? ⟨w.heap.size, 0, none⟩ = q at q_
            first | (have q2_ : q = some _ := q_; subst q2_) | (simp [go_sem] at q_; have q2_ : q = some _ := q_; subst q2_) | (simp [go_sem, *] at q_; have q2_ : q = some _ := q_; subst q2_)
            have q_ := x2.bel.frozen (p := ⟨w.heap.size, 0, none⟩) (by first | omega | (simp; done) | (simp; omega))
            generalize z_x2_0_0 : x2.val.frozen? ⟨w.heap.size, 0, none⟩ = q at q_
            first | (have q2_ : q = false := q_; subst q2_) | (simp [go_sem] at q_; have q2_ : q = false := q_; subst q2_) | (simp [go_sem, *] at q_; have q2_ : q = false := q_; subst q2_)
            have q_ := x2.bel.cell (p := ⟨w.heap.size, 1, none⟩) (by first | omega | (simp; done) | (simp; omega))
            generalize c_x2_0_1 : x2.val.cell? ⟨w.heap.size, 1, none⟩ = q at q_
            first | (have q2_ : q = some _ := q_; subst q2_) | (simp [go_sem] at q_; have q2_ : q = some _ := q_; subst q2_) | (simp [go_sem, *] at q_; have q2_ : q = some _ := q_; subst q2_)
            have q_ := x2.bel.frozen (p := ⟨w.heap.size, 1, none⟩) (by first | omega | (simp; done) | (simp; omega))
            generalize z_x2_0_1 : x2.val.frozen? ⟨w.heap.size, 1, none⟩ = q at q_
            first | (have q2_ : q = false := q_; subst q2_) | (simp [go_sem] at q_; have q2_ : q = false := q_; subst q2_) | (simp [go_sem, *] at q_; have q2_ : q = false := q_; subst q2_)
            have l_x2_1 : w.heap.size+1 < x2.val.heap.size := by omega
            have m_x2_1 : w.heap.size+1 < x2.val.heap.size + 1 := by omega
            have q_ := x2.bel.cell (p := ⟨w.heap.size+1, 0, none⟩) (by first | omega | (simp; done) | (simp; omega))
            generalize c_x2_1_0 : x2.val.cell? ⟨w.heap.size+1, 0, none⟩ = q at q_
            first | (have q2_ : q = some _ := q_; subst q2_) | (simp [go_sem] at q_; have q2_ : q = some _ := q_; subst q2_) | (simp [go_sem, *] at q_; have q2_ : q = some _ := q_; subst q2_)
            have q_ := x2.bel.frozen (p := ⟨w.heap.size+1, 0, none⟩) (by first | omega | (simp; done) | (simp; omega))
            generalize z_x2_1_0 : x2.val.frozen? ⟨w.heap.size+1, 0, none⟩ = q at q_
            first | (have q2_ : q = false := q_; subst q2_) | (simp [go_sem] at q_; have q2_ : q = false := q_; subst q2_) | (simp [go_sem, *] at q_; have q2_ : q = false := q_; subst q2_)
            have q_ := x2.bel.cell (p := ⟨w.heap.size+1, 1, none⟩) (by first | omega | (simp; done) | (simp; omega))
            generalize c_x2_1_1 : x2.val.cell? ⟨w.heap.size+1, 1, none⟩ = q at q_
            first | (have q2_ : q = some _ := q_; subst q2_) | (simp [go_sem] at q_; have q2_ : q = some _ := q_; subst q2_) | (simp [go_sem, *] at q_; have q2_ : q = some _ := q_; subst q2_)
            have q_ := x2.bel.frozen (p := ⟨w.heap.size+1, 1, none⟩) (by first | omega | (simp; done) | (simp; omega))
            generalize z_x2_1_1 : x2.val.frozen? ⟨w.heap.size+1, 1, none⟩ = q at q_
            first | (have q2_ : q = false := q_; subst q2_) | (simp [go_sem] at q_; have q2_ : q = false := q_; subst q2_) | (simp [go_sem, *] at q_; have q2_ : q = false := q_; subst q2_)
            replace ox1 := own_below ox1 x2.bel
            go_wp2_with fail
            refine (awake_any _).mono ?_
            rintro e_x4 w_x4 ⟨rfl, hb_x4⟩
            obtain ⟨x4, rfl⟩ := later_is hb_x4
            clear hb_x4
            have hz_x4 := x4.bel.size
            try simp at hz_x4
            go_wp2
            go_ret
            exact ⟨rfl, (by repeat (first | exact Below.refl _ _ | refine bel_later _ ?_ | refine bel_alloc ?_ _ | refine bel_set ?_ (by first | omega | (simp; done) | (simp; omega)) _ | refine Below.drew ?_ | refine bel_drewN ?_ _ | assumption))⟩
        · have f1 : (ea != 0) = true := by rw [bne_iff_ne]; exact he
          clear he
          go_enter Try.func4, Try.ntmps4
          go_wp2_with fail
          with_reducible refine (kx.out _ (by repeat (first | exact Below.refl _ _ | refine bel_later _ ?_ | refine bel_alloc ?_ _ | refine bel_set ?_ (by first | omega | (simp; done) | (simp; omega)) _ | refine Below.drew ?_ | refine bel_drewN ?_ _ | assumption))).mono ?_
          rintro e_x1 w_x1 ⟨Ax1, cx1, rfl, ox1, hb_x1⟩
          obtain ⟨x1, rfl⟩ := later_is hb_x1
          clear hb_x1
          have hz_x1 := x1.bel.size
          try simp at hz_x1
          have l_x1_0 : w.heap.size < x1.val.heap.size := by omega
          have m_x1_0 : w.heap.size < x1.val.heap.size + 1 := by omega
          have q_ := x1.bel.cell (p := ⟨w.heap.size, 0, none⟩) (by first | omega | (simp; done) | (simp; omega))
          generalize c_x1_0_0 : x1.val.cell? ⟨w.heap.size, 0, none⟩ = q at q_
          first | (have q2_ : q = some _ := q_; subst q2_) | (simp [go_sem] at q_; have q2_ : q = some _ := q_; subst q2_) | (simp [go_sem, *] at q_; have q2_ : q = some _ := q_; subst q2_)
          have q_ := x1.bel.frozen (p := ⟨w.heap.size, 0, none⟩) (by first | omega | (simp; done) | (simp; omega))
          generalize z_x1_0_0 : x1.val.frozen? ⟨w.heap.size, 0, none⟩ = q at q_
          first | (have q2_ : q = false := q_; subst q2_) | (simp [go_sem] at q_; have q2_ : q = false := q_; subst q2_) | (simp [go_sem, *] at q_; have q2_ : q = false := q_; subst q2_)
          have q_ := x1.bel.cell (p := ⟨w.heap.size, 1, none⟩) (by first | omega | (simp; done) | (simp; omega))
          generalize c_x1_0_1 : x1.val.cell? ⟨w.heap.size, 1, none⟩ = q at q_
          first | (have q2_ : q = some _ := q_; subst q2_) | (simp [go_sem] at q_; have q2_ : q = some _ := q_; subst q2_) | (simp [go_sem, *] at q_; have q2_ : q = some _ := q_; subst q2_)
          have q_ := x1.bel.frozen (p := ⟨w.heap.size, 1, none⟩) (by first | omega | (simp; done) | (simp; omega))
          generalize z_x1_0_1 : x1.val.frozen? ⟨w.heap.size, 1, none⟩ = q at q_
          first | (have q2_ : q = false := q_; subst q2_) | (simp [go_sem] at q_; have q2_ : q = false := q_; subst q2_) | (simp [go_sem, *] at q_; have q2_ : q = false := q_; subst q2_)
          have l_x1_1 : w.heap.size+1 < x1.val.heap.size := by omega
          have m_x1_1 : w.heap.size+1 < x1.val.heap.size + 1 := by omega
          have q_ := x1.bel.cell (p := ⟨w.heap.size+1, 0, none⟩) (by first | omega | (simp; done) | (simp; omega))
          generalize c_x1_1_0 : x1.val.cell? ⟨w.heap.size+1, 0, none⟩ = q at q_
          first | (have q2_ : q = some _ := q_; subst q2_) | (simp [go_sem] at q_; have q2_ : q = some _ := q_; subst q2_) | (simp [go_sem, *] at q_; have q2_ : q = some _ := q_; subst q2_)
          have q_ := x1.bel.frozen (p := ⟨w.heap.size+1, 0, none⟩) (by first | omega | (simp; done) | (simp; omega))
          generalize z_x1_1_0 : x1.val.frozen? ⟨w.heap.size+1, 0, none⟩ = q at q_
          first | (have q2_ : q = false := q_; subst q2_) | (simp [go_sem] at q_; have q2_ : q = false := q_; subst q2_) | (simp [go_sem, *] at q_; have q2_ : q = false := q_; subst q2_)
          have q_ := x1.bel.cell (p := ⟨w.heap.size+1, 1, none⟩) (by first | omega | (simp; done) | (simp; omega))
          generalize c_x1_1_1 : x1.val.cell? ⟨w.heap.size+1, 1, none⟩ = q at q_
          first | (have q2_ : q = some _ := q_; subst q2_) | (simp [go_sem] at q_; have q2_ : q = some _ := q_; subst q2_) | (simp [go_sem, *] at q_; have q2_ : q = some _ := q_; subst q2_)
          have q_ := x1.bel.frozen (p := ⟨w.heap.size+1, 1, none⟩) (by first | omega | (simp; done) | (simp; omega))
          generalize z_x1_1_1 : x1.val.frozen? ⟨w.heap.size+1, 1, none⟩ = q at q_
          first | (have q2_ : q = false := q_; subst q2_) | (simp [go_sem] at q_; have q2_ : q = false := q_; subst q2_) | (simp [go_sem, *] at q_; have q2_ : q = false := q_; subst q2_)
          go_wp2_with fail
          with_reducible refine (ky.out _ (by repeat (first | exact Below.refl _ _ | refine bel_later _ ?_ | refine bel_alloc ?_ _ | refine bel_set ?_ (by first | omega | (simp; done) | (simp; omega)) _ | refine Below.drew ?_ | refine bel_drewN ?_ _ | assumption))).mono ?_
          rintro e_x2 w_x2 ⟨Ax2, cx2, rfl, ox2, hb_x2⟩
          obtain ⟨x2, rfl⟩ := later_is hb_x2
          clear hb_x2
          have hz_x2 := x2.bel.size
          try simp at hz_x2
          have l_x2_0 : w.heap.size < x2.val.heap.size := by omega
          have m_x2_0 : w.heap.size < x2.val.heap.size + 1 := by omega
          have q_ := x2.bel.cell (p := ⟨w.heap.size, 0, none⟩) (by first | omega | (simp; done) | (simp; omega))
          generalize c_x2_0_0 : x2.val.cell? ⟨w.heap.size, 0, none⟩ = q at q_
          first | (have q2_ : q = some _ := q_; subst q2_) | (simp [go_sem] at q_; have q2_ : q = some _ := q_; subst q2_) | (simp [go_sem, *] at q_; have q2_ : q = some _ := q_; subst q2_)
          have q_ := x2.bel.frozen (p := ⟨w.heap.size, 0, none⟩) (by first | omega | (simp; done) | (simp; omega))
          generalize z_x2_0_0 : x2.val.frozen? ⟨w.heap.size, 0, none⟩ = q at q_
          first | (have q2_ : q = false := q_; subst q2_) | (simp [go_sem] at q_; have q2_ : q = false := q_; subst q2_) | (simp [go_sem, *] at q_; have q2_ : q = false := q_; subst q2_)
          have q_ := x2.bel.cell (p := ⟨w.heap.size, 1, none⟩) (by first | omega | (simp; done) | (simp; omega))
          generalize c_x2_0_1 : x2.val.cell? ⟨w.heap.size, 1, none⟩ = q at q_
          first | (have q2_ : q = some _ := q_; subst q2_) | (simp [go_sem] at q_; have q2_ : q = some _ := q_; subst q2_) | (simp [go_sem, *] at q_; have q2_ : q = some _ := q_; subst q2_)
          have q_ := x2.bel.frozen (p := ⟨w.heap.size, 1, none⟩) (by first | omega | (simp; done) | (simp; omega))
          generalize z_x2_0_1 : x2.val.frozen? ⟨w.heap.size, 1, none⟩ = q at q_
          first | (have q2_ : q = false := q_; subst q2_) | (simp [go_sem] at q_; have q2_ : q = false := q_; subst q2_) | (simp [go_sem, *] at q_; have q2_ : q = false := q_; subst q2_)
          have l_x2_1 : w.heap.size+1 < x2.val.heap.size := by omega
          have m_x2_1 : w.heap.size+1 < x2.val.heap.size + 1 := by omega
          have q_ := x2.bel.cell (p := ⟨w.heap.size+1, 0, none⟩) (by first | omega | (simp; done) | (simp; omega))
          generalize c_x2_1_0 : x2.val.cell? ⟨w.heap.size+1, 0, none⟩ = q at q_
          first | (have q2_ : q = some _ := q_; subst q2_) | (simp [go_sem] at q_; have q2_ : q = some _ := q_; subst q2_) | (simp [go_sem, *] at q_; have q2_ : q = some _ := q_; subst q2_)
          have q_ := x2.bel.frozen (p := ⟨w.heap.size+1, 0, none⟩) (by first | omega | (simp; done) | (simp; omega))
          generalize z_x2_1_0 : x2.val.frozen? ⟨w.heap.size+1, 0, none⟩ = q at q_
          first | (have q2_ : q = false := q_; subst q2_) | (simp [go_sem] at q_; have q2_ : q = false := q_; subst q2_) | (simp [go_sem, *] at q_; have q2_ : q = false := q_; subst q2_)
          have q_ := x2.bel.cell (p := ⟨w.heap.size+1, 1, none⟩) (by first | omega | (simp; done) | (simp; omega))
          generalize c_x2_1_1 : x2.val.cell? ⟨w.heap.size+1, 1, none⟩ = q at q_
          first | (have q2_ : q = some _ := q_; subst q2_) | (simp [go_sem] at q_; have q2_ : q = some _ := q_; subst q2_) | (simp [go_sem, *] at q_; have q2_ : q = some _ := q_; subst q2_)
          have q_ := x2.bel.frozen (p := ⟨w.heap.size+1, 1, none⟩) (by first | omega | (simp; done) | (simp; omega))
          generalize z_x2_1_1 : x2.val.frozen? ⟨w.heap.size+1, 1, none⟩ = q at q_
          first | (have q2_ : q = false := q_; subst q2_) | (simp [go_sem] at q_; have q2_ : q = false := q_; subst q2_) | (simp [go_sem, *] at q_; have q2_ : q = false := q_; subst q2_)
          replace ox1 := own_below ox1 x2.bel
          go_wp2_with fail
          refine (awake_any _).mono ?_
          rintro e_x4 w_x4 ⟨rfl, hb_x4⟩
          obtain ⟨x4, rfl⟩ := later_is hb_x4
          clear hb_x4
          have hz_x4 := x4.bel.size
          try simp at hz_x4
          go_wp2
          go_ret
          exact ⟨rfl, (by repeat (first | exact Below.refl _ _ | refine bel_later _ ?_ | refine bel_alloc ?_ _ | refine bel_set ?_ (by first | omega | (simp; done) | (simp; omega)) _ | refine Below.drew ?_ | refine bel_drewN ?_ _ | assumption))⟩
    · have c2 : ((t : Int) == (u : Int)) = false := beq_eq_false_iff_ne.2 (by omega)
      have c1 : ((o : Int) == (p : Int)) = true := by rw [beq_iff_eq]; omega
      have HN : Hid (¬ (o = p ∧ t = u ∧ n = m ∧ x.pr = y.pr)) := Lib.hid (fun h => q2 h.2.1)
      clear q1 q2
      by_cases he : ea = 0
      · subst he
        by_cases hf : eb = 0
        · subst hf
          have HD : Hid (decide (la = lb) = false) := Lib.hid (by
            rw [decide_eq_false_iff_not]
            intro h
            have h1 := (HS.out rfl rfl).1 h
            exact HN.out h1)
          go_enter Try.func4, Try.ntmps4
          go_wp2_with fail
          with_reducible refine (kx.out _ (by repeat (first | exact Below.refl _ _ | refine bel_later _ ?_ | refine bel_alloc ?_ _ | refine bel_set ?_ (by first | omega | (simp; done) | (simp; omega)) _ | refine Below.drew ?_ | refine bel_drewN ?_ _ | assumption))).mono ?_
          rintro e_x1 w_x1 ⟨Ax1, cx1, rfl, ox1, hb_x1⟩
          obtain ⟨x1, rfl⟩ := later_is hb_x1
          clear hb_x1
          have hz_x1 := x1.bel.size
          try simp at hz_x1
          have l_x1_0 : w.heap.size < x1.val.heap.size := by omega
          have m_x1_0 : w.heap.size < x1.val.heap.size + 1 := by omega
          have q_ := x1.bel.cell (p := ⟨w.heap.size, 0, none⟩) (by first | omega | (simp; done) | (simp; omega))
          generalize c_x1_0_0 : x1.val.cell? ⟨w.heap.size, 0, none⟩ = q at q_
          first | (have q2_ : q = some _ := q_; subst q2_) | (simp [go_sem] at q_; have q2_ : q = some _ := q_; subst q2_) | (simp [go_sem, *] at q_; have q2_ : q = some _ := q_; subst q2_)
          have q_ := x1.bel.frozen (p := ⟨w.heap.size, 0, none⟩) (by first | omega | (simp; done) | (simp; omega))
          generalize z_x1_0_0 : x1.val.frozen? ⟨w.heap.size, 0, none⟩ = q at q_
          first | (have q2_ : q = false := q_; subst q2_) | (simp [go_sem] at q_; have q2_ : q = false := q_; subst q2_) | (simp [go_sem, *] at q_; have q2_ : q = false := q_; subst q2_)
          have q_ := x1.bel.cell (p := ⟨w.heap.size, 1, none⟩) (by first | omega | (simp; done) | (simp; omega))
          generalize c_x1_0_1 : x1.val.cell? ⟨w.heap.size, 1, none⟩ = q at q_
          first | (have q2_ : q = some _ := q_; subst q2_) | (simp [go_sem] at q_; have q2_ : q = some _ := q_; subst q2_) | (simp [go_sem, *] at q_; have q2_ : q = some _ := q_; subst q2_)
          have q_ := x1.bel.frozen (p := ⟨w.heap.size, 1, none⟩) (by first | omega | (simp; done) | (simp; omega))
          generalize z_x1_0_1 : x1.val.frozen? ⟨w.heap.size, 1, none⟩ = q at q_
          first | (have q2_ : q = false := q_; subst q2_) | (simp [go_sem] at q_; have q2_ : q = false := q_; subst q2_) | (simp [go_sem, *] at q_; have q2_ : q = false := q_; subst q2_)
          have l_x1_1 : w.heap.size+1 < x1.val.heap.size := by omega
          have m_x1_1 : w.heap.size+1 < x1.val.heap.size + 1 := by omega
          have q_ := x1.bel.cell (p := ⟨w.heap.size+1, 0, none⟩) (by first | omega | (simp; done) | (simp; omega))
          generalize c_x1_1_0 : x1.val.cell? ⟨w.heap.size+1, 0, none⟩ = q at q_
          first | (have q2_ : q = some _ := q_; subst q2_) | (simp [go_sem] at q_; have q2_ : q = some _ := q_; subst q2_) | (simp [go_sem, *] at q_; have q2_ : q = some _ := q_; subst q2_)
          have q_ := x1.bel.frozen (p := ⟨w.heap.size+1, 0, none⟩) (by first | omega | (simp; done) | (simp; omega))
          generalize z_x1_1_0 : x1.val.frozen? ⟨w.heap.size+1, 0, none⟩ = q at q_
          first | (have q2_ : q = false := q_; subst q2_) | (simp [go_sem] at q_; have q2_ : q = false := q_; subst q2_) | (simp [go_sem, *] at q_; have q2_ : q = false := q_; subst q2_)
          have q_ := x1.bel.cell (p := ⟨w.heap.size+1, 1, none⟩) (by first | omega | (simp; done) | (simp; omega))
          generalize c_x1_1_1 : x1.val.cell? ⟨w.heap.size+1, 1, none⟩ = q at q_
          first | (have q2_ : q = some _ := q_; subst q2_) | (simp [go_sem] at q_; have q2_ : q = some _ := q_; subst q2_) | (simp [go_sem, *] at q_; have q2_ : q = some _ := q_; subst q2_)
          have q_ := x1.bel.frozen (p := ⟨w.heap.size+1, 1, none⟩) (by first | omega | (simp; done) | (simp; omega))
          generalize z_x1_1_1 : x1.val.frozen? ⟨w.heap.size+1, 1, none⟩ = q at q_
          first | (have q2_ : q = false := q_; subst q2_) | (simp [go_sem] at q_; have q2_ : q = false := q_; subst q2_) | (simp [go_sem, *] at q_; have q2_ : q = false := q_; subst q2_)
          go_wp2_with fail
          with_reducible refine (ky.out _ (by repeat (first | exact Below.refl _ _ | refine bel_later _ ?_ | refine bel_alloc ?_ _ | refine bel_set ?_ (by first | omega | (simp; done) | (simp; omega)) _ | refine Below.drew ?_ | refine bel_drewN ?_ _ | assumption))).mono ?_
          rintro e_x2 w_x2 ⟨Ax2, cx2, rfl, ox2, hb_x2⟩
          obtain ⟨x2, rfl⟩ := later_is hb_x2
          clear hb_x2
          have hz_x2 := x2.bel.size
          try simp at hz_x2
          have l_x2_0 : w.heap.size < x2.val.heap.size := by omega
          have m_x2_0 : w.heap.size < x2.val.heap.size + 1 := by omega
          have q_ := x2.bel.cell (p := ⟨w.heap.size, 0, none⟩) (by first | omega | (simp; done) | (simp; omega))
          generalize c_x2_0_0 : x2.val.cell? ⟨w.heap.size, 0, none⟩ = q at q_
          first | (have q2_ : q = some _ := q_; subst q2_) | (simp [go_sem] at q_; have q2_ : q = some _ := q_; subst q2_) | (simp [go_sem, *] at q_; have q2_ : q = some _ := q_; subst q2_)
          have q_ := x2.bel.frozen (p := ⟨w.heap.size, 0, none⟩) (by first | omega | (simp; done) | (simp; omega))
          generalize z_x2_0_0 : x2.val.frozen? ⟨w.heap.size, 0, none⟩ = q at q_
          first | (have q2_ : q = false := q_; subst q2_) | (simp [go_sem] at q_; have q2_ : q = false := q_; subst q2_) | (simp [go_sem, *] at q_; have q2_ : q = false := q_; subst q2_)
          have q_ := x2.bel.cell (p := ⟨w.heap.size, 1, none⟩) (by first | omega | (simp; done) | (simp; omega))
          generalize c_x2_0_1 : x2.val.cell? ⟨w.heap.size, 1, none⟩ = q at q_
          first | (have q2_ : q = some _ := q_; subst q2_) | (simp [go_sem] at q_; have q2_ : q = some _ := q_; subst q2_) | (simp [go_sem, *] at q_; have q2_ : q = some _ := q_; subst q2_)
          have q_ := x2.bel.frozen (p := ⟨w.heap.size, 1, none⟩) (by first | omega | (simp; done) | (simp; omega))
          generalize z_x2_0_1 : x2.val.frozen? ⟨w.heap.size, 1, none⟩ = q at q_
          first | (have q2_ : q = false := q_; subst q2_) | (simp [go_sem] at q_; have q2_ : q = false := q_; subst q2_) | (simp [go_sem, *] at q_; have q2_ : q = false := q_; subst q2_)
          have l_x2_1 : w.heap.size+1 < x2.val.heap.size := by omega
          have m_x2_1 : w.heap.size+1 < x2.val.heap.size + 1 := by omega
          have q_ := x2.bel.cell (p := ⟨w.heap.size+1, 0, none⟩) (by first | omega | (simp; done) | (simp; omega))
          generalize c_x2_1_0 : x2.val.cell? ⟨w.heap.size+1, 0, none⟩ = q at q_
          first | (have q2_ : q = some _ := q_; subst q2_) | (simp [go_sem] at q_; have q2_ : q = some _ := q_; subst q2_) | (simp [go_sem, *] at q_; have q2_ : q = some _ := q_; subst q2_)
          have q_ := x2.bel.frozen (p := ⟨w.heap.size+1, 0, none⟩) (by first | omega | (simp; done) | (simp; omega))
          generalize z_x2_1_0 : x2.val.frozen? ⟨w.heap.size+1, 0, none⟩ = q at q_
          first | (have q2_ : q = false := q_; subst q2_) | (simp [go_sem] at q_; have q2_ : q = false := q_; subst q2_) | (simp [go_sem, *] at q_; have q2_ : q = false := q_; subst q2_)
          have q_ := x2.bel.cell (p := ⟨w.heap.size+1, 1, none⟩) (by first | omega | (simp; done) | (simp; omega))
          generalize c_x2_1_1 : x2.val.cell? ⟨w.heap.size+1, 1, none⟩ = q at q_
          first | (have q2_ : q = some _ := q_; subst q2_) | (simp [go_sem] at q_; have q2_ : q = some _ := q_; subst q2_) | (simp [go_sem, *] at q_; have q2_ : q = some _ := q_; subst q2_)
          have q_ := x2.bel.frozen (p := ⟨w.heap.size+1, 1, none⟩) (by first | omega | (simp; done) | (simp; omega))
          generalize z_x2_1_1 : x2.val.frozen? ⟨w.heap.size+1, 1, none⟩ = q at q_
          first | (have q2_ : q = false := q_; subst q2_) | (simp [go_sem] at q_; have q2_ : q = false := q_; subst q2_) | (simp [go_sem, *] at q_; have q2_ : q = false := q_; subst q2_)
          replace ox1 := own_below ox1 x2.bel
          go_wp2_with fail
          refine (lowWords_any Ax1 Ax2 la lb _ _ _ _ false x2.val rfl rfl (Sq.of_own ox1) (Sq.of_own ox2) (by omega) HD.out).mono ?_
          rintro e_x3 w_x3 ⟨rfl, hb_x3⟩
          obtain ⟨x3, rfl⟩ := later_is hb_x3
          clear hb_x3
          have hz_x3 := x3.bel.size
          try simp at hz_x3
          go_wp2_with fail
          refine (awake_any _).mono ?_
          rintro e_x4 w_x4 ⟨rfl, hb_x4⟩
          obtain ⟨x4, rfl⟩ := later_is hb_x4
          clear hb_x4
          have hz_x4 := x4.bel.size
          try simp at hz_x4
          go_wp2
          go_ret
          exact ⟨rfl, (by repeat (first | exact Below.refl _ _ | refine bel_later _ ?_ | refine bel_alloc ?_ _ | refine bel_set ?_ (by first | omega | (simp; done) | (simp; omega)) _ | refine Below.drew ?_ | refine bel_drewN ?_ _ | assumption))⟩
        · have f2 : (eb != 0) = true := by rw [bne_iff_ne]; exact hf
          clear hf
          go_enter Try.func4, Try.ntmps4
          go_wp2_with fail
          with_reducible refine (kx.out _ (by repeat (first | exact Below.refl _ _ | refine bel_later _ ?_ | refine bel_alloc ?_ _ | refine bel_set ?_ (by first | omega | (simp; done) | (simp; omega)) _ | refine Below.drew ?_ | refine bel_drewN ?_ _ | assumption))).mono ?_
          rintro e_x1 w_x1 ⟨Ax1, cx1, rfl, ox1, hb_x1⟩
          obtain ⟨x1, rfl⟩ := later_is hb_x1
          clear hb_x1
          have hz_x1 := x1.bel.size
          try simp at hz_x1
          have l_x1_0 : w.heap.size < x1.val.heap.size := by omega
          have m_x1_0 : w.heap.size < x1.val.heap.size + 1 := by omega
          have q_ := x1.bel.cell (p := ⟨w.heap.size, 0, none⟩) (by first | omega | (simp; done) | (simp; omega))
          generalize c_x1_0_0 : x1.val.cell? ⟨w.heap.size, 0, none⟩ = q at q_
          first | (have q2_ : q = some _ := q_; subst q2_) | (simp [go_sem] at q_; have q2_ : q = some _ := q_; subst q2_) | (simp [go_sem, *] at q_; have q2_ : q = some _ := q_; subst q2_)
          have q_ := x1.bel.frozen (p := ⟨w.heap.size, 0, none⟩) (by first | omega | (simp; done) | (simp; omega))
          generalize z_x1_0_0 : x1.val.frozen? ⟨w.heap.size, 0, none⟩ = q at q_
          first | (have q2_ : q = false := q_; subst q2_) | (simp [go_sem] at q_; have q2_ : q = false := q_; subst q2_) | (simp [go_sem, *] at q_; have q2_ : q = false := q_; subst q2_)
          have q_ := x1.bel.cell (p := ⟨w.heap.size, 1, none⟩) (by first | omega | (simp; done) | (simp; omega))
          generalize c_x1_0_1 : x1.val.cell? ⟨w.heap.size, 1, none⟩ = q at q_
          first | (have q2_ : q = some _ := q_; subst q2_) | (simp [go_sem] at q_; have q2_ : q = some _ := q_; subst q2_) | (simp [go_sem, *] at q_; have q2_ : q = some _ := q_; subst q2_)
          have q_ := x1.bel.frozen (p := ⟨w.heap.size, 1, none⟩) (by first | omega | (simp; done) | (simp; omega))
          generalize z_x1_0_1 : x1.val.frozen? ⟨w.heap.size, 1, none⟩ = q at q_
          first | (have q2_ : q = false := q_; subst q2_) | (simp [go_sem] at q_; have q2_ : q = false := q_; subst q2_) | (simp [go_sem, *] at q_; have q2_ : q = false := q_; subst q2_)
          have l_x1_1 : w.heap.size+1 < x1.val.heap.size := by omega
          have m_x1_1 : w.heap.size+1 < x1.val.heap.size + 1 := by omega
          have q_ := x1.bel.cell (p := ⟨w.heap.size+1, 0, none⟩) (by first | omega | (simp; done) | (simp; omega))
          generalize c_x1_1_0 : x1.val.cell? ⟨w.heap.size+1, 0, none⟩ = q at q_
          first | (have q2_ : q = some _ := q_; subst q2_) | (simp [go_sem] at q_; have q2_ : q = some _ := q_; subst q2_) | (simp [go_sem, *] at q_; have q2_ : q = some _ := q_; subst q2_)
          have q_ := x1.bel.frozen (p := ⟨w.heap.size+1, 0, none⟩) (by first | omega | (simp; done) | (simp; omega))
          generalize z_x1_1_0 : x1.val.frozen? ⟨w.heap.size+1, 0, none⟩ = q at q_
          first | (have q2_ : q = false := q_; subst q2_) | (simp [go_sem] at q_; have q2_ : q = false := q_; subst q2_) | (simp [go_sem, *] at q_; have q2_ : q = false := q_; subst q2_)
          have q_ := x1.bel.cell (p := ⟨w.heap.size+1, 1, none⟩) (by first | omega | (simp; done) | (simp; omega))
          generalize c_x1_1_1 : x1.val.cell? ⟨w.heap.size+1, 1, none⟩ = q at q_
          first | (have q2_ : q = some _ := q_; subst q2_) | (simp [go_sem] at q_; have q2_ : q = some _ := q_; subst q2_) | (simp [go_sem, *] at q_; have q2_ : q = some _ := q_; subst q2_)
          have q_ := x1.bel.frozen (p := ⟨w.heap.size+1, 1, none⟩) (by first | omega | (simp; done) | (simp; omega))
          generalize z_x1_1_1 : x1.val.frozen? ⟨w.heap.size+1, 1, none⟩ = q at q_
          first | (have q2_ : q = false := q_; subst q2_) | (simp [go_sem] at q_; have q2_ : q = false := q_; subst q2_) | (simp [go_sem, *] at q_; have q2_ : q = false := q_; subst q2_)
          go_wp2_with fail
          with_reducible refine (ky.out _ (by repeat (first | exact Below.refl _ _ | refine bel_later _ ?_ | refine bel_alloc ?_ _ | refine bel_set ?_ (by first | omega | (simp; done) | (simp; omega)) _ | refine Below.drew ?_ | refine bel_drewN ?_ _ | assumption))).mono ?_
          rintro e_x2 w_x2 ⟨Ax2, cx2, rfl, ox2, hb_x2⟩
          obtain ⟨x2, rfl⟩ := later_is hb_x2
          clear hb_x2
          have hz_x2 := x2.bel.size
          try simp at hz_x2
          have l_x2_0 : w.heap.size < x2.val.heap.size := by omega
          have m_x2_0 : w.heap.size < x2.val.heap.size + 1 := by omega
          have q_ := x2.bel.cell (p := ⟨w.heap.size, 0, none⟩) (by first | omega | (simp; done) | (simp; omega))
          generalize c_x2_0_0 : x2.val.cell? ⟨w.heap.size, 0, none⟩ = q at q_
          first | (have q2_ : q = some _ := q_; subst q2_) | (simp [go_sem] at q_; have q2_ : q = some _ := q_; subst q2_) | (simp [go_sem, *] at q_; have q2_ : q = some _ := q_; subst q2_)
          have q_ := x2.bel.frozen (p := ⟨w.heap.size, 0, none⟩) (by first | omega | (simp; done) | (simp; omega))
          generalize z_x2_0_0 : x2.val.frozen? ⟨w.heap.size, 0, none⟩ = q at q_
          first | (have q2_ : q = false := q_; subst q2_) | (simp [go_sem] at q_; have q2_ : q = false := q_; subst q2_) | (simp [go_sem, *] at q_; have q2_ : q = false := q_; subst q2_)
          have q_ := x2.bel.cell (p := ⟨w.heap.size, 1, none⟩) (by first | omega | (simp; done) | (simp; omega))
          generalize c_x2_0_1 : x2.val.cell? ⟨w.heap.size, 1, none⟩ = q at q_
          first | (have q2_ : q = some _ := q_; subst q2_) | (simp [go_sem] at q_; have q2_ : q = some _ := q_; subst q2_) | (simp [go_sem, *] at q_; have q2_ : q = some _ := q_; subst q2_)
          have q_ := x2.bel.frozen (p := ⟨w.heap.size, 1, none⟩) (by first | omega | (simp; done) | (simp; omega))
          generalize z_x2_0_1 : x2.val.frozen? ⟨w.heap.size, 1, none⟩ = q at q_
          first | (have q2_ : q = false := q_; subst q2_) | (simp [go_sem] at q_; have q2_ : q = false := q_; subst q2_) | (simp [go_sem, *] at q_; have q2_ : q = false := q_; subst q2_)
          have l_x2_1 : w.heap.size+1 < x2.val.heap.size := by omega
          have m_x2_1 : w.heap.size+1 < x2.val.heap.size + 1 := by omega
          have q_ := x2.bel.cell (p := ⟨w.heap.size+1, 0, none⟩) (by first | omega | (simp; done) | (simp; omega))
          generalize c_x2_1_0 : x2.val.cell? ⟨w.heap.size+1, 0, none⟩ = q at q_
          first | (have q2_ : q = some _ := q_; subst q2_) | (simp [go_sem] at q_; have q2_ : q = some _ := q_; subst q2_) | (simp [go_sem, *] at q_; have q2_ : q = some _ := q_; subst q2_)
          have q_ := x2.bel.frozen (p := ⟨w.heap.size+1, 0, none⟩) (by first | omega | (simp; done) | (simp; omega))
          generalize z_x2_1_0 : x2.val.frozen? ⟨w.heap.size+1, 0, none⟩ = q at q_
          first | (have q2_ : q = false := q_; subst q2_) | (simp [go_sem] at q_; have q2_ : q = false := q_; subst q2_) | (simp [go_sem, *] at q_; have q2_ : q = false := q_; subst q2_)
          have q_ := x2.bel.cell (p := ⟨w.heap.size+1, 1, none⟩) (by first | omega | (simp; done) | (simp; omega))
          generalize c_x2_1_1 : x2.val.cell? ⟨w.heap.size+1, 1, none⟩ = q at q_
          first | (have q2_ : q = some _ := q_; subst q2_) | (simp [go_sem] at q_; have q2_ : q = some _ := q_; subst q2_) | (simp [go_sem, *] at q_; have q2_ : q = some _ := q_; subst q2_)
          have q_ := x2.bel.frozen (p := ⟨w.heap.size+1, 1, none⟩) (by first | omega | (simp; done) | (simp; omega))
          generalize z_x2_1_1 : x2.val.frozen? ⟨w.heap.size+1, 1, none⟩ = q at q_
          first | (have q2_ : q = false := q_; subst q2_) | (simp [go_sem] at q_; have q2_ : q = false := q_; subst q2_) | (simp [go_sem, *] at q_; have q2_ : q = false := q_; subst q2_)
          replace ox1 := own_below ox1 x2.bel
          go_wp2_with fail
          refine (awake_any _).mono ?_
          rintro e_x4 w_x4 ⟨rfl, hb_x4⟩
          obtain ⟨x4, rfl⟩ := later_is hb_x4
          clear hb_x4
          have hz_x4 := x4.bel.size
          try simp at hz_x4
          go_wp2
          go_ret
          exact ⟨rfl, (by repeat (first | exact Below.refl _ _ | refine bel_later _ ?_ | refine bel_alloc ?_ _ | refine bel_set ?_ (by first | omega | (simp; done) | (simp; omega)) _ | refine Below.drew ?_ | refine bel_drewN ?_ _ | assumption))⟩
      · have f1 : (ea != 0) = true := by rw [bne_iff_ne]; exact he
        clear he
        go_enter Try.func4, Try.ntmps4
        go_wp2_with fail
        with_reducible refine (kx.out _ (by repeat (first | exact Below.refl _ _ | refine bel_later _ ?_ | refine bel_alloc ?_ _ | refine bel_set ?_ (by first | omega | (simp; done) | (simp; omega)) _ | refine Below.drew ?_ | refine bel_drewN ?_ _ | assumption))).mono ?_
        rintro e_x1 w_x1 ⟨Ax1, cx1, rfl, ox1, hb_x1⟩
        obtain ⟨x1, rfl⟩ := later_is hb_x1
        clear hb_x1
        have hz_x1 := x1.bel.size
        try simp at hz_x1
        have l_x1_0 : w.heap.size < x1.val.heap.size := by omega
        have m_x1_0 : w.heap.size < x1.val.heap.size + 1 := by omega
        have q_ := x1.bel.cell (p := ⟨w.heap.size, 0, none⟩) (by first | omega | (simp; done) | (simp; omega))
        generalize c_x1_0_0 : x1.val.cell? ⟨w.heap.size, 0, none⟩ = q at q_
        first | (have q2_ : q = some _ := q_; subst q2_) | (simp [go_sem] at q_; have q2_ : q = some _ := q_; subst q2_) | (simp [go_sem, *] at q_; have q2_ : q = some _ := q_; subst q2_)
        have q_ := x1.bel.frozen (p := ⟨w.heap.size, 0, none⟩) (by first | omega | (simp; done) | (simp; omega))
        generalize z_x1_0_0 : x1.val.frozen? ⟨w.heap.size, 0, none⟩ = q at q_
        first | (have q2_ : q = false := q_; subst q2_) | (simp [go_sem] at q_; have q2_ : q = false := q_; subst q2_) | (simp [go_sem, *] at q_; have q2_ : q = false := q_; subst q2_)
        have q_ := x1.bel.cell (p := ⟨w.heap.size, 1, none⟩) (by first | omega | (simp; done) | (simp; omega))
        generalize c_x1_0_1 : x1.val.cell? ⟨w.heap.size, 1, none⟩ = q at q_
        first | (have q2_ : q = some _ := q_; subst q2_) | (simp [go_sem] at q_; have q2_ : q = some _ := q_; subst q2_) | (simp [go_sem, *] at q_; have q2_ : q = some _ := q_; subst q2_)
        have q_ := x1.bel.frozen (p := ⟨w.heap.size, 1, none⟩) (by first | omega | (simp; done) | (simp; omega))
        generalize z_x1_0_1 : x1.val.frozen? ⟨w.heap.size, 1, none⟩ = q at q_
        first | (have q2_ : q = false := q_; subst q2_) | (simp [go_sem] at q_; have q2_ : q = false := q_; subst q2_) | (simp [go_sem, *] at q_; have q2_ : q = false := q_; subst q2_)
        have l_x1_1 : w.heap.size+1 < x1.val.heap.size := by omega
        have m_x1_1 : w.heap.size+1 < x1.val.heap.size + 1 := by omega
        have q_ := x1.bel.cell (p := ⟨w.heap.size+1, 0, none⟩) (by first | omega | (simp; done) | (simp; omega))
        generalize c_x1_1_0 : x1.val.cell? ⟨w.heap.size+1, 0, none⟩ = q at q_
        first | (have q2_ : q = some _ := q_; subst q2_) | (simp [go_sem] at q_; have q2_ : q = some _ := q_; subst q2_) | (simp [go_sem, *] at q_; have q2_ : q = some _ := q_; subst q2_)
        have q_ := x1.bel.frozen (p := ⟨w.heap.size+1, 0, none⟩) (by first | omega | (simp; done) | (simp; omega))
        generalize z_x1_1_0 : x1.val.frozen? ⟨w.heap.size+1, 0, none⟩ = q at q_
        first | (have q2_ : q = false := q_; subst q2_) | (simp [go_sem] at q_; have q2_ : q = false := q_; subst q2_) | (simp [go_sem, *] at q_; have q2_ : q = false := q_; subst q2_)
        have q_ := x1.bel.cell (p := ⟨w.heap.size+1, 1, none⟩) (by first | omega | (simp; done) | (simp; omega))
        generalize c_x1_1_1 : x1.val.cell? ⟨w.heap.size+1, 1, none⟩ = q at q_
        first | (have q2_ : q = some _ := q_; subst q2_) | (simp [go_sem] at q_; have q2_ : q = some _ := q_; subst q2_) | (simp [go_sem, *] at q_; have q2_ : q = some _ := q_; subst q2_)
        have q_ := x1.bel.frozen (p := ⟨w.heap.size+1, 1, none⟩) (by first | omega | (simp; done) | (simp; omega))
        generalize z_x1_1_1 : x1.val.frozen? ⟨w.heap.size+1, 1, none⟩ = q at q_
        first | (have q2_ : q = false := q_; subst q2_) | (simp [go_sem] at q_; have q2_ : q = false := q_; subst q2_) | (simp [go_sem, *] at q_; have q2_ : q = false := q_; subst q2_)
        go_wp2_with fail
        with_reducible refine (ky.out _ (by repeat (first | exact Below.refl _ _ | refine bel_later _ ?_ | refine bel_alloc ?_ _ | refine bel_set ?_ (by first | omega | (simp; done) | (simp; omega)) _ | refine Below.drew ?_ | refine bel_drewN ?_ _ | assumption))).mono ?_
        rintro e_x2 w_x2 ⟨Ax2, cx2, rfl, ox2, hb_x2⟩
        obtain ⟨x2, rfl⟩ := later_is hb_x2
        clear hb_x2
        have hz_x2 := x2.bel.size
        try simp at hz_x2
        have l_x2_0 : w.heap.size < x2.val.heap.size := by omega
        have m_x2_0 : w.heap.size < x2.val.heap.size + 1 := by omega
        have q_ := x2.bel.cell (p := ⟨w.heap.size, 0, none⟩) (by first | omega | (simp; done) | (simp; omega))
        generalize c_x2_0_0 : x2.val.cell? ⟨w.heap.size, 0, none⟩ = q at q_
        first | (have q2_ : q = some _ := q_; subst q2_) | (simp [go_sem] at q_; have q2_ : q = some _ := q_; subst q2_) | (simp [go_sem, *] at q_; have q2_ : q = some _ := q_; subst q2_)
        have q_ := x2.bel.frozen (p := ⟨w.heap.size, 0, none⟩) (by first | omega | (simp; done) | (simp; omega))
        generalize z_x2_0_0 : x2.val.frozen? ⟨w.heap.size, 0, none⟩ = q at q_
        first | (have q2_ : q = false := q_; subst q2_) | (simp [go_sem] at q_; have q2_ : q = false := q_; subst q2_) | (simp [go_sem, *] at q_; have q2_ : q = false := q_; subst q2_)
        have q_ := x2.bel.cell (p := ⟨w.heap.size, 1, none⟩) (by first | omega | (simp; done) | (simp; omega))
        generalize c_x2_0_1 : x2.val.cell? ⟨w.heap.size, 1, none⟩ = q at q_
        first | (have q2_ : q = some _ := q_; subst q2_) | (simp [go_sem] at q_; have q2_ : q = some _ := q_; subst q2_) | (simp [go_sem, *] at q_; have q2_ : q = some _ := q_; subst q2_)
        have q_ := x2.bel.frozen (p := ⟨w.heap.size, 1, none⟩) (by first | omega | (simp; done) | (simp; omega))
        generalize z_x2_0_1 : x2.val.frozen? ⟨w.heap.size, 1, none⟩ = q at q_
        first | (have q2_ : q = false := q_; subst q2_) | (simp [go_sem] at q_; have q2_ : q = false := q_; subst q2_) | (simp [go_sem, *] at q_; have q2_ : q = false := q_; subst q2_)
        have l_x2_1 : w.heap.size+1 < x2.val.heap.size := by omega
        have m_x2_1 : w.heap.size+1 < x2.val.heap.size + 1 := by omega
        have q_ := x2.bel.cell (p := ⟨w.heap.size+1, 0, none⟩) (by first | omega | (simp; done) | (simp; omega))
        generalize c_x2_1_0 : x2.val.cell? ⟨w.heap.size+1, 0, none⟩ = q at q_
        first | (have q2_ : q = some _ := q_; subst q2_) | (simp [go_sem] at q_; have q2_ : q = some _ := q_; subst q2_) | (simp [go_sem, *] at q_; have q2_ : q = some _ := q_; subst q2_)
        have q_ := x2.bel.frozen (p := ⟨w.heap.size+1, 0, none⟩) (by first | omega | (simp; done) | (simp; omega))
        generalize z_x2_1_0 : x2.val.frozen? ⟨w.heap.size+1, 0, none⟩ = q at q_
        first | (have q2_ : q = false := q_; subst q2_) | (simp [go_sem] at q_; have q2_ : q = false := q_; subst q2_) | (simp [go_sem, *] at q_; have q2_ : q = false := q_; subst q2_)
        have q_ := x2.bel.cell (p := ⟨w.heap.size+1, 1, none⟩) (by first | omega | (simp; done) | (simp; omega))
        generalize c_x2_1_1 : x2.val.cell? ⟨w.heap.size+1, 1, none⟩ = q at q_
        first | (have q2_ : q = some _ := q_; subst q2_) | (simp [go_sem] at q_; have q2_ : q = some _ := q_; subst q2_) | (simp [go_sem, *] at q_; have q2_ : q = some _ := q_; subst q2_)
        have q_ := x2.bel.frozen (p := ⟨w.heap.size+1, 1, none⟩) (by first | omega | (simp; done) | (simp; omega))
        generalize z_x2_1_1 : x2.val.frozen? ⟨w.heap.size+1, 1, none⟩ = q at q_
        first | (have q2_ : q = false := q_; subst q2_) | (simp [go_sem] at q_; have q2_ : q = false := q_; subst q2_) | (simp [go_sem, *] at q_; have q2_ : q = false := q_; subst q2_)
        replace ox1 := own_below ox1 x2.bel
        go_wp2_with fail
        refine (awake_any _).mono ?_
        rintro e_x4 w_x4 ⟨rfl, hb_x4⟩
        obtain ⟨x4, rfl⟩ := later_is hb_x4
        clear hb_x4
        have hz_x4 := x4.bel.size
        try simp at hz_x4
        go_wp2
        go_ret
        exact ⟨rfl, (by repeat (first | exact Below.refl _ _ | refine bel_later _ ?_ | refine bel_alloc ?_ _ | refine bel_set ?_ (by first | omega | (simp; done) | (simp; omega)) _ | refine Below.drew ?_ | refine bel_drewN ?_ _ | assumption))⟩
  · have c1 : ((o : Int) == (p : Int)) = false := beq_eq_false_iff_ne.2 (by omega)
    have HN : Hid (¬ (o = p ∧ t = u ∧ n = m ∧ x.pr = y.pr)) := Lib.hid (fun h => q1 h.1)
    clear q1
    by_cases he : ea = 0
    · subst he
      by_cases hf : eb = 0
      · subst hf
        have HD : Hid (decide (la = lb) = false) := Lib.hid (by
          rw [decide_eq_false_iff_not]
          intro h
          have h1 := (HS.out rfl rfl).1 h
          exact HN.out h1)
        go_enter Try.func4, Try.ntmps4
        go_wp2_with fail
        with_reducible refine (kx.out _ (by repeat (first | exact Below.refl _ _ | refine bel_later _ ?_ | refine bel_alloc ?_ _ | refine bel_set ?_ (by first | omega | (simp; done) | (simp; omega)) _ | refine Below.drew ?_ | refine bel_drewN ?_ _ | assumption))).mono ?_
        rintro e_x1 w_x1 ⟨Ax1, cx1, rfl, ox1, hb_x1⟩
        obtain ⟨x1, rfl⟩ := later_is hb_x1
        clear hb_x1
        have hz_x1 := x1.bel.size
        try simp at hz_x1
        have l_x1_0 : w.heap.size < x1.val.heap.size := by omega
        have m_x1_0 : w.heap.size < x1.val.heap.size + 1 := by omega
        have q_ := x1.bel.cell (p := ⟨w.heap.size, 0, none⟩) (by first | omega | (simp; done) | (simp; omega))
        generalize c_x1_0_0 : x1.val.cell? ⟨w.heap.size, 0, none⟩ = q at q_
        first | (have q2_ : q = some _ := q_; subst q2_) | (simp [go_sem] at q_; have q2_ : q = some _ := q_; subst q2_) | (simp [go_sem, *] at q_; have q2_ : q = some _ := q_; subst q2_)
        have q_ := x1.bel.frozen (p := ⟨w.heap.size, 0, none⟩) (by first | omega | (simp; done) | (simp; omega))
        generalize z_x1_0_0 : x1.val.frozen? ⟨w.heap.size, 0, none⟩ = q at q_
        first | (have q2_ : q = false := q_; subst q2_) | (simp [go_sem] at q_; have q2_ : q = false := q_; subst q2_) | (simp [go_sem, *] at q_; have q2_ : q = false := q_; subst q2_)
        have q_ := x1.bel.cell (p := ⟨w.heap.size, 1, none⟩) (by first | omega | (simp; done) | (simp; omega))
        generalize c_x1_0_1 : x1.val.cell? ⟨w.heap.size, 1, none⟩ = q at q_
        first | (have q2_ : q = some _ := q_; subst q2_) | (simp [go_sem] at q_; have q2_ : q = some _ := q_; subst q2_) | (simp [go_sem, *] at q_; have q2_ : q = some _ := q_; subst q2_)
        have q_ := x1.bel.frozen (p := ⟨w.heap.size, 1, none⟩) (by first | omega | (simp; done) | (simp; omega))
        generalize z_x1_0_1 : x1.val.frozen? ⟨w.heap.size, 1, none⟩ = q at q_
        first | (have q2_ : q = false := q_; subst q2_) | (simp [go_sem] at q_; have q2_ : q = false := q_; subst q2_) | (simp [go_sem, *] at q_; have q2_ : q = false := q_; subst q2_)
        have l_x1_1 : w.heap.size+1 < x1.val.heap.size := by omega
        have m_x1_1 : w.heap.size+1 < x1.val.heap.size + 1 := by omega
        have q_ := x1.bel.cell (p := ⟨w.heap.size+1, 0, none⟩) (by first | omega | (simp; done) | (simp; omega))
        generalize c_x1_1_0 : x1.val.cell? ⟨w.heap.size+1, 0, none⟩ = q at q_
        first | (have q2_ : q = some _ := q_; subst q2_) | (simp [go_sem] at q_; have q2_ : q = some _ := q_; subst q2_) | (simp [go_sem, *] at q_; have q2_ : q = some _ := q_; subst q2_)
        have q_ := x1.bel.frozen (p := ⟨w.heap.size+1, 0, none⟩) (by first | omega | (simp; done) | (simp; omega))
        generalize z_x1_1_0 : x1.val.frozen? ⟨w.heap.size+1, 0, none⟩ = q at q_
        first | (have q2_ : q = false := q_; subst q2_) | (simp [go_sem] at q_; have q2_ : q = false := q_; subst q2_) | (simp [go_sem, *] at q_; have q2_ : q = false := q_; subst q2_)
        have q_ := x1.bel.cell (p := ⟨w.heap.size+1, 1, none⟩) (by first | omega | (simp; done) | (simp; omega))
        generalize c_x1_1_1 : x1.val.cell? ⟨w.heap.size+1, 1, none⟩ = q at q_
        first | (have q2_ : q = some _ := q_; subst q2_) | (simp [go_sem] at q_; have q2_ : q = some _ := q_; subst q2_) | (simp [go_sem, *] at q_; have q2_ : q = some _ := q_; subst q2_)
        have q_ := x1.bel.frozen (p := ⟨w.heap.size+1, 1, none⟩) (by first | omega | (simp; done) | (simp; omega))
        generalize z_x1_1_1 : x1.val.frozen? ⟨w.heap.size+1, 1, none⟩ = q at q_
        first | (have q2_ : q = false := q_; subst q2_) | (simp [go_sem] at q_; have q2_ : q = false := q_; subst q2_) | (simp [go_sem, *] at q_; have q2_ : q = false := q_; subst q2_)
        go_wp2_with fail
        with_reducible refine (ky.out _ (by repeat (first | exact Below.refl _ _ | refine bel_later _ ?_ | refine bel_alloc ?_ _ | refine bel_set ?_ (by first | omega | (simp; done) | (simp; omega)) _ | refine Below.drew ?_ | refine bel_drewN ?_ _ | assumption))).mono ?_
        rintro e_x2 w_x2 ⟨Ax2, cx2, rfl, ox2, hb_x2⟩
        obtain ⟨x2, rfl⟩ := later_is hb_x2
        clear hb_x2
        have hz_x2 := x2.bel.size
        try simp at hz_x2
        have l_x2_0 : w.heap.size < x2.val.heap.size := by omega
        have m_x2_0 : w.heap.size < x2.val.heap.size + 1 := by omega
        have q_ := x2.bel.cell (p := ⟨w.heap.size, 0, none⟩) (by first | omega | (simp; done) | (simp; omega))
        generalize c_x2_0_0 : x2.val.cell? ⟨w.heap.size, 0, none⟩ = q at q_
        first | (have q2_ : q = some _ := q_; subst q2_) | (simp [go_sem] at q_; have q2_ : q = some _ := q_; subst q2_) | (simp [go_sem, *] at q_; have q2_ : q = some _ := q_; subst q2_)
        have q_ := x2.bel.frozen (p := ⟨w.heap.size, 0, none⟩) (by first | omega | (simp; done) | (simp; omega))
        generalize z_x2_0_0 : x2.val.frozen? ⟨w.heap.size, 0, none⟩ = q at q_
        first | (have q2_ : q = false := q_; subst q2_) | (simp [go_sem] at q_; have q2_ : q = false := q_; subst q2_) | (simp [go_sem, *] at q_; have q2_ : q = false := q_; subst q2_)
        have q_ := x2.bel.cell (p := ⟨w.heap.size, 1, none⟩) (by first | omega | (simp; done) | (simp; omega))
        generalize c_x2_0_1 : x2.val.cell? ⟨w.heap.size, 1, none⟩ = q at q_
        first | (have q2_ : q = some _ := q_; subst q2_) | (simp [go_sem] at q_; have q2_ : q = some _ := q_; subst q2_) | (simp [go_sem, *] at q_; have q2_ : q = some _ := q_; subst q2_)
        have q_ := x2.bel.frozen (p := ⟨w.heap.size, 1, none⟩) (by first | omega | (simp; done) | (simp; omega))
        generalize z_x2_0_1 : x2.val.frozen? ⟨w.heap.size, 1, none⟩ = q at q_
        first | (have q2_ : q = false := q_; subst q2_) | (simp [go_sem] at q_; have q2_ : q = false := q_; subst q2_) | (simp [go_sem, *] at q_; have q2_ : q = false := q_; subst q2_)
        have l_x2_1 : w.heap.size+1 < x2.val.heap.size := by omega
        have m_x2_1 : w.heap.size+1 < x2.val.heap.size + 1 := by omega
        have q_ := x2.bel.cell (p := ⟨w.heap.size+1, 0, none⟩) (by first | omega | (simp; done) | (simp; omega))
        generalize c_x2_1_0 : x2.val.cell? ⟨w.heap.size+1, 0, none⟩ = q at q_
        first | (have q2_ : q = some _ := q_; subst q2_) | (simp [go_sem] at q_; have q2_ : q = some _ := q_; subst q2_) | (simp [go_sem, *] at q_; have q2_ : q = some _ := q_; subst q2_)
        have q_ := x2.bel.frozen (p := ⟨w.heap.size+1, 0, none⟩) (by first | omega | (simp; done) | (simp; omega))
        generalize z_x2_1_0 : x2.val.frozen? ⟨w.heap.size+1, 0, none⟩ = q at q_
        first | (have q2_ : q = false := q_; subst q2_) | (simp [go_sem] at q_; have q2_ : q = false := q_; subst q2_) | (simp [go_sem, *] at q_; have q2_ : q = false := q_; subst q2_)
        have q_ := x2.bel.cell (p := ⟨w.heap.size+1, 1, none⟩) (by first | omega | (simp; done) | (simp; omega))
        generalize c_x2_1_1 : x2.val.cell? ⟨w.heap.size+1, 1, none⟩ = q at q_
        first | (have q2_ : q = some _ := q_; subst q2_) | (simp [go_sem] at q_; have q2_ : q = some _ := q_; subst q2_) | (simp [go_sem, *] at q_; have q2_ : q = some _ := q_; subst q2_)
        have q_ := x2.bel.frozen (p := ⟨w.heap.size+1, 1, none⟩) (by first | omega | (simp; done) | (simp; omega))
        generalize z_x2_1_1 : x2.val.frozen? ⟨w.heap.size+1, 1, none⟩ = q at q_
        first | (have q2_ : q = false := q_; subst q2_) | (simp [go_sem] at q_; have q2_ : q = false := q_; subst q2_) | (simp [go_sem, *] at q_; have q2_ : q = false := q_; subst q2_)
        replace ox1 := own_below ox1 x2.bel
        go_wp2_with fail
        refine (lowWords_any Ax1 Ax2 la lb _ _ _ _ false x2.val rfl rfl (Sq.of_own ox1) (Sq.of_own ox2) (by omega) HD.out).mono ?_
        rintro e_x3 w_x3 ⟨rfl, hb_x3⟩
        obtain ⟨x3, rfl⟩ := later_is hb_x3
        clear hb_x3
        have hz_x3 := x3.bel.size
        try simp at hz_x3
        go_wp2_with fail
        refine (awake_any _).mono ?_
        rintro e_x4 w_x4 ⟨rfl, hb_x4⟩
        obtain ⟨x4, rfl⟩ := later_is hb_x4
        clear hb_x4
        have hz_x4 := x4.bel.size
        try simp at hz_x4
        go_wp2
        go_ret
        exact ⟨rfl, (by repeat (first | exact Below.refl _ _ | refine bel_later _ ?_ | refine bel_alloc ?_ _ | refine bel_set ?_ (by first | omega | (simp; done) | (simp; omega)) _ | refine Below.drew ?_ | refine bel_drewN ?_ _ | assumption))⟩
      · have f2 : (eb != 0) = true := by rw [bne_iff_ne]; exact hf
        clear hf
        go_enter Try.func4, Try.ntmps4
        go_wp2_with fail
        with_reducible refine (kx.out _ (by repeat (first | exact Below.refl _ _ | refine bel_later _ ?_ | refine bel_alloc ?_ _ | refine bel_set ?_ (by first | omega | (simp; done) | (simp; omega)) _ | refine Below.drew ?_ | refine bel_drewN ?_ _ | assumption))).mono ?_
        rintro e_x1 w_x1 ⟨Ax1, cx1, rfl, ox1, hb_x1⟩
        obtain ⟨x1, rfl⟩ := later_is hb_x1
        clear hb_x1
        have hz_x1 := x1.bel.size
        try simp at hz_x1
        have l_x1_0 : w.heap.size < x1.val.heap.size := by omega
        have m_x1_0 : w.heap.size < x1.val.heap.size + 1 := by omega
        have q_ := x1.bel.cell (p := ⟨w.heap.size, 0, none⟩) (by first | omega | (simp; done) | (simp; omega))
        generalize c_x1_0_0 : x1.val.cell? ⟨w.heap.size, 0, none⟩ = q at q_
        first | (have q2_ : q = some _ := q_; subst q2_) | (simp [go_sem] at q_; have q2_ : q = some _ := q_; subst q2_) | (simp [go_sem, *] at q_; have q2_ : q = some _ := q_; subst q2_)
        have q_ := x1.bel.frozen (p := ⟨w.heap.size, 0, none⟩) (by first | omega | (simp; done) | (simp; omega))
        generalize z_x1_0_0 : x1.val.frozen? ⟨w.heap.size, 0, none⟩ = q at q_
        first | (have q2_ : q = false := q_; subst q2_) | (simp [go_sem] at q_; have q2_ : q = false := q_; subst q2_) | (simp [go_sem, *] at q_; have q2_ : q = false := q_; subst q2_)
        have q_ := x1.bel.cell (p := ⟨w.heap.size, 1, none⟩) (by first | omega | (simp; done) | (simp; omega))
        generalize c_x1_0_1 : x1.val.cell? ⟨w.heap.size, 1, none⟩ = q at q_
        first | (have q2_ : q = some _ := q_; subst q2_) | (simp [go_sem] at q_; have q2_ : q = some _ := q_; subst q2_) | (simp [go_sem, *] at q_; have q2_ : q = some _ := q_; subst q2_)
        have q_ := x1.bel.frozen (p := ⟨w.heap.size, 1, none⟩) (by first | omega | (simp; done) | (simp; omega))
        generalize z_x1_0_1 : x1.val.frozen? ⟨w.heap.size, 1, none⟩ = q at q_
        first | (have q2_ : q = false := q_; subst q2_) | (simp [go_sem] at q_; have q2_ : q = false := q_; subst q2_) | (simp [go_sem, *] at q_; have q2_ : q = false := q_; subst q2_)
        have l_x1_1 : w.heap.size+1 < x1.val.heap.size := by omega
        have m_x1_1 : w.heap.size+1 < x1.val.heap.size + 1 := by omega
        have q_ := x1.bel.cell (p := ⟨w.heap.size+1, 0, none⟩) (by first | omega | (simp; done) | (simp; omega))
        generalize c_x1_1_0 : x1.val.cell? ⟨w.heap.size+1, 0, none⟩ = q at q_
        first | (have q2_ : q = some _ := q_; subst q2_) | (simp [go_sem] at q_; have q2_ : q = some _ := q_; subst q2_) | (simp [go_sem, *] at q_; have q2_ : q = some _ := q_; subst q2_)
        have q_ := x1.bel.frozen (p := ⟨w.heap.size+1, 0, none⟩) (by first | omega | (simp; done) | (simp; omega))
        generalize z_x1_1_0 : x1.val.frozen? ⟨w.heap.size+1, 0, none⟩ = q at q_
        first | (have q2_ : q = false := q_; subst q2_) | (simp [go_sem] at q_; have q2_ : q = false := q_; subst q2_) | (simp [go_sem, *] at q_; have q2_ : q = false := q_; subst q2_)
        have q_ := x1.bel.cell (p := ⟨w.heap.size+1, 1, none⟩) (by first | omega | (simp; done) | (simp; omega))
        generalize c_x1_1_1 : x1.val.cell? ⟨w.heap.size+1, 1, none⟩ = q at q_
        first | (have q2_ : q = some _ := q_; subst q2_) | (simp [go_sem] at q_; have q2_ : q = some _ := q_; subst q2_) | (simp [go_sem, *] at q_; have q2_ : q = some _ := q_; subst q2_)
        have q_ := x1.bel.frozen (p := ⟨w.heap.size+1, 1, none⟩) (by first | omega | (simp; done) | (simp; omega))
        generalize z_x1_1_1 : x1.val.frozen? ⟨w.heap.size+1, 1, none⟩ = q at q_
        first | (have q2_ : q = false := q_; subst q2_) | (simp [go_sem] at q_; have q2_ : q = false := q_; subst q2_) | (simp [go_sem, *] at q_; have q2_ : q = false := q_; subst q2_)
        go_wp2_with fail
        with_reducible refine (ky.out _ (by repeat (first | exact Below.refl _ _ | refine bel_later _ ?_ | refine bel_alloc ?_ _ | refine bel_set ?_ (by first | omega | (simp; done) | (simp; omega)) _ | refine Below.drew ?_ | refine bel_drewN ?_ _ | assumption))).mono ?_
        rintro e_x2 w_x2 ⟨Ax2, cx2, rfl, ox2, hb_x2⟩
        obtain ⟨x2, rfl⟩ := later_is hb_x2
        clear hb_x2
        have hz_x2 := x2.bel.size
        try simp at hz_x2
        have l_x2_0 : w.heap.size < x2.val.heap.size := by omega
        have m_x2_0 : w.heap.size < x2.val.heap.size + 1 := by omega
        have q_ := x2.bel.cell (p := ⟨w.heap.size, 0, none⟩) (by first | omega | (simp; done) | (simp; omega))
        generalize c_x2_0_0 : x2.val.cell? ⟨w.heap.size, 0, none⟩ = q at q_
        first | (have q2_ : q = some _ := q_; subst q2_) | (simp [go_sem] at q_; have q2_ : q = some _ := q_; subst q2_) | (simp [go_sem, *] at q_; have q2_ : q = some _ := q_; subst q2_)
        have q_ := x2.bel.frozen (p := ⟨w.heap.size, 0, none⟩) (by first | omega | (simp; done) | (simp; omega))
        generalize z_x2_0_0 : x2.val.frozen? ⟨w.heap.size, 0, none⟩ = q at q_
        first | (have q2_ : q = false := q_; subst q2_) | (simp [go_sem] at q_; have q2_ : q = false := q_; subst q2_) | (simp [go_sem, *] at q_; have q2_ : q = false := q_; subst q2_)
        have q_ := x2.bel.cell (p := ⟨w.heap.size, 1, none⟩) (by first | omega | (simp; done) | (simp; omega))
        generalize c_x2_0_1 : x2.val.cell? ⟨w.heap.size, 1, none⟩ = q at q_
        first | (have q2_ : q = some _ := q_; subst q2_) | (simp [go_sem] at q_; have q2_ : q = some _ := q_; subst q2_) | (simp [go_sem, *] at q_; have q2_ : q = some _ := q_; subst q2_)
        have q_ := x2.bel.frozen (p := ⟨w.heap.size, 1, none⟩) (by first | omega | (simp; done) | (simp; omega))
        generalize z_x2_0_1 : x2.val.frozen? ⟨w.heap.size, 1, none⟩ = q at q_
        first | (have q2_ : q = false := q_; subst q2_) | (simp [go_sem] at q_; have q2_ : q = false := q_; subst q2_) | (simp [go_sem, *] at q_; have q2_ : q = false := q_; subst q2_)
        have l_x2_1 : w.heap.size+1 < x2.val.heap.size := by omega
        have m_x2_1 : w.heap.size+1 < x2.val.heap.size + 1 := by omega
        have q_ := x2.bel.cell (p := ⟨w.heap.size+1, 0, none⟩) (by first | omega | (simp; done) | (simp; omega))
        generalize c_x2_1_0 : x2.val.cell? ⟨w.heap.size+1, 0, none⟩ = q at q_
        first | (have q2_ : q = some _ := q_; subst q2_) | (simp [go_sem] at q_; have q2_ : q = some _ := q_; subst q2_) | (simp [go_sem, *] at q_; have q2_ : q = some _ := q_; subst q2_)
        have q_ := x2.bel.frozen (p := ⟨w.heap.size+1, 0, none⟩) (by first | omega | (simp; done) | (simp; omega))
        generalize z_x2_1_0 : x2.val.frozen? ⟨w.heap.size+1, 0, none⟩ = q at q_
        first | (have q2_ : q = false := q_; subst q2_) | (simp [go_sem] at q_; have q2_ : q = false := q_; subst q2_) | (simp [go_sem, *] at q_; have q2_ : q = false := q_; subst q2_)
        have q_ := x2.bel.cell (p := ⟨w.heap.size+1, 1, none⟩) (by first | omega | (simp; done) | (simp; omega))
        generalize c_x2_1_1 : x2.val.cell? ⟨w.heap.size+1, 1, none⟩ = q at q_
        first | (have q2_ : q = some _ := q_; subst q2_) | (simp [go_sem] at q_; have q2_ : q = some _ := q_; subst q2_) | (simp [go_sem, *] at q_; have q2_ : q = some _ := q_; subst q2_)
        have q_ := x2.bel.frozen (p := ⟨w.heap.size+1, 1, none⟩) (by first | omega | (simp; done) | (simp; omega))
        generalize z_x2_1_1 : x2.val.frozen? ⟨w.heap.size+1, 1, none⟩ = q at q_
        first | (have q2_ : q = false := q_; subst q2_) | (simp [go_sem] at q_; have q2_ : q = false := q_; subst q2_) | (simp [go_sem, *] at q_; have q2_ : q = false := q_; subst q2_)
        replace ox1 := own_below ox1 x2.bel
        go_wp2_with fail
        refine (awake_any _).mono ?_
        rintro e_x4 w_x4 ⟨rfl, hb_x4⟩
        obtain ⟨x4, rfl⟩ := later_is hb_x4
        clear hb_x4
        have hz_x4 := x4.bel.size
        try simp at hz_x4
        go_wp2
        go_ret
        exact ⟨rfl, (by repeat (first | exact Below.refl _ _ | refine bel_later _ ?_ | refine bel_alloc ?_ _ | refine bel_set ?_ (by first | omega | (simp; done) | (simp; omega)) _ | refine Below.drew ?_ | refine bel_drewN ?_ _ | assumption))⟩
    · have f1 : (ea != 0) = true := by rw [bne_iff_ne]; exact he
      clear he
      go_enter Try.func4, Try.ntmps4
      go_wp2_with fail
      with_reducible refine (kx.out _ (by repeat (first | exact Below.refl _ _ | refine bel_later _ ?_ | refine bel_alloc ?_ _ | refine bel_set ?_ (by first | omega | (simp; done) | (simp; omega)) _ | refine Below.drew ?_ | refine bel_drewN ?_ _ | assumption))).mono ?_
      rintro e_x1 w_x1 ⟨Ax1, cx1, rfl, ox1, hb_x1⟩
      obtain ⟨x1, rfl⟩ := later_is hb_x1
      clear hb_x1
      have hz_x1 := x1.bel.size
      try simp at hz_x1
      have l_x1_0 : w.heap.size < x1.val.heap.size := by omega
      have m_x1_0 : w.heap.size < x1.val.heap.size + 1 := by omega
      have q_ := x1.bel.cell (p := ⟨w.heap.size, 0, none⟩) (by first | omega | (simp; done) | (simp; omega))
      generalize c_x1_0_0 : x1.val.cell? ⟨w.heap.size, 0, none⟩ = q at q_
      first | (have q2_ : q = some _ := q_; subst q2_) | (simp [go_sem] at q_; have q2_ : q = some _ := q_; subst q2_) | (simp [go_sem, *] at q_; have q2_ : q = some _ := q_; subst q2_)
      have q_ := x1.bel.frozen (p := ⟨w.heap.size, 0, none⟩) (by first | omega | (simp; done) | (simp; omega))
      generalize z_x1_0_0 : x1.val.frozen? ⟨w.heap.size, 0, none⟩ = q at q_
      first | (have q2_ : q = false := q_; subst q2_) | (simp [go_sem] at q_; have q2_ : q = false := q_; subst q2_) | (simp [go_sem, *] at q_; have q2_ : q = false := q_; subst q2_)
      have q_ := x1.bel.cell (p := ⟨w.heap.size, 1, none⟩) (by first | omega | (simp; done) | (simp; omega))
      generalize c_x1_0_1 : x1.val.cell? ⟨w.heap.size, 1, none⟩ = q at q_
      first | (have q2_ : q = some _ := q_; subst q2_) | (simp [go_sem] at q_; have q2_ : q = some _ := q_; subst q2_) | (simp [go_sem, *] at q_; have q2_ : q = some _ := q_; subst q2_)
      have q_ := x1.bel.frozen (p := ⟨w.heap.size, 1, none⟩) (by first | omega | (simp; done) | (simp; omega))
      generalize z_x1_0_1 : x1.val.frozen? ⟨w.heap.size, 1, none⟩ = q at q_
      first | (have q2_ : q = false := q_; subst q2_) | (simp [go_sem] at q_; have q2_ : q = false := q_; subst q2_) | (simp [go_sem, *] at q_; have q2_ : q = false := q_; subst q2_)
      have l_x1_1 : w.heap.size+1 < x1.val.heap.size := by omega
      have m_x1_1 : w.heap.size+1 < x1.val.heap.size + 1 := by omega
      have q_ := x1.bel.cell (p := ⟨w.heap.size+1, 0, none⟩) (by first | omega | (simp; done) | (simp; omega))
      generalize c_x1_1_0 : x1.val.cell? ⟨w.heap.size+1, 0, none⟩ = q at q_
      first | (have q2_ : q = some _ := q_; subst q2_) | (simp [go_sem] at q_; have q2_ : q = some _ := q_; subst q2_) | (simp [go_sem, *] at q_; have q2_ : q = some _ := q_; subst q2_)
      have q_ := x1.bel.frozen (p := ⟨w.heap.size+1, 0, none⟩) (by first | omega | (simp; done) | (simp; omega))
      generalize z_x1_1_0 : x1.val.frozen? ⟨w.heap.size+1, 0, none⟩ = q at q_
      first | (have q2_ : q = false := q_; subst q2_) | (simp [go_sem] at q_; have q2_ : q = false := q_; subst q2_) | (simp [go_sem, *] at q_; have q2_ : q = false := q_; subst q2_)
      have q_ := x1.bel.cell (p := ⟨w.heap.size+1, 1, none⟩) (by first | omega | (simp; done) | (simp; omega))
      generalize c_x1_1_1 : x1.val.cell? ⟨w.heap.size+1, 1, none⟩ = q at q_
      first | (have q2_ : q = some _ := q_; subst q2_) | (simp [go_sem] at q_; have q2_ : q = some _ := q_; subst q2_) | (simp [go_sem, *] at q_; have q2_ : q = some _ := q_; subst q2_)
      have q_ := x1.bel.frozen (p := ⟨w.heap.size+1, 1, none⟩) (by first | omega | (simp; done) | (simp; omega))
      generalize z_x1_1_1 : x1.val.frozen? ⟨w.heap.size+1, 1, none⟩ = q at q_
      first | (have q2_ : q = false := q_; subst q2_) | (simp [go_sem] at q_; have q2_ : q = false := q_; subst q2_) | (simp [go_sem, *] at q_; have q2_ : q = false := q_; subst q2_)
      go_wp2_with fail
      with_reducible refine (ky.out _ (by repeat (first | exact Below.refl _ _ | refine bel_later _ ?_ | refine bel_alloc ?_ _ | refine bel_set ?_ (by first | omega | (simp; done) | (simp; omega)) _ | refine Below.drew ?_ | refine bel_drewN ?_ _ | assumption))).mono ?_
      rintro e_x2 w_x2 ⟨Ax2, cx2, rfl, ox2, hb_x2⟩
      obtain ⟨x2, rfl⟩ := later_is hb_x2
      clear hb_x2
      have hz_x2 := x2.bel.size
      try simp at hz_x2
      have l_x2_0 : w.heap.size < x2.val.heap.size := by omega
      have m_x2_0 : w.heap.size < x2.val.heap.size + 1 := by omega
      have q_ := x2.bel.cell (p := ⟨w.heap.size, 0, none⟩) (by first | omega | (simp; done) | (simp; omega))
      generalize c_x2_0_0 : x2.val.cell? ⟨w.heap.size, 0, none⟩ = q at q_
      first | (have q2_ : q = some _ := q_; subst q2_) | (simp [go_sem] at q_; have q2_ : q = some _ := q_; subst q2_) | (simp [go_sem, *] at q_; have q2_ : q = some _ := q_; subst q2_)
      have q_ := x2.bel.frozen (p := ⟨w.heap.size, 0, none⟩) (by first | omega | (simp; done) | (simp; omega))
      generalize z_x2_0_0 : x2.val.frozen? ⟨w.heap.size, 0, none⟩ = q at q_
      first | (have q2_ : q = false := q_; subst q2_) | (simp [go_sem] at q_; have q2_ : q = false := q_; subst q2_) | (simp [go_sem, *] at q_; have q2_ : q = false := q_; subst q2_)
      have q_ := x2.bel.cell (p := ⟨w.heap.size, 1, none⟩) (by first | omega | (simp; done) | (simp; omega))
      generalize c_x2_0_1 : x2.val.cell? ⟨w.heap.size, 1, none⟩ = q at q_
      first | (have q2_ : q = some _ := q_; subst q2_) | (simp [go_sem] at q_; have q2_ : q = some _ := q_; subst q2_) | (simp [go_sem, *] at q_; have q2_ : q = some _ := q_; subst q2_)
      have q_ := x2.bel.frozen (p := ⟨w.heap.size, 1, none⟩) (by first | omega | (simp; done) | (simp; omega))
      generalize z_x2_0_1 : x2.val.frozen? ⟨w.heap.size, 1, none⟩ = q at q_
      first | (have q2_ : q = false := q_; subst q2_) | (simp [go_sem] at q_; have q2_ : q = false := q_; subst q2_) | (simp [go_sem, *] at q_; have q2_ : q = false := q_; subst q2_)
      have l_x2_1 : w.heap.size+1 < x2.val.heap.size := by omega
      have m_x2_1 : w.heap.size+1 < x2.val.heap.size + 1 := by omega
      have q_ := x2.bel.cell (p := ⟨w.heap.size+1, 0, none⟩) (by first | omega | (simp; done) | (simp; omega))
      generalize c_x2_1_0 : x2.val.cell? ⟨w.heap.size+1, 0, none⟩ = q at q_
      first | (have q2_ : q = some _ := q_; subst q2_) | (simp [go_sem] at q_; have q2_ : q = some _ := q_; subst q2_) | (simp [go_sem, *] at q_; have q2_ : q = some _ := q_; subst q2_)
      have q_ := x2.bel.frozen (p := ⟨w.heap.size+1, 0, none⟩) (by first | omega | (simp; done) | (simp; omega))
      generalize z_x2_1_0 : x2.val.frozen? ⟨w.heap.size+1, 0, none⟩ = q at q_
      first | (have q2_ : q = false := q_; subst q2_) | (simp [go_sem] at q_; have q2_ : q = false := q_; subst q2_) | (simp [go_sem, *] at q_; have q2_ : q = false := q_; subst q2_)
      have q_ := x2.bel.cell (p := ⟨w.heap.size+1, 1, none⟩) (by first | omega | (simp; done) | (simp; omega))
      generalize c_x2_1_1 : x2.val.cell? ⟨w.heap.size+1, 1, none⟩ = q at q_
      first | (have q2_ : q = some _ := q_; subst q2_) | (simp [go_sem] at q_; have q2_ : q = some _ := q_; subst q2_) | (simp [go_sem, *] at q_; have q2_ : q = some _ := q_; subst q2_)
      have q_ := x2.bel.frozen (p := ⟨w.heap.size+1, 1, none⟩) (by first | omega | (simp; done) | (simp; omega))
      generalize z_x2_1_1 : x2.val.frozen? ⟨w.heap.size+1, 1, none⟩ = q at q_
      first | (have q2_ : q = false := q_; subst q2_) | (simp [go_sem] at q_; have q2_ : q = false := q_; subst q2_) | (simp [go_sem, *] at q_; have q2_ : q = false := q_; subst q2_)
      replace ox1 := own_below ox1 x2.bel
      go_wp2_with fail
      refine (awake_any _).mono ?_
      rintro e_x4 w_x4 ⟨rfl, hb_x4⟩
      obtain ⟨x4, rfl⟩ := later_is hb_x4
      clear hb_x4
      have hz_x4 := x4.bel.size
      try simp at hz_x4
      go_wp2
      go_ret
      exact ⟨rfl, (by repeat (first | exact Below.refl _ _ | refine bel_later _ ?_ | refine bel_alloc ?_ _ | refine bel_set ?_ (by first | omega | (simp; done) | (simp; omega)) _ | refine Below.drew ?_ | refine bel_drewN ?_ _ | assumption))⟩
end Go.Proofs.Ytopkncbpkccfbaa
