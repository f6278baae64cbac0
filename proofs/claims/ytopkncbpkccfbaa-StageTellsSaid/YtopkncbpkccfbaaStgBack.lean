/- The walk of StageBack. -/
import Derived.Test.YtopkncbpkccfbaaStgOne
import Derived.Test.YtopkncbpkccfbaaOnly
namespace Go.Proofs.Ytopkncbpkccfbaa
open Go.RowKit
set_option linter.unusedVariables false
attribute [local go_sem] Later.cell Later.frozen setCell_twice
namespace Stg
open Bk
theorem read_bounds {v : List Nat} (h : ∀ x ∈ v, x < 65536) : (read v).o < 65536 ∧ (read v).t < 4294967296 ∧ ∀ x ∈ (read v).ws, x < 65536 := by
  have hb := getD_u16 h
  have b0 := hb 0
  have b1 := hb 1
  have b2 := hb 2
  unfold read
  split
  · exact ⟨by decide, by decide, by simp [none2]⟩
  split
  · exact ⟨by decide, by decide, by simp [none20]⟩
  split
  · refine ⟨b0, ?_, fun x hx => h x (List.mem_of_mem_drop (List.mem_of_mem_take hx))⟩
    show 65536 * v.getD 1 0 + v.getD 2 0 < 4294967296
    omega
  · exact ⟨by decide, by decide, by simp [none20]⟩
end Stg
def WordsV (w : World) (l : List Nat) (m : Nat) (E : Int) (en : Ending) (w' : World) : Prop :=
  ∃ A c, en = .returned (.tuple #[.slice A m c, .int .i64 E]) ∧ w'.ownsRow w.heap.size 22 1 (.slice A m c) m (l.map u16w) ∧ Below w.heap.size w w'
theorem words_lit (o t : Nat) (k a : Int) (ws : List Nat) (A : Option Addr) (c n : Nat) (l : List Nat) (m : Nat) (E : Int) (w : World) (ho : o < 65536) (ht : t < 4294967296) (hn : ws.length = n) (sq : Sq u16w w w.heap.size A ws) (lo : -9223372036854775808 ≤ a) (hi : a ≤ 9223372036854775807) (hnc : ws.length ≤ 9223372036854775807) (hnl : A = none → c = 0) (hr : Stg.words o t k a ws = (l, E)) (hm : l.length = m) :
    Calls Try.prog 11 #[.int .u16 (o : Int), .int .u32 (t : Int), .int .i64 k, .agg #[.int .i64 a, .slice A n c]] w (WordsV w l m E) := by
  subst hm
  have := words_any o t k a ws A c n w ho ht hn sq lo hi hnc hnl
  rw [hr] at this
  exact this
set_option maxRecDepth 100000 in
set_option maxHeartbeats 1000000 in
theorem stageBack_walk (o t : Nat) (n : Int) (x : Blk) (v : List Nat) (Av : Option Addr) (cv : Nat) (w : World) (ho : o < 65536) (ht : t < 4294967296) (hx : x.Ok w w.heap.size) (sv : Sq u16w w w.heap.size Av v) (hv : ∀ x ∈ v, x < 65536) (hcv : v.length ≤ cv) (hcv2 : cv ≤ 9223372036854775807) :
    Calls Try.prog 3 #[.int .u16 (o : Int), .int .u32 (t : Int), .int .i64 n, .agg #[.int .i64 x.a, .slice x.A x.ws.length x.c], .slice Av v.length cv] w fun e w' => e = .returned (.bool true) ∧ Below w.heap.size w w' := by
  by_cases h1 : 100 < x.ws.length
  · have g1 : decide ((100 : Int) < (x.ws.length : Int)) = true := by simp; omega
    go_enter Try.func3, Try.ntmps3
    go_wp2_with fail
    refine (awake_any _).mono ?_
    rintro e_x1 w_x1 ⟨rfl, hb_x1⟩
    obtain ⟨x1, rfl⟩ := later_is hb_x1
    clear hb_x1
    have hz_x1 := x1.bel.size
    try simp at hz_x1
    go_wp2
    go_ret
    exact ⟨rfl, (by repeat (first | exact Below.refl _ _ | refine bel_later _ ?_ | refine bel_alloc ?_ _ | refine bel_set ?_ (by first | omega | (simp; done) | (simp; omega)) _ | refine Below.drew ?_ | refine bel_drewN ?_ _ | assumption))⟩
  have g1 : decide ((100 : Int) < (x.ws.length : Int)) = false := by simp; omega
  by_cases h2 : 40 < v.length
  · have g2 : decide ((40 : Int) < (v.length : Int)) = true := by simp; omega
    go_enter Try.func3, Try.ntmps3
    go_wp2_with fail
    refine (awake_any _).mono ?_
    rintro e_x1 w_x1 ⟨rfl, hb_x1⟩
    obtain ⟨x1, rfl⟩ := later_is hb_x1
    clear hb_x1
    have hz_x1 := x1.bel.size
    try simp at hz_x1
    go_wp2
    go_ret
    exact ⟨rfl, (by repeat (first | exact Below.refl _ _ | refine bel_later _ ?_ | refine bel_alloc ?_ _ | refine bel_set ?_ (by first | omega | (simp; done) | (simp; omega)) _ | refine Below.drew ?_ | refine bel_drewN ?_ _ | assumption))⟩
  have g2 : decide ((40 : Int) < (v.length : Int)) = false := by simp; omega
  have kv := Lib.hid (fun W (h : Below w.heap.size w W) => (sv.below h).more h.size)
  have kx := Lib.hid (fun W (h : Below w.heap.size w W) => hx.to h)
  obtain ⟨rb1, rb2, rb3⟩ := Stg.read_bounds hv
  obtain ⟨r, hr⟩ : ∃ r, Stg.read v = r := ⟨_, rfl⟩
  have hE := Stg.read_back hv
  rw [hr] at rb1 rb2 rb3 hE
  obtain ⟨ro, rt, rn, ra, rw', re⟩ := r
  simp only at rb1 rb2 rb3 hE
  have kr := Lib.hid (fun W (h : Below w.heap.size w W) => read_lit v Av cv v.length _ (ro : Int) (rt : Int) (rn : Int) (ra : Int) re rw'.length W rfl (kv.out W h) hv hcv hcv2 hr rfl rfl rfl rfl rfl rfl)
  simp only at kr
  clear h1 h2
  have hx100 : x.ws.length ≤ 100 := by have := g1; simp at this; omega
  have hv40 : v.length ≤ 40 := by have := g2; simp at this; omega
  have kpa := fun (W : World) (h : Below w.heap.size w W) (l : List Nat) (m : Nat) (E : Int) (hr : Stg.words o t n x.a x.ws = (l, E)) (hm : l.length = m) => words_lit o t n x.a x.ws x.A x.c _ l m E W ho ht rfl (hx.to h).sq hx.lo hx.hi hx.lim hx.nl hr hm
  have kfa := fun (W : World) (b : Bool) (hb : Bk.fits x.a x.ws.length = b) => fits_any x.a x.ws.length x.c x.A b W hx.lo hx.hi hx.lim hb
  have hlx : ∀ b ∈ [x], b.ws.length ≤ 140737488355328 := by
    intro b hb
    obtain rfl : b = x := by simpa using hb
    omega
  by_cases hre : re = 0
  · subst hre
    obtain ⟨hf, hn7, hww⟩ := hE rfl
    have HF := Lib.hid hf
    have HW := Lib.hid hww
    have hra : (ra : Int) ≤ 64 := by have := Bk.fits_iff.1 hf; omega
    have hrn : rn ≤ 7 := hn7
    clear hE hf hww hn7 hr
    by_cases q1 : n < 0
    · have kz := Lib.hid (fun W h => kpa W h [] 0 2 (by unfold Stg.words; rw [if_pos (.inl q1)]) rfl)
      clear kpa kfa
      go_enter Try.func3, Try.ntmps3
      go_wp2_with fail
      with_reducible refine (kr.out _ (by repeat (first | exact Below.refl _ _ | refine bel_later _ ?_ | refine bel_alloc ?_ _ | refine bel_set ?_ (by first | omega | (simp; done) | (simp; omega)) _ | refine Below.drew ?_ | refine bel_drewN ?_ _ | assumption))).mono ?_
      rintro e_x1 w_x1 ⟨Ax1, cx1, rfl, ox1, hb_x1⟩
      obtain ⟨x1, rfl⟩ := later_is hb_x1
      clear hb_x1
      have hz_x1 := x1.bel.size
      try simp at hz_x1
      have l_x1_0 : w.heap.size < x1.val.heap.size := by omega
      have m_x1_0 : w.heap.size < x1.val.heap.size + 1 := by omega
      have q_ := x1.bel.cell (p := ⟨w.heap.size, 0, none⟩) (by first | omega | (simp; done) | (simp; omega))
      generalize c_x1_0_0 : x1.val.cell? ⟨w.heap.size, 0, none⟩ = q at q_
      first | (have q2_ : q = some _ := q_; subst q2_) | (simp [go_sem] at q_; have q2_ : q = some _ := q_; subst q2_) | (simp [go_sem, *] at q_; have q2_ : q = some _ := q_; subst q2_)
      have q_ := x1.bel.frozen (p := ⟨w.heap.size, 0, none⟩) (by first | omega | (simp; done) | (simp; omega))
      generalize z_x1_0_0 : x1.val.frozen? ⟨w.heap.size, 0, none⟩ = q at q_
      first | (have q2_ : q = false := q_; subst q2_) | (simp [go_sem] at q_; have q2_ : q = false := q_; subst q2_) | (simp [go_sem, *] at q_; have q2_ : q = false := q_; subst q2_)
      have q_ := x1.bel.cell (p := ⟨w.heap.size, 1, none⟩) (by first | omega | (simp; done) | (simp; omega))
      generalize c_x1_0_1 : x1.val.cell? ⟨w.heap.size, 1, none⟩ = q at q_
      first | (have q2_ : q = some _ := q_; subst q2_) | (simp [go_sem] at q_; have q2_ : q = some _ := q_; subst q2_) | (simp [go_sem, *] at q_; have q2_ : q = some _ := q_; subst q2_)
      have q_ := x1.bel.frozen (p := ⟨w.heap.size, 1, none⟩) (by first | omega | (simp; done) | (simp; omega))
      generalize z_x1_0_1 : x1.val.frozen? ⟨w.heap.size, 1, none⟩ = q at q_
      first | (have q2_ : q = false := q_; subst q2_) | (simp [go_sem] at q_; have q2_ : q = false := q_; subst q2_) | (simp [go_sem, *] at q_; have q2_ : q = false := q_; subst q2_)
      have hy1 : (Blk.mk (ra : Int) rw' Ax1 cx1).Ok x1.val x1.val.heap.size := Blk.Ok.of_own rfl ox1 rb3 (by omega) (by omega)
      have hb1 : Below w.heap.size w x1.val := (by repeat (first | exact Below.refl _ _ | refine bel_later _ ?_ | refine bel_alloc ?_ _ | refine bel_set ?_ (by first | omega | (simp; done) | (simp; omega)) _ | refine Below.drew ?_ | refine bel_drewN ?_ _ | assumption))
      have kw := Lib.hid (fun W (h : Below x1.val.heap.size x1.val W) => words_lit ro rt (rn : Int) (ra : Int) rw' Ax1 cx1 _ v _ 0 W rb1 rb2 rfl (hy1.to h).sq hy1.lo hy1.hi hy1.lim hy1.nl HW.out rfl)
      have kf := Lib.hid (fun W => fits_any (ra : Int) rw'.length cx1 Ax1 true W hy1.lo hy1.hi hy1.lim HF.out)
      clear ox1
      go_wp2_with fail
      with_reducible refine (kw.out _ (by repeat (first | exact Below.refl _ _ | refine bel_later _ ?_ | refine bel_alloc ?_ _ | refine bel_set ?_ (by first | omega | (simp; done) | (simp; omega)) _ | refine Below.drew ?_ | refine bel_drewN ?_ _ | assumption))).mono ?_
      rintro e_x2 w_x2 ⟨Ax2, cx2, rfl, ox2, hb_x2⟩
      obtain ⟨x2, rfl⟩ := later_is hb_x2
      clear hb_x2
      have hz_x2 := x2.bel.size
      try simp at hz_x2
      have l_x2_0 : x1.val.heap.size < x2.val.heap.size := by omega
      have m_x2_0 : x1.val.heap.size < x2.val.heap.size + 1 := by omega
      have q_ := x2.bel.cell (p := ⟨x1.val.heap.size, 0, none⟩) (by first | omega | (simp; done) | (simp; omega))
      generalize c_x2_0_0 : x2.val.cell? ⟨x1.val.heap.size, 0, none⟩ = q at q_
      first | (have q2_ : q = some _ := q_; subst q2_) | (simp [go_sem] at q_; have q2_ : q = some _ := q_; subst q2_) | (simp [go_sem, *] at q_; have q2_ : q = some _ := q_; subst q2_)
      have q_ := x2.bel.frozen (p := ⟨x1.val.heap.size, 0, none⟩) (by first | omega | (simp; done) | (simp; omega))
      generalize z_x2_0_0 : x2.val.frozen? ⟨x1.val.heap.size, 0, none⟩ = q at q_
      first | (have q2_ : q = false := q_; subst q2_) | (simp [go_sem] at q_; have q2_ : q = false := q_; subst q2_) | (simp [go_sem, *] at q_; have q2_ : q = false := q_; subst q2_)
      have q_ := x2.bel.cell (p := ⟨x1.val.heap.size, 1, none⟩) (by first | omega | (simp; done) | (simp; omega))
      generalize c_x2_0_1 : x2.val.cell? ⟨x1.val.heap.size, 1, none⟩ = q at q_
      first | (have q2_ : q = some _ := q_; subst q2_) | (simp [go_sem] at q_; have q2_ : q = some _ := q_; subst q2_) | (simp [go_sem, *] at q_; have q2_ : q = some _ := q_; subst q2_)
      have q_ := x2.bel.frozen (p := ⟨x1.val.heap.size, 1, none⟩) (by first | omega | (simp; done) | (simp; omega))
      generalize z_x2_0_1 : x2.val.frozen? ⟨x1.val.heap.size, 1, none⟩ = q at q_
      first | (have q2_ : q = false := q_; subst q2_) | (simp [go_sem] at q_; have q2_ : q = false := q_; subst q2_) | (simp [go_sem, *] at q_; have q2_ : q = false := q_; subst q2_)
      have l_x2_1 : w.heap.size < x2.val.heap.size := by omega
      have m_x2_1 : w.heap.size < x2.val.heap.size + 1 := by omega
      have q_ := x2.bel.cell (p := ⟨w.heap.size, 0, none⟩) (by first | omega | (simp; done) | (simp; omega))
      generalize c_x2_1_0 : x2.val.cell? ⟨w.heap.size, 0, none⟩ = q at q_
      first | (have q2_ : q = some _ := q_; subst q2_) | (simp [go_sem] at q_; have q2_ : q = some _ := q_; subst q2_) | (simp [go_sem, *] at q_; have q2_ : q = some _ := q_; subst q2_)
      have q_ := x2.bel.frozen (p := ⟨w.heap.size, 0, none⟩) (by first | omega | (simp; done) | (simp; omega))
      generalize z_x2_1_0 : x2.val.frozen? ⟨w.heap.size, 0, none⟩ = q at q_
      first | (have q2_ : q = false := q_; subst q2_) | (simp [go_sem] at q_; have q2_ : q = false := q_; subst q2_) | (simp [go_sem, *] at q_; have q2_ : q = false := q_; subst q2_)
      have q_ := x2.bel.cell (p := ⟨w.heap.size, 1, none⟩) (by first | omega | (simp; done) | (simp; omega))
      generalize c_x2_1_1 : x2.val.cell? ⟨w.heap.size, 1, none⟩ = q at q_
      first | (have q2_ : q = some _ := q_; subst q2_) | (simp [go_sem] at q_; have q2_ : q = some _ := q_; subst q2_) | (simp [go_sem, *] at q_; have q2_ : q = some _ := q_; subst q2_)
      have q_ := x2.bel.frozen (p := ⟨w.heap.size, 1, none⟩) (by first | omega | (simp; done) | (simp; omega))
      generalize z_x2_1_1 : x2.val.frozen? ⟨w.heap.size, 1, none⟩ = q at q_
      first | (have q2_ : q = false := q_; subst q2_) | (simp [go_sem] at q_; have q2_ : q = false := q_; subst q2_) | (simp [go_sem, *] at q_; have q2_ : q = false := q_; subst q2_)
      go_wp2_with fail
      refine (lowWords_any Ax2 Av v v _ _ _ _ true x2.val rfl rfl (Sq.of_own ox2) (kv.out _ (bel_later x2 (bel_alloc hb1 _))) (by omega) (by simp)).mono ?_
      rintro e_x3 w_x3 ⟨rfl, hb_x3⟩
      obtain ⟨x3, rfl⟩ := later_is hb_x3
      clear hb_x3
      have hz_x3 := x3.bel.size
      try simp at hz_x3
      have l_x3_0 : x1.val.heap.size < x3.val.heap.size := by omega
      have m_x3_0 : x1.val.heap.size < x3.val.heap.size + 1 := by omega
      have q_ := x3.bel.cell (p := ⟨x1.val.heap.size, 0, none⟩) (by first | omega | (simp; done) | (simp; omega))
      generalize c_x3_0_0 : x3.val.cell? ⟨x1.val.heap.size, 0, none⟩ = q at q_
      first | (have q2_ : q = some _ := q_; subst q2_) | (simp [go_sem] at q_; have q2_ : q = some _ := q_; subst q2_) | (simp [go_sem, *] at q_; have q2_ : q = some _ := q_; subst q2_)
      have q_ := x3.bel.frozen (p := ⟨x1.val.heap.size, 0, none⟩) (by first | omega | (simp; done) | (simp; omega))
      generalize z_x3_0_0 : x3.val.frozen? ⟨x1.val.heap.size, 0, none⟩ = q at q_
      first | (have q2_ : q = false := q_; subst q2_) | (simp [go_sem] at q_; have q2_ : q = false := q_; subst q2_) | (simp [go_sem, *] at q_; have q2_ : q = false := q_; subst q2_)
      have q_ := x3.bel.cell (p := ⟨x1.val.heap.size, 1, none⟩) (by first | omega | (simp; done) | (simp; omega))
      generalize c_x3_0_1 : x3.val.cell? ⟨x1.val.heap.size, 1, none⟩ = q at q_
      first | (have q2_ : q = some _ := q_; subst q2_) | (simp [go_sem] at q_; have q2_ : q = some _ := q_; subst q2_) | (simp [go_sem, *] at q_; have q2_ : q = some _ := q_; subst q2_)
      have q_ := x3.bel.frozen (p := ⟨x1.val.heap.size, 1, none⟩) (by first | omega | (simp; done) | (simp; omega))
      generalize z_x3_0_1 : x3.val.frozen? ⟨x1.val.heap.size, 1, none⟩ = q at q_
      first | (have q2_ : q = false := q_; subst q2_) | (simp [go_sem] at q_; have q2_ : q = false := q_; subst q2_) | (simp [go_sem, *] at q_; have q2_ : q = false := q_; subst q2_)
      have l_x3_1 : w.heap.size < x3.val.heap.size := by omega
      have m_x3_1 : w.heap.size < x3.val.heap.size + 1 := by omega
      have q_ := x3.bel.cell (p := ⟨w.heap.size, 0, none⟩) (by first | omega | (simp; done) | (simp; omega))
      generalize c_x3_1_0 : x3.val.cell? ⟨w.heap.size, 0, none⟩ = q at q_
      first | (have q2_ : q = some _ := q_; subst q2_) | (simp [go_sem] at q_; have q2_ : q = some _ := q_; subst q2_) | (simp [go_sem, *] at q_; have q2_ : q = some _ := q_; subst q2_)
      have q_ := x3.bel.frozen (p := ⟨w.heap.size, 0, none⟩) (by first | omega | (simp; done) | (simp; omega))
      generalize z_x3_1_0 : x3.val.frozen? ⟨w.heap.size, 0, none⟩ = q at q_
      first | (have q2_ : q = false := q_; subst q2_) | (simp [go_sem] at q_; have q2_ : q = false := q_; subst q2_) | (simp [go_sem, *] at q_; have q2_ : q = false := q_; subst q2_)
      have q_ := x3.bel.cell (p := ⟨w.heap.size, 1, none⟩) (by first | omega | (simp; done) | (simp; omega))
      generalize c_x3_1_1 : x3.val.cell? ⟨w.heap.size, 1, none⟩ = q at q_
      first | (have q2_ : q = some _ := q_; subst q2_) | (simp [go_sem] at q_; have q2_ : q = some _ := q_; subst q2_) | (simp [go_sem, *] at q_; have q2_ : q = some _ := q_; subst q2_)
      have q_ := x3.bel.frozen (p := ⟨w.heap.size, 1, none⟩) (by first | omega | (simp; done) | (simp; omega))
      generalize z_x3_1_1 : x3.val.frozen? ⟨w.heap.size, 1, none⟩ = q at q_
      first | (have q2_ : q = false := q_; subst q2_) | (simp [go_sem] at q_; have q2_ : q = false := q_; subst q2_) | (simp [go_sem, *] at q_; have q2_ : q = false := q_; subst q2_)
      go_wp2_with fail
      refine (kf.out _).mono ?_
      rintro e_x4 w_x4 ⟨rfl, hb_x4⟩
      obtain ⟨x4, rfl⟩ := later_is hb_x4
      clear hb_x4
      have hz_x4 := x4.bel.size
      try simp at hz_x4
      have l_x4_0 : w.heap.size < x4.val.heap.size := by omega
      have m_x4_0 : w.heap.size < x4.val.heap.size + 1 := by omega
      have q_ := x4.bel.cell (p := ⟨w.heap.size, 0, none⟩) (by first | omega | (simp; done) | (simp; omega))
      generalize c_x4_0_0 : x4.val.cell? ⟨w.heap.size, 0, none⟩ = q at q_
      first | (have q2_ : q = some _ := q_; subst q2_) | (simp [go_sem] at q_; have q2_ : q = some _ := q_; subst q2_) | (simp [go_sem, *] at q_; have q2_ : q = some _ := q_; subst q2_)
      have q_ := x4.bel.frozen (p := ⟨w.heap.size, 0, none⟩) (by first | omega | (simp; done) | (simp; omega))
      generalize z_x4_0_0 : x4.val.frozen? ⟨w.heap.size, 0, none⟩ = q at q_
      first | (have q2_ : q = false := q_; subst q2_) | (simp [go_sem] at q_; have q2_ : q = false := q_; subst q2_) | (simp [go_sem, *] at q_; have q2_ : q = false := q_; subst q2_)
      have q_ := x4.bel.cell (p := ⟨w.heap.size, 1, none⟩) (by first | omega | (simp; done) | (simp; omega))
      generalize c_x4_0_1 : x4.val.cell? ⟨w.heap.size, 1, none⟩ = q at q_
      first | (have q2_ : q = some _ := q_; subst q2_) | (simp [go_sem] at q_; have q2_ : q = some _ := q_; subst q2_) | (simp [go_sem, *] at q_; have q2_ : q = some _ := q_; subst q2_)
      have q_ := x4.bel.frozen (p := ⟨w.heap.size, 1, none⟩) (by first | omega | (simp; done) | (simp; omega))
      generalize z_x4_0_1 : x4.val.frozen? ⟨w.heap.size, 1, none⟩ = q at q_
      first | (have q2_ : q = false := q_; subst q2_) | (simp [go_sem] at q_; have q2_ : q = false := q_; subst q2_) | (simp [go_sem, *] at q_; have q2_ : q = false := q_; subst q2_)
      have hb4 : Below w.heap.size w x4.val := bel_later x4 (bel_later x3 (bel_later x2 (bel_alloc hb1 _)))
      go_wp2_with fail
      with_reducible refine (kz.out _ (by repeat (first | exact Below.refl _ _ | refine bel_later _ ?_ | refine bel_alloc ?_ _ | refine bel_set ?_ (by first | omega | (simp; done) | (simp; omega)) _ | refine Below.drew ?_ | refine bel_drewN ?_ _ | assumption))).mono ?_
      rintro e_z1 w_z1 ⟨Az1, cz1, rfl, oz1, hb_z1⟩
      obtain ⟨z1, rfl⟩ := later_is hb_z1
      clear hb_z1
      have hz_z1 := z1.bel.size
      try simp at hz_z1
      go_wp2_with fail
      refine (awake_any _).mono ?_
      rintro e_z2 w_z2 ⟨rfl, hb_z2⟩
      obtain ⟨z2, rfl⟩ := later_is hb_z2
      clear hb_z2
      have hz_z2 := z2.bel.size
      try simp at hz_z2
      go_wp2
      go_ret
      exact ⟨rfl, (by repeat (first | exact Below.refl _ _ | refine bel_later _ ?_ | refine bel_alloc ?_ _ | refine bel_set ?_ (by first | omega | (simp; done) | (simp; omega)) _ | refine Below.drew ?_ | refine bel_drewN ?_ _ | assumption))⟩
    have g3 : decide (n < 0) = false := by simpa using q1
    by_cases q2 : 7 < n
    · have kz := Lib.hid (fun W h => kpa W h [] 0 2 (by unfold Stg.words; rw [if_pos (.inr q2)]) rfl)
      clear kpa kfa
      go_enter Try.func3, Try.ntmps3
      go_wp2_with fail
      with_reducible refine (kr.out _ (by repeat (first | exact Below.refl _ _ | refine bel_later _ ?_ | refine bel_alloc ?_ _ | refine bel_set ?_ (by first | omega | (simp; done) | (simp; omega)) _ | refine Below.drew ?_ | refine bel_drewN ?_ _ | assumption))).mono ?_
      rintro e_x1 w_x1 ⟨Ax1, cx1, rfl, ox1, hb_x1⟩
      obtain ⟨x1, rfl⟩ := later_is hb_x1
      clear hb_x1
      have hz_x1 := x1.bel.size
      try simp at hz_x1
      have l_x1_0 : w.heap.size < x1.val.heap.size := by omega
      have m_x1_0 : w.heap.size < x1.val.heap.size + 1 := by omega
      have q_ := x1.bel.cell (p := ⟨w.heap.size, 0, none⟩) (by first | omega | (simp; done) | (simp; omega))
      generalize c_x1_0_0 : x1.val.cell? ⟨w.heap.size, 0, none⟩ = q at q_
      first | (have q2_ : q = some _ := q_; subst q2_) | (simp [go_sem] at q_; have q2_ : q = some _ := q_; subst q2_) | (simp [go_sem, *] at q_; have q2_ : q = some _ := q_; subst q2_)
      have q_ := x1.bel.frozen (p := ⟨w.heap.size, 0, none⟩) (by first | omega | (simp; done) | (simp; omega))
      generalize z_x1_0_0 : x1.val.frozen? ⟨w.heap.size, 0, none⟩ = q at q_
      first | (have q2_ : q = false := q_; subst q2_) | (simp [go_sem] at q_; have q2_ : q = false := q_; subst q2_) | (simp [go_sem, *] at q_; have q2_ : q = false := q_; subst q2_)
      have q_ := x1.bel.cell (p := ⟨w.heap.size, 1, none⟩) (by first | omega | (simp; done) | (simp; omega))
      generalize c_x1_0_1 : x1.val.cell? ⟨w.heap.size, 1, none⟩ = q at q_
      first | (have q2_ : q = some _ := q_; subst q2_) | (simp [go_sem] at q_; have q2_ : q = some _ := q_; subst q2_) | (simp [go_sem, *] at q_; have q2_ : q = some _ := q_; subst q2_)
      have q_ := x1.bel.frozen (p := ⟨w.heap.size, 1, none⟩) (by first | omega | (simp; done) | (simp; omega))
      generalize z_x1_0_1 : x1.val.frozen? ⟨w.heap.size, 1, none⟩ = q at q_
      first | (have q2_ : q = false := q_; subst q2_) | (simp [go_sem] at q_; have q2_ : q = false := q_; subst q2_) | (simp [go_sem, *] at q_; have q2_ : q = false := q_; subst q2_)
      have hy1 : (Blk.mk (ra : Int) rw' Ax1 cx1).Ok x1.val x1.val.heap.size := Blk.Ok.of_own rfl ox1 rb3 (by omega) (by omega)
      have hb1 : Below w.heap.size w x1.val := (by repeat (first | exact Below.refl _ _ | refine bel_later _ ?_ | refine bel_alloc ?_ _ | refine bel_set ?_ (by first | omega | (simp; done) | (simp; omega)) _ | refine Below.drew ?_ | refine bel_drewN ?_ _ | assumption))
      have kw := Lib.hid (fun W (h : Below x1.val.heap.size x1.val W) => words_lit ro rt (rn : Int) (ra : Int) rw' Ax1 cx1 _ v _ 0 W rb1 rb2 rfl (hy1.to h).sq hy1.lo hy1.hi hy1.lim hy1.nl HW.out rfl)
      have kf := Lib.hid (fun W => fits_any (ra : Int) rw'.length cx1 Ax1 true W hy1.lo hy1.hi hy1.lim HF.out)
      clear ox1
      go_wp2_with fail
      with_reducible refine (kw.out _ (by repeat (first | exact Below.refl _ _ | refine bel_later _ ?_ | refine bel_alloc ?_ _ | refine bel_set ?_ (by first | omega | (simp; done) | (simp; omega)) _ | refine Below.drew ?_ | refine bel_drewN ?_ _ | assumption))).mono ?_
      rintro e_x2 w_x2 ⟨Ax2, cx2, rfl, ox2, hb_x2⟩
      obtain ⟨x2, rfl⟩ := later_is hb_x2
      clear hb_x2
      have hz_x2 := x2.bel.size
      try simp at hz_x2
      have l_x2_0 : x1.val.heap.size < x2.val.heap.size := by omega
      have m_x2_0 : x1.val.heap.size < x2.val.heap.size + 1 := by omega
      have q_ := x2.bel.cell (p := ⟨x1.val.heap.size, 0, none⟩) (by first | omega | (simp; done) | (simp; omega))
      generalize c_x2_0_0 : x2.val.cell? ⟨x1.val.heap.size, 0, none⟩ = q at q_
      first | (have q2_ : q = some _ := q_; subst q2_) | (simp [go_sem] at q_; have q2_ : q = some _ := q_; subst q2_) | (simp [go_sem, *] at q_; have q2_ : q = some _ := q_; subst q2_)
      have q_ := x2.bel.frozen (p := ⟨x1.val.heap.size, 0, none⟩) (by first | omega | (simp; done) | (simp; omega))
      generalize z_x2_0_0 : x2.val.frozen? ⟨x1.val.heap.size, 0, none⟩ = q at q_
      first | (have q2_ : q = false := q_; subst q2_) | (simp [go_sem] at q_; have q2_ : q = false := q_; subst q2_) | (simp [go_sem, *] at q_; have q2_ : q = false := q_; subst q2_)
      have q_ := x2.bel.cell (p := ⟨x1.val.heap.size, 1, none⟩) (by first | omega | (simp; done) | (simp; omega))
      generalize c_x2_0_1 : x2.val.cell? ⟨x1.val.heap.size, 1, none⟩ = q at q_
      first | (have q2_ : q = some _ := q_; subst q2_) | (simp [go_sem] at q_; have q2_ : q = some _ := q_; subst q2_) | (simp [go_sem, *] at q_; have q2_ : q = some _ := q_; subst q2_)
      have q_ := x2.bel.frozen (p := ⟨x1.val.heap.size, 1, none⟩) (by first | omega | (simp; done) | (simp; omega))
      generalize z_x2_0_1 : x2.val.frozen? ⟨x1.val.heap.size, 1, none⟩ = q at q_
      first | (have q2_ : q = false := q_; subst q2_) | (simp [go_sem] at q_; have q2_ : q = false := q_; subst q2_) | (simp [go_sem, *] at q_; have q2_ : q = false := q_; subst q2_)
      have l_x2_1 : w.heap.size < x2.val.heap.size := by omega
      have m_x2_1 : w.heap.size < x2.val.heap.size + 1 := by omega
      have q_ := x2.bel.cell (p := ⟨w.heap.size, 0, none⟩) (by first | omega | (simp; done) | (simp; omega))
      generalize c_x2_1_0 : x2.val.cell? ⟨w.heap.size, 0, none⟩ = q at q_
      first | (have q2_ : q = some _ := q_; subst q2_) | (simp [go_sem] at q_; have q2_ : q = some _ := q_; subst q2_) | (simp [go_sem, *] at q_; have q2_ : q = some _ := q_; subst q2_)
      have q_ := x2.bel.frozen (p := ⟨w.heap.size, 0, none⟩) (by first | omega | (simp; done) | (simp; omega))
      generalize z_x2_1_0 : x2.val.frozen? ⟨w.heap.size, 0, none⟩ = q at q_
      first | (have q2_ : q = false := q_; subst q2_) | (simp [go_sem] at q_; have q2_ : q = false := q_; subst q2_) | (simp [go_sem, *] at q_; have q2_ : q = false := q_; subst q2_)
      have q_ := x2.bel.cell (p := ⟨w.heap.size, 1, none⟩) (by first | omega | (simp; done) | (simp; omega))
      generalize c_x2_1_1 : x2.val.cell? ⟨w.heap.size, 1, none⟩ = q at q_
      first | (have q2_ : q = some _ := q_; subst q2_) | (simp [go_sem] at q_; have q2_ : q = some _ := q_; subst q2_) | (simp [go_sem, *] at q_; have q2_ : q = some _ := q_; subst q2_)
      have q_ := x2.bel.frozen (p := ⟨w.heap.size, 1, none⟩) (by first | omega | (simp; done) | (simp; omega))
      generalize z_x2_1_1 : x2.val.frozen? ⟨w.heap.size, 1, none⟩ = q at q_
      first | (have q2_ : q = false := q_; subst q2_) | (simp [go_sem] at q_; have q2_ : q = false := q_; subst q2_) | (simp [go_sem, *] at q_; have q2_ : q = false := q_; subst q2_)
      go_wp2_with fail
      refine (lowWords_any Ax2 Av v v _ _ _ _ true x2.val rfl rfl (Sq.of_own ox2) (kv.out _ (bel_later x2 (bel_alloc hb1 _))) (by omega) (by simp)).mono ?_
      rintro e_x3 w_x3 ⟨rfl, hb_x3⟩
      obtain ⟨x3, rfl⟩ := later_is hb_x3
      clear hb_x3
      have hz_x3 := x3.bel.size
      try simp at hz_x3
      have l_x3_0 : x1.val.heap.size < x3.val.heap.size := by omega
      have m_x3_0 : x1.val.heap.size < x3.val.heap.size + 1 := by omega
      have q_ := x3.bel.cell (p := ⟨x1.val.heap.size, 0, none⟩) (by first | omega | (simp; done) | (simp; omega))
      generalize c_x3_0_0 : x3.val.cell? ⟨x1.val.heap.size, 0, none⟩ = q at q_
      first | (have q2_ : q = some _ := q_; subst q2_) | (simp [go_sem] at q_; have q2_ : q = some _ := q_; subst q2_) | (simp [go_sem, *] at q_; have q2_ : q = some _ := q_; subst q2_)
      have q_ := x3.bel.frozen (p := ⟨x1.val.heap.size, 0, none⟩) (by first | omega | (simp; done) | (simp; omega))
      generalize z_x3_0_0 : x3.val.frozen? ⟨x1.val.heap.size, 0, none⟩ = q at q_
      first | (have q2_ : q = false := q_; subst q2_) | (simp [go_sem] at q_; have q2_ : q = false := q_; subst q2_) | (simp [go_sem, *] at q_; have q2_ : q = false := q_; subst q2_)
      have q_ := x3.bel.cell (p := ⟨x1.val.heap.size, 1, none⟩) (by first | omega | (simp; done) | (simp; omega))
      generalize c_x3_0_1 : x3.val.cell? ⟨x1.val.heap.size, 1, none⟩ = q at q_
      first | (have q2_ : q = some _ := q_; subst q2_) | (simp [go_sem] at q_; have q2_ : q = some _ := q_; subst q2_) | (simp [go_sem, *] at q_; have q2_ : q = some _ := q_; subst q2_)
      have q_ := x3.bel.frozen (p := ⟨x1.val.heap.size, 1, none⟩) (by first | omega | (simp; done) | (simp; omega))
      generalize z_x3_0_1 : x3.val.frozen? ⟨x1.val.heap.size, 1, none⟩ = q at q_
      first | (have q2_ : q = false := q_; subst q2_) | (simp [go_sem] at q_; have q2_ : q = false := q_; subst q2_) | (simp [go_sem, *] at q_; have q2_ : q = false := q_; subst q2_)
      have l_x3_1 : w.heap.size < x3.val.heap.size := by omega
      have m_x3_1 : w.heap.size < x3.val.heap.size + 1 := by omega
      have q_ := x3.bel.cell (p := ⟨w.heap.size, 0, none⟩) (by first | omega | (simp; done) | (simp; omega))
      generalize c_x3_1_0 : x3.val.cell? ⟨w.heap.size, 0, none⟩ = q at q_
      first | (have q2_ : q = some _ := q_; subst q2_) | (simp [go_sem] at q_; have q2_ : q = some _ := q_; subst q2_) | (simp [go_sem, *] at q_; have q2_ : q = some _ := q_; subst q2_)
      have q_ := x3.bel.frozen (p := ⟨w.heap.size, 0, none⟩) (by first | omega | (simp; done) | (simp; omega))
      generalize z_x3_1_0 : x3.val.frozen? ⟨w.heap.size, 0, none⟩ = q at q_
      first | (have q2_ : q = false := q_; subst q2_) | (simp [go_sem] at q_; have q2_ : q = false := q_; subst q2_) | (simp [go_sem, *] at q_; have q2_ : q = false := q_; subst q2_)
      have q_ := x3.bel.cell (p := ⟨w.heap.size, 1, none⟩) (by first | omega | (simp; done) | (simp; omega))
      generalize c_x3_1_1 : x3.val.cell? ⟨w.heap.size, 1, none⟩ = q at q_
      first | (have q2_ : q = some _ := q_; subst q2_) | (simp [go_sem] at q_; have q2_ : q = some _ := q_; subst q2_) | (simp [go_sem, *] at q_; have q2_ : q = some _ := q_; subst q2_)
      have q_ := x3.bel.frozen (p := ⟨w.heap.size, 1, none⟩) (by first | omega | (simp; done) | (simp; omega))
      generalize z_x3_1_1 : x3.val.frozen? ⟨w.heap.size, 1, none⟩ = q at q_
      first | (have q2_ : q = false := q_; subst q2_) | (simp [go_sem] at q_; have q2_ : q = false := q_; subst q2_) | (simp [go_sem, *] at q_; have q2_ : q = false := q_; subst q2_)
      go_wp2_with fail
      refine (kf.out _).mono ?_
      rintro e_x4 w_x4 ⟨rfl, hb_x4⟩
      obtain ⟨x4, rfl⟩ := later_is hb_x4
      clear hb_x4
      have hz_x4 := x4.bel.size
      try simp at hz_x4
      have l_x4_0 : w.heap.size < x4.val.heap.size := by omega
      have m_x4_0 : w.heap.size < x4.val.heap.size + 1 := by omega
      have q_ := x4.bel.cell (p := ⟨w.heap.size, 0, none⟩) (by first | omega | (simp; done) | (simp; omega))
      generalize c_x4_0_0 : x4.val.cell? ⟨w.heap.size, 0, none⟩ = q at q_
      first | (have q2_ : q = some _ := q_; subst q2_) | (simp [go_sem] at q_; have q2_ : q = some _ := q_; subst q2_) | (simp [go_sem, *] at q_; have q2_ : q = some _ := q_; subst q2_)
      have q_ := x4.bel.frozen (p := ⟨w.heap.size, 0, none⟩) (by first | omega | (simp; done) | (simp; omega))
      generalize z_x4_0_0 : x4.val.frozen? ⟨w.heap.size, 0, none⟩ = q at q_
      first | (have q2_ : q = false := q_; subst q2_) | (simp [go_sem] at q_; have q2_ : q = false := q_; subst q2_) | (simp [go_sem, *] at q_; have q2_ : q = false := q_; subst q2_)
      have q_ := x4.bel.cell (p := ⟨w.heap.size, 1, none⟩) (by first | omega | (simp; done) | (simp; omega))
      generalize c_x4_0_1 : x4.val.cell? ⟨w.heap.size, 1, none⟩ = q at q_
      first | (have q2_ : q = some _ := q_; subst q2_) | (simp [go_sem] at q_; have q2_ : q = some _ := q_; subst q2_) | (simp [go_sem, *] at q_; have q2_ : q = some _ := q_; subst q2_)
      have q_ := x4.bel.frozen (p := ⟨w.heap.size, 1, none⟩) (by first | omega | (simp; done) | (simp; omega))
      generalize z_x4_0_1 : x4.val.frozen? ⟨w.heap.size, 1, none⟩ = q at q_
      first | (have q2_ : q = false := q_; subst q2_) | (simp [go_sem] at q_; have q2_ : q = false := q_; subst q2_) | (simp [go_sem, *] at q_; have q2_ : q = false := q_; subst q2_)
      have hb4 : Below w.heap.size w x4.val := bel_later x4 (bel_later x3 (bel_later x2 (bel_alloc hb1 _)))
      go_wp2_with fail
      with_reducible refine (kz.out _ (by repeat (first | exact Below.refl _ _ | refine bel_later _ ?_ | refine bel_alloc ?_ _ | refine bel_set ?_ (by first | omega | (simp; done) | (simp; omega)) _ | refine Below.drew ?_ | refine bel_drewN ?_ _ | assumption))).mono ?_
      rintro e_z1 w_z1 ⟨Az1, cz1, rfl, oz1, hb_z1⟩
      obtain ⟨z1, rfl⟩ := later_is hb_z1
      clear hb_z1
      have hz_z1 := z1.bel.size
      try simp at hz_z1
      go_wp2_with fail
      refine (awake_any _).mono ?_
      rintro e_z2 w_z2 ⟨rfl, hb_z2⟩
      obtain ⟨z2, rfl⟩ := later_is hb_z2
      clear hb_z2
      have hz_z2 := z2.bel.size
      try simp at hz_z2
      go_wp2
      go_ret
      exact ⟨rfl, (by repeat (first | exact Below.refl _ _ | refine bel_later _ ?_ | refine bel_alloc ?_ _ | refine bel_set ?_ (by first | omega | (simp; done) | (simp; omega)) _ | refine Below.drew ?_ | refine bel_drewN ?_ _ | assumption))⟩
    have g4 : decide (7 < n) = false := by simpa using q2
    cases hf : Bk.fits x.a x.ws.length
    · have kz := Lib.hid (fun W h => kpa W h [] 0 20 (by unfold Stg.words; rw [if_neg (by omega), if_neg (by simp [hf])]) rfl)
      have kfx := Lib.hid (fun W => kfa W false hf)
      clear kpa kfa hf
      go_enter Try.func3, Try.ntmps3
      go_wp2_with fail
      with_reducible refine (kr.out _ (by repeat (first | exact Below.refl _ _ | refine bel_later _ ?_ | refine bel_alloc ?_ _ | refine bel_set ?_ (by first | omega | (simp; done) | (simp; omega)) _ | refine Below.drew ?_ | refine bel_drewN ?_ _ | assumption))).mono ?_
      rintro e_x1 w_x1 ⟨Ax1, cx1, rfl, ox1, hb_x1⟩
      obtain ⟨x1, rfl⟩ := later_is hb_x1
      clear hb_x1
      have hz_x1 := x1.bel.size
      try simp at hz_x1
      have l_x1_0 : w.heap.size < x1.val.heap.size := by omega
      have m_x1_0 : w.heap.size < x1.val.heap.size + 1 := by omega
      have q_ := x1.bel.cell (p := ⟨w.heap.size, 0, none⟩) (by first | omega | (simp; done) | (simp; omega))
      generalize c_x1_0_0 : x1.val.cell? ⟨w.heap.size, 0, none⟩ = q at q_
      first | (have q2_ : q = some _ := q_; subst q2_) | (simp [go_sem] at q_; have q2_ : q = some _ := q_; subst q2_) | (simp [go_sem, *] at q_; have q2_ : q = some _ := q_; subst q2_)
      have q_ := x1.bel.frozen (p := ⟨w.heap.size, 0, none⟩) (by first | omega | (simp; done) | (simp; omega))
      generalize z_x1_0_0 : x1.val.frozen? ⟨w.heap.size, 0, none⟩ = q at q_
      first | (have q2_ : q = false := q_; subst q2_) | (simp [go_sem] at q_; have q2_ : q = false := q_; subst q2_) | (simp [go_sem, *] at q_; have q2_ : q = false := q_; subst q2_)
      have q_ := x1.bel.cell (p := ⟨w.heap.size, 1, none⟩) (by first | omega | (simp; done) | (simp; omega))
      generalize c_x1_0_1 : x1.val.cell? ⟨w.heap.size, 1, none⟩ = q at q_
      first | (have q2_ : q = some _ := q_; subst q2_) | (simp [go_sem] at q_; have q2_ : q = some _ := q_; subst q2_) | (simp [go_sem, *] at q_; have q2_ : q = some _ := q_; subst q2_)
      have q_ := x1.bel.frozen (p := ⟨w.heap.size, 1, none⟩) (by first | omega | (simp; done) | (simp; omega))
      generalize z_x1_0_1 : x1.val.frozen? ⟨w.heap.size, 1, none⟩ = q at q_
      first | (have q2_ : q = false := q_; subst q2_) | (simp [go_sem] at q_; have q2_ : q = false := q_; subst q2_) | (simp [go_sem, *] at q_; have q2_ : q = false := q_; subst q2_)
      have hy1 : (Blk.mk (ra : Int) rw' Ax1 cx1).Ok x1.val x1.val.heap.size := Blk.Ok.of_own rfl ox1 rb3 (by omega) (by omega)
      have hb1 : Below w.heap.size w x1.val := (by repeat (first | exact Below.refl _ _ | refine bel_later _ ?_ | refine bel_alloc ?_ _ | refine bel_set ?_ (by first | omega | (simp; done) | (simp; omega)) _ | refine Below.drew ?_ | refine bel_drewN ?_ _ | assumption))
      have kw := Lib.hid (fun W (h : Below x1.val.heap.size x1.val W) => words_lit ro rt (rn : Int) (ra : Int) rw' Ax1 cx1 _ v _ 0 W rb1 rb2 rfl (hy1.to h).sq hy1.lo hy1.hi hy1.lim hy1.nl HW.out rfl)
      have kf := Lib.hid (fun W => fits_any (ra : Int) rw'.length cx1 Ax1 true W hy1.lo hy1.hi hy1.lim HF.out)
      clear ox1
      go_wp2_with fail
      with_reducible refine (kw.out _ (by repeat (first | exact Below.refl _ _ | refine bel_later _ ?_ | refine bel_alloc ?_ _ | refine bel_set ?_ (by first | omega | (simp; done) | (simp; omega)) _ | refine Below.drew ?_ | refine bel_drewN ?_ _ | assumption))).mono ?_
      rintro e_x2 w_x2 ⟨Ax2, cx2, rfl, ox2, hb_x2⟩
      obtain ⟨x2, rfl⟩ := later_is hb_x2
      clear hb_x2
      have hz_x2 := x2.bel.size
      try simp at hz_x2
      have l_x2_0 : x1.val.heap.size < x2.val.heap.size := by omega
      have m_x2_0 : x1.val.heap.size < x2.val.heap.size + 1 := by omega
      have q_ := x2.bel.cell (p := ⟨x1.val.heap.size, 0, none⟩) (by first | omega | (simp; done) | (simp; omega))
      generalize c_x2_0_0 : x2.val.cell? ⟨x1.val.heap.size, 0, none⟩ = q at q_
      first | (have q2_ : q = some _ := q_; subst q2_) | (simp [go_sem] at q_; have q2_ : q = some _ := q_; subst q2_) | (simp [go_sem, *] at q_; have q2_ : q = some _ := q_; subst q2_)
      have q_ := x2.bel.frozen (p := ⟨x1.val.heap.size, 0, none⟩) (by first | omega | (simp; done) | (simp; omega))
      generalize z_x2_0_0 : x2.val.frozen? ⟨x1.val.heap.size, 0, none⟩ = q at q_
      first | (have q2_ : q = false := q_; subst q2_) | (simp [go_sem] at q_; have q2_ : q = false := q_; subst q2_) | (simp [go_sem, *] at q_; have q2_ : q = false := q_; subst q2_)
      have q_ := x2.bel.cell (p := ⟨x1.val.heap.size, 1, none⟩) (by first | omega | (simp; done) | (simp; omega))
      generalize c_x2_0_1 : x2.val.cell? ⟨x1.val.heap.size, 1, none⟩ = q at q_
      first | (have q2_ : q = some _ := q_; subst q2_) | (simp [go_sem] at q_; have q2_ : q = some _ := q_; subst q2_) | (simp [go_sem, *] at q_; have q2_ : q = some _ := q_; subst q2_)
      have q_ := x2.bel.frozen (p := ⟨x1.val.heap.size, 1, none⟩) (by first | omega | (simp; done) | (simp; omega))
      generalize z_x2_0_1 : x2.val.frozen? ⟨x1.val.heap.size, 1, none⟩ = q at q_
      first | (have q2_ : q = false := q_; subst q2_) | (simp [go_sem] at q_; have q2_ : q = false := q_; subst q2_) | (simp [go_sem, *] at q_; have q2_ : q = false := q_; subst q2_)
      have l_x2_1 : w.heap.size < x2.val.heap.size := by omega
      have m_x2_1 : w.heap.size < x2.val.heap.size + 1 := by omega
      have q_ := x2.bel.cell (p := ⟨w.heap.size, 0, none⟩) (by first | omega | (simp; done) | (simp; omega))
      generalize c_x2_1_0 : x2.val.cell? ⟨w.heap.size, 0, none⟩ = q at q_
      first | (have q2_ : q = some _ := q_; subst q2_) | (simp [go_sem] at q_; have q2_ : q = some _ := q_; subst q2_) | (simp [go_sem, *] at q_; have q2_ : q = some _ := q_; subst q2_)
      have q_ := x2.bel.frozen (p := ⟨w.heap.size, 0, none⟩) (by first | omega | (simp; done) | (simp; omega))
      generalize z_x2_1_0 : x2.val.frozen? ⟨w.heap.size, 0, none⟩ = q at q_
      first | (have q2_ : q = false := q_; subst q2_) | (simp [go_sem] at q_; have q2_ : q = false := q_; subst q2_) | (simp [go_sem, *] at q_; have q2_ : q = false := q_; subst q2_)
      have q_ := x2.bel.cell (p := ⟨w.heap.size, 1, none⟩) (by first | omega | (simp; done) | (simp; omega))
      generalize c_x2_1_1 : x2.val.cell? ⟨w.heap.size, 1, none⟩ = q at q_
      first | (have q2_ : q = some _ := q_; subst q2_) | (simp [go_sem] at q_; have q2_ : q = some _ := q_; subst q2_) | (simp [go_sem, *] at q_; have q2_ : q = some _ := q_; subst q2_)
      have q_ := x2.bel.frozen (p := ⟨w.heap.size, 1, none⟩) (by first | omega | (simp; done) | (simp; omega))
      generalize z_x2_1_1 : x2.val.frozen? ⟨w.heap.size, 1, none⟩ = q at q_
      first | (have q2_ : q = false := q_; subst q2_) | (simp [go_sem] at q_; have q2_ : q = false := q_; subst q2_) | (simp [go_sem, *] at q_; have q2_ : q = false := q_; subst q2_)
      go_wp2_with fail
      refine (lowWords_any Ax2 Av v v _ _ _ _ true x2.val rfl rfl (Sq.of_own ox2) (kv.out _ (bel_later x2 (bel_alloc hb1 _))) (by omega) (by simp)).mono ?_
      rintro e_x3 w_x3 ⟨rfl, hb_x3⟩
      obtain ⟨x3, rfl⟩ := later_is hb_x3
      clear hb_x3
      have hz_x3 := x3.bel.size
      try simp at hz_x3
      have l_x3_0 : x1.val.heap.size < x3.val.heap.size := by omega
      have m_x3_0 : x1.val.heap.size < x3.val.heap.size + 1 := by omega
      have q_ := x3.bel.cell (p := ⟨x1.val.heap.size, 0, none⟩) (by first | omega | (simp; done) | (simp; omega))
      generalize c_x3_0_0 : x3.val.cell? ⟨x1.val.heap.size, 0, none⟩ = q at q_
      first | (have q2_ : q = some _ := q_; subst q2_) | (simp [go_sem] at q_; have q2_ : q = some _ := q_; subst q2_) | (simp [go_sem, *] at q_; have q2_ : q = some _ := q_; subst q2_)
      have q_ := x3.bel.frozen (p := ⟨x1.val.heap.size, 0, none⟩) (by first | omega | (simp; done) | (simp; omega))
      generalize z_x3_0_0 : x3.val.frozen? ⟨x1.val.heap.size, 0, none⟩ = q at q_
      first | (have q2_ : q = false := q_; subst q2_) | (simp [go_sem] at q_; have q2_ : q = false := q_; subst q2_) | (simp [go_sem, *] at q_; have q2_ : q = false := q_; subst q2_)
      have q_ := x3.bel.cell (p := ⟨x1.val.heap.size, 1, none⟩) (by first | omega | (simp; done) | (simp; omega))
      generalize c_x3_0_1 : x3.val.cell? ⟨x1.val.heap.size, 1, none⟩ = q at q_
      first | (have q2_ : q = some _ := q_; subst q2_) | (simp [go_sem] at q_; have q2_ : q = some _ := q_; subst q2_) | (simp [go_sem, *] at q_; have q2_ : q = some _ := q_; subst q2_)
      have q_ := x3.bel.frozen (p := ⟨x1.val.heap.size, 1, none⟩) (by first | omega | (simp; done) | (simp; omega))
      generalize z_x3_0_1 : x3.val.frozen? ⟨x1.val.heap.size, 1, none⟩ = q at q_
      first | (have q2_ : q = false := q_; subst q2_) | (simp [go_sem] at q_; have q2_ : q = false := q_; subst q2_) | (simp [go_sem, *] at q_; have q2_ : q = false := q_; subst q2_)
      have l_x3_1 : w.heap.size < x3.val.heap.size := by omega
      have m_x3_1 : w.heap.size < x3.val.heap.size + 1 := by omega
      have q_ := x3.bel.cell (p := ⟨w.heap.size, 0, none⟩) (by first | omega | (simp; done) | (simp; omega))
      generalize c_x3_1_0 : x3.val.cell? ⟨w.heap.size, 0, none⟩ = q at q_
      first | (have q2_ : q = some _ := q_; subst q2_) | (simp [go_sem] at q_; have q2_ : q = some _ := q_; subst q2_) | (simp [go_sem, *] at q_; have q2_ : q = some _ := q_; subst q2_)
      have q_ := x3.bel.frozen (p := ⟨w.heap.size, 0, none⟩) (by first | omega | (simp; done) | (simp; omega))
      generalize z_x3_1_0 : x3.val.frozen? ⟨w.heap.size, 0, none⟩ = q at q_
      first | (have q2_ : q = false := q_; subst q2_) | (simp [go_sem] at q_; have q2_ : q = false := q_; subst q2_) | (simp [go_sem, *] at q_; have q2_ : q = false := q_; subst q2_)
      have q_ := x3.bel.cell (p := ⟨w.heap.size, 1, none⟩) (by first | omega | (simp; done) | (simp; omega))
      generalize c_x3_1_1 : x3.val.cell? ⟨w.heap.size, 1, none⟩ = q at q_
      first | (have q2_ : q = some _ := q_; subst q2_) | (simp [go_sem] at q_; have q2_ : q = some _ := q_; subst q2_) | (simp [go_sem, *] at q_; have q2_ : q = some _ := q_; subst q2_)
      have q_ := x3.bel.frozen (p := ⟨w.heap.size, 1, none⟩) (by first | omega | (simp; done) | (simp; omega))
      generalize z_x3_1_1 : x3.val.frozen? ⟨w.heap.size, 1, none⟩ = q at q_
      first | (have q2_ : q = false := q_; subst q2_) | (simp [go_sem] at q_; have q2_ : q = false := q_; subst q2_) | (simp [go_sem, *] at q_; have q2_ : q = false := q_; subst q2_)
      go_wp2_with fail
      refine (kf.out _).mono ?_
      rintro e_x4 w_x4 ⟨rfl, hb_x4⟩
      obtain ⟨x4, rfl⟩ := later_is hb_x4
      clear hb_x4
      have hz_x4 := x4.bel.size
      try simp at hz_x4
      have l_x4_0 : w.heap.size < x4.val.heap.size := by omega
      have m_x4_0 : w.heap.size < x4.val.heap.size + 1 := by omega
      have q_ := x4.bel.cell (p := ⟨w.heap.size, 0, none⟩) (by first | omega | (simp; done) | (simp; omega))
      generalize c_x4_0_0 : x4.val.cell? ⟨w.heap.size, 0, none⟩ = q at q_
      first | (have q2_ : q = some _ := q_; subst q2_) | (simp [go_sem] at q_; have q2_ : q = some _ := q_; subst q2_) | (simp [go_sem, *] at q_; have q2_ : q = some _ := q_; subst q2_)
      have q_ := x4.bel.frozen (p := ⟨w.heap.size, 0, none⟩) (by first | omega | (simp; done) | (simp; omega))
      generalize z_x4_0_0 : x4.val.frozen? ⟨w.heap.size, 0, none⟩ = q at q_
      first | (have q2_ : q = false := q_; subst q2_) | (simp [go_sem] at q_; have q2_ : q = false := q_; subst q2_) | (simp [go_sem, *] at q_; have q2_ : q = false := q_; subst q2_)
      have q_ := x4.bel.cell (p := ⟨w.heap.size, 1, none⟩) (by first | omega | (simp; done) | (simp; omega))
      generalize c_x4_0_1 : x4.val.cell? ⟨w.heap.size, 1, none⟩ = q at q_
      first | (have q2_ : q = some _ := q_; subst q2_) | (simp [go_sem] at q_; have q2_ : q = some _ := q_; subst q2_) | (simp [go_sem, *] at q_; have q2_ : q = some _ := q_; subst q2_)
      have q_ := x4.bel.frozen (p := ⟨w.heap.size, 1, none⟩) (by first | omega | (simp; done) | (simp; omega))
      generalize z_x4_0_1 : x4.val.frozen? ⟨w.heap.size, 1, none⟩ = q at q_
      first | (have q2_ : q = false := q_; subst q2_) | (simp [go_sem] at q_; have q2_ : q = false := q_; subst q2_) | (simp [go_sem, *] at q_; have q2_ : q = false := q_; subst q2_)
      have hb4 : Below w.heap.size w x4.val := bel_later x4 (bel_later x3 (bel_later x2 (bel_alloc hb1 _)))
      go_wp2_with fail
      with_reducible refine (kz.out _ (by repeat (first | exact Below.refl _ _ | refine bel_later _ ?_ | refine bel_alloc ?_ _ | refine bel_set ?_ (by first | omega | (simp; done) | (simp; omega)) _ | refine Below.drew ?_ | refine bel_drewN ?_ _ | assumption))).mono ?_
      rintro e_z1 w_z1 ⟨Az1, cz1, rfl, oz1, hb_z1⟩
      obtain ⟨z1, rfl⟩ := later_is hb_z1
      clear hb_z1
      have hz_z1 := z1.bel.size
      try simp at hz_z1
      have l_z1_0 : w.heap.size < z1.val.heap.size := by omega
      have m_z1_0 : w.heap.size < z1.val.heap.size + 1 := by omega
      have q_ := z1.bel.cell (p := ⟨w.heap.size, 0, none⟩) (by first | omega | (simp; done) | (simp; omega))
      generalize c_z1_0_0 : z1.val.cell? ⟨w.heap.size, 0, none⟩ = q at q_
      first | (have q2_ : q = some _ := q_; subst q2_) | (simp [go_sem] at q_; have q2_ : q = some _ := q_; subst q2_) | (simp [go_sem, *] at q_; have q2_ : q = some _ := q_; subst q2_)
      have q_ := z1.bel.frozen (p := ⟨w.heap.size, 0, none⟩) (by first | omega | (simp; done) | (simp; omega))
      generalize z_z1_0_0 : z1.val.frozen? ⟨w.heap.size, 0, none⟩ = q at q_
      first | (have q2_ : q = false := q_; subst q2_) | (simp [go_sem] at q_; have q2_ : q = false := q_; subst q2_) | (simp [go_sem, *] at q_; have q2_ : q = false := q_; subst q2_)
      have q_ := z1.bel.cell (p := ⟨w.heap.size, 1, none⟩) (by first | omega | (simp; done) | (simp; omega))
      generalize c_z1_0_1 : z1.val.cell? ⟨w.heap.size, 1, none⟩ = q at q_
      first | (have q2_ : q = some _ := q_; subst q2_) | (simp [go_sem] at q_; have q2_ : q = some _ := q_; subst q2_) | (simp [go_sem, *] at q_; have q2_ : q = some _ := q_; subst q2_)
      have q_ := z1.bel.frozen (p := ⟨w.heap.size, 1, none⟩) (by first | omega | (simp; done) | (simp; omega))
      generalize z_z1_0_1 : z1.val.frozen? ⟨w.heap.size, 1, none⟩ = q at q_
      first | (have q2_ : q = false := q_; subst q2_) | (simp [go_sem] at q_; have q2_ : q = false := q_; subst q2_) | (simp [go_sem, *] at q_; have q2_ : q = false := q_; subst q2_)
      go_wp2_with fail
      refine (kfx.out _).mono ?_
      rintro e_z2 w_z2 ⟨rfl, hb_z2⟩
      obtain ⟨z2, rfl⟩ := later_is hb_z2
      clear hb_z2
      have hz_z2 := z2.bel.size
      try simp at hz_z2
      go_wp2_with fail
      refine (awake_any _).mono ?_
      rintro e_z3 w_z3 ⟨rfl, hb_z3⟩
      obtain ⟨z3, rfl⟩ := later_is hb_z3
      clear hb_z3
      have hz_z3 := z3.bel.size
      try simp at hz_z3
      go_wp2
      go_ret
      exact ⟨rfl, (by repeat (first | exact Below.refl _ _ | refine bel_later _ ?_ | refine bel_alloc ?_ _ | refine bel_set ?_ (by first | omega | (simp; done) | (simp; omega)) _ | refine Below.drew ?_ | refine bel_drewN ?_ _ | assumption))⟩
    · obtain ⟨k, rfl, hk⟩ : ∃ k : Nat, n = (k : Int) ∧ k ≤ 7 := ⟨n.toNat, by omega, by omega⟩
      have kz := Lib.hid (fun W h => kpa W h (Stg.tagged o t k x.a x.ws) 20 0 (by unfold Stg.words; rw [if_neg (by omega), if_pos hf, Int.toNat_natCast]) (Stg.tagged_length _ _ _ _ _))
      have kfx := Lib.hid (fun W => kfa W true hf)
      have HU := Lib.hid (Stg.tagged_u16 (n := k) (a := x.a) ho ht (by omega) hx.u)
      have HRT := Lib.hid (Stg.read_tagged (o := o) (t := t) hf hk)
      have HXA : Hid (((x.a.toNat : Nat) : Int) = x.a) := Lib.hid (by have := Bk.fits_iff.1 hf; omega)
      clear kpa kfa hf q1 q2
      go_enter Try.func3, Try.ntmps3
      go_wp2_with fail
      with_reducible refine (kr.out _ (by repeat (first | exact Below.refl _ _ | refine bel_later _ ?_ | refine bel_alloc ?_ _ | refine bel_set ?_ (by first | omega | (simp; done) | (simp; omega)) _ | refine Below.drew ?_ | refine bel_drewN ?_ _ | assumption))).mono ?_
      rintro e_x1 w_x1 ⟨Ax1, cx1, rfl, ox1, hb_x1⟩
      obtain ⟨x1, rfl⟩ := later_is hb_x1
      clear hb_x1
      have hz_x1 := x1.bel.size
      try simp at hz_x1
      have l_x1_0 : w.heap.size < x1.val.heap.size := by omega
      have m_x1_0 : w.heap.size < x1.val.heap.size + 1 := by omega
      have q_ := x1.bel.cell (p := ⟨w.heap.size, 0, none⟩) (by first | omega | (simp; done) | (simp; omega))
      generalize c_x1_0_0 : x1.val.cell? ⟨w.heap.size, 0, none⟩ = q at q_
      first | (have q2_ : q = some _ := q_; subst q2_) | (simp [go_sem] at q_; have q2_ : q = some _ := q_; subst q2_) | (simp [go_sem, *] at q_; have q2_ : q = some _ := q_; subst q2_)
      have q_ := x1.bel.frozen (p := ⟨w.heap.size, 0, none⟩) (by first | omega | (simp; done) | (simp; omega))
      generalize z_x1_0_0 : x1.val.frozen? ⟨w.heap.size, 0, none⟩ = q at q_
      first | (have q2_ : q = false := q_; subst q2_) | (simp [go_sem] at q_; have q2_ : q = false := q_; subst q2_) | (simp [go_sem, *] at q_; have q2_ : q = false := q_; subst q2_)
      have q_ := x1.bel.cell (p := ⟨w.heap.size, 1, none⟩) (by first | omega | (simp; done) | (simp; omega))
      generalize c_x1_0_1 : x1.val.cell? ⟨w.heap.size, 1, none⟩ = q at q_
      first | (have q2_ : q = some _ := q_; subst q2_) | (simp [go_sem] at q_; have q2_ : q = some _ := q_; subst q2_) | (simp [go_sem, *] at q_; have q2_ : q = some _ := q_; subst q2_)
      have q_ := x1.bel.frozen (p := ⟨w.heap.size, 1, none⟩) (by first | omega | (simp; done) | (simp; omega))
      generalize z_x1_0_1 : x1.val.frozen? ⟨w.heap.size, 1, none⟩ = q at q_
      first | (have q2_ : q = false := q_; subst q2_) | (simp [go_sem] at q_; have q2_ : q = false := q_; subst q2_) | (simp [go_sem, *] at q_; have q2_ : q = false := q_; subst q2_)
      have hy1 : (Blk.mk (ra : Int) rw' Ax1 cx1).Ok x1.val x1.val.heap.size := Blk.Ok.of_own rfl ox1 rb3 (by omega) (by omega)
      have hb1 : Below w.heap.size w x1.val := (by repeat (first | exact Below.refl _ _ | refine bel_later _ ?_ | refine bel_alloc ?_ _ | refine bel_set ?_ (by first | omega | (simp; done) | (simp; omega)) _ | refine Below.drew ?_ | refine bel_drewN ?_ _ | assumption))
      have kw := Lib.hid (fun W (h : Below x1.val.heap.size x1.val W) => words_lit ro rt (rn : Int) (ra : Int) rw' Ax1 cx1 _ v _ 0 W rb1 rb2 rfl (hy1.to h).sq hy1.lo hy1.hi hy1.lim hy1.nl HW.out rfl)
      have kf := Lib.hid (fun W => fits_any (ra : Int) rw'.length cx1 Ax1 true W hy1.lo hy1.hi hy1.lim HF.out)
      clear ox1
      go_wp2_with fail
      with_reducible refine (kw.out _ (by repeat (first | exact Below.refl _ _ | refine bel_later _ ?_ | refine bel_alloc ?_ _ | refine bel_set ?_ (by first | omega | (simp; done) | (simp; omega)) _ | refine Below.drew ?_ | refine bel_drewN ?_ _ | assumption))).mono ?_
      rintro e_x2 w_x2 ⟨Ax2, cx2, rfl, ox2, hb_x2⟩
      obtain ⟨x2, rfl⟩ := later_is hb_x2
      clear hb_x2
      have hz_x2 := x2.bel.size
      try simp at hz_x2
      have l_x2_0 : x1.val.heap.size < x2.val.heap.size := by omega
      have m_x2_0 : x1.val.heap.size < x2.val.heap.size + 1 := by omega
      have q_ := x2.bel.cell (p := ⟨x1.val.heap.size, 0, none⟩) (by first | omega | (simp; done) | (simp; omega))
      generalize c_x2_0_0 : x2.val.cell? ⟨x1.val.heap.size, 0, none⟩ = q at q_
      first | (have q2_ : q = some _ := q_; subst q2_) | (simp [go_sem] at q_; have q2_ : q = some _ := q_; subst q2_) | (simp [go_sem, *] at q_; have q2_ : q = some _ := q_; subst q2_)
      have q_ := x2.bel.frozen (p := ⟨x1.val.heap.size, 0, none⟩) (by first | omega | (simp; done) | (simp; omega))
      generalize z_x2_0_0 : x2.val.frozen? ⟨x1.val.heap.size, 0, none⟩ = q at q_
      first | (have q2_ : q = false := q_; subst q2_) | (simp [go_sem] at q_; have q2_ : q = false := q_; subst q2_) | (simp [go_sem, *] at q_; have q2_ : q = false := q_; subst q2_)
      have q_ := x2.bel.cell (p := ⟨x1.val.heap.size, 1, none⟩) (by first | omega | (simp; done) | (simp; omega))
      generalize c_x2_0_1 : x2.val.cell? ⟨x1.val.heap.size, 1, none⟩ = q at q_
      first | (have q2_ : q = some _ := q_; subst q2_) | (simp [go_sem] at q_; have q2_ : q = some _ := q_; subst q2_) | (simp [go_sem, *] at q_; have q2_ : q = some _ := q_; subst q2_)
      have q_ := x2.bel.frozen (p := ⟨x1.val.heap.size, 1, none⟩) (by first | omega | (simp; done) | (simp; omega))
      generalize z_x2_0_1 : x2.val.frozen? ⟨x1.val.heap.size, 1, none⟩ = q at q_
      first | (have q2_ : q = false := q_; subst q2_) | (simp [go_sem] at q_; have q2_ : q = false := q_; subst q2_) | (simp [go_sem, *] at q_; have q2_ : q = false := q_; subst q2_)
      have l_x2_1 : w.heap.size < x2.val.heap.size := by omega
      have m_x2_1 : w.heap.size < x2.val.heap.size + 1 := by omega
      have q_ := x2.bel.cell (p := ⟨w.heap.size, 0, none⟩) (by first | omega | (simp; done) | (simp; omega))
      generalize c_x2_1_0 : x2.val.cell? ⟨w.heap.size, 0, none⟩ = q at q_
      first | (have q2_ : q = some _ := q_; subst q2_) | (simp [go_sem] at q_; have q2_ : q = some _ := q_; subst q2_) | (simp [go_sem, *] at q_; have q2_ : q = some _ := q_; subst q2_)
      have q_ := x2.bel.frozen (p := ⟨w.heap.size, 0, none⟩) (by first | omega | (simp; done) | (simp; omega))
      generalize z_x2_1_0 : x2.val.frozen? ⟨w.heap.size, 0, none⟩ = q at q_
      first | (have q2_ : q = false := q_; subst q2_) | (simp [go_sem] at q_; have q2_ : q = false := q_; subst q2_) | (simp [go_sem, *] at q_; have q2_ : q = false := q_; subst q2_)
      have q_ := x2.bel.cell (p := ⟨w.heap.size, 1, none⟩) (by first | omega | (simp; done) | (simp; omega))
      generalize c_x2_1_1 : x2.val.cell? ⟨w.heap.size, 1, none⟩ = q at q_
      first | (have q2_ : q = some _ := q_; subst q2_) | (simp [go_sem] at q_; have q2_ : q = some _ := q_; subst q2_) | (simp [go_sem, *] at q_; have q2_ : q = some _ := q_; subst q2_)
      have q_ := x2.bel.frozen (p := ⟨w.heap.size, 1, none⟩) (by first | omega | (simp; done) | (simp; omega))
      generalize z_x2_1_1 : x2.val.frozen? ⟨w.heap.size, 1, none⟩ = q at q_
      first | (have q2_ : q = false := q_; subst q2_) | (simp [go_sem] at q_; have q2_ : q = false := q_; subst q2_) | (simp [go_sem, *] at q_; have q2_ : q = false := q_; subst q2_)
      go_wp2_with fail
      refine (lowWords_any Ax2 Av v v _ _ _ _ true x2.val rfl rfl (Sq.of_own ox2) (kv.out _ (bel_later x2 (bel_alloc hb1 _))) (by omega) (by simp)).mono ?_
      rintro e_x3 w_x3 ⟨rfl, hb_x3⟩
      obtain ⟨x3, rfl⟩ := later_is hb_x3
      clear hb_x3
      have hz_x3 := x3.bel.size
      try simp at hz_x3
      have l_x3_0 : x1.val.heap.size < x3.val.heap.size := by omega
      have m_x3_0 : x1.val.heap.size < x3.val.heap.size + 1 := by omega
      have q_ := x3.bel.cell (p := ⟨x1.val.heap.size, 0, none⟩) (by first | omega | (simp; done) | (simp; omega))
      generalize c_x3_0_0 : x3.val.cell? ⟨x1.val.heap.size, 0, none⟩ = q at q_
      first | (have q2_ : q = some _ := q_; subst q2_) | (simp [go_sem] at q_; have q2_ : q = some _ := q_; subst q2_) | (simp [go_sem, *] at q_; have q2_ : q = some _ := q_; subst q2_)
      have q_ := x3.bel.frozen (p := ⟨x1.val.heap.size, 0, none⟩) (by first | omega | (simp; done) | (simp; omega))
      generalize z_x3_0_0 : x3.val.frozen? ⟨x1.val.heap.size, 0, none⟩ = q at q_
      first | (have q2_ : q = false := q_; subst q2_) | (simp [go_sem] at q_; have q2_ : q = false := q_; subst q2_) | (simp [go_sem, *] at q_; have q2_ : q = false := q_; subst q2_)
      have q_ := x3.bel.cell (p := ⟨x1.val.heap.size, 1, none⟩) (by first | omega | (simp; done) | (simp; omega))
      generalize c_x3_0_1 : x3.val.cell? ⟨x1.val.heap.size, 1, none⟩ = q at q_
      first | (have q2_ : q = some _ := q_; subst q2_) | (simp [go_sem] at q_; have q2_ : q = some _ := q_; subst q2_) | (simp [go_sem, *] at q_; have q2_ : q = some _ := q_; subst q2_)
      have q_ := x3.bel.frozen (p := ⟨x1.val.heap.size, 1, none⟩) (by first | omega | (simp; done) | (simp; omega))
      generalize z_x3_0_1 : x3.val.frozen? ⟨x1.val.heap.size, 1, none⟩ = q at q_
      first | (have q2_ : q = false := q_; subst q2_) | (simp [go_sem] at q_; have q2_ : q = false := q_; subst q2_) | (simp [go_sem, *] at q_; have q2_ : q = false := q_; subst q2_)
      have l_x3_1 : w.heap.size < x3.val.heap.size := by omega
      have m_x3_1 : w.heap.size < x3.val.heap.size + 1 := by omega
      have q_ := x3.bel.cell (p := ⟨w.heap.size, 0, none⟩) (by first | omega | (simp; done) | (simp; omega))
      generalize c_x3_1_0 : x3.val.cell? ⟨w.heap.size, 0, none⟩ = q at q_
      first | (have q2_ : q = some _ := q_; subst q2_) | (simp [go_sem] at q_; have q2_ : q = some _ := q_; subst q2_) | (simp [go_sem, *] at q_; have q2_ : q = some _ := q_; subst q2_)
      have q_ := x3.bel.frozen (p := ⟨w.heap.size, 0, none⟩) (by first | omega | (simp; done) | (simp; omega))
      generalize z_x3_1_0 : x3.val.frozen? ⟨w.heap.size, 0, none⟩ = q at q_
      first | (have q2_ : q = false := q_; subst q2_) | (simp [go_sem] at q_; have q2_ : q = false := q_; subst q2_) | (simp [go_sem, *] at q_; have q2_ : q = false := q_; subst q2_)
      have q_ := x3.bel.cell (p := ⟨w.heap.size, 1, none⟩) (by first | omega | (simp; done) | (simp; omega))
      generalize c_x3_1_1 : x3.val.cell? ⟨w.heap.size, 1, none⟩ = q at q_
      first | (have q2_ : q = some _ := q_; subst q2_) | (simp [go_sem] at q_; have q2_ : q = some _ := q_; subst q2_) | (simp [go_sem, *] at q_; have q2_ : q = some _ := q_; subst q2_)
      have q_ := x3.bel.frozen (p := ⟨w.heap.size, 1, none⟩) (by first | omega | (simp; done) | (simp; omega))
      generalize z_x3_1_1 : x3.val.frozen? ⟨w.heap.size, 1, none⟩ = q at q_
      first | (have q2_ : q = false := q_; subst q2_) | (simp [go_sem] at q_; have q2_ : q = false := q_; subst q2_) | (simp [go_sem, *] at q_; have q2_ : q = false := q_; subst q2_)
      go_wp2_with fail
      refine (kf.out _).mono ?_
      rintro e_x4 w_x4 ⟨rfl, hb_x4⟩
      obtain ⟨x4, rfl⟩ := later_is hb_x4
      clear hb_x4
      have hz_x4 := x4.bel.size
      try simp at hz_x4
      have l_x4_0 : w.heap.size < x4.val.heap.size := by omega
      have m_x4_0 : w.heap.size < x4.val.heap.size + 1 := by omega
      have q_ := x4.bel.cell (p := ⟨w.heap.size, 0, none⟩) (by first | omega | (simp; done) | (simp; omega))
      generalize c_x4_0_0 : x4.val.cell? ⟨w.heap.size, 0, none⟩ = q at q_
      first | (have q2_ : q = some _ := q_; subst q2_) | (simp [go_sem] at q_; have q2_ : q = some _ := q_; subst q2_) | (simp [go_sem, *] at q_; have q2_ : q = some _ := q_; subst q2_)
      have q_ := x4.bel.frozen (p := ⟨w.heap.size, 0, none⟩) (by first | omega | (simp; done) | (simp; omega))
      generalize z_x4_0_0 : x4.val.frozen? ⟨w.heap.size, 0, none⟩ = q at q_
      first | (have q2_ : q = false := q_; subst q2_) | (simp [go_sem] at q_; have q2_ : q = false := q_; subst q2_) | (simp [go_sem, *] at q_; have q2_ : q = false := q_; subst q2_)
      have q_ := x4.bel.cell (p := ⟨w.heap.size, 1, none⟩) (by first | omega | (simp; done) | (simp; omega))
      generalize c_x4_0_1 : x4.val.cell? ⟨w.heap.size, 1, none⟩ = q at q_
      first | (have q2_ : q = some _ := q_; subst q2_) | (simp [go_sem] at q_; have q2_ : q = some _ := q_; subst q2_) | (simp [go_sem, *] at q_; have q2_ : q = some _ := q_; subst q2_)
      have q_ := x4.bel.frozen (p := ⟨w.heap.size, 1, none⟩) (by first | omega | (simp; done) | (simp; omega))
      generalize z_x4_0_1 : x4.val.frozen? ⟨w.heap.size, 1, none⟩ = q at q_
      first | (have q2_ : q = false := q_; subst q2_) | (simp [go_sem] at q_; have q2_ : q = false := q_; subst q2_) | (simp [go_sem, *] at q_; have q2_ : q = false := q_; subst q2_)
      have hb4 : Below w.heap.size w x4.val := bel_later x4 (bel_later x3 (bel_later x2 (bel_alloc hb1 _)))
      go_wp2_with fail
      with_reducible refine (kz.out _ (by repeat (first | exact Below.refl _ _ | refine bel_later _ ?_ | refine bel_alloc ?_ _ | refine bel_set ?_ (by first | omega | (simp; done) | (simp; omega)) _ | refine Below.drew ?_ | refine bel_drewN ?_ _ | assumption))).mono ?_
      rintro e_z1 w_z1 ⟨Az1, cz1, rfl, oz1, hb_z1⟩
      obtain ⟨z1, rfl⟩ := later_is hb_z1
      clear hb_z1
      have hz_z1 := z1.bel.size
      try simp at hz_z1
      have l_z1_0 : w.heap.size < z1.val.heap.size := by omega
      have m_z1_0 : w.heap.size < z1.val.heap.size + 1 := by omega
      have q_ := z1.bel.cell (p := ⟨w.heap.size, 0, none⟩) (by first | omega | (simp; done) | (simp; omega))
      generalize c_z1_0_0 : z1.val.cell? ⟨w.heap.size, 0, none⟩ = q at q_
      first | (have q2_ : q = some _ := q_; subst q2_) | (simp [go_sem] at q_; have q2_ : q = some _ := q_; subst q2_) | (simp [go_sem, *] at q_; have q2_ : q = some _ := q_; subst q2_)
      have q_ := z1.bel.frozen (p := ⟨w.heap.size, 0, none⟩) (by first | omega | (simp; done) | (simp; omega))
      generalize z_z1_0_0 : z1.val.frozen? ⟨w.heap.size, 0, none⟩ = q at q_
      first | (have q2_ : q = false := q_; subst q2_) | (simp [go_sem] at q_; have q2_ : q = false := q_; subst q2_) | (simp [go_sem, *] at q_; have q2_ : q = false := q_; subst q2_)
      have q_ := z1.bel.cell (p := ⟨w.heap.size, 1, none⟩) (by first | omega | (simp; done) | (simp; omega))
      generalize c_z1_0_1 : z1.val.cell? ⟨w.heap.size, 1, none⟩ = q at q_
      first | (have q2_ : q = some _ := q_; subst q2_) | (simp [go_sem] at q_; have q2_ : q = some _ := q_; subst q2_) | (simp [go_sem, *] at q_; have q2_ : q = some _ := q_; subst q2_)
      have q_ := z1.bel.frozen (p := ⟨w.heap.size, 1, none⟩) (by first | omega | (simp; done) | (simp; omega))
      generalize z_z1_0_1 : z1.val.frozen? ⟨w.heap.size, 1, none⟩ = q at q_
      first | (have q2_ : q = false := q_; subst q2_) | (simp [go_sem] at q_; have q2_ : q = false := q_; subst q2_) | (simp [go_sem, *] at q_; have q2_ : q = false := q_; subst q2_)
      obtain ⟨g, rfl, hgb, hgl⟩ := own_some oz1 (by omega)
      try simp at hgb
      have hgw : w.heap.size < g := by omega
      clear hgb
      go_wp2_with fail
      refine (kfx.out _).mono ?_
      rintro e_z2 w_z2 ⟨rfl, hb_z2⟩
      obtain ⟨z2, rfl⟩ := later_is hb_z2
      clear hb_z2
      have hz_z2 := z2.bel.size
      try simp at hz_z2
      have l_z2_0 : w.heap.size < z2.val.heap.size := by omega
      have m_z2_0 : w.heap.size < z2.val.heap.size + 1 := by omega
      have q_ := z2.bel.cell (p := ⟨w.heap.size, 0, none⟩) (by first | omega | (simp; done) | (simp; omega))
      generalize c_z2_0_0 : z2.val.cell? ⟨w.heap.size, 0, none⟩ = q at q_
      first | (have q2_ : q = some _ := q_; subst q2_) | (simp [go_sem] at q_; have q2_ : q = some _ := q_; subst q2_) | (simp [go_sem, *] at q_; have q2_ : q = some _ := q_; subst q2_)
      have q_ := z2.bel.frozen (p := ⟨w.heap.size, 0, none⟩) (by first | omega | (simp; done) | (simp; omega))
      generalize z_z2_0_0 : z2.val.frozen? ⟨w.heap.size, 0, none⟩ = q at q_
      first | (have q2_ : q = false := q_; subst q2_) | (simp [go_sem] at q_; have q2_ : q = false := q_; subst q2_) | (simp [go_sem, *] at q_; have q2_ : q = false := q_; subst q2_)
      have q_ := z2.bel.cell (p := ⟨w.heap.size, 1, none⟩) (by first | omega | (simp; done) | (simp; omega))
      generalize c_z2_0_1 : z2.val.cell? ⟨w.heap.size, 1, none⟩ = q at q_
      first | (have q2_ : q = some _ := q_; subst q2_) | (simp [go_sem] at q_; have q2_ : q = some _ := q_; subst q2_) | (simp [go_sem, *] at q_; have q2_ : q = some _ := q_; subst q2_)
      have q_ := z2.bel.frozen (p := ⟨w.heap.size, 1, none⟩) (by first | omega | (simp; done) | (simp; omega))
      generalize z_z2_0_1 : z2.val.frozen? ⟨w.heap.size, 1, none⟩ = q at q_
      first | (have q2_ : q = false := q_; subst q2_) | (simp [go_sem] at q_; have q2_ : q = false := q_; subst q2_) | (simp [go_sem, *] at q_; have q2_ : q = false := q_; subst q2_)
      replace oz1 := own_below oz1 z2.bel
      have hbz2 : Below w.heap.size w z2.val := (by repeat (first | exact Below.refl _ _ | refine bel_later _ ?_ | refine bel_alloc ?_ _ | refine bel_set ?_ (by first | omega | (simp; done) | (simp; omega)) _ | refine Below.drew ?_ | refine bel_drewN ?_ _ | assumption))
      go_wp2_with fail
      with_reducible refine (read_lit (Stg.tagged o t k x.a x.ws) (some ⟨g, 0, none⟩) cz1 20 ⟨o, t, k, x.a.toNat, x.ws, 0⟩ (o : Int) (t : Int) (k : Int) x.a 0 x.ws.length z2.val (Stg.tagged_length _ _ _ _ _) (Sq.of_own oz1) HU.out (own_nil_c oz1).2 (own_cap oz1) HRT.out rfl rfl rfl HXA.out rfl rfl).mono ?_
      rintro e_z3 w_z3 ⟨Az3, cz3, rfl, oz3, hb_z3⟩
      obtain ⟨z3, rfl⟩ := later_is hb_z3
      clear hb_z3
      have hz_z3 := z3.bel.size
      try simp at hz_z3
      have l_z3_0 : w.heap.size < z3.val.heap.size := by omega
      have m_z3_0 : w.heap.size < z3.val.heap.size + 1 := by omega
      have q_ := z3.bel.cell (p := ⟨w.heap.size, 0, none⟩) (by first | omega | (simp; done) | (simp; omega))
      generalize c_z3_0_0 : z3.val.cell? ⟨w.heap.size, 0, none⟩ = q at q_
      first | (have q2_ : q = some _ := q_; subst q2_) | (simp [go_sem] at q_; have q2_ : q = some _ := q_; subst q2_) | (simp [go_sem, *] at q_; have q2_ : q = some _ := q_; subst q2_)
      have q_ := z3.bel.frozen (p := ⟨w.heap.size, 0, none⟩) (by first | omega | (simp; done) | (simp; omega))
      generalize z_z3_0_0 : z3.val.frozen? ⟨w.heap.size, 0, none⟩ = q at q_
      first | (have q2_ : q = false := q_; subst q2_) | (simp [go_sem] at q_; have q2_ : q = false := q_; subst q2_) | (simp [go_sem, *] at q_; have q2_ : q = false := q_; subst q2_)
      have q_ := z3.bel.cell (p := ⟨w.heap.size, 1, none⟩) (by first | omega | (simp; done) | (simp; omega))
      generalize c_z3_0_1 : z3.val.cell? ⟨w.heap.size, 1, none⟩ = q at q_
      first | (have q2_ : q = some _ := q_; subst q2_) | (simp [go_sem] at q_; have q2_ : q = some _ := q_; subst q2_) | (simp [go_sem, *] at q_; have q2_ : q = some _ := q_; subst q2_)
      have q_ := z3.bel.frozen (p := ⟨w.heap.size, 1, none⟩) (by first | omega | (simp; done) | (simp; omega))
      generalize z_z3_0_1 : z3.val.frozen? ⟨w.heap.size, 1, none⟩ = q at q_
      first | (have q2_ : q = false := q_; subst q2_) | (simp [go_sem] at q_; have q2_ : q = false := q_; subst q2_) | (simp [go_sem, *] at q_; have q2_ : q = false := q_; subst q2_)
      replace oz1 := own_below oz1 z3.bel
      have hbz3 : Below w.heap.size w z3.val := bel_later z3 hbz2
      have oy : z3.val.ownsRow z2.val.heap.size 22 1 (.slice Az3 x.ws.length cz3) x.ws.length (x.ws.map u16w) := oz3
      have hyo : (Blk.mk x.a x.ws Az3 cz3).Ok z3.val z3.val.heap.size := Blk.Ok.of_own rfl oy (kx.out _ (Below.refl _ _)).u (kx.out _ (Below.refl _ _)).lo (kx.out _ (Below.refl _ _)).hi
      clear oz3
      have ks := Lib.hid (sameBlocks_any (some ⟨z3.val.heap.size + 1, 0, none⟩) (some ⟨z3.val.heap.size + 1 + 1, 0, none⟩) [x] [⟨x.a, x.ws, Az3, cz3⟩] 1 1 1 1 true _ rfl rfl ((Blks.one (t := 26) (by simp) ((kx.out z3.val hbz3).to (bel_alloc (Below.refl _ _) (.cells #[.int .i64 x.a, .slice Az3 x.ws.length cz3] 26)))).to (bel_alloc (Below.refl _ _) _)) (Blks.one (t := 26) (by simp) ((hyo.to (bel_alloc (Below.refl _ _) _)).to (bel_alloc (Below.refl _ _) _))) (by simp) hlx (by simp))
      go_wp2_with fail
      refine (ks.out).mono ?_
      rintro e_z4 w_z4 ⟨rfl, hb_z4⟩
      obtain ⟨z4, rfl⟩ := later_is hb_z4
      clear hb_z4
      have hz_z4 := z4.bel.size
      try simp at hz_z4
      have l_z4_0 : w.heap.size < z4.val.heap.size := by omega
      have m_z4_0 : w.heap.size < z4.val.heap.size + 1 := by omega
      have q_ := z4.bel.cell (p := ⟨w.heap.size, 0, none⟩) (by first | omega | (simp; done) | (simp; omega))
      generalize c_z4_0_0 : z4.val.cell? ⟨w.heap.size, 0, none⟩ = q at q_
      first | (have q2_ : q = some _ := q_; subst q2_) | (simp [go_sem] at q_; have q2_ : q = some _ := q_; subst q2_) | (simp [go_sem, *] at q_; have q2_ : q = some _ := q_; subst q2_)
      have q_ := z4.bel.frozen (p := ⟨w.heap.size, 0, none⟩) (by first | omega | (simp; done) | (simp; omega))
      generalize z_z4_0_0 : z4.val.frozen? ⟨w.heap.size, 0, none⟩ = q at q_
      first | (have q2_ : q = false := q_; subst q2_) | (simp [go_sem] at q_; have q2_ : q = false := q_; subst q2_) | (simp [go_sem, *] at q_; have q2_ : q = false := q_; subst q2_)
      have q_ := z4.bel.cell (p := ⟨w.heap.size, 1, none⟩) (by first | omega | (simp; done) | (simp; omega))
      generalize c_z4_0_1 : z4.val.cell? ⟨w.heap.size, 1, none⟩ = q at q_
      first | (have q2_ : q = some _ := q_; subst q2_) | (simp [go_sem] at q_; have q2_ : q = some _ := q_; subst q2_) | (simp [go_sem, *] at q_; have q2_ : q = some _ := q_; subst q2_)
      have q_ := z4.bel.frozen (p := ⟨w.heap.size, 1, none⟩) (by first | omega | (simp; done) | (simp; omega))
      generalize z_z4_0_1 : z4.val.frozen? ⟨w.heap.size, 1, none⟩ = q at q_
      first | (have q2_ : q = false := q_; subst q2_) | (simp [go_sem] at q_; have q2_ : q = false := q_; subst q2_) | (simp [go_sem, *] at q_; have q2_ : q = false := q_; subst q2_)
      have l_z4_1 : z3.val.heap.size < z4.val.heap.size := by omega
      have m_z4_1 : z3.val.heap.size < z4.val.heap.size + 1 := by omega
      have q_ := z4.bel.cell (p := ⟨z3.val.heap.size, 0, none⟩) (by first | omega | (simp; done) | (simp; omega))
      generalize c_z4_1_0 : z4.val.cell? ⟨z3.val.heap.size, 0, none⟩ = q at q_
      first | (have q2_ : q = some _ := q_; subst q2_) | (simp [go_sem] at q_; have q2_ : q = some _ := q_; subst q2_) | (simp [go_sem, *] at q_; have q2_ : q = some _ := q_; subst q2_)
      have q_ := z4.bel.frozen (p := ⟨z3.val.heap.size, 0, none⟩) (by first | omega | (simp; done) | (simp; omega))
      generalize z_z4_1_0 : z4.val.frozen? ⟨z3.val.heap.size, 0, none⟩ = q at q_
      first | (have q2_ : q = false := q_; subst q2_) | (simp [go_sem] at q_; have q2_ : q = false := q_; subst q2_) | (simp [go_sem, *] at q_; have q2_ : q = false := q_; subst q2_)
      have q_ := z4.bel.cell (p := ⟨z3.val.heap.size, 1, none⟩) (by first | omega | (simp; done) | (simp; omega))
      generalize c_z4_1_1 : z4.val.cell? ⟨z3.val.heap.size, 1, none⟩ = q at q_
      first | (have q2_ : q = some _ := q_; subst q2_) | (simp [go_sem] at q_; have q2_ : q = some _ := q_; subst q2_) | (simp [go_sem, *] at q_; have q2_ : q = some _ := q_; subst q2_)
      have q_ := z4.bel.frozen (p := ⟨z3.val.heap.size, 1, none⟩) (by first | omega | (simp; done) | (simp; omega))
      generalize z_z4_1_1 : z4.val.frozen? ⟨z3.val.heap.size, 1, none⟩ = q at q_
      first | (have q2_ : q = false := q_; subst q2_) | (simp [go_sem] at q_; have q2_ : q = false := q_; subst q2_) | (simp [go_sem, *] at q_; have q2_ : q = false := q_; subst q2_)
      replace oz1 := own_below (((oz1.alloc _).alloc _).alloc _) z4.bel
      replace oy := own_below (((oy.alloc _).alloc _).alloc _) z4.bel
      have hbz4 : Below w.heap.size w z4.val := bel_later z4 (bel_alloc (bel_alloc (bel_alloc hbz3 _) _) _)
      have hgz2 : g < z2.val.heap.size := by omega
      have hgne : w.heap.size ≠ g := by omega
      have hgne3 : z3.val.heap.size ≠ g := by omega
      obtain ⟨la, hla, oz⟩ : ∃ la : List Nat, la.length = 20 ∧ z4.val.ownsRow (w.heap.size + 1) 22 1 (.slice (some ⟨g, 0, none⟩) 20 cz1) 20 (la.map u16w) := ⟨_, Stg.tagged_length _ _ _ _ _, own_more oz1 (by first | omega | (simp; omega))⟩
      clear oz1
      go_wp2
      go_loopw [144, 25] (fun i _ wr => ∃ j l', j ≤ 20 ∧ i = .int .i64 (j : Nat) ∧ l'.length = 20 ∧ wr.ownsRow (w.heap.size + 1) 22 1 (.slice (some ⟨g, 0, none⟩) 20 cz1) 20 ((l' : List Nat).map u16w) ∧ Only g z4.val wr) (fun i _ _ => 20 - (intOf i).toNat)
      case atStart => exact ⟨0, la, by omega, rfl, hla, oz, Only.refl _ _⟩
      case round =>
        clear hla oz
        obtain ⟨j, l', hj, rfl, hl', hown, honly⟩ := hrel
        have HL := Lib.hid hl'
        by_cases hlt : j < 20
        · obtain ⟨y, hy⟩ : ∃ y, l'[j]? = some y := ⟨_, List.getElem?_eq_getElem (by omega)⟩
          have k0 : wr.cell? ⟨g, j, none⟩ = some (.int .u16 (y : Int)) := (hown.cellAt j (by omega)).trans (map_get hy)
          have f0 := hown.frozenAt j
          clear hy hl'
          go_wp2
          go_roundw
          case rel =>
            refine ⟨j + 1, l'.set j ((y + 1) % 65536), by omega, by go_num, by simpa using HL.out, ?_, honly.set _⟩
            have hs := own_set (i := j) (x := (y + 1) % 65536) hown
            have he : IntKind.u16.wrap ((y : Int) + 1) = (((y + 1) % 65536 : Nat) : Int) := by rw [wrap_u16]; omega
            rw [he]
            exact hs
          case measure => simp [intOf]; omega
        · have kc0 : wr.cell? ⟨w.heap.size, 1, none⟩ = some (.slice x.A x.ws.length x.c) := (honly.cell (p := ⟨w.heap.size, 1, none⟩) hgne).trans c_z4_0_1
          have kc1 : wr.cell? ⟨z3.val.heap.size, 1, none⟩ = some (.slice Az3 x.ws.length cz3) := (honly.cell (p := ⟨z3.val.heap.size, 1, none⟩) hgne3).trans c_z4_1_1
          have hbr : Below w.heap.size w wr := hbz4.trans (honly.below (by omega))
          have oyr := honly.own oy hgz2
          go_wp2_with fail
          refine (lowWords_any Az3 x.A x.ws x.ws _ _ _ _ true wr rfl rfl (Sq.of_own oyr) (kx.out _ hbr).sq (by omega) (by simp)).mono ?_
          rintro e_z5 w_z5 ⟨rfl, hb_z5⟩
          obtain ⟨z5, rfl⟩ := later_is hb_z5
          clear hb_z5
          have hz_z5 := z5.bel.size
          try simp at hz_z5
          go_wp2_with fail
          refine (awake_any _).mono ?_
          rintro e_z6 w_z6 ⟨rfl, hb_z6⟩
          obtain ⟨z6, rfl⟩ := later_is hb_z6
          clear hb_z6
          have hz_z6 := z6.bel.size
          try simp at hz_z6
          go_wp2
          go_ret
          exact ⟨rfl, bel_later z6 (bel_later z5 hbr)⟩
  · have hre' : (re == 0) = false := beq_eq_false_iff_ne.2 hre
    clear hE hre hr
    by_cases q1 : n < 0
    · have kz := Lib.hid (fun W h => kpa W h [] 0 2 (by unfold Stg.words; rw [if_pos (.inl q1)]) rfl)
      clear kpa kfa
      go_enter Try.func3, Try.ntmps3
      go_wp2_with fail
      with_reducible refine (kr.out _ (by repeat (first | exact Below.refl _ _ | refine bel_later _ ?_ | refine bel_alloc ?_ _ | refine bel_set ?_ (by first | omega | (simp; done) | (simp; omega)) _ | refine Below.drew ?_ | refine bel_drewN ?_ _ | assumption))).mono ?_
      rintro e_x1 w_x1 ⟨Ax1, cx1, rfl, ox1, hb_x1⟩
      obtain ⟨x1, rfl⟩ := later_is hb_x1
      clear hb_x1
      have hz_x1 := x1.bel.size
      try simp at hz_x1
      have l_x1_0 : w.heap.size < x1.val.heap.size := by omega
      have m_x1_0 : w.heap.size < x1.val.heap.size + 1 := by omega
      have q_ := x1.bel.cell (p := ⟨w.heap.size, 0, none⟩) (by first | omega | (simp; done) | (simp; omega))
      generalize c_x1_0_0 : x1.val.cell? ⟨w.heap.size, 0, none⟩ = q at q_
      first | (have q2_ : q = some _ := q_; subst q2_) | (simp [go_sem] at q_; have q2_ : q = some _ := q_; subst q2_) | (simp [go_sem, *] at q_; have q2_ : q = some _ := q_; subst q2_)
      have q_ := x1.bel.frozen (p := ⟨w.heap.size, 0, none⟩) (by first | omega | (simp; done) | (simp; omega))
      generalize z_x1_0_0 : x1.val.frozen? ⟨w.heap.size, 0, none⟩ = q at q_
      first | (have q2_ : q = false := q_; subst q2_) | (simp [go_sem] at q_; have q2_ : q = false := q_; subst q2_) | (simp [go_sem, *] at q_; have q2_ : q = false := q_; subst q2_)
      have q_ := x1.bel.cell (p := ⟨w.heap.size, 1, none⟩) (by first | omega | (simp; done) | (simp; omega))
      generalize c_x1_0_1 : x1.val.cell? ⟨w.heap.size, 1, none⟩ = q at q_
      first | (have q2_ : q = some _ := q_; subst q2_) | (simp [go_sem] at q_; have q2_ : q = some _ := q_; subst q2_) | (simp [go_sem, *] at q_; have q2_ : q = some _ := q_; subst q2_)
      have q_ := x1.bel.frozen (p := ⟨w.heap.size, 1, none⟩) (by first | omega | (simp; done) | (simp; omega))
      generalize z_x1_0_1 : x1.val.frozen? ⟨w.heap.size, 1, none⟩ = q at q_
      first | (have q2_ : q = false := q_; subst q2_) | (simp [go_sem] at q_; have q2_ : q = false := q_; subst q2_) | (simp [go_sem, *] at q_; have q2_ : q = false := q_; subst q2_)
      have hb1 : Below w.heap.size w x1.val := (by repeat (first | exact Below.refl _ _ | refine bel_later _ ?_ | refine bel_alloc ?_ _ | refine bel_set ?_ (by first | omega | (simp; done) | (simp; omega)) _ | refine Below.drew ?_ | refine bel_drewN ?_ _ | assumption))
      go_wp2_with fail
      clear ox1
      go_wp2_with fail
      with_reducible refine (kz.out _ (by repeat (first | exact Below.refl _ _ | refine bel_later _ ?_ | refine bel_alloc ?_ _ | refine bel_set ?_ (by first | omega | (simp; done) | (simp; omega)) _ | refine Below.drew ?_ | refine bel_drewN ?_ _ | assumption))).mono ?_
      rintro e_z1 w_z1 ⟨Az1, cz1, rfl, oz1, hb_z1⟩
      obtain ⟨z1, rfl⟩ := later_is hb_z1
      clear hb_z1
      have hz_z1 := z1.bel.size
      try simp at hz_z1
      go_wp2_with fail
      refine (awake_any _).mono ?_
      rintro e_z2 w_z2 ⟨rfl, hb_z2⟩
      obtain ⟨z2, rfl⟩ := later_is hb_z2
      clear hb_z2
      have hz_z2 := z2.bel.size
      try simp at hz_z2
      go_wp2
      go_ret
      exact ⟨rfl, (by repeat (first | exact Below.refl _ _ | refine bel_later _ ?_ | refine bel_alloc ?_ _ | refine bel_set ?_ (by first | omega | (simp; done) | (simp; omega)) _ | refine Below.drew ?_ | refine bel_drewN ?_ _ | assumption))⟩
    have g3 : decide (n < 0) = false := by simpa using q1
    by_cases q2 : 7 < n
    · have kz := Lib.hid (fun W h => kpa W h [] 0 2 (by unfold Stg.words; rw [if_pos (.inr q2)]) rfl)
      clear kpa kfa
      go_enter Try.func3, Try.ntmps3
      go_wp2_with fail
      with_reducible refine (kr.out _ (by repeat (first | exact Below.refl _ _ | refine bel_later _ ?_ | refine bel_alloc ?_ _ | refine bel_set ?_ (by first | omega | (simp; done) | (simp; omega)) _ | refine Below.drew ?_ | refine bel_drewN ?_ _ | assumption))).mono ?_
      rintro e_x1 w_x1 ⟨Ax1, cx1, rfl, ox1, hb_x1⟩
      obtain ⟨x1, rfl⟩ := later_is hb_x1
      clear hb_x1
      have hz_x1 := x1.bel.size
      try simp at hz_x1
      have l_x1_0 : w.heap.size < x1.val.heap.size := by omega
      have m_x1_0 : w.heap.size < x1.val.heap.size + 1 := by omega
      have q_ := x1.bel.cell (p := ⟨w.heap.size, 0, none⟩) (by first | omega | (simp; done) | (simp; omega))
      generalize c_x1_0_0 : x1.val.cell? ⟨w.heap.size, 0, none⟩ = q at q_
      first | (have q2_ : q = some _ := q_; subst q2_) | (simp [go_sem] at q_; have q2_ : q = some _ := q_; subst q2_) | (simp [go_sem, *] at q_; have q2_ : q = some _ := q_; subst q2_)
      have q_ := x1.bel.frozen (p := ⟨w.heap.size, 0, none⟩) (by first | omega | (simp; done) | (simp; omega))
      generalize z_x1_0_0 : x1.val.frozen? ⟨w.heap.size, 0, none⟩ = q at q_
      first | (have q2_ : q = false := q_; subst q2_) | (simp [go_sem] at q_; have q2_ : q = false := q_; subst q2_) | (simp [go_sem, *] at q_; have q2_ : q = false := q_; subst q2_)
      have q_ := x1.bel.cell (p := ⟨w.heap.size, 1, none⟩) (by first | omega | (simp; done) | (simp; omega))
      generalize c_x1_0_1 : x1.val.cell? ⟨w.heap.size, 1, none⟩ = q at q_
      first | (have q2_ : q = some _ := q_; subst q2_) | (simp [go_sem] at q_; have q2_ : q = some _ := q_; subst q2_) | (simp [go_sem, *] at q_; have q2_ : q = some _ := q_; subst q2_)
      have q_ := x1.bel.frozen (p := ⟨w.heap.size, 1, none⟩) (by first | omega | (simp; done) | (simp; omega))
      generalize z_x1_0_1 : x1.val.frozen? ⟨w.heap.size, 1, none⟩ = q at q_
      first | (have q2_ : q = false := q_; subst q2_) | (simp [go_sem] at q_; have q2_ : q = false := q_; subst q2_) | (simp [go_sem, *] at q_; have q2_ : q = false := q_; subst q2_)
      have hb1 : Below w.heap.size w x1.val := (by repeat (first | exact Below.refl _ _ | refine bel_later _ ?_ | refine bel_alloc ?_ _ | refine bel_set ?_ (by first | omega | (simp; done) | (simp; omega)) _ | refine Below.drew ?_ | refine bel_drewN ?_ _ | assumption))
      go_wp2_with fail
      clear ox1
      go_wp2_with fail
      with_reducible refine (kz.out _ (by repeat (first | exact Below.refl _ _ | refine bel_later _ ?_ | refine bel_alloc ?_ _ | refine bel_set ?_ (by first | omega | (simp; done) | (simp; omega)) _ | refine Below.drew ?_ | refine bel_drewN ?_ _ | assumption))).mono ?_
      rintro e_z1 w_z1 ⟨Az1, cz1, rfl, oz1, hb_z1⟩
      obtain ⟨z1, rfl⟩ := later_is hb_z1
      clear hb_z1
      have hz_z1 := z1.bel.size
      try simp at hz_z1
      go_wp2_with fail
      refine (awake_any _).mono ?_
      rintro e_z2 w_z2 ⟨rfl, hb_z2⟩
      obtain ⟨z2, rfl⟩ := later_is hb_z2
      clear hb_z2
      have hz_z2 := z2.bel.size
      try simp at hz_z2
      go_wp2
      go_ret
      exact ⟨rfl, (by repeat (first | exact Below.refl _ _ | refine bel_later _ ?_ | refine bel_alloc ?_ _ | refine bel_set ?_ (by first | omega | (simp; done) | (simp; omega)) _ | refine Below.drew ?_ | refine bel_drewN ?_ _ | assumption))⟩
    have g4 : decide (7 < n) = false := by simpa using q2
    cases hf : Bk.fits x.a x.ws.length
    · have kz := Lib.hid (fun W h => kpa W h [] 0 20 (by unfold Stg.words; rw [if_neg (by omega), if_neg (by simp [hf])]) rfl)
      have kfx := Lib.hid (fun W => kfa W false hf)
      clear kpa kfa hf
      go_enter Try.func3, Try.ntmps3
      go_wp2_with fail
      with_reducible refine (kr.out _ (by repeat (first | exact Below.refl _ _ | refine bel_later _ ?_ | refine bel_alloc ?_ _ | refine bel_set ?_ (by first | omega | (simp; done) | (simp; omega)) _ | refine Below.drew ?_ | refine bel_drewN ?_ _ | assumption))).mono ?_
      rintro e_x1 w_x1 ⟨Ax1, cx1, rfl, ox1, hb_x1⟩
      obtain ⟨x1, rfl⟩ := later_is hb_x1
      clear hb_x1
      have hz_x1 := x1.bel.size
      try simp at hz_x1
      have l_x1_0 : w.heap.size < x1.val.heap.size := by omega
      have m_x1_0 : w.heap.size < x1.val.heap.size + 1 := by omega
      have q_ := x1.bel.cell (p := ⟨w.heap.size, 0, none⟩) (by first | omega | (simp; done) | (simp; omega))
      generalize c_x1_0_0 : x1.val.cell? ⟨w.heap.size, 0, none⟩ = q at q_
      first | (have q2_ : q = some _ := q_; subst q2_) | (simp [go_sem] at q_; have q2_ : q = some _ := q_; subst q2_) | (simp [go_sem, *] at q_; have q2_ : q = some _ := q_; subst q2_)
      have q_ := x1.bel.frozen (p := ⟨w.heap.size, 0, none⟩) (by first | omega | (simp; done) | (simp; omega))
      generalize z_x1_0_0 : x1.val.frozen? ⟨w.heap.size, 0, none⟩ = q at q_
      first | (have q2_ : q = false := q_; subst q2_) | (simp [go_sem] at q_; have q2_ : q = false := q_; subst q2_) | (simp [go_sem, *] at q_; have q2_ : q = false := q_; subst q2_)
      have q_ := x1.bel.cell (p := ⟨w.heap.size, 1, none⟩) (by first | omega | (simp; done) | (simp; omega))
      generalize c_x1_0_1 : x1.val.cell? ⟨w.heap.size, 1, none⟩ = q at q_
      first | (have q2_ : q = some _ := q_; subst q2_) | (simp [go_sem] at q_; have q2_ : q = some _ := q_; subst q2_) | (simp [go_sem, *] at q_; have q2_ : q = some _ := q_; subst q2_)
      have q_ := x1.bel.frozen (p := ⟨w.heap.size, 1, none⟩) (by first | omega | (simp; done) | (simp; omega))
      generalize z_x1_0_1 : x1.val.frozen? ⟨w.heap.size, 1, none⟩ = q at q_
      first | (have q2_ : q = false := q_; subst q2_) | (simp [go_sem] at q_; have q2_ : q = false := q_; subst q2_) | (simp [go_sem, *] at q_; have q2_ : q = false := q_; subst q2_)
      have hb1 : Below w.heap.size w x1.val := (by repeat (first | exact Below.refl _ _ | refine bel_later _ ?_ | refine bel_alloc ?_ _ | refine bel_set ?_ (by first | omega | (simp; done) | (simp; omega)) _ | refine Below.drew ?_ | refine bel_drewN ?_ _ | assumption))
      go_wp2_with fail
      clear ox1
      go_wp2_with fail
      with_reducible refine (kz.out _ (by repeat (first | exact Below.refl _ _ | refine bel_later _ ?_ | refine bel_alloc ?_ _ | refine bel_set ?_ (by first | omega | (simp; done) | (simp; omega)) _ | refine Below.drew ?_ | refine bel_drewN ?_ _ | assumption))).mono ?_
      rintro e_z1 w_z1 ⟨Az1, cz1, rfl, oz1, hb_z1⟩
      obtain ⟨z1, rfl⟩ := later_is hb_z1
      clear hb_z1
      have hz_z1 := z1.bel.size
      try simp at hz_z1
      have l_z1_0 : w.heap.size < z1.val.heap.size := by omega
      have m_z1_0 : w.heap.size < z1.val.heap.size + 1 := by omega
      have q_ := z1.bel.cell (p := ⟨w.heap.size, 0, none⟩) (by first | omega | (simp; done) | (simp; omega))
      generalize c_z1_0_0 : z1.val.cell? ⟨w.heap.size, 0, none⟩ = q at q_
      first | (have q2_ : q = some _ := q_; subst q2_) | (simp [go_sem] at q_; have q2_ : q = some _ := q_; subst q2_) | (simp [go_sem, *] at q_; have q2_ : q = some _ := q_; subst q2_)
      have q_ := z1.bel.frozen (p := ⟨w.heap.size, 0, none⟩) (by first | omega | (simp; done) | (simp; omega))
      generalize z_z1_0_0 : z1.val.frozen? ⟨w.heap.size, 0, none⟩ = q at q_
      first | (have q2_ : q = false := q_; subst q2_) | (simp [go_sem] at q_; have q2_ : q = false := q_; subst q2_) | (simp [go_sem, *] at q_; have q2_ : q = false := q_; subst q2_)
      have q_ := z1.bel.cell (p := ⟨w.heap.size, 1, none⟩) (by first | omega | (simp; done) | (simp; omega))
      generalize c_z1_0_1 : z1.val.cell? ⟨w.heap.size, 1, none⟩ = q at q_
      first | (have q2_ : q = some _ := q_; subst q2_) | (simp [go_sem] at q_; have q2_ : q = some _ := q_; subst q2_) | (simp [go_sem, *] at q_; have q2_ : q = some _ := q_; subst q2_)
      have q_ := z1.bel.frozen (p := ⟨w.heap.size, 1, none⟩) (by first | omega | (simp; done) | (simp; omega))
      generalize z_z1_0_1 : z1.val.frozen? ⟨w.heap.size, 1, none⟩ = q at q_
      first | (have q2_ : q = false := q_; subst q2_) | (simp [go_sem] at q_; have q2_ : q = false := q_; subst q2_) | (simp [go_sem, *] at q_; have q2_ : q = false := q_; subst q2_)
      go_wp2_with fail
      refine (kfx.out _).mono ?_
      rintro e_z2 w_z2 ⟨rfl, hb_z2⟩
      obtain ⟨z2, rfl⟩ := later_is hb_z2
      clear hb_z2
      have hz_z2 := z2.bel.size
      try simp at hz_z2
      go_wp2_with fail
      refine (awake_any _).mono ?_
      rintro e_z3 w_z3 ⟨rfl, hb_z3⟩
      obtain ⟨z3, rfl⟩ := later_is hb_z3
      clear hb_z3
      have hz_z3 := z3.bel.size
      try simp at hz_z3
      go_wp2
      go_ret
      exact ⟨rfl, (by repeat (first | exact Below.refl _ _ | refine bel_later _ ?_ | refine bel_alloc ?_ _ | refine bel_set ?_ (by first | omega | (simp; done) | (simp; omega)) _ | refine Below.drew ?_ | refine bel_drewN ?_ _ | assumption))⟩
    · obtain ⟨k, rfl, hk⟩ : ∃ k : Nat, n = (k : Int) ∧ k ≤ 7 := ⟨n.toNat, by omega, by omega⟩
      have kz := Lib.hid (fun W h => kpa W h (Stg.tagged o t k x.a x.ws) 20 0 (by unfold Stg.words; rw [if_neg (by omega), if_pos hf, Int.toNat_natCast]) (Stg.tagged_length _ _ _ _ _))
      have kfx := Lib.hid (fun W => kfa W true hf)
      have HU := Lib.hid (Stg.tagged_u16 (n := k) (a := x.a) ho ht (by omega) hx.u)
      have HRT := Lib.hid (Stg.read_tagged (o := o) (t := t) hf hk)
      have HXA : Hid (((x.a.toNat : Nat) : Int) = x.a) := Lib.hid (by have := Bk.fits_iff.1 hf; omega)
      clear kpa kfa hf q1 q2
      go_enter Try.func3, Try.ntmps3
      go_wp2_with fail
      with_reducible refine (kr.out _ (by repeat (first | exact Below.refl _ _ | refine bel_later _ ?_ | refine bel_alloc ?_ _ | refine bel_set ?_ (by first | omega | (simp; done) | (simp; omega)) _ | refine Below.drew ?_ | refine bel_drewN ?_ _ | assumption))).mono ?_
      rintro e_x1 w_x1 ⟨Ax1, cx1, rfl, ox1, hb_x1⟩
      obtain ⟨x1, rfl⟩ := later_is hb_x1
      clear hb_x1
      have hz_x1 := x1.bel.size
      try simp at hz_x1
      have l_x1_0 : w.heap.size < x1.val.heap.size := by omega
      have m_x1_0 : w.heap.size < x1.val.heap.size + 1 := by omega
      have q_ := x1.bel.cell (p := ⟨w.heap.size, 0, none⟩) (by first | omega | (simp; done) | (simp; omega))
      generalize c_x1_0_0 : x1.val.cell? ⟨w.heap.size, 0, none⟩ = q at q_
      first | (have q2_ : q = some _ := q_; subst q2_) | (simp [go_sem] at q_; have q2_ : q = some _ := q_; subst q2_) | (simp [go_sem, *] at q_; have q2_ : q = some _ := q_; subst q2_)
      have q_ := x1.bel.frozen (p := ⟨w.heap.size, 0, none⟩) (by first | omega | (simp; done) | (simp; omega))
      generalize z_x1_0_0 : x1.val.frozen? ⟨w.heap.size, 0, none⟩ = q at q_
      first | (have q2_ : q = false := q_; subst q2_) | (simp [go_sem] at q_; have q2_ : q = false := q_; subst q2_) | (simp [go_sem, *] at q_; have q2_ : q = false := q_; subst q2_)
      have q_ := x1.bel.cell (p := ⟨w.heap.size, 1, none⟩) (by first | omega | (simp; done) | (simp; omega))
      generalize c_x1_0_1 : x1.val.cell? ⟨w.heap.size, 1, none⟩ = q at q_
      first | (have q2_ : q = some _ := q_; subst q2_) | (simp [go_sem] at q_; have q2_ : q = some _ := q_; subst q2_) | (simp [go_sem, *] at q_; have q2_ : q = some _ := q_; subst q2_)
      have q_ := x1.bel.frozen (p := ⟨w.heap.size, 1, none⟩) (by first | omega | (simp; done) | (simp; omega))
      generalize z_x1_0_1 : x1.val.frozen? ⟨w.heap.size, 1, none⟩ = q at q_
      first | (have q2_ : q = false := q_; subst q2_) | (simp [go_sem] at q_; have q2_ : q = false := q_; subst q2_) | (simp [go_sem, *] at q_; have q2_ : q = false := q_; subst q2_)
      have hb1 : Below w.heap.size w x1.val := (by repeat (first | exact Below.refl _ _ | refine bel_later _ ?_ | refine bel_alloc ?_ _ | refine bel_set ?_ (by first | omega | (simp; done) | (simp; omega)) _ | refine Below.drew ?_ | refine bel_drewN ?_ _ | assumption))
      go_wp2_with fail
      clear ox1
      go_wp2_with fail
      with_reducible refine (kz.out _ (by repeat (first | exact Below.refl _ _ | refine bel_later _ ?_ | refine bel_alloc ?_ _ | refine bel_set ?_ (by first | omega | (simp; done) | (simp; omega)) _ | refine Below.drew ?_ | refine bel_drewN ?_ _ | assumption))).mono ?_
      rintro e_z1 w_z1 ⟨Az1, cz1, rfl, oz1, hb_z1⟩
      obtain ⟨z1, rfl⟩ := later_is hb_z1
      clear hb_z1
      have hz_z1 := z1.bel.size
      try simp at hz_z1
      have l_z1_0 : w.heap.size < z1.val.heap.size := by omega
      have m_z1_0 : w.heap.size < z1.val.heap.size + 1 := by omega
      have q_ := z1.bel.cell (p := ⟨w.heap.size, 0, none⟩) (by first | omega | (simp; done) | (simp; omega))
      generalize c_z1_0_0 : z1.val.cell? ⟨w.heap.size, 0, none⟩ = q at q_
      first | (have q2_ : q = some _ := q_; subst q2_) | (simp [go_sem] at q_; have q2_ : q = some _ := q_; subst q2_) | (simp [go_sem, *] at q_; have q2_ : q = some _ := q_; subst q2_)
      have q_ := z1.bel.frozen (p := ⟨w.heap.size, 0, none⟩) (by first | omega | (simp; done) | (simp; omega))
      generalize z_z1_0_0 : z1.val.frozen? ⟨w.heap.size, 0, none⟩ = q at q_
      first | (have q2_ : q = false := q_; subst q2_) | (simp [go_sem] at q_; have q2_ : q = false := q_; subst q2_) | (simp [go_sem, *] at q_; have q2_ : q = false := q_; subst q2_)
      have q_ := z1.bel.cell (p := ⟨w.heap.size, 1, none⟩) (by first | omega | (simp; done) | (simp; omega))
      generalize c_z1_0_1 : z1.val.cell? ⟨w.heap.size, 1, none⟩ = q at q_
      first | (have q2_ : q = some _ := q_; subst q2_) | (simp [go_sem] at q_; have q2_ : q = some _ := q_; subst q2_) | (simp [go_sem, *] at q_; have q2_ : q = some _ := q_; subst q2_)
      have q_ := z1.bel.frozen (p := ⟨w.heap.size, 1, none⟩) (by first | omega | (simp; done) | (simp; omega))
      generalize z_z1_0_1 : z1.val.frozen? ⟨w.heap.size, 1, none⟩ = q at q_
      first | (have q2_ : q = false := q_; subst q2_) | (simp [go_sem] at q_; have q2_ : q = false := q_; subst q2_) | (simp [go_sem, *] at q_; have q2_ : q = false := q_; subst q2_)
      obtain ⟨g, rfl, hgb, hgl⟩ := own_some oz1 (by omega)
      try simp at hgb
      have hgw : w.heap.size < g := by omega
      clear hgb
      go_wp2_with fail
      refine (kfx.out _).mono ?_
      rintro e_z2 w_z2 ⟨rfl, hb_z2⟩
      obtain ⟨z2, rfl⟩ := later_is hb_z2
      clear hb_z2
      have hz_z2 := z2.bel.size
      try simp at hz_z2
      have l_z2_0 : w.heap.size < z2.val.heap.size := by omega
      have m_z2_0 : w.heap.size < z2.val.heap.size + 1 := by omega
      have q_ := z2.bel.cell (p := ⟨w.heap.size, 0, none⟩) (by first | omega | (simp; done) | (simp; omega))
      generalize c_z2_0_0 : z2.val.cell? ⟨w.heap.size, 0, none⟩ = q at q_
      first | (have q2_ : q = some _ := q_; subst q2_) | (simp [go_sem] at q_; have q2_ : q = some _ := q_; subst q2_) | (simp [go_sem, *] at q_; have q2_ : q = some _ := q_; subst q2_)
      have q_ := z2.bel.frozen (p := ⟨w.heap.size, 0, none⟩) (by first | omega | (simp; done) | (simp; omega))
      generalize z_z2_0_0 : z2.val.frozen? ⟨w.heap.size, 0, none⟩ = q at q_
      first | (have q2_ : q = false := q_; subst q2_) | (simp [go_sem] at q_; have q2_ : q = false := q_; subst q2_) | (simp [go_sem, *] at q_; have q2_ : q = false := q_; subst q2_)
      have q_ := z2.bel.cell (p := ⟨w.heap.size, 1, none⟩) (by first | omega | (simp; done) | (simp; omega))
      generalize c_z2_0_1 : z2.val.cell? ⟨w.heap.size, 1, none⟩ = q at q_
      first | (have q2_ : q = some _ := q_; subst q2_) | (simp [go_sem] at q_; have q2_ : q = some _ := q_; subst q2_) | (simp [go_sem, *] at q_; have q2_ : q = some _ := q_; subst q2_)
      have q_ := z2.bel.frozen (p := ⟨w.heap.size, 1, none⟩) (by first | omega | (simp; done) | (simp; omega))
      generalize z_z2_0_1 : z2.val.frozen? ⟨w.heap.size, 1, none⟩ = q at q_
      first | (have q2_ : q = false := q_; subst q2_) | (simp [go_sem] at q_; have q2_ : q = false := q_; subst q2_) | (simp [go_sem, *] at q_; have q2_ : q = false := q_; subst q2_)
      replace oz1 := own_below oz1 z2.bel
      have hbz2 : Below w.heap.size w z2.val := (by repeat (first | exact Below.refl _ _ | refine bel_later _ ?_ | refine bel_alloc ?_ _ | refine bel_set ?_ (by first | omega | (simp; done) | (simp; omega)) _ | refine Below.drew ?_ | refine bel_drewN ?_ _ | assumption))
      go_wp2_with fail
      with_reducible refine (read_lit (Stg.tagged o t k x.a x.ws) (some ⟨g, 0, none⟩) cz1 20 ⟨o, t, k, x.a.toNat, x.ws, 0⟩ (o : Int) (t : Int) (k : Int) x.a 0 x.ws.length z2.val (Stg.tagged_length _ _ _ _ _) (Sq.of_own oz1) HU.out (own_nil_c oz1).2 (own_cap oz1) HRT.out rfl rfl rfl HXA.out rfl rfl).mono ?_
      rintro e_z3 w_z3 ⟨Az3, cz3, rfl, oz3, hb_z3⟩
      obtain ⟨z3, rfl⟩ := later_is hb_z3
      clear hb_z3
      have hz_z3 := z3.bel.size
      try simp at hz_z3
      have l_z3_0 : w.heap.size < z3.val.heap.size := by omega
      have m_z3_0 : w.heap.size < z3.val.heap.size + 1 := by omega
      have q_ := z3.bel.cell (p := ⟨w.heap.size, 0, none⟩) (by first | omega | (simp; done) | (simp; omega))
      generalize c_z3_0_0 : z3.val.cell? ⟨w.heap.size, 0, none⟩ = q at q_
      first | (have q2_ : q = some _ := q_; subst q2_) | (simp [go_sem] at q_; have q2_ : q = some _ := q_; subst q2_) | (simp [go_sem, *] at q_; have q2_ : q = some _ := q_; subst q2_)
      have q_ := z3.bel.frozen (p := ⟨w.heap.size, 0, none⟩) (by first | omega | (simp; done) | (simp; omega))
      generalize z_z3_0_0 : z3.val.frozen? ⟨w.heap.size, 0, none⟩ = q at q_
      first | (have q2_ : q = false := q_; subst q2_) | (simp [go_sem] at q_; have q2_ : q = false := q_; subst q2_) | (simp [go_sem, *] at q_; have q2_ : q = false := q_; subst q2_)
      have q_ := z3.bel.cell (p := ⟨w.heap.size, 1, none⟩) (by first | omega | (simp; done) | (simp; omega))
      generalize c_z3_0_1 : z3.val.cell? ⟨w.heap.size, 1, none⟩ = q at q_
      first | (have q2_ : q = some _ := q_; subst q2_) | (simp [go_sem] at q_; have q2_ : q = some _ := q_; subst q2_) | (simp [go_sem, *] at q_; have q2_ : q = some _ := q_; subst q2_)
      have q_ := z3.bel.frozen (p := ⟨w.heap.size, 1, none⟩) (by first | omega | (simp; done) | (simp; omega))
      generalize z_z3_0_1 : z3.val.frozen? ⟨w.heap.size, 1, none⟩ = q at q_
      first | (have q2_ : q = false := q_; subst q2_) | (simp [go_sem] at q_; have q2_ : q = false := q_; subst q2_) | (simp [go_sem, *] at q_; have q2_ : q = false := q_; subst q2_)
      replace oz1 := own_below oz1 z3.bel
      have hbz3 : Below w.heap.size w z3.val := bel_later z3 hbz2
      have oy : z3.val.ownsRow z2.val.heap.size 22 1 (.slice Az3 x.ws.length cz3) x.ws.length (x.ws.map u16w) := oz3
      have hyo : (Blk.mk x.a x.ws Az3 cz3).Ok z3.val z3.val.heap.size := Blk.Ok.of_own rfl oy (kx.out _ (Below.refl _ _)).u (kx.out _ (Below.refl _ _)).lo (kx.out _ (Below.refl _ _)).hi
      clear oz3
      have ks := Lib.hid (sameBlocks_any (some ⟨z3.val.heap.size + 1, 0, none⟩) (some ⟨z3.val.heap.size + 1 + 1, 0, none⟩) [x] [⟨x.a, x.ws, Az3, cz3⟩] 1 1 1 1 true _ rfl rfl ((Blks.one (t := 26) (by simp) ((kx.out z3.val hbz3).to (bel_alloc (Below.refl _ _) (.cells #[.int .i64 x.a, .slice Az3 x.ws.length cz3] 26)))).to (bel_alloc (Below.refl _ _) _)) (Blks.one (t := 26) (by simp) ((hyo.to (bel_alloc (Below.refl _ _) _)).to (bel_alloc (Below.refl _ _) _))) (by simp) hlx (by simp))
      go_wp2_with fail
      refine (ks.out).mono ?_
      rintro e_z4 w_z4 ⟨rfl, hb_z4⟩
      obtain ⟨z4, rfl⟩ := later_is hb_z4
      clear hb_z4
      have hz_z4 := z4.bel.size
      try simp at hz_z4
      have l_z4_0 : w.heap.size < z4.val.heap.size := by omega
      have m_z4_0 : w.heap.size < z4.val.heap.size + 1 := by omega
      have q_ := z4.bel.cell (p := ⟨w.heap.size, 0, none⟩) (by first | omega | (simp; done) | (simp; omega))
      generalize c_z4_0_0 : z4.val.cell? ⟨w.heap.size, 0, none⟩ = q at q_
      first | (have q2_ : q = some _ := q_; subst q2_) | (simp [go_sem] at q_; have q2_ : q = some _ := q_; subst q2_) | (simp [go_sem, *] at q_; have q2_ : q = some _ := q_; subst q2_)
      have q_ := z4.bel.frozen (p := ⟨w.heap.size, 0, none⟩) (by first | omega | (simp; done) | (simp; omega))
      generalize z_z4_0_0 : z4.val.frozen? ⟨w.heap.size, 0, none⟩ = q at q_
      first | (have q2_ : q = false := q_; subst q2_) | (simp [go_sem] at q_; have q2_ : q = false := q_; subst q2_) | (simp [go_sem, *] at q_; have q2_ : q = false := q_; subst q2_)
      have q_ := z4.bel.cell (p := ⟨w.heap.size, 1, none⟩) (by first | omega | (simp; done) | (simp; omega))
      generalize c_z4_0_1 : z4.val.cell? ⟨w.heap.size, 1, none⟩ = q at q_
      first | (have q2_ : q = some _ := q_; subst q2_) | (simp [go_sem] at q_; have q2_ : q = some _ := q_; subst q2_) | (simp [go_sem, *] at q_; have q2_ : q = some _ := q_; subst q2_)
      have q_ := z4.bel.frozen (p := ⟨w.heap.size, 1, none⟩) (by first | omega | (simp; done) | (simp; omega))
      generalize z_z4_0_1 : z4.val.frozen? ⟨w.heap.size, 1, none⟩ = q at q_
      first | (have q2_ : q = false := q_; subst q2_) | (simp [go_sem] at q_; have q2_ : q = false := q_; subst q2_) | (simp [go_sem, *] at q_; have q2_ : q = false := q_; subst q2_)
      have l_z4_1 : z3.val.heap.size < z4.val.heap.size := by omega
      have m_z4_1 : z3.val.heap.size < z4.val.heap.size + 1 := by omega
      have q_ := z4.bel.cell (p := ⟨z3.val.heap.size, 0, none⟩) (by first | omega | (simp; done) | (simp; omega))
      generalize c_z4_1_0 : z4.val.cell? ⟨z3.val.heap.size, 0, none⟩ = q at q_
      first | (have q2_ : q = some _ := q_; subst q2_) | (simp [go_sem] at q_; have q2_ : q = some _ := q_; subst q2_) | (simp [go_sem, *] at q_; have q2_ : q = some _ := q_; subst q2_)
      have q_ := z4.bel.frozen (p := ⟨z3.val.heap.size, 0, none⟩) (by first | omega | (simp; done) | (simp; omega))
      generalize z_z4_1_0 : z4.val.frozen? ⟨z3.val.heap.size, 0, none⟩ = q at q_
      first | (have q2_ : q = false := q_; subst q2_) | (simp [go_sem] at q_; have q2_ : q = false := q_; subst q2_) | (simp [go_sem, *] at q_; have q2_ : q = false := q_; subst q2_)
      have q_ := z4.bel.cell (p := ⟨z3.val.heap.size, 1, none⟩) (by first | omega | (simp; done) | (simp; omega))
      generalize c_z4_1_1 : z4.val.cell? ⟨z3.val.heap.size, 1, none⟩ = q at q_
      first | (have q2_ : q = some _ := q_; subst q2_) | (simp [go_sem] at q_; have q2_ : q = some _ := q_; subst q2_) | (simp [go_sem, *] at q_; have q2_ : q = some _ := q_; subst q2_)
      have q_ := z4.bel.frozen (p := ⟨z3.val.heap.size, 1, none⟩) (by first | omega | (simp; done) | (simp; omega))
      generalize z_z4_1_1 : z4.val.frozen? ⟨z3.val.heap.size, 1, none⟩ = q at q_
      first | (have q2_ : q = false := q_; subst q2_) | (simp [go_sem] at q_; have q2_ : q = false := q_; subst q2_) | (simp [go_sem, *] at q_; have q2_ : q = false := q_; subst q2_)
      replace oz1 := own_below (((oz1.alloc _).alloc _).alloc _) z4.bel
      replace oy := own_below (((oy.alloc _).alloc _).alloc _) z4.bel
      have hbz4 : Below w.heap.size w z4.val := bel_later z4 (bel_alloc (bel_alloc (bel_alloc hbz3 _) _) _)
      have hgz2 : g < z2.val.heap.size := by omega
      have hgne : w.heap.size ≠ g := by omega
      have hgne3 : z3.val.heap.size ≠ g := by omega
      obtain ⟨la, hla, oz⟩ : ∃ la : List Nat, la.length = 20 ∧ z4.val.ownsRow (w.heap.size + 1) 22 1 (.slice (some ⟨g, 0, none⟩) 20 cz1) 20 (la.map u16w) := ⟨_, Stg.tagged_length _ _ _ _ _, own_more oz1 (by first | omega | (simp; omega))⟩
      clear oz1
      go_wp2
      go_loopw [144, 25] (fun i _ wr => ∃ j l', j ≤ 20 ∧ i = .int .i64 (j : Nat) ∧ l'.length = 20 ∧ wr.ownsRow (w.heap.size + 1) 22 1 (.slice (some ⟨g, 0, none⟩) 20 cz1) 20 ((l' : List Nat).map u16w) ∧ Only g z4.val wr) (fun i _ _ => 20 - (intOf i).toNat)
      case atStart => exact ⟨0, la, by omega, rfl, hla, oz, Only.refl _ _⟩
      case round =>
        clear hla oz
        obtain ⟨j, l', hj, rfl, hl', hown, honly⟩ := hrel
        have HL := Lib.hid hl'
        by_cases hlt : j < 20
        · obtain ⟨y, hy⟩ : ∃ y, l'[j]? = some y := ⟨_, List.getElem?_eq_getElem (by omega)⟩
          have k0 : wr.cell? ⟨g, j, none⟩ = some (.int .u16 (y : Int)) := (hown.cellAt j (by omega)).trans (map_get hy)
          have f0 := hown.frozenAt j
          clear hy hl'
          go_wp2
          go_roundw
          case rel =>
            refine ⟨j + 1, l'.set j ((y + 1) % 65536), by omega, by go_num, by simpa using HL.out, ?_, honly.set _⟩
            have hs := own_set (i := j) (x := (y + 1) % 65536) hown
            have he : IntKind.u16.wrap ((y : Int) + 1) = (((y + 1) % 65536 : Nat) : Int) := by rw [wrap_u16]; omega
            rw [he]
            exact hs
          case measure => simp [intOf]; omega
        · have kc0 : wr.cell? ⟨w.heap.size, 1, none⟩ = some (.slice x.A x.ws.length x.c) := (honly.cell (p := ⟨w.heap.size, 1, none⟩) hgne).trans c_z4_0_1
          have kc1 : wr.cell? ⟨z3.val.heap.size, 1, none⟩ = some (.slice Az3 x.ws.length cz3) := (honly.cell (p := ⟨z3.val.heap.size, 1, none⟩) hgne3).trans c_z4_1_1
          have hbr : Below w.heap.size w wr := hbz4.trans (honly.below (by omega))
          have oyr := honly.own oy hgz2
          go_wp2_with fail
          refine (lowWords_any Az3 x.A x.ws x.ws _ _ _ _ true wr rfl rfl (Sq.of_own oyr) (kx.out _ hbr).sq (by omega) (by simp)).mono ?_
          rintro e_z5 w_z5 ⟨rfl, hb_z5⟩
          obtain ⟨z5, rfl⟩ := later_is hb_z5
          clear hb_z5
          have hz_z5 := z5.bel.size
          try simp at hz_z5
          go_wp2_with fail
          refine (awake_any _).mono ?_
          rintro e_z6 w_z6 ⟨rfl, hb_z6⟩
          obtain ⟨z6, rfl⟩ := later_is hb_z6
          clear hb_z6
          have hz_z6 := z6.bel.size
          try simp at hz_z6
          go_wp2
          go_ret
          exact ⟨rfl, bel_later z6 (bel_later z5 hbr)⟩
end Go.Proofs.Ytopkncbpkccfbaa
