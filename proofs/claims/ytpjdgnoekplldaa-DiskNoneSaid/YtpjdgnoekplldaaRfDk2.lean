/- The reference's disk (saucierref09), by value: Crash, Cut. -/
import Derived.Test.YtpjdgnoekplldaaRfDk
namespace Go.Proofs.Ytpjdgnoekplldaa
open Go.RowKit
set_option linter.unusedVariables false
attribute [local go_sem] Later.cell Later.frozen setCell_twice
theorem own_sq_empty {α : Type} (f : α → Value) (w : World) (base : Nat) (e : TypeId) (n : Nat) (hn : n = w.heap.size) (hb : base ≤ n) : (w.alloc (.cells #[] e)).ownsRow base e 1 (.slice (some ⟨n, 0, none⟩) ([] : List α).length 0) ([] : List α).length (([] : List α).map f) := by
  subst hn
  exact ⟨rfl, .inr ⟨w.heap.size, 0, #[], rfl, hb, heap_alloc_new w _, Nat.le_refl _, by simp [maxLen], rfl, rfl⟩⟩
theorem own_set {W : World} {B e n g j : Nat} {u v : Value} {xs : List Value} (h : W.ownsRow B e 1 v n xs) (hg : g < B) : (W.setCell ⟨g, j, none⟩ u).ownsRow B e 1 v n xs := ((Only.refl g W).set u).own h hg
def CrP (w : World) (D' : Dk) (e : Ending) (w' : World) : Prop := ∃ A' c', e = .returned (D'.R A' c') ∧ Rb w' A' c' D'.l ∧ Below w.heap.size w w' ∧ ∀ p, A' = some p → w.heap.size ≤ p.block
set_option maxHeartbeats 400000 in
theorem rcrash_any (D : Dk) (A : Option Addr) (c : Nat) (w : World) (n : Int) (hlo : -9223372036854775808 ≤ n) (hhi : n ≤ 9223372036854775807) (hok : D.Ok) (hb : Rb w A c D.l) :
    Calls Try.prog 36 #[D.R A c, .int .i64 n] w (CrP w (D.crash n)) := by
  obtain ⟨i0, hi, hz0, hz1, hz2⟩ := info_parts info_b8
  obtain ⟨room, l, safe, left, off⟩ := D
  obtain ⟨m, hm⟩ : ∃ m, l.length = m := ⟨_, rfl⟩
  have hs : safe ≤ m := by rw [← hm]; exact hok.safe
  have hmr : m ≤ room := by rw [← hm]; exact hok.room
  have hrh : room ≤ 262144 := hok.hi
  have hmc : m ≤ c := by rw [← hm]; exact hb.le
  have hcap := hb.cap
  have HB := Lib.hid hb
  obtain ⟨k, hk⟩ : ∃ k : Nat, safe + min n.toNat (m - safe) = k := ⟨_, rfl⟩
  have HE : Dk.crash ⟨room, l, safe, left, off⟩ n = ⟨room, l.take k, k, none, false⟩ := by unfold Dk.crash; simp only [hm, hk]
  rw [HE]
  have HTK : Hid ((l.take k).length = k) := Lib.hid (by rw [List.length_take]; omega)
  simp only [Dk.R, hm]
  obtain ⟨zl, hzl⟩ : ∃ z, lf left = z := ⟨_, rfl⟩
  rw [hzl]
  obtain ⟨q, hq⟩ : ∃ q : Nat, m - safe = q := ⟨_, rfl⟩
  have hkc : k ≤ c := by omega
  have hkm : k ≤ m := by omega
  have hqI : (m : Int) - (safe : Int) = (q : Int) := by omega
  have FIN : ∀ (W : World) (A' : Option Addr) (c' base : Nat), W.ownsRow base 5 1 (.slice A' k c') k ((l.take k).map byw) → w.heap.size ≤ base → Below w.heap.size w W → CrP w ⟨room, l.take k, k, none, false⟩ (.returned (.agg #[.int .i64 (room : Int), .int .i64 (k : Int), .int .i64 (-1), .slice A' k c', .bool false])) W := fun W A' c' base ho hB k1 =>
    ⟨A', c', by simp [Dk.R, lf, HTK.out], .of_own (base := base) (e := 5) (by rw [HTK.out]; exact ho), k1, fun p hp => Nat.le_trans hB (own_at ho p hp).1⟩
  have FIN := Lib.hid FIN
  by_cases h1 : n < 0
  · obtain rfl : k = safe := by omega
    clear hm hzl hk hq HE hok hb
    have g2 : decide ((q : Int) < 0) = false := decide_eq_false (by omega)
    have hk0 : (0 : Int) ≤ (k : Int) := by omega
    have hkc' : (k : Int) ≤ (c : Int) := by omega
    cases A
    · go_enter Try.func36, Try.ntmps36
      go_wp2_with (
        at_builtin
        go_loud (
        refine wpList_append_sq (f := byw) _ rfl _ _ 22 rfl (fun _ => rfl) (w.heap.size + 1 + 1) 5 i0 _ _ Try.underlying22 hi hz0 rfl hz1 hz2 (by decide) _ [] rfl (own_sq_empty byw _ _ _ _ (by simp) (by simp)) w.heap.size _ (l.take k) c k HTK.out rfl (((HB.out.sq.below (B := w.heap.size) (by exact (by repeat (first | with_reducible exact Below.refl _ _ | with_reducible refine bel_later _ ?_ | with_reducible refine bel_alloc ?_ _ | refine bel_set ?_ (by first | omega | (simp; done) | (simp; omega)) _ | with_reducible refine Below.drew ?_ | with_reducible refine bel_drewN ?_ _ | with_reducible assumption | assumption)))).take k)) HB.out.nil (by simp; omega) (by simp) ?_
        intro A' c' w' hown hg hb
        obtain ⟨x1, rfl⟩ := later_is hb
        simp only [List.nil_append, HTK.out] at hown ⊢
        have HO := Lib.hid hown
        have hbw : Below w.heap.size w x1.val := Below.trans (by exact (by repeat (first | with_reducible exact Below.refl _ _ | with_reducible refine bel_later _ ?_ | with_reducible refine bel_alloc ?_ _ | refine bel_set ?_ (by first | omega | (simp; done) | (simp; omega)) _ | with_reducible refine Below.drew ?_ | with_reducible refine bel_drewN ?_ _ | with_reducible assumption | assumption))) (x1.bel.mono (by omega))
        clear hown hg hb
        have hz_x1 := x1.bel.size
        try simp at hz_x1
        have l_x1_0 : w.heap.size < x1.val.heap.size := by omega
        have m_x1_0 : w.heap.size < x1.val.heap.size + 1 := by omega
        have q_ := x1.bel.cell (p := ⟨w.heap.size, 0, none⟩) (by first | omega | (simp; done) | (simp; omega))
        generalize c_x1_0_0 : x1.val.cell? ⟨w.heap.size, 0, none⟩ = q at q_
        first | (have q2_ : q = some _ := q_; subst q2_) | (simp [go_sem] at q_; have q2_ : q = some _ := q_; subst q2_) | (simp [go_sem, *] at q_; have q2_ : q = some _ := q_; subst q2_)
        have q_ := x1.bel.frozen (p := ⟨w.heap.size, 0, none⟩) (by first | omega | (simp; done) | (simp; omega))
        generalize z_x1_0_0 : x1.val.frozen? ⟨w.heap.size, 0, none⟩ = q at q_
        first | (have q2_ : q = false := q_; subst q2_) | (simp [go_sem] at q_; have q2_ : q = false := q_; subst q2_) | (simp [go_sem, *] at q_; have q2_ : q = false := q_; subst q2_)
        have q_ := x1.bel.cell (p := ⟨w.heap.size, 1, none⟩) (by first | omega | (simp; done) | (simp; omega))
        generalize c_x1_0_1 : x1.val.cell? ⟨w.heap.size, 1, none⟩ = q at q_
        first | (have q2_ : q = some _ := q_; subst q2_) | (simp [go_sem] at q_; have q2_ : q = some _ := q_; subst q2_) | (simp [go_sem, *] at q_; have q2_ : q = some _ := q_; subst q2_)
        have q_ := x1.bel.frozen (p := ⟨w.heap.size, 1, none⟩) (by first | omega | (simp; done) | (simp; omega))
        generalize z_x1_0_1 : x1.val.frozen? ⟨w.heap.size, 1, none⟩ = q at q_
        first | (have q2_ : q = false := q_; subst q2_) | (simp [go_sem] at q_; have q2_ : q = false := q_; subst q2_) | (simp [go_sem, *] at q_; have q2_ : q = false := q_; subst q2_)
        have q_ := x1.bel.cell (p := ⟨w.heap.size, 2, none⟩) (by first | omega | (simp; done) | (simp; omega))
        generalize c_x1_0_2 : x1.val.cell? ⟨w.heap.size, 2, none⟩ = q at q_
        first | (have q2_ : q = some _ := q_; subst q2_) | (simp [go_sem] at q_; have q2_ : q = some _ := q_; subst q2_) | (simp [go_sem, *] at q_; have q2_ : q = some _ := q_; subst q2_)
        have q_ := x1.bel.frozen (p := ⟨w.heap.size, 2, none⟩) (by first | omega | (simp; done) | (simp; omega))
        generalize z_x1_0_2 : x1.val.frozen? ⟨w.heap.size, 2, none⟩ = q at q_
        first | (have q2_ : q = false := q_; subst q2_) | (simp [go_sem] at q_; have q2_ : q = false := q_; subst q2_) | (simp [go_sem, *] at q_; have q2_ : q = false := q_; subst q2_)
        have q_ := x1.bel.cell (p := ⟨w.heap.size, 3, none⟩) (by first | omega | (simp; done) | (simp; omega))
        generalize c_x1_0_3 : x1.val.cell? ⟨w.heap.size, 3, none⟩ = q at q_
        first | (have q2_ : q = some _ := q_; subst q2_) | (simp [go_sem] at q_; have q2_ : q = some _ := q_; subst q2_) | (simp [go_sem, *] at q_; have q2_ : q = some _ := q_; subst q2_)
        have q_ := x1.bel.frozen (p := ⟨w.heap.size, 3, none⟩) (by first | omega | (simp; done) | (simp; omega))
        generalize z_x1_0_3 : x1.val.frozen? ⟨w.heap.size, 3, none⟩ = q at q_
        first | (have q2_ : q = false := q_; subst q2_) | (simp [go_sem] at q_; have q2_ : q = false := q_; subst q2_) | (simp [go_sem, *] at q_; have q2_ : q = false := q_; subst q2_)
        have q_ := x1.bel.cell (p := ⟨w.heap.size, 4, none⟩) (by first | omega | (simp; done) | (simp; omega))
        generalize c_x1_0_4 : x1.val.cell? ⟨w.heap.size, 4, none⟩ = q at q_
        first | (have q2_ : q = some _ := q_; subst q2_) | (simp [go_sem] at q_; have q2_ : q = some _ := q_; subst q2_) | (simp [go_sem, *] at q_; have q2_ : q = some _ := q_; subst q2_)
        have q_ := x1.bel.frozen (p := ⟨w.heap.size, 4, none⟩) (by first | omega | (simp; done) | (simp; omega))
        generalize z_x1_0_4 : x1.val.frozen? ⟨w.heap.size, 4, none⟩ = q at q_
        first | (have q2_ : q = false := q_; subst q2_) | (simp [go_sem] at q_; have q2_ : q = false := q_; subst q2_) | (simp [go_sem, *] at q_; have q2_ : q = false := q_; subst q2_)
        have l_x1_1 : w.heap.size+1 < x1.val.heap.size := by omega
        have m_x1_1 : w.heap.size+1 < x1.val.heap.size + 1 := by omega
        have q_ := x1.bel.cell (p := ⟨w.heap.size+1, 0, none⟩) (by first | omega | (simp; done) | (simp; omega))
        generalize c_x1_1_0 : x1.val.cell? ⟨w.heap.size+1, 0, none⟩ = q at q_
        first | (have q2_ : q = some _ := q_; subst q2_) | (simp [go_sem] at q_; have q2_ : q = some _ := q_; subst q2_) | (simp [go_sem, *] at q_; have q2_ : q = some _ := q_; subst q2_)
        have q_ := x1.bel.frozen (p := ⟨w.heap.size+1, 0, none⟩) (by first | omega | (simp; done) | (simp; omega))
        generalize z_x1_1_0 : x1.val.frozen? ⟨w.heap.size+1, 0, none⟩ = q at q_
        first | (have q2_ : q = false := q_; subst q2_) | (simp [go_sem] at q_; have q2_ : q = false := q_; subst q2_) | (simp [go_sem, *] at q_; have q2_ : q = false := q_; subst q2_)
        have q_ := x1.bel.cell (p := ⟨w.heap.size+1, 1, none⟩) (by first | omega | (simp; done) | (simp; omega))
        generalize c_x1_1_1 : x1.val.cell? ⟨w.heap.size+1, 1, none⟩ = q at q_
        first | (have q2_ : q = some _ := q_; subst q2_) | (simp [go_sem] at q_; have q2_ : q = some _ := q_; subst q2_) | (simp [go_sem, *] at q_; have q2_ : q = some _ := q_; subst q2_)
        have q_ := x1.bel.frozen (p := ⟨w.heap.size+1, 1, none⟩) (by first | omega | (simp; done) | (simp; omega))
        generalize z_x1_1_1 : x1.val.frozen? ⟨w.heap.size+1, 1, none⟩ = q at q_
        first | (have q2_ : q = false := q_; subst q2_) | (simp [go_sem] at q_; have q2_ : q = false := q_; subst q2_) | (simp [go_sem, *] at q_; have q2_ : q = false := q_; subst q2_)
        have q_ := x1.bel.cell (p := ⟨w.heap.size+1, 2, none⟩) (by first | omega | (simp; done) | (simp; omega))
        generalize c_x1_1_2 : x1.val.cell? ⟨w.heap.size+1, 2, none⟩ = q at q_
        first | (have q2_ : q = some _ := q_; subst q2_) | (simp [go_sem] at q_; have q2_ : q = some _ := q_; subst q2_) | (simp [go_sem, *] at q_; have q2_ : q = some _ := q_; subst q2_)
        have q_ := x1.bel.frozen (p := ⟨w.heap.size+1, 2, none⟩) (by first | omega | (simp; done) | (simp; omega))
        generalize z_x1_1_2 : x1.val.frozen? ⟨w.heap.size+1, 2, none⟩ = q at q_
        first | (have q2_ : q = false := q_; subst q2_) | (simp [go_sem] at q_; have q2_ : q = false := q_; subst q2_) | (simp [go_sem, *] at q_; have q2_ : q = false := q_; subst q2_)
        have q_ := x1.bel.cell (p := ⟨w.heap.size+1, 3, none⟩) (by first | omega | (simp; done) | (simp; omega))
        generalize c_x1_1_3 : x1.val.cell? ⟨w.heap.size+1, 3, none⟩ = q at q_
        first | (have q2_ : q = some _ := q_; subst q2_) | (simp [go_sem] at q_; have q2_ : q = some _ := q_; subst q2_) | (simp [go_sem, *] at q_; have q2_ : q = some _ := q_; subst q2_)
        have q_ := x1.bel.frozen (p := ⟨w.heap.size+1, 3, none⟩) (by first | omega | (simp; done) | (simp; omega))
        generalize z_x1_1_3 : x1.val.frozen? ⟨w.heap.size+1, 3, none⟩ = q at q_
        first | (have q2_ : q = false := q_; subst q2_) | (simp [go_sem] at q_; have q2_ : q = false := q_; subst q2_) | (simp [go_sem, *] at q_; have q2_ : q = false := q_; subst q2_)
        have q_ := x1.bel.cell (p := ⟨w.heap.size+1, 4, none⟩) (by first | omega | (simp; done) | (simp; omega))
        generalize c_x1_1_4 : x1.val.cell? ⟨w.heap.size+1, 4, none⟩ = q at q_
        first | (have q2_ : q = some _ := q_; subst q2_) | (simp [go_sem] at q_; have q2_ : q = some _ := q_; subst q2_) | (simp [go_sem, *] at q_; have q2_ : q = some _ := q_; subst q2_)
        have q_ := x1.bel.frozen (p := ⟨w.heap.size+1, 4, none⟩) (by first | omega | (simp; done) | (simp; omega))
        generalize z_x1_1_4 : x1.val.frozen? ⟨w.heap.size+1, 4, none⟩ = q at q_
        first | (have q2_ : q = false := q_; subst q2_) | (simp [go_sem] at q_; have q2_ : q = false := q_; subst q2_) | (simp [go_sem, *] at q_; have q2_ : q = false := q_; subst q2_)
        skip))
      refine bodyPost_ret (v := .agg #[.int .i64 (room : Int), .int .i64 (k : Int), .int .i64 (-1), .slice A' k c', .bool false]) (by simp [results, Try.results36, go_sem, *]) rfl (FIN.out _ _ _ (w.heap.size + 1 + 1) (by repeat (first | with_reducible exact HO.out | refine own_set ?_ (by omega) | refine own_below ?_ (bel_alloc (Below.refl _ _) _))) (by omega) (by repeat (first | with_reducible exact Below.refl _ _ | with_reducible refine bel_later _ ?_ | with_reducible refine bel_alloc ?_ _ | refine bel_set ?_ (by first | omega | (simp; done) | (simp; omega)) _ | with_reducible refine Below.drew ?_ | with_reducible refine bel_drewN ?_ _ | with_reducible assumption | assumption)))
    · go_enter Try.func36, Try.ntmps36
      go_wp2_with (
        at_builtin
        go_loud (
        refine wpList_append_sq (f := byw) _ rfl _ _ 22 rfl (fun _ => rfl) (w.heap.size + 1 + 1) 5 i0 _ _ Try.underlying22 hi hz0 rfl hz1 hz2 (by decide) _ [] rfl (own_sq_empty byw _ _ _ _ (by simp) (by simp)) w.heap.size _ (l.take k) c k HTK.out rfl (((HB.out.sq.below (B := w.heap.size) (by exact (by repeat (first | with_reducible exact Below.refl _ _ | with_reducible refine bel_later _ ?_ | with_reducible refine bel_alloc ?_ _ | refine bel_set ?_ (by first | omega | (simp; done) | (simp; omega)) _ | with_reducible refine Below.drew ?_ | with_reducible refine bel_drewN ?_ _ | with_reducible assumption | assumption)))).take k)) HB.out.nil (by simp; omega) (by simp) ?_
        intro A' c' w' hown hg hb
        obtain ⟨x1, rfl⟩ := later_is hb
        simp only [List.nil_append, HTK.out] at hown ⊢
        have HO := Lib.hid hown
        have hbw : Below w.heap.size w x1.val := Below.trans (by exact (by repeat (first | with_reducible exact Below.refl _ _ | with_reducible refine bel_later _ ?_ | with_reducible refine bel_alloc ?_ _ | refine bel_set ?_ (by first | omega | (simp; done) | (simp; omega)) _ | with_reducible refine Below.drew ?_ | with_reducible refine bel_drewN ?_ _ | with_reducible assumption | assumption))) (x1.bel.mono (by omega))
        clear hown hg hb
        have hz_x1 := x1.bel.size
        try simp at hz_x1
        have l_x1_0 : w.heap.size < x1.val.heap.size := by omega
        have m_x1_0 : w.heap.size < x1.val.heap.size + 1 := by omega
        have q_ := x1.bel.cell (p := ⟨w.heap.size, 0, none⟩) (by first | omega | (simp; done) | (simp; omega))
        generalize c_x1_0_0 : x1.val.cell? ⟨w.heap.size, 0, none⟩ = q at q_
        first | (have q2_ : q = some _ := q_; subst q2_) | (simp [go_sem] at q_; have q2_ : q = some _ := q_; subst q2_) | (simp [go_sem, *] at q_; have q2_ : q = some _ := q_; subst q2_)
        have q_ := x1.bel.frozen (p := ⟨w.heap.size, 0, none⟩) (by first | omega | (simp; done) | (simp; omega))
        generalize z_x1_0_0 : x1.val.frozen? ⟨w.heap.size, 0, none⟩ = q at q_
        first | (have q2_ : q = false := q_; subst q2_) | (simp [go_sem] at q_; have q2_ : q = false := q_; subst q2_) | (simp [go_sem, *] at q_; have q2_ : q = false := q_; subst q2_)
        have q_ := x1.bel.cell (p := ⟨w.heap.size, 1, none⟩) (by first | omega | (simp; done) | (simp; omega))
        generalize c_x1_0_1 : x1.val.cell? ⟨w.heap.size, 1, none⟩ = q at q_
        first | (have q2_ : q = some _ := q_; subst q2_) | (simp [go_sem] at q_; have q2_ : q = some _ := q_; subst q2_) | (simp [go_sem, *] at q_; have q2_ : q = some _ := q_; subst q2_)
        have q_ := x1.bel.frozen (p := ⟨w.heap.size, 1, none⟩) (by first | omega | (simp; done) | (simp; omega))
        generalize z_x1_0_1 : x1.val.frozen? ⟨w.heap.size, 1, none⟩ = q at q_
        first | (have q2_ : q = false := q_; subst q2_) | (simp [go_sem] at q_; have q2_ : q = false := q_; subst q2_) | (simp [go_sem, *] at q_; have q2_ : q = false := q_; subst q2_)
        have q_ := x1.bel.cell (p := ⟨w.heap.size, 2, none⟩) (by first | omega | (simp; done) | (simp; omega))
        generalize c_x1_0_2 : x1.val.cell? ⟨w.heap.size, 2, none⟩ = q at q_
        first | (have q2_ : q = some _ := q_; subst q2_) | (simp [go_sem] at q_; have q2_ : q = some _ := q_; subst q2_) | (simp [go_sem, *] at q_; have q2_ : q = some _ := q_; subst q2_)
        have q_ := x1.bel.frozen (p := ⟨w.heap.size, 2, none⟩) (by first | omega | (simp; done) | (simp; omega))
        generalize z_x1_0_2 : x1.val.frozen? ⟨w.heap.size, 2, none⟩ = q at q_
        first | (have q2_ : q = false := q_; subst q2_) | (simp [go_sem] at q_; have q2_ : q = false := q_; subst q2_) | (simp [go_sem, *] at q_; have q2_ : q = false := q_; subst q2_)
        have q_ := x1.bel.cell (p := ⟨w.heap.size, 3, none⟩) (by first | omega | (simp; done) | (simp; omega))
        generalize c_x1_0_3 : x1.val.cell? ⟨w.heap.size, 3, none⟩ = q at q_
        first | (have q2_ : q = some _ := q_; subst q2_) | (simp [go_sem] at q_; have q2_ : q = some _ := q_; subst q2_) | (simp [go_sem, *] at q_; have q2_ : q = some _ := q_; subst q2_)
        have q_ := x1.bel.frozen (p := ⟨w.heap.size, 3, none⟩) (by first | omega | (simp; done) | (simp; omega))
        generalize z_x1_0_3 : x1.val.frozen? ⟨w.heap.size, 3, none⟩ = q at q_
        first | (have q2_ : q = false := q_; subst q2_) | (simp [go_sem] at q_; have q2_ : q = false := q_; subst q2_) | (simp [go_sem, *] at q_; have q2_ : q = false := q_; subst q2_)
        have q_ := x1.bel.cell (p := ⟨w.heap.size, 4, none⟩) (by first | omega | (simp; done) | (simp; omega))
        generalize c_x1_0_4 : x1.val.cell? ⟨w.heap.size, 4, none⟩ = q at q_
        first | (have q2_ : q = some _ := q_; subst q2_) | (simp [go_sem] at q_; have q2_ : q = some _ := q_; subst q2_) | (simp [go_sem, *] at q_; have q2_ : q = some _ := q_; subst q2_)
        have q_ := x1.bel.frozen (p := ⟨w.heap.size, 4, none⟩) (by first | omega | (simp; done) | (simp; omega))
        generalize z_x1_0_4 : x1.val.frozen? ⟨w.heap.size, 4, none⟩ = q at q_
        first | (have q2_ : q = false := q_; subst q2_) | (simp [go_sem] at q_; have q2_ : q = false := q_; subst q2_) | (simp [go_sem, *] at q_; have q2_ : q = false := q_; subst q2_)
        have l_x1_1 : w.heap.size+1 < x1.val.heap.size := by omega
        have m_x1_1 : w.heap.size+1 < x1.val.heap.size + 1 := by omega
        have q_ := x1.bel.cell (p := ⟨w.heap.size+1, 0, none⟩) (by first | omega | (simp; done) | (simp; omega))
        generalize c_x1_1_0 : x1.val.cell? ⟨w.heap.size+1, 0, none⟩ = q at q_
        first | (have q2_ : q = some _ := q_; subst q2_) | (simp [go_sem] at q_; have q2_ : q = some _ := q_; subst q2_) | (simp [go_sem, *] at q_; have q2_ : q = some _ := q_; subst q2_)
        have q_ := x1.bel.frozen (p := ⟨w.heap.size+1, 0, none⟩) (by first | omega | (simp; done) | (simp; omega))
        generalize z_x1_1_0 : x1.val.frozen? ⟨w.heap.size+1, 0, none⟩ = q at q_
        first | (have q2_ : q = false := q_; subst q2_) | (simp [go_sem] at q_; have q2_ : q = false := q_; subst q2_) | (simp [go_sem, *] at q_; have q2_ : q = false := q_; subst q2_)
        have q_ := x1.bel.cell (p := ⟨w.heap.size+1, 1, none⟩) (by first | omega | (simp; done) | (simp; omega))
        generalize c_x1_1_1 : x1.val.cell? ⟨w.heap.size+1, 1, none⟩ = q at q_
        first | (have q2_ : q = some _ := q_; subst q2_) | (simp [go_sem] at q_; have q2_ : q = some _ := q_; subst q2_) | (simp [go_sem, *] at q_; have q2_ : q = some _ := q_; subst q2_)
        have q_ := x1.bel.frozen (p := ⟨w.heap.size+1, 1, none⟩) (by first | omega | (simp; done) | (simp; omega))
        generalize z_x1_1_1 : x1.val.frozen? ⟨w.heap.size+1, 1, none⟩ = q at q_
        first | (have q2_ : q = false := q_; subst q2_) | (simp [go_sem] at q_; have q2_ : q = false := q_; subst q2_) | (simp [go_sem, *] at q_; have q2_ : q = false := q_; subst q2_)
        have q_ := x1.bel.cell (p := ⟨w.heap.size+1, 2, none⟩) (by first | omega | (simp; done) | (simp; omega))
        generalize c_x1_1_2 : x1.val.cell? ⟨w.heap.size+1, 2, none⟩ = q at q_
        first | (have q2_ : q = some _ := q_; subst q2_) | (simp [go_sem] at q_; have q2_ : q = some _ := q_; subst q2_) | (simp [go_sem, *] at q_; have q2_ : q = some _ := q_; subst q2_)
        have q_ := x1.bel.frozen (p := ⟨w.heap.size+1, 2, none⟩) (by first | omega | (simp; done) | (simp; omega))
        generalize z_x1_1_2 : x1.val.frozen? ⟨w.heap.size+1, 2, none⟩ = q at q_
        first | (have q2_ : q = false := q_; subst q2_) | (simp [go_sem] at q_; have q2_ : q = false := q_; subst q2_) | (simp [go_sem, *] at q_; have q2_ : q = false := q_; subst q2_)
        have q_ := x1.bel.cell (p := ⟨w.heap.size+1, 3, none⟩) (by first | omega | (simp; done) | (simp; omega))
        generalize c_x1_1_3 : x1.val.cell? ⟨w.heap.size+1, 3, none⟩ = q at q_
        first | (have q2_ : q = some _ := q_; subst q2_) | (simp [go_sem] at q_; have q2_ : q = some _ := q_; subst q2_) | (simp [go_sem, *] at q_; have q2_ : q = some _ := q_; subst q2_)
        have q_ := x1.bel.frozen (p := ⟨w.heap.size+1, 3, none⟩) (by first | omega | (simp; done) | (simp; omega))
        generalize z_x1_1_3 : x1.val.frozen? ⟨w.heap.size+1, 3, none⟩ = q at q_
        first | (have q2_ : q = false := q_; subst q2_) | (simp [go_sem] at q_; have q2_ : q = false := q_; subst q2_) | (simp [go_sem, *] at q_; have q2_ : q = false := q_; subst q2_)
        have q_ := x1.bel.cell (p := ⟨w.heap.size+1, 4, none⟩) (by first | omega | (simp; done) | (simp; omega))
        generalize c_x1_1_4 : x1.val.cell? ⟨w.heap.size+1, 4, none⟩ = q at q_
        first | (have q2_ : q = some _ := q_; subst q2_) | (simp [go_sem] at q_; have q2_ : q = some _ := q_; subst q2_) | (simp [go_sem, *] at q_; have q2_ : q = some _ := q_; subst q2_)
        have q_ := x1.bel.frozen (p := ⟨w.heap.size+1, 4, none⟩) (by first | omega | (simp; done) | (simp; omega))
        generalize z_x1_1_4 : x1.val.frozen? ⟨w.heap.size+1, 4, none⟩ = q at q_
        first | (have q2_ : q = false := q_; subst q2_) | (simp [go_sem] at q_; have q2_ : q = false := q_; subst q2_) | (simp [go_sem, *] at q_; have q2_ : q = false := q_; subst q2_)
        skip))
      refine bodyPost_ret (v := .agg #[.int .i64 (room : Int), .int .i64 (k : Int), .int .i64 (-1), .slice A' k c', .bool false]) (by simp [results, Try.results36, go_sem, *]) rfl (FIN.out _ _ _ (w.heap.size + 1 + 1) (by repeat (first | with_reducible exact HO.out | refine own_set ?_ (by omega) | refine own_below ?_ (bel_alloc (Below.refl _ _) _))) (by omega) (by repeat (first | with_reducible exact Below.refl _ _ | with_reducible refine bel_later _ ?_ | with_reducible refine bel_alloc ?_ _ | refine bel_set ?_ (by first | omega | (simp; done) | (simp; omega)) _ | with_reducible refine Below.drew ?_ | with_reducible refine bel_drewN ?_ _ | with_reducible assumption | assumption)))
  have g1 : decide (n < 0) = false := decide_eq_false h1
  by_cases h2 : (q : Int) < n
  · obtain rfl : k = m := by omega
    have g2 : decide ((q : Int) < n) = true := decide_eq_true h2
    have hsq : (safe : Int) + (q : Int) = (k : Int) := by omega
    have hk0 : (0 : Int) ≤ (k : Int) := by omega
    have hkc' : (k : Int) ≤ (c : Int) := by omega
    clear hm hzl hk hq HE hok hb
    cases A
    · go_enter Try.func36, Try.ntmps36
      go_wp2_with (
        at_builtin
        go_loud (
        refine wpList_append_sq (f := byw) _ rfl _ _ 22 rfl (fun _ => rfl) (w.heap.size + 1 + 1) 5 i0 _ _ Try.underlying22 hi hz0 rfl hz1 hz2 (by decide) _ [] rfl (own_sq_empty byw _ _ _ _ (by simp) (by simp)) w.heap.size _ (l.take k) c k HTK.out rfl (((HB.out.sq.below (B := w.heap.size) (by exact (by repeat (first | with_reducible exact Below.refl _ _ | with_reducible refine bel_later _ ?_ | with_reducible refine bel_alloc ?_ _ | refine bel_set ?_ (by first | omega | (simp; done) | (simp; omega)) _ | with_reducible refine Below.drew ?_ | with_reducible refine bel_drewN ?_ _ | with_reducible assumption | assumption)))).take k)) HB.out.nil (by simp; omega) (by simp) ?_
        intro A' c' w' hown hg hb
        obtain ⟨x1, rfl⟩ := later_is hb
        simp only [List.nil_append, HTK.out] at hown ⊢
        have HO := Lib.hid hown
        have hbw : Below w.heap.size w x1.val := Below.trans (by exact (by repeat (first | with_reducible exact Below.refl _ _ | with_reducible refine bel_later _ ?_ | with_reducible refine bel_alloc ?_ _ | refine bel_set ?_ (by first | omega | (simp; done) | (simp; omega)) _ | with_reducible refine Below.drew ?_ | with_reducible refine bel_drewN ?_ _ | with_reducible assumption | assumption))) (x1.bel.mono (by omega))
        clear hown hg hb
        have hz_x1 := x1.bel.size
        try simp at hz_x1
        have l_x1_0 : w.heap.size < x1.val.heap.size := by omega
        have m_x1_0 : w.heap.size < x1.val.heap.size + 1 := by omega
        have q_ := x1.bel.cell (p := ⟨w.heap.size, 0, none⟩) (by first | omega | (simp; done) | (simp; omega))
        generalize c_x1_0_0 : x1.val.cell? ⟨w.heap.size, 0, none⟩ = q at q_
        first | (have q2_ : q = some _ := q_; subst q2_) | (simp [go_sem] at q_; have q2_ : q = some _ := q_; subst q2_) | (simp [go_sem, *] at q_; have q2_ : q = some _ := q_; subst q2_)
        have q_ := x1.bel.frozen (p := ⟨w.heap.size, 0, none⟩) (by first | omega | (simp; done) | (simp; omega))
        generalize z_x1_0_0 : x1.val.frozen? ⟨w.heap.size, 0, none⟩ = q at q_
        first | (have q2_ : q = false := q_; subst q2_) | (simp [go_sem] at q_; have q2_ : q = false := q_; subst q2_) | (simp [go_sem, *] at q_; have q2_ : q = false := q_; subst q2_)
        have q_ := x1.bel.cell (p := ⟨w.heap.size, 1, none⟩) (by first | omega | (simp; done) | (simp; omega))
        generalize c_x1_0_1 : x1.val.cell? ⟨w.heap.size, 1, none⟩ = q at q_
        first | (have q2_ : q = some _ := q_; subst q2_) | (simp [go_sem] at q_; have q2_ : q = some _ := q_; subst q2_) | (simp [go_sem, *] at q_; have q2_ : q = some _ := q_; subst q2_)
        have q_ := x1.bel.frozen (p := ⟨w.heap.size, 1, none⟩) (by first | omega | (simp; done) | (simp; omega))
        generalize z_x1_0_1 : x1.val.frozen? ⟨w.heap.size, 1, none⟩ = q at q_
        first | (have q2_ : q = false := q_; subst q2_) | (simp [go_sem] at q_; have q2_ : q = false := q_; subst q2_) | (simp [go_sem, *] at q_; have q2_ : q = false := q_; subst q2_)
        have q_ := x1.bel.cell (p := ⟨w.heap.size, 2, none⟩) (by first | omega | (simp; done) | (simp; omega))
        generalize c_x1_0_2 : x1.val.cell? ⟨w.heap.size, 2, none⟩ = q at q_
        first | (have q2_ : q = some _ := q_; subst q2_) | (simp [go_sem] at q_; have q2_ : q = some _ := q_; subst q2_) | (simp [go_sem, *] at q_; have q2_ : q = some _ := q_; subst q2_)
        have q_ := x1.bel.frozen (p := ⟨w.heap.size, 2, none⟩) (by first | omega | (simp; done) | (simp; omega))
        generalize z_x1_0_2 : x1.val.frozen? ⟨w.heap.size, 2, none⟩ = q at q_
        first | (have q2_ : q = false := q_; subst q2_) | (simp [go_sem] at q_; have q2_ : q = false := q_; subst q2_) | (simp [go_sem, *] at q_; have q2_ : q = false := q_; subst q2_)
        have q_ := x1.bel.cell (p := ⟨w.heap.size, 3, none⟩) (by first | omega | (simp; done) | (simp; omega))
        generalize c_x1_0_3 : x1.val.cell? ⟨w.heap.size, 3, none⟩ = q at q_
        first | (have q2_ : q = some _ := q_; subst q2_) | (simp [go_sem] at q_; have q2_ : q = some _ := q_; subst q2_) | (simp [go_sem, *] at q_; have q2_ : q = some _ := q_; subst q2_)
        have q_ := x1.bel.frozen (p := ⟨w.heap.size, 3, none⟩) (by first | omega | (simp; done) | (simp; omega))
        generalize z_x1_0_3 : x1.val.frozen? ⟨w.heap.size, 3, none⟩ = q at q_
        first | (have q2_ : q = false := q_; subst q2_) | (simp [go_sem] at q_; have q2_ : q = false := q_; subst q2_) | (simp [go_sem, *] at q_; have q2_ : q = false := q_; subst q2_)
        have q_ := x1.bel.cell (p := ⟨w.heap.size, 4, none⟩) (by first | omega | (simp; done) | (simp; omega))
        generalize c_x1_0_4 : x1.val.cell? ⟨w.heap.size, 4, none⟩ = q at q_
        first | (have q2_ : q = some _ := q_; subst q2_) | (simp [go_sem] at q_; have q2_ : q = some _ := q_; subst q2_) | (simp [go_sem, *] at q_; have q2_ : q = some _ := q_; subst q2_)
        have q_ := x1.bel.frozen (p := ⟨w.heap.size, 4, none⟩) (by first | omega | (simp; done) | (simp; omega))
        generalize z_x1_0_4 : x1.val.frozen? ⟨w.heap.size, 4, none⟩ = q at q_
        first | (have q2_ : q = false := q_; subst q2_) | (simp [go_sem] at q_; have q2_ : q = false := q_; subst q2_) | (simp [go_sem, *] at q_; have q2_ : q = false := q_; subst q2_)
        have l_x1_1 : w.heap.size+1 < x1.val.heap.size := by omega
        have m_x1_1 : w.heap.size+1 < x1.val.heap.size + 1 := by omega
        have q_ := x1.bel.cell (p := ⟨w.heap.size+1, 0, none⟩) (by first | omega | (simp; done) | (simp; omega))
        generalize c_x1_1_0 : x1.val.cell? ⟨w.heap.size+1, 0, none⟩ = q at q_
        first | (have q2_ : q = some _ := q_; subst q2_) | (simp [go_sem] at q_; have q2_ : q = some _ := q_; subst q2_) | (simp [go_sem, *] at q_; have q2_ : q = some _ := q_; subst q2_)
        have q_ := x1.bel.frozen (p := ⟨w.heap.size+1, 0, none⟩) (by first | omega | (simp; done) | (simp; omega))
        generalize z_x1_1_0 : x1.val.frozen? ⟨w.heap.size+1, 0, none⟩ = q at q_
        first | (have q2_ : q = false := q_; subst q2_) | (simp [go_sem] at q_; have q2_ : q = false := q_; subst q2_) | (simp [go_sem, *] at q_; have q2_ : q = false := q_; subst q2_)
        have q_ := x1.bel.cell (p := ⟨w.heap.size+1, 1, none⟩) (by first | omega | (simp; done) | (simp; omega))
        generalize c_x1_1_1 : x1.val.cell? ⟨w.heap.size+1, 1, none⟩ = q at q_
        first | (have q2_ : q = some _ := q_; subst q2_) | (simp [go_sem] at q_; have q2_ : q = some _ := q_; subst q2_) | (simp [go_sem, *] at q_; have q2_ : q = some _ := q_; subst q2_)
        have q_ := x1.bel.frozen (p := ⟨w.heap.size+1, 1, none⟩) (by first | omega | (simp; done) | (simp; omega))
        generalize z_x1_1_1 : x1.val.frozen? ⟨w.heap.size+1, 1, none⟩ = q at q_
        first | (have q2_ : q = false := q_; subst q2_) | (simp [go_sem] at q_; have q2_ : q = false := q_; subst q2_) | (simp [go_sem, *] at q_; have q2_ : q = false := q_; subst q2_)
        have q_ := x1.bel.cell (p := ⟨w.heap.size+1, 2, none⟩) (by first | omega | (simp; done) | (simp; omega))
        generalize c_x1_1_2 : x1.val.cell? ⟨w.heap.size+1, 2, none⟩ = q at q_
        first | (have q2_ : q = some _ := q_; subst q2_) | (simp [go_sem] at q_; have q2_ : q = some _ := q_; subst q2_) | (simp [go_sem, *] at q_; have q2_ : q = some _ := q_; subst q2_)
        have q_ := x1.bel.frozen (p := ⟨w.heap.size+1, 2, none⟩) (by first | omega | (simp; done) | (simp; omega))
        generalize z_x1_1_2 : x1.val.frozen? ⟨w.heap.size+1, 2, none⟩ = q at q_
        first | (have q2_ : q = false := q_; subst q2_) | (simp [go_sem] at q_; have q2_ : q = false := q_; subst q2_) | (simp [go_sem, *] at q_; have q2_ : q = false := q_; subst q2_)
        have q_ := x1.bel.cell (p := ⟨w.heap.size+1, 3, none⟩) (by first | omega | (simp; done) | (simp; omega))
        generalize c_x1_1_3 : x1.val.cell? ⟨w.heap.size+1, 3, none⟩ = q at q_
        first | (have q2_ : q = some _ := q_; subst q2_) | (simp [go_sem] at q_; have q2_ : q = some _ := q_; subst q2_) | (simp [go_sem, *] at q_; have q2_ : q = some _ := q_; subst q2_)
        have q_ := x1.bel.frozen (p := ⟨w.heap.size+1, 3, none⟩) (by first | omega | (simp; done) | (simp; omega))
        generalize z_x1_1_3 : x1.val.frozen? ⟨w.heap.size+1, 3, none⟩ = q at q_
        first | (have q2_ : q = false := q_; subst q2_) | (simp [go_sem] at q_; have q2_ : q = false := q_; subst q2_) | (simp [go_sem, *] at q_; have q2_ : q = false := q_; subst q2_)
        have q_ := x1.bel.cell (p := ⟨w.heap.size+1, 4, none⟩) (by first | omega | (simp; done) | (simp; omega))
        generalize c_x1_1_4 : x1.val.cell? ⟨w.heap.size+1, 4, none⟩ = q at q_
        first | (have q2_ : q = some _ := q_; subst q2_) | (simp [go_sem] at q_; have q2_ : q = some _ := q_; subst q2_) | (simp [go_sem, *] at q_; have q2_ : q = some _ := q_; subst q2_)
        have q_ := x1.bel.frozen (p := ⟨w.heap.size+1, 4, none⟩) (by first | omega | (simp; done) | (simp; omega))
        generalize z_x1_1_4 : x1.val.frozen? ⟨w.heap.size+1, 4, none⟩ = q at q_
        first | (have q2_ : q = false := q_; subst q2_) | (simp [go_sem] at q_; have q2_ : q = false := q_; subst q2_) | (simp [go_sem, *] at q_; have q2_ : q = false := q_; subst q2_)
        skip))
      refine bodyPost_ret (v := .agg #[.int .i64 (room : Int), .int .i64 (k : Int), .int .i64 (-1), .slice A' k c', .bool false]) (by simp [results, Try.results36, go_sem, *]) rfl (FIN.out _ _ _ (w.heap.size + 1 + 1) (by repeat (first | with_reducible exact HO.out | refine own_set ?_ (by omega) | refine own_below ?_ (bel_alloc (Below.refl _ _) _))) (by omega) (by repeat (first | with_reducible exact Below.refl _ _ | with_reducible refine bel_later _ ?_ | with_reducible refine bel_alloc ?_ _ | refine bel_set ?_ (by first | omega | (simp; done) | (simp; omega)) _ | with_reducible refine Below.drew ?_ | with_reducible refine bel_drewN ?_ _ | with_reducible assumption | assumption)))
    · go_enter Try.func36, Try.ntmps36
      go_wp2_with (
        at_builtin
        go_loud (
        refine wpList_append_sq (f := byw) _ rfl _ _ 22 rfl (fun _ => rfl) (w.heap.size + 1 + 1) 5 i0 _ _ Try.underlying22 hi hz0 rfl hz1 hz2 (by decide) _ [] rfl (own_sq_empty byw _ _ _ _ (by simp) (by simp)) w.heap.size _ (l.take k) c k HTK.out rfl (((HB.out.sq.below (B := w.heap.size) (by exact (by repeat (first | with_reducible exact Below.refl _ _ | with_reducible refine bel_later _ ?_ | with_reducible refine bel_alloc ?_ _ | refine bel_set ?_ (by first | omega | (simp; done) | (simp; omega)) _ | with_reducible refine Below.drew ?_ | with_reducible refine bel_drewN ?_ _ | with_reducible assumption | assumption)))).take k)) HB.out.nil (by simp; omega) (by simp) ?_
        intro A' c' w' hown hg hb
        obtain ⟨x1, rfl⟩ := later_is hb
        simp only [List.nil_append, HTK.out] at hown ⊢
        have HO := Lib.hid hown
        have hbw : Below w.heap.size w x1.val := Below.trans (by exact (by repeat (first | with_reducible exact Below.refl _ _ | with_reducible refine bel_later _ ?_ | with_reducible refine bel_alloc ?_ _ | refine bel_set ?_ (by first | omega | (simp; done) | (simp; omega)) _ | with_reducible refine Below.drew ?_ | with_reducible refine bel_drewN ?_ _ | with_reducible assumption | assumption))) (x1.bel.mono (by omega))
        clear hown hg hb
        have hz_x1 := x1.bel.size
        try simp at hz_x1
        have l_x1_0 : w.heap.size < x1.val.heap.size := by omega
        have m_x1_0 : w.heap.size < x1.val.heap.size + 1 := by omega
        have q_ := x1.bel.cell (p := ⟨w.heap.size, 0, none⟩) (by first | omega | (simp; done) | (simp; omega))
        generalize c_x1_0_0 : x1.val.cell? ⟨w.heap.size, 0, none⟩ = q at q_
        first | (have q2_ : q = some _ := q_; subst q2_) | (simp [go_sem] at q_; have q2_ : q = some _ := q_; subst q2_) | (simp [go_sem, *] at q_; have q2_ : q = some _ := q_; subst q2_)
        have q_ := x1.bel.frozen (p := ⟨w.heap.size, 0, none⟩) (by first | omega | (simp; done) | (simp; omega))
        generalize z_x1_0_0 : x1.val.frozen? ⟨w.heap.size, 0, none⟩ = q at q_
        first | (have q2_ : q = false := q_; subst q2_) | (simp [go_sem] at q_; have q2_ : q = false := q_; subst q2_) | (simp [go_sem, *] at q_; have q2_ : q = false := q_; subst q2_)
        have q_ := x1.bel.cell (p := ⟨w.heap.size, 1, none⟩) (by first | omega | (simp; done) | (simp; omega))
        generalize c_x1_0_1 : x1.val.cell? ⟨w.heap.size, 1, none⟩ = q at q_
        first | (have q2_ : q = some _ := q_; subst q2_) | (simp [go_sem] at q_; have q2_ : q = some _ := q_; subst q2_) | (simp [go_sem, *] at q_; have q2_ : q = some _ := q_; subst q2_)
        have q_ := x1.bel.frozen (p := ⟨w.heap.size, 1, none⟩) (by first | omega | (simp; done) | (simp; omega))
        generalize z_x1_0_1 : x1.val.frozen? ⟨w.heap.size, 1, none⟩ = q at q_
        first | (have q2_ : q = false := q_; subst q2_) | (simp [go_sem] at q_; have q2_ : q = false := q_; subst q2_) | (simp [go_sem, *] at q_; have q2_ : q = false := q_; subst q2_)
        have q_ := x1.bel.cell (p := ⟨w.heap.size, 2, none⟩) (by first | omega | (simp; done) | (simp; omega))
        generalize c_x1_0_2 : x1.val.cell? ⟨w.heap.size, 2, none⟩ = q at q_
        first | (have q2_ : q = some _ := q_; subst q2_) | (simp [go_sem] at q_; have q2_ : q = some _ := q_; subst q2_) | (simp [go_sem, *] at q_; have q2_ : q = some _ := q_; subst q2_)
        have q_ := x1.bel.frozen (p := ⟨w.heap.size, 2, none⟩) (by first | omega | (simp; done) | (simp; omega))
        generalize z_x1_0_2 : x1.val.frozen? ⟨w.heap.size, 2, none⟩ = q at q_
        first | (have q2_ : q = false := q_; subst q2_) | (simp [go_sem] at q_; have q2_ : q = false := q_; subst q2_) | (simp [go_sem, *] at q_; have q2_ : q = false := q_; subst q2_)
        have q_ := x1.bel.cell (p := ⟨w.heap.size, 3, none⟩) (by first | omega | (simp; done) | (simp; omega))
        generalize c_x1_0_3 : x1.val.cell? ⟨w.heap.size, 3, none⟩ = q at q_
        first | (have q2_ : q = some _ := q_; subst q2_) | (simp [go_sem] at q_; have q2_ : q = some _ := q_; subst q2_) | (simp [go_sem, *] at q_; have q2_ : q = some _ := q_; subst q2_)
        have q_ := x1.bel.frozen (p := ⟨w.heap.size, 3, none⟩) (by first | omega | (simp; done) | (simp; omega))
        generalize z_x1_0_3 : x1.val.frozen? ⟨w.heap.size, 3, none⟩ = q at q_
        first | (have q2_ : q = false := q_; subst q2_) | (simp [go_sem] at q_; have q2_ : q = false := q_; subst q2_) | (simp [go_sem, *] at q_; have q2_ : q = false := q_; subst q2_)
        have q_ := x1.bel.cell (p := ⟨w.heap.size, 4, none⟩) (by first | omega | (simp; done) | (simp; omega))
        generalize c_x1_0_4 : x1.val.cell? ⟨w.heap.size, 4, none⟩ = q at q_
        first | (have q2_ : q = some _ := q_; subst q2_) | (simp [go_sem] at q_; have q2_ : q = some _ := q_; subst q2_) | (simp [go_sem, *] at q_; have q2_ : q = some _ := q_; subst q2_)
        have q_ := x1.bel.frozen (p := ⟨w.heap.size, 4, none⟩) (by first | omega | (simp; done) | (simp; omega))
        generalize z_x1_0_4 : x1.val.frozen? ⟨w.heap.size, 4, none⟩ = q at q_
        first | (have q2_ : q = false := q_; subst q2_) | (simp [go_sem] at q_; have q2_ : q = false := q_; subst q2_) | (simp [go_sem, *] at q_; have q2_ : q = false := q_; subst q2_)
        have l_x1_1 : w.heap.size+1 < x1.val.heap.size := by omega
        have m_x1_1 : w.heap.size+1 < x1.val.heap.size + 1 := by omega
        have q_ := x1.bel.cell (p := ⟨w.heap.size+1, 0, none⟩) (by first | omega | (simp; done) | (simp; omega))
        generalize c_x1_1_0 : x1.val.cell? ⟨w.heap.size+1, 0, none⟩ = q at q_
        first | (have q2_ : q = some _ := q_; subst q2_) | (simp [go_sem] at q_; have q2_ : q = some _ := q_; subst q2_) | (simp [go_sem, *] at q_; have q2_ : q = some _ := q_; subst q2_)
        have q_ := x1.bel.frozen (p := ⟨w.heap.size+1, 0, none⟩) (by first | omega | (simp; done) | (simp; omega))
        generalize z_x1_1_0 : x1.val.frozen? ⟨w.heap.size+1, 0, none⟩ = q at q_
        first | (have q2_ : q = false := q_; subst q2_) | (simp [go_sem] at q_; have q2_ : q = false := q_; subst q2_) | (simp [go_sem, *] at q_; have q2_ : q = false := q_; subst q2_)
        have q_ := x1.bel.cell (p := ⟨w.heap.size+1, 1, none⟩) (by first | omega | (simp; done) | (simp; omega))
        generalize c_x1_1_1 : x1.val.cell? ⟨w.heap.size+1, 1, none⟩ = q at q_
        first | (have q2_ : q = some _ := q_; subst q2_) | (simp [go_sem] at q_; have q2_ : q = some _ := q_; subst q2_) | (simp [go_sem, *] at q_; have q2_ : q = some _ := q_; subst q2_)
        have q_ := x1.bel.frozen (p := ⟨w.heap.size+1, 1, none⟩) (by first | omega | (simp; done) | (simp; omega))
        generalize z_x1_1_1 : x1.val.frozen? ⟨w.heap.size+1, 1, none⟩ = q at q_
        first | (have q2_ : q = false := q_; subst q2_) | (simp [go_sem] at q_; have q2_ : q = false := q_; subst q2_) | (simp [go_sem, *] at q_; have q2_ : q = false := q_; subst q2_)
        have q_ := x1.bel.cell (p := ⟨w.heap.size+1, 2, none⟩) (by first | omega | (simp; done) | (simp; omega))
        generalize c_x1_1_2 : x1.val.cell? ⟨w.heap.size+1, 2, none⟩ = q at q_
        first | (have q2_ : q = some _ := q_; subst q2_) | (simp [go_sem] at q_; have q2_ : q = some _ := q_; subst q2_) | (simp [go_sem, *] at q_; have q2_ : q = some _ := q_; subst q2_)
        have q_ := x1.bel.frozen (p := ⟨w.heap.size+1, 2, none⟩) (by first | omega | (simp; done) | (simp; omega))
        generalize z_x1_1_2 : x1.val.frozen? ⟨w.heap.size+1, 2, none⟩ = q at q_
        first | (have q2_ : q = false := q_; subst q2_) | (simp [go_sem] at q_; have q2_ : q = false := q_; subst q2_) | (simp [go_sem, *] at q_; have q2_ : q = false := q_; subst q2_)
        have q_ := x1.bel.cell (p := ⟨w.heap.size+1, 3, none⟩) (by first | omega | (simp; done) | (simp; omega))
        generalize c_x1_1_3 : x1.val.cell? ⟨w.heap.size+1, 3, none⟩ = q at q_
        first | (have q2_ : q = some _ := q_; subst q2_) | (simp [go_sem] at q_; have q2_ : q = some _ := q_; subst q2_) | (simp [go_sem, *] at q_; have q2_ : q = some _ := q_; subst q2_)
        have q_ := x1.bel.frozen (p := ⟨w.heap.size+1, 3, none⟩) (by first | omega | (simp; done) | (simp; omega))
        generalize z_x1_1_3 : x1.val.frozen? ⟨w.heap.size+1, 3, none⟩ = q at q_
        first | (have q2_ : q = false := q_; subst q2_) | (simp [go_sem] at q_; have q2_ : q = false := q_; subst q2_) | (simp [go_sem, *] at q_; have q2_ : q = false := q_; subst q2_)
        have q_ := x1.bel.cell (p := ⟨w.heap.size+1, 4, none⟩) (by first | omega | (simp; done) | (simp; omega))
        generalize c_x1_1_4 : x1.val.cell? ⟨w.heap.size+1, 4, none⟩ = q at q_
        first | (have q2_ : q = some _ := q_; subst q2_) | (simp [go_sem] at q_; have q2_ : q = some _ := q_; subst q2_) | (simp [go_sem, *] at q_; have q2_ : q = some _ := q_; subst q2_)
        have q_ := x1.bel.frozen (p := ⟨w.heap.size+1, 4, none⟩) (by first | omega | (simp; done) | (simp; omega))
        generalize z_x1_1_4 : x1.val.frozen? ⟨w.heap.size+1, 4, none⟩ = q at q_
        first | (have q2_ : q = false := q_; subst q2_) | (simp [go_sem] at q_; have q2_ : q = false := q_; subst q2_) | (simp [go_sem, *] at q_; have q2_ : q = false := q_; subst q2_)
        skip))
      refine bodyPost_ret (v := .agg #[.int .i64 (room : Int), .int .i64 (k : Int), .int .i64 (-1), .slice A' k c', .bool false]) (by simp [results, Try.results36, go_sem, *]) rfl (FIN.out _ _ _ (w.heap.size + 1 + 1) (by repeat (first | with_reducible exact HO.out | refine own_set ?_ (by omega) | refine own_below ?_ (bel_alloc (Below.refl _ _) _))) (by omega) (by repeat (first | with_reducible exact Below.refl _ _ | with_reducible refine bel_later _ ?_ | with_reducible refine bel_alloc ?_ _ | refine bel_set ?_ (by first | omega | (simp; done) | (simp; omega)) _ | with_reducible refine Below.drew ?_ | with_reducible refine bel_drewN ?_ _ | with_reducible assumption | assumption)))
  · obtain ⟨j, rfl⟩ : ∃ j : Nat, n = (j : Int) := ⟨n.toNat, by omega⟩
    have g2 : decide (q < j) = false := decide_eq_false (by omega)
    have hsq : (safe : Int) + (j : Int) = (k : Int) := by omega
    have hk0 : (0 : Int) ≤ (k : Int) := by omega
    have hkc' : (k : Int) ≤ (c : Int) := by omega
    clear hm hzl hk hq HE hok hb g1 h1 h2
    cases A
    · go_enter Try.func36, Try.ntmps36
      go_wp2_with (
        at_builtin
        go_loud (
        refine wpList_append_sq (f := byw) _ rfl _ _ 22 rfl (fun _ => rfl) (w.heap.size + 1 + 1) 5 i0 _ _ Try.underlying22 hi hz0 rfl hz1 hz2 (by decide) _ [] rfl (own_sq_empty byw _ _ _ _ (by simp) (by simp)) w.heap.size _ (l.take k) c k HTK.out rfl (((HB.out.sq.below (B := w.heap.size) (by exact (by repeat (first | with_reducible exact Below.refl _ _ | with_reducible refine bel_later _ ?_ | with_reducible refine bel_alloc ?_ _ | refine bel_set ?_ (by first | omega | (simp; done) | (simp; omega)) _ | with_reducible refine Below.drew ?_ | with_reducible refine bel_drewN ?_ _ | with_reducible assumption | assumption)))).take k)) HB.out.nil (by simp; omega) (by simp) ?_
        intro A' c' w' hown hg hb
        obtain ⟨x1, rfl⟩ := later_is hb
        simp only [List.nil_append, HTK.out] at hown ⊢
        have HO := Lib.hid hown
        have hbw : Below w.heap.size w x1.val := Below.trans (by exact (by repeat (first | with_reducible exact Below.refl _ _ | with_reducible refine bel_later _ ?_ | with_reducible refine bel_alloc ?_ _ | refine bel_set ?_ (by first | omega | (simp; done) | (simp; omega)) _ | with_reducible refine Below.drew ?_ | with_reducible refine bel_drewN ?_ _ | with_reducible assumption | assumption))) (x1.bel.mono (by omega))
        clear hown hg hb
        have hz_x1 := x1.bel.size
        try simp at hz_x1
        have l_x1_0 : w.heap.size < x1.val.heap.size := by omega
        have m_x1_0 : w.heap.size < x1.val.heap.size + 1 := by omega
        have q_ := x1.bel.cell (p := ⟨w.heap.size, 0, none⟩) (by first | omega | (simp; done) | (simp; omega))
        generalize c_x1_0_0 : x1.val.cell? ⟨w.heap.size, 0, none⟩ = q at q_
        first | (have q2_ : q = some _ := q_; subst q2_) | (simp [go_sem] at q_; have q2_ : q = some _ := q_; subst q2_) | (simp [go_sem, *] at q_; have q2_ : q = some _ := q_; subst q2_)
        have q_ := x1.bel.frozen (p := ⟨w.heap.size, 0, none⟩) (by first | omega | (simp; done) | (simp; omega))
        generalize z_x1_0_0 : x1.val.frozen? ⟨w.heap.size, 0, none⟩ = q at q_
        first | (have q2_ : q = false := q_; subst q2_) | (simp [go_sem] at q_; have q2_ : q = false := q_; subst q2_) | (simp [go_sem, *] at q_; have q2_ : q = false := q_; subst q2_)
        have q_ := x1.bel.cell (p := ⟨w.heap.size, 1, none⟩) (by first | omega | (simp; done) | (simp; omega))
        generalize c_x1_0_1 : x1.val.cell? ⟨w.heap.size, 1, none⟩ = q at q_
        first | (have q2_ : q = some _ := q_; subst q2_) | (simp [go_sem] at q_; have q2_ : q = some _ := q_; subst q2_) | (simp [go_sem, *] at q_; have q2_ : q = some _ := q_; subst q2_)
        have q_ := x1.bel.frozen (p := ⟨w.heap.size, 1, none⟩) (by first | omega | (simp; done) | (simp; omega))
        generalize z_x1_0_1 : x1.val.frozen? ⟨w.heap.size, 1, none⟩ = q at q_
        first | (have q2_ : q = false := q_; subst q2_) | (simp [go_sem] at q_; have q2_ : q = false := q_; subst q2_) | (simp [go_sem, *] at q_; have q2_ : q = false := q_; subst q2_)
        have q_ := x1.bel.cell (p := ⟨w.heap.size, 2, none⟩) (by first | omega | (simp; done) | (simp; omega))
        generalize c_x1_0_2 : x1.val.cell? ⟨w.heap.size, 2, none⟩ = q at q_
        first | (have q2_ : q = some _ := q_; subst q2_) | (simp [go_sem] at q_; have q2_ : q = some _ := q_; subst q2_) | (simp [go_sem, *] at q_; have q2_ : q = some _ := q_; subst q2_)
        have q_ := x1.bel.frozen (p := ⟨w.heap.size, 2, none⟩) (by first | omega | (simp; done) | (simp; omega))
        generalize z_x1_0_2 : x1.val.frozen? ⟨w.heap.size, 2, none⟩ = q at q_
        first | (have q2_ : q = false := q_; subst q2_) | (simp [go_sem] at q_; have q2_ : q = false := q_; subst q2_) | (simp [go_sem, *] at q_; have q2_ : q = false := q_; subst q2_)
        have q_ := x1.bel.cell (p := ⟨w.heap.size, 3, none⟩) (by first | omega | (simp; done) | (simp; omega))
        generalize c_x1_0_3 : x1.val.cell? ⟨w.heap.size, 3, none⟩ = q at q_
        first | (have q2_ : q = some _ := q_; subst q2_) | (simp [go_sem] at q_; have q2_ : q = some _ := q_; subst q2_) | (simp [go_sem, *] at q_; have q2_ : q = some _ := q_; subst q2_)
        have q_ := x1.bel.frozen (p := ⟨w.heap.size, 3, none⟩) (by first | omega | (simp; done) | (simp; omega))
        generalize z_x1_0_3 : x1.val.frozen? ⟨w.heap.size, 3, none⟩ = q at q_
        first | (have q2_ : q = false := q_; subst q2_) | (simp [go_sem] at q_; have q2_ : q = false := q_; subst q2_) | (simp [go_sem, *] at q_; have q2_ : q = false := q_; subst q2_)
        have q_ := x1.bel.cell (p := ⟨w.heap.size, 4, none⟩) (by first | omega | (simp; done) | (simp; omega))
        generalize c_x1_0_4 : x1.val.cell? ⟨w.heap.size, 4, none⟩ = q at q_
        first | (have q2_ : q = some _ := q_; subst q2_) | (simp [go_sem] at q_; have q2_ : q = some _ := q_; subst q2_) | (simp [go_sem, *] at q_; have q2_ : q = some _ := q_; subst q2_)
        have q_ := x1.bel.frozen (p := ⟨w.heap.size, 4, none⟩) (by first | omega | (simp; done) | (simp; omega))
        generalize z_x1_0_4 : x1.val.frozen? ⟨w.heap.size, 4, none⟩ = q at q_
        first | (have q2_ : q = false := q_; subst q2_) | (simp [go_sem] at q_; have q2_ : q = false := q_; subst q2_) | (simp [go_sem, *] at q_; have q2_ : q = false := q_; subst q2_)
        have l_x1_1 : w.heap.size+1 < x1.val.heap.size := by omega
        have m_x1_1 : w.heap.size+1 < x1.val.heap.size + 1 := by omega
        have q_ := x1.bel.cell (p := ⟨w.heap.size+1, 0, none⟩) (by first | omega | (simp; done) | (simp; omega))
        generalize c_x1_1_0 : x1.val.cell? ⟨w.heap.size+1, 0, none⟩ = q at q_
        first | (have q2_ : q = some _ := q_; subst q2_) | (simp [go_sem] at q_; have q2_ : q = some _ := q_; subst q2_) | (simp [go_sem, *] at q_; have q2_ : q = some _ := q_; subst q2_)
        have q_ := x1.bel.frozen (p := ⟨w.heap.size+1, 0, none⟩) (by first | omega | (simp; done) | (simp; omega))
        generalize z_x1_1_0 : x1.val.frozen? ⟨w.heap.size+1, 0, none⟩ = q at q_
        first | (have q2_ : q = false := q_; subst q2_) | (simp [go_sem] at q_; have q2_ : q = false := q_; subst q2_) | (simp [go_sem, *] at q_; have q2_ : q = false := q_; subst q2_)
        have q_ := x1.bel.cell (p := ⟨w.heap.size+1, 1, none⟩) (by first | omega | (simp; done) | (simp; omega))
        generalize c_x1_1_1 : x1.val.cell? ⟨w.heap.size+1, 1, none⟩ = q at q_
        first | (have q2_ : q = some _ := q_; subst q2_) | (simp [go_sem] at q_; have q2_ : q = some _ := q_; subst q2_) | (simp [go_sem, *] at q_; have q2_ : q = some _ := q_; subst q2_)
        have q_ := x1.bel.frozen (p := ⟨w.heap.size+1, 1, none⟩) (by first | omega | (simp; done) | (simp; omega))
        generalize z_x1_1_1 : x1.val.frozen? ⟨w.heap.size+1, 1, none⟩ = q at q_
        first | (have q2_ : q = false := q_; subst q2_) | (simp [go_sem] at q_; have q2_ : q = false := q_; subst q2_) | (simp [go_sem, *] at q_; have q2_ : q = false := q_; subst q2_)
        have q_ := x1.bel.cell (p := ⟨w.heap.size+1, 2, none⟩) (by first | omega | (simp; done) | (simp; omega))
        generalize c_x1_1_2 : x1.val.cell? ⟨w.heap.size+1, 2, none⟩ = q at q_
        first | (have q2_ : q = some _ := q_; subst q2_) | (simp [go_sem] at q_; have q2_ : q = some _ := q_; subst q2_) | (simp [go_sem, *] at q_; have q2_ : q = some _ := q_; subst q2_)
        have q_ := x1.bel.frozen (p := ⟨w.heap.size+1, 2, none⟩) (by first | omega | (simp; done) | (simp; omega))
        generalize z_x1_1_2 : x1.val.frozen? ⟨w.heap.size+1, 2, none⟩ = q at q_
        first | (have q2_ : q = false := q_; subst q2_) | (simp [go_sem] at q_; have q2_ : q = false := q_; subst q2_) | (simp [go_sem, *] at q_; have q2_ : q = false := q_; subst q2_)
        have q_ := x1.bel.cell (p := ⟨w.heap.size+1, 3, none⟩) (by first | omega | (simp; done) | (simp; omega))
        generalize c_x1_1_3 : x1.val.cell? ⟨w.heap.size+1, 3, none⟩ = q at q_
        first | (have q2_ : q = some _ := q_; subst q2_) | (simp [go_sem] at q_; have q2_ : q = some _ := q_; subst q2_) | (simp [go_sem, *] at q_; have q2_ : q = some _ := q_; subst q2_)
        have q_ := x1.bel.frozen (p := ⟨w.heap.size+1, 3, none⟩) (by first | omega | (simp; done) | (simp; omega))
        generalize z_x1_1_3 : x1.val.frozen? ⟨w.heap.size+1, 3, none⟩ = q at q_
        first | (have q2_ : q = false := q_; subst q2_) | (simp [go_sem] at q_; have q2_ : q = false := q_; subst q2_) | (simp [go_sem, *] at q_; have q2_ : q = false := q_; subst q2_)
        have q_ := x1.bel.cell (p := ⟨w.heap.size+1, 4, none⟩) (by first | omega | (simp; done) | (simp; omega))
        generalize c_x1_1_4 : x1.val.cell? ⟨w.heap.size+1, 4, none⟩ = q at q_
        first | (have q2_ : q = some _ := q_; subst q2_) | (simp [go_sem] at q_; have q2_ : q = some _ := q_; subst q2_) | (simp [go_sem, *] at q_; have q2_ : q = some _ := q_; subst q2_)
        have q_ := x1.bel.frozen (p := ⟨w.heap.size+1, 4, none⟩) (by first | omega | (simp; done) | (simp; omega))
        generalize z_x1_1_4 : x1.val.frozen? ⟨w.heap.size+1, 4, none⟩ = q at q_
        first | (have q2_ : q = false := q_; subst q2_) | (simp [go_sem] at q_; have q2_ : q = false := q_; subst q2_) | (simp [go_sem, *] at q_; have q2_ : q = false := q_; subst q2_)
        skip))
      refine bodyPost_ret (v := .agg #[.int .i64 (room : Int), .int .i64 (k : Int), .int .i64 (-1), .slice A' k c', .bool false]) (by simp [results, Try.results36, go_sem, *]) rfl (FIN.out _ _ _ (w.heap.size + 1 + 1) (by repeat (first | with_reducible exact HO.out | refine own_set ?_ (by omega) | refine own_below ?_ (bel_alloc (Below.refl _ _) _))) (by omega) (by repeat (first | with_reducible exact Below.refl _ _ | with_reducible refine bel_later _ ?_ | with_reducible refine bel_alloc ?_ _ | refine bel_set ?_ (by first | omega | (simp; done) | (simp; omega)) _ | with_reducible refine Below.drew ?_ | with_reducible refine bel_drewN ?_ _ | with_reducible assumption | assumption)))
    · go_enter Try.func36, Try.ntmps36
      go_wp2_with (
        at_builtin
        go_loud (
        refine wpList_append_sq (f := byw) _ rfl _ _ 22 rfl (fun _ => rfl) (w.heap.size + 1 + 1) 5 i0 _ _ Try.underlying22 hi hz0 rfl hz1 hz2 (by decide) _ [] rfl (own_sq_empty byw _ _ _ _ (by simp) (by simp)) w.heap.size _ (l.take k) c k HTK.out rfl (((HB.out.sq.below (B := w.heap.size) (by exact (by repeat (first | with_reducible exact Below.refl _ _ | with_reducible refine bel_later _ ?_ | with_reducible refine bel_alloc ?_ _ | refine bel_set ?_ (by first | omega | (simp; done) | (simp; omega)) _ | with_reducible refine Below.drew ?_ | with_reducible refine bel_drewN ?_ _ | with_reducible assumption | assumption)))).take k)) HB.out.nil (by simp; omega) (by simp) ?_
        intro A' c' w' hown hg hb
        obtain ⟨x1, rfl⟩ := later_is hb
        simp only [List.nil_append, HTK.out] at hown ⊢
        have HO := Lib.hid hown
        have hbw : Below w.heap.size w x1.val := Below.trans (by exact (by repeat (first | with_reducible exact Below.refl _ _ | with_reducible refine bel_later _ ?_ | with_reducible refine bel_alloc ?_ _ | refine bel_set ?_ (by first | omega | (simp; done) | (simp; omega)) _ | with_reducible refine Below.drew ?_ | with_reducible refine bel_drewN ?_ _ | with_reducible assumption | assumption))) (x1.bel.mono (by omega))
        clear hown hg hb
        have hz_x1 := x1.bel.size
        try simp at hz_x1
        have l_x1_0 : w.heap.size < x1.val.heap.size := by omega
        have m_x1_0 : w.heap.size < x1.val.heap.size + 1 := by omega
        have q_ := x1.bel.cell (p := ⟨w.heap.size, 0, none⟩) (by first | omega | (simp; done) | (simp; omega))
        generalize c_x1_0_0 : x1.val.cell? ⟨w.heap.size, 0, none⟩ = q at q_
        first | (have q2_ : q = some _ := q_; subst q2_) | (simp [go_sem] at q_; have q2_ : q = some _ := q_; subst q2_) | (simp [go_sem, *] at q_; have q2_ : q = some _ := q_; subst q2_)
        have q_ := x1.bel.frozen (p := ⟨w.heap.size, 0, none⟩) (by first | omega | (simp; done) | (simp; omega))
        generalize z_x1_0_0 : x1.val.frozen? ⟨w.heap.size, 0, none⟩ = q at q_
        first | (have q2_ : q = false := q_; subst q2_) | (simp [go_sem] at q_; have q2_ : q = false := q_; subst q2_) | (simp [go_sem, *] at q_; have q2_ : q = false := q_; subst q2_)
        have q_ := x1.bel.cell (p := ⟨w.heap.size, 1, none⟩) (by first | omega | (simp; done) | (simp; omega))
        generalize c_x1_0_1 : x1.val.cell? ⟨w.heap.size, 1, none⟩ = q at q_
        first | (have q2_ : q = some _ := q_; subst q2_) | (simp [go_sem] at q_; have q2_ : q = some _ := q_; subst q2_) | (simp [go_sem, *] at q_; have q2_ : q = some _ := q_; subst q2_)
        have q_ := x1.bel.frozen (p := ⟨w.heap.size, 1, none⟩) (by first | omega | (simp; done) | (simp; omega))
        generalize z_x1_0_1 : x1.val.frozen? ⟨w.heap.size, 1, none⟩ = q at q_
        first | (have q2_ : q = false := q_; subst q2_) | (simp [go_sem] at q_; have q2_ : q = false := q_; subst q2_) | (simp [go_sem, *] at q_; have q2_ : q = false := q_; subst q2_)
        have q_ := x1.bel.cell (p := ⟨w.heap.size, 2, none⟩) (by first | omega | (simp; done) | (simp; omega))
        generalize c_x1_0_2 : x1.val.cell? ⟨w.heap.size, 2, none⟩ = q at q_
        first | (have q2_ : q = some _ := q_; subst q2_) | (simp [go_sem] at q_; have q2_ : q = some _ := q_; subst q2_) | (simp [go_sem, *] at q_; have q2_ : q = some _ := q_; subst q2_)
        have q_ := x1.bel.frozen (p := ⟨w.heap.size, 2, none⟩) (by first | omega | (simp; done) | (simp; omega))
        generalize z_x1_0_2 : x1.val.frozen? ⟨w.heap.size, 2, none⟩ = q at q_
        first | (have q2_ : q = false := q_; subst q2_) | (simp [go_sem] at q_; have q2_ : q = false := q_; subst q2_) | (simp [go_sem, *] at q_; have q2_ : q = false := q_; subst q2_)
        have q_ := x1.bel.cell (p := ⟨w.heap.size, 3, none⟩) (by first | omega | (simp; done) | (simp; omega))
        generalize c_x1_0_3 : x1.val.cell? ⟨w.heap.size, 3, none⟩ = q at q_
        first | (have q2_ : q = some _ := q_; subst q2_) | (simp [go_sem] at q_; have q2_ : q = some _ := q_; subst q2_) | (simp [go_sem, *] at q_; have q2_ : q = some _ := q_; subst q2_)
        have q_ := x1.bel.frozen (p := ⟨w.heap.size, 3, none⟩) (by first | omega | (simp; done) | (simp; omega))
        generalize z_x1_0_3 : x1.val.frozen? ⟨w.heap.size, 3, none⟩ = q at q_
        first | (have q2_ : q = false := q_; subst q2_) | (simp [go_sem] at q_; have q2_ : q = false := q_; subst q2_) | (simp [go_sem, *] at q_; have q2_ : q = false := q_; subst q2_)
        have q_ := x1.bel.cell (p := ⟨w.heap.size, 4, none⟩) (by first | omega | (simp; done) | (simp; omega))
        generalize c_x1_0_4 : x1.val.cell? ⟨w.heap.size, 4, none⟩ = q at q_
        first | (have q2_ : q = some _ := q_; subst q2_) | (simp [go_sem] at q_; have q2_ : q = some _ := q_; subst q2_) | (simp [go_sem, *] at q_; have q2_ : q = some _ := q_; subst q2_)
        have q_ := x1.bel.frozen (p := ⟨w.heap.size, 4, none⟩) (by first | omega | (simp; done) | (simp; omega))
        generalize z_x1_0_4 : x1.val.frozen? ⟨w.heap.size, 4, none⟩ = q at q_
        first | (have q2_ : q = false := q_; subst q2_) | (simp [go_sem] at q_; have q2_ : q = false := q_; subst q2_) | (simp [go_sem, *] at q_; have q2_ : q = false := q_; subst q2_)
        have l_x1_1 : w.heap.size+1 < x1.val.heap.size := by omega
        have m_x1_1 : w.heap.size+1 < x1.val.heap.size + 1 := by omega
        have q_ := x1.bel.cell (p := ⟨w.heap.size+1, 0, none⟩) (by first | omega | (simp; done) | (simp; omega))
        generalize c_x1_1_0 : x1.val.cell? ⟨w.heap.size+1, 0, none⟩ = q at q_
        first | (have q2_ : q = some _ := q_; subst q2_) | (simp [go_sem] at q_; have q2_ : q = some _ := q_; subst q2_) | (simp [go_sem, *] at q_; have q2_ : q = some _ := q_; subst q2_)
        have q_ := x1.bel.frozen (p := ⟨w.heap.size+1, 0, none⟩) (by first | omega | (simp; done) | (simp; omega))
        generalize z_x1_1_0 : x1.val.frozen? ⟨w.heap.size+1, 0, none⟩ = q at q_
        first | (have q2_ : q = false := q_; subst q2_) | (simp [go_sem] at q_; have q2_ : q = false := q_; subst q2_) | (simp [go_sem, *] at q_; have q2_ : q = false := q_; subst q2_)
        have q_ := x1.bel.cell (p := ⟨w.heap.size+1, 1, none⟩) (by first | omega | (simp; done) | (simp; omega))
        generalize c_x1_1_1 : x1.val.cell? ⟨w.heap.size+1, 1, none⟩ = q at q_
        first | (have q2_ : q = some _ := q_; subst q2_) | (simp [go_sem] at q_; have q2_ : q = some _ := q_; subst q2_) | (simp [go_sem, *] at q_; have q2_ : q = some _ := q_; subst q2_)
        have q_ := x1.bel.frozen (p := ⟨w.heap.size+1, 1, none⟩) (by first | omega | (simp; done) | (simp; omega))
        generalize z_x1_1_1 : x1.val.frozen? ⟨w.heap.size+1, 1, none⟩ = q at q_
        first | (have q2_ : q = false := q_; subst q2_) | (simp [go_sem] at q_; have q2_ : q = false := q_; subst q2_) | (simp [go_sem, *] at q_; have q2_ : q = false := q_; subst q2_)
        have q_ := x1.bel.cell (p := ⟨w.heap.size+1, 2, none⟩) (by first | omega | (simp; done) | (simp; omega))
        generalize c_x1_1_2 : x1.val.cell? ⟨w.heap.size+1, 2, none⟩ = q at q_
        first | (have q2_ : q = some _ := q_; subst q2_) | (simp [go_sem] at q_; have q2_ : q = some _ := q_; subst q2_) | (simp [go_sem, *] at q_; have q2_ : q = some _ := q_; subst q2_)
        have q_ := x1.bel.frozen (p := ⟨w.heap.size+1, 2, none⟩) (by first | omega | (simp; done) | (simp; omega))
        generalize z_x1_1_2 : x1.val.frozen? ⟨w.heap.size+1, 2, none⟩ = q at q_
        first | (have q2_ : q = false := q_; subst q2_) | (simp [go_sem] at q_; have q2_ : q = false := q_; subst q2_) | (simp [go_sem, *] at q_; have q2_ : q = false := q_; subst q2_)
        have q_ := x1.bel.cell (p := ⟨w.heap.size+1, 3, none⟩) (by first | omega | (simp; done) | (simp; omega))
        generalize c_x1_1_3 : x1.val.cell? ⟨w.heap.size+1, 3, none⟩ = q at q_
        first | (have q2_ : q = some _ := q_; subst q2_) | (simp [go_sem] at q_; have q2_ : q = some _ := q_; subst q2_) | (simp [go_sem, *] at q_; have q2_ : q = some _ := q_; subst q2_)
        have q_ := x1.bel.frozen (p := ⟨w.heap.size+1, 3, none⟩) (by first | omega | (simp; done) | (simp; omega))
        generalize z_x1_1_3 : x1.val.frozen? ⟨w.heap.size+1, 3, none⟩ = q at q_
        first | (have q2_ : q = false := q_; subst q2_) | (simp [go_sem] at q_; have q2_ : q = false := q_; subst q2_) | (simp [go_sem, *] at q_; have q2_ : q = false := q_; subst q2_)
        have q_ := x1.bel.cell (p := ⟨w.heap.size+1, 4, none⟩) (by first | omega | (simp; done) | (simp; omega))
        generalize c_x1_1_4 : x1.val.cell? ⟨w.heap.size+1, 4, none⟩ = q at q_
        first | (have q2_ : q = some _ := q_; subst q2_) | (simp [go_sem] at q_; have q2_ : q = some _ := q_; subst q2_) | (simp [go_sem, *] at q_; have q2_ : q = some _ := q_; subst q2_)
        have q_ := x1.bel.frozen (p := ⟨w.heap.size+1, 4, none⟩) (by first | omega | (simp; done) | (simp; omega))
        generalize z_x1_1_4 : x1.val.frozen? ⟨w.heap.size+1, 4, none⟩ = q at q_
        first | (have q2_ : q = false := q_; subst q2_) | (simp [go_sem] at q_; have q2_ : q = false := q_; subst q2_) | (simp [go_sem, *] at q_; have q2_ : q = false := q_; subst q2_)
        skip))
      refine bodyPost_ret (v := .agg #[.int .i64 (room : Int), .int .i64 (k : Int), .int .i64 (-1), .slice A' k c', .bool false]) (by simp [results, Try.results36, go_sem, *]) rfl (FIN.out _ _ _ (w.heap.size + 1 + 1) (by repeat (first | with_reducible exact HO.out | refine own_set ?_ (by omega) | refine own_below ?_ (bel_alloc (Below.refl _ _) _))) (by omega) (by repeat (first | with_reducible exact Below.refl _ _ | with_reducible refine bel_later _ ?_ | with_reducible refine bel_alloc ?_ _ | refine bel_set ?_ (by first | omega | (simp; done) | (simp; omega)) _ | with_reducible refine Below.drew ?_ | with_reducible refine bel_drewN ?_ _ | with_reducible assumption | assumption)))
end Go.Proofs.Ytpjdgnoekplldaa
