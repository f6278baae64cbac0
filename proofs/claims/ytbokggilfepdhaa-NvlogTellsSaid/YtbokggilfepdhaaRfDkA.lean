/- The reference's disk (saucierref09), by value: New, spark, Sync, Sparks. The reference's disk (saucierref09), by value: Crash, Cut. The reference's disk (saucierref09), by value: Cut. The reference's disk (saucierref09), by value: Append. -/
import Derived.Test.YtbokggilfepdhaaDisk8
import Derived.Test.YtbokggilfepdhaaVarB
namespace Go.Proofs.Ytbokggilfepdhaa
open Go.RowKit
set_option linter.unusedVariables false
attribute [local go_sem] Later.cell Later.frozen setCell_twice
def lf : Option Nat → Int
  | none => -1
  | some k => (k : Int)
abbrev Dk.R (A : Option Addr) (c : Nat) (D : Dk) : Value := .agg #[.int .i64 (D.room : Int), .int .i64 (D.safe : Int), .int .i64 (lf D.left), .slice A D.l.length c, .bool D.off]
/-- the bytes of a disk by value -/
structure Rb (w : World) (A : Option Addr) (c : Nat) (l : List Nat) : Prop where
  sq : Sq byw w w.heap.size A l
  nil : A = none → c = 0
  le : l.length ≤ c
  cap : c ≤ 9223372036854775807
  lt : ∀ p, A = some p → p.block < w.heap.size
section
variable {w w' : World} {A : Option Addr} {c : Nat} {l : List Nat}
theorem Rb.to (h : Rb w A c l) (k : Below w.heap.size w w') : Rb w' A c l := ⟨(h.sq.below k).more k.size, h.nil, h.le, h.cap, fun p hp => Nat.lt_of_lt_of_le (h.lt p hp) k.size⟩
theorem Rb.of_own {base e : Nat} (h : w.ownsRow base e 1 (.slice A l.length c) l.length (l.map byw)) : Rb w A c l := ⟨Sq.of_own h, (own_nil_c h).1, (own_nil_c h).2, own_cap h, fun p hp => (own_at h p hp).2.1⟩
theorem Rb.nothing (w : World) : Rb w .none 0 [] := ⟨Sq.nil, fun _ => rfl, Nat.le_refl _, by decide, fun p hp => by cases hp⟩
end
def RdP (w : World) (A : Option Addr) (r : Dk × Int) (e : Ending) (w' : World) : Prop := ∃ A' c', e = .returned (.tuple #[r.1.R A' c', .int .i64 r.2]) ∧ Rb w' A' c' r.1.l ∧ Below w.heap.size w w' ∧ (A' = A ∨ ∀ p, A' = some p → w.heap.size ≤ p.block)
theorem RdP.of {w w' : World} {r : Dk × Int} {e : Ending} {A : Option Addr} {c : Nat} {l : List Nat} (hb : Rb w A c l) (hl : r.1.l = l) (he : e = .returned (.tuple #[r.1.R A c, .int .i64 r.2])) (k : Below w.heap.size w w') : RdP w A r e w' := ⟨A, c, he, by rw [hl]; exact hb.to k, k, .inl rfl⟩
theorem RdP.own {w w' : World} {r : Dk × Int} {e : Ending} {A A' : Option Addr} {c' n base : Nat} (he : e = .returned (.tuple #[r.1.R A' c', .int .i64 r.2])) (hn : r.1.l.length = n) (ho : w'.ownsRow base 5 1 (.slice A' n c') n (r.1.l.map byw)) (hB : w.heap.size ≤ base) (k : Below w.heap.size w w') : RdP w A r e w' :=
  ⟨A', c', he, .of_own (base := base) (e := 5) (by rw [hn]; exact ho), k, .inr fun p hp => Nat.le_trans hB (own_at ho p hp).1⟩
theorem rnew_any (r : Nat) (w : World) : Calls Try.prog 29 #[.int .i64 (r : Int)] w fun e w' => e = .returned ((Dk.new r).R none 0) ∧ Below w.heap.size w w' := by
  go_enter Try.func29, Try.ntmps29
  go_wp2
  refine bodyPost_ret (v := .agg #[.int .i64 (r : Int), .int .i64 0, .int .i64 (-1), .slice none 0 0, .bool false]) (by simp [results, Try.results29, go_sem, *]) rfl ⟨rfl, (by repeat (first | with_reducible exact Below.refl _ _ | with_reducible refine bel_later _ ?_ | with_reducible refine bel_alloc ?_ _ | refine bel_set ?_ (by first | omega | (simp; done) | (simp; omega)) _ | with_reducible refine Below.drew ?_ | with_reducible refine bel_drewN ?_ _ | with_reducible assumption | assumption))⟩
set_option maxHeartbeats 400000 in
theorem rspark_any (D D1 : Dk) (b : Bool) (A : Option Addr) (c : Nat) (w : World) (hl : ∀ k, D.left = some k → k ≤ 9223372036854775807) (hd : D.sparked = (D1, b)) :
    Calls Try.prog 51 #[D.R A c] w fun e w' => e = .returned (.tuple #[D1.R A c, .bool b]) ∧ Below w.heap.size w w' := by
  obtain ⟨room, l, safe, left, off⟩ := D
  obtain ⟨n, hn⟩ : ∃ n, l.length = n := ⟨_, rfl⟩
  cases left with
  | none =>
    obtain ⟨h1, h2⟩ := Prod.mk.inj hd
    subst h1 h2
    simp only [Dk.R, lf, hn]
    clear hd hl hn
    go_enter Try.func51, Try.ntmps51
    go_wp2
    refine bodyPost_ret (v := .tuple #[.agg #[.int .i64 (room : Int), .int .i64 (safe : Int), .int .i64 (-1), .slice A n c, .bool off], .bool true]) (by simp [results, Try.results51, go_sem, *]) rfl ⟨rfl, (by repeat (first | with_reducible exact Below.refl _ _ | with_reducible refine bel_later _ ?_ | with_reducible refine bel_alloc ?_ _ | refine bel_set ?_ (by first | omega | (simp; done) | (simp; omega)) _ | with_reducible refine Below.drew ?_ | with_reducible refine bel_drewN ?_ _ | with_reducible assumption | assumption))⟩
  | some k =>
    have hk := hl k rfl
    cases k with
    | zero =>
      obtain ⟨h1, h2⟩ := Prod.mk.inj hd
      subst h1 h2
      simp only [Dk.R, lf, hn]
      clear hd hl hn hk
      go_enter Try.func51, Try.ntmps51
      go_wp2
      refine bodyPost_ret (v := .tuple #[.agg #[.int .i64 (room : Int), .int .i64 (safe : Int), .int .i64 0, .slice A n c, .bool true], .bool false]) (by simp [results, Try.results51, go_sem, *]) rfl ⟨rfl, (by repeat (first | with_reducible exact Below.refl _ _ | with_reducible refine bel_later _ ?_ | with_reducible refine bel_alloc ?_ _ | refine bel_set ?_ (by first | omega | (simp; done) | (simp; omega)) _ | with_reducible refine Below.drew ?_ | with_reducible refine bel_drewN ?_ _ | with_reducible assumption | assumption))⟩
    | succ k =>
      obtain ⟨h1, h2⟩ := Prod.mk.inj hd
      subst h1 h2
      simp only [Dk.R, lf, hn]
      clear hd hl hn
      have g0 : (((k + 1 : Nat) : Int) == 0) = false := beq_eq_false_iff_ne.2 (by omega)
      have g1 : decide (0 < ((k + 1 : Nat) : Int)) = true := decide_eq_true (by omega)
      have hkb : ((k + 1 : Nat) : Int) ≤ 9223372036854775807 := by omega
      obtain ⟨z, hz⟩ : ∃ z : Int, z = ((k + 1 : Nat) : Int) := ⟨_, rfl⟩
      have hz2 : z - 1 = (k : Int) := by omega
      have hz0 : 0 ≤ z := by omega
      rw [← hz] at g0 g1 hkb ⊢
      rw [← hz2]
      clear hz hz2
      go_enter Try.func51, Try.ntmps51
      go_wp2
      refine bodyPost_ret (v := .tuple #[.agg #[.int .i64 (room : Int), .int .i64 (safe : Int), .int .i64 (z - 1), .slice A n c, .bool off], .bool true]) (by simp [results, Try.results51, go_sem, *]) rfl ⟨rfl, (by repeat (first | with_reducible exact Below.refl _ _ | with_reducible refine bel_later _ ?_ | with_reducible refine bel_alloc ?_ _ | refine bel_set ?_ (by first | omega | (simp; done) | (simp; omega)) _ | with_reducible refine Below.drew ?_ | with_reducible refine bel_drewN ?_ _ | with_reducible assumption | assumption))⟩
set_option maxHeartbeats 400000 in
theorem rsync_any (D : Dk) (A : Option Addr) (c : Nat) (w : World) (hok : D.Ok) (hb : Rb w A c D.l) :
    Calls Try.prog 53 #[D.R A c] w (RdP w A D.sync) := by
  have HB := Lib.hid hb
  have hcap := Nat.le_trans hb.le hb.cap
  clear hb
  obtain ⟨D1, b, hd⟩ : ∃ D1 b, D.sparked = (D1, b) := ⟨_, _, rfl⟩
  have hll := Dk.sparked_l D
  rw [hd] at hll
  have ks := Lib.hid (fun w => rspark_any D D1 b A c w hok.left hd)
  cases ho : D.off
  · have hs : D.sync = if b = true then ({ D1 with safe := D1.l.length }, 0) else (D1, 6) := by unfold Dk.sync; rw [if_neg (by rw [ho]; decide), hd]
    rw [hs]
    rw [← hll.1] at HB
    have hl1 : D.l.length = D1.l.length := by rw [hll.1]
    obtain ⟨room, l, safe, left, off⟩ := D
    obtain ⟨room1, l1, safe1, left1, off1⟩ := D1
    simp only [Dk.R] at *
    obtain ⟨n, hn⟩ : ∃ n, l1.length = n := ⟨_, rfl⟩
    rw [hl1, hn] at hcap ⊢
    rw [hl1, hn] at ks
    subst ho
    generalize lf left = zl at *
    obtain ⟨zl1, hzl1⟩ : ∃ z, lf left1 = z := ⟨_, rfl⟩
    rw [hzl1] at ks
    have HN := Lib.hid hn
    have HZ := Lib.hid hzl1
    clear hd hll hl1 hs hn hzl1 hok
    cases b
    · rw [if_neg (by decide)]
      go_enter Try.func53, Try.ntmps53
      go_wp2_with fail
      refine (ks.out _).mono ?_
      rintro e_x1 w_x1 ⟨rfl, hb_x1⟩
      obtain ⟨x1, rfl⟩ := later_is hb_x1
      clear hb_x1
      have hz_x1 := x1.bel.size
      try simp at hz_x1
      have l_x1_0 : w.heap.size < x1.val.heap.size := by omega
      have m_x1_0 : w.heap.size < x1.val.heap.size + 1 := by omega
      have q_ := x1.bel.cell (p := ⟨w.heap.size, 0, none⟩) (by first | omega | (simp; done) | (simp; omega))
      generalize c_x1_0_0 : x1.val.cell? ⟨w.heap.size, 0, none⟩ = q at q_
      first | (have q2_ : q = some _ := q_; subst q2_) | (simp [go_sem] at q_; have q2_ : q = some _ := q_; subst q2_) | (simp [go_sem, *] at q_; have q2_ : q = some _ := q_; subst q2_)
      have q_ := x1.bel.frozen (p := ⟨w.heap.size, 0, none⟩) (by first | omega | (simp; done) | (simp; omega))
      generalize z_x1_0_0 : x1.val.frozen? ⟨w.heap.size, 0, none⟩ = q at q_
      first | (have q2_ : q = false := q_; subst q2_) | (simp [go_sem] at q_; have q2_ : q = false := q_; subst q2_) | (simp [go_sem, *] at q_; have q2_ : q = false := q_; subst q2_)
      have q_ := x1.bel.cell (p := ⟨w.heap.size, 1, none⟩) (by first | omega | (simp; done) | (simp; omega))
      generalize c_x1_0_1 : x1.val.cell? ⟨w.heap.size, 1, none⟩ = q at q_
      first | (have q2_ : q = some _ := q_; subst q2_) | (simp [go_sem] at q_; have q2_ : q = some _ := q_; subst q2_) | (simp [go_sem, *] at q_; have q2_ : q = some _ := q_; subst q2_)
      have q_ := x1.bel.frozen (p := ⟨w.heap.size, 1, none⟩) (by first | omega | (simp; done) | (simp; omega))
      generalize z_x1_0_1 : x1.val.frozen? ⟨w.heap.size, 1, none⟩ = q at q_
      first | (have q2_ : q = false := q_; subst q2_) | (simp [go_sem] at q_; have q2_ : q = false := q_; subst q2_) | (simp [go_sem, *] at q_; have q2_ : q = false := q_; subst q2_)
      have q_ := x1.bel.cell (p := ⟨w.heap.size, 2, none⟩) (by first | omega | (simp; done) | (simp; omega))
      generalize c_x1_0_2 : x1.val.cell? ⟨w.heap.size, 2, none⟩ = q at q_
      first | (have q2_ : q = some _ := q_; subst q2_) | (simp [go_sem] at q_; have q2_ : q = some _ := q_; subst q2_) | (simp [go_sem, *] at q_; have q2_ : q = some _ := q_; subst q2_)
      have q_ := x1.bel.frozen (p := ⟨w.heap.size, 2, none⟩) (by first | omega | (simp; done) | (simp; omega))
      generalize z_x1_0_2 : x1.val.frozen? ⟨w.heap.size, 2, none⟩ = q at q_
      first | (have q2_ : q = false := q_; subst q2_) | (simp [go_sem] at q_; have q2_ : q = false := q_; subst q2_) | (simp [go_sem, *] at q_; have q2_ : q = false := q_; subst q2_)
      have q_ := x1.bel.cell (p := ⟨w.heap.size, 3, none⟩) (by first | omega | (simp; done) | (simp; omega))
      generalize c_x1_0_3 : x1.val.cell? ⟨w.heap.size, 3, none⟩ = q at q_
      first | (have q2_ : q = some _ := q_; subst q2_) | (simp [go_sem] at q_; have q2_ : q = some _ := q_; subst q2_) | (simp [go_sem, *] at q_; have q2_ : q = some _ := q_; subst q2_)
      have q_ := x1.bel.frozen (p := ⟨w.heap.size, 3, none⟩) (by first | omega | (simp; done) | (simp; omega))
      generalize z_x1_0_3 : x1.val.frozen? ⟨w.heap.size, 3, none⟩ = q at q_
      first | (have q2_ : q = false := q_; subst q2_) | (simp [go_sem] at q_; have q2_ : q = false := q_; subst q2_) | (simp [go_sem, *] at q_; have q2_ : q = false := q_; subst q2_)
      have q_ := x1.bel.cell (p := ⟨w.heap.size, 4, none⟩) (by first | omega | (simp; done) | (simp; omega))
      generalize c_x1_0_4 : x1.val.cell? ⟨w.heap.size, 4, none⟩ = q at q_
      first | (have q2_ : q = some _ := q_; subst q2_) | (simp [go_sem] at q_; have q2_ : q = some _ := q_; subst q2_) | (simp [go_sem, *] at q_; have q2_ : q = some _ := q_; subst q2_)
      have q_ := x1.bel.frozen (p := ⟨w.heap.size, 4, none⟩) (by first | omega | (simp; done) | (simp; omega))
      generalize z_x1_0_4 : x1.val.frozen? ⟨w.heap.size, 4, none⟩ = q at q_
      first | (have q2_ : q = false := q_; subst q2_) | (simp [go_sem] at q_; have q2_ : q = false := q_; subst q2_) | (simp [go_sem, *] at q_; have q2_ : q = false := q_; subst q2_)
      have l_x1_1 : w.heap.size+1 < x1.val.heap.size := by omega
      have m_x1_1 : w.heap.size+1 < x1.val.heap.size + 1 := by omega
      have q_ := x1.bel.cell (p := ⟨w.heap.size+1, 0, none⟩) (by first | omega | (simp; done) | (simp; omega))
      generalize c_x1_1_0 : x1.val.cell? ⟨w.heap.size+1, 0, none⟩ = q at q_
      first | (have q2_ : q = some _ := q_; subst q2_) | (simp [go_sem] at q_; have q2_ : q = some _ := q_; subst q2_) | (simp [go_sem, *] at q_; have q2_ : q = some _ := q_; subst q2_)
      have q_ := x1.bel.frozen (p := ⟨w.heap.size+1, 0, none⟩) (by first | omega | (simp; done) | (simp; omega))
      generalize z_x1_1_0 : x1.val.frozen? ⟨w.heap.size+1, 0, none⟩ = q at q_
      first | (have q2_ : q = false := q_; subst q2_) | (simp [go_sem] at q_; have q2_ : q = false := q_; subst q2_) | (simp [go_sem, *] at q_; have q2_ : q = false := q_; subst q2_)
      have q_ := x1.bel.cell (p := ⟨w.heap.size+1, 1, none⟩) (by first | omega | (simp; done) | (simp; omega))
      generalize c_x1_1_1 : x1.val.cell? ⟨w.heap.size+1, 1, none⟩ = q at q_
      first | (have q2_ : q = some _ := q_; subst q2_) | (simp [go_sem] at q_; have q2_ : q = some _ := q_; subst q2_) | (simp [go_sem, *] at q_; have q2_ : q = some _ := q_; subst q2_)
      have q_ := x1.bel.frozen (p := ⟨w.heap.size+1, 1, none⟩) (by first | omega | (simp; done) | (simp; omega))
      generalize z_x1_1_1 : x1.val.frozen? ⟨w.heap.size+1, 1, none⟩ = q at q_
      first | (have q2_ : q = false := q_; subst q2_) | (simp [go_sem] at q_; have q2_ : q = false := q_; subst q2_) | (simp [go_sem, *] at q_; have q2_ : q = false := q_; subst q2_)
      have q_ := x1.bel.cell (p := ⟨w.heap.size+1, 2, none⟩) (by first | omega | (simp; done) | (simp; omega))
      generalize c_x1_1_2 : x1.val.cell? ⟨w.heap.size+1, 2, none⟩ = q at q_
      first | (have q2_ : q = some _ := q_; subst q2_) | (simp [go_sem] at q_; have q2_ : q = some _ := q_; subst q2_) | (simp [go_sem, *] at q_; have q2_ : q = some _ := q_; subst q2_)
      have q_ := x1.bel.frozen (p := ⟨w.heap.size+1, 2, none⟩) (by first | omega | (simp; done) | (simp; omega))
      generalize z_x1_1_2 : x1.val.frozen? ⟨w.heap.size+1, 2, none⟩ = q at q_
      first | (have q2_ : q = false := q_; subst q2_) | (simp [go_sem] at q_; have q2_ : q = false := q_; subst q2_) | (simp [go_sem, *] at q_; have q2_ : q = false := q_; subst q2_)
      have q_ := x1.bel.cell (p := ⟨w.heap.size+1, 3, none⟩) (by first | omega | (simp; done) | (simp; omega))
      generalize c_x1_1_3 : x1.val.cell? ⟨w.heap.size+1, 3, none⟩ = q at q_
      first | (have q2_ : q = some _ := q_; subst q2_) | (simp [go_sem] at q_; have q2_ : q = some _ := q_; subst q2_) | (simp [go_sem, *] at q_; have q2_ : q = some _ := q_; subst q2_)
      have q_ := x1.bel.frozen (p := ⟨w.heap.size+1, 3, none⟩) (by first | omega | (simp; done) | (simp; omega))
      generalize z_x1_1_3 : x1.val.frozen? ⟨w.heap.size+1, 3, none⟩ = q at q_
      first | (have q2_ : q = false := q_; subst q2_) | (simp [go_sem] at q_; have q2_ : q = false := q_; subst q2_) | (simp [go_sem, *] at q_; have q2_ : q = false := q_; subst q2_)
      have q_ := x1.bel.cell (p := ⟨w.heap.size+1, 4, none⟩) (by first | omega | (simp; done) | (simp; omega))
      generalize c_x1_1_4 : x1.val.cell? ⟨w.heap.size+1, 4, none⟩ = q at q_
      first | (have q2_ : q = some _ := q_; subst q2_) | (simp [go_sem] at q_; have q2_ : q = some _ := q_; subst q2_) | (simp [go_sem, *] at q_; have q2_ : q = some _ := q_; subst q2_)
      have q_ := x1.bel.frozen (p := ⟨w.heap.size+1, 4, none⟩) (by first | omega | (simp; done) | (simp; omega))
      generalize z_x1_1_4 : x1.val.frozen? ⟨w.heap.size+1, 4, none⟩ = q at q_
      first | (have q2_ : q = false := q_; subst q2_) | (simp [go_sem] at q_; have q2_ : q = false := q_; subst q2_) | (simp [go_sem, *] at q_; have q2_ : q = false := q_; subst q2_)
      go_wp2
      refine bodyPost_ret (v := .tuple #[.agg #[.int .i64 (room1 : Int), .int .i64 (safe1 : Int), .int .i64 zl1, .slice A n c, .bool off1], .int .i64 6]) (by simp [results, Try.results53, go_sem, *]) rfl (RdP.of HB.out rfl (by simp [Dk.R, HN.out, HZ.out]) (by repeat (first | with_reducible exact Below.refl _ _ | with_reducible refine bel_later _ ?_ | with_reducible refine bel_alloc ?_ _ | refine bel_set ?_ (by first | omega | (simp; done) | (simp; omega)) _ | with_reducible refine Below.drew ?_ | with_reducible refine bel_drewN ?_ _ | with_reducible assumption | assumption)))
    · rw [if_pos rfl]
      go_enter Try.func53, Try.ntmps53
      go_wp2_with fail
      refine (ks.out _).mono ?_
      rintro e_x1 w_x1 ⟨rfl, hb_x1⟩
      obtain ⟨x1, rfl⟩ := later_is hb_x1
      clear hb_x1
      have hz_x1 := x1.bel.size
      try simp at hz_x1
      have l_x1_0 : w.heap.size < x1.val.heap.size := by omega
      have m_x1_0 : w.heap.size < x1.val.heap.size + 1 := by omega
      have q_ := x1.bel.cell (p := ⟨w.heap.size, 0, none⟩) (by first | omega | (simp; done) | (simp; omega))
      generalize c_x1_0_0 : x1.val.cell? ⟨w.heap.size, 0, none⟩ = q at q_
      first | (have q2_ : q = some _ := q_; subst q2_) | (simp [go_sem] at q_; have q2_ : q = some _ := q_; subst q2_) | (simp [go_sem, *] at q_; have q2_ : q = some _ := q_; subst q2_)
      have q_ := x1.bel.frozen (p := ⟨w.heap.size, 0, none⟩) (by first | omega | (simp; done) | (simp; omega))
      generalize z_x1_0_0 : x1.val.frozen? ⟨w.heap.size, 0, none⟩ = q at q_
      first | (have q2_ : q = false := q_; subst q2_) | (simp [go_sem] at q_; have q2_ : q = false := q_; subst q2_) | (simp [go_sem, *] at q_; have q2_ : q = false := q_; subst q2_)
      have q_ := x1.bel.cell (p := ⟨w.heap.size, 1, none⟩) (by first | omega | (simp; done) | (simp; omega))
      generalize c_x1_0_1 : x1.val.cell? ⟨w.heap.size, 1, none⟩ = q at q_
      first | (have q2_ : q = some _ := q_; subst q2_) | (simp [go_sem] at q_; have q2_ : q = some _ := q_; subst q2_) | (simp [go_sem, *] at q_; have q2_ : q = some _ := q_; subst q2_)
      have q_ := x1.bel.frozen (p := ⟨w.heap.size, 1, none⟩) (by first | omega | (simp; done) | (simp; omega))
      generalize z_x1_0_1 : x1.val.frozen? ⟨w.heap.size, 1, none⟩ = q at q_
      first | (have q2_ : q = false := q_; subst q2_) | (simp [go_sem] at q_; have q2_ : q = false := q_; subst q2_) | (simp [go_sem, *] at q_; have q2_ : q = false := q_; subst q2_)
      have q_ := x1.bel.cell (p := ⟨w.heap.size, 2, none⟩) (by first | omega | (simp; done) | (simp; omega))
      generalize c_x1_0_2 : x1.val.cell? ⟨w.heap.size, 2, none⟩ = q at q_
      first | (have q2_ : q = some _ := q_; subst q2_) | (simp [go_sem] at q_; have q2_ : q = some _ := q_; subst q2_) | (simp [go_sem, *] at q_; have q2_ : q = some _ := q_; subst q2_)
      have q_ := x1.bel.frozen (p := ⟨w.heap.size, 2, none⟩) (by first | omega | (simp; done) | (simp; omega))
      generalize z_x1_0_2 : x1.val.frozen? ⟨w.heap.size, 2, none⟩ = q at q_
      first | (have q2_ : q = false := q_; subst q2_) | (simp [go_sem] at q_; have q2_ : q = false := q_; subst q2_) | (simp [go_sem, *] at q_; have q2_ : q = false := q_; subst q2_)
      have q_ := x1.bel.cell (p := ⟨w.heap.size, 3, none⟩) (by first | omega | (simp; done) | (simp; omega))
      generalize c_x1_0_3 : x1.val.cell? ⟨w.heap.size, 3, none⟩ = q at q_
      first | (have q2_ : q = some _ := q_; subst q2_) | (simp [go_sem] at q_; have q2_ : q = some _ := q_; subst q2_) | (simp [go_sem, *] at q_; have q2_ : q = some _ := q_; subst q2_)
      have q_ := x1.bel.frozen (p := ⟨w.heap.size, 3, none⟩) (by first | omega | (simp; done) | (simp; omega))
      generalize z_x1_0_3 : x1.val.frozen? ⟨w.heap.size, 3, none⟩ = q at q_
      first | (have q2_ : q = false := q_; subst q2_) | (simp [go_sem] at q_; have q2_ : q = false := q_; subst q2_) | (simp [go_sem, *] at q_; have q2_ : q = false := q_; subst q2_)
      have q_ := x1.bel.cell (p := ⟨w.heap.size, 4, none⟩) (by first | omega | (simp; done) | (simp; omega))
      generalize c_x1_0_4 : x1.val.cell? ⟨w.heap.size, 4, none⟩ = q at q_
      first | (have q2_ : q = some _ := q_; subst q2_) | (simp [go_sem] at q_; have q2_ : q = some _ := q_; subst q2_) | (simp [go_sem, *] at q_; have q2_ : q = some _ := q_; subst q2_)
      have q_ := x1.bel.frozen (p := ⟨w.heap.size, 4, none⟩) (by first | omega | (simp; done) | (simp; omega))
      generalize z_x1_0_4 : x1.val.frozen? ⟨w.heap.size, 4, none⟩ = q at q_
      first | (have q2_ : q = false := q_; subst q2_) | (simp [go_sem] at q_; have q2_ : q = false := q_; subst q2_) | (simp [go_sem, *] at q_; have q2_ : q = false := q_; subst q2_)
      have l_x1_1 : w.heap.size+1 < x1.val.heap.size := by omega
      have m_x1_1 : w.heap.size+1 < x1.val.heap.size + 1 := by omega
      have q_ := x1.bel.cell (p := ⟨w.heap.size+1, 0, none⟩) (by first | omega | (simp; done) | (simp; omega))
      generalize c_x1_1_0 : x1.val.cell? ⟨w.heap.size+1, 0, none⟩ = q at q_
      first | (have q2_ : q = some _ := q_; subst q2_) | (simp [go_sem] at q_; have q2_ : q = some _ := q_; subst q2_) | (simp [go_sem, *] at q_; have q2_ : q = some _ := q_; subst q2_)
      have q_ := x1.bel.frozen (p := ⟨w.heap.size+1, 0, none⟩) (by first | omega | (simp; done) | (simp; omega))
      generalize z_x1_1_0 : x1.val.frozen? ⟨w.heap.size+1, 0, none⟩ = q at q_
      first | (have q2_ : q = false := q_; subst q2_) | (simp [go_sem] at q_; have q2_ : q = false := q_; subst q2_) | (simp [go_sem, *] at q_; have q2_ : q = false := q_; subst q2_)
      have q_ := x1.bel.cell (p := ⟨w.heap.size+1, 1, none⟩) (by first | omega | (simp; done) | (simp; omega))
      generalize c_x1_1_1 : x1.val.cell? ⟨w.heap.size+1, 1, none⟩ = q at q_
      first | (have q2_ : q = some _ := q_; subst q2_) | (simp [go_sem] at q_; have q2_ : q = some _ := q_; subst q2_) | (simp [go_sem, *] at q_; have q2_ : q = some _ := q_; subst q2_)
      have q_ := x1.bel.frozen (p := ⟨w.heap.size+1, 1, none⟩) (by first | omega | (simp; done) | (simp; omega))
      generalize z_x1_1_1 : x1.val.frozen? ⟨w.heap.size+1, 1, none⟩ = q at q_
      first | (have q2_ : q = false := q_; subst q2_) | (simp [go_sem] at q_; have q2_ : q = false := q_; subst q2_) | (simp [go_sem, *] at q_; have q2_ : q = false := q_; subst q2_)
      have q_ := x1.bel.cell (p := ⟨w.heap.size+1, 2, none⟩) (by first | omega | (simp; done) | (simp; omega))
      generalize c_x1_1_2 : x1.val.cell? ⟨w.heap.size+1, 2, none⟩ = q at q_
      first | (have q2_ : q = some _ := q_; subst q2_) | (simp [go_sem] at q_; have q2_ : q = some _ := q_; subst q2_) | (simp [go_sem, *] at q_; have q2_ : q = some _ := q_; subst q2_)
      have q_ := x1.bel.frozen (p := ⟨w.heap.size+1, 2, none⟩) (by first | omega | (simp; done) | (simp; omega))
      generalize z_x1_1_2 : x1.val.frozen? ⟨w.heap.size+1, 2, none⟩ = q at q_
      first | (have q2_ : q = false := q_; subst q2_) | (simp [go_sem] at q_; have q2_ : q = false := q_; subst q2_) | (simp [go_sem, *] at q_; have q2_ : q = false := q_; subst q2_)
      have q_ := x1.bel.cell (p := ⟨w.heap.size+1, 3, none⟩) (by first | omega | (simp; done) | (simp; omega))
      generalize c_x1_1_3 : x1.val.cell? ⟨w.heap.size+1, 3, none⟩ = q at q_
      first | (have q2_ : q = some _ := q_; subst q2_) | (simp [go_sem] at q_; have q2_ : q = some _ := q_; subst q2_) | (simp [go_sem, *] at q_; have q2_ : q = some _ := q_; subst q2_)
      have q_ := x1.bel.frozen (p := ⟨w.heap.size+1, 3, none⟩) (by first | omega | (simp; done) | (simp; omega))
      generalize z_x1_1_3 : x1.val.frozen? ⟨w.heap.size+1, 3, none⟩ = q at q_
      first | (have q2_ : q = false := q_; subst q2_) | (simp [go_sem] at q_; have q2_ : q = false := q_; subst q2_) | (simp [go_sem, *] at q_; have q2_ : q = false := q_; subst q2_)
      have q_ := x1.bel.cell (p := ⟨w.heap.size+1, 4, none⟩) (by first | omega | (simp; done) | (simp; omega))
      generalize c_x1_1_4 : x1.val.cell? ⟨w.heap.size+1, 4, none⟩ = q at q_
      first | (have q2_ : q = some _ := q_; subst q2_) | (simp [go_sem] at q_; have q2_ : q = some _ := q_; subst q2_) | (simp [go_sem, *] at q_; have q2_ : q = some _ := q_; subst q2_)
      have q_ := x1.bel.frozen (p := ⟨w.heap.size+1, 4, none⟩) (by first | omega | (simp; done) | (simp; omega))
      generalize z_x1_1_4 : x1.val.frozen? ⟨w.heap.size+1, 4, none⟩ = q at q_
      first | (have q2_ : q = false := q_; subst q2_) | (simp [go_sem] at q_; have q2_ : q = false := q_; subst q2_) | (simp [go_sem, *] at q_; have q2_ : q = false := q_; subst q2_)
      go_wp2
      refine bodyPost_ret (v := .tuple #[.agg #[.int .i64 (room1 : Int), .int .i64 (n : Int), .int .i64 zl1, .slice A n c, .bool off1], .int .i64 0]) (by simp [results, Try.results53, go_sem, *]) rfl (RdP.of HB.out rfl (by simp [Dk.R, HN.out, HZ.out]) (by repeat (first | with_reducible exact Below.refl _ _ | with_reducible refine bel_later _ ?_ | with_reducible refine bel_alloc ?_ _ | refine bel_set ?_ (by first | omega | (simp; done) | (simp; omega)) _ | with_reducible refine Below.drew ?_ | with_reducible refine bel_drewN ?_ _ | with_reducible assumption | assumption)))
  · have hs : D.sync = (D, 6) := by unfold Dk.sync; rw [if_pos ho]
    rw [hs]
    obtain ⟨room, l, safe, left, off⟩ := D
    simp only [Dk.R] at *
    obtain ⟨n, hn⟩ : ∃ n, l.length = n := ⟨_, rfl⟩
    rw [hn]
    subst ho
    obtain ⟨zl, hzl⟩ : ∃ z, lf left = z := ⟨_, rfl⟩
    rw [hzl]
    have HN := Lib.hid hn
    have HZ := Lib.hid hzl
    clear hd hll hs hn hzl hok ks
    go_enter Try.func53, Try.ntmps53
    go_wp2
    refine bodyPost_ret (v := .tuple #[.agg #[.int .i64 (room : Int), .int .i64 (safe : Int), .int .i64 zl, .slice A n c, .bool true], .int .i64 6]) (by simp [results, Try.results53, go_sem, *]) rfl (RdP.of HB.out rfl (by simp [Dk.R, HN.out, HZ.out]) (by repeat (first | with_reducible exact Below.refl _ _ | with_reducible refine bel_later _ ?_ | with_reducible refine bel_alloc ?_ _ | refine bel_set ?_ (by first | omega | (simp; done) | (simp; omega)) _ | with_reducible refine Below.drew ?_ | with_reducible refine bel_drewN ?_ _ | with_reducible assumption | assumption)))
theorem rsparks_any (D : Dk) (A : Option Addr) (c : Nat) (w : World) (n : Int) : Calls Try.prog 36 #[D.R A c, .int .i64 n] w fun e w' => e = .returned ((D.sparks n).R A c) ∧ Below w.heap.size w w' := by
  obtain ⟨room, l, safe, left, off⟩ := D
  by_cases hn : n < 0
  · have hs : lf (if n < 0 then none else some n.toNat) = -1 := by rw [if_pos hn]; rfl
    simp only [Dk.sparks, Dk.R, hs]
    clear hs
    go_enter Try.func36, Try.ntmps36
    go_wp2
    refine bodyPost_ret (v := .agg #[.int .i64 (room : Int), .int .i64 (safe : Int), .int .i64 (-1), .slice A l.length c, .bool off]) (by simp [results, Try.results36, go_sem, *]) rfl ⟨rfl, (by repeat (first | with_reducible exact Below.refl _ _ | with_reducible refine bel_later _ ?_ | with_reducible refine bel_alloc ?_ _ | refine bel_set ?_ (by first | omega | (simp; done) | (simp; omega)) _ | with_reducible refine Below.drew ?_ | with_reducible refine bel_drewN ?_ _ | with_reducible assumption | assumption))⟩
  · have hs : lf (if n < 0 then none else some n.toNat) = n := by rw [if_neg hn]; show ((n.toNat : Nat) : Int) = n; omega
    simp only [Dk.sparks, Dk.R, hs]
    clear hs
    have g : decide (n < 0) = false := decide_eq_false hn
    go_enter Try.func36, Try.ntmps36
    go_wp2
    refine bodyPost_ret (v := .agg #[.int .i64 (room : Int), .int .i64 (safe : Int), .int .i64 n, .slice A l.length c, .bool off]) (by simp [results, Try.results36, go_sem, *]) rfl ⟨rfl, (by repeat (first | with_reducible exact Below.refl _ _ | with_reducible refine bel_later _ ?_ | with_reducible refine bel_alloc ?_ _ | refine bel_set ?_ (by first | omega | (simp; done) | (simp; omega)) _ | with_reducible refine Below.drew ?_ | with_reducible refine bel_drewN ?_ _ | with_reducible assumption | assumption))⟩
end Go.Proofs.Ytbokggilfepdhaa
namespace Go.Proofs.Ytbokggilfepdhaa
open Go.RowKit
set_option linter.unusedVariables false
attribute [local go_sem] Later.cell Later.frozen setCell_twice
theorem own_sq_empty {α : Type} (f : α → Value) (w : World) (base : Nat) (e : TypeId) (n : Nat) (hn : n = w.heap.size) (hb : base ≤ n) : (w.alloc (.cells #[] e)).ownsRow base e 1 (.slice (some ⟨n, 0, none⟩) ([] : List α).length 0) ([] : List α).length (([] : List α).map f) := by
  subst hn
  exact ⟨rfl, .inr ⟨w.heap.size, 0, #[], rfl, hb, heap_alloc_new w _, Nat.le_refl _, by simp [maxLen], rfl, rfl⟩⟩
theorem own_set {W : World} {B e n g j : Nat} {u v : Value} {xs : List Value} (h : W.ownsRow B e 1 v n xs) (hg : g < B) : (W.setCell ⟨g, j, none⟩ u).ownsRow B e 1 v n xs := ((Only.refl g W).set u).own h hg
def CrP (w : World) (D' : Dk) (e : Ending) (w' : World) : Prop := ∃ A' c', e = .returned (D'.R A' c') ∧ Rb w' A' c' D'.l ∧ Below w.heap.size w w' ∧ ∀ p, A' = some p → w.heap.size ≤ p.block
set_option maxHeartbeats 400000 in
theorem rcrash_any (D : Dk) (A : Option Addr) (c : Nat) (w : World) (n : Int) (hlo : -9223372036854775808 ≤ n) (hhi : n ≤ 9223372036854775807) (hok : D.Ok) (hb : Rb w A c D.l) :
    Calls Try.prog 37 #[D.R A c, .int .i64 n] w (CrP w (D.crash n)) := by
  obtain ⟨i0, hi, hz0, hz1, hz2⟩ := info_parts info_b8
  obtain ⟨room, l, safe, left, off⟩ := D
  obtain ⟨m, hm⟩ : ∃ m, l.length = m := ⟨_, rfl⟩
  have hs : safe ≤ m := by rw [← hm]; exact hok.safe
  have hmr : m ≤ room := by rw [← hm]; exact hok.room
  have hrh : room ≤ 262144 := hok.hi
  have hmc : m ≤ c := by rw [← hm]; exact hb.le
  have hcap := hb.cap
  have HB := Lib.hid hb
  obtain ⟨k, hk⟩ : ∃ k : Nat, safe + min n.toNat (m - safe) = k := ⟨_, rfl⟩
  have HE : Dk.crash ⟨room, l, safe, left, off⟩ n = ⟨room, l.take k, k, none, false⟩ := by unfold Dk.crash; simp only [hm, hk]
  rw [HE]
  have HTK : Hid ((l.take k).length = k) := Lib.hid (by rw [List.length_take]; omega)
  simp only [Dk.R, hm]
  obtain ⟨zl, hzl⟩ : ∃ z, lf left = z := ⟨_, rfl⟩
  rw [hzl]
  obtain ⟨q, hq⟩ : ∃ q : Nat, m - safe = q := ⟨_, rfl⟩
  have hkc : k ≤ c := by omega
  have hkm : k ≤ m := by omega
  have hqI : (m : Int) - (safe : Int) = (q : Int) := by omega
  have FIN : ∀ (W : World) (A' : Option Addr) (c' base : Nat), W.ownsRow base 5 1 (.slice A' k c') k ((l.take k).map byw) → w.heap.size ≤ base → Below w.heap.size w W → CrP w ⟨room, l.take k, k, none, false⟩ (.returned (.agg #[.int .i64 (room : Int), .int .i64 (k : Int), .int .i64 (-1), .slice A' k c', .bool false])) W := fun W A' c' base ho hB k1 =>
    ⟨A', c', by simp [Dk.R, lf, HTK.out], .of_own (base := base) (e := 5) (by rw [HTK.out]; exact ho), k1, fun p hp => Nat.le_trans hB (own_at ho p hp).1⟩
  have FIN := Lib.hid FIN
  by_cases h1 : n < 0
  · obtain rfl : k = safe := by omega
    clear hm hzl hk hq HE hok hb
    have g2 : decide ((q : Int) < 0) = false := decide_eq_false (by omega)
    have hk0 : (0 : Int) ≤ (k : Int) := by omega
    have hkc' : (k : Int) ≤ (c : Int) := by omega
    cases A
    · go_enter Try.func37, Try.ntmps37
      go_wp2_with (
        at_builtin
        go_loud (
        refine wpList_append_sq (f := byw) _ rfl _ _ 24 rfl (fun _ => rfl) (w.heap.size + 1 + 1) 5 i0 _ _ Try.underlying24 hi hz0 rfl hz1 hz2 (by decide) _ [] rfl (own_sq_empty byw _ _ _ _ (by simp) (by simp)) w.heap.size _ (l.take k) c k HTK.out rfl (((HB.out.sq.below (B := w.heap.size) (by exact (by repeat (first | with_reducible exact Below.refl _ _ | with_reducible refine bel_later _ ?_ | with_reducible refine bel_alloc ?_ _ | refine bel_set ?_ (by first | omega | (simp; done) | (simp; omega)) _ | with_reducible refine Below.drew ?_ | with_reducible refine bel_drewN ?_ _ | with_reducible assumption | assumption)))).take k)) HB.out.nil (by simp; omega) (by simp) ?_
        intro A' c' w' hown hg hb
        obtain ⟨x1, rfl⟩ := later_is hb
        simp only [List.nil_append, HTK.out] at hown ⊢
        have HO := Lib.hid hown
        have hbw : Below w.heap.size w x1.val := Below.trans (by exact (by repeat (first | with_reducible exact Below.refl _ _ | with_reducible refine bel_later _ ?_ | with_reducible refine bel_alloc ?_ _ | refine bel_set ?_ (by first | omega | (simp; done) | (simp; omega)) _ | with_reducible refine Below.drew ?_ | with_reducible refine bel_drewN ?_ _ | with_reducible assumption | assumption))) (x1.bel.mono (by omega))
        clear hown hg hb
        have hz_x1 := x1.bel.size
        try simp at hz_x1
        have l_x1_0 : w.heap.size < x1.val.heap.size := by omega
        have m_x1_0 : w.heap.size < x1.val.heap.size + 1 := by omega
        have q_ := x1.bel.cell (p := ⟨w.heap.size, 0, none⟩) (by first | omega | (simp; done) | (simp; omega))
        generalize c_x1_0_0 : x1.val.cell? ⟨w.heap.size, 0, none⟩ = q at q_
        first | (have q2_ : q = some _ := q_; subst q2_) | (simp [go_sem] at q_; have q2_ : q = some _ := q_; subst q2_) | (simp [go_sem, *] at q_; have q2_ : q = some _ := q_; subst q2_)
        have q_ := x1.bel.frozen (p := ⟨w.heap.size, 0, none⟩) (by first | omega | (simp; done) | (simp; omega))
        generalize z_x1_0_0 : x1.val.frozen? ⟨w.heap.size, 0, none⟩ = q at q_
        first | (have q2_ : q = false := q_; subst q2_) | (simp [go_sem] at q_; have q2_ : q = false := q_; subst q2_) | (simp [go_sem, *] at q_; have q2_ : q = false := q_; subst q2_)
        have q_ := x1.bel.cell (p := ⟨w.heap.size, 1, none⟩) (by first | omega | (simp; done) | (simp; omega))
        generalize c_x1_0_1 : x1.val.cell? ⟨w.heap.size, 1, none⟩ = q at q_
        first | (have q2_ : q = some _ := q_; subst q2_) | (simp [go_sem] at q_; have q2_ : q = some _ := q_; subst q2_) | (simp [go_sem, *] at q_; have q2_ : q = some _ := q_; subst q2_)
        have q_ := x1.bel.frozen (p := ⟨w.heap.size, 1, none⟩) (by first | omega | (simp; done) | (simp; omega))
        generalize z_x1_0_1 : x1.val.frozen? ⟨w.heap.size, 1, none⟩ = q at q_
        first | (have q2_ : q = false := q_; subst q2_) | (simp [go_sem] at q_; have q2_ : q = false := q_; subst q2_) | (simp [go_sem, *] at q_; have q2_ : q = false := q_; subst q2_)
        have q_ := x1.bel.cell (p := ⟨w.heap.size, 2, none⟩) (by first | omega | (simp; done) | (simp; omega))
        generalize c_x1_0_2 : x1.val.cell? ⟨w.heap.size, 2, none⟩ = q at q_
        first | (have q2_ : q = some _ := q_; subst q2_) | (simp [go_sem] at q_; have q2_ : q = some _ := q_; subst q2_) | (simp [go_sem, *] at q_; have q2_ : q = some _ := q_; subst q2_)
        have q_ := x1.bel.frozen (p := ⟨w.heap.size, 2, none⟩) (by first | omega | (simp; done) | (simp; omega))
        generalize z_x1_0_2 : x1.val.frozen? ⟨w.heap.size, 2, none⟩ = q at q_
        first | (have q2_ : q = false := q_; subst q2_) | (simp [go_sem] at q_; have q2_ : q = false := q_; subst q2_) | (simp [go_sem, *] at q_; have q2_ : q = false := q_; subst q2_)
        have q_ := x1.bel.cell (p := ⟨w.heap.size, 3, none⟩) (by first | omega | (simp; done) | (simp; omega))
        generalize c_x1_0_3 : x1.val.cell? ⟨w.heap.size, 3, none⟩ = q at q_
        first | (have q2_ : q = some _ := q_; subst q2_) | (simp [go_sem] at q_; have q2_ : q = some _ := q_; subst q2_) | (simp [go_sem, *] at q_; have q2_ : q = some _ := q_; subst q2_)
        have q_ := x1.bel.frozen (p := ⟨w.heap.size, 3, none⟩) (by first | omega | (simp; done) | (simp; omega))
        generalize z_x1_0_3 : x1.val.frozen? ⟨w.heap.size, 3, none⟩ = q at q_
        first | (have q2_ : q = false := q_; subst q2_) | (simp [go_sem] at q_; have q2_ : q = false := q_; subst q2_) | (simp [go_sem, *] at q_; have q2_ : q = false := q_; subst q2_)
        have q_ := x1.bel.cell (p := ⟨w.heap.size, 4, none⟩) (by first | omega | (simp; done) | (simp; omega))
        generalize c_x1_0_4 : x1.val.cell? ⟨w.heap.size, 4, none⟩ = q at q_
        first | (have q2_ : q = some _ := q_; subst q2_) | (simp [go_sem] at q_; have q2_ : q = some _ := q_; subst q2_) | (simp [go_sem, *] at q_; have q2_ : q = some _ := q_; subst q2_)
        have q_ := x1.bel.frozen (p := ⟨w.heap.size, 4, none⟩) (by first | omega | (simp; done) | (simp; omega))
        generalize z_x1_0_4 : x1.val.frozen? ⟨w.heap.size, 4, none⟩ = q at q_
        first | (have q2_ : q = false := q_; subst q2_) | (simp [go_sem] at q_; have q2_ : q = false := q_; subst q2_) | (simp [go_sem, *] at q_; have q2_ : q = false := q_; subst q2_)
        have l_x1_1 : w.heap.size+1 < x1.val.heap.size := by omega
        have m_x1_1 : w.heap.size+1 < x1.val.heap.size + 1 := by omega
        have q_ := x1.bel.cell (p := ⟨w.heap.size+1, 0, none⟩) (by first | omega | (simp; done) | (simp; omega))
        generalize c_x1_1_0 : x1.val.cell? ⟨w.heap.size+1, 0, none⟩ = q at q_
        first | (have q2_ : q = some _ := q_; subst q2_) | (simp [go_sem] at q_; have q2_ : q = some _ := q_; subst q2_) | (simp [go_sem, *] at q_; have q2_ : q = some _ := q_; subst q2_)
        have q_ := x1.bel.frozen (p := ⟨w.heap.size+1, 0, none⟩) (by first | omega | (simp; done) | (simp; omega))
        generalize z_x1_1_0 : x1.val.frozen? ⟨w.heap.size+1, 0, none⟩ = q at q_
        first | (have q2_ : q = false := q_; subst q2_) | (simp [go_sem] at q_; have q2_ : q = false := q_; subst q2_) | (simp [go_sem, *] at q_; have q2_ : q = false := q_; subst q2_)
        have q_ := x1.bel.cell (p := ⟨w.heap.size+1, 1, none⟩) (by first | omega | (simp; done) | (simp; omega))
        generalize c_x1_1_1 : x1.val.cell? ⟨w.heap.size+1, 1, none⟩ = q at q_
        first | (have q2_ : q = some _ := q_; subst q2_) | (simp [go_sem] at q_; have q2_ : q = some _ := q_; subst q2_) | (simp [go_sem, *] at q_; have q2_ : q = some _ := q_; subst q2_)
        have q_ := x1.bel.frozen (p := ⟨w.heap.size+1, 1, none⟩) (by first | omega | (simp; done) | (simp; omega))
        generalize z_x1_1_1 : x1.val.frozen? ⟨w.heap.size+1, 1, none⟩ = q at q_
        first | (have q2_ : q = false := q_; subst q2_) | (simp [go_sem] at q_; have q2_ : q = false := q_; subst q2_) | (simp [go_sem, *] at q_; have q2_ : q = false := q_; subst q2_)
        have q_ := x1.bel.cell (p := ⟨w.heap.size+1, 2, none⟩) (by first | omega | (simp; done) | (simp; omega))
        generalize c_x1_1_2 : x1.val.cell? ⟨w.heap.size+1, 2, none⟩ = q at q_
        first | (have q2_ : q = some _ := q_; subst q2_) | (simp [go_sem] at q_; have q2_ : q = some _ := q_; subst q2_) | (simp [go_sem, *] at q_; have q2_ : q = some _ := q_; subst q2_)
        have q_ := x1.bel.frozen (p := ⟨w.heap.size+1, 2, none⟩) (by first | omega | (simp; done) | (simp; omega))
        generalize z_x1_1_2 : x1.val.frozen? ⟨w.heap.size+1, 2, none⟩ = q at q_
        first | (have q2_ : q = false := q_; subst q2_) | (simp [go_sem] at q_; have q2_ : q = false := q_; subst q2_) | (simp [go_sem, *] at q_; have q2_ : q = false := q_; subst q2_)
        have q_ := x1.bel.cell (p := ⟨w.heap.size+1, 3, none⟩) (by first | omega | (simp; done) | (simp; omega))
        generalize c_x1_1_3 : x1.val.cell? ⟨w.heap.size+1, 3, none⟩ = q at q_
        first | (have q2_ : q = some _ := q_; subst q2_) | (simp [go_sem] at q_; have q2_ : q = some _ := q_; subst q2_) | (simp [go_sem, *] at q_; have q2_ : q = some _ := q_; subst q2_)
        have q_ := x1.bel.frozen (p := ⟨w.heap.size+1, 3, none⟩) (by first | omega | (simp; done) | (simp; omega))
        generalize z_x1_1_3 : x1.val.frozen? ⟨w.heap.size+1, 3, none⟩ = q at q_
        first | (have q2_ : q = false := q_; subst q2_) | (simp [go_sem] at q_; have q2_ : q = false := q_; subst q2_) | (simp [go_sem, *] at q_; have q2_ : q = false := q_; subst q2_)
        have q_ := x1.bel.cell (p := ⟨w.heap.size+1, 4, none⟩) (by first | omega | (simp; done) | (simp; omega))
        generalize c_x1_1_4 : x1.val.cell? ⟨w.heap.size+1, 4, none⟩ = q at q_
        first | (have q2_ : q = some _ := q_; subst q2_) | (simp [go_sem] at q_; have q2_ : q = some _ := q_; subst q2_) | (simp [go_sem, *] at q_; have q2_ : q = some _ := q_; subst q2_)
        have q_ := x1.bel.frozen (p := ⟨w.heap.size+1, 4, none⟩) (by first | omega | (simp; done) | (simp; omega))
        generalize z_x1_1_4 : x1.val.frozen? ⟨w.heap.size+1, 4, none⟩ = q at q_
        first | (have q2_ : q = false := q_; subst q2_) | (simp [go_sem] at q_; have q2_ : q = false := q_; subst q2_) | (simp [go_sem, *] at q_; have q2_ : q = false := q_; subst q2_)
        skip))
      refine bodyPost_ret (v := .agg #[.int .i64 (room : Int), .int .i64 (k : Int), .int .i64 (-1), .slice A' k c', .bool false]) (by simp [results, Try.results37, go_sem, *]) rfl (FIN.out _ _ _ (w.heap.size + 1 + 1) (by repeat (first | with_reducible exact HO.out | refine own_set ?_ (by omega) | refine own_below ?_ (bel_alloc (Below.refl _ _) _))) (by omega) (by repeat (first | with_reducible exact Below.refl _ _ | with_reducible refine bel_later _ ?_ | with_reducible refine bel_alloc ?_ _ | refine bel_set ?_ (by first | omega | (simp; done) | (simp; omega)) _ | with_reducible refine Below.drew ?_ | with_reducible refine bel_drewN ?_ _ | with_reducible assumption | assumption)))
    · go_enter Try.func37, Try.ntmps37
      go_wp2_with (
        at_builtin
        go_loud (
        refine wpList_append_sq (f := byw) _ rfl _ _ 24 rfl (fun _ => rfl) (w.heap.size + 1 + 1) 5 i0 _ _ Try.underlying24 hi hz0 rfl hz1 hz2 (by decide) _ [] rfl (own_sq_empty byw _ _ _ _ (by simp) (by simp)) w.heap.size _ (l.take k) c k HTK.out rfl (((HB.out.sq.below (B := w.heap.size) (by exact (by repeat (first | with_reducible exact Below.refl _ _ | with_reducible refine bel_later _ ?_ | with_reducible refine bel_alloc ?_ _ | refine bel_set ?_ (by first | omega | (simp; done) | (simp; omega)) _ | with_reducible refine Below.drew ?_ | with_reducible refine bel_drewN ?_ _ | with_reducible assumption | assumption)))).take k)) HB.out.nil (by simp; omega) (by simp) ?_
        intro A' c' w' hown hg hb
        obtain ⟨x1, rfl⟩ := later_is hb
        simp only [List.nil_append, HTK.out] at hown ⊢
        have HO := Lib.hid hown
        have hbw : Below w.heap.size w x1.val := Below.trans (by exact (by repeat (first | with_reducible exact Below.refl _ _ | with_reducible refine bel_later _ ?_ | with_reducible refine bel_alloc ?_ _ | refine bel_set ?_ (by first | omega | (simp; done) | (simp; omega)) _ | with_reducible refine Below.drew ?_ | with_reducible refine bel_drewN ?_ _ | with_reducible assumption | assumption))) (x1.bel.mono (by omega))
        clear hown hg hb
        have hz_x1 := x1.bel.size
        try simp at hz_x1
        have l_x1_0 : w.heap.size < x1.val.heap.size := by omega
        have m_x1_0 : w.heap.size < x1.val.heap.size + 1 := by omega
        have q_ := x1.bel.cell (p := ⟨w.heap.size, 0, none⟩) (by first | omega | (simp; done) | (simp; omega))
        generalize c_x1_0_0 : x1.val.cell? ⟨w.heap.size, 0, none⟩ = q at q_
        first | (have q2_ : q = some _ := q_; subst q2_) | (simp [go_sem] at q_; have q2_ : q = some _ := q_; subst q2_) | (simp [go_sem, *] at q_; have q2_ : q = some _ := q_; subst q2_)
        have q_ := x1.bel.frozen (p := ⟨w.heap.size, 0, none⟩) (by first | omega | (simp; done) | (simp; omega))
        generalize z_x1_0_0 : x1.val.frozen? ⟨w.heap.size, 0, none⟩ = q at q_
        first | (have q2_ : q = false := q_; subst q2_) | (simp [go_sem] at q_; have q2_ : q = false := q_; subst q2_) | (simp [go_sem, *] at q_; have q2_ : q = false := q_; subst q2_)
        have q_ := x1.bel.cell (p := ⟨w.heap.size, 1, none⟩) (by first | omega | (simp; done) | (simp; omega))
        generalize c_x1_0_1 : x1.val.cell? ⟨w.heap.size, 1, none⟩ = q at q_
        first | (have q2_ : q = some _ := q_; subst q2_) | (simp [go_sem] at q_; have q2_ : q = some _ := q_; subst q2_) | (simp [go_sem, *] at q_; have q2_ : q = some _ := q_; subst q2_)
        have q_ := x1.bel.frozen (p := ⟨w.heap.size, 1, none⟩) (by first | omega | (simp; done) | (simp; omega))
        generalize z_x1_0_1 : x1.val.frozen? ⟨w.heap.size, 1, none⟩ = q at q_
        first | (have q2_ : q = false := q_; subst q2_) | (simp [go_sem] at q_; have q2_ : q = false := q_; subst q2_) | (simp [go_sem, *] at q_; have q2_ : q = false := q_; subst q2_)
        have q_ := x1.bel.cell (p := ⟨w.heap.size, 2, none⟩) (by first | omega | (simp; done) | (simp; omega))
        generalize c_x1_0_2 : x1.val.cell? ⟨w.heap.size, 2, none⟩ = q at q_
        first | (have q2_ : q = some _ := q_; subst q2_) | (simp [go_sem] at q_; have q2_ : q = some _ := q_; subst q2_) | (simp [go_sem, *] at q_; have q2_ : q = some _ := q_; subst q2_)
        have q_ := x1.bel.frozen (p := ⟨w.heap.size, 2, none⟩) (by first | omega | (simp; done) | (simp; omega))
        generalize z_x1_0_2 : x1.val.frozen? ⟨w.heap.size, 2, none⟩ = q at q_
        first | (have q2_ : q = false := q_; subst q2_) | (simp [go_sem] at q_; have q2_ : q = false := q_; subst q2_) | (simp [go_sem, *] at q_; have q2_ : q = false := q_; subst q2_)
        have q_ := x1.bel.cell (p := ⟨w.heap.size, 3, none⟩) (by first | omega | (simp; done) | (simp; omega))
        generalize c_x1_0_3 : x1.val.cell? ⟨w.heap.size, 3, none⟩ = q at q_
        first | (have q2_ : q = some _ := q_; subst q2_) | (simp [go_sem] at q_; have q2_ : q = some _ := q_; subst q2_) | (simp [go_sem, *] at q_; have q2_ : q = some _ := q_; subst q2_)
        have q_ := x1.bel.frozen (p := ⟨w.heap.size, 3, none⟩) (by first | omega | (simp; done) | (simp; omega))
        generalize z_x1_0_3 : x1.val.frozen? ⟨w.heap.size, 3, none⟩ = q at q_
        first | (have q2_ : q = false := q_; subst q2_) | (simp [go_sem] at q_; have q2_ : q = false := q_; subst q2_) | (simp [go_sem, *] at q_; have q2_ : q = false := q_; subst q2_)
        have q_ := x1.bel.cell (p := ⟨w.heap.size, 4, none⟩) (by first | omega | (simp; done) | (simp; omega))
        generalize c_x1_0_4 : x1.val.cell? ⟨w.heap.size, 4, none⟩ = q at q_
        first | (have q2_ : q = some _ := q_; subst q2_) | (simp [go_sem] at q_; have q2_ : q = some _ := q_; subst q2_) | (simp [go_sem, *] at q_; have q2_ : q = some _ := q_; subst q2_)
        have q_ := x1.bel.frozen (p := ⟨w.heap.size, 4, none⟩) (by first | omega | (simp; done) | (simp; omega))
        generalize z_x1_0_4 : x1.val.frozen? ⟨w.heap.size, 4, none⟩ = q at q_
        first | (have q2_ : q = false := q_; subst q2_) | (simp [go_sem] at q_; have q2_ : q = false := q_; subst q2_) | (simp [go_sem, *] at q_; have q2_ : q = false := q_; subst q2_)
        have l_x1_1 : w.heap.size+1 < x1.val.heap.size := by omega
        have m_x1_1 : w.heap.size+1 < x1.val.heap.size + 1 := by omega
        have q_ := x1.bel.cell (p := ⟨w.heap.size+1, 0, none⟩) (by first | omega | (simp; done) | (simp; omega))
        generalize c_x1_1_0 : x1.val.cell? ⟨w.heap.size+1, 0, none⟩ = q at q_
        first | (have q2_ : q = some _ := q_; subst q2_) | (simp [go_sem] at q_; have q2_ : q = some _ := q_; subst q2_) | (simp [go_sem, *] at q_; have q2_ : q = some _ := q_; subst q2_)
        have q_ := x1.bel.frozen (p := ⟨w.heap.size+1, 0, none⟩) (by first | omega | (simp; done) | (simp; omega))
        generalize z_x1_1_0 : x1.val.frozen? ⟨w.heap.size+1, 0, none⟩ = q at q_
        first | (have q2_ : q = false := q_; subst q2_) | (simp [go_sem] at q_; have q2_ : q = false := q_; subst q2_) | (simp [go_sem, *] at q_; have q2_ : q = false := q_; subst q2_)
        have q_ := x1.bel.cell (p := ⟨w.heap.size+1, 1, none⟩) (by first | omega | (simp; done) | (simp; omega))
        generalize c_x1_1_1 : x1.val.cell? ⟨w.heap.size+1, 1, none⟩ = q at q_
        first | (have q2_ : q = some _ := q_; subst q2_) | (simp [go_sem] at q_; have q2_ : q = some _ := q_; subst q2_) | (simp [go_sem, *] at q_; have q2_ : q = some _ := q_; subst q2_)
        have q_ := x1.bel.frozen (p := ⟨w.heap.size+1, 1, none⟩) (by first | omega | (simp; done) | (simp; omega))
        generalize z_x1_1_1 : x1.val.frozen? ⟨w.heap.size+1, 1, none⟩ = q at q_
        first | (have q2_ : q = false := q_; subst q2_) | (simp [go_sem] at q_; have q2_ : q = false := q_; subst q2_) | (simp [go_sem, *] at q_; have q2_ : q = false := q_; subst q2_)
        have q_ := x1.bel.cell (p := ⟨w.heap.size+1, 2, none⟩) (by first | omega | (simp; done) | (simp; omega))
        generalize c_x1_1_2 : x1.val.cell? ⟨w.heap.size+1, 2, none⟩ = q at q_
        first | (have q2_ : q = some _ := q_; subst q2_) | (simp [go_sem] at q_; have q2_ : q = some _ := q_; subst q2_) | (simp [go_sem, *] at q_; have q2_ : q = some _ := q_; subst q2_)
        have q_ := x1.bel.frozen (p := ⟨w.heap.size+1, 2, none⟩) (by first | omega | (simp; done) | (simp; omega))
        generalize z_x1_1_2 : x1.val.frozen? ⟨w.heap.size+1, 2, none⟩ = q at q_
        first | (have q2_ : q = false := q_; subst q2_) | (simp [go_sem] at q_; have q2_ : q = false := q_; subst q2_) | (simp [go_sem, *] at q_; have q2_ : q = false := q_; subst q2_)
        have q_ := x1.bel.cell (p := ⟨w.heap.size+1, 3, none⟩) (by first | omega | (simp; done) | (simp; omega))
        generalize c_x1_1_3 : x1.val.cell? ⟨w.heap.size+1, 3, none⟩ = q at q_
        first | (have q2_ : q = some _ := q_; subst q2_) | (simp [go_sem] at q_; have q2_ : q = some _ := q_; subst q2_) | (simp [go_sem, *] at q_; have q2_ : q = some _ := q_; subst q2_)
        have q_ := x1.bel.frozen (p := ⟨w.heap.size+1, 3, none⟩) (by first | omega | (simp; done) | (simp; omega))
        generalize z_x1_1_3 : x1.val.frozen? ⟨w.heap.size+1, 3, none⟩ = q at q_
        first | (have q2_ : q = false := q_; subst q2_) | (simp [go_sem] at q_; have q2_ : q = false := q_; subst q2_) | (simp [go_sem, *] at q_; have q2_ : q = false := q_; subst q2_)
        have q_ := x1.bel.cell (p := ⟨w.heap.size+1, 4, none⟩) (by first | omega | (simp; done) | (simp; omega))
        generalize c_x1_1_4 : x1.val.cell? ⟨w.heap.size+1, 4, none⟩ = q at q_
        first | (have q2_ : q = some _ := q_; subst q2_) | (simp [go_sem] at q_; have q2_ : q = some _ := q_; subst q2_) | (simp [go_sem, *] at q_; have q2_ : q = some _ := q_; subst q2_)
        have q_ := x1.bel.frozen (p := ⟨w.heap.size+1, 4, none⟩) (by first | omega | (simp; done) | (simp; omega))
        generalize z_x1_1_4 : x1.val.frozen? ⟨w.heap.size+1, 4, none⟩ = q at q_
        first | (have q2_ : q = false := q_; subst q2_) | (simp [go_sem] at q_; have q2_ : q = false := q_; subst q2_) | (simp [go_sem, *] at q_; have q2_ : q = false := q_; subst q2_)
        skip))
      refine bodyPost_ret (v := .agg #[.int .i64 (room : Int), .int .i64 (k : Int), .int .i64 (-1), .slice A' k c', .bool false]) (by simp [results, Try.results37, go_sem, *]) rfl (FIN.out _ _ _ (w.heap.size + 1 + 1) (by repeat (first | with_reducible exact HO.out | refine own_set ?_ (by omega) | refine own_below ?_ (bel_alloc (Below.refl _ _) _))) (by omega) (by repeat (first | with_reducible exact Below.refl _ _ | with_reducible refine bel_later _ ?_ | with_reducible refine bel_alloc ?_ _ | refine bel_set ?_ (by first | omega | (simp; done) | (simp; omega)) _ | with_reducible refine Below.drew ?_ | with_reducible refine bel_drewN ?_ _ | with_reducible assumption | assumption)))
  have g1 : decide (n < 0) = false := decide_eq_false h1
  by_cases h2 : (q : Int) < n
  · obtain rfl : k = m := by omega
    have g2 : decide ((q : Int) < n) = true := decide_eq_true h2
    have hsq : (safe : Int) + (q : Int) = (k : Int) := by omega
    have hk0 : (0 : Int) ≤ (k : Int) := by omega
    have hkc' : (k : Int) ≤ (c : Int) := by omega
    clear hm hzl hk hq HE hok hb
    cases A
    · go_enter Try.func37, Try.ntmps37
      go_wp2_with (
        at_builtin
        go_loud (
        refine wpList_append_sq (f := byw) _ rfl _ _ 24 rfl (fun _ => rfl) (w.heap.size + 1 + 1) 5 i0 _ _ Try.underlying24 hi hz0 rfl hz1 hz2 (by decide) _ [] rfl (own_sq_empty byw _ _ _ _ (by simp) (by simp)) w.heap.size _ (l.take k) c k HTK.out rfl (((HB.out.sq.below (B := w.heap.size) (by exact (by repeat (first | with_reducible exact Below.refl _ _ | with_reducible refine bel_later _ ?_ | with_reducible refine bel_alloc ?_ _ | refine bel_set ?_ (by first | omega | (simp; done) | (simp; omega)) _ | with_reducible refine Below.drew ?_ | with_reducible refine bel_drewN ?_ _ | with_reducible assumption | assumption)))).take k)) HB.out.nil (by simp; omega) (by simp) ?_
        intro A' c' w' hown hg hb
        obtain ⟨x1, rfl⟩ := later_is hb
        simp only [List.nil_append, HTK.out] at hown ⊢
        have HO := Lib.hid hown
        have hbw : Below w.heap.size w x1.val := Below.trans (by exact (by repeat (first | with_reducible exact Below.refl _ _ | with_reducible refine bel_later _ ?_ | with_reducible refine bel_alloc ?_ _ | refine bel_set ?_ (by first | omega | (simp; done) | (simp; omega)) _ | with_reducible refine Below.drew ?_ | with_reducible refine bel_drewN ?_ _ | with_reducible assumption | assumption))) (x1.bel.mono (by omega))
        clear hown hg hb
        have hz_x1 := x1.bel.size
        try simp at hz_x1
        have l_x1_0 : w.heap.size < x1.val.heap.size := by omega
        have m_x1_0 : w.heap.size < x1.val.heap.size + 1 := by omega
        have q_ := x1.bel.cell (p := ⟨w.heap.size, 0, none⟩) (by first | omega | (simp; done) | (simp; omega))
        generalize c_x1_0_0 : x1.val.cell? ⟨w.heap.size, 0, none⟩ = q at q_
        first | (have q2_ : q = some _ := q_; subst q2_) | (simp [go_sem] at q_; have q2_ : q = some _ := q_; subst q2_) | (simp [go_sem, *] at q_; have q2_ : q = some _ := q_; subst q2_)
        have q_ := x1.bel.frozen (p := ⟨w.heap.size, 0, none⟩) (by first | omega | (simp; done) | (simp; omega))
        generalize z_x1_0_0 : x1.val.frozen? ⟨w.heap.size, 0, none⟩ = q at q_
        first | (have q2_ : q = false := q_; subst q2_) | (simp [go_sem] at q_; have q2_ : q = false := q_; subst q2_) | (simp [go_sem, *] at q_; have q2_ : q = false := q_; subst q2_)
        have q_ := x1.bel.cell (p := ⟨w.heap.size, 1, none⟩) (by first | omega | (simp; done) | (simp; omega))
        generalize c_x1_0_1 : x1.val.cell? ⟨w.heap.size, 1, none⟩ = q at q_
        first | (have q2_ : q = some _ := q_; subst q2_) | (simp [go_sem] at q_; have q2_ : q = some _ := q_; subst q2_) | (simp [go_sem, *] at q_; have q2_ : q = some _ := q_; subst q2_)
        have q_ := x1.bel.frozen (p := ⟨w.heap.size, 1, none⟩) (by first | omega | (simp; done) | (simp; omega))
        generalize z_x1_0_1 : x1.val.frozen? ⟨w.heap.size, 1, none⟩ = q at q_
        first | (have q2_ : q = false := q_; subst q2_) | (simp [go_sem] at q_; have q2_ : q = false := q_; subst q2_) | (simp [go_sem, *] at q_; have q2_ : q = false := q_; subst q2_)
        have q_ := x1.bel.cell (p := ⟨w.heap.size, 2, none⟩) (by first | omega | (simp; done) | (simp; omega))
        generalize c_x1_0_2 : x1.val.cell? ⟨w.heap.size, 2, none⟩ = q at q_
        first | (have q2_ : q = some _ := q_; subst q2_) | (simp [go_sem] at q_; have q2_ : q = some _ := q_; subst q2_) | (simp [go_sem, *] at q_; have q2_ : q = some _ := q_; subst q2_)
        have q_ := x1.bel.frozen (p := ⟨w.heap.size, 2, none⟩) (by first | omega | (simp; done) | (simp; omega))
        generalize z_x1_0_2 : x1.val.frozen? ⟨w.heap.size, 2, none⟩ = q at q_
        first | (have q2_ : q = false := q_; subst q2_) | (simp [go_sem] at q_; have q2_ : q = false := q_; subst q2_) | (simp [go_sem, *] at q_; have q2_ : q = false := q_; subst q2_)
        have q_ := x1.bel.cell (p := ⟨w.heap.size, 3, none⟩) (by first | omega | (simp; done) | (simp; omega))
        generalize c_x1_0_3 : x1.val.cell? ⟨w.heap.size, 3, none⟩ = q at q_
        first | (have q2_ : q = some _ := q_; subst q2_) | (simp [go_sem] at q_; have q2_ : q = some _ := q_; subst q2_) | (simp [go_sem, *] at q_; have q2_ : q = some _ := q_; subst q2_)
        have q_ := x1.bel.frozen (p := ⟨w.heap.size, 3, none⟩) (by first | omega | (simp; done) | (simp; omega))
        generalize z_x1_0_3 : x1.val.frozen? ⟨w.heap.size, 3, none⟩ = q at q_
        first | (have q2_ : q = false := q_; subst q2_) | (simp [go_sem] at q_; have q2_ : q = false := q_; subst q2_) | (simp [go_sem, *] at q_; have q2_ : q = false := q_; subst q2_)
        have q_ := x1.bel.cell (p := ⟨w.heap.size, 4, none⟩) (by first | omega | (simp; done) | (simp; omega))
        generalize c_x1_0_4 : x1.val.cell? ⟨w.heap.size, 4, none⟩ = q at q_
        first | (have q2_ : q = some _ := q_; subst q2_) | (simp [go_sem] at q_; have q2_ : q = some _ := q_; subst q2_) | (simp [go_sem, *] at q_; have q2_ : q = some _ := q_; subst q2_)
        have q_ := x1.bel.frozen (p := ⟨w.heap.size, 4, none⟩) (by first | omega | (simp; done) | (simp; omega))
        generalize z_x1_0_4 : x1.val.frozen? ⟨w.heap.size, 4, none⟩ = q at q_
        first | (have q2_ : q = false := q_; subst q2_) | (simp [go_sem] at q_; have q2_ : q = false := q_; subst q2_) | (simp [go_sem, *] at q_; have q2_ : q = false := q_; subst q2_)
        have l_x1_1 : w.heap.size+1 < x1.val.heap.size := by omega
        have m_x1_1 : w.heap.size+1 < x1.val.heap.size + 1 := by omega
        have q_ := x1.bel.cell (p := ⟨w.heap.size+1, 0, none⟩) (by first | omega | (simp; done) | (simp; omega))
        generalize c_x1_1_0 : x1.val.cell? ⟨w.heap.size+1, 0, none⟩ = q at q_
        first | (have q2_ : q = some _ := q_; subst q2_) | (simp [go_sem] at q_; have q2_ : q = some _ := q_; subst q2_) | (simp [go_sem, *] at q_; have q2_ : q = some _ := q_; subst q2_)
        have q_ := x1.bel.frozen (p := ⟨w.heap.size+1, 0, none⟩) (by first | omega | (simp; done) | (simp; omega))
        generalize z_x1_1_0 : x1.val.frozen? ⟨w.heap.size+1, 0, none⟩ = q at q_
        first | (have q2_ : q = false := q_; subst q2_) | (simp [go_sem] at q_; have q2_ : q = false := q_; subst q2_) | (simp [go_sem, *] at q_; have q2_ : q = false := q_; subst q2_)
        have q_ := x1.bel.cell (p := ⟨w.heap.size+1, 1, none⟩) (by first | omega | (simp; done) | (simp; omega))
        generalize c_x1_1_1 : x1.val.cell? ⟨w.heap.size+1, 1, none⟩ = q at q_
        first | (have q2_ : q = some _ := q_; subst q2_) | (simp [go_sem] at q_; have q2_ : q = some _ := q_; subst q2_) | (simp [go_sem, *] at q_; have q2_ : q = some _ := q_; subst q2_)
        have q_ := x1.bel.frozen (p := ⟨w.heap.size+1, 1, none⟩) (by first | omega | (simp; done) | (simp; omega))
        generalize z_x1_1_1 : x1.val.frozen? ⟨w.heap.size+1, 1, none⟩ = q at q_
        first | (have q2_ : q = false := q_; subst q2_) | (simp [go_sem] at q_; have q2_ : q = false := q_; subst q2_) | (simp [go_sem, *] at q_; have q2_ : q = false := q_; subst q2_)
        have q_ := x1.bel.cell (p := ⟨w.heap.size+1, 2, none⟩) (by first | omega | (simp; done) | (simp; omega))
        generalize c_x1_1_2 : x1.val.cell? ⟨w.heap.size+1, 2, none⟩ = q at q_
        first | (have q2_ : q = some _ := q_; subst q2_) | (simp [go_sem] at q_; have q2_ : q = some _ := q_; subst q2_) | (simp [go_sem, *] at q_; have q2_ : q = some _ := q_; subst q2_)
        have q_ := x1.bel.frozen (p := ⟨w.heap.size+1, 2, none⟩) (by first | omega | (simp; done) | (simp; omega))
        generalize z_x1_1_2 : x1.val.frozen? ⟨w.heap.size+1, 2, none⟩ = q at q_
        first | (have q2_ : q = false := q_; subst q2_) | (simp [go_sem] at q_; have q2_ : q = false := q_; subst q2_) | (simp [go_sem, *] at q_; have q2_ : q = false := q_; subst q2_)
        have q_ := x1.bel.cell (p := ⟨w.heap.size+1, 3, none⟩) (by first | omega | (simp; done) | (simp; omega))
        generalize c_x1_1_3 : x1.val.cell? ⟨w.heap.size+1, 3, none⟩ = q at q_
        first | (have q2_ : q = some _ := q_; subst q2_) | (simp [go_sem] at q_; have q2_ : q = some _ := q_; subst q2_) | (simp [go_sem, *] at q_; have q2_ : q = some _ := q_; subst q2_)
        have q_ := x1.bel.frozen (p := ⟨w.heap.size+1, 3, none⟩) (by first | omega | (simp; done) | (simp; omega))
        generalize z_x1_1_3 : x1.val.frozen? ⟨w.heap.size+1, 3, none⟩ = q at q_
        first | (have q2_ : q = false := q_; subst q2_) | (simp [go_sem] at q_; have q2_ : q = false := q_; subst q2_) | (simp [go_sem, *] at q_; have q2_ : q = false := q_; subst q2_)
        have q_ := x1.bel.cell (p := ⟨w.heap.size+1, 4, none⟩) (by first | omega | (simp; done) | (simp; omega))
        generalize c_x1_1_4 : x1.val.cell? ⟨w.heap.size+1, 4, none⟩ = q at q_
        first | (have q2_ : q = some _ := q_; subst q2_) | (simp [go_sem] at q_; have q2_ : q = some _ := q_; subst q2_) | (simp [go_sem, *] at q_; have q2_ : q = some _ := q_; subst q2_)
        have q_ := x1.bel.frozen (p := ⟨w.heap.size+1, 4, none⟩) (by first | omega | (simp; done) | (simp; omega))
        generalize z_x1_1_4 : x1.val.frozen? ⟨w.heap.size+1, 4, none⟩ = q at q_
        first | (have q2_ : q = false := q_; subst q2_) | (simp [go_sem] at q_; have q2_ : q = false := q_; subst q2_) | (simp [go_sem, *] at q_; have q2_ : q = false := q_; subst q2_)
        skip))
      refine bodyPost_ret (v := .agg #[.int .i64 (room : Int), .int .i64 (k : Int), .int .i64 (-1), .slice A' k c', .bool false]) (by simp [results, Try.results37, go_sem, *]) rfl (FIN.out _ _ _ (w.heap.size + 1 + 1) (by repeat (first | with_reducible exact HO.out | refine own_set ?_ (by omega) | refine own_below ?_ (bel_alloc (Below.refl _ _) _))) (by omega) (by repeat (first | with_reducible exact Below.refl _ _ | with_reducible refine bel_later _ ?_ | with_reducible refine bel_alloc ?_ _ | refine bel_set ?_ (by first | omega | (simp; done) | (simp; omega)) _ | with_reducible refine Below.drew ?_ | with_reducible refine bel_drewN ?_ _ | with_reducible assumption | assumption)))
    · go_enter Try.func37, Try.ntmps37
      go_wp2_with (
        at_builtin
        go_loud (
        refine wpList_append_sq (f := byw) _ rfl _ _ 24 rfl (fun _ => rfl) (w.heap.size + 1 + 1) 5 i0 _ _ Try.underlying24 hi hz0 rfl hz1 hz2 (by decide) _ [] rfl (own_sq_empty byw _ _ _ _ (by simp) (by simp)) w.heap.size _ (l.take k) c k HTK.out rfl (((HB.out.sq.below (B := w.heap.size) (by exact (by repeat (first | with_reducible exact Below.refl _ _ | with_reducible refine bel_later _ ?_ | with_reducible refine bel_alloc ?_ _ | refine bel_set ?_ (by first | omega | (simp; done) | (simp; omega)) _ | with_reducible refine Below.drew ?_ | with_reducible refine bel_drewN ?_ _ | with_reducible assumption | assumption)))).take k)) HB.out.nil (by simp; omega) (by simp) ?_
        intro A' c' w' hown hg hb
        obtain ⟨x1, rfl⟩ := later_is hb
        simp only [List.nil_append, HTK.out] at hown ⊢
        have HO := Lib.hid hown
        have hbw : Below w.heap.size w x1.val := Below.trans (by exact (by repeat (first | with_reducible exact Below.refl _ _ | with_reducible refine bel_later _ ?_ | with_reducible refine bel_alloc ?_ _ | refine bel_set ?_ (by first | omega | (simp; done) | (simp; omega)) _ | with_reducible refine Below.drew ?_ | with_reducible refine bel_drewN ?_ _ | with_reducible assumption | assumption))) (x1.bel.mono (by omega))
        clear hown hg hb
        have hz_x1 := x1.bel.size
        try simp at hz_x1
        have l_x1_0 : w.heap.size < x1.val.heap.size := by omega
        have m_x1_0 : w.heap.size < x1.val.heap.size + 1 := by omega
        have q_ := x1.bel.cell (p := ⟨w.heap.size, 0, none⟩) (by first | omega | (simp; done) | (simp; omega))
        generalize c_x1_0_0 : x1.val.cell? ⟨w.heap.size, 0, none⟩ = q at q_
        first | (have q2_ : q = some _ := q_; subst q2_) | (simp [go_sem] at q_; have q2_ : q = some _ := q_; subst q2_) | (simp [go_sem, *] at q_; have q2_ : q = some _ := q_; subst q2_)
        have q_ := x1.bel.frozen (p := ⟨w.heap.size, 0, none⟩) (by first | omega | (simp; done) | (simp; omega))
        generalize z_x1_0_0 : x1.val.frozen? ⟨w.heap.size, 0, none⟩ = q at q_
        first | (have q2_ : q = false := q_; subst q2_) | (simp [go_sem] at q_; have q2_ : q = false := q_; subst q2_) | (simp [go_sem, *] at q_; have q2_ : q = false := q_; subst q2_)
        have q_ := x1.bel.cell (p := ⟨w.heap.size, 1, none⟩) (by first | omega | (simp; done) | (simp; omega))
        generalize c_x1_0_1 : x1.val.cell? ⟨w.heap.size, 1, none⟩ = q at q_
        first | (have q2_ : q = some _ := q_; subst q2_) | (simp [go_sem] at q_; have q2_ : q = some _ := q_; subst q2_) | (simp [go_sem, *] at q_; have q2_ : q = some _ := q_; subst q2_)
        have q_ := x1.bel.frozen (p := ⟨w.heap.size, 1, none⟩) (by first | omega | (simp; done) | (simp; omega))
        generalize z_x1_0_1 : x1.val.frozen? ⟨w.heap.size, 1, none⟩ = q at q_
        first | (have q2_ : q = false := q_; subst q2_) | (simp [go_sem] at q_; have q2_ : q = false := q_; subst q2_) | (simp [go_sem, *] at q_; have q2_ : q = false := q_; subst q2_)
        have q_ := x1.bel.cell (p := ⟨w.heap.size, 2, none⟩) (by first | omega | (simp; done) | (simp; omega))
        generalize c_x1_0_2 : x1.val.cell? ⟨w.heap.size, 2, none⟩ = q at q_
        first | (have q2_ : q = some _ := q_; subst q2_) | (simp [go_sem] at q_; have q2_ : q = some _ := q_; subst q2_) | (simp [go_sem, *] at q_; have q2_ : q = some _ := q_; subst q2_)
        have q_ := x1.bel.frozen (p := ⟨w.heap.size, 2, none⟩) (by first | omega | (simp; done) | (simp; omega))
        generalize z_x1_0_2 : x1.val.frozen? ⟨w.heap.size, 2, none⟩ = q at q_
        first | (have q2_ : q = false := q_; subst q2_) | (simp [go_sem] at q_; have q2_ : q = false := q_; subst q2_) | (simp [go_sem, *] at q_; have q2_ : q = false := q_; subst q2_)
        have q_ := x1.bel.cell (p := ⟨w.heap.size, 3, none⟩) (by first | omega | (simp; done) | (simp; omega))
        generalize c_x1_0_3 : x1.val.cell? ⟨w.heap.size, 3, none⟩ = q at q_
        first | (have q2_ : q = some _ := q_; subst q2_) | (simp [go_sem] at q_; have q2_ : q = some _ := q_; subst q2_) | (simp [go_sem, *] at q_; have q2_ : q = some _ := q_; subst q2_)
        have q_ := x1.bel.frozen (p := ⟨w.heap.size, 3, none⟩) (by first | omega | (simp; done) | (simp; omega))
        generalize z_x1_0_3 : x1.val.frozen? ⟨w.heap.size, 3, none⟩ = q at q_
        first | (have q2_ : q = false := q_; subst q2_) | (simp [go_sem] at q_; have q2_ : q = false := q_; subst q2_) | (simp [go_sem, *] at q_; have q2_ : q = false := q_; subst q2_)
        have q_ := x1.bel.cell (p := ⟨w.heap.size, 4, none⟩) (by first | omega | (simp; done) | (simp; omega))
        generalize c_x1_0_4 : x1.val.cell? ⟨w.heap.size, 4, none⟩ = q at q_
        first | (have q2_ : q = some _ := q_; subst q2_) | (simp [go_sem] at q_; have q2_ : q = some _ := q_; subst q2_) | (simp [go_sem, *] at q_; have q2_ : q = some _ := q_; subst q2_)
        have q_ := x1.bel.frozen (p := ⟨w.heap.size, 4, none⟩) (by first | omega | (simp; done) | (simp; omega))
        generalize z_x1_0_4 : x1.val.frozen? ⟨w.heap.size, 4, none⟩ = q at q_
        first | (have q2_ : q = false := q_; subst q2_) | (simp [go_sem] at q_; have q2_ : q = false := q_; subst q2_) | (simp [go_sem, *] at q_; have q2_ : q = false := q_; subst q2_)
        have l_x1_1 : w.heap.size+1 < x1.val.heap.size := by omega
        have m_x1_1 : w.heap.size+1 < x1.val.heap.size + 1 := by omega
        have q_ := x1.bel.cell (p := ⟨w.heap.size+1, 0, none⟩) (by first | omega | (simp; done) | (simp; omega))
        generalize c_x1_1_0 : x1.val.cell? ⟨w.heap.size+1, 0, none⟩ = q at q_
        first | (have q2_ : q = some _ := q_; subst q2_) | (simp [go_sem] at q_; have q2_ : q = some _ := q_; subst q2_) | (simp [go_sem, *] at q_; have q2_ : q = some _ := q_; subst q2_)
        have q_ := x1.bel.frozen (p := ⟨w.heap.size+1, 0, none⟩) (by first | omega | (simp; done) | (simp; omega))
        generalize z_x1_1_0 : x1.val.frozen? ⟨w.heap.size+1, 0, none⟩ = q at q_
        first | (have q2_ : q = false := q_; subst q2_) | (simp [go_sem] at q_; have q2_ : q = false := q_; subst q2_) | (simp [go_sem, *] at q_; have q2_ : q = false := q_; subst q2_)
        have q_ := x1.bel.cell (p := ⟨w.heap.size+1, 1, none⟩) (by first | omega | (simp; done) | (simp; omega))
        generalize c_x1_1_1 : x1.val.cell? ⟨w.heap.size+1, 1, none⟩ = q at q_
        first | (have q2_ : q = some _ := q_; subst q2_) | (simp [go_sem] at q_; have q2_ : q = some _ := q_; subst q2_) | (simp [go_sem, *] at q_; have q2_ : q = some _ := q_; subst q2_)
        have q_ := x1.bel.frozen (p := ⟨w.heap.size+1, 1, none⟩) (by first | omega | (simp; done) | (simp; omega))
        generalize z_x1_1_1 : x1.val.frozen? ⟨w.heap.size+1, 1, none⟩ = q at q_
        first | (have q2_ : q = false := q_; subst q2_) | (simp [go_sem] at q_; have q2_ : q = false := q_; subst q2_) | (simp [go_sem, *] at q_; have q2_ : q = false := q_; subst q2_)
        have q_ := x1.bel.cell (p := ⟨w.heap.size+1, 2, none⟩) (by first | omega | (simp; done) | (simp; omega))
        generalize c_x1_1_2 : x1.val.cell? ⟨w.heap.size+1, 2, none⟩ = q at q_
        first | (have q2_ : q = some _ := q_; subst q2_) | (simp [go_sem] at q_; have q2_ : q = some _ := q_; subst q2_) | (simp [go_sem, *] at q_; have q2_ : q = some _ := q_; subst q2_)
        have q_ := x1.bel.frozen (p := ⟨w.heap.size+1, 2, none⟩) (by first | omega | (simp; done) | (simp; omega))
        generalize z_x1_1_2 : x1.val.frozen? ⟨w.heap.size+1, 2, none⟩ = q at q_
        first | (have q2_ : q = false := q_; subst q2_) | (simp [go_sem] at q_; have q2_ : q = false := q_; subst q2_) | (simp [go_sem, *] at q_; have q2_ : q = false := q_; subst q2_)
        have q_ := x1.bel.cell (p := ⟨w.heap.size+1, 3, none⟩) (by first | omega | (simp; done) | (simp; omega))
        generalize c_x1_1_3 : x1.val.cell? ⟨w.heap.size+1, 3, none⟩ = q at q_
        first | (have q2_ : q = some _ := q_; subst q2_) | (simp [go_sem] at q_; have q2_ : q = some _ := q_; subst q2_) | (simp [go_sem, *] at q_; have q2_ : q = some _ := q_; subst q2_)
        have q_ := x1.bel.frozen (p := ⟨w.heap.size+1, 3, none⟩) (by first | omega | (simp; done) | (simp; omega))
        generalize z_x1_1_3 : x1.val.frozen? ⟨w.heap.size+1, 3, none⟩ = q at q_
        first | (have q2_ : q = false := q_; subst q2_) | (simp [go_sem] at q_; have q2_ : q = false := q_; subst q2_) | (simp [go_sem, *] at q_; have q2_ : q = false := q_; subst q2_)
        have q_ := x1.bel.cell (p := ⟨w.heap.size+1, 4, none⟩) (by first | omega | (simp; done) | (simp; omega))
        generalize c_x1_1_4 : x1.val.cell? ⟨w.heap.size+1, 4, none⟩ = q at q_
        first | (have q2_ : q = some _ := q_; subst q2_) | (simp [go_sem] at q_; have q2_ : q = some _ := q_; subst q2_) | (simp [go_sem, *] at q_; have q2_ : q = some _ := q_; subst q2_)
        have q_ := x1.bel.frozen (p := ⟨w.heap.size+1, 4, none⟩) (by first | omega | (simp; done) | (simp; omega))
        generalize z_x1_1_4 : x1.val.frozen? ⟨w.heap.size+1, 4, none⟩ = q at q_
        first | (have q2_ : q = false := q_; subst q2_) | (simp [go_sem] at q_; have q2_ : q = false := q_; subst q2_) | (simp [go_sem, *] at q_; have q2_ : q = false := q_; subst q2_)
        skip))
      refine bodyPost_ret (v := .agg #[.int .i64 (room : Int), .int .i64 (k : Int), .int .i64 (-1), .slice A' k c', .bool false]) (by simp [results, Try.results37, go_sem, *]) rfl (FIN.out _ _ _ (w.heap.size + 1 + 1) (by repeat (first | with_reducible exact HO.out | refine own_set ?_ (by omega) | refine own_below ?_ (bel_alloc (Below.refl _ _) _))) (by omega) (by repeat (first | with_reducible exact Below.refl _ _ | with_reducible refine bel_later _ ?_ | with_reducible refine bel_alloc ?_ _ | refine bel_set ?_ (by first | omega | (simp; done) | (simp; omega)) _ | with_reducible refine Below.drew ?_ | with_reducible refine bel_drewN ?_ _ | with_reducible assumption | assumption)))
  · obtain ⟨j, rfl⟩ : ∃ j : Nat, n = (j : Int) := ⟨n.toNat, by omega⟩
    have g2 : decide (q < j) = false := decide_eq_false (by omega)
    have hsq : (safe : Int) + (j : Int) = (k : Int) := by omega
    have hk0 : (0 : Int) ≤ (k : Int) := by omega
    have hkc' : (k : Int) ≤ (c : Int) := by omega
    clear hm hzl hk hq HE hok hb g1 h1 h2
    cases A
    · go_enter Try.func37, Try.ntmps37
      go_wp2_with (
        at_builtin
        go_loud (
        refine wpList_append_sq (f := byw) _ rfl _ _ 24 rfl (fun _ => rfl) (w.heap.size + 1 + 1) 5 i0 _ _ Try.underlying24 hi hz0 rfl hz1 hz2 (by decide) _ [] rfl (own_sq_empty byw _ _ _ _ (by simp) (by simp)) w.heap.size _ (l.take k) c k HTK.out rfl (((HB.out.sq.below (B := w.heap.size) (by exact (by repeat (first | with_reducible exact Below.refl _ _ | with_reducible refine bel_later _ ?_ | with_reducible refine bel_alloc ?_ _ | refine bel_set ?_ (by first | omega | (simp; done) | (simp; omega)) _ | with_reducible refine Below.drew ?_ | with_reducible refine bel_drewN ?_ _ | with_reducible assumption | assumption)))).take k)) HB.out.nil (by simp; omega) (by simp) ?_
        intro A' c' w' hown hg hb
        obtain ⟨x1, rfl⟩ := later_is hb
        simp only [List.nil_append, HTK.out] at hown ⊢
        have HO := Lib.hid hown
        have hbw : Below w.heap.size w x1.val := Below.trans (by exact (by repeat (first | with_reducible exact Below.refl _ _ | with_reducible refine bel_later _ ?_ | with_reducible refine bel_alloc ?_ _ | refine bel_set ?_ (by first | omega | (simp; done) | (simp; omega)) _ | with_reducible refine Below.drew ?_ | with_reducible refine bel_drewN ?_ _ | with_reducible assumption | assumption))) (x1.bel.mono (by omega))
        clear hown hg hb
        have hz_x1 := x1.bel.size
        try simp at hz_x1
        have l_x1_0 : w.heap.size < x1.val.heap.size := by omega
        have m_x1_0 : w.heap.size < x1.val.heap.size + 1 := by omega
        have q_ := x1.bel.cell (p := ⟨w.heap.size, 0, none⟩) (by first | omega | (simp; done) | (simp; omega))
        generalize c_x1_0_0 : x1.val.cell? ⟨w.heap.size, 0, none⟩ = q at q_
        first | (have q2_ : q = some _ := q_; subst q2_) | (simp [go_sem] at q_; have q2_ : q = some _ := q_; subst q2_) | (simp [go_sem, *] at q_; have q2_ : q = some _ := q_; subst q2_)
        have q_ := x1.bel.frozen (p := ⟨w.heap.size, 0, none⟩) (by first | omega | (simp; done) | (simp; omega))
        generalize z_x1_0_0 : x1.val.frozen? ⟨w.heap.size, 0, none⟩ = q at q_
        first | (have q2_ : q = false := q_; subst q2_) | (simp [go_sem] at q_; have q2_ : q = false := q_; subst q2_) | (simp [go_sem, *] at q_; have q2_ : q = false := q_; subst q2_)
        have q_ := x1.bel.cell (p := ⟨w.heap.size, 1, none⟩) (by first | omega | (simp; done) | (simp; omega))
        generalize c_x1_0_1 : x1.val.cell? ⟨w.heap.size, 1, none⟩ = q at q_
        first | (have q2_ : q = some _ := q_; subst q2_) | (simp [go_sem] at q_; have q2_ : q = some _ := q_; subst q2_) | (simp [go_sem, *] at q_; have q2_ : q = some _ := q_; subst q2_)
        have q_ := x1.bel.frozen (p := ⟨w.heap.size, 1, none⟩) (by first | omega | (simp; done) | (simp; omega))
        generalize z_x1_0_1 : x1.val.frozen? ⟨w.heap.size, 1, none⟩ = q at q_
        first | (have q2_ : q = false := q_; subst q2_) | (simp [go_sem] at q_; have q2_ : q = false := q_; subst q2_) | (simp [go_sem, *] at q_; have q2_ : q = false := q_; subst q2_)
        have q_ := x1.bel.cell (p := ⟨w.heap.size, 2, none⟩) (by first | omega | (simp; done) | (simp; omega))
        generalize c_x1_0_2 : x1.val.cell? ⟨w.heap.size, 2, none⟩ = q at q_
        first | (have q2_ : q = some _ := q_; subst q2_) | (simp [go_sem] at q_; have q2_ : q = some _ := q_; subst q2_) | (simp [go_sem, *] at q_; have q2_ : q = some _ := q_; subst q2_)
        have q_ := x1.bel.frozen (p := ⟨w.heap.size, 2, none⟩) (by first | omega | (simp; done) | (simp; omega))
        generalize z_x1_0_2 : x1.val.frozen? ⟨w.heap.size, 2, none⟩ = q at q_
        first | (have q2_ : q = false := q_; subst q2_) | (simp [go_sem] at q_; have q2_ : q = false := q_; subst q2_) | (simp [go_sem, *] at q_; have q2_ : q = false := q_; subst q2_)
        have q_ := x1.bel.cell (p := ⟨w.heap.size, 3, none⟩) (by first | omega | (simp; done) | (simp; omega))
        generalize c_x1_0_3 : x1.val.cell? ⟨w.heap.size, 3, none⟩ = q at q_
        first | (have q2_ : q = some _ := q_; subst q2_) | (simp [go_sem] at q_; have q2_ : q = some _ := q_; subst q2_) | (simp [go_sem, *] at q_; have q2_ : q = some _ := q_; subst q2_)
        have q_ := x1.bel.frozen (p := ⟨w.heap.size, 3, none⟩) (by first | omega | (simp; done) | (simp; omega))
        generalize z_x1_0_3 : x1.val.frozen? ⟨w.heap.size, 3, none⟩ = q at q_
        first | (have q2_ : q = false := q_; subst q2_) | (simp [go_sem] at q_; have q2_ : q = false := q_; subst q2_) | (simp [go_sem, *] at q_; have q2_ : q = false := q_; subst q2_)
        have q_ := x1.bel.cell (p := ⟨w.heap.size, 4, none⟩) (by first | omega | (simp; done) | (simp; omega))
        generalize c_x1_0_4 : x1.val.cell? ⟨w.heap.size, 4, none⟩ = q at q_
        first | (have q2_ : q = some _ := q_; subst q2_) | (simp [go_sem] at q_; have q2_ : q = some _ := q_; subst q2_) | (simp [go_sem, *] at q_; have q2_ : q = some _ := q_; subst q2_)
        have q_ := x1.bel.frozen (p := ⟨w.heap.size, 4, none⟩) (by first | omega | (simp; done) | (simp; omega))
        generalize z_x1_0_4 : x1.val.frozen? ⟨w.heap.size, 4, none⟩ = q at q_
        first | (have q2_ : q = false := q_; subst q2_) | (simp [go_sem] at q_; have q2_ : q = false := q_; subst q2_) | (simp [go_sem, *] at q_; have q2_ : q = false := q_; subst q2_)
        have l_x1_1 : w.heap.size+1 < x1.val.heap.size := by omega
        have m_x1_1 : w.heap.size+1 < x1.val.heap.size + 1 := by omega
        have q_ := x1.bel.cell (p := ⟨w.heap.size+1, 0, none⟩) (by first | omega | (simp; done) | (simp; omega))
        generalize c_x1_1_0 : x1.val.cell? ⟨w.heap.size+1, 0, none⟩ = q at q_
        first | (have q2_ : q = some _ := q_; subst q2_) | (simp [go_sem] at q_; have q2_ : q = some _ := q_; subst q2_) | (simp [go_sem, *] at q_; have q2_ : q = some _ := q_; subst q2_)
        have q_ := x1.bel.frozen (p := ⟨w.heap.size+1, 0, none⟩) (by first | omega | (simp; done) | (simp; omega))
        generalize z_x1_1_0 : x1.val.frozen? ⟨w.heap.size+1, 0, none⟩ = q at q_
        first | (have q2_ : q = false := q_; subst q2_) | (simp [go_sem] at q_; have q2_ : q = false := q_; subst q2_) | (simp [go_sem, *] at q_; have q2_ : q = false := q_; subst q2_)
        have q_ := x1.bel.cell (p := ⟨w.heap.size+1, 1, none⟩) (by first | omega | (simp; done) | (simp; omega))
        generalize c_x1_1_1 : x1.val.cell? ⟨w.heap.size+1, 1, none⟩ = q at q_
        first | (have q2_ : q = some _ := q_; subst q2_) | (simp [go_sem] at q_; have q2_ : q = some _ := q_; subst q2_) | (simp [go_sem, *] at q_; have q2_ : q = some _ := q_; subst q2_)
        have q_ := x1.bel.frozen (p := ⟨w.heap.size+1, 1, none⟩) (by first | omega | (simp; done) | (simp; omega))
        generalize z_x1_1_1 : x1.val.frozen? ⟨w.heap.size+1, 1, none⟩ = q at q_
        first | (have q2_ : q = false := q_; subst q2_) | (simp [go_sem] at q_; have q2_ : q = false := q_; subst q2_) | (simp [go_sem, *] at q_; have q2_ : q = false := q_; subst q2_)
        have q_ := x1.bel.cell (p := ⟨w.heap.size+1, 2, none⟩) (by first | omega | (simp; done) | (simp; omega))
        generalize c_x1_1_2 : x1.val.cell? ⟨w.heap.size+1, 2, none⟩ = q at q_
        first | (have q2_ : q = some _ := q_; subst q2_) | (simp [go_sem] at q_; have q2_ : q = some _ := q_; subst q2_) | (simp [go_sem, *] at q_; have q2_ : q = some _ := q_; subst q2_)
        have q_ := x1.bel.frozen (p := ⟨w.heap.size+1, 2, none⟩) (by first | omega | (simp; done) | (simp; omega))
        generalize z_x1_1_2 : x1.val.frozen? ⟨w.heap.size+1, 2, none⟩ = q at q_
        first | (have q2_ : q = false := q_; subst q2_) | (simp [go_sem] at q_; have q2_ : q = false := q_; subst q2_) | (simp [go_sem, *] at q_; have q2_ : q = false := q_; subst q2_)
        have q_ := x1.bel.cell (p := ⟨w.heap.size+1, 3, none⟩) (by first | omega | (simp; done) | (simp; omega))
        generalize c_x1_1_3 : x1.val.cell? ⟨w.heap.size+1, 3, none⟩ = q at q_
        first | (have q2_ : q = some _ := q_; subst q2_) | (simp [go_sem] at q_; have q2_ : q = some _ := q_; subst q2_) | (simp [go_sem, *] at q_; have q2_ : q = some _ := q_; subst q2_)
        have q_ := x1.bel.frozen (p := ⟨w.heap.size+1, 3, none⟩) (by first | omega | (simp; done) | (simp; omega))
        generalize z_x1_1_3 : x1.val.frozen? ⟨w.heap.size+1, 3, none⟩ = q at q_
        first | (have q2_ : q = false := q_; subst q2_) | (simp [go_sem] at q_; have q2_ : q = false := q_; subst q2_) | (simp [go_sem, *] at q_; have q2_ : q = false := q_; subst q2_)
        have q_ := x1.bel.cell (p := ⟨w.heap.size+1, 4, none⟩) (by first | omega | (simp; done) | (simp; omega))
        generalize c_x1_1_4 : x1.val.cell? ⟨w.heap.size+1, 4, none⟩ = q at q_
        first | (have q2_ : q = some _ := q_; subst q2_) | (simp [go_sem] at q_; have q2_ : q = some _ := q_; subst q2_) | (simp [go_sem, *] at q_; have q2_ : q = some _ := q_; subst q2_)
        have q_ := x1.bel.frozen (p := ⟨w.heap.size+1, 4, none⟩) (by first | omega | (simp; done) | (simp; omega))
        generalize z_x1_1_4 : x1.val.frozen? ⟨w.heap.size+1, 4, none⟩ = q at q_
        first | (have q2_ : q = false := q_; subst q2_) | (simp [go_sem] at q_; have q2_ : q = false := q_; subst q2_) | (simp [go_sem, *] at q_; have q2_ : q = false := q_; subst q2_)
        skip))
      refine bodyPost_ret (v := .agg #[.int .i64 (room : Int), .int .i64 (k : Int), .int .i64 (-1), .slice A' k c', .bool false]) (by simp [results, Try.results37, go_sem, *]) rfl (FIN.out _ _ _ (w.heap.size + 1 + 1) (by repeat (first | with_reducible exact HO.out | refine own_set ?_ (by omega) | refine own_below ?_ (bel_alloc (Below.refl _ _) _))) (by omega) (by repeat (first | with_reducible exact Below.refl _ _ | with_reducible refine bel_later _ ?_ | with_reducible refine bel_alloc ?_ _ | refine bel_set ?_ (by first | omega | (simp; done) | (simp; omega)) _ | with_reducible refine Below.drew ?_ | with_reducible refine bel_drewN ?_ _ | with_reducible assumption | assumption)))
    · go_enter Try.func37, Try.ntmps37
      go_wp2_with (
        at_builtin
        go_loud (
        refine wpList_append_sq (f := byw) _ rfl _ _ 24 rfl (fun _ => rfl) (w.heap.size + 1 + 1) 5 i0 _ _ Try.underlying24 hi hz0 rfl hz1 hz2 (by decide) _ [] rfl (own_sq_empty byw _ _ _ _ (by simp) (by simp)) w.heap.size _ (l.take k) c k HTK.out rfl (((HB.out.sq.below (B := w.heap.size) (by exact (by repeat (first | with_reducible exact Below.refl _ _ | with_reducible refine bel_later _ ?_ | with_reducible refine bel_alloc ?_ _ | refine bel_set ?_ (by first | omega | (simp; done) | (simp; omega)) _ | with_reducible refine Below.drew ?_ | with_reducible refine bel_drewN ?_ _ | with_reducible assumption | assumption)))).take k)) HB.out.nil (by simp; omega) (by simp) ?_
        intro A' c' w' hown hg hb
        obtain ⟨x1, rfl⟩ := later_is hb
        simp only [List.nil_append, HTK.out] at hown ⊢
        have HO := Lib.hid hown
        have hbw : Below w.heap.size w x1.val := Below.trans (by exact (by repeat (first | with_reducible exact Below.refl _ _ | with_reducible refine bel_later _ ?_ | with_reducible refine bel_alloc ?_ _ | refine bel_set ?_ (by first | omega | (simp; done) | (simp; omega)) _ | with_reducible refine Below.drew ?_ | with_reducible refine bel_drewN ?_ _ | with_reducible assumption | assumption))) (x1.bel.mono (by omega))
        clear hown hg hb
        have hz_x1 := x1.bel.size
        try simp at hz_x1
        have l_x1_0 : w.heap.size < x1.val.heap.size := by omega
        have m_x1_0 : w.heap.size < x1.val.heap.size + 1 := by omega
        have q_ := x1.bel.cell (p := ⟨w.heap.size, 0, none⟩) (by first | omega | (simp; done) | (simp; omega))
        generalize c_x1_0_0 : x1.val.cell? ⟨w.heap.size, 0, none⟩ = q at q_
        first | (have q2_ : q = some _ := q_; subst q2_) | (simp [go_sem] at q_; have q2_ : q = some _ := q_; subst q2_) | (simp [go_sem, *] at q_; have q2_ : q = some _ := q_; subst q2_)
        have q_ := x1.bel.frozen (p := ⟨w.heap.size, 0, none⟩) (by first | omega | (simp; done) | (simp; omega))
        generalize z_x1_0_0 : x1.val.frozen? ⟨w.heap.size, 0, none⟩ = q at q_
        first | (have q2_ : q = false := q_; subst q2_) | (simp [go_sem] at q_; have q2_ : q = false := q_; subst q2_) | (simp [go_sem, *] at q_; have q2_ : q = false := q_; subst q2_)
        have q_ := x1.bel.cell (p := ⟨w.heap.size, 1, none⟩) (by first | omega | (simp; done) | (simp; omega))
        generalize c_x1_0_1 : x1.val.cell? ⟨w.heap.size, 1, none⟩ = q at q_
        first | (have q2_ : q = some _ := q_; subst q2_) | (simp [go_sem] at q_; have q2_ : q = some _ := q_; subst q2_) | (simp [go_sem, *] at q_; have q2_ : q = some _ := q_; subst q2_)
        have q_ := x1.bel.frozen (p := ⟨w.heap.size, 1, none⟩) (by first | omega | (simp; done) | (simp; omega))
        generalize z_x1_0_1 : x1.val.frozen? ⟨w.heap.size, 1, none⟩ = q at q_
        first | (have q2_ : q = false := q_; subst q2_) | (simp [go_sem] at q_; have q2_ : q = false := q_; subst q2_) | (simp [go_sem, *] at q_; have q2_ : q = false := q_; subst q2_)
        have q_ := x1.bel.cell (p := ⟨w.heap.size, 2, none⟩) (by first | omega | (simp; done) | (simp; omega))
        generalize c_x1_0_2 : x1.val.cell? ⟨w.heap.size, 2, none⟩ = q at q_
        first | (have q2_ : q = some _ := q_; subst q2_) | (simp [go_sem] at q_; have q2_ : q = some _ := q_; subst q2_) | (simp [go_sem, *] at q_; have q2_ : q = some _ := q_; subst q2_)
        have q_ := x1.bel.frozen (p := ⟨w.heap.size, 2, none⟩) (by first | omega | (simp; done) | (simp; omega))
        generalize z_x1_0_2 : x1.val.frozen? ⟨w.heap.size, 2, none⟩ = q at q_
        first | (have q2_ : q = false := q_; subst q2_) | (simp [go_sem] at q_; have q2_ : q = false := q_; subst q2_) | (simp [go_sem, *] at q_; have q2_ : q = false := q_; subst q2_)
        have q_ := x1.bel.cell (p := ⟨w.heap.size, 3, none⟩) (by first | omega | (simp; done) | (simp; omega))
        generalize c_x1_0_3 : x1.val.cell? ⟨w.heap.size, 3, none⟩ = q at q_
        first | (have q2_ : q = some _ := q_; subst q2_) | (simp [go_sem] at q_; have q2_ : q = some _ := q_; subst q2_) | (simp [go_sem, *] at q_; have q2_ : q = some _ := q_; subst q2_)
        have q_ := x1.bel.frozen (p := ⟨w.heap.size, 3, none⟩) (by first | omega | (simp; done) | (simp; omega))
        generalize z_x1_0_3 : x1.val.frozen? ⟨w.heap.size, 3, none⟩ = q at q_
        first | (have q2_ : q = false := q_; subst q2_) | (simp [go_sem] at q_; have q2_ : q = false := q_; subst q2_) | (simp [go_sem, *] at q_; have q2_ : q = false := q_; subst q2_)
        have q_ := x1.bel.cell (p := ⟨w.heap.size, 4, none⟩) (by first | omega | (simp; done) | (simp; omega))
        generalize c_x1_0_4 : x1.val.cell? ⟨w.heap.size, 4, none⟩ = q at q_
        first | (have q2_ : q = some _ := q_; subst q2_) | (simp [go_sem] at q_; have q2_ : q = some _ := q_; subst q2_) | (simp [go_sem, *] at q_; have q2_ : q = some _ := q_; subst q2_)
        have q_ := x1.bel.frozen (p := ⟨w.heap.size, 4, none⟩) (by first | omega | (simp; done) | (simp; omega))
        generalize z_x1_0_4 : x1.val.frozen? ⟨w.heap.size, 4, none⟩ = q at q_
        first | (have q2_ : q = false := q_; subst q2_) | (simp [go_sem] at q_; have q2_ : q = false := q_; subst q2_) | (simp [go_sem, *] at q_; have q2_ : q = false := q_; subst q2_)
        have l_x1_1 : w.heap.size+1 < x1.val.heap.size := by omega
        have m_x1_1 : w.heap.size+1 < x1.val.heap.size + 1 := by omega
        have q_ := x1.bel.cell (p := ⟨w.heap.size+1, 0, none⟩) (by first | omega | (simp; done) | (simp; omega))
        generalize c_x1_1_0 : x1.val.cell? ⟨w.heap.size+1, 0, none⟩ = q at q_
        first | (have q2_ : q = some _ := q_; subst q2_) | (simp [go_sem] at q_; have q2_ : q = some _ := q_; subst q2_) | (simp [go_sem, *] at q_; have q2_ : q = some _ := q_; subst q2_)
        have q_ := x1.bel.frozen (p := ⟨w.heap.size+1, 0, none⟩) (by first | omega | (simp; done) | (simp; omega))
        generalize z_x1_1_0 : x1.val.frozen? ⟨w.heap.size+1, 0, none⟩ = q at q_
        first | (have q2_ : q = false := q_; subst q2_) | (simp [go_sem] at q_; have q2_ : q = false := q_; subst q2_) | (simp [go_sem, *] at q_; have q2_ : q = false := q_; subst q2_)
        have q_ := x1.bel.cell (p := ⟨w.heap.size+1, 1, none⟩) (by first | omega | (simp; done) | (simp; omega))
        generalize c_x1_1_1 : x1.val.cell? ⟨w.heap.size+1, 1, none⟩ = q at q_
        first | (have q2_ : q = some _ := q_; subst q2_) | (simp [go_sem] at q_; have q2_ : q = some _ := q_; subst q2_) | (simp [go_sem, *] at q_; have q2_ : q = some _ := q_; subst q2_)
        have q_ := x1.bel.frozen (p := ⟨w.heap.size+1, 1, none⟩) (by first | omega | (simp; done) | (simp; omega))
        generalize z_x1_1_1 : x1.val.frozen? ⟨w.heap.size+1, 1, none⟩ = q at q_
        first | (have q2_ : q = false := q_; subst q2_) | (simp [go_sem] at q_; have q2_ : q = false := q_; subst q2_) | (simp [go_sem, *] at q_; have q2_ : q = false := q_; subst q2_)
        have q_ := x1.bel.cell (p := ⟨w.heap.size+1, 2, none⟩) (by first | omega | (simp; done) | (simp; omega))
        generalize c_x1_1_2 : x1.val.cell? ⟨w.heap.size+1, 2, none⟩ = q at q_
        first | (have q2_ : q = some _ := q_; subst q2_) | (simp [go_sem] at q_; have q2_ : q = some _ := q_; subst q2_) | (simp [go_sem, *] at q_; have q2_ : q = some _ := q_; subst q2_)
        have q_ := x1.bel.frozen (p := ⟨w.heap.size+1, 2, none⟩) (by first | omega | (simp; done) | (simp; omega))
        generalize z_x1_1_2 : x1.val.frozen? ⟨w.heap.size+1, 2, none⟩ = q at q_
        first | (have q2_ : q = false := q_; subst q2_) | (simp [go_sem] at q_; have q2_ : q = false := q_; subst q2_) | (simp [go_sem, *] at q_; have q2_ : q = false := q_; subst q2_)
        have q_ := x1.bel.cell (p := ⟨w.heap.size+1, 3, none⟩) (by first | omega | (simp; done) | (simp; omega))
        generalize c_x1_1_3 : x1.val.cell? ⟨w.heap.size+1, 3, none⟩ = q at q_
        first | (have q2_ : q = some _ := q_; subst q2_) | (simp [go_sem] at q_; have q2_ : q = some _ := q_; subst q2_) | (simp [go_sem, *] at q_; have q2_ : q = some _ := q_; subst q2_)
        have q_ := x1.bel.frozen (p := ⟨w.heap.size+1, 3, none⟩) (by first | omega | (simp; done) | (simp; omega))
        generalize z_x1_1_3 : x1.val.frozen? ⟨w.heap.size+1, 3, none⟩ = q at q_
        first | (have q2_ : q = false := q_; subst q2_) | (simp [go_sem] at q_; have q2_ : q = false := q_; subst q2_) | (simp [go_sem, *] at q_; have q2_ : q = false := q_; subst q2_)
        have q_ := x1.bel.cell (p := ⟨w.heap.size+1, 4, none⟩) (by first | omega | (simp; done) | (simp; omega))
        generalize c_x1_1_4 : x1.val.cell? ⟨w.heap.size+1, 4, none⟩ = q at q_
        first | (have q2_ : q = some _ := q_; subst q2_) | (simp [go_sem] at q_; have q2_ : q = some _ := q_; subst q2_) | (simp [go_sem, *] at q_; have q2_ : q = some _ := q_; subst q2_)
        have q_ := x1.bel.frozen (p := ⟨w.heap.size+1, 4, none⟩) (by first | omega | (simp; done) | (simp; omega))
        generalize z_x1_1_4 : x1.val.frozen? ⟨w.heap.size+1, 4, none⟩ = q at q_
        first | (have q2_ : q = false := q_; subst q2_) | (simp [go_sem] at q_; have q2_ : q = false := q_; subst q2_) | (simp [go_sem, *] at q_; have q2_ : q = false := q_; subst q2_)
        skip))
      refine bodyPost_ret (v := .agg #[.int .i64 (room : Int), .int .i64 (k : Int), .int .i64 (-1), .slice A' k c', .bool false]) (by simp [results, Try.results37, go_sem, *]) rfl (FIN.out _ _ _ (w.heap.size + 1 + 1) (by repeat (first | with_reducible exact HO.out | refine own_set ?_ (by omega) | refine own_below ?_ (bel_alloc (Below.refl _ _) _))) (by omega) (by repeat (first | with_reducible exact Below.refl _ _ | with_reducible refine bel_later _ ?_ | with_reducible refine bel_alloc ?_ _ | refine bel_set ?_ (by first | omega | (simp; done) | (simp; omega)) _ | with_reducible refine Below.drew ?_ | with_reducible refine bel_drewN ?_ _ | with_reducible assumption | assumption)))
end Go.Proofs.Ytbokggilfepdhaa
namespace Go.Proofs.Ytbokggilfepdhaa
open Go.RowKit
set_option linter.unusedVariables false
attribute [local go_sem] Later.cell Later.frozen setCell_twice
set_option maxRecDepth 100000 in
set_option maxHeartbeats 2000000 in
theorem rcut_any (D : Dk) (A : Option Addr) (c : Nat) (w : World) (n : Int) (hlo : -9223372036854775808 ≤ n) (hhi : n ≤ 9223372036854775807) (hok : D.Ok) (hb : Rb w A c D.l) :
    Calls Try.prog 52 #[D.R A c, .int .i64 n] w (RdP w A (D.cut n)) := by
  obtain ⟨i0, hi, hz0, hz1, hz2⟩ := info_parts info_b8
  have HB := Lib.hid hb
  have hcap := hb.cap
  have hmc := hb.le
  obtain ⟨D1, b, hd⟩ : ∃ D1 b, D.sparked = (D1, b) := ⟨_, _, rfl⟩
  have hll := Dk.sparked_l D
  rw [hd] at hll
  have ks := Lib.hid (fun w => rspark_any D D1 b A c w hok.left hd)
  obtain ⟨HC, hC⟩ : ∃ r, D.cut n = r := ⟨_, rfl⟩
  rw [hC]
  unfold Dk.cut at hC
  rw [hd] at hC
  have hmr : D.l.length ≤ 262144 := Nat.le_trans hok.room hok.hi
  clear hd hok hb
  obtain ⟨room, l, safe, left, off⟩ := D
  obtain ⟨room1, l1, safe1, left1, off1⟩ := D1
  obtain ⟨zl, hzl⟩ : ∃ z, lf left = z := ⟨_, rfl⟩
  obtain ⟨zl1, hzl1⟩ : ∃ z, lf left1 = z := ⟨_, rfl⟩
  obtain ⟨m, hm⟩ : ∃ m, l.length = m := ⟨_, rfl⟩
  simp only [Dk.R, hzl, hzl1] at ks ⊢
  dsimp only at hll hC hmc hmr
  obtain ⟨rfl, rfl, rfl⟩ := hll
  rw [hm] at ks hmc hmr hC ⊢
  have HM := Lib.hid hm
  have HZ := Lib.hid hzl
  have HZ1 := Lib.hid hzl1
  clear hm hzl hzl1
  cases off
  · rw [if_neg (by decide)] at hC
    by_cases h1 : n < 0
    · rw [if_pos (Or.inl h1)] at hC
      subst hC
      go_enter Try.func52, Try.ntmps52
      go_wp2
      refine bodyPost_ret (v := .tuple #[.agg #[.int .i64 (room1 : Int), .int .i64 (safe1 : Int), .int .i64 zl, .slice A m c, .bool false], .int .i64 2]) (by simp [results, Try.results52, go_sem, *]) rfl (RdP.of HB.out rfl (by simp [Dk.R, HM.out, HZ.out]) (by repeat (first | with_reducible exact Below.refl _ _ | with_reducible refine bel_later _ ?_ | with_reducible refine bel_alloc ?_ _ | refine bel_set ?_ (by first | omega | (simp; done) | (simp; omega)) _ | with_reducible refine Below.drew ?_ | with_reducible refine bel_drewN ?_ _ | with_reducible assumption | assumption)))
    · have g1 : decide (n < 0) = false := decide_eq_false h1
      by_cases h2 : (m : Int) < n
      · rw [if_pos (Or.inr h2)] at hC
        subst hC
        have g2 : decide ((m : Int) < n) = true := decide_eq_true h2
        go_enter Try.func52, Try.ntmps52
        go_wp2
        refine bodyPost_ret (v := .tuple #[.agg #[.int .i64 (room1 : Int), .int .i64 (safe1 : Int), .int .i64 zl, .slice A m c, .bool false], .int .i64 2]) (by simp [results, Try.results52, go_sem, *]) rfl (RdP.of HB.out rfl (by simp [Dk.R, HM.out, HZ.out]) (by repeat (first | with_reducible exact Below.refl _ _ | with_reducible refine bel_later _ ?_ | with_reducible refine bel_alloc ?_ _ | refine bel_set ?_ (by first | omega | (simp; done) | (simp; omega)) _ | with_reducible refine Below.drew ?_ | with_reducible refine bel_drewN ?_ _ | with_reducible assumption | assumption)))
      · obtain ⟨k, rfl⟩ : ∃ k : Nat, n = (k : Int) := ⟨n.toNat, by omega⟩
        rw [if_neg (by omega)] at hC
        have hkm : k ≤ m := by omega
        have hkc : k ≤ c := by omega
        have g2 : decide (m < k) = false := decide_eq_false (by omega)
        have HTK : Hid ((l1.take k).length = k) := Lib.hid (by rw [List.length_take, HM.out]; omega)
        clear h1 h2 g1
        cases b
        · rw [if_neg (by decide)] at hC
          subst hC
          go_enter Try.func52, Try.ntmps52
          go_wp2_with fail
          refine (ks.out _).mono ?_
          rintro e_x1 w_x1 ⟨rfl, hb_x1⟩
          obtain ⟨x1, rfl⟩ := later_is hb_x1
          clear hb_x1
          have hz_x1 := x1.bel.size
          try simp at hz_x1
          have l_x1_0 : w.heap.size < x1.val.heap.size := by omega
          have m_x1_0 : w.heap.size < x1.val.heap.size + 1 := by omega
          have q_ := x1.bel.cell (p := ⟨w.heap.size, 0, none⟩) (by first | omega | (simp; done) | (simp; omega))
          generalize c_x1_0_0 : x1.val.cell? ⟨w.heap.size, 0, none⟩ = q at q_
          first | (have q2_ : q = some _ := q_; subst q2_) | (simp [go_sem] at q_; have q2_ : q = some _ := q_; subst q2_) | (simp [go_sem, *] at q_; have q2_ : q = some _ := q_; subst q2_)
          have q_ := x1.bel.frozen (p := ⟨w.heap.size, 0, none⟩) (by first | omega | (simp; done) | (simp; omega))
          generalize z_x1_0_0 : x1.val.frozen? ⟨w.heap.size, 0, none⟩ = q at q_
          first | (have q2_ : q = false := q_; subst q2_) | (simp [go_sem] at q_; have q2_ : q = false := q_; subst q2_) | (simp [go_sem, *] at q_; have q2_ : q = false := q_; subst q2_)
          have q_ := x1.bel.cell (p := ⟨w.heap.size, 1, none⟩) (by first | omega | (simp; done) | (simp; omega))
          generalize c_x1_0_1 : x1.val.cell? ⟨w.heap.size, 1, none⟩ = q at q_
          first | (have q2_ : q = some _ := q_; subst q2_) | (simp [go_sem] at q_; have q2_ : q = some _ := q_; subst q2_) | (simp [go_sem, *] at q_; have q2_ : q = some _ := q_; subst q2_)
          have q_ := x1.bel.frozen (p := ⟨w.heap.size, 1, none⟩) (by first | omega | (simp; done) | (simp; omega))
          generalize z_x1_0_1 : x1.val.frozen? ⟨w.heap.size, 1, none⟩ = q at q_
          first | (have q2_ : q = false := q_; subst q2_) | (simp [go_sem] at q_; have q2_ : q = false := q_; subst q2_) | (simp [go_sem, *] at q_; have q2_ : q = false := q_; subst q2_)
          have q_ := x1.bel.cell (p := ⟨w.heap.size, 2, none⟩) (by first | omega | (simp; done) | (simp; omega))
          generalize c_x1_0_2 : x1.val.cell? ⟨w.heap.size, 2, none⟩ = q at q_
          first | (have q2_ : q = some _ := q_; subst q2_) | (simp [go_sem] at q_; have q2_ : q = some _ := q_; subst q2_) | (simp [go_sem, *] at q_; have q2_ : q = some _ := q_; subst q2_)
          have q_ := x1.bel.frozen (p := ⟨w.heap.size, 2, none⟩) (by first | omega | (simp; done) | (simp; omega))
          generalize z_x1_0_2 : x1.val.frozen? ⟨w.heap.size, 2, none⟩ = q at q_
          first | (have q2_ : q = false := q_; subst q2_) | (simp [go_sem] at q_; have q2_ : q = false := q_; subst q2_) | (simp [go_sem, *] at q_; have q2_ : q = false := q_; subst q2_)
          have q_ := x1.bel.cell (p := ⟨w.heap.size, 3, none⟩) (by first | omega | (simp; done) | (simp; omega))
          generalize c_x1_0_3 : x1.val.cell? ⟨w.heap.size, 3, none⟩ = q at q_
          first | (have q2_ : q = some _ := q_; subst q2_) | (simp [go_sem] at q_; have q2_ : q = some _ := q_; subst q2_) | (simp [go_sem, *] at q_; have q2_ : q = some _ := q_; subst q2_)
          have q_ := x1.bel.frozen (p := ⟨w.heap.size, 3, none⟩) (by first | omega | (simp; done) | (simp; omega))
          generalize z_x1_0_3 : x1.val.frozen? ⟨w.heap.size, 3, none⟩ = q at q_
          first | (have q2_ : q = false := q_; subst q2_) | (simp [go_sem] at q_; have q2_ : q = false := q_; subst q2_) | (simp [go_sem, *] at q_; have q2_ : q = false := q_; subst q2_)
          have q_ := x1.bel.cell (p := ⟨w.heap.size, 4, none⟩) (by first | omega | (simp; done) | (simp; omega))
          generalize c_x1_0_4 : x1.val.cell? ⟨w.heap.size, 4, none⟩ = q at q_
          first | (have q2_ : q = some _ := q_; subst q2_) | (simp [go_sem] at q_; have q2_ : q = some _ := q_; subst q2_) | (simp [go_sem, *] at q_; have q2_ : q = some _ := q_; subst q2_)
          have q_ := x1.bel.frozen (p := ⟨w.heap.size, 4, none⟩) (by first | omega | (simp; done) | (simp; omega))
          generalize z_x1_0_4 : x1.val.frozen? ⟨w.heap.size, 4, none⟩ = q at q_
          first | (have q2_ : q = false := q_; subst q2_) | (simp [go_sem] at q_; have q2_ : q = false := q_; subst q2_) | (simp [go_sem, *] at q_; have q2_ : q = false := q_; subst q2_)
          have l_x1_1 : w.heap.size+1 < x1.val.heap.size := by omega
          have m_x1_1 : w.heap.size+1 < x1.val.heap.size + 1 := by omega
          have q_ := x1.bel.cell (p := ⟨w.heap.size+1, 0, none⟩) (by first | omega | (simp; done) | (simp; omega))
          generalize c_x1_1_0 : x1.val.cell? ⟨w.heap.size+1, 0, none⟩ = q at q_
          first | (have q2_ : q = some _ := q_; subst q2_) | (simp [go_sem] at q_; have q2_ : q = some _ := q_; subst q2_) | (simp [go_sem, *] at q_; have q2_ : q = some _ := q_; subst q2_)
          have q_ := x1.bel.frozen (p := ⟨w.heap.size+1, 0, none⟩) (by first | omega | (simp; done) | (simp; omega))
          generalize z_x1_1_0 : x1.val.frozen? ⟨w.heap.size+1, 0, none⟩ = q at q_
          first | (have q2_ : q = false := q_; subst q2_) | (simp [go_sem] at q_; have q2_ : q = false := q_; subst q2_) | (simp [go_sem, *] at q_; have q2_ : q = false := q_; subst q2_)
          have q_ := x1.bel.cell (p := ⟨w.heap.size+1, 1, none⟩) (by first | omega | (simp; done) | (simp; omega))
          generalize c_x1_1_1 : x1.val.cell? ⟨w.heap.size+1, 1, none⟩ = q at q_
          first | (have q2_ : q = some _ := q_; subst q2_) | (simp [go_sem] at q_; have q2_ : q = some _ := q_; subst q2_) | (simp [go_sem, *] at q_; have q2_ : q = some _ := q_; subst q2_)
          have q_ := x1.bel.frozen (p := ⟨w.heap.size+1, 1, none⟩) (by first | omega | (simp; done) | (simp; omega))
          generalize z_x1_1_1 : x1.val.frozen? ⟨w.heap.size+1, 1, none⟩ = q at q_
          first | (have q2_ : q = false := q_; subst q2_) | (simp [go_sem] at q_; have q2_ : q = false := q_; subst q2_) | (simp [go_sem, *] at q_; have q2_ : q = false := q_; subst q2_)
          have q_ := x1.bel.cell (p := ⟨w.heap.size+1, 2, none⟩) (by first | omega | (simp; done) | (simp; omega))
          generalize c_x1_1_2 : x1.val.cell? ⟨w.heap.size+1, 2, none⟩ = q at q_
          first | (have q2_ : q = some _ := q_; subst q2_) | (simp [go_sem] at q_; have q2_ : q = some _ := q_; subst q2_) | (simp [go_sem, *] at q_; have q2_ : q = some _ := q_; subst q2_)
          have q_ := x1.bel.frozen (p := ⟨w.heap.size+1, 2, none⟩) (by first | omega | (simp; done) | (simp; omega))
          generalize z_x1_1_2 : x1.val.frozen? ⟨w.heap.size+1, 2, none⟩ = q at q_
          first | (have q2_ : q = false := q_; subst q2_) | (simp [go_sem] at q_; have q2_ : q = false := q_; subst q2_) | (simp [go_sem, *] at q_; have q2_ : q = false := q_; subst q2_)
          have q_ := x1.bel.cell (p := ⟨w.heap.size+1, 3, none⟩) (by first | omega | (simp; done) | (simp; omega))
          generalize c_x1_1_3 : x1.val.cell? ⟨w.heap.size+1, 3, none⟩ = q at q_
          first | (have q2_ : q = some _ := q_; subst q2_) | (simp [go_sem] at q_; have q2_ : q = some _ := q_; subst q2_) | (simp [go_sem, *] at q_; have q2_ : q = some _ := q_; subst q2_)
          have q_ := x1.bel.frozen (p := ⟨w.heap.size+1, 3, none⟩) (by first | omega | (simp; done) | (simp; omega))
          generalize z_x1_1_3 : x1.val.frozen? ⟨w.heap.size+1, 3, none⟩ = q at q_
          first | (have q2_ : q = false := q_; subst q2_) | (simp [go_sem] at q_; have q2_ : q = false := q_; subst q2_) | (simp [go_sem, *] at q_; have q2_ : q = false := q_; subst q2_)
          have q_ := x1.bel.cell (p := ⟨w.heap.size+1, 4, none⟩) (by first | omega | (simp; done) | (simp; omega))
          generalize c_x1_1_4 : x1.val.cell? ⟨w.heap.size+1, 4, none⟩ = q at q_
          first | (have q2_ : q = some _ := q_; subst q2_) | (simp [go_sem] at q_; have q2_ : q = some _ := q_; subst q2_) | (simp [go_sem, *] at q_; have q2_ : q = some _ := q_; subst q2_)
          have q_ := x1.bel.frozen (p := ⟨w.heap.size+1, 4, none⟩) (by first | omega | (simp; done) | (simp; omega))
          generalize z_x1_1_4 : x1.val.frozen? ⟨w.heap.size+1, 4, none⟩ = q at q_
          first | (have q2_ : q = false := q_; subst q2_) | (simp [go_sem] at q_; have q2_ : q = false := q_; subst q2_) | (simp [go_sem, *] at q_; have q2_ : q = false := q_; subst q2_)
          go_wp2
          refine bodyPost_ret (v := .tuple #[.agg #[.int .i64 (room1 : Int), .int .i64 (safe1 : Int), .int .i64 zl1, .slice A m c, .bool off1], .int .i64 6]) (by simp [results, Try.results52, go_sem, *]) rfl (RdP.of HB.out rfl (by simp [Dk.R, HM.out, HZ1.out]) (by repeat (first | with_reducible exact Below.refl _ _ | with_reducible refine bel_later _ ?_ | with_reducible refine bel_alloc ?_ _ | refine bel_set ?_ (by first | omega | (simp; done) | (simp; omega)) _ | with_reducible refine Below.drew ?_ | with_reducible refine bel_drewN ?_ _ | with_reducible assumption | assumption)))
        · rw [if_pos rfl] at hC
          subst hC
          by_cases h3 : k < safe1
          · have g3 : decide (k < safe1) = true := decide_eq_true h3
            have hmin : Hid (min safe1 k = k) := Lib.hid (by omega)
            cases A
            · go_enter Try.func52, Try.ntmps52
              go_wp2_with fail
              refine (ks.out _).mono ?_
              rintro e_x1 w_x1 ⟨rfl, hb_x1⟩
              obtain ⟨x1, rfl⟩ := later_is hb_x1
              clear hb_x1
              have hz_x1 := x1.bel.size
              try simp at hz_x1
              have l_x1_0 : w.heap.size < x1.val.heap.size := by omega
              have m_x1_0 : w.heap.size < x1.val.heap.size + 1 := by omega
              have q_ := x1.bel.cell (p := ⟨w.heap.size, 0, none⟩) (by first | omega | (simp; done) | (simp; omega))
              generalize c_x1_0_0 : x1.val.cell? ⟨w.heap.size, 0, none⟩ = q at q_
              first | (have q2_ : q = some _ := q_; subst q2_) | (simp [go_sem] at q_; have q2_ : q = some _ := q_; subst q2_) | (simp [go_sem, *] at q_; have q2_ : q = some _ := q_; subst q2_)
              have q_ := x1.bel.frozen (p := ⟨w.heap.size, 0, none⟩) (by first | omega | (simp; done) | (simp; omega))
              generalize z_x1_0_0 : x1.val.frozen? ⟨w.heap.size, 0, none⟩ = q at q_
              first | (have q2_ : q = false := q_; subst q2_) | (simp [go_sem] at q_; have q2_ : q = false := q_; subst q2_) | (simp [go_sem, *] at q_; have q2_ : q = false := q_; subst q2_)
              have q_ := x1.bel.cell (p := ⟨w.heap.size, 1, none⟩) (by first | omega | (simp; done) | (simp; omega))
              generalize c_x1_0_1 : x1.val.cell? ⟨w.heap.size, 1, none⟩ = q at q_
              first | (have q2_ : q = some _ := q_; subst q2_) | (simp [go_sem] at q_; have q2_ : q = some _ := q_; subst q2_) | (simp [go_sem, *] at q_; have q2_ : q = some _ := q_; subst q2_)
              have q_ := x1.bel.frozen (p := ⟨w.heap.size, 1, none⟩) (by first | omega | (simp; done) | (simp; omega))
              generalize z_x1_0_1 : x1.val.frozen? ⟨w.heap.size, 1, none⟩ = q at q_
              first | (have q2_ : q = false := q_; subst q2_) | (simp [go_sem] at q_; have q2_ : q = false := q_; subst q2_) | (simp [go_sem, *] at q_; have q2_ : q = false := q_; subst q2_)
              have q_ := x1.bel.cell (p := ⟨w.heap.size, 2, none⟩) (by first | omega | (simp; done) | (simp; omega))
              generalize c_x1_0_2 : x1.val.cell? ⟨w.heap.size, 2, none⟩ = q at q_
              first | (have q2_ : q = some _ := q_; subst q2_) | (simp [go_sem] at q_; have q2_ : q = some _ := q_; subst q2_) | (simp [go_sem, *] at q_; have q2_ : q = some _ := q_; subst q2_)
              have q_ := x1.bel.frozen (p := ⟨w.heap.size, 2, none⟩) (by first | omega | (simp; done) | (simp; omega))
              generalize z_x1_0_2 : x1.val.frozen? ⟨w.heap.size, 2, none⟩ = q at q_
              first | (have q2_ : q = false := q_; subst q2_) | (simp [go_sem] at q_; have q2_ : q = false := q_; subst q2_) | (simp [go_sem, *] at q_; have q2_ : q = false := q_; subst q2_)
              have q_ := x1.bel.cell (p := ⟨w.heap.size, 3, none⟩) (by first | omega | (simp; done) | (simp; omega))
              generalize c_x1_0_3 : x1.val.cell? ⟨w.heap.size, 3, none⟩ = q at q_
              first | (have q2_ : q = some _ := q_; subst q2_) | (simp [go_sem] at q_; have q2_ : q = some _ := q_; subst q2_) | (simp [go_sem, *] at q_; have q2_ : q = some _ := q_; subst q2_)
              have q_ := x1.bel.frozen (p := ⟨w.heap.size, 3, none⟩) (by first | omega | (simp; done) | (simp; omega))
              generalize z_x1_0_3 : x1.val.frozen? ⟨w.heap.size, 3, none⟩ = q at q_
              first | (have q2_ : q = false := q_; subst q2_) | (simp [go_sem] at q_; have q2_ : q = false := q_; subst q2_) | (simp [go_sem, *] at q_; have q2_ : q = false := q_; subst q2_)
              have q_ := x1.bel.cell (p := ⟨w.heap.size, 4, none⟩) (by first | omega | (simp; done) | (simp; omega))
              generalize c_x1_0_4 : x1.val.cell? ⟨w.heap.size, 4, none⟩ = q at q_
              first | (have q2_ : q = some _ := q_; subst q2_) | (simp [go_sem] at q_; have q2_ : q = some _ := q_; subst q2_) | (simp [go_sem, *] at q_; have q2_ : q = some _ := q_; subst q2_)
              have q_ := x1.bel.frozen (p := ⟨w.heap.size, 4, none⟩) (by first | omega | (simp; done) | (simp; omega))
              generalize z_x1_0_4 : x1.val.frozen? ⟨w.heap.size, 4, none⟩ = q at q_
              first | (have q2_ : q = false := q_; subst q2_) | (simp [go_sem] at q_; have q2_ : q = false := q_; subst q2_) | (simp [go_sem, *] at q_; have q2_ : q = false := q_; subst q2_)
              have l_x1_1 : w.heap.size+1 < x1.val.heap.size := by omega
              have m_x1_1 : w.heap.size+1 < x1.val.heap.size + 1 := by omega
              have q_ := x1.bel.cell (p := ⟨w.heap.size+1, 0, none⟩) (by first | omega | (simp; done) | (simp; omega))
              generalize c_x1_1_0 : x1.val.cell? ⟨w.heap.size+1, 0, none⟩ = q at q_
              first | (have q2_ : q = some _ := q_; subst q2_) | (simp [go_sem] at q_; have q2_ : q = some _ := q_; subst q2_) | (simp [go_sem, *] at q_; have q2_ : q = some _ := q_; subst q2_)
              have q_ := x1.bel.frozen (p := ⟨w.heap.size+1, 0, none⟩) (by first | omega | (simp; done) | (simp; omega))
              generalize z_x1_1_0 : x1.val.frozen? ⟨w.heap.size+1, 0, none⟩ = q at q_
              first | (have q2_ : q = false := q_; subst q2_) | (simp [go_sem] at q_; have q2_ : q = false := q_; subst q2_) | (simp [go_sem, *] at q_; have q2_ : q = false := q_; subst q2_)
              have q_ := x1.bel.cell (p := ⟨w.heap.size+1, 1, none⟩) (by first | omega | (simp; done) | (simp; omega))
              generalize c_x1_1_1 : x1.val.cell? ⟨w.heap.size+1, 1, none⟩ = q at q_
              first | (have q2_ : q = some _ := q_; subst q2_) | (simp [go_sem] at q_; have q2_ : q = some _ := q_; subst q2_) | (simp [go_sem, *] at q_; have q2_ : q = some _ := q_; subst q2_)
              have q_ := x1.bel.frozen (p := ⟨w.heap.size+1, 1, none⟩) (by first | omega | (simp; done) | (simp; omega))
              generalize z_x1_1_1 : x1.val.frozen? ⟨w.heap.size+1, 1, none⟩ = q at q_
              first | (have q2_ : q = false := q_; subst q2_) | (simp [go_sem] at q_; have q2_ : q = false := q_; subst q2_) | (simp [go_sem, *] at q_; have q2_ : q = false := q_; subst q2_)
              have q_ := x1.bel.cell (p := ⟨w.heap.size+1, 2, none⟩) (by first | omega | (simp; done) | (simp; omega))
              generalize c_x1_1_2 : x1.val.cell? ⟨w.heap.size+1, 2, none⟩ = q at q_
              first | (have q2_ : q = some _ := q_; subst q2_) | (simp [go_sem] at q_; have q2_ : q = some _ := q_; subst q2_) | (simp [go_sem, *] at q_; have q2_ : q = some _ := q_; subst q2_)
              have q_ := x1.bel.frozen (p := ⟨w.heap.size+1, 2, none⟩) (by first | omega | (simp; done) | (simp; omega))
              generalize z_x1_1_2 : x1.val.frozen? ⟨w.heap.size+1, 2, none⟩ = q at q_
              first | (have q2_ : q = false := q_; subst q2_) | (simp [go_sem] at q_; have q2_ : q = false := q_; subst q2_) | (simp [go_sem, *] at q_; have q2_ : q = false := q_; subst q2_)
              have q_ := x1.bel.cell (p := ⟨w.heap.size+1, 3, none⟩) (by first | omega | (simp; done) | (simp; omega))
              generalize c_x1_1_3 : x1.val.cell? ⟨w.heap.size+1, 3, none⟩ = q at q_
              first | (have q2_ : q = some _ := q_; subst q2_) | (simp [go_sem] at q_; have q2_ : q = some _ := q_; subst q2_) | (simp [go_sem, *] at q_; have q2_ : q = some _ := q_; subst q2_)
              have q_ := x1.bel.frozen (p := ⟨w.heap.size+1, 3, none⟩) (by first | omega | (simp; done) | (simp; omega))
              generalize z_x1_1_3 : x1.val.frozen? ⟨w.heap.size+1, 3, none⟩ = q at q_
              first | (have q2_ : q = false := q_; subst q2_) | (simp [go_sem] at q_; have q2_ : q = false := q_; subst q2_) | (simp [go_sem, *] at q_; have q2_ : q = false := q_; subst q2_)
              have q_ := x1.bel.cell (p := ⟨w.heap.size+1, 4, none⟩) (by first | omega | (simp; done) | (simp; omega))
              generalize c_x1_1_4 : x1.val.cell? ⟨w.heap.size+1, 4, none⟩ = q at q_
              first | (have q2_ : q = some _ := q_; subst q2_) | (simp [go_sem] at q_; have q2_ : q = some _ := q_; subst q2_) | (simp [go_sem, *] at q_; have q2_ : q = some _ := q_; subst q2_)
              have q_ := x1.bel.frozen (p := ⟨w.heap.size+1, 4, none⟩) (by first | omega | (simp; done) | (simp; omega))
              generalize z_x1_1_4 : x1.val.frozen? ⟨w.heap.size+1, 4, none⟩ = q at q_
              first | (have q2_ : q = false := q_; subst q2_) | (simp [go_sem] at q_; have q2_ : q = false := q_; subst q2_) | (simp [go_sem, *] at q_; have q2_ : q = false := q_; subst q2_)
              go_wp2_with (
                at_builtin
                go_loud (
                refine wpList_append_sq (f := byw) _ rfl _ _ 24 rfl (fun _ => rfl) (x1.val.heap.size + 1) 5 i0 _ _ Try.underlying24 hi hz0 rfl hz1 hz2 (by decide) _ [] rfl (own_sq_empty byw _ _ _ _ (by simp) (by simp)) w.heap.size _ (l1.take k) c k HTK.out rfl (((HB.out.sq.below (B := w.heap.size) (by exact (by repeat (first | with_reducible exact Below.refl _ _ | with_reducible refine bel_later _ ?_ | with_reducible refine bel_alloc ?_ _ | refine bel_set ?_ (by first | omega | (simp; done) | (simp; omega)) _ | with_reducible refine Below.drew ?_ | with_reducible refine bel_drewN ?_ _ | with_reducible assumption | assumption)))).take k)) HB.out.nil (by simp; omega) (by simp) ?_
                intro A' c' w' hown hg hb
                obtain ⟨x2, rfl⟩ := later_is hb
                simp only [List.nil_append, HTK.out] at hown ⊢
                have HO := Lib.hid hown
                have hbw : Below w.heap.size w x2.val := Below.trans (by exact (by repeat (first | with_reducible exact Below.refl _ _ | with_reducible refine bel_later _ ?_ | with_reducible refine bel_alloc ?_ _ | refine bel_set ?_ (by first | omega | (simp; done) | (simp; omega)) _ | with_reducible refine Below.drew ?_ | with_reducible refine bel_drewN ?_ _ | with_reducible assumption | assumption))) (x2.bel.mono (by omega))
                clear hown hg hb
                have hz_x2 := x2.bel.size
                try simp at hz_x2
                have l_x2_0 : w.heap.size < x2.val.heap.size := by omega
                have m_x2_0 : w.heap.size < x2.val.heap.size + 1 := by omega
                have q_ := x2.bel.cell (p := ⟨w.heap.size, 0, none⟩) (by first | omega | (simp; done) | (simp; omega))
                generalize c_x2_0_0 : x2.val.cell? ⟨w.heap.size, 0, none⟩ = q at q_
                first | (have q2_ : q = some _ := q_; subst q2_) | (simp [go_sem] at q_; have q2_ : q = some _ := q_; subst q2_) | (simp [go_sem, *] at q_; have q2_ : q = some _ := q_; subst q2_)
                have q_ := x2.bel.frozen (p := ⟨w.heap.size, 0, none⟩) (by first | omega | (simp; done) | (simp; omega))
                generalize z_x2_0_0 : x2.val.frozen? ⟨w.heap.size, 0, none⟩ = q at q_
                first | (have q2_ : q = false := q_; subst q2_) | (simp [go_sem] at q_; have q2_ : q = false := q_; subst q2_) | (simp [go_sem, *] at q_; have q2_ : q = false := q_; subst q2_)
                have q_ := x2.bel.cell (p := ⟨w.heap.size, 1, none⟩) (by first | omega | (simp; done) | (simp; omega))
                generalize c_x2_0_1 : x2.val.cell? ⟨w.heap.size, 1, none⟩ = q at q_
                first | (have q2_ : q = some _ := q_; subst q2_) | (simp [go_sem] at q_; have q2_ : q = some _ := q_; subst q2_) | (simp [go_sem, *] at q_; have q2_ : q = some _ := q_; subst q2_)
                have q_ := x2.bel.frozen (p := ⟨w.heap.size, 1, none⟩) (by first | omega | (simp; done) | (simp; omega))
                generalize z_x2_0_1 : x2.val.frozen? ⟨w.heap.size, 1, none⟩ = q at q_
                first | (have q2_ : q = false := q_; subst q2_) | (simp [go_sem] at q_; have q2_ : q = false := q_; subst q2_) | (simp [go_sem, *] at q_; have q2_ : q = false := q_; subst q2_)
                have q_ := x2.bel.cell (p := ⟨w.heap.size, 2, none⟩) (by first | omega | (simp; done) | (simp; omega))
                generalize c_x2_0_2 : x2.val.cell? ⟨w.heap.size, 2, none⟩ = q at q_
                first | (have q2_ : q = some _ := q_; subst q2_) | (simp [go_sem] at q_; have q2_ : q = some _ := q_; subst q2_) | (simp [go_sem, *] at q_; have q2_ : q = some _ := q_; subst q2_)
                have q_ := x2.bel.frozen (p := ⟨w.heap.size, 2, none⟩) (by first | omega | (simp; done) | (simp; omega))
                generalize z_x2_0_2 : x2.val.frozen? ⟨w.heap.size, 2, none⟩ = q at q_
                first | (have q2_ : q = false := q_; subst q2_) | (simp [go_sem] at q_; have q2_ : q = false := q_; subst q2_) | (simp [go_sem, *] at q_; have q2_ : q = false := q_; subst q2_)
                have q_ := x2.bel.cell (p := ⟨w.heap.size, 3, none⟩) (by first | omega | (simp; done) | (simp; omega))
                generalize c_x2_0_3 : x2.val.cell? ⟨w.heap.size, 3, none⟩ = q at q_
                first | (have q2_ : q = some _ := q_; subst q2_) | (simp [go_sem] at q_; have q2_ : q = some _ := q_; subst q2_) | (simp [go_sem, *] at q_; have q2_ : q = some _ := q_; subst q2_)
                have q_ := x2.bel.frozen (p := ⟨w.heap.size, 3, none⟩) (by first | omega | (simp; done) | (simp; omega))
                generalize z_x2_0_3 : x2.val.frozen? ⟨w.heap.size, 3, none⟩ = q at q_
                first | (have q2_ : q = false := q_; subst q2_) | (simp [go_sem] at q_; have q2_ : q = false := q_; subst q2_) | (simp [go_sem, *] at q_; have q2_ : q = false := q_; subst q2_)
                have q_ := x2.bel.cell (p := ⟨w.heap.size, 4, none⟩) (by first | omega | (simp; done) | (simp; omega))
                generalize c_x2_0_4 : x2.val.cell? ⟨w.heap.size, 4, none⟩ = q at q_
                first | (have q2_ : q = some _ := q_; subst q2_) | (simp [go_sem] at q_; have q2_ : q = some _ := q_; subst q2_) | (simp [go_sem, *] at q_; have q2_ : q = some _ := q_; subst q2_)
                have q_ := x2.bel.frozen (p := ⟨w.heap.size, 4, none⟩) (by first | omega | (simp; done) | (simp; omega))
                generalize z_x2_0_4 : x2.val.frozen? ⟨w.heap.size, 4, none⟩ = q at q_
                first | (have q2_ : q = false := q_; subst q2_) | (simp [go_sem] at q_; have q2_ : q = false := q_; subst q2_) | (simp [go_sem, *] at q_; have q2_ : q = false := q_; subst q2_)
                have l_x2_1 : w.heap.size+1 < x2.val.heap.size := by omega
                have m_x2_1 : w.heap.size+1 < x2.val.heap.size + 1 := by omega
                have q_ := x2.bel.cell (p := ⟨w.heap.size+1, 0, none⟩) (by first | omega | (simp; done) | (simp; omega))
                generalize c_x2_1_0 : x2.val.cell? ⟨w.heap.size+1, 0, none⟩ = q at q_
                first | (have q2_ : q = some _ := q_; subst q2_) | (simp [go_sem] at q_; have q2_ : q = some _ := q_; subst q2_) | (simp [go_sem, *] at q_; have q2_ : q = some _ := q_; subst q2_)
                have q_ := x2.bel.frozen (p := ⟨w.heap.size+1, 0, none⟩) (by first | omega | (simp; done) | (simp; omega))
                generalize z_x2_1_0 : x2.val.frozen? ⟨w.heap.size+1, 0, none⟩ = q at q_
                first | (have q2_ : q = false := q_; subst q2_) | (simp [go_sem] at q_; have q2_ : q = false := q_; subst q2_) | (simp [go_sem, *] at q_; have q2_ : q = false := q_; subst q2_)
                have q_ := x2.bel.cell (p := ⟨w.heap.size+1, 1, none⟩) (by first | omega | (simp; done) | (simp; omega))
                generalize c_x2_1_1 : x2.val.cell? ⟨w.heap.size+1, 1, none⟩ = q at q_
                first | (have q2_ : q = some _ := q_; subst q2_) | (simp [go_sem] at q_; have q2_ : q = some _ := q_; subst q2_) | (simp [go_sem, *] at q_; have q2_ : q = some _ := q_; subst q2_)
                have q_ := x2.bel.frozen (p := ⟨w.heap.size+1, 1, none⟩) (by first | omega | (simp; done) | (simp; omega))
                generalize z_x2_1_1 : x2.val.frozen? ⟨w.heap.size+1, 1, none⟩ = q at q_
                first | (have q2_ : q = false := q_; subst q2_) | (simp [go_sem] at q_; have q2_ : q = false := q_; subst q2_) | (simp [go_sem, *] at q_; have q2_ : q = false := q_; subst q2_)
                have q_ := x2.bel.cell (p := ⟨w.heap.size+1, 2, none⟩) (by first | omega | (simp; done) | (simp; omega))
                generalize c_x2_1_2 : x2.val.cell? ⟨w.heap.size+1, 2, none⟩ = q at q_
                first | (have q2_ : q = some _ := q_; subst q2_) | (simp [go_sem] at q_; have q2_ : q = some _ := q_; subst q2_) | (simp [go_sem, *] at q_; have q2_ : q = some _ := q_; subst q2_)
                have q_ := x2.bel.frozen (p := ⟨w.heap.size+1, 2, none⟩) (by first | omega | (simp; done) | (simp; omega))
                generalize z_x2_1_2 : x2.val.frozen? ⟨w.heap.size+1, 2, none⟩ = q at q_
                first | (have q2_ : q = false := q_; subst q2_) | (simp [go_sem] at q_; have q2_ : q = false := q_; subst q2_) | (simp [go_sem, *] at q_; have q2_ : q = false := q_; subst q2_)
                have q_ := x2.bel.cell (p := ⟨w.heap.size+1, 3, none⟩) (by first | omega | (simp; done) | (simp; omega))
                generalize c_x2_1_3 : x2.val.cell? ⟨w.heap.size+1, 3, none⟩ = q at q_
                first | (have q2_ : q = some _ := q_; subst q2_) | (simp [go_sem] at q_; have q2_ : q = some _ := q_; subst q2_) | (simp [go_sem, *] at q_; have q2_ : q = some _ := q_; subst q2_)
                have q_ := x2.bel.frozen (p := ⟨w.heap.size+1, 3, none⟩) (by first | omega | (simp; done) | (simp; omega))
                generalize z_x2_1_3 : x2.val.frozen? ⟨w.heap.size+1, 3, none⟩ = q at q_
                first | (have q2_ : q = false := q_; subst q2_) | (simp [go_sem] at q_; have q2_ : q = false := q_; subst q2_) | (simp [go_sem, *] at q_; have q2_ : q = false := q_; subst q2_)
                have q_ := x2.bel.cell (p := ⟨w.heap.size+1, 4, none⟩) (by first | omega | (simp; done) | (simp; omega))
                generalize c_x2_1_4 : x2.val.cell? ⟨w.heap.size+1, 4, none⟩ = q at q_
                first | (have q2_ : q = some _ := q_; subst q2_) | (simp [go_sem] at q_; have q2_ : q = some _ := q_; subst q2_) | (simp [go_sem, *] at q_; have q2_ : q = some _ := q_; subst q2_)
                have q_ := x2.bel.frozen (p := ⟨w.heap.size+1, 4, none⟩) (by first | omega | (simp; done) | (simp; omega))
                generalize z_x2_1_4 : x2.val.frozen? ⟨w.heap.size+1, 4, none⟩ = q at q_
                first | (have q2_ : q = false := q_; subst q2_) | (simp [go_sem] at q_; have q2_ : q = false := q_; subst q2_) | (simp [go_sem, *] at q_; have q2_ : q = false := q_; subst q2_)
                have l_x2_2 : x1.val.heap.size < x2.val.heap.size := by omega
                have m_x2_2 : x1.val.heap.size < x2.val.heap.size + 1 := by omega
                have q_ := x2.bel.cell (p := ⟨x1.val.heap.size, 0, none⟩) (by first | omega | (simp; done) | (simp; omega))
                generalize c_x2_2_0 : x2.val.cell? ⟨x1.val.heap.size, 0, none⟩ = q at q_
                first | (have q2_ : q = some _ := q_; subst q2_) | (simp [go_sem] at q_; have q2_ : q = some _ := q_; subst q2_) | (simp [go_sem, *] at q_; have q2_ : q = some _ := q_; subst q2_)
                have q_ := x2.bel.frozen (p := ⟨x1.val.heap.size, 0, none⟩) (by first | omega | (simp; done) | (simp; omega))
                generalize z_x2_2_0 : x2.val.frozen? ⟨x1.val.heap.size, 0, none⟩ = q at q_
                first | (have q2_ : q = false := q_; subst q2_) | (simp [go_sem] at q_; have q2_ : q = false := q_; subst q2_) | (simp [go_sem, *] at q_; have q2_ : q = false := q_; subst q2_)
                have q_ := x2.bel.cell (p := ⟨x1.val.heap.size, 1, none⟩) (by first | omega | (simp; done) | (simp; omega))
                generalize c_x2_2_1 : x2.val.cell? ⟨x1.val.heap.size, 1, none⟩ = q at q_
                first | (have q2_ : q = some _ := q_; subst q2_) | (simp [go_sem] at q_; have q2_ : q = some _ := q_; subst q2_) | (simp [go_sem, *] at q_; have q2_ : q = some _ := q_; subst q2_)
                have q_ := x2.bel.frozen (p := ⟨x1.val.heap.size, 1, none⟩) (by first | omega | (simp; done) | (simp; omega))
                generalize z_x2_2_1 : x2.val.frozen? ⟨x1.val.heap.size, 1, none⟩ = q at q_
                first | (have q2_ : q = false := q_; subst q2_) | (simp [go_sem] at q_; have q2_ : q = false := q_; subst q2_) | (simp [go_sem, *] at q_; have q2_ : q = false := q_; subst q2_)
                have q_ := x2.bel.cell (p := ⟨x1.val.heap.size, 2, none⟩) (by first | omega | (simp; done) | (simp; omega))
                generalize c_x2_2_2 : x2.val.cell? ⟨x1.val.heap.size, 2, none⟩ = q at q_
                first | (have q2_ : q = some _ := q_; subst q2_) | (simp [go_sem] at q_; have q2_ : q = some _ := q_; subst q2_) | (simp [go_sem, *] at q_; have q2_ : q = some _ := q_; subst q2_)
                have q_ := x2.bel.frozen (p := ⟨x1.val.heap.size, 2, none⟩) (by first | omega | (simp; done) | (simp; omega))
                generalize z_x2_2_2 : x2.val.frozen? ⟨x1.val.heap.size, 2, none⟩ = q at q_
                first | (have q2_ : q = false := q_; subst q2_) | (simp [go_sem] at q_; have q2_ : q = false := q_; subst q2_) | (simp [go_sem, *] at q_; have q2_ : q = false := q_; subst q2_)
                have q_ := x2.bel.cell (p := ⟨x1.val.heap.size, 3, none⟩) (by first | omega | (simp; done) | (simp; omega))
                generalize c_x2_2_3 : x2.val.cell? ⟨x1.val.heap.size, 3, none⟩ = q at q_
                first | (have q2_ : q = some _ := q_; subst q2_) | (simp [go_sem] at q_; have q2_ : q = some _ := q_; subst q2_) | (simp [go_sem, *] at q_; have q2_ : q = some _ := q_; subst q2_)
                have q_ := x2.bel.frozen (p := ⟨x1.val.heap.size, 3, none⟩) (by first | omega | (simp; done) | (simp; omega))
                generalize z_x2_2_3 : x2.val.frozen? ⟨x1.val.heap.size, 3, none⟩ = q at q_
                first | (have q2_ : q = false := q_; subst q2_) | (simp [go_sem] at q_; have q2_ : q = false := q_; subst q2_) | (simp [go_sem, *] at q_; have q2_ : q = false := q_; subst q2_)
                have q_ := x2.bel.cell (p := ⟨x1.val.heap.size, 4, none⟩) (by first | omega | (simp; done) | (simp; omega))
                generalize c_x2_2_4 : x2.val.cell? ⟨x1.val.heap.size, 4, none⟩ = q at q_
                first | (have q2_ : q = some _ := q_; subst q2_) | (simp [go_sem] at q_; have q2_ : q = some _ := q_; subst q2_) | (simp [go_sem, *] at q_; have q2_ : q = some _ := q_; subst q2_)
                have q_ := x2.bel.frozen (p := ⟨x1.val.heap.size, 4, none⟩) (by first | omega | (simp; done) | (simp; omega))
                generalize z_x2_2_4 : x2.val.frozen? ⟨x1.val.heap.size, 4, none⟩ = q at q_
                first | (have q2_ : q = false := q_; subst q2_) | (simp [go_sem] at q_; have q2_ : q = false := q_; subst q2_) | (simp [go_sem, *] at q_; have q2_ : q = false := q_; subst q2_)
                skip))
              refine bodyPost_ret (v := .tuple #[.agg #[.int .i64 (room1 : Int), .int .i64 (k : Int), .int .i64 zl1, .slice A' k c', .bool off1], .int .i64 0]) (by simp [results, Try.results52, go_sem, *]) rfl (RdP.own (A' := A') (c' := c') (base := x1.val.heap.size + 1) (by simp [Dk.R, HTK.out, HZ1.out, hmin.out]) HTK.out (by repeat (first | with_reducible exact HO.out | refine own_set ?_ (by omega) | refine own_below ?_ (bel_alloc (Below.refl _ _) _))) (by omega) (by repeat (first | with_reducible exact Below.refl _ _ | with_reducible refine bel_later _ ?_ | with_reducible refine bel_alloc ?_ _ | refine bel_set ?_ (by first | omega | (simp; done) | (simp; omega)) _ | with_reducible refine Below.drew ?_ | with_reducible refine bel_drewN ?_ _ | with_reducible assumption | assumption)))
            · go_enter Try.func52, Try.ntmps52
              go_wp2_with fail
              refine (ks.out _).mono ?_
              rintro e_x1 w_x1 ⟨rfl, hb_x1⟩
              obtain ⟨x1, rfl⟩ := later_is hb_x1
              clear hb_x1
              have hz_x1 := x1.bel.size
              try simp at hz_x1
              have l_x1_0 : w.heap.size < x1.val.heap.size := by omega
              have m_x1_0 : w.heap.size < x1.val.heap.size + 1 := by omega
              have q_ := x1.bel.cell (p := ⟨w.heap.size, 0, none⟩) (by first | omega | (simp; done) | (simp; omega))
              generalize c_x1_0_0 : x1.val.cell? ⟨w.heap.size, 0, none⟩ = q at q_
              first | (have q2_ : q = some _ := q_; subst q2_) | (simp [go_sem] at q_; have q2_ : q = some _ := q_; subst q2_) | (simp [go_sem, *] at q_; have q2_ : q = some _ := q_; subst q2_)
              have q_ := x1.bel.frozen (p := ⟨w.heap.size, 0, none⟩) (by first | omega | (simp; done) | (simp; omega))
              generalize z_x1_0_0 : x1.val.frozen? ⟨w.heap.size, 0, none⟩ = q at q_
              first | (have q2_ : q = false := q_; subst q2_) | (simp [go_sem] at q_; have q2_ : q = false := q_; subst q2_) | (simp [go_sem, *] at q_; have q2_ : q = false := q_; subst q2_)
              have q_ := x1.bel.cell (p := ⟨w.heap.size, 1, none⟩) (by first | omega | (simp; done) | (simp; omega))
              generalize c_x1_0_1 : x1.val.cell? ⟨w.heap.size, 1, none⟩ = q at q_
              first | (have q2_ : q = some _ := q_; subst q2_) | (simp [go_sem] at q_; have q2_ : q = some _ := q_; subst q2_) | (simp [go_sem, *] at q_; have q2_ : q = some _ := q_; subst q2_)
              have q_ := x1.bel.frozen (p := ⟨w.heap.size, 1, none⟩) (by first | omega | (simp; done) | (simp; omega))
              generalize z_x1_0_1 : x1.val.frozen? ⟨w.heap.size, 1, none⟩ = q at q_
              first | (have q2_ : q = false := q_; subst q2_) | (simp [go_sem] at q_; have q2_ : q = false := q_; subst q2_) | (simp [go_sem, *] at q_; have q2_ : q = false := q_; subst q2_)
              have q_ := x1.bel.cell (p := ⟨w.heap.size, 2, none⟩) (by first | omega | (simp; done) | (simp; omega))
              generalize c_x1_0_2 : x1.val.cell? ⟨w.heap.size, 2, none⟩ = q at q_
              first | (have q2_ : q = some _ := q_; subst q2_) | (simp [go_sem] at q_; have q2_ : q = some _ := q_; subst q2_) | (simp [go_sem, *] at q_; have q2_ : q = some _ := q_; subst q2_)
              have q_ := x1.bel.frozen (p := ⟨w.heap.size, 2, none⟩) (by first | omega | (simp; done) | (simp; omega))
              generalize z_x1_0_2 : x1.val.frozen? ⟨w.heap.size, 2, none⟩ = q at q_
              first | (have q2_ : q = false := q_; subst q2_) | (simp [go_sem] at q_; have q2_ : q = false := q_; subst q2_) | (simp [go_sem, *] at q_; have q2_ : q = false := q_; subst q2_)
              have q_ := x1.bel.cell (p := ⟨w.heap.size, 3, none⟩) (by first | omega | (simp; done) | (simp; omega))
              generalize c_x1_0_3 : x1.val.cell? ⟨w.heap.size, 3, none⟩ = q at q_
              first | (have q2_ : q = some _ := q_; subst q2_) | (simp [go_sem] at q_; have q2_ : q = some _ := q_; subst q2_) | (simp [go_sem, *] at q_; have q2_ : q = some _ := q_; subst q2_)
              have q_ := x1.bel.frozen (p := ⟨w.heap.size, 3, none⟩) (by first | omega | (simp; done) | (simp; omega))
              generalize z_x1_0_3 : x1.val.frozen? ⟨w.heap.size, 3, none⟩ = q at q_
              first | (have q2_ : q = false := q_; subst q2_) | (simp [go_sem] at q_; have q2_ : q = false := q_; subst q2_) | (simp [go_sem, *] at q_; have q2_ : q = false := q_; subst q2_)
              have q_ := x1.bel.cell (p := ⟨w.heap.size, 4, none⟩) (by first | omega | (simp; done) | (simp; omega))
              generalize c_x1_0_4 : x1.val.cell? ⟨w.heap.size, 4, none⟩ = q at q_
              first | (have q2_ : q = some _ := q_; subst q2_) | (simp [go_sem] at q_; have q2_ : q = some _ := q_; subst q2_) | (simp [go_sem, *] at q_; have q2_ : q = some _ := q_; subst q2_)
              have q_ := x1.bel.frozen (p := ⟨w.heap.size, 4, none⟩) (by first | omega | (simp; done) | (simp; omega))
              generalize z_x1_0_4 : x1.val.frozen? ⟨w.heap.size, 4, none⟩ = q at q_
              first | (have q2_ : q = false := q_; subst q2_) | (simp [go_sem] at q_; have q2_ : q = false := q_; subst q2_) | (simp [go_sem, *] at q_; have q2_ : q = false := q_; subst q2_)
              have l_x1_1 : w.heap.size+1 < x1.val.heap.size := by omega
              have m_x1_1 : w.heap.size+1 < x1.val.heap.size + 1 := by omega
              have q_ := x1.bel.cell (p := ⟨w.heap.size+1, 0, none⟩) (by first | omega | (simp; done) | (simp; omega))
              generalize c_x1_1_0 : x1.val.cell? ⟨w.heap.size+1, 0, none⟩ = q at q_
              first | (have q2_ : q = some _ := q_; subst q2_) | (simp [go_sem] at q_; have q2_ : q = some _ := q_; subst q2_) | (simp [go_sem, *] at q_; have q2_ : q = some _ := q_; subst q2_)
              have q_ := x1.bel.frozen (p := ⟨w.heap.size+1, 0, none⟩) (by first | omega | (simp; done) | (simp; omega))
              generalize z_x1_1_0 : x1.val.frozen? ⟨w.heap.size+1, 0, none⟩ = q at q_
              first | (have q2_ : q = false := q_; subst q2_) | (simp [go_sem] at q_; have q2_ : q = false := q_; subst q2_) | (simp [go_sem, *] at q_; have q2_ : q = false := q_; subst q2_)
              have q_ := x1.bel.cell (p := ⟨w.heap.size+1, 1, none⟩) (by first | omega | (simp; done) | (simp; omega))
              generalize c_x1_1_1 : x1.val.cell? ⟨w.heap.size+1, 1, none⟩ = q at q_
              first | (have q2_ : q = some _ := q_; subst q2_) | (simp [go_sem] at q_; have q2_ : q = some _ := q_; subst q2_) | (simp [go_sem, *] at q_; have q2_ : q = some _ := q_; subst q2_)
              have q_ := x1.bel.frozen (p := ⟨w.heap.size+1, 1, none⟩) (by first | omega | (simp; done) | (simp; omega))
              generalize z_x1_1_1 : x1.val.frozen? ⟨w.heap.size+1, 1, none⟩ = q at q_
              first | (have q2_ : q = false := q_; subst q2_) | (simp [go_sem] at q_; have q2_ : q = false := q_; subst q2_) | (simp [go_sem, *] at q_; have q2_ : q = false := q_; subst q2_)
              have q_ := x1.bel.cell (p := ⟨w.heap.size+1, 2, none⟩) (by first | omega | (simp; done) | (simp; omega))
              generalize c_x1_1_2 : x1.val.cell? ⟨w.heap.size+1, 2, none⟩ = q at q_
              first | (have q2_ : q = some _ := q_; subst q2_) | (simp [go_sem] at q_; have q2_ : q = some _ := q_; subst q2_) | (simp [go_sem, *] at q_; have q2_ : q = some _ := q_; subst q2_)
              have q_ := x1.bel.frozen (p := ⟨w.heap.size+1, 2, none⟩) (by first | omega | (simp; done) | (simp; omega))
              generalize z_x1_1_2 : x1.val.frozen? ⟨w.heap.size+1, 2, none⟩ = q at q_
              first | (have q2_ : q = false := q_; subst q2_) | (simp [go_sem] at q_; have q2_ : q = false := q_; subst q2_) | (simp [go_sem, *] at q_; have q2_ : q = false := q_; subst q2_)
              have q_ := x1.bel.cell (p := ⟨w.heap.size+1, 3, none⟩) (by first | omega | (simp; done) | (simp; omega))
              generalize c_x1_1_3 : x1.val.cell? ⟨w.heap.size+1, 3, none⟩ = q at q_
              first | (have q2_ : q = some _ := q_; subst q2_) | (simp [go_sem] at q_; have q2_ : q = some _ := q_; subst q2_) | (simp [go_sem, *] at q_; have q2_ : q = some _ := q_; subst q2_)
              have q_ := x1.bel.frozen (p := ⟨w.heap.size+1, 3, none⟩) (by first | omega | (simp; done) | (simp; omega))
              generalize z_x1_1_3 : x1.val.frozen? ⟨w.heap.size+1, 3, none⟩ = q at q_
              first | (have q2_ : q = false := q_; subst q2_) | (simp [go_sem] at q_; have q2_ : q = false := q_; subst q2_) | (simp [go_sem, *] at q_; have q2_ : q = false := q_; subst q2_)
              have q_ := x1.bel.cell (p := ⟨w.heap.size+1, 4, none⟩) (by first | omega | (simp; done) | (simp; omega))
              generalize c_x1_1_4 : x1.val.cell? ⟨w.heap.size+1, 4, none⟩ = q at q_
              first | (have q2_ : q = some _ := q_; subst q2_) | (simp [go_sem] at q_; have q2_ : q = some _ := q_; subst q2_) | (simp [go_sem, *] at q_; have q2_ : q = some _ := q_; subst q2_)
              have q_ := x1.bel.frozen (p := ⟨w.heap.size+1, 4, none⟩) (by first | omega | (simp; done) | (simp; omega))
              generalize z_x1_1_4 : x1.val.frozen? ⟨w.heap.size+1, 4, none⟩ = q at q_
              first | (have q2_ : q = false := q_; subst q2_) | (simp [go_sem] at q_; have q2_ : q = false := q_; subst q2_) | (simp [go_sem, *] at q_; have q2_ : q = false := q_; subst q2_)
              go_wp2_with (
                at_builtin
                go_loud (
                refine wpList_append_sq (f := byw) _ rfl _ _ 24 rfl (fun _ => rfl) (x1.val.heap.size + 1) 5 i0 _ _ Try.underlying24 hi hz0 rfl hz1 hz2 (by decide) _ [] rfl (own_sq_empty byw _ _ _ _ (by simp) (by simp)) w.heap.size _ (l1.take k) c k HTK.out rfl (((HB.out.sq.below (B := w.heap.size) (by exact (by repeat (first | with_reducible exact Below.refl _ _ | with_reducible refine bel_later _ ?_ | with_reducible refine bel_alloc ?_ _ | refine bel_set ?_ (by first | omega | (simp; done) | (simp; omega)) _ | with_reducible refine Below.drew ?_ | with_reducible refine bel_drewN ?_ _ | with_reducible assumption | assumption)))).take k)) HB.out.nil (by simp; omega) (by simp) ?_
                intro A' c' w' hown hg hb
                obtain ⟨x2, rfl⟩ := later_is hb
                simp only [List.nil_append, HTK.out] at hown ⊢
                have HO := Lib.hid hown
                have hbw : Below w.heap.size w x2.val := Below.trans (by exact (by repeat (first | with_reducible exact Below.refl _ _ | with_reducible refine bel_later _ ?_ | with_reducible refine bel_alloc ?_ _ | refine bel_set ?_ (by first | omega | (simp; done) | (simp; omega)) _ | with_reducible refine Below.drew ?_ | with_reducible refine bel_drewN ?_ _ | with_reducible assumption | assumption))) (x2.bel.mono (by omega))
                clear hown hg hb
                have hz_x2 := x2.bel.size
                try simp at hz_x2
                have l_x2_0 : w.heap.size < x2.val.heap.size := by omega
                have m_x2_0 : w.heap.size < x2.val.heap.size + 1 := by omega
                have q_ := x2.bel.cell (p := ⟨w.heap.size, 0, none⟩) (by first | omega | (simp; done) | (simp; omega))
                generalize c_x2_0_0 : x2.val.cell? ⟨w.heap.size, 0, none⟩ = q at q_
                first | (have q2_ : q = some _ := q_; subst q2_) | (simp [go_sem] at q_; have q2_ : q = some _ := q_; subst q2_) | (simp [go_sem, *] at q_; have q2_ : q = some _ := q_; subst q2_)
                have q_ := x2.bel.frozen (p := ⟨w.heap.size, 0, none⟩) (by first | omega | (simp; done) | (simp; omega))
                generalize z_x2_0_0 : x2.val.frozen? ⟨w.heap.size, 0, none⟩ = q at q_
                first | (have q2_ : q = false := q_; subst q2_) | (simp [go_sem] at q_; have q2_ : q = false := q_; subst q2_) | (simp [go_sem, *] at q_; have q2_ : q = false := q_; subst q2_)
                have q_ := x2.bel.cell (p := ⟨w.heap.size, 1, none⟩) (by first | omega | (simp; done) | (simp; omega))
                generalize c_x2_0_1 : x2.val.cell? ⟨w.heap.size, 1, none⟩ = q at q_
                first | (have q2_ : q = some _ := q_; subst q2_) | (simp [go_sem] at q_; have q2_ : q = some _ := q_; subst q2_) | (simp [go_sem, *] at q_; have q2_ : q = some _ := q_; subst q2_)
                have q_ := x2.bel.frozen (p := ⟨w.heap.size, 1, none⟩) (by first | omega | (simp; done) | (simp; omega))
                generalize z_x2_0_1 : x2.val.frozen? ⟨w.heap.size, 1, none⟩ = q at q_
                first | (have q2_ : q = false := q_; subst q2_) | (simp [go_sem] at q_; have q2_ : q = false := q_; subst q2_) | (simp [go_sem, *] at q_; have q2_ : q = false := q_; subst q2_)
                have q_ := x2.bel.cell (p := ⟨w.heap.size, 2, none⟩) (by first | omega | (simp; done) | (simp; omega))
                generalize c_x2_0_2 : x2.val.cell? ⟨w.heap.size, 2, none⟩ = q at q_
                first | (have q2_ : q = some _ := q_; subst q2_) | (simp [go_sem] at q_; have q2_ : q = some _ := q_; subst q2_) | (simp [go_sem, *] at q_; have q2_ : q = some _ := q_; subst q2_)
                have q_ := x2.bel.frozen (p := ⟨w.heap.size, 2, none⟩) (by first | omega | (simp; done) | (simp; omega))
                generalize z_x2_0_2 : x2.val.frozen? ⟨w.heap.size, 2, none⟩ = q at q_
                first | (have q2_ : q = false := q_; subst q2_) | (simp [go_sem] at q_; have q2_ : q = false := q_; subst q2_) | (simp [go_sem, *] at q_; have q2_ : q = false := q_; subst q2_)
                have q_ := x2.bel.cell (p := ⟨w.heap.size, 3, none⟩) (by first | omega | (simp; done) | (simp; omega))
                generalize c_x2_0_3 : x2.val.cell? ⟨w.heap.size, 3, none⟩ = q at q_
                first | (have q2_ : q = some _ := q_; subst q2_) | (simp [go_sem] at q_; have q2_ : q = some _ := q_; subst q2_) | (simp [go_sem, *] at q_; have q2_ : q = some _ := q_; subst q2_)
                have q_ := x2.bel.frozen (p := ⟨w.heap.size, 3, none⟩) (by first | omega | (simp; done) | (simp; omega))
                generalize z_x2_0_3 : x2.val.frozen? ⟨w.heap.size, 3, none⟩ = q at q_
                first | (have q2_ : q = false := q_; subst q2_) | (simp [go_sem] at q_; have q2_ : q = false := q_; subst q2_) | (simp [go_sem, *] at q_; have q2_ : q = false := q_; subst q2_)
                have q_ := x2.bel.cell (p := ⟨w.heap.size, 4, none⟩) (by first | omega | (simp; done) | (simp; omega))
                generalize c_x2_0_4 : x2.val.cell? ⟨w.heap.size, 4, none⟩ = q at q_
                first | (have q2_ : q = some _ := q_; subst q2_) | (simp [go_sem] at q_; have q2_ : q = some _ := q_; subst q2_) | (simp [go_sem, *] at q_; have q2_ : q = some _ := q_; subst q2_)
                have q_ := x2.bel.frozen (p := ⟨w.heap.size, 4, none⟩) (by first | omega | (simp; done) | (simp; omega))
                generalize z_x2_0_4 : x2.val.frozen? ⟨w.heap.size, 4, none⟩ = q at q_
                first | (have q2_ : q = false := q_; subst q2_) | (simp [go_sem] at q_; have q2_ : q = false := q_; subst q2_) | (simp [go_sem, *] at q_; have q2_ : q = false := q_; subst q2_)
                have l_x2_1 : w.heap.size+1 < x2.val.heap.size := by omega
                have m_x2_1 : w.heap.size+1 < x2.val.heap.size + 1 := by omega
                have q_ := x2.bel.cell (p := ⟨w.heap.size+1, 0, none⟩) (by first | omega | (simp; done) | (simp; omega))
                generalize c_x2_1_0 : x2.val.cell? ⟨w.heap.size+1, 0, none⟩ = q at q_
                first | (have q2_ : q = some _ := q_; subst q2_) | (simp [go_sem] at q_; have q2_ : q = some _ := q_; subst q2_) | (simp [go_sem, *] at q_; have q2_ : q = some _ := q_; subst q2_)
                have q_ := x2.bel.frozen (p := ⟨w.heap.size+1, 0, none⟩) (by first | omega | (simp; done) | (simp; omega))
                generalize z_x2_1_0 : x2.val.frozen? ⟨w.heap.size+1, 0, none⟩ = q at q_
                first | (have q2_ : q = false := q_; subst q2_) | (simp [go_sem] at q_; have q2_ : q = false := q_; subst q2_) | (simp [go_sem, *] at q_; have q2_ : q = false := q_; subst q2_)
                have q_ := x2.bel.cell (p := ⟨w.heap.size+1, 1, none⟩) (by first | omega | (simp; done) | (simp; omega))
                generalize c_x2_1_1 : x2.val.cell? ⟨w.heap.size+1, 1, none⟩ = q at q_
                first | (have q2_ : q = some _ := q_; subst q2_) | (simp [go_sem] at q_; have q2_ : q = some _ := q_; subst q2_) | (simp [go_sem, *] at q_; have q2_ : q = some _ := q_; subst q2_)
                have q_ := x2.bel.frozen (p := ⟨w.heap.size+1, 1, none⟩) (by first | omega | (simp; done) | (simp; omega))
                generalize z_x2_1_1 : x2.val.frozen? ⟨w.heap.size+1, 1, none⟩ = q at q_
                first | (have q2_ : q = false := q_; subst q2_) | (simp [go_sem] at q_; have q2_ : q = false := q_; subst q2_) | (simp [go_sem, *] at q_; have q2_ : q = false := q_; subst q2_)
                have q_ := x2.bel.cell (p := ⟨w.heap.size+1, 2, none⟩) (by first | omega | (simp; done) | (simp; omega))
                generalize c_x2_1_2 : x2.val.cell? ⟨w.heap.size+1, 2, none⟩ = q at q_
                first | (have q2_ : q = some _ := q_; subst q2_) | (simp [go_sem] at q_; have q2_ : q = some _ := q_; subst q2_) | (simp [go_sem, *] at q_; have q2_ : q = some _ := q_; subst q2_)
                have q_ := x2.bel.frozen (p := ⟨w.heap.size+1, 2, none⟩) (by first | omega | (simp; done) | (simp; omega))
                generalize z_x2_1_2 : x2.val.frozen? ⟨w.heap.size+1, 2, none⟩ = q at q_
                first | (have q2_ : q = false := q_; subst q2_) | (simp [go_sem] at q_; have q2_ : q = false := q_; subst q2_) | (simp [go_sem, *] at q_; have q2_ : q = false := q_; subst q2_)
                have q_ := x2.bel.cell (p := ⟨w.heap.size+1, 3, none⟩) (by first | omega | (simp; done) | (simp; omega))
                generalize c_x2_1_3 : x2.val.cell? ⟨w.heap.size+1, 3, none⟩ = q at q_
                first | (have q2_ : q = some _ := q_; subst q2_) | (simp [go_sem] at q_; have q2_ : q = some _ := q_; subst q2_) | (simp [go_sem, *] at q_; have q2_ : q = some _ := q_; subst q2_)
                have q_ := x2.bel.frozen (p := ⟨w.heap.size+1, 3, none⟩) (by first | omega | (simp; done) | (simp; omega))
                generalize z_x2_1_3 : x2.val.frozen? ⟨w.heap.size+1, 3, none⟩ = q at q_
                first | (have q2_ : q = false := q_; subst q2_) | (simp [go_sem] at q_; have q2_ : q = false := q_; subst q2_) | (simp [go_sem, *] at q_; have q2_ : q = false := q_; subst q2_)
                have q_ := x2.bel.cell (p := ⟨w.heap.size+1, 4, none⟩) (by first | omega | (simp; done) | (simp; omega))
                generalize c_x2_1_4 : x2.val.cell? ⟨w.heap.size+1, 4, none⟩ = q at q_
                first | (have q2_ : q = some _ := q_; subst q2_) | (simp [go_sem] at q_; have q2_ : q = some _ := q_; subst q2_) | (simp [go_sem, *] at q_; have q2_ : q = some _ := q_; subst q2_)
                have q_ := x2.bel.frozen (p := ⟨w.heap.size+1, 4, none⟩) (by first | omega | (simp; done) | (simp; omega))
                generalize z_x2_1_4 : x2.val.frozen? ⟨w.heap.size+1, 4, none⟩ = q at q_
                first | (have q2_ : q = false := q_; subst q2_) | (simp [go_sem] at q_; have q2_ : q = false := q_; subst q2_) | (simp [go_sem, *] at q_; have q2_ : q = false := q_; subst q2_)
                have l_x2_2 : x1.val.heap.size < x2.val.heap.size := by omega
                have m_x2_2 : x1.val.heap.size < x2.val.heap.size + 1 := by omega
                have q_ := x2.bel.cell (p := ⟨x1.val.heap.size, 0, none⟩) (by first | omega | (simp; done) | (simp; omega))
                generalize c_x2_2_0 : x2.val.cell? ⟨x1.val.heap.size, 0, none⟩ = q at q_
                first | (have q2_ : q = some _ := q_; subst q2_) | (simp [go_sem] at q_; have q2_ : q = some _ := q_; subst q2_) | (simp [go_sem, *] at q_; have q2_ : q = some _ := q_; subst q2_)
                have q_ := x2.bel.frozen (p := ⟨x1.val.heap.size, 0, none⟩) (by first | omega | (simp; done) | (simp; omega))
                generalize z_x2_2_0 : x2.val.frozen? ⟨x1.val.heap.size, 0, none⟩ = q at q_
                first | (have q2_ : q = false := q_; subst q2_) | (simp [go_sem] at q_; have q2_ : q = false := q_; subst q2_) | (simp [go_sem, *] at q_; have q2_ : q = false := q_; subst q2_)
                have q_ := x2.bel.cell (p := ⟨x1.val.heap.size, 1, none⟩) (by first | omega | (simp; done) | (simp; omega))
                generalize c_x2_2_1 : x2.val.cell? ⟨x1.val.heap.size, 1, none⟩ = q at q_
                first | (have q2_ : q = some _ := q_; subst q2_) | (simp [go_sem] at q_; have q2_ : q = some _ := q_; subst q2_) | (simp [go_sem, *] at q_; have q2_ : q = some _ := q_; subst q2_)
                have q_ := x2.bel.frozen (p := ⟨x1.val.heap.size, 1, none⟩) (by first | omega | (simp; done) | (simp; omega))
                generalize z_x2_2_1 : x2.val.frozen? ⟨x1.val.heap.size, 1, none⟩ = q at q_
                first | (have q2_ : q = false := q_; subst q2_) | (simp [go_sem] at q_; have q2_ : q = false := q_; subst q2_) | (simp [go_sem, *] at q_; have q2_ : q = false := q_; subst q2_)
                have q_ := x2.bel.cell (p := ⟨x1.val.heap.size, 2, none⟩) (by first | omega | (simp; done) | (simp; omega))
                generalize c_x2_2_2 : x2.val.cell? ⟨x1.val.heap.size, 2, none⟩ = q at q_
                first | (have q2_ : q = some _ := q_; subst q2_) | (simp [go_sem] at q_; have q2_ : q = some _ := q_; subst q2_) | (simp [go_sem, *] at q_; have q2_ : q = some _ := q_; subst q2_)
                have q_ := x2.bel.frozen (p := ⟨x1.val.heap.size, 2, none⟩) (by first | omega | (simp; done) | (simp; omega))
                generalize z_x2_2_2 : x2.val.frozen? ⟨x1.val.heap.size, 2, none⟩ = q at q_
                first | (have q2_ : q = false := q_; subst q2_) | (simp [go_sem] at q_; have q2_ : q = false := q_; subst q2_) | (simp [go_sem, *] at q_; have q2_ : q = false := q_; subst q2_)
                have q_ := x2.bel.cell (p := ⟨x1.val.heap.size, 3, none⟩) (by first | omega | (simp; done) | (simp; omega))
                generalize c_x2_2_3 : x2.val.cell? ⟨x1.val.heap.size, 3, none⟩ = q at q_
                first | (have q2_ : q = some _ := q_; subst q2_) | (simp [go_sem] at q_; have q2_ : q = some _ := q_; subst q2_) | (simp [go_sem, *] at q_; have q2_ : q = some _ := q_; subst q2_)
                have q_ := x2.bel.frozen (p := ⟨x1.val.heap.size, 3, none⟩) (by first | omega | (simp; done) | (simp; omega))
                generalize z_x2_2_3 : x2.val.frozen? ⟨x1.val.heap.size, 3, none⟩ = q at q_
                first | (have q2_ : q = false := q_; subst q2_) | (simp [go_sem] at q_; have q2_ : q = false := q_; subst q2_) | (simp [go_sem, *] at q_; have q2_ : q = false := q_; subst q2_)
                have q_ := x2.bel.cell (p := ⟨x1.val.heap.size, 4, none⟩) (by first | omega | (simp; done) | (simp; omega))
                generalize c_x2_2_4 : x2.val.cell? ⟨x1.val.heap.size, 4, none⟩ = q at q_
                first | (have q2_ : q = some _ := q_; subst q2_) | (simp [go_sem] at q_; have q2_ : q = some _ := q_; subst q2_) | (simp [go_sem, *] at q_; have q2_ : q = some _ := q_; subst q2_)
                have q_ := x2.bel.frozen (p := ⟨x1.val.heap.size, 4, none⟩) (by first | omega | (simp; done) | (simp; omega))
                generalize z_x2_2_4 : x2.val.frozen? ⟨x1.val.heap.size, 4, none⟩ = q at q_
                first | (have q2_ : q = false := q_; subst q2_) | (simp [go_sem] at q_; have q2_ : q = false := q_; subst q2_) | (simp [go_sem, *] at q_; have q2_ : q = false := q_; subst q2_)
                skip))
              refine bodyPost_ret (v := .tuple #[.agg #[.int .i64 (room1 : Int), .int .i64 (k : Int), .int .i64 zl1, .slice A' k c', .bool off1], .int .i64 0]) (by simp [results, Try.results52, go_sem, *]) rfl (RdP.own (A' := A') (c' := c') (base := x1.val.heap.size + 1) (by simp [Dk.R, HTK.out, HZ1.out, hmin.out]) HTK.out (by repeat (first | with_reducible exact HO.out | refine own_set ?_ (by omega) | refine own_below ?_ (bel_alloc (Below.refl _ _) _))) (by omega) (by repeat (first | with_reducible exact Below.refl _ _ | with_reducible refine bel_later _ ?_ | with_reducible refine bel_alloc ?_ _ | refine bel_set ?_ (by first | omega | (simp; done) | (simp; omega)) _ | with_reducible refine Below.drew ?_ | with_reducible refine bel_drewN ?_ _ | with_reducible assumption | assumption)))
          · have g3 : decide (k < safe1) = false := decide_eq_false h3
            have hmin : Hid (min safe1 k = safe1) := Lib.hid (by omega)
            cases A
            · go_enter Try.func52, Try.ntmps52
              go_wp2_with fail
              refine (ks.out _).mono ?_
              rintro e_x1 w_x1 ⟨rfl, hb_x1⟩
              obtain ⟨x1, rfl⟩ := later_is hb_x1
              clear hb_x1
              have hz_x1 := x1.bel.size
              try simp at hz_x1
              have l_x1_0 : w.heap.size < x1.val.heap.size := by omega
              have m_x1_0 : w.heap.size < x1.val.heap.size + 1 := by omega
              have q_ := x1.bel.cell (p := ⟨w.heap.size, 0, none⟩) (by first | omega | (simp; done) | (simp; omega))
              generalize c_x1_0_0 : x1.val.cell? ⟨w.heap.size, 0, none⟩ = q at q_
              first | (have q2_ : q = some _ := q_; subst q2_) | (simp [go_sem] at q_; have q2_ : q = some _ := q_; subst q2_) | (simp [go_sem, *] at q_; have q2_ : q = some _ := q_; subst q2_)
              have q_ := x1.bel.frozen (p := ⟨w.heap.size, 0, none⟩) (by first | omega | (simp; done) | (simp; omega))
              generalize z_x1_0_0 : x1.val.frozen? ⟨w.heap.size, 0, none⟩ = q at q_
              first | (have q2_ : q = false := q_; subst q2_) | (simp [go_sem] at q_; have q2_ : q = false := q_; subst q2_) | (simp [go_sem, *] at q_; have q2_ : q = false := q_; subst q2_)
              have q_ := x1.bel.cell (p := ⟨w.heap.size, 1, none⟩) (by first | omega | (simp; done) | (simp; omega))
              generalize c_x1_0_1 : x1.val.cell? ⟨w.heap.size, 1, none⟩ = q at q_
              first | (have q2_ : q = some _ := q_; subst q2_) | (simp [go_sem] at q_; have q2_ : q = some _ := q_; subst q2_) | (simp [go_sem, *] at q_; have q2_ : q = some _ := q_; subst q2_)
              have q_ := x1.bel.frozen (p := ⟨w.heap.size, 1, none⟩) (by first | omega | (simp; done) | (simp; omega))
              generalize z_x1_0_1 : x1.val.frozen? ⟨w.heap.size, 1, none⟩ = q at q_
              first | (have q2_ : q = false := q_; subst q2_) | (simp [go_sem] at q_; have q2_ : q = false := q_; subst q2_) | (simp [go_sem, *] at q_; have q2_ : q = false := q_; subst q2_)
              have q_ := x1.bel.cell (p := ⟨w.heap.size, 2, none⟩) (by first | omega | (simp; done) | (simp; omega))
              generalize c_x1_0_2 : x1.val.cell? ⟨w.heap.size, 2, none⟩ = q at q_
              first | (have q2_ : q = some _ := q_; subst q2_) | (simp [go_sem] at q_; have q2_ : q = some _ := q_; subst q2_) | (simp [go_sem, *] at q_; have q2_ : q = some _ := q_; subst q2_)
              have q_ := x1.bel.frozen (p := ⟨w.heap.size, 2, none⟩) (by first | omega | (simp; done) | (simp; omega))
              generalize z_x1_0_2 : x1.val.frozen? ⟨w.heap.size, 2, none⟩ = q at q_
              first | (have q2_ : q = false := q_; subst q2_) | (simp [go_sem] at q_; have q2_ : q = false := q_; subst q2_) | (simp [go_sem, *] at q_; have q2_ : q = false := q_; subst q2_)
              have q_ := x1.bel.cell (p := ⟨w.heap.size, 3, none⟩) (by first | omega | (simp; done) | (simp; omega))
              generalize c_x1_0_3 : x1.val.cell? ⟨w.heap.size, 3, none⟩ = q at q_
              first | (have q2_ : q = some _ := q_; subst q2_) | (simp [go_sem] at q_; have q2_ : q = some _ := q_; subst q2_) | (simp [go_sem, *] at q_; have q2_ : q = some _ := q_; subst q2_)
              have q_ := x1.bel.frozen (p := ⟨w.heap.size, 3, none⟩) (by first | omega | (simp; done) | (simp; omega))
              generalize z_x1_0_3 : x1.val.frozen? ⟨w.heap.size, 3, none⟩ = q at q_
              first | (have q2_ : q = false := q_; subst q2_) | (simp [go_sem] at q_; have q2_ : q = false := q_; subst q2_) | (simp [go_sem, *] at q_; have q2_ : q = false := q_; subst q2_)
              have q_ := x1.bel.cell (p := ⟨w.heap.size, 4, none⟩) (by first | omega | (simp; done) | (simp; omega))
              generalize c_x1_0_4 : x1.val.cell? ⟨w.heap.size, 4, none⟩ = q at q_
              first | (have q2_ : q = some _ := q_; subst q2_) | (simp [go_sem] at q_; have q2_ : q = some _ := q_; subst q2_) | (simp [go_sem, *] at q_; have q2_ : q = some _ := q_; subst q2_)
              have q_ := x1.bel.frozen (p := ⟨w.heap.size, 4, none⟩) (by first | omega | (simp; done) | (simp; omega))
              generalize z_x1_0_4 : x1.val.frozen? ⟨w.heap.size, 4, none⟩ = q at q_
              first | (have q2_ : q = false := q_; subst q2_) | (simp [go_sem] at q_; have q2_ : q = false := q_; subst q2_) | (simp [go_sem, *] at q_; have q2_ : q = false := q_; subst q2_)
              have l_x1_1 : w.heap.size+1 < x1.val.heap.size := by omega
              have m_x1_1 : w.heap.size+1 < x1.val.heap.size + 1 := by omega
              have q_ := x1.bel.cell (p := ⟨w.heap.size+1, 0, none⟩) (by first | omega | (simp; done) | (simp; omega))
              generalize c_x1_1_0 : x1.val.cell? ⟨w.heap.size+1, 0, none⟩ = q at q_
              first | (have q2_ : q = some _ := q_; subst q2_) | (simp [go_sem] at q_; have q2_ : q = some _ := q_; subst q2_) | (simp [go_sem, *] at q_; have q2_ : q = some _ := q_; subst q2_)
              have q_ := x1.bel.frozen (p := ⟨w.heap.size+1, 0, none⟩) (by first | omega | (simp; done) | (simp; omega))
              generalize z_x1_1_0 : x1.val.frozen? ⟨w.heap.size+1, 0, none⟩ = q at q_
              first | (have q2_ : q = false := q_; subst q2_) | (simp [go_sem] at q_; have q2_ : q = false := q_; subst q2_) | (simp [go_sem, *] at q_; have q2_ : q = false := q_; subst q2_)
              have q_ := x1.bel.cell (p := ⟨w.heap.size+1, 1, none⟩) (by first | omega | (simp; done) | (simp; omega))
              generalize c_x1_1_1 : x1.val.cell? ⟨w.heap.size+1, 1, none⟩ = q at q_
              first | (have q2_ : q = some _ := q_; subst q2_) | (simp [go_sem] at q_; have q2_ : q = some _ := q_; subst q2_) | (simp [go_sem, *] at q_; have q2_ : q = some _ := q_; subst q2_)
              have q_ := x1.bel.frozen (p := ⟨w.heap.size+1, 1, none⟩) (by first | omega | (simp; done) | (simp; omega))
              generalize z_x1_1_1 : x1.val.frozen? ⟨w.heap.size+1, 1, none⟩ = q at q_
              first | (have q2_ : q = false := q_; subst q2_) | (simp [go_sem] at q_; have q2_ : q = false := q_; subst q2_) | (simp [go_sem, *] at q_; have q2_ : q = false := q_; subst q2_)
              have q_ := x1.bel.cell (p := ⟨w.heap.size+1, 2, none⟩) (by first | omega | (simp; done) | (simp; omega))
              generalize c_x1_1_2 : x1.val.cell? ⟨w.heap.size+1, 2, none⟩ = q at q_
              first | (have q2_ : q = some _ := q_; subst q2_) | (simp [go_sem] at q_; have q2_ : q = some _ := q_; subst q2_) | (simp [go_sem, *] at q_; have q2_ : q = some _ := q_; subst q2_)
              have q_ := x1.bel.frozen (p := ⟨w.heap.size+1, 2, none⟩) (by first | omega | (simp; done) | (simp; omega))
              generalize z_x1_1_2 : x1.val.frozen? ⟨w.heap.size+1, 2, none⟩ = q at q_
              first | (have q2_ : q = false := q_; subst q2_) | (simp [go_sem] at q_; have q2_ : q = false := q_; subst q2_) | (simp [go_sem, *] at q_; have q2_ : q = false := q_; subst q2_)
              have q_ := x1.bel.cell (p := ⟨w.heap.size+1, 3, none⟩) (by first | omega | (simp; done) | (simp; omega))
              generalize c_x1_1_3 : x1.val.cell? ⟨w.heap.size+1, 3, none⟩ = q at q_
              first | (have q2_ : q = some _ := q_; subst q2_) | (simp [go_sem] at q_; have q2_ : q = some _ := q_; subst q2_) | (simp [go_sem, *] at q_; have q2_ : q = some _ := q_; subst q2_)
              have q_ := x1.bel.frozen (p := ⟨w.heap.size+1, 3, none⟩) (by first | omega | (simp; done) | (simp; omega))
              generalize z_x1_1_3 : x1.val.frozen? ⟨w.heap.size+1, 3, none⟩ = q at q_
              first | (have q2_ : q = false := q_; subst q2_) | (simp [go_sem] at q_; have q2_ : q = false := q_; subst q2_) | (simp [go_sem, *] at q_; have q2_ : q = false := q_; subst q2_)
              have q_ := x1.bel.cell (p := ⟨w.heap.size+1, 4, none⟩) (by first | omega | (simp; done) | (simp; omega))
              generalize c_x1_1_4 : x1.val.cell? ⟨w.heap.size+1, 4, none⟩ = q at q_
              first | (have q2_ : q = some _ := q_; subst q2_) | (simp [go_sem] at q_; have q2_ : q = some _ := q_; subst q2_) | (simp [go_sem, *] at q_; have q2_ : q = some _ := q_; subst q2_)
              have q_ := x1.bel.frozen (p := ⟨w.heap.size+1, 4, none⟩) (by first | omega | (simp; done) | (simp; omega))
              generalize z_x1_1_4 : x1.val.frozen? ⟨w.heap.size+1, 4, none⟩ = q at q_
              first | (have q2_ : q = false := q_; subst q2_) | (simp [go_sem] at q_; have q2_ : q = false := q_; subst q2_) | (simp [go_sem, *] at q_; have q2_ : q = false := q_; subst q2_)
              go_wp2_with (
                at_builtin
                go_loud (
                refine wpList_append_sq (f := byw) _ rfl _ _ 24 rfl (fun _ => rfl) (x1.val.heap.size + 1) 5 i0 _ _ Try.underlying24 hi hz0 rfl hz1 hz2 (by decide) _ [] rfl (own_sq_empty byw _ _ _ _ (by simp) (by simp)) w.heap.size _ (l1.take k) c k HTK.out rfl (((HB.out.sq.below (B := w.heap.size) (by exact (by repeat (first | with_reducible exact Below.refl _ _ | with_reducible refine bel_later _ ?_ | with_reducible refine bel_alloc ?_ _ | refine bel_set ?_ (by first | omega | (simp; done) | (simp; omega)) _ | with_reducible refine Below.drew ?_ | with_reducible refine bel_drewN ?_ _ | with_reducible assumption | assumption)))).take k)) HB.out.nil (by simp; omega) (by simp) ?_
                intro A' c' w' hown hg hb
                obtain ⟨x2, rfl⟩ := later_is hb
                simp only [List.nil_append, HTK.out] at hown ⊢
                have HO := Lib.hid hown
                have hbw : Below w.heap.size w x2.val := Below.trans (by exact (by repeat (first | with_reducible exact Below.refl _ _ | with_reducible refine bel_later _ ?_ | with_reducible refine bel_alloc ?_ _ | refine bel_set ?_ (by first | omega | (simp; done) | (simp; omega)) _ | with_reducible refine Below.drew ?_ | with_reducible refine bel_drewN ?_ _ | with_reducible assumption | assumption))) (x2.bel.mono (by omega))
                clear hown hg hb
                have hz_x2 := x2.bel.size
                try simp at hz_x2
                have l_x2_0 : w.heap.size < x2.val.heap.size := by omega
                have m_x2_0 : w.heap.size < x2.val.heap.size + 1 := by omega
                have q_ := x2.bel.cell (p := ⟨w.heap.size, 0, none⟩) (by first | omega | (simp; done) | (simp; omega))
                generalize c_x2_0_0 : x2.val.cell? ⟨w.heap.size, 0, none⟩ = q at q_
                first | (have q2_ : q = some _ := q_; subst q2_) | (simp [go_sem] at q_; have q2_ : q = some _ := q_; subst q2_) | (simp [go_sem, *] at q_; have q2_ : q = some _ := q_; subst q2_)
                have q_ := x2.bel.frozen (p := ⟨w.heap.size, 0, none⟩) (by first | omega | (simp; done) | (simp; omega))
                generalize z_x2_0_0 : x2.val.frozen? ⟨w.heap.size, 0, none⟩ = q at q_
                first | (have q2_ : q = false := q_; subst q2_) | (simp [go_sem] at q_; have q2_ : q = false := q_; subst q2_) | (simp [go_sem, *] at q_; have q2_ : q = false := q_; subst q2_)
                have q_ := x2.bel.cell (p := ⟨w.heap.size, 1, none⟩) (by first | omega | (simp; done) | (simp; omega))
                generalize c_x2_0_1 : x2.val.cell? ⟨w.heap.size, 1, none⟩ = q at q_
                first | (have q2_ : q = some _ := q_; subst q2_) | (simp [go_sem] at q_; have q2_ : q = some _ := q_; subst q2_) | (simp [go_sem, *] at q_; have q2_ : q = some _ := q_; subst q2_)
                have q_ := x2.bel.frozen (p := ⟨w.heap.size, 1, none⟩) (by first | omega | (simp; done) | (simp; omega))
                generalize z_x2_0_1 : x2.val.frozen? ⟨w.heap.size, 1, none⟩ = q at q_
                first | (have q2_ : q = false := q_; subst q2_) | (simp [go_sem] at q_; have q2_ : q = false := q_; subst q2_) | (simp [go_sem, *] at q_; have q2_ : q = false := q_; subst q2_)
                have q_ := x2.bel.cell (p := ⟨w.heap.size, 2, none⟩) (by first | omega | (simp; done) | (simp; omega))
                generalize c_x2_0_2 : x2.val.cell? ⟨w.heap.size, 2, none⟩ = q at q_
                first | (have q2_ : q = some _ := q_; subst q2_) | (simp [go_sem] at q_; have q2_ : q = some _ := q_; subst q2_) | (simp [go_sem, *] at q_; have q2_ : q = some _ := q_; subst q2_)
                have q_ := x2.bel.frozen (p := ⟨w.heap.size, 2, none⟩) (by first | omega | (simp; done) | (simp; omega))
                generalize z_x2_0_2 : x2.val.frozen? ⟨w.heap.size, 2, none⟩ = q at q_
                first | (have q2_ : q = false := q_; subst q2_) | (simp [go_sem] at q_; have q2_ : q = false := q_; subst q2_) | (simp [go_sem, *] at q_; have q2_ : q = false := q_; subst q2_)
                have q_ := x2.bel.cell (p := ⟨w.heap.size, 3, none⟩) (by first | omega | (simp; done) | (simp; omega))
                generalize c_x2_0_3 : x2.val.cell? ⟨w.heap.size, 3, none⟩ = q at q_
                first | (have q2_ : q = some _ := q_; subst q2_) | (simp [go_sem] at q_; have q2_ : q = some _ := q_; subst q2_) | (simp [go_sem, *] at q_; have q2_ : q = some _ := q_; subst q2_)
                have q_ := x2.bel.frozen (p := ⟨w.heap.size, 3, none⟩) (by first | omega | (simp; done) | (simp; omega))
                generalize z_x2_0_3 : x2.val.frozen? ⟨w.heap.size, 3, none⟩ = q at q_
                first | (have q2_ : q = false := q_; subst q2_) | (simp [go_sem] at q_; have q2_ : q = false := q_; subst q2_) | (simp [go_sem, *] at q_; have q2_ : q = false := q_; subst q2_)
                have q_ := x2.bel.cell (p := ⟨w.heap.size, 4, none⟩) (by first | omega | (simp; done) | (simp; omega))
                generalize c_x2_0_4 : x2.val.cell? ⟨w.heap.size, 4, none⟩ = q at q_
                first | (have q2_ : q = some _ := q_; subst q2_) | (simp [go_sem] at q_; have q2_ : q = some _ := q_; subst q2_) | (simp [go_sem, *] at q_; have q2_ : q = some _ := q_; subst q2_)
                have q_ := x2.bel.frozen (p := ⟨w.heap.size, 4, none⟩) (by first | omega | (simp; done) | (simp; omega))
                generalize z_x2_0_4 : x2.val.frozen? ⟨w.heap.size, 4, none⟩ = q at q_
                first | (have q2_ : q = false := q_; subst q2_) | (simp [go_sem] at q_; have q2_ : q = false := q_; subst q2_) | (simp [go_sem, *] at q_; have q2_ : q = false := q_; subst q2_)
                have l_x2_1 : w.heap.size+1 < x2.val.heap.size := by omega
                have m_x2_1 : w.heap.size+1 < x2.val.heap.size + 1 := by omega
                have q_ := x2.bel.cell (p := ⟨w.heap.size+1, 0, none⟩) (by first | omega | (simp; done) | (simp; omega))
                generalize c_x2_1_0 : x2.val.cell? ⟨w.heap.size+1, 0, none⟩ = q at q_
                first | (have q2_ : q = some _ := q_; subst q2_) | (simp [go_sem] at q_; have q2_ : q = some _ := q_; subst q2_) | (simp [go_sem, *] at q_; have q2_ : q = some _ := q_; subst q2_)
                have q_ := x2.bel.frozen (p := ⟨w.heap.size+1, 0, none⟩) (by first | omega | (simp; done) | (simp; omega))
                generalize z_x2_1_0 : x2.val.frozen? ⟨w.heap.size+1, 0, none⟩ = q at q_
                first | (have q2_ : q = false := q_; subst q2_) | (simp [go_sem] at q_; have q2_ : q = false := q_; subst q2_) | (simp [go_sem, *] at q_; have q2_ : q = false := q_; subst q2_)
                have q_ := x2.bel.cell (p := ⟨w.heap.size+1, 1, none⟩) (by first | omega | (simp; done) | (simp; omega))
                generalize c_x2_1_1 : x2.val.cell? ⟨w.heap.size+1, 1, none⟩ = q at q_
                first | (have q2_ : q = some _ := q_; subst q2_) | (simp [go_sem] at q_; have q2_ : q = some _ := q_; subst q2_) | (simp [go_sem, *] at q_; have q2_ : q = some _ := q_; subst q2_)
                have q_ := x2.bel.frozen (p := ⟨w.heap.size+1, 1, none⟩) (by first | omega | (simp; done) | (simp; omega))
                generalize z_x2_1_1 : x2.val.frozen? ⟨w.heap.size+1, 1, none⟩ = q at q_
                first | (have q2_ : q = false := q_; subst q2_) | (simp [go_sem] at q_; have q2_ : q = false := q_; subst q2_) | (simp [go_sem, *] at q_; have q2_ : q = false := q_; subst q2_)
                have q_ := x2.bel.cell (p := ⟨w.heap.size+1, 2, none⟩) (by first | omega | (simp; done) | (simp; omega))
                generalize c_x2_1_2 : x2.val.cell? ⟨w.heap.size+1, 2, none⟩ = q at q_
                first | (have q2_ : q = some _ := q_; subst q2_) | (simp [go_sem] at q_; have q2_ : q = some _ := q_; subst q2_) | (simp [go_sem, *] at q_; have q2_ : q = some _ := q_; subst q2_)
                have q_ := x2.bel.frozen (p := ⟨w.heap.size+1, 2, none⟩) (by first | omega | (simp; done) | (simp; omega))
                generalize z_x2_1_2 : x2.val.frozen? ⟨w.heap.size+1, 2, none⟩ = q at q_
                first | (have q2_ : q = false := q_; subst q2_) | (simp [go_sem] at q_; have q2_ : q = false := q_; subst q2_) | (simp [go_sem, *] at q_; have q2_ : q = false := q_; subst q2_)
                have q_ := x2.bel.cell (p := ⟨w.heap.size+1, 3, none⟩) (by first | omega | (simp; done) | (simp; omega))
                generalize c_x2_1_3 : x2.val.cell? ⟨w.heap.size+1, 3, none⟩ = q at q_
                first | (have q2_ : q = some _ := q_; subst q2_) | (simp [go_sem] at q_; have q2_ : q = some _ := q_; subst q2_) | (simp [go_sem, *] at q_; have q2_ : q = some _ := q_; subst q2_)
                have q_ := x2.bel.frozen (p := ⟨w.heap.size+1, 3, none⟩) (by first | omega | (simp; done) | (simp; omega))
                generalize z_x2_1_3 : x2.val.frozen? ⟨w.heap.size+1, 3, none⟩ = q at q_
                first | (have q2_ : q = false := q_; subst q2_) | (simp [go_sem] at q_; have q2_ : q = false := q_; subst q2_) | (simp [go_sem, *] at q_; have q2_ : q = false := q_; subst q2_)
                have q_ := x2.bel.cell (p := ⟨w.heap.size+1, 4, none⟩) (by first | omega | (simp; done) | (simp; omega))
                generalize c_x2_1_4 : x2.val.cell? ⟨w.heap.size+1, 4, none⟩ = q at q_
                first | (have q2_ : q = some _ := q_; subst q2_) | (simp [go_sem] at q_; have q2_ : q = some _ := q_; subst q2_) | (simp [go_sem, *] at q_; have q2_ : q = some _ := q_; subst q2_)
                have q_ := x2.bel.frozen (p := ⟨w.heap.size+1, 4, none⟩) (by first | omega | (simp; done) | (simp; omega))
                generalize z_x2_1_4 : x2.val.frozen? ⟨w.heap.size+1, 4, none⟩ = q at q_
                first | (have q2_ : q = false := q_; subst q2_) | (simp [go_sem] at q_; have q2_ : q = false := q_; subst q2_) | (simp [go_sem, *] at q_; have q2_ : q = false := q_; subst q2_)
                have l_x2_2 : x1.val.heap.size < x2.val.heap.size := by omega
                have m_x2_2 : x1.val.heap.size < x2.val.heap.size + 1 := by omega
                have q_ := x2.bel.cell (p := ⟨x1.val.heap.size, 0, none⟩) (by first | omega | (simp; done) | (simp; omega))
                generalize c_x2_2_0 : x2.val.cell? ⟨x1.val.heap.size, 0, none⟩ = q at q_
                first | (have q2_ : q = some _ := q_; subst q2_) | (simp [go_sem] at q_; have q2_ : q = some _ := q_; subst q2_) | (simp [go_sem, *] at q_; have q2_ : q = some _ := q_; subst q2_)
                have q_ := x2.bel.frozen (p := ⟨x1.val.heap.size, 0, none⟩) (by first | omega | (simp; done) | (simp; omega))
                generalize z_x2_2_0 : x2.val.frozen? ⟨x1.val.heap.size, 0, none⟩ = q at q_
                first | (have q2_ : q = false := q_; subst q2_) | (simp [go_sem] at q_; have q2_ : q = false := q_; subst q2_) | (simp [go_sem, *] at q_; have q2_ : q = false := q_; subst q2_)
                have q_ := x2.bel.cell (p := ⟨x1.val.heap.size, 1, none⟩) (by first | omega | (simp; done) | (simp; omega))
                generalize c_x2_2_1 : x2.val.cell? ⟨x1.val.heap.size, 1, none⟩ = q at q_
                first | (have q2_ : q = some _ := q_; subst q2_) | (simp [go_sem] at q_; have q2_ : q = some _ := q_; subst q2_) | (simp [go_sem, *] at q_; have q2_ : q = some _ := q_; subst q2_)
                have q_ := x2.bel.frozen (p := ⟨x1.val.heap.size, 1, none⟩) (by first | omega | (simp; done) | (simp; omega))
                generalize z_x2_2_1 : x2.val.frozen? ⟨x1.val.heap.size, 1, none⟩ = q at q_
                first | (have q2_ : q = false := q_; subst q2_) | (simp [go_sem] at q_; have q2_ : q = false := q_; subst q2_) | (simp [go_sem, *] at q_; have q2_ : q = false := q_; subst q2_)
                have q_ := x2.bel.cell (p := ⟨x1.val.heap.size, 2, none⟩) (by first | omega | (simp; done) | (simp; omega))
                generalize c_x2_2_2 : x2.val.cell? ⟨x1.val.heap.size, 2, none⟩ = q at q_
                first | (have q2_ : q = some _ := q_; subst q2_) | (simp [go_sem] at q_; have q2_ : q = some _ := q_; subst q2_) | (simp [go_sem, *] at q_; have q2_ : q = some _ := q_; subst q2_)
                have q_ := x2.bel.frozen (p := ⟨x1.val.heap.size, 2, none⟩) (by first | omega | (simp; done) | (simp; omega))
                generalize z_x2_2_2 : x2.val.frozen? ⟨x1.val.heap.size, 2, none⟩ = q at q_
                first | (have q2_ : q = false := q_; subst q2_) | (simp [go_sem] at q_; have q2_ : q = false := q_; subst q2_) | (simp [go_sem, *] at q_; have q2_ : q = false := q_; subst q2_)
                have q_ := x2.bel.cell (p := ⟨x1.val.heap.size, 3, none⟩) (by first | omega | (simp; done) | (simp; omega))
                generalize c_x2_2_3 : x2.val.cell? ⟨x1.val.heap.size, 3, none⟩ = q at q_
                first | (have q2_ : q = some _ := q_; subst q2_) | (simp [go_sem] at q_; have q2_ : q = some _ := q_; subst q2_) | (simp [go_sem, *] at q_; have q2_ : q = some _ := q_; subst q2_)
                have q_ := x2.bel.frozen (p := ⟨x1.val.heap.size, 3, none⟩) (by first | omega | (simp; done) | (simp; omega))
                generalize z_x2_2_3 : x2.val.frozen? ⟨x1.val.heap.size, 3, none⟩ = q at q_
                first | (have q2_ : q = false := q_; subst q2_) | (simp [go_sem] at q_; have q2_ : q = false := q_; subst q2_) | (simp [go_sem, *] at q_; have q2_ : q = false := q_; subst q2_)
                have q_ := x2.bel.cell (p := ⟨x1.val.heap.size, 4, none⟩) (by first | omega | (simp; done) | (simp; omega))
                generalize c_x2_2_4 : x2.val.cell? ⟨x1.val.heap.size, 4, none⟩ = q at q_
                first | (have q2_ : q = some _ := q_; subst q2_) | (simp [go_sem] at q_; have q2_ : q = some _ := q_; subst q2_) | (simp [go_sem, *] at q_; have q2_ : q = some _ := q_; subst q2_)
                have q_ := x2.bel.frozen (p := ⟨x1.val.heap.size, 4, none⟩) (by first | omega | (simp; done) | (simp; omega))
                generalize z_x2_2_4 : x2.val.frozen? ⟨x1.val.heap.size, 4, none⟩ = q at q_
                first | (have q2_ : q = false := q_; subst q2_) | (simp [go_sem] at q_; have q2_ : q = false := q_; subst q2_) | (simp [go_sem, *] at q_; have q2_ : q = false := q_; subst q2_)
                skip))
              refine bodyPost_ret (v := .tuple #[.agg #[.int .i64 (room1 : Int), .int .i64 (safe1 : Int), .int .i64 zl1, .slice A' k c', .bool off1], .int .i64 0]) (by simp [results, Try.results52, go_sem, *]) rfl (RdP.own (A' := A') (c' := c') (base := x1.val.heap.size + 1) (by simp [Dk.R, HTK.out, HZ1.out, hmin.out]) HTK.out (by repeat (first | with_reducible exact HO.out | refine own_set ?_ (by omega) | refine own_below ?_ (bel_alloc (Below.refl _ _) _))) (by omega) (by repeat (first | with_reducible exact Below.refl _ _ | with_reducible refine bel_later _ ?_ | with_reducible refine bel_alloc ?_ _ | refine bel_set ?_ (by first | omega | (simp; done) | (simp; omega)) _ | with_reducible refine Below.drew ?_ | with_reducible refine bel_drewN ?_ _ | with_reducible assumption | assumption)))
            · go_enter Try.func52, Try.ntmps52
              go_wp2_with fail
              refine (ks.out _).mono ?_
              rintro e_x1 w_x1 ⟨rfl, hb_x1⟩
              obtain ⟨x1, rfl⟩ := later_is hb_x1
              clear hb_x1
              have hz_x1 := x1.bel.size
              try simp at hz_x1
              have l_x1_0 : w.heap.size < x1.val.heap.size := by omega
              have m_x1_0 : w.heap.size < x1.val.heap.size + 1 := by omega
              have q_ := x1.bel.cell (p := ⟨w.heap.size, 0, none⟩) (by first | omega | (simp; done) | (simp; omega))
              generalize c_x1_0_0 : x1.val.cell? ⟨w.heap.size, 0, none⟩ = q at q_
              first | (have q2_ : q = some _ := q_; subst q2_) | (simp [go_sem] at q_; have q2_ : q = some _ := q_; subst q2_) | (simp [go_sem, *] at q_; have q2_ : q = some _ := q_; subst q2_)
              have q_ := x1.bel.frozen (p := ⟨w.heap.size, 0, none⟩) (by first | omega | (simp; done) | (simp; omega))
              generalize z_x1_0_0 : x1.val.frozen? ⟨w.heap.size, 0, none⟩ = q at q_
              first | (have q2_ : q = false := q_; subst q2_) | (simp [go_sem] at q_; have q2_ : q = false := q_; subst q2_) | (simp [go_sem, *] at q_; have q2_ : q = false := q_; subst q2_)
              have q_ := x1.bel.cell (p := ⟨w.heap.size, 1, none⟩) (by first | omega | (simp; done) | (simp; omega))
              generalize c_x1_0_1 : x1.val.cell? ⟨w.heap.size, 1, none⟩ = q at q_
              first | (have q2_ : q = some _ := q_; subst q2_) | (simp [go_sem] at q_; have q2_ : q = some _ := q_; subst q2_) | (simp [go_sem, *] at q_; have q2_ : q = some _ := q_; subst q2_)
              have q_ := x1.bel.frozen (p := ⟨w.heap.size, 1, none⟩) (by first | omega | (simp; done) | (simp; omega))
              generalize z_x1_0_1 : x1.val.frozen? ⟨w.heap.size, 1, none⟩ = q at q_
              first | (have q2_ : q = false := q_; subst q2_) | (simp [go_sem] at q_; have q2_ : q = false := q_; subst q2_) | (simp [go_sem, *] at q_; have q2_ : q = false := q_; subst q2_)
              have q_ := x1.bel.cell (p := ⟨w.heap.size, 2, none⟩) (by first | omega | (simp; done) | (simp; omega))
              generalize c_x1_0_2 : x1.val.cell? ⟨w.heap.size, 2, none⟩ = q at q_
              first | (have q2_ : q = some _ := q_; subst q2_) | (simp [go_sem] at q_; have q2_ : q = some _ := q_; subst q2_) | (simp [go_sem, *] at q_; have q2_ : q = some _ := q_; subst q2_)
              have q_ := x1.bel.frozen (p := ⟨w.heap.size, 2, none⟩) (by first | omega | (simp; done) | (simp; omega))
              generalize z_x1_0_2 : x1.val.frozen? ⟨w.heap.size, 2, none⟩ = q at q_
              first | (have q2_ : q = false := q_; subst q2_) | (simp [go_sem] at q_; have q2_ : q = false := q_; subst q2_) | (simp [go_sem, *] at q_; have q2_ : q = false := q_; subst q2_)
              have q_ := x1.bel.cell (p := ⟨w.heap.size, 3, none⟩) (by first | omega | (simp; done) | (simp; omega))
              generalize c_x1_0_3 : x1.val.cell? ⟨w.heap.size, 3, none⟩ = q at q_
              first | (have q2_ : q = some _ := q_; subst q2_) | (simp [go_sem] at q_; have q2_ : q = some _ := q_; subst q2_) | (simp [go_sem, *] at q_; have q2_ : q = some _ := q_; subst q2_)
              have q_ := x1.bel.frozen (p := ⟨w.heap.size, 3, none⟩) (by first | omega | (simp; done) | (simp; omega))
              generalize z_x1_0_3 : x1.val.frozen? ⟨w.heap.size, 3, none⟩ = q at q_
              first | (have q2_ : q = false := q_; subst q2_) | (simp [go_sem] at q_; have q2_ : q = false := q_; subst q2_) | (simp [go_sem, *] at q_; have q2_ : q = false := q_; subst q2_)
              have q_ := x1.bel.cell (p := ⟨w.heap.size, 4, none⟩) (by first | omega | (simp; done) | (simp; omega))
              generalize c_x1_0_4 : x1.val.cell? ⟨w.heap.size, 4, none⟩ = q at q_
              first | (have q2_ : q = some _ := q_; subst q2_) | (simp [go_sem] at q_; have q2_ : q = some _ := q_; subst q2_) | (simp [go_sem, *] at q_; have q2_ : q = some _ := q_; subst q2_)
              have q_ := x1.bel.frozen (p := ⟨w.heap.size, 4, none⟩) (by first | omega | (simp; done) | (simp; omega))
              generalize z_x1_0_4 : x1.val.frozen? ⟨w.heap.size, 4, none⟩ = q at q_
              first | (have q2_ : q = false := q_; subst q2_) | (simp [go_sem] at q_; have q2_ : q = false := q_; subst q2_) | (simp [go_sem, *] at q_; have q2_ : q = false := q_; subst q2_)
              have l_x1_1 : w.heap.size+1 < x1.val.heap.size := by omega
              have m_x1_1 : w.heap.size+1 < x1.val.heap.size + 1 := by omega
              have q_ := x1.bel.cell (p := ⟨w.heap.size+1, 0, none⟩) (by first | omega | (simp; done) | (simp; omega))
              generalize c_x1_1_0 : x1.val.cell? ⟨w.heap.size+1, 0, none⟩ = q at q_
              first | (have q2_ : q = some _ := q_; subst q2_) | (simp [go_sem] at q_; have q2_ : q = some _ := q_; subst q2_) | (simp [go_sem, *] at q_; have q2_ : q = some _ := q_; subst q2_)
              have q_ := x1.bel.frozen (p := ⟨w.heap.size+1, 0, none⟩) (by first | omega | (simp; done) | (simp; omega))
              generalize z_x1_1_0 : x1.val.frozen? ⟨w.heap.size+1, 0, none⟩ = q at q_
              first | (have q2_ : q = false := q_; subst q2_) | (simp [go_sem] at q_; have q2_ : q = false := q_; subst q2_) | (simp [go_sem, *] at q_; have q2_ : q = false := q_; subst q2_)
              have q_ := x1.bel.cell (p := ⟨w.heap.size+1, 1, none⟩) (by first | omega | (simp; done) | (simp; omega))
              generalize c_x1_1_1 : x1.val.cell? ⟨w.heap.size+1, 1, none⟩ = q at q_
              first | (have q2_ : q = some _ := q_; subst q2_) | (simp [go_sem] at q_; have q2_ : q = some _ := q_; subst q2_) | (simp [go_sem, *] at q_; have q2_ : q = some _ := q_; subst q2_)
              have q_ := x1.bel.frozen (p := ⟨w.heap.size+1, 1, none⟩) (by first | omega | (simp; done) | (simp; omega))
              generalize z_x1_1_1 : x1.val.frozen? ⟨w.heap.size+1, 1, none⟩ = q at q_
              first | (have q2_ : q = false := q_; subst q2_) | (simp [go_sem] at q_; have q2_ : q = false := q_; subst q2_) | (simp [go_sem, *] at q_; have q2_ : q = false := q_; subst q2_)
              have q_ := x1.bel.cell (p := ⟨w.heap.size+1, 2, none⟩) (by first | omega | (simp; done) | (simp; omega))
              generalize c_x1_1_2 : x1.val.cell? ⟨w.heap.size+1, 2, none⟩ = q at q_
              first | (have q2_ : q = some _ := q_; subst q2_) | (simp [go_sem] at q_; have q2_ : q = some _ := q_; subst q2_) | (simp [go_sem, *] at q_; have q2_ : q = some _ := q_; subst q2_)
              have q_ := x1.bel.frozen (p := ⟨w.heap.size+1, 2, none⟩) (by first | omega | (simp; done) | (simp; omega))
              generalize z_x1_1_2 : x1.val.frozen? ⟨w.heap.size+1, 2, none⟩ = q at q_
              first | (have q2_ : q = false := q_; subst q2_) | (simp [go_sem] at q_; have q2_ : q = false := q_; subst q2_) | (simp [go_sem, *] at q_; have q2_ : q = false := q_; subst q2_)
              have q_ := x1.bel.cell (p := ⟨w.heap.size+1, 3, none⟩) (by first | omega | (simp; done) | (simp; omega))
              generalize c_x1_1_3 : x1.val.cell? ⟨w.heap.size+1, 3, none⟩ = q at q_
              first | (have q2_ : q = some _ := q_; subst q2_) | (simp [go_sem] at q_; have q2_ : q = some _ := q_; subst q2_) | (simp [go_sem, *] at q_; have q2_ : q = some _ := q_; subst q2_)
              have q_ := x1.bel.frozen (p := ⟨w.heap.size+1, 3, none⟩) (by first | omega | (simp; done) | (simp; omega))
              generalize z_x1_1_3 : x1.val.frozen? ⟨w.heap.size+1, 3, none⟩ = q at q_
              first | (have q2_ : q = false := q_; subst q2_) | (simp [go_sem] at q_; have q2_ : q = false := q_; subst q2_) | (simp [go_sem, *] at q_; have q2_ : q = false := q_; subst q2_)
              have q_ := x1.bel.cell (p := ⟨w.heap.size+1, 4, none⟩) (by first | omega | (simp; done) | (simp; omega))
              generalize c_x1_1_4 : x1.val.cell? ⟨w.heap.size+1, 4, none⟩ = q at q_
              first | (have q2_ : q = some _ := q_; subst q2_) | (simp [go_sem] at q_; have q2_ : q = some _ := q_; subst q2_) | (simp [go_sem, *] at q_; have q2_ : q = some _ := q_; subst q2_)
              have q_ := x1.bel.frozen (p := ⟨w.heap.size+1, 4, none⟩) (by first | omega | (simp; done) | (simp; omega))
              generalize z_x1_1_4 : x1.val.frozen? ⟨w.heap.size+1, 4, none⟩ = q at q_
              first | (have q2_ : q = false := q_; subst q2_) | (simp [go_sem] at q_; have q2_ : q = false := q_; subst q2_) | (simp [go_sem, *] at q_; have q2_ : q = false := q_; subst q2_)
              go_wp2_with (
                at_builtin
                go_loud (
                refine wpList_append_sq (f := byw) _ rfl _ _ 24 rfl (fun _ => rfl) (x1.val.heap.size + 1) 5 i0 _ _ Try.underlying24 hi hz0 rfl hz1 hz2 (by decide) _ [] rfl (own_sq_empty byw _ _ _ _ (by simp) (by simp)) w.heap.size _ (l1.take k) c k HTK.out rfl (((HB.out.sq.below (B := w.heap.size) (by exact (by repeat (first | with_reducible exact Below.refl _ _ | with_reducible refine bel_later _ ?_ | with_reducible refine bel_alloc ?_ _ | refine bel_set ?_ (by first | omega | (simp; done) | (simp; omega)) _ | with_reducible refine Below.drew ?_ | with_reducible refine bel_drewN ?_ _ | with_reducible assumption | assumption)))).take k)) HB.out.nil (by simp; omega) (by simp) ?_
                intro A' c' w' hown hg hb
                obtain ⟨x2, rfl⟩ := later_is hb
                simp only [List.nil_append, HTK.out] at hown ⊢
                have HO := Lib.hid hown
                have hbw : Below w.heap.size w x2.val := Below.trans (by exact (by repeat (first | with_reducible exact Below.refl _ _ | with_reducible refine bel_later _ ?_ | with_reducible refine bel_alloc ?_ _ | refine bel_set ?_ (by first | omega | (simp; done) | (simp; omega)) _ | with_reducible refine Below.drew ?_ | with_reducible refine bel_drewN ?_ _ | with_reducible assumption | assumption))) (x2.bel.mono (by omega))
                clear hown hg hb
                have hz_x2 := x2.bel.size
                try simp at hz_x2
                have l_x2_0 : w.heap.size < x2.val.heap.size := by omega
                have m_x2_0 : w.heap.size < x2.val.heap.size + 1 := by omega
                have q_ := x2.bel.cell (p := ⟨w.heap.size, 0, none⟩) (by first | omega | (simp; done) | (simp; omega))
                generalize c_x2_0_0 : x2.val.cell? ⟨w.heap.size, 0, none⟩ = q at q_
                first | (have q2_ : q = some _ := q_; subst q2_) | (simp [go_sem] at q_; have q2_ : q = some _ := q_; subst q2_) | (simp [go_sem, *] at q_; have q2_ : q = some _ := q_; subst q2_)
                have q_ := x2.bel.frozen (p := ⟨w.heap.size, 0, none⟩) (by first | omega | (simp; done) | (simp; omega))
                generalize z_x2_0_0 : x2.val.frozen? ⟨w.heap.size, 0, none⟩ = q at q_
                first | (have q2_ : q = false := q_; subst q2_) | (simp [go_sem] at q_; have q2_ : q = false := q_; subst q2_) | (simp [go_sem, *] at q_; have q2_ : q = false := q_; subst q2_)
                have q_ := x2.bel.cell (p := ⟨w.heap.size, 1, none⟩) (by first | omega | (simp; done) | (simp; omega))
                generalize c_x2_0_1 : x2.val.cell? ⟨w.heap.size, 1, none⟩ = q at q_
                first | (have q2_ : q = some _ := q_; subst q2_) | (simp [go_sem] at q_; have q2_ : q = some _ := q_; subst q2_) | (simp [go_sem, *] at q_; have q2_ : q = some _ := q_; subst q2_)
                have q_ := x2.bel.frozen (p := ⟨w.heap.size, 1, none⟩) (by first | omega | (simp; done) | (simp; omega))
                generalize z_x2_0_1 : x2.val.frozen? ⟨w.heap.size, 1, none⟩ = q at q_
                first | (have q2_ : q = false := q_; subst q2_) | (simp [go_sem] at q_; have q2_ : q = false := q_; subst q2_) | (simp [go_sem, *] at q_; have q2_ : q = false := q_; subst q2_)
                have q_ := x2.bel.cell (p := ⟨w.heap.size, 2, none⟩) (by first | omega | (simp; done) | (simp; omega))
                generalize c_x2_0_2 : x2.val.cell? ⟨w.heap.size, 2, none⟩ = q at q_
                first | (have q2_ : q = some _ := q_; subst q2_) | (simp [go_sem] at q_; have q2_ : q = some _ := q_; subst q2_) | (simp [go_sem, *] at q_; have q2_ : q = some _ := q_; subst q2_)
                have q_ := x2.bel.frozen (p := ⟨w.heap.size, 2, none⟩) (by first | omega | (simp; done) | (simp; omega))
                generalize z_x2_0_2 : x2.val.frozen? ⟨w.heap.size, 2, none⟩ = q at q_
                first | (have q2_ : q = false := q_; subst q2_) | (simp [go_sem] at q_; have q2_ : q = false := q_; subst q2_) | (simp [go_sem, *] at q_; have q2_ : q = false := q_; subst q2_)
                have q_ := x2.bel.cell (p := ⟨w.heap.size, 3, none⟩) (by first | omega | (simp; done) | (simp; omega))
                generalize c_x2_0_3 : x2.val.cell? ⟨w.heap.size, 3, none⟩ = q at q_
                first | (have q2_ : q = some _ := q_; subst q2_) | (simp [go_sem] at q_; have q2_ : q = some _ := q_; subst q2_) | (simp [go_sem, *] at q_; have q2_ : q = some _ := q_; subst q2_)
                have q_ := x2.bel.frozen (p := ⟨w.heap.size, 3, none⟩) (by first | omega | (simp; done) | (simp; omega))
                generalize z_x2_0_3 : x2.val.frozen? ⟨w.heap.size, 3, none⟩ = q at q_
                first | (have q2_ : q = false := q_; subst q2_) | (simp [go_sem] at q_; have q2_ : q = false := q_; subst q2_) | (simp [go_sem, *] at q_; have q2_ : q = false := q_; subst q2_)
                have q_ := x2.bel.cell (p := ⟨w.heap.size, 4, none⟩) (by first | omega | (simp; done) | (simp; omega))
                generalize c_x2_0_4 : x2.val.cell? ⟨w.heap.size, 4, none⟩ = q at q_
                first | (have q2_ : q = some _ := q_; subst q2_) | (simp [go_sem] at q_; have q2_ : q = some _ := q_; subst q2_) | (simp [go_sem, *] at q_; have q2_ : q = some _ := q_; subst q2_)
                have q_ := x2.bel.frozen (p := ⟨w.heap.size, 4, none⟩) (by first | omega | (simp; done) | (simp; omega))
                generalize z_x2_0_4 : x2.val.frozen? ⟨w.heap.size, 4, none⟩ = q at q_
                first | (have q2_ : q = false := q_; subst q2_) | (simp [go_sem] at q_; have q2_ : q = false := q_; subst q2_) | (simp [go_sem, *] at q_; have q2_ : q = false := q_; subst q2_)
                have l_x2_1 : w.heap.size+1 < x2.val.heap.size := by omega
                have m_x2_1 : w.heap.size+1 < x2.val.heap.size + 1 := by omega
                have q_ := x2.bel.cell (p := ⟨w.heap.size+1, 0, none⟩) (by first | omega | (simp; done) | (simp; omega))
                generalize c_x2_1_0 : x2.val.cell? ⟨w.heap.size+1, 0, none⟩ = q at q_
                first | (have q2_ : q = some _ := q_; subst q2_) | (simp [go_sem] at q_; have q2_ : q = some _ := q_; subst q2_) | (simp [go_sem, *] at q_; have q2_ : q = some _ := q_; subst q2_)
                have q_ := x2.bel.frozen (p := ⟨w.heap.size+1, 0, none⟩) (by first | omega | (simp; done) | (simp; omega))
                generalize z_x2_1_0 : x2.val.frozen? ⟨w.heap.size+1, 0, none⟩ = q at q_
                first | (have q2_ : q = false := q_; subst q2_) | (simp [go_sem] at q_; have q2_ : q = false := q_; subst q2_) | (simp [go_sem, *] at q_; have q2_ : q = false := q_; subst q2_)
                have q_ := x2.bel.cell (p := ⟨w.heap.size+1, 1, none⟩) (by first | omega | (simp; done) | (simp; omega))
                generalize c_x2_1_1 : x2.val.cell? ⟨w.heap.size+1, 1, none⟩ = q at q_
                first | (have q2_ : q = some _ := q_; subst q2_) | (simp [go_sem] at q_; have q2_ : q = some _ := q_; subst q2_) | (simp [go_sem, *] at q_; have q2_ : q = some _ := q_; subst q2_)
                have q_ := x2.bel.frozen (p := ⟨w.heap.size+1, 1, none⟩) (by first | omega | (simp; done) | (simp; omega))
                generalize z_x2_1_1 : x2.val.frozen? ⟨w.heap.size+1, 1, none⟩ = q at q_
                first | (have q2_ : q = false := q_; subst q2_) | (simp [go_sem] at q_; have q2_ : q = false := q_; subst q2_) | (simp [go_sem, *] at q_; have q2_ : q = false := q_; subst q2_)
                have q_ := x2.bel.cell (p := ⟨w.heap.size+1, 2, none⟩) (by first | omega | (simp; done) | (simp; omega))
                generalize c_x2_1_2 : x2.val.cell? ⟨w.heap.size+1, 2, none⟩ = q at q_
                first | (have q2_ : q = some _ := q_; subst q2_) | (simp [go_sem] at q_; have q2_ : q = some _ := q_; subst q2_) | (simp [go_sem, *] at q_; have q2_ : q = some _ := q_; subst q2_)
                have q_ := x2.bel.frozen (p := ⟨w.heap.size+1, 2, none⟩) (by first | omega | (simp; done) | (simp; omega))
                generalize z_x2_1_2 : x2.val.frozen? ⟨w.heap.size+1, 2, none⟩ = q at q_
                first | (have q2_ : q = false := q_; subst q2_) | (simp [go_sem] at q_; have q2_ : q = false := q_; subst q2_) | (simp [go_sem, *] at q_; have q2_ : q = false := q_; subst q2_)
                have q_ := x2.bel.cell (p := ⟨w.heap.size+1, 3, none⟩) (by first | omega | (simp; done) | (simp; omega))
                generalize c_x2_1_3 : x2.val.cell? ⟨w.heap.size+1, 3, none⟩ = q at q_
                first | (have q2_ : q = some _ := q_; subst q2_) | (simp [go_sem] at q_; have q2_ : q = some _ := q_; subst q2_) | (simp [go_sem, *] at q_; have q2_ : q = some _ := q_; subst q2_)
                have q_ := x2.bel.frozen (p := ⟨w.heap.size+1, 3, none⟩) (by first | omega | (simp; done) | (simp; omega))
                generalize z_x2_1_3 : x2.val.frozen? ⟨w.heap.size+1, 3, none⟩ = q at q_
                first | (have q2_ : q = false := q_; subst q2_) | (simp [go_sem] at q_; have q2_ : q = false := q_; subst q2_) | (simp [go_sem, *] at q_; have q2_ : q = false := q_; subst q2_)
                have q_ := x2.bel.cell (p := ⟨w.heap.size+1, 4, none⟩) (by first | omega | (simp; done) | (simp; omega))
                generalize c_x2_1_4 : x2.val.cell? ⟨w.heap.size+1, 4, none⟩ = q at q_
                first | (have q2_ : q = some _ := q_; subst q2_) | (simp [go_sem] at q_; have q2_ : q = some _ := q_; subst q2_) | (simp [go_sem, *] at q_; have q2_ : q = some _ := q_; subst q2_)
                have q_ := x2.bel.frozen (p := ⟨w.heap.size+1, 4, none⟩) (by first | omega | (simp; done) | (simp; omega))
                generalize z_x2_1_4 : x2.val.frozen? ⟨w.heap.size+1, 4, none⟩ = q at q_
                first | (have q2_ : q = false := q_; subst q2_) | (simp [go_sem] at q_; have q2_ : q = false := q_; subst q2_) | (simp [go_sem, *] at q_; have q2_ : q = false := q_; subst q2_)
                have l_x2_2 : x1.val.heap.size < x2.val.heap.size := by omega
                have m_x2_2 : x1.val.heap.size < x2.val.heap.size + 1 := by omega
                have q_ := x2.bel.cell (p := ⟨x1.val.heap.size, 0, none⟩) (by first | omega | (simp; done) | (simp; omega))
                generalize c_x2_2_0 : x2.val.cell? ⟨x1.val.heap.size, 0, none⟩ = q at q_
                first | (have q2_ : q = some _ := q_; subst q2_) | (simp [go_sem] at q_; have q2_ : q = some _ := q_; subst q2_) | (simp [go_sem, *] at q_; have q2_ : q = some _ := q_; subst q2_)
                have q_ := x2.bel.frozen (p := ⟨x1.val.heap.size, 0, none⟩) (by first | omega | (simp; done) | (simp; omega))
                generalize z_x2_2_0 : x2.val.frozen? ⟨x1.val.heap.size, 0, none⟩ = q at q_
                first | (have q2_ : q = false := q_; subst q2_) | (simp [go_sem] at q_; have q2_ : q = false := q_; subst q2_) | (simp [go_sem, *] at q_; have q2_ : q = false := q_; subst q2_)
                have q_ := x2.bel.cell (p := ⟨x1.val.heap.size, 1, none⟩) (by first | omega | (simp; done) | (simp; omega))
                generalize c_x2_2_1 : x2.val.cell? ⟨x1.val.heap.size, 1, none⟩ = q at q_
                first | (have q2_ : q = some _ := q_; subst q2_) | (simp [go_sem] at q_; have q2_ : q = some _ := q_; subst q2_) | (simp [go_sem, *] at q_; have q2_ : q = some _ := q_; subst q2_)
                have q_ := x2.bel.frozen (p := ⟨x1.val.heap.size, 1, none⟩) (by first | omega | (simp; done) | (simp; omega))
                generalize z_x2_2_1 : x2.val.frozen? ⟨x1.val.heap.size, 1, none⟩ = q at q_
                first | (have q2_ : q = false := q_; subst q2_) | (simp [go_sem] at q_; have q2_ : q = false := q_; subst q2_) | (simp [go_sem, *] at q_; have q2_ : q = false := q_; subst q2_)
                have q_ := x2.bel.cell (p := ⟨x1.val.heap.size, 2, none⟩) (by first | omega | (simp; done) | (simp; omega))
                generalize c_x2_2_2 : x2.val.cell? ⟨x1.val.heap.size, 2, none⟩ = q at q_
                first | (have q2_ : q = some _ := q_; subst q2_) | (simp [go_sem] at q_; have q2_ : q = some _ := q_; subst q2_) | (simp [go_sem, *] at q_; have q2_ : q = some _ := q_; subst q2_)
                have q_ := x2.bel.frozen (p := ⟨x1.val.heap.size, 2, none⟩) (by first | omega | (simp; done) | (simp; omega))
                generalize z_x2_2_2 : x2.val.frozen? ⟨x1.val.heap.size, 2, none⟩ = q at q_
                first | (have q2_ : q = false := q_; subst q2_) | (simp [go_sem] at q_; have q2_ : q = false := q_; subst q2_) | (simp [go_sem, *] at q_; have q2_ : q = false := q_; subst q2_)
                have q_ := x2.bel.cell (p := ⟨x1.val.heap.size, 3, none⟩) (by first | omega | (simp; done) | (simp; omega))
                generalize c_x2_2_3 : x2.val.cell? ⟨x1.val.heap.size, 3, none⟩ = q at q_
                first | (have q2_ : q = some _ := q_; subst q2_) | (simp [go_sem] at q_; have q2_ : q = some _ := q_; subst q2_) | (simp [go_sem, *] at q_; have q2_ : q = some _ := q_; subst q2_)
                have q_ := x2.bel.frozen (p := ⟨x1.val.heap.size, 3, none⟩) (by first | omega | (simp; done) | (simp; omega))
                generalize z_x2_2_3 : x2.val.frozen? ⟨x1.val.heap.size, 3, none⟩ = q at q_
                first | (have q2_ : q = false := q_; subst q2_) | (simp [go_sem] at q_; have q2_ : q = false := q_; subst q2_) | (simp [go_sem, *] at q_; have q2_ : q = false := q_; subst q2_)
                have q_ := x2.bel.cell (p := ⟨x1.val.heap.size, 4, none⟩) (by first | omega | (simp; done) | (simp; omega))
                generalize c_x2_2_4 : x2.val.cell? ⟨x1.val.heap.size, 4, none⟩ = q at q_
                first | (have q2_ : q = some _ := q_; subst q2_) | (simp [go_sem] at q_; have q2_ : q = some _ := q_; subst q2_) | (simp [go_sem, *] at q_; have q2_ : q = some _ := q_; subst q2_)
                have q_ := x2.bel.frozen (p := ⟨x1.val.heap.size, 4, none⟩) (by first | omega | (simp; done) | (simp; omega))
                generalize z_x2_2_4 : x2.val.frozen? ⟨x1.val.heap.size, 4, none⟩ = q at q_
                first | (have q2_ : q = false := q_; subst q2_) | (simp [go_sem] at q_; have q2_ : q = false := q_; subst q2_) | (simp [go_sem, *] at q_; have q2_ : q = false := q_; subst q2_)
                skip))
              refine bodyPost_ret (v := .tuple #[.agg #[.int .i64 (room1 : Int), .int .i64 (safe1 : Int), .int .i64 zl1, .slice A' k c', .bool off1], .int .i64 0]) (by simp [results, Try.results52, go_sem, *]) rfl (RdP.own (A' := A') (c' := c') (base := x1.val.heap.size + 1) (by simp [Dk.R, HTK.out, HZ1.out, hmin.out]) HTK.out (by repeat (first | with_reducible exact HO.out | refine own_set ?_ (by omega) | refine own_below ?_ (bel_alloc (Below.refl _ _) _))) (by omega) (by repeat (first | with_reducible exact Below.refl _ _ | with_reducible refine bel_later _ ?_ | with_reducible refine bel_alloc ?_ _ | refine bel_set ?_ (by first | omega | (simp; done) | (simp; omega)) _ | with_reducible refine Below.drew ?_ | with_reducible refine bel_drewN ?_ _ | with_reducible assumption | assumption)))
  · rw [if_pos rfl] at hC
    subst hC
    go_enter Try.func52, Try.ntmps52
    go_wp2
    refine bodyPost_ret (v := .tuple #[.agg #[.int .i64 (room1 : Int), .int .i64 (safe1 : Int), .int .i64 zl, .slice A m c, .bool true], .int .i64 6]) (by simp [results, Try.results52, go_sem, *]) rfl (RdP.of HB.out rfl (by simp [Dk.R, HM.out, HZ.out]) (by repeat (first | with_reducible exact Below.refl _ _ | with_reducible refine bel_later _ ?_ | with_reducible refine bel_alloc ?_ _ | refine bel_set ?_ (by first | omega | (simp; done) | (simp; omega)) _ | with_reducible refine Below.drew ?_ | with_reducible refine bel_drewN ?_ _ | with_reducible assumption | assumption)))
end Go.Proofs.Ytbokggilfepdhaa
namespace Go.Proofs.Ytbokggilfepdhaa
open Go.RowKit
set_option linter.unusedVariables false
attribute [local go_sem] Later.cell Later.frozen setCell_twice
theorem size_rd : (Try.prog.info? 67).map (·.size) = some 5 := by kernel_rfl
theorem Dk.sparked_with (E : Dk) (L : List Nat) : Dk.sparked { E with l := L } = ({ (Dk.sparked E).1 with l := L }, (Dk.sparked E).2) := by
  obtain ⟨room, l, safe, left, off⟩ := E
  cases left with
  | none => rfl
  | some k => cases k <;> rfl
abbrev Dk.RC (A : Option Addr) (c : Nat) (m : Nat) (D : Dk) : List Value := [.int .i64 (D.room : Int), .int .i64 (D.safe : Int), .int .i64 (lf D.left), .slice A m c, .bool D.off]
theorem RC_one (A : Option Addr) (c m : Nat) (D : Dk) : ∀ v ∈ D.RC A c m, v.oneCell' = true := by
  intro v hv
  simp only [Dk.RC, List.mem_cons, List.not_mem_nil, or_false] at hv
  rcases hv with rfl | rfl | rfl | rfl | rfl <;> rfl
abbrev rd0 : List Value := [.int .i64 0, .int .i64 0, .int .i64 0, .slice none 0 0, .bool false]
theorem rd0_one : ∀ v ∈ rd0, v.oneCell' = true := by
  intro v hv
  simp only [rd0, List.mem_cons, List.not_mem_nil, or_false] at hv
  rcases hv with rfl | rfl | rfl | rfl | rfl <;> rfl
set_option maxHeartbeats 2000000 in
theorem rappend_any (D : Dk) (A : Option Addr) (c : Nat) (w : World) (hok : D.Ok) (hb : Rb w A c D.l) (Ab : Option Addr) (cb nb : Nat) (lb : List Nat) (hnb : lb.length = nb) (hn63 : nb ≤ 140737488355328) (sq : Sq byw w w.heap.size Ab lb) (hu : ∀ x ∈ lb, x < 256) :
    Calls Try.prog 31 #[D.R A c, .slice Ab nb cb] w (RdP w A (D.append lb)) := by
  obtain ⟨i0, hi, hz0, hz1, hz2⟩ := info_parts info_b8
  have HB := Lib.hid hb
  have hcap := hb.cap
  have hmc := hb.le
  have SQ := Lib.hid sq
  obtain ⟨R, hR⟩ : ∃ R, D.append lb = R := ⟨_, rfl⟩
  rw [hR]
  have hRok : Hid (D.off = true → R = (D, 6)) := Lib.hid (by intro h; rw [← hR]; unfold Dk.append; rw [if_pos h])
  unfold Dk.append at hR
  have hmr : D.l.length ≤ 262144 := Nat.le_trans hok.room hok.hi
  have hrh := hok.hi
  have OK := Lib.hid hok
  clear hb sq
  obtain ⟨m, hm⟩ : ∃ m, D.l.length = m := ⟨_, rfl⟩
  obtain ⟨zl, hzl⟩ : ∃ z, lf D.left = z := ⟨_, rfl⟩
  simp only [Dk.R, hm, hzl] at hR hmc hmr ⊢
  have HM := Lib.hid hm
  have HZ := Lib.hid hzl
  have HNB := Lib.hid hnb
  by_cases ho : D.off = true
  · rw [if_pos ho] at hR
    subst hR
    rw [ho]
    clear hm hzl hnb hok
    go_enter Try.func31, Try.ntmps31
    go_wp2
    refine bodyPost_ret (v := .tuple #[.agg #[.int .i64 (D.room : Int), .int .i64 (D.safe : Int), .int .i64 zl, .slice A m c, .bool true], .int .i64 6]) (by simp [results, Try.results31, go_sem, *]) rfl (RdP.of HB.out rfl (by simp [Dk.R, HM.out, HZ.out, ho]) (by repeat (first | with_reducible exact Below.refl _ _ | with_reducible refine bel_later _ ?_ | with_reducible refine bel_alloc ?_ _ | refine bel_set ?_ (by first | omega | (simp; done) | (simp; omega)) _ | with_reducible refine Below.drew ?_ | with_reducible refine bel_drewN ?_ _ | with_reducible assumption | assumption)))
  have hoff : D.off = false := by simpa using ho
  rw [if_neg ho] at hR
  have hMI : (m : Int) + (nb : Int) ≤ 9223372036854775807 ∨ (262144 : Int) < (m : Int) + (nb : Int) := by omega
  by_cases hf : D.room < m + lb.length
  · rw [if_pos hf] at hR
    subst hR
    rw [hoff]
    have hnL : nb ≤ 9223372036854775807 - m ∨ 9223372036854775807 - m < nb := by omega
    rcases hnL with hnL | hnL
    · have g1 : decide ((D.room : Int) < (m : Int) + (nb : Int)) = true := decide_eq_true (by rw [← hnb]; omega)
      have g1' : decide (D.room < m + nb) = true := decide_eq_true (by rw [← hnb]; omega)
      clear hm hzl hnb hok hf hMI
      go_enter Try.func31, Try.ntmps31
      go_wp2
      refine bodyPost_ret (v := .tuple #[.agg #[.int .i64 (D.room : Int), .int .i64 (D.safe : Int), .int .i64 zl, .slice A m c, .bool false], .int .i64 5]) (by simp [results, Try.results31, go_sem, *]) rfl (RdP.of HB.out rfl (by simp [Dk.R, HM.out, HZ.out, hoff]) (by repeat (first | with_reducible exact Below.refl _ _ | with_reducible refine bel_later _ ?_ | with_reducible refine bel_alloc ?_ _ | refine bel_set ?_ (by first | omega | (simp; done) | (simp; omega)) _ | with_reducible refine Below.drew ?_ | with_reducible refine bel_drewN ?_ _ | with_reducible assumption | assumption)))
    · omega
  rw [if_neg hf] at hR
  have hmn : m + nb ≤ 262144 := by rw [← hnb]; omega
  have g1 : decide ((D.room : Int) < (m : Int) + (nb : Int)) = false := decide_eq_false (by rw [← hnb]; omega)
  have g1' : decide (D.room < m + nb) = false := decide_eq_false (by rw [← hnb]; omega)
  have HR := Lib.hid hR
  rw [hoff]
  clear ho hf hm hzl hnb hok hR hRok hMI
  have HOF := Lib.hid hoff
  clear hoff
  go_enter Try.func31, Try.ntmps31
  go_wp2_with (
    at_builtin
    go_loud (
    refine wpList_append_sq (f := byw) _ rfl _ _ 24 rfl (fun _ => rfl) (w.heap.size + 1 + 1) 5 i0 _ _ Try.underlying24 hi hz0 rfl hz1 hz2 (by decide) _ [] rfl (own_sq_empty byw _ _ _ _ (by simp) (by simp)) w.heap.size _ D.l c m HM.out rfl (((HB.out.sq.below (B := w.heap.size) (by exact (by repeat (first | with_reducible exact Below.refl _ _ | with_reducible refine bel_later _ ?_ | with_reducible refine bel_alloc ?_ _ | refine bel_set ?_ (by first | omega | (simp; done) | (simp; omega)) _ | with_reducible refine Below.drew ?_ | with_reducible refine bel_drewN ?_ _ | with_reducible assumption | assumption)))))) HB.out.nil (by simp; omega) (by simp) ?_
    intro A' c' w' hown hg hb
    simp only [List.nil_append, HM.out] at hown ⊢
    have HO := Lib.hid hown
    have hbw : Below w.heap.size w w' := Below.trans (by exact (by repeat (first | with_reducible exact Below.refl _ _ | with_reducible refine bel_later _ ?_ | with_reducible refine bel_alloc ?_ _ | refine bel_set ?_ (by first | omega | (simp; done) | (simp; omega)) _ | with_reducible refine Below.drew ?_ | with_reducible refine bel_drewN ?_ _ | with_reducible assumption | assumption))) (hb.mono (by omega))
    have hz := hb.size
    simp at hz
    have BX := Lib.hid (show RowAt w' w.heap.size 67 [.int .i64 (D.room : Int), .int .i64 (D.safe : Int), .int .i64 zl, .slice A m c, .bool false] from (((RowAt.new w 67 [.int .i64 (D.room : Int), .int .i64 (D.safe : Int), .int .i64 zl, .slice A m c, .bool false]).alloc _).alloc _).below hb (by omega))
    have RS := Lib.hid (show RowAt w' (w.heap.size + 1) 67 rd0 from ((RowAt.new' _ (w.heap.size + 1) 67 rd0 (by simp)).alloc _).below hb (by omega))
    clear hown hg hb))
  have hz1 : w.heap.size + 1 < w'.heap.size := by omega
  go_loopw [6, 7] (fun v i wr => ∃ (k n : Nat) (E : Dk) (A' : Option Addr) (c' : Nat), k ≤ nb ∧ n = m + k ∧ v = .slice A' n c' ∧ i = .int .i64 (k : Int) ∧ Hid (E.l = D.l ++ lb.take k) ∧ E.room = D.room ∧ E.safe = D.safe ∧ Hid (∀ j, E.left = some j → j ≤ 9223372036854775807) ∧ Hid (Dk.puts E (lb.drop k) = R)
      ∧ wr.ownsRow (w.heap.size + 1 + 1) 5 1 (.slice A' n c') n (E.l.map byw) ∧ RowAt wr w.heap.size 67 (E.RC A c m) ∧ RowAt wr (w.heap.size + 1) 67 rd0 ∧ Below w.heap.size w wr)
    (fun _ i _ => nb - (intOf i).toNat)
  case atStart => exact ⟨0, m, D, A', c', by omega, rfl, rfl, rfl, Lib.hid (by simp), rfl, rfl, Lib.hid OK.out.left, Lib.hid HR.out, HO.out, by have h := BX.out; simp only [Dk.RC, HZ.out, HOF.out]; exact h, RS.out, hbw⟩
  case round =>
    clear HO BX RS hbw hz hz1
    obtain ⟨k, n, E, A', c', hk, hn, rfl, rfl, hEl, hEr, hEs, hEk, hput, hown, hbx, hrs, hbw⟩ := hrel
    have hwr1 : w.heap.size + 1 < wr.heap.size := hrs.lt
    have HN := Lib.hid hn
    have HO := Lib.hid hown
    have BX := Lib.hid hbx
    have RS := Lib.hid hrs
    have BW := Lib.hid hbw
    have HER := Lib.hid hEr
    have HES := Lib.hid hEs
    have hnb2 : n ≤ m + nb := by omega
    have HEN : Hid (E.l.length = n) := Lib.hid (by rw [hEl.out, List.length_append, HM.out, List.length_take, HNB.out, hn]; omega)
    clear hown hbx hrs hbw hEr hEs hn
    by_cases hlt : k < nb
    · obtain ⟨z, hz⟩ : ∃ z, lb[k]? = some z := ⟨_, List.getElem?_eq_getElem (by rw [HNB.out]; exact hlt)⟩
      obtain ⟨bb, ob, hAb, hbl, hzc⟩ : ∃ bb ob, Ab = some ⟨bb, ob, none⟩ ∧ bb < w.heap.size ∧ w.cell? ⟨bb, ob + k, none⟩ = some (.int .u8 (z : Int)) := by
        obtain ⟨b', o', h1, h2, h3⟩ := SQ.out (by rw [HNB.out]; omega)
        exact ⟨b', o', h1, h2, h3 _ _ hz⟩
      subst hAb
      have ZC := Lib.hid hzc
      have hltI : (k : Int) < (nb : Int) := by omega
      have h0I : (0 : Int) ≤ (k : Int) := by omega
      have HZ2 : Hid (lb.drop k = z :: lb.drop (k + 1)) := Lib.hid (by rw [List.drop_eq_getElem_cons (by rw [HNB.out]; exact hlt)]; congr 1; rw [List.getElem?_eq_getElem (by rw [HNB.out]; exact hlt)] at hz; exact Option.some.inj hz)
      have HU : Hid (z < 256) := Lib.hid (hu z (List.mem_of_getElem? hz))
      have HT : Hid (lb.take (k + 1) = lb.take k ++ [z]) := Lib.hid (by rw [List.take_add_one, hz]; rfl)
      obtain ⟨E1, b, hd⟩ : ∃ E1 b, E.sparked = (E1, b) := ⟨_, _, rfl⟩
      have hll := Dk.sparked_l E
      rw [hd] at hll
      have HLL := Lib.hid hll
      have hE1k : ∀ j, E1.left = some j → j ≤ 9223372036854775807 := by
        intro j hj
        have h1 : (Dk.sparked E).1.left = some j := by rw [hd]; exact hj
        unfold Dk.sparked at h1
        split at h1
        · exact hEk.out j h1
        · exact hEk.out j h1
        · rename_i j2 h2
          have := hEk.out _ h2
          simp only [Option.some.injEq] at h1
          omega
      have HE1K := Lib.hid hE1k
      have hs := Dk.sparked_with E D.l
      rw [hd] at hs
      have ks := Lib.hid (rspark_any { E with l := D.l } { E1 with l := D.l } b A c wr hEk.out hs)
      simp only [Dk.R, HM.out] at ks
      have HDD := Lib.hid hd
      clear hz hzc hll hE1k hs hd hEk
      have bxlt : w.heap.size < (wr).heap.size := BX.out.lt
      have bxlu : w.heap.size < (wr).heap.size + 1 := Nat.lt_succ_of_lt BX.out.lt
      have bx0 : (wr).cell? ⟨w.heap.size, 0, none⟩ = some (.int .i64 (E.room : Int)) := BX.out.cells 0
      have bxz0 : (wr).frozen? ⟨w.heap.size, 0, none⟩ = false := BX.out.frozen 0
      have bx1 : (wr).cell? ⟨w.heap.size, 1, none⟩ = some (.int .i64 (E.safe : Int)) := BX.out.cells 1
      have bxz1 : (wr).frozen? ⟨w.heap.size, 1, none⟩ = false := BX.out.frozen 1
      have bx2 : (wr).cell? ⟨w.heap.size, 2, none⟩ = some (.int .i64 (lf E.left)) := BX.out.cells 2
      have bxz2 : (wr).frozen? ⟨w.heap.size, 2, none⟩ = false := BX.out.frozen 2
      have bx3 : (wr).cell? ⟨w.heap.size, 3, none⟩ = some (.slice A m c) := BX.out.cells 3
      have bxz3 : (wr).frozen? ⟨w.heap.size, 3, none⟩ = false := BX.out.frozen 3
      have bx4 : (wr).cell? ⟨w.heap.size, 4, none⟩ = some (.bool E.off) := BX.out.cells 4
      have bxz4 : (wr).frozen? ⟨w.heap.size, 4, none⟩ = false := BX.out.frozen 4
      go_wp2_with fail
      refine (ks.out).mono ?_
      rintro e_ w_ ⟨rfl, hb1⟩
      obtain ⟨x1, rfl⟩ := later_is hb1
      replace BX := Lib.hid (BX.out.to x1.bel)
      replace RS := Lib.hid (RS.out.to x1.bel)
      replace HO := Lib.hid (own_below HO.out x1.bel)
      replace BW := Lib.hid (BW.out.trans (x1.bel.mono BW.out.size))
      have hzx : wr.heap.size ≤ x1.val.heap.size := x1.bel.size
      clear hb1 bxlt bxlu bx0 bx1 bx2 bx3 bx4 bxz0 bxz1 bxz2 bxz3 bxz4 ks
      cases b
      · have HPR : Hid (R = ({ E1 with l := E.l }, 6)) := Lib.hid (by rw [← hput.out, HZ2.out]; unfold Dk.puts; rw [HDD.out, if_neg (by simp)]; dsimp only; rw [← HLL.out.1])
        go_wp2_with (
          refine wpList_store_var rfl 67 (.tmp 2) (.tmp 38) rfl w.heap.size (E.RC A c m) (E1.RC A c m) 5 rfl rfl (BX.out.alloc _) size_rd rfl rfl (RC_one A c m E1) ?_
          intro w2 r2 k2
          have hnx : Below x1.val.heap.size x1.val (x1.val.alloc (.cells #[.int .i64 (E1.room : Int), .int .i64 (E1.safe : Int), .int .i64 (lf E1.left), .slice A m c, .bool E1.off] 67)) := bel_alloc (Below.refl _ _) _
          have BX2 := Lib.hid r2
          have RS2 := Lib.hid ((RS.out.to hnx).only k2 (by omega))
          have HO2 := Lib.hid (k2.own (own_below HO.out hnx) (by omega))
          have BW2 := Lib.hid ((BW.out.trans (hnx.mono BW.out.size)).trans (k2.below (Nat.le_refl _)))
          have hzw2 : w.heap.size + 1 < w2.heap.size := RS2.out.lt
          clear r2 k2 hnx
          have bxlt : w.heap.size < (w2).heap.size := BX2.out.lt
          have bxlu : w.heap.size < (w2).heap.size + 1 := Nat.lt_succ_of_lt BX2.out.lt
          have bx0 : (w2).cell? ⟨w.heap.size, 0, none⟩ = some (.int .i64 (E1.room : Int)) := BX2.out.cells 0
          have bxz0 : (w2).frozen? ⟨w.heap.size, 0, none⟩ = false := BX2.out.frozen 0
          have bx1 : (w2).cell? ⟨w.heap.size, 1, none⟩ = some (.int .i64 (E1.safe : Int)) := BX2.out.cells 1
          have bxz1 : (w2).frozen? ⟨w.heap.size, 1, none⟩ = false := BX2.out.frozen 1
          have bx2 : (w2).cell? ⟨w.heap.size, 2, none⟩ = some (.int .i64 (lf E1.left)) := BX2.out.cells 2
          have bxz2 : (w2).frozen? ⟨w.heap.size, 2, none⟩ = false := BX2.out.frozen 2
          have bx3 : (w2).cell? ⟨w.heap.size, 3, none⟩ = some (.slice A m c) := BX2.out.cells 3
          have bxz3 : (w2).frozen? ⟨w.heap.size, 3, none⟩ = false := BX2.out.frozen 3
          have bx4 : (w2).cell? ⟨w.heap.size, 4, none⟩ = some (.bool E1.off) := BX2.out.cells 4
          have bxz4 : (w2).frozen? ⟨w.heap.size, 4, none⟩ = false := BX2.out.frozen 4
          have rslt : w.heap.size + 1 < (w2).heap.size := RS2.out.lt
          have rslu : w.heap.size + 1 < (w2).heap.size + 1 := Nat.lt_succ_of_lt RS2.out.lt
          have rs0 : (w2).cell? ⟨w.heap.size + 1, 0, none⟩ = some (.int .i64 0) := RS2.out.cells 0
          have rsz0 : (w2).frozen? ⟨w.heap.size + 1, 0, none⟩ = false := RS2.out.frozen 0
          have rs1 : (w2).cell? ⟨w.heap.size + 1, 1, none⟩ = some (.int .i64 0) := RS2.out.cells 1
          have rsz1 : (w2).frozen? ⟨w.heap.size + 1, 1, none⟩ = false := RS2.out.frozen 1
          have rs2 : (w2).cell? ⟨w.heap.size + 1, 2, none⟩ = some (.int .i64 0) := RS2.out.cells 2
          have rsz2 : (w2).frozen? ⟨w.heap.size + 1, 2, none⟩ = false := RS2.out.frozen 2
          have rs3 : (w2).cell? ⟨w.heap.size + 1, 3, none⟩ = some (.slice none 0 0) := RS2.out.cells 3
          have rsz3 : (w2).frozen? ⟨w.heap.size + 1, 3, none⟩ = false := RS2.out.frozen 3
          have rs4 : (w2).cell? ⟨w.heap.size + 1, 4, none⟩ = some (.bool false) := RS2.out.cells 4
          have rsz4 : (w2).frozen? ⟨w.heap.size + 1, 4, none⟩ = false := RS2.out.frozen 4
          skip)
        refine bodyPost_ret (v := .tuple #[.agg #[.int .i64 (E1.room : Int), .int .i64 (E1.safe : Int), .int .i64 (lf E1.left), .slice A' n c', .bool E1.off], .int .i64 6]) (by simp [results, Try.results31, go_sem, *]) rfl ?_
        obtain rfl : R = ({ E1 with l := E.l }, 6) := HPR.out
        exact RdP.own (A' := A') (c' := c') (base := w.heap.size + 1 + 1) (by simp [Dk.R, HEN.out]) HEN.out (by repeat (first | with_reducible exact HO2.out | refine own_set ?_ (by omega) | refine own_below ?_ (bel_alloc (Below.refl _ _) _))) (by omega) (by have BW3 := BW2.out; exact (by repeat (first | with_reducible exact Below.refl _ _ | with_reducible refine bel_later _ ?_ | with_reducible refine bel_alloc ?_ _ | refine bel_set ?_ (by first | omega | (simp; done) | (simp; omega)) _ | with_reducible refine Below.drew ?_ | with_reducible refine bel_drewN ?_ _ | with_reducible assumption | assumption)))
      · have HPR : Hid (Dk.puts { E1 with l := E.l ++ [z] } (lb.drop (k + 1)) = R) := Lib.hid (by rw [← hput.out, HZ2.out]; conv => rhs; unfold Dk.puts; rw [HDD.out, if_pos (by rfl)]; dsimp only; rw [HLL.out.1])
        have HLN : Hid ((E.l ++ [z]).length = n + 1) := Lib.hid (by simp [HEN.out])
        go_wp2_with (first
          | (
          refine wpList_store_var rfl 67 (.tmp 2) (.tmp 38) rfl w.heap.size (E.RC A c m) (E1.RC A c m) 5 rfl rfl (BX.out.alloc _) size_rd rfl rfl (RC_one A c m E1) ?_
          intro w2 r2 k2
          have hnx : Below x1.val.heap.size x1.val (x1.val.alloc (.cells #[.int .i64 (E1.room : Int), .int .i64 (E1.safe : Int), .int .i64 (lf E1.left), .slice A m c, .bool E1.off] 67)) := bel_alloc (Below.refl _ _) _
          have BX2 := Lib.hid r2
          have RS2 := Lib.hid ((RS.out.to hnx).only k2 (by omega))
          have HO2 := Lib.hid (k2.own (own_below HO.out hnx) (by omega))
          have BW2 := Lib.hid ((BW.out.trans (hnx.mono BW.out.size)).trans (k2.below (Nat.le_refl _)))
          have hzw2 : w.heap.size + 1 < w2.heap.size := RS2.out.lt
          clear r2 k2 hnx
          have bxlt : w.heap.size < (w2).heap.size := BX2.out.lt
          have bxlu : w.heap.size < (w2).heap.size + 1 := Nat.lt_succ_of_lt BX2.out.lt
          have bx0 : (w2).cell? ⟨w.heap.size, 0, none⟩ = some (.int .i64 (E1.room : Int)) := BX2.out.cells 0
          have bxz0 : (w2).frozen? ⟨w.heap.size, 0, none⟩ = false := BX2.out.frozen 0
          have bx1 : (w2).cell? ⟨w.heap.size, 1, none⟩ = some (.int .i64 (E1.safe : Int)) := BX2.out.cells 1
          have bxz1 : (w2).frozen? ⟨w.heap.size, 1, none⟩ = false := BX2.out.frozen 1
          have bx2 : (w2).cell? ⟨w.heap.size, 2, none⟩ = some (.int .i64 (lf E1.left)) := BX2.out.cells 2
          have bxz2 : (w2).frozen? ⟨w.heap.size, 2, none⟩ = false := BX2.out.frozen 2
          have bx3 : (w2).cell? ⟨w.heap.size, 3, none⟩ = some (.slice A m c) := BX2.out.cells 3
          have bxz3 : (w2).frozen? ⟨w.heap.size, 3, none⟩ = false := BX2.out.frozen 3
          have bx4 : (w2).cell? ⟨w.heap.size, 4, none⟩ = some (.bool E1.off) := BX2.out.cells 4
          have bxz4 : (w2).frozen? ⟨w.heap.size, 4, none⟩ = false := BX2.out.frozen 4
          have rslt : w.heap.size + 1 < (w2).heap.size := RS2.out.lt
          have rslu : w.heap.size + 1 < (w2).heap.size + 1 := Nat.lt_succ_of_lt RS2.out.lt
          have rs0 : (w2).cell? ⟨w.heap.size + 1, 0, none⟩ = some (.int .i64 0) := RS2.out.cells 0
          have rsz0 : (w2).frozen? ⟨w.heap.size + 1, 0, none⟩ = false := RS2.out.frozen 0
          have rs1 : (w2).cell? ⟨w.heap.size + 1, 1, none⟩ = some (.int .i64 0) := RS2.out.cells 1
          have rsz1 : (w2).frozen? ⟨w.heap.size + 1, 1, none⟩ = false := RS2.out.frozen 1
          have rs2 : (w2).cell? ⟨w.heap.size + 1, 2, none⟩ = some (.int .i64 0) := RS2.out.cells 2
          have rsz2 : (w2).frozen? ⟨w.heap.size + 1, 2, none⟩ = false := RS2.out.frozen 2
          have rs3 : (w2).cell? ⟨w.heap.size + 1, 3, none⟩ = some (.slice none 0 0) := RS2.out.cells 3
          have rsz3 : (w2).frozen? ⟨w.heap.size + 1, 3, none⟩ = false := RS2.out.frozen 3
          have rs4 : (w2).cell? ⟨w.heap.size + 1, 4, none⟩ = some (.bool false) := RS2.out.cells 4
          have rsz4 : (w2).frozen? ⟨w.heap.size + 1, 4, none⟩ = false := RS2.out.frozen 4
          have zc : w2.cell? ⟨bb, ob + k, none⟩ = some (.int .u8 (z : Int)) := (BW2.out.cell (p := ⟨bb, ob + k, none⟩) hbl).trans ZC.out
          skip)
          | (
          at_builtin
          go_loud (
          refine wpList_append_sq (f := byw) _ rfl (.tmp 44) (.tmp 49) 24 rfl (fun _ => rfl) (w.heap.size + 1 + 1) 5 i0 _ _ Try.underlying24 hi hz0 rfl hz1 hz2 (by decide) (.slice A' n c') E.l rfl (by rw [HEN.out]; exact own_below HO2.out (bel_alloc (Below.refl _ _) _)) (w2.heap.size + 1) (some ⟨w2.heap.size, 0, none⟩) [z] 1 1 rfl rfl (Sq.lits _ _ _ _ _ _ _ rfl (by simp) (by simp)) (by simp) (by rw [HEN.out]; omega) (by simp; omega) ?_
          intro A3 c3 w3 o3 hg3 hb3
          rw [HLN.out] at o3 ⊢
          have HO3 := Lib.hid o3
          have BX3 := Lib.hid ((BX2.out.alloc _).below hb3 (by omega))
          have RS3 := Lib.hid ((RS2.out.alloc _).below hb3 (by omega))
          have BW3 := Lib.hid ((bel_alloc BW2.out _).trans (hb3.mono (by omega)))
          clear o3 hg3 hb3)))
        go_roundw
        case rel => exact ⟨k + 1, n + 1, { E1 with l := E.l ++ [z] }, A3, c3, by omega, by have := HN.out; omega, rfl, by go_num, Lib.hid (by dsimp only; rw [hEl.out, HT.out, List.append_assoc]), HLL.out.2.2.trans HER.out, HLL.out.2.1.trans HES.out, HE1K, HPR, HO3.out, BX3.out, RS3.out, BW3.out⟩
        case measure => simp [intOf]; omega
    · obtain rfl : k = nb := by omega
      have bxlt : w.heap.size < (wr).heap.size := BX.out.lt
      have bxlu : w.heap.size < (wr).heap.size + 1 := Nat.lt_succ_of_lt BX.out.lt
      have bx0 : (wr).cell? ⟨w.heap.size, 0, none⟩ = some (.int .i64 (E.room : Int)) := BX.out.cells 0
      have bxz0 : (wr).frozen? ⟨w.heap.size, 0, none⟩ = false := BX.out.frozen 0
      have bx1 : (wr).cell? ⟨w.heap.size, 1, none⟩ = some (.int .i64 (E.safe : Int)) := BX.out.cells 1
      have bxz1 : (wr).frozen? ⟨w.heap.size, 1, none⟩ = false := BX.out.frozen 1
      have bx2 : (wr).cell? ⟨w.heap.size, 2, none⟩ = some (.int .i64 (lf E.left)) := BX.out.cells 2
      have bxz2 : (wr).frozen? ⟨w.heap.size, 2, none⟩ = false := BX.out.frozen 2
      have bx3 : (wr).cell? ⟨w.heap.size, 3, none⟩ = some (.slice A m c) := BX.out.cells 3
      have bxz3 : (wr).frozen? ⟨w.heap.size, 3, none⟩ = false := BX.out.frozen 3
      have bx4 : (wr).cell? ⟨w.heap.size, 4, none⟩ = some (.bool E.off) := BX.out.cells 4
      have bxz4 : (wr).frozen? ⟨w.heap.size, 4, none⟩ = false := BX.out.frozen 4
      have rslt : w.heap.size + 1 < (wr).heap.size := RS.out.lt
      have rslu : w.heap.size + 1 < (wr).heap.size + 1 := Nat.lt_succ_of_lt RS.out.lt
      have rs0 : (wr).cell? ⟨w.heap.size + 1, 0, none⟩ = some (.int .i64 0) := RS.out.cells 0
      have rsz0 : (wr).frozen? ⟨w.heap.size + 1, 0, none⟩ = false := RS.out.frozen 0
      have rs1 : (wr).cell? ⟨w.heap.size + 1, 1, none⟩ = some (.int .i64 0) := RS.out.cells 1
      have rsz1 : (wr).frozen? ⟨w.heap.size + 1, 1, none⟩ = false := RS.out.frozen 1
      have rs2 : (wr).cell? ⟨w.heap.size + 1, 2, none⟩ = some (.int .i64 0) := RS.out.cells 2
      have rsz2 : (wr).frozen? ⟨w.heap.size + 1, 2, none⟩ = false := RS.out.frozen 2
      have rs3 : (wr).cell? ⟨w.heap.size + 1, 3, none⟩ = some (.slice none 0 0) := RS.out.cells 3
      have rsz3 : (wr).frozen? ⟨w.heap.size + 1, 3, none⟩ = false := RS.out.frozen 3
      have rs4 : (wr).cell? ⟨w.heap.size + 1, 4, none⟩ = some (.bool false) := RS.out.cells 4
      have rsz4 : (wr).frozen? ⟨w.heap.size + 1, 4, none⟩ = false := RS.out.frozen 4
      have HRR : Hid (R = (E, 0)) := Lib.hid (by rw [← hput.out, List.drop_eq_nil_of_le (by rw [HNB.out]; exact Nat.le_refl _)]; rfl)
      obtain rfl : R = (E, 0) := HRR.out
      go_wp2
      refine bodyPost_ret (v := .tuple #[.agg #[.int .i64 (E.room : Int), .int .i64 (E.safe : Int), .int .i64 (lf E.left), .slice A' n c', .bool E.off], .int .i64 0]) (by simp [results, Try.results31, go_sem, *]) rfl ?_
      exact RdP.own (A' := A') (c' := c') (base := w.heap.size + 1 + 1) (by simp [Dk.R, HEN.out]) HEN.out (by repeat (first | with_reducible exact HO.out | refine own_set ?_ (by omega) | refine own_below ?_ (bel_alloc (Below.refl _ _) _))) (by omega) (by have BW3 := BW.out; exact (by repeat (first | with_reducible exact Below.refl _ _ | with_reducible refine bel_later _ ?_ | with_reducible refine bel_alloc ?_ _ | refine bel_set ?_ (by first | omega | (simp; done) | (simp; omega)) _ | with_reducible refine Below.drew ?_ | with_reducible refine bel_drewN ?_ _ | with_reducible assumption | assumption)))
end Go.Proofs.Ytbokggilfepdhaa
