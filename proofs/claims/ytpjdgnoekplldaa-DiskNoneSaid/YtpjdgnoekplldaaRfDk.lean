/- The reference's disk (saucierref09), by value: New, spark, Sync, Sparks. -/
import Derived.Test.YtpjdgnoekplldaaDisk8
namespace Go.Proofs.Ytpjdgnoekplldaa
open Go.RowKit
set_option linter.unusedVariables false
attribute [local go_sem] Later.cell Later.frozen setCell_twice
def lf : Option Nat → Int
  | none => -1
  | some k => (k : Int)
abbrev Dk.R (A : Option Addr) (c : Nat) (D : Dk) : Value := .agg #[.int .i64 (D.room : Int), .int .i64 (D.safe : Int), .int .i64 (lf D.left), .slice A D.l.length c, .bool D.off]
/-- the bytes of a disk by value -/
structure Rb (w : World) (A : Option Addr) (c : Nat) (l : List Nat) : Prop where
  sq : Sq byw w w.heap.size A l
  nil : A = none → c = 0
  le : l.length ≤ c
  cap : c ≤ 9223372036854775807
  lt : ∀ p, A = some p → p.block < w.heap.size
section
variable {w w' : World} {A : Option Addr} {c : Nat} {l : List Nat}
theorem Rb.to (h : Rb w A c l) (k : Below w.heap.size w w') : Rb w' A c l := ⟨(h.sq.below k).more k.size, h.nil, h.le, h.cap, fun p hp => Nat.lt_of_lt_of_le (h.lt p hp) k.size⟩
theorem Rb.of_own {base e : Nat} (h : w.ownsRow base e 1 (.slice A l.length c) l.length (l.map byw)) : Rb w A c l := ⟨Sq.of_own h, (own_nil_c h).1, (own_nil_c h).2, own_cap h, fun p hp => (own_at h p hp).2.1⟩
theorem Rb.nothing (w : World) : Rb w .none 0 [] := ⟨Sq.nil, fun _ => rfl, Nat.le_refl _, by decide, fun p hp => by cases hp⟩
end
def RdP (w : World) (A : Option Addr) (r : Dk × Int) (e : Ending) (w' : World) : Prop := ∃ A' c', e = .returned (.tuple #[r.1.R A' c', .int .i64 r.2]) ∧ Rb w' A' c' r.1.l ∧ Below w.heap.size w w' ∧ (A' = A ∨ ∀ p, A' = some p → w.heap.size ≤ p.block)
theorem RdP.of {w w' : World} {r : Dk × Int} {e : Ending} {A : Option Addr} {c : Nat} {l : List Nat} (hb : Rb w A c l) (hl : r.1.l = l) (he : e = .returned (.tuple #[r.1.R A c, .int .i64 r.2])) (k : Below w.heap.size w w') : RdP w A r e w' := ⟨A, c, he, by rw [hl]; exact hb.to k, k, .inl rfl⟩
theorem RdP.own {w w' : World} {r : Dk × Int} {e : Ending} {A A' : Option Addr} {c' n base : Nat} (he : e = .returned (.tuple #[r.1.R A' c', .int .i64 r.2])) (hn : r.1.l.length = n) (ho : w'.ownsRow base 5 1 (.slice A' n c') n (r.1.l.map byw)) (hB : w.heap.size ≤ base) (k : Below w.heap.size w w') : RdP w A r e w' :=
  ⟨A', c', he, .of_own (base := base) (e := 5) (by rw [hn]; exact ho), k, .inr fun p hp => Nat.le_trans hB (own_at ho p hp).1⟩
theorem rnew_any (r : Nat) (w : World) : Calls Try.prog 21 #[.int .i64 (r : Int)] w fun e w' => e = .returned ((Dk.new r).R none 0) ∧ Below w.heap.size w w' := by
  go_enter Try.func21, Try.ntmps21
  go_wp2
  refine bodyPost_ret (v := .agg #[.int .i64 (r : Int), .int .i64 0, .int .i64 (-1), .slice none 0 0, .bool false]) (by simp [results, Try.results21, go_sem, *]) rfl ⟨rfl, (by repeat (first | with_reducible exact Below.refl _ _ | with_reducible refine bel_later _ ?_ | with_reducible refine bel_alloc ?_ _ | refine bel_set ?_ (by first | omega | (simp; done) | (simp; omega)) _ | with_reducible refine Below.drew ?_ | with_reducible refine bel_drewN ?_ _ | with_reducible assumption | assumption))⟩
set_option maxHeartbeats 400000 in
theorem rspark_any (D D1 : Dk) (b : Bool) (A : Option Addr) (c : Nat) (w : World) (hl : ∀ k, D.left = some k → k ≤ 9223372036854775807) (hd : D.sparked = (D1, b)) :
    Calls Try.prog 37 #[D.R A c] w fun e w' => e = .returned (.tuple #[D1.R A c, .bool b]) ∧ Below w.heap.size w w' := by
  obtain ⟨room, l, safe, left, off⟩ := D
  obtain ⟨n, hn⟩ : ∃ n, l.length = n := ⟨_, rfl⟩
  cases left with
  | none =>
    obtain ⟨h1, h2⟩ := Prod.mk.inj hd
    subst h1 h2
    simp only [Dk.R, lf, hn]
    clear hd hl hn
    go_enter Try.func37, Try.ntmps37
    go_wp2
    refine bodyPost_ret (v := .tuple #[.agg #[.int .i64 (room : Int), .int .i64 (safe : Int), .int .i64 (-1), .slice A n c, .bool off], .bool true]) (by simp [results, Try.results37, go_sem, *]) rfl ⟨rfl, (by repeat (first | with_reducible exact Below.refl _ _ | with_reducible refine bel_later _ ?_ | with_reducible refine bel_alloc ?_ _ | refine bel_set ?_ (by first | omega | (simp; done) | (simp; omega)) _ | with_reducible refine Below.drew ?_ | with_reducible refine bel_drewN ?_ _ | with_reducible assumption | assumption))⟩
  | some k =>
    have hk := hl k rfl
    cases k with
    | zero =>
      obtain ⟨h1, h2⟩ := Prod.mk.inj hd
      subst h1 h2
      simp only [Dk.R, lf, hn]
      clear hd hl hn hk
      go_enter Try.func37, Try.ntmps37
      go_wp2
      refine bodyPost_ret (v := .tuple #[.agg #[.int .i64 (room : Int), .int .i64 (safe : Int), .int .i64 0, .slice A n c, .bool true], .bool false]) (by simp [results, Try.results37, go_sem, *]) rfl ⟨rfl, (by repeat (first | with_reducible exact Below.refl _ _ | with_reducible refine bel_later _ ?_ | with_reducible refine bel_alloc ?_ _ | refine bel_set ?_ (by first | omega | (simp; done) | (simp; omega)) _ | with_reducible refine Below.drew ?_ | with_reducible refine bel_drewN ?_ _ | with_reducible assumption | assumption))⟩
    | succ k =>
      obtain ⟨h1, h2⟩ := Prod.mk.inj hd
      subst h1 h2
      simp only [Dk.R, lf, hn]
      clear hd hl hn
      have g0 : (((k + 1 : Nat) : Int) == 0) = false := beq_eq_false_iff_ne.2 (by omega)
      have g1 : decide (0 < ((k + 1 : Nat) : Int)) = true := decide_eq_true (by omega)
      have hkb : ((k + 1 : Nat) : Int) ≤ 9223372036854775807 := by omega
      obtain ⟨z, hz⟩ : ∃ z : Int, z = ((k + 1 : Nat) : Int) := ⟨_, rfl⟩
      have hz2 : z - 1 = (k : Int) := by omega
      have hz0 : 0 ≤ z := by omega
      rw [← hz] at g0 g1 hkb ⊢
      rw [← hz2]
      clear hz hz2
      go_enter Try.func37, Try.ntmps37
      go_wp2
      refine bodyPost_ret (v := .tuple #[.agg #[.int .i64 (room : Int), .int .i64 (safe : Int), .int .i64 (z - 1), .slice A n c, .bool off], .bool true]) (by simp [results, Try.results37, go_sem, *]) rfl ⟨rfl, (by repeat (first | with_reducible exact Below.refl _ _ | with_reducible refine bel_later _ ?_ | with_reducible refine bel_alloc ?_ _ | refine bel_set ?_ (by first | omega | (simp; done) | (simp; omega)) _ | with_reducible refine Below.drew ?_ | with_reducible refine bel_drewN ?_ _ | with_reducible assumption | assumption))⟩
set_option maxHeartbeats 400000 in
theorem rsync_any (D : Dk) (A : Option Addr) (c : Nat) (w : World) (hok : D.Ok) (hb : Rb w A c D.l) :
    Calls Try.prog 33 #[D.R A c] w (RdP w A D.sync) := by
  have HB := Lib.hid hb
  have hcap := Nat.le_trans hb.le hb.cap
  clear hb
  obtain ⟨D1, b, hd⟩ : ∃ D1 b, D.sparked = (D1, b) := ⟨_, _, rfl⟩
  have hll := Dk.sparked_l D
  rw [hd] at hll
  have ks := Lib.hid (fun w => rspark_any D D1 b A c w hok.left hd)
  cases ho : D.off
  · have hs : D.sync = if b = true then ({ D1 with safe := D1.l.length }, 0) else (D1, 6) := by unfold Dk.sync; rw [if_neg (by rw [ho]; decide), hd]
    rw [hs]
    rw [← hll.1] at HB
    have hl1 : D.l.length = D1.l.length := by rw [hll.1]
    obtain ⟨room, l, safe, left, off⟩ := D
    obtain ⟨room1, l1, safe1, left1, off1⟩ := D1
    simp only [Dk.R] at *
    obtain ⟨n, hn⟩ : ∃ n, l1.length = n := ⟨_, rfl⟩
    rw [hl1, hn] at hcap ⊢
    rw [hl1, hn] at ks
    subst ho
    generalize lf left = zl at *
    obtain ⟨zl1, hzl1⟩ : ∃ z, lf left1 = z := ⟨_, rfl⟩
    rw [hzl1] at ks
    have HN := Lib.hid hn
    have HZ := Lib.hid hzl1
    clear hd hll hl1 hs hn hzl1 hok
    cases b
    · rw [if_neg (by decide)]
      go_enter Try.func33, Try.ntmps33
      go_wp2_with fail
      refine (ks.out _).mono ?_
      rintro e_x1 w_x1 ⟨rfl, hb_x1⟩
      obtain ⟨x1, rfl⟩ := later_is hb_x1
      clear hb_x1
      have hz_x1 := x1.bel.size
      try simp at hz_x1
      have l_x1_0 : w.heap.size < x1.val.heap.size := by omega
      have m_x1_0 : w.heap.size < x1.val.heap.size + 1 := by omega
      have q_ := x1.bel.cell (p := ⟨w.heap.size, 0, none⟩) (by first | omega | (simp; done) | (simp; omega))
      generalize c_x1_0_0 : x1.val.cell? ⟨w.heap.size, 0, none⟩ = q at q_
      first | (have q2_ : q = some _ := q_; subst q2_) | (simp [go_sem] at q_; have q2_ : q = some _ := q_; subst q2_) | (simp [go_sem, *] at q_; have q2_ : q = some _ := q_; subst q2_)
      have q_ := x1.bel.frozen (p := ⟨w.heap.size, 0, none⟩) (by first | omega | (simp; done) | (simp; omega))
      generalize z_x1_0_0 : x1.val.frozen? ⟨w.heap.size, 0, none⟩ = q at q_
      first | (have q2_ : q = false := q_; subst q2_) | (simp [go_sem] at q_; have q2_ : q = false := q_; subst q2_) | (simp [go_sem, *] at q_; have q2_ : q = false := q_; subst q2_)
      have q_ := x1.bel.cell (p := ⟨w.heap.size, 1, none⟩) (by first | omega | (simp; done) | (simp; omega))
      generalize c_x1_0_1 : x1.val.cell? ⟨w.heap.size, 1, none⟩ = q at q_
      first | (have q2_ : q = some _ := q_; subst q2_) | (simp [go_sem] at q_; have q2_ : q = some _ := q_; subst q2_) | (simp [go_sem, *] at q_; have q2_ : q = some _ := q_; subst q2_)
      have q_ := x1.bel.frozen (p := ⟨w.heap.size, 1, none⟩) (by first | omega | (simp; done) | (simp; omega))
      generalize z_x1_0_1 : x1.val.frozen? ⟨w.heap.size, 1, none⟩ = q at q_
      first | (have q2_ : q = false := q_; subst q2_) | (simp [go_sem] at q_; have q2_ : q = false := q_; subst q2_) | (simp [go_sem, *] at q_; have q2_ : q = false := q_; subst q2_)
      have q_ := x1.bel.cell (p := ⟨w.heap.size, 2, none⟩) (by first | omega | (simp; done) | (simp; omega))
      generalize c_x1_0_2 : x1.val.cell? ⟨w.heap.size, 2, none⟩ = q at q_
      first | (have q2_ : q = some _ := q_; subst q2_) | (simp [go_sem] at q_; have q2_ : q = some _ := q_; subst q2_) | (simp [go_sem, *] at q_; have q2_ : q = some _ := q_; subst q2_)
      have q_ := x1.bel.frozen (p := ⟨w.heap.size, 2, none⟩) (by first | omega | (simp; done) | (simp; omega))
      generalize z_x1_0_2 : x1.val.frozen? ⟨w.heap.size, 2, none⟩ = q at q_
      first | (have q2_ : q = false := q_; subst q2_) | (simp [go_sem] at q_; have q2_ : q = false := q_; subst q2_) | (simp [go_sem, *] at q_; have q2_ : q = false := q_; subst q2_)
      have q_ := x1.bel.cell (p := ⟨w.heap.size, 3, none⟩) (by first | omega | (simp; done) | (simp; omega))
      generalize c_x1_0_3 : x1.val.cell? ⟨w.heap.size, 3, none⟩ = q at q_
      first | (have q2_ : q = some _ := q_; subst q2_) | (simp [go_sem] at q_; have q2_ : q = some _ := q_; subst q2_) | (simp [go_sem, *] at q_; have q2_ : q = some _ := q_; subst q2_)
      have q_ := x1.bel.frozen (p := ⟨w.heap.size, 3, none⟩) (by first | omega | (simp; done) | (simp; omega))
      generalize z_x1_0_3 : x1.val.frozen? ⟨w.heap.size, 3, none⟩ = q at q_
      first | (have q2_ : q = false := q_; subst q2_) | (simp [go_sem] at q_; have q2_ : q = false := q_; subst q2_) | (simp [go_sem, *] at q_; have q2_ : q = false := q_; subst q2_)
      have q_ := x1.bel.cell (p := ⟨w.heap.size, 4, none⟩) (by first | omega | (simp; done) | (simp; omega))
      generalize c_x1_0_4 : x1.val.cell? ⟨w.heap.size, 4, none⟩ = q at q_
      first | (have q2_ : q = some _ := q_; subst q2_) | (simp [go_sem] at q_; have q2_ : q = some _ := q_; subst q2_) | (simp [go_sem, *] at q_; have q2_ : q = some _ := q_; subst q2_)
      have q_ := x1.bel.frozen (p := ⟨w.heap.size, 4, none⟩) (by first | omega | (simp; done) | (simp; omega))
      generalize z_x1_0_4 : x1.val.frozen? ⟨w.heap.size, 4, none⟩ = q at q_
      first | (have q2_ : q = false := q_; subst q2_) | (simp [go_sem] at q_; have q2_ : q = false := q_; subst q2_) | (simp [go_sem, *] at q_; have q2_ : q = false := q_; subst q2_)
      have l_x1_1 : w.heap.size+1 < x1.val.heap.size := by omega
      have m_x1_1 : w.heap.size+1 < x1.val.heap.size + 1 := by omega
      have q_ := x1.bel.cell (p := ⟨w.heap.size+1, 0, none⟩) (by first | omega | (simp; done) | (simp; omega))
      generalize c_x1_1_0 : x1.val.cell? ⟨w.heap.size+1, 0, none⟩ = q at q_
      first | (have q2_ : q = some _ := q_; subst q2_) | (simp [go_sem] at q_; have q2_ : q = some _ := q_; subst q2_) | (simp [go_sem, *] at q_; have q2_ : q = some _ := q_; subst q2_)
      have q_ := x1.bel.frozen (p := ⟨w.heap.size+1, 0, none⟩) (by first | omega | (simp; done) | (simp; omega))
      generalize z_x1_1_0 : x1.val.frozen? ⟨w.heap.size+1, 0, none⟩ = q at q_
      first | (have q2_ : q = false := q_; subst q2_) | (simp [go_sem] at q_; have q2_ : q = false := q_; subst q2_) | (simp [go_sem, *] at q_; have q2_ : q = false := q_; subst q2_)
      have q_ := x1.bel.cell (p := ⟨w.heap.size+1, 1, none⟩) (by first | omega | (simp; done) | (simp; omega))
      generalize c_x1_1_1 : x1.val.cell? ⟨w.heap.size+1, 1, none⟩ = q at q_
      first | (have q2_ : q = some _ := q_; subst q2_) | (simp [go_sem] at q_; have q2_ : q = some _ := q_; subst q2_) | (simp [go_sem, *] at q_; have q2_ : q = some _ := q_; subst q2_)
      have q_ := x1.bel.frozen (p := ⟨w.heap.size+1, 1, none⟩) (by first | omega | (simp; done) | (simp; omega))
      generalize z_x1_1_1 : x1.val.frozen? ⟨w.heap.size+1, 1, none⟩ = q at q_
      first | (have q2_ : q = false := q_; subst q2_) | (simp [go_sem] at q_; have q2_ : q = false := q_; subst q2_) | (simp [go_sem, *] at q_; have q2_ : q = false := q_; subst q2_)
      have q_ := x1.bel.cell (p := ⟨w.heap.size+1, 2, none⟩) (by first | omega | (simp; done) | (simp; omega))
      generalize c_x1_1_2 : x1.val.cell? ⟨w.heap.size+1, 2, none⟩ = q at q_
      first | (have q2_ : q = some _ := q_; subst q2_) | (simp [go_sem] at q_; have q2_ : q = some _ := q_; subst q2_) | (simp [go_sem, *] at q_; have q2_ : q = some _ := q_; subst q2_)
      have q_ := x1.bel.frozen (p := ⟨w.heap.size+1, 2, none⟩) (by first | omega | (simp; done) | (simp; omega))
      generalize z_x1_1_2 : x1.val.frozen? ⟨w.heap.size+1, 2, none⟩ = q at q_
      first | (have q2_ : q = false := q_; subst q2_) | (simp [go_sem] at q_; have q2_ : q = false := q_; subst q2_) | (simp [go_sem, *] at q_; have q2_ : q = false := q_; subst q2_)
      have q_ := x1.bel.cell (p := ⟨w.heap.size+1, 3, none⟩) (by first | omega | (simp; done) | (simp; omega))
      generalize c_x1_1_3 : x1.val.cell? ⟨w.heap.size+1, 3, none⟩ = q at q_
      first | (have q2_ : q = some _ := q_; subst q2_) | (simp [go_sem] at q_; have q2_ : q = some _ := q_; subst q2_) | (simp [go_sem, *] at q_; have q2_ : q = some _ := q_; subst q2_)
      have q_ := x1.bel.frozen (p := ⟨w.heap.size+1, 3, none⟩) (by first | omega | (simp; done) | (simp; omega))
      generalize z_x1_1_3 : x1.val.frozen? ⟨w.heap.size+1, 3, none⟩ = q at q_
      first | (have q2_ : q = false := q_; subst q2_) | (simp [go_sem] at q_; have q2_ : q = false := q_; subst q2_) | (simp [go_sem, *] at q_; have q2_ : q = false := q_; subst q2_)
      have q_ := x1.bel.cell (p := ⟨w.heap.size+1, 4, none⟩) (by first | omega | (simp; done) | (simp; omega))
      generalize c_x1_1_4 : x1.val.cell? ⟨w.heap.size+1, 4, none⟩ = q at q_
      first | (have q2_ : q = some _ := q_; subst q2_) | (simp [go_sem] at q_; have q2_ : q = some _ := q_; subst q2_) | (simp [go_sem, *] at q_; have q2_ : q = some _ := q_; subst q2_)
      have q_ := x1.bel.frozen (p := ⟨w.heap.size+1, 4, none⟩) (by first | omega | (simp; done) | (simp; omega))
      generalize z_x1_1_4 : x1.val.frozen? ⟨w.heap.size+1, 4, none⟩ = q at q_
      first | (have q2_ : q = false := q_; subst q2_) | (simp [go_sem] at q_; have q2_ : q = false := q_; subst q2_) | (simp [go_sem, *] at q_; have q2_ : q = false := q_; subst q2_)
      go_wp2
      refine bodyPost_ret (v := .tuple #[.agg #[.int .i64 (room1 : Int), .int .i64 (safe1 : Int), .int .i64 zl1, .slice A n c, .bool off1], .int .i64 6]) (by simp [results, Try.results33, go_sem, *]) rfl (RdP.of HB.out rfl (by simp [Dk.R, HN.out, HZ.out]) (by repeat (first | with_reducible exact Below.refl _ _ | with_reducible refine bel_later _ ?_ | with_reducible refine bel_alloc ?_ _ | refine bel_set ?_ (by first | omega | (simp; done) | (simp; omega)) _ | with_reducible refine Below.drew ?_ | with_reducible refine bel_drewN ?_ _ | with_reducible assumption | assumption)))
    · rw [if_pos rfl]
      go_enter Try.func33, Try.ntmps33
      go_wp2_with fail
      refine (ks.out _).mono ?_
      rintro e_x1 w_x1 ⟨rfl, hb_x1⟩
      obtain ⟨x1, rfl⟩ := later_is hb_x1
      clear hb_x1
      have hz_x1 := x1.bel.size
      try simp at hz_x1
      have l_x1_0 : w.heap.size < x1.val.heap.size := by omega
      have m_x1_0 : w.heap.size < x1.val.heap.size + 1 := by omega
      have q_ := x1.bel.cell (p := ⟨w.heap.size, 0, none⟩) (by first | omega | (simp; done) | (simp; omega))
      generalize c_x1_0_0 : x1.val.cell? ⟨w.heap.size, 0, none⟩ = q at q_
      first | (have q2_ : q = some _ := q_; subst q2_) | (simp [go_sem] at q_; have q2_ : q = some _ := q_; subst q2_) | (simp [go_sem, *] at q_; have q2_ : q = some _ := q_; subst q2_)
      have q_ := x1.bel.frozen (p := ⟨w.heap.size, 0, none⟩) (by first | omega | (simp; done) | (simp; omega))
      generalize z_x1_0_0 : x1.val.frozen? ⟨w.heap.size, 0, none⟩ = q at q_
      first | (have q2_ : q = false := q_; subst q2_) | (simp [go_sem] at q_; have q2_ : q = false := q_; subst q2_) | (simp [go_sem, *] at q_; have q2_ : q = false := q_; subst q2_)
      have q_ := x1.bel.cell (p := ⟨w.heap.size, 1, none⟩) (by first | omega | (simp; done) | (simp; omega))
      generalize c_x1_0_1 : x1.val.cell? ⟨w.heap.size, 1, none⟩ = q at q_
      first | (have q2_ : q = some _ := q_; subst q2_) | (simp [go_sem] at q_; have q2_ : q = some _ := q_; subst q2_) | (simp [go_sem, *] at q_; have q2_ : q = some _ := q_; subst q2_)
      have q_ := x1.bel.frozen (p := ⟨w.heap.size, 1, none⟩) (by first | omega | (simp; done) | (simp; omega))
      generalize z_x1_0_1 : x1.val.frozen? ⟨w.heap.size, 1, none⟩ = q at q_
      first | (have q2_ : q = false := q_; subst q2_) | (simp [go_sem] at q_; have q2_ : q = false := q_; subst q2_) | (simp [go_sem, *] at q_; have q2_ : q = false := q_; subst q2_)
      have q_ := x1.bel.cell (p := ⟨w.heap.size, 2, none⟩) (by first | omega | (simp; done) | (simp; omega))
      generalize c_x1_0_2 : x1.val.cell? ⟨w.heap.size, 2, none⟩ = q at q_
      first | (have q2_ : q = some _ := q_; subst q2_) | (simp [go_sem] at q_; have q2_ : q = some _ := q_; subst q2_) | (simp [go_sem, *] at q_; have q2_ : q = some _ := q_; subst q2_)
      have q_ := x1.bel.frozen (p := ⟨w.heap.size, 2, none⟩) (by first | omega | (simp; done) | (simp; omega))
      generalize z_x1_0_2 : x1.val.frozen? ⟨w.heap.size, 2, none⟩ = q at q_
      first | (have q2_ : q = false := q_; subst q2_) | (simp [go_sem] at q_; have q2_ : q = false := q_; subst q2_) | (simp [go_sem, *] at q_; have q2_ : q = false := q_; subst q2_)
      have q_ := x1.bel.cell (p := ⟨w.heap.size, 3, none⟩) (by first | omega | (simp; done) | (simp; omega))
      generalize c_x1_0_3 : x1.val.cell? ⟨w.heap.size, 3, none⟩ = q at q_
      first | (have q2_ : q = some _ := q_; subst q2_) | (simp [go_sem] at q_; have q2_ : q = some _ := q_; subst q2_) | (simp [go_sem, *] at q_; have q2_ : q = some _ := q_; subst q2_)
      have q_ := x1.bel.frozen (p := ⟨w.heap.size, 3, none⟩) (by first | omega | (simp; done) | (simp; omega))
      generalize z_x1_0_3 : x1.val.frozen? ⟨w.heap.size, 3, none⟩ = q at q_
      first | (have q2_ : q = false := q_; subst q2_) | (simp [go_sem] at q_; have q2_ : q = false := q_; subst q2_) | (simp [go_sem, *] at q_; have q2_ : q = false := q_; subst q2_)
      have q_ := x1.bel.cell (p := ⟨w.heap.size, 4, none⟩) (by first | omega | (simp; done) | (simp; omega))
      generalize c_x1_0_4 : x1.val.cell? ⟨w.heap.size, 4, none⟩ = q at q_
      first | (have q2_ : q = some _ := q_; subst q2_) | (simp [go_sem] at q_; have q2_ : q = some _ := q_; subst q2_) | (simp [go_sem, *] at q_; have q2_ : q = some _ := q_; subst q2_)
      have q_ := x1.bel.frozen (p := ⟨w.heap.size, 4, none⟩) (by first | omega | (simp; done) | (simp; omega))
      generalize z_x1_0_4 : x1.val.frozen? ⟨w.heap.size, 4, none⟩ = q at q_
      first | (have q2_ : q = false := q_; subst q2_) | (simp [go_sem] at q_; have q2_ : q = false := q_; subst q2_) | (simp [go_sem, *] at q_; have q2_ : q = false := q_; subst q2_)
      have l_x1_1 : w.heap.size+1 < x1.val.heap.size := by omega
      have m_x1_1 : w.heap.size+1 < x1.val.heap.size + 1 := by omega
      have q_ := x1.bel.cell (p := ⟨w.heap.size+1, 0, none⟩) (by first | omega | (simp; done) | (simp; omega))
      generalize c_x1_1_0 : x1.val.cell? ⟨w.heap.size+1, 0, none⟩ = q at q_
      first | (have q2_ : q = some _ := q_; subst q2_) | (simp [go_sem] at q_; have q2_ : q = some _ := q_; subst q2_) | (simp [go_sem, *] at q_; have q2_ : q = some _ := q_; subst q2_)
      have q_ := x1.bel.frozen (p := ⟨w.heap.size+1, 0, none⟩) (by first | omega | (simp; done) | (simp; omega))
      generalize z_x1_1_0 : x1.val.frozen? ⟨w.heap.size+1, 0, none⟩ = q at q_
      first | (have q2_ : q = false := q_; subst q2_) | (simp [go_sem] at q_; have q2_ : q = false := q_; subst q2_) | (simp [go_sem, *] at q_; have q2_ : q = false := q_; subst q2_)
      have q_ := x1.bel.cell (p := ⟨w.heap.size+1, 1, none⟩) (by first | omega | (simp; done) | (simp; omega))
      generalize c_x1_1_1 : x1.val.cell? ⟨w.heap.size+1, 1, none⟩ = q at q_
      first | (have q2_ : q = some _ := q_; subst q2_) | (simp [go_sem] at q_; have q2_ : q = some _ := q_; subst q2_) | (simp [go_sem, *] at q_; have q2_ : q = some _ := q_; subst q2_)
      have q_ := x1.bel.frozen (p := ⟨w.heap.size+1, 1, none⟩) (by first | omega | (simp; done) | (simp; omega))
      generalize z_x1_1_1 : x1.val.frozen? ⟨w.heap.size+1, 1, none⟩ = q at q_
      first | (have q2_ : q = false := q_; subst q2_) | (simp [go_sem] at q_; have q2_ : q = false := q_; subst q2_) | (simp [go_sem, *] at q_; have q2_ : q = false := q_; subst q2_)
      have q_ := x1.bel.cell (p := ⟨w.heap.size+1, 2, none⟩) (by first | omega | (simp; done) | (simp; omega))
      generalize c_x1_1_2 : x1.val.cell? ⟨w.heap.size+1, 2, none⟩ = q at q_
      first | (have q2_ : q = some _ := q_; subst q2_) | (simp [go_sem] at q_; have q2_ : q = some _ := q_; subst q2_) | (simp [go_sem, *] at q_; have q2_ : q = some _ := q_; subst q2_)
      have q_ := x1.bel.frozen (p := ⟨w.heap.size+1, 2, none⟩) (by first | omega | (simp; done) | (simp; omega))
      generalize z_x1_1_2 : x1.val.frozen? ⟨w.heap.size+1, 2, none⟩ = q at q_
      first | (have q2_ : q = false := q_; subst q2_) | (simp [go_sem] at q_; have q2_ : q = false := q_; subst q2_) | (simp [go_sem, *] at q_; have q2_ : q = false := q_; subst q2_)
      have q_ := x1.bel.cell (p := ⟨w.heap.size+1, 3, none⟩) (by first | omega | (simp; done) | (simp; omega))
      generalize c_x1_1_3 : x1.val.cell? ⟨w.heap.size+1, 3, none⟩ = q at q_
      first | (have q2_ : q = some _ := q_; subst q2_) | (simp [go_sem] at q_; have q2_ : q = some _ := q_; subst q2_) | (simp [go_sem, *] at q_; have q2_ : q = some _ := q_; subst q2_)
      have q_ := x1.bel.frozen (p := ⟨w.heap.size+1, 3, none⟩) (by first | omega | (simp; done) | (simp; omega))
      generalize z_x1_1_3 : x1.val.frozen? ⟨w.heap.size+1, 3, none⟩ = q at q_
      first | (have q2_ : q = false := q_; subst q2_) | (simp [go_sem] at q_; have q2_ : q = false := q_; subst q2_) | (simp [go_sem, *] at q_; have q2_ : q = false := q_; subst q2_)
      have q_ := x1.bel.cell (p := ⟨w.heap.size+1, 4, none⟩) (by first | omega | (simp; done) | (simp; omega))
      generalize c_x1_1_4 : x1.val.cell? ⟨w.heap.size+1, 4, none⟩ = q at q_
      first | (have q2_ : q = some _ := q_; subst q2_) | (simp [go_sem] at q_; have q2_ : q = some _ := q_; subst q2_) | (simp [go_sem, *] at q_; have q2_ : q = some _ := q_; subst q2_)
      have q_ := x1.bel.frozen (p := ⟨w.heap.size+1, 4, none⟩) (by first | omega | (simp; done) | (simp; omega))
      generalize z_x1_1_4 : x1.val.frozen? ⟨w.heap.size+1, 4, none⟩ = q at q_
      first | (have q2_ : q = false := q_; subst q2_) | (simp [go_sem] at q_; have q2_ : q = false := q_; subst q2_) | (simp [go_sem, *] at q_; have q2_ : q = false := q_; subst q2_)
      go_wp2
      refine bodyPost_ret (v := .tuple #[.agg #[.int .i64 (room1 : Int), .int .i64 (n : Int), .int .i64 zl1, .slice A n c, .bool off1], .int .i64 0]) (by simp [results, Try.results33, go_sem, *]) rfl (RdP.of HB.out rfl (by simp [Dk.R, HN.out, HZ.out]) (by repeat (first | with_reducible exact Below.refl _ _ | with_reducible refine bel_later _ ?_ | with_reducible refine bel_alloc ?_ _ | refine bel_set ?_ (by first | omega | (simp; done) | (simp; omega)) _ | with_reducible refine Below.drew ?_ | with_reducible refine bel_drewN ?_ _ | with_reducible assumption | assumption)))
  · have hs : D.sync = (D, 6) := by unfold Dk.sync; rw [if_pos ho]
    rw [hs]
    obtain ⟨room, l, safe, left, off⟩ := D
    simp only [Dk.R] at *
    obtain ⟨n, hn⟩ : ∃ n, l.length = n := ⟨_, rfl⟩
    rw [hn]
    subst ho
    obtain ⟨zl, hzl⟩ : ∃ z, lf left = z := ⟨_, rfl⟩
    rw [hzl]
    have HN := Lib.hid hn
    have HZ := Lib.hid hzl
    clear hd hll hs hn hzl hok ks
    go_enter Try.func33, Try.ntmps33
    go_wp2
    refine bodyPost_ret (v := .tuple #[.agg #[.int .i64 (room : Int), .int .i64 (safe : Int), .int .i64 zl, .slice A n c, .bool true], .int .i64 6]) (by simp [results, Try.results33, go_sem, *]) rfl (RdP.of HB.out rfl (by simp [Dk.R, HN.out, HZ.out]) (by repeat (first | with_reducible exact Below.refl _ _ | with_reducible refine bel_later _ ?_ | with_reducible refine bel_alloc ?_ _ | refine bel_set ?_ (by first | omega | (simp; done) | (simp; omega)) _ | with_reducible refine Below.drew ?_ | with_reducible refine bel_drewN ?_ _ | with_reducible assumption | assumption)))
theorem rsparks_any (D : Dk) (A : Option Addr) (c : Nat) (w : World) (n : Int) : Calls Try.prog 35 #[D.R A c, .int .i64 n] w fun e w' => e = .returned ((D.sparks n).R A c) ∧ Below w.heap.size w w' := by
  obtain ⟨room, l, safe, left, off⟩ := D
  by_cases hn : n < 0
  · have hs : lf (if n < 0 then none else some n.toNat) = -1 := by rw [if_pos hn]; rfl
    simp only [Dk.sparks, Dk.R, hs]
    clear hs
    go_enter Try.func35, Try.ntmps35
    go_wp2
    refine bodyPost_ret (v := .agg #[.int .i64 (room : Int), .int .i64 (safe : Int), .int .i64 (-1), .slice A l.length c, .bool off]) (by simp [results, Try.results35, go_sem, *]) rfl ⟨rfl, (by repeat (first | with_reducible exact Below.refl _ _ | with_reducible refine bel_later _ ?_ | with_reducible refine bel_alloc ?_ _ | refine bel_set ?_ (by first | omega | (simp; done) | (simp; omega)) _ | with_reducible refine Below.drew ?_ | with_reducible refine bel_drewN ?_ _ | with_reducible assumption | assumption))⟩
  · have hs : lf (if n < 0 then none else some n.toNat) = n := by rw [if_neg hn]; show ((n.toNat : Nat) : Int) = n; omega
    simp only [Dk.sparks, Dk.R, hs]
    clear hs
    have g : decide (n < 0) = false := decide_eq_false hn
    go_enter Try.func35, Try.ntmps35
    go_wp2
    refine bodyPost_ret (v := .agg #[.int .i64 (room : Int), .int .i64 (safe : Int), .int .i64 n, .slice A l.length c, .bool off]) (by simp [results, Try.results35, go_sem, *]) rfl ⟨rfl, (by repeat (first | with_reducible exact Below.refl _ _ | with_reducible refine bel_later _ ?_ | with_reducible refine bel_alloc ?_ _ | refine bel_set ?_ (by first | omega | (simp; done) | (simp; omega)) _ | with_reducible refine Below.drew ?_ | with_reducible refine bel_drewN ?_ _ | with_reducible assumption | assumption))⟩
end Go.Proofs.Ytpjdgnoekplldaa
