/- Layer 9: the reference's model of an operation. -/
import Derived.Test.YtpjdgnoekplldaaDkOp
namespace Go.Proofs.Ytpjdgnoekplldaa
open Go.RowKit
set_option linter.unusedVariables false
attribute [local go_sem] Later.cell Later.frozen setCell_twice
theorem Rb.set {w : World} {A : Option Addr} {c g j : Nat} {l : List Nat} {v : Value} (h : Rb w A c l) (hg : ∀ p, A = some p → p.block ≠ g) : Rb (w.setCell ⟨g, j, Option.none⟩ v) A c l :=
  ⟨fun hn => by
    obtain ⟨b, o, hA, hb, hc⟩ := h.sq hn
    exact ⟨b, o, hA, by simpa [World.setCell] using hb, fun i x hx => (World.cell?_setCell_other _ _ _ _ (by intro e; injection e with e1; exact hg _ hA e1.symm)).trans (hc i x hx)⟩, h.nil, h.le, h.cap, fun p hp => by have := h.lt p hp; simpa [World.setCell] using this⟩
set_option maxHeartbeats 1000000 in
theorem rmodel_any (D : Dk) (A : Option Addr) (c : Nat) (w : World) (hok : D.Ok) (hb : Rb w A c D.l) (what : Nat) (hw : what < 256) (n : Int) (hlo : -9223372036854775808 ≤ n) (hhi : n ≤ 9223372036854775807) (Ab : Option Addr) (cb nb : Nat) (lb : List Nat) (hnb : lb.length = nb) (hn63 : nb ≤ 140737488355328) (sq : Sq byw w w.heap.size Ab lb) (hu : ∀ x ∈ lb, x < 256) :
    Calls Try.prog 22 #[D.R A c, .agg #[.int .u8 (what : Int), .slice Ab nb cb, .int .i64 n]] w (RdP w A (D.doOp what lb n)) := by
  have hb0 : Below w.heap.size w (((w.alloc (.cells #[.int .i64 (D.room : Int), .int .i64 (D.safe : Int), .int .i64 (lf D.left), .slice A D.l.length c, .bool D.off] 44)).alloc (.cells #[.int .u8 (what : Int), .slice Ab nb cb, .int .i64 n] 38)).alloc (.cells rd0.toArray 44)) := (by repeat (first | with_reducible exact Below.refl _ _ | with_reducible refine bel_later _ ?_ | with_reducible refine bel_alloc ?_ _ | refine bel_set ?_ (by first | omega | (simp; done) | (simp; omega)) _ | with_reducible refine Below.drew ?_ | with_reducible refine bel_drewN ?_ _ | with_reducible assumption | assumption))
  have h1 := hb.to hb0
  have ka := Lib.hid (rappend_any D A c _ hok h1 Ab cb nb lb hnb hn63 ((sq.below hb0).more hb0.size) hu)
  have ks := Lib.hid (rsync_any D A c _ hok h1)
  have kc := Lib.hid (rcut_any D A c _ n hlo hhi hok h1)
  have kp := Lib.hid (fun w => rsparks_any D A c w n)
  have kx := Lib.hid (rcrash_any D A c _ n hlo hhi hok h1)
  have HB := Lib.hid hb
  have hAl := hb.lt
  obtain ⟨m, hm⟩ : ∃ m, what % 5 = m := ⟨_, rfl⟩
  have hmI : (what : Int) % 5 = (m : Int) := by omega
  have hm5 : m = 0 ∨ m = 1 ∨ m = 2 ∨ m = 3 ∨ m = 4 := by omega
  unfold Dk.doOp
  rw [hm]
  obtain ⟨q, hq⟩ : ∃ q, D.l.length = q := ⟨_, rfl⟩
  simp only [Dk.R, hq] at ka ks kc kp kx ⊢
  clear hb0 h1 hb hq
  rcases hm5 with rfl | rfl | rfl | rfl | rfl
  · rw [if_pos rfl]
    obtain ⟨R, hR⟩ : ∃ R, D.append lb = R := ⟨_, rfl⟩
    rw [hR] at ka ⊢
    clear hR
    go_enter Try.func22, Try.ntmps22
    go_wp2_with fail
    refine (ka.out).mono ?_
    rintro e w1 ⟨A', c', rfl, hb1, bel1, hA1⟩
    have RS := Lib.hid ((RowAt.new' _ (w.heap.size + 1 + 1) 44 rd0 (by simp)).to bel1)
    have HBB := Lib.hid hb1
    have BW : Below w.heap.size w w1 := Below.trans (by exact (by repeat (first | with_reducible exact Below.refl _ _ | with_reducible refine bel_later _ ?_ | with_reducible refine bel_alloc ?_ _ | refine bel_set ?_ (by first | omega | (simp; done) | (simp; omega)) _ | with_reducible refine Below.drew ?_ | with_reducible refine bel_drewN ?_ _ | with_reducible assumption | assumption))) (bel1.mono (by first | omega | (simp; done) | (simp; omega)))
    have hA2 : ∀ p, A' = some p → p.block ≠ w.heap.size + 1 + 1 := fun p hp => by
      rcases hA1 with h | h
      · have := hAl p (h.symm.trans hp); omega
      · have := h p hp; (try simp at this); omega
    have HA2 := Lib.hid hA2
    have HA3 : Hid (A' = A ∨ ∀ p, A' = some p → w.heap.size ≤ p.block) := Lib.hid (hA1.imp id (fun h p hp => by have := h p hp; (try simp at this); omega))
    clear hb1 hA1 hA2
    have rslt : w.heap.size + 1 + 1 < (w1).heap.size := RS.out.lt
    have rslu : w.heap.size + 1 + 1 < (w1).heap.size + 1 := Nat.lt_succ_of_lt RS.out.lt
    have rs0 : (w1).cell? ⟨w.heap.size + 1 + 1, 0, none⟩ = some (.int .i64 0) := RS.out.cells 0
    have rsz0 : (w1).frozen? ⟨w.heap.size + 1 + 1, 0, none⟩ = false := RS.out.frozen 0
    have rs1 : (w1).cell? ⟨w.heap.size + 1 + 1, 1, none⟩ = some (.int .i64 0) := RS.out.cells 1
    have rsz1 : (w1).frozen? ⟨w.heap.size + 1 + 1, 1, none⟩ = false := RS.out.frozen 1
    have rs2 : (w1).cell? ⟨w.heap.size + 1 + 1, 2, none⟩ = some (.int .i64 0) := RS.out.cells 2
    have rsz2 : (w1).frozen? ⟨w.heap.size + 1 + 1, 2, none⟩ = false := RS.out.frozen 2
    have rs3 : (w1).cell? ⟨w.heap.size + 1 + 1, 3, none⟩ = some (.slice none 0 0) := RS.out.cells 3
    have rsz3 : (w1).frozen? ⟨w.heap.size + 1 + 1, 3, none⟩ = false := RS.out.frozen 3
    have rs4 : (w1).cell? ⟨w.heap.size + 1 + 1, 4, none⟩ = some (.bool false) := RS.out.cells 4
    have rsz4 : (w1).frozen? ⟨w.heap.size + 1 + 1, 4, none⟩ = false := RS.out.frozen 4
    go_wp2
    refine bodyPost_ret (v := .tuple #[R.1.R A' c', .int .i64 R.2]) (by simp [results, Try.results22, go_sem, *]) rfl ⟨A', c', rfl, (by repeat (first | with_reducible exact HBB.out | refine Rb.set ?_ HA2.out)), (by repeat (first | with_reducible exact Below.refl _ _ | with_reducible refine bel_later _ ?_ | with_reducible refine bel_alloc ?_ _ | refine bel_set ?_ (by first | omega | (simp; done) | (simp; omega)) _ | with_reducible refine Below.drew ?_ | with_reducible refine bel_drewN ?_ _ | with_reducible assumption | assumption)), HA3.out⟩
  · rw [if_neg (by decide), if_pos rfl]
    obtain ⟨R, hR⟩ : ∃ R, D.sync = R := ⟨_, rfl⟩
    rw [hR] at ks ⊢
    clear hR
    go_enter Try.func22, Try.ntmps22
    go_wp2_with fail
    refine (ks.out).mono ?_
    rintro e w1 ⟨A', c', rfl, hb1, bel1, hA1⟩
    have RS := Lib.hid ((RowAt.new' _ (w.heap.size + 1 + 1) 44 rd0 (by simp)).to bel1)
    have HBB := Lib.hid hb1
    have BW : Below w.heap.size w w1 := Below.trans (by exact (by repeat (first | with_reducible exact Below.refl _ _ | with_reducible refine bel_later _ ?_ | with_reducible refine bel_alloc ?_ _ | refine bel_set ?_ (by first | omega | (simp; done) | (simp; omega)) _ | with_reducible refine Below.drew ?_ | with_reducible refine bel_drewN ?_ _ | with_reducible assumption | assumption))) (bel1.mono (by first | omega | (simp; done) | (simp; omega)))
    have hA2 : ∀ p, A' = some p → p.block ≠ w.heap.size + 1 + 1 := fun p hp => by
      rcases hA1 with h | h
      · have := hAl p (h.symm.trans hp); omega
      · have := h p hp; (try simp at this); omega
    have HA2 := Lib.hid hA2
    have HA3 : Hid (A' = A ∨ ∀ p, A' = some p → w.heap.size ≤ p.block) := Lib.hid (hA1.imp id (fun h p hp => by have := h p hp; (try simp at this); omega))
    clear hb1 hA1 hA2
    have rslt : w.heap.size + 1 + 1 < (w1).heap.size := RS.out.lt
    have rslu : w.heap.size + 1 + 1 < (w1).heap.size + 1 := Nat.lt_succ_of_lt RS.out.lt
    have rs0 : (w1).cell? ⟨w.heap.size + 1 + 1, 0, none⟩ = some (.int .i64 0) := RS.out.cells 0
    have rsz0 : (w1).frozen? ⟨w.heap.size + 1 + 1, 0, none⟩ = false := RS.out.frozen 0
    have rs1 : (w1).cell? ⟨w.heap.size + 1 + 1, 1, none⟩ = some (.int .i64 0) := RS.out.cells 1
    have rsz1 : (w1).frozen? ⟨w.heap.size + 1 + 1, 1, none⟩ = false := RS.out.frozen 1
    have rs2 : (w1).cell? ⟨w.heap.size + 1 + 1, 2, none⟩ = some (.int .i64 0) := RS.out.cells 2
    have rsz2 : (w1).frozen? ⟨w.heap.size + 1 + 1, 2, none⟩ = false := RS.out.frozen 2
    have rs3 : (w1).cell? ⟨w.heap.size + 1 + 1, 3, none⟩ = some (.slice none 0 0) := RS.out.cells 3
    have rsz3 : (w1).frozen? ⟨w.heap.size + 1 + 1, 3, none⟩ = false := RS.out.frozen 3
    have rs4 : (w1).cell? ⟨w.heap.size + 1 + 1, 4, none⟩ = some (.bool false) := RS.out.cells 4
    have rsz4 : (w1).frozen? ⟨w.heap.size + 1 + 1, 4, none⟩ = false := RS.out.frozen 4
    go_wp2
    refine bodyPost_ret (v := .tuple #[R.1.R A' c', .int .i64 R.2]) (by simp [results, Try.results22, go_sem, *]) rfl ⟨A', c', rfl, (by repeat (first | with_reducible exact HBB.out | refine Rb.set ?_ HA2.out)), (by repeat (first | with_reducible exact Below.refl _ _ | with_reducible refine bel_later _ ?_ | with_reducible refine bel_alloc ?_ _ | refine bel_set ?_ (by first | omega | (simp; done) | (simp; omega)) _ | with_reducible refine Below.drew ?_ | with_reducible refine bel_drewN ?_ _ | with_reducible assumption | assumption)), HA3.out⟩
  · rw [if_neg (by decide), if_neg (by decide), if_pos rfl]
    obtain ⟨R, hR⟩ : ∃ R, D.cut n = R := ⟨_, rfl⟩
    rw [hR] at kc ⊢
    clear hR
    go_enter Try.func22, Try.ntmps22
    go_wp2_with fail
    refine (kc.out).mono ?_
    rintro e w1 ⟨A', c', rfl, hb1, bel1, hA1⟩
    have RS := Lib.hid ((RowAt.new' _ (w.heap.size + 1 + 1) 44 rd0 (by simp)).to bel1)
    have HBB := Lib.hid hb1
    have BW : Below w.heap.size w w1 := Below.trans (by exact (by repeat (first | with_reducible exact Below.refl _ _ | with_reducible refine bel_later _ ?_ | with_reducible refine bel_alloc ?_ _ | refine bel_set ?_ (by first | omega | (simp; done) | (simp; omega)) _ | with_reducible refine Below.drew ?_ | with_reducible refine bel_drewN ?_ _ | with_reducible assumption | assumption))) (bel1.mono (by first | omega | (simp; done) | (simp; omega)))
    have hA2 : ∀ p, A' = some p → p.block ≠ w.heap.size + 1 + 1 := fun p hp => by
      rcases hA1 with h | h
      · have := hAl p (h.symm.trans hp); omega
      · have := h p hp; (try simp at this); omega
    have HA2 := Lib.hid hA2
    have HA3 : Hid (A' = A ∨ ∀ p, A' = some p → w.heap.size ≤ p.block) := Lib.hid (hA1.imp id (fun h p hp => by have := h p hp; (try simp at this); omega))
    clear hb1 hA1 hA2
    have rslt : w.heap.size + 1 + 1 < (w1).heap.size := RS.out.lt
    have rslu : w.heap.size + 1 + 1 < (w1).heap.size + 1 := Nat.lt_succ_of_lt RS.out.lt
    have rs0 : (w1).cell? ⟨w.heap.size + 1 + 1, 0, none⟩ = some (.int .i64 0) := RS.out.cells 0
    have rsz0 : (w1).frozen? ⟨w.heap.size + 1 + 1, 0, none⟩ = false := RS.out.frozen 0
    have rs1 : (w1).cell? ⟨w.heap.size + 1 + 1, 1, none⟩ = some (.int .i64 0) := RS.out.cells 1
    have rsz1 : (w1).frozen? ⟨w.heap.size + 1 + 1, 1, none⟩ = false := RS.out.frozen 1
    have rs2 : (w1).cell? ⟨w.heap.size + 1 + 1, 2, none⟩ = some (.int .i64 0) := RS.out.cells 2
    have rsz2 : (w1).frozen? ⟨w.heap.size + 1 + 1, 2, none⟩ = false := RS.out.frozen 2
    have rs3 : (w1).cell? ⟨w.heap.size + 1 + 1, 3, none⟩ = some (.slice none 0 0) := RS.out.cells 3
    have rsz3 : (w1).frozen? ⟨w.heap.size + 1 + 1, 3, none⟩ = false := RS.out.frozen 3
    have rs4 : (w1).cell? ⟨w.heap.size + 1 + 1, 4, none⟩ = some (.bool false) := RS.out.cells 4
    have rsz4 : (w1).frozen? ⟨w.heap.size + 1 + 1, 4, none⟩ = false := RS.out.frozen 4
    go_wp2
    refine bodyPost_ret (v := .tuple #[R.1.R A' c', .int .i64 R.2]) (by simp [results, Try.results22, go_sem, *]) rfl ⟨A', c', rfl, (by repeat (first | with_reducible exact HBB.out | refine Rb.set ?_ HA2.out)), (by repeat (first | with_reducible exact Below.refl _ _ | with_reducible refine bel_later _ ?_ | with_reducible refine bel_alloc ?_ _ | refine bel_set ?_ (by first | omega | (simp; done) | (simp; omega)) _ | with_reducible refine Below.drew ?_ | with_reducible refine bel_drewN ?_ _ | with_reducible assumption | assumption)), HA3.out⟩
  · rw [if_neg (by decide), if_neg (by decide), if_neg (by decide), if_pos rfl]
    have hsl : (D.sparks n).l = D.l := rfl
    obtain ⟨R, hR⟩ : ∃ R, D.sparks n = R := ⟨_, rfl⟩
    rw [hR] at kp hsl ⊢
    clear hR
    have HB' : Hid (Rb w A c R.l) := Lib.hid (by rw [hsl]; exact HB.out)
    clear hsl
    go_enter Try.func22, Try.ntmps22
    go_wp2_with fail
    refine (kp.out _).mono ?_
    rintro e w1 ⟨rfl, bel1⟩
    have hb1 := HB'.out.to (Below.trans (by exact (by repeat (first | with_reducible exact Below.refl _ _ | with_reducible refine bel_later _ ?_ | with_reducible refine bel_alloc ?_ _ | refine bel_set ?_ (by first | omega | (simp; done) | (simp; omega)) _ | with_reducible refine Below.drew ?_ | with_reducible refine bel_drewN ?_ _ | with_reducible assumption | assumption))) (bel1.mono (by first | omega | (simp; done) | (simp; omega))))
    obtain ⟨A', hA'⟩ : ∃ A', A' = A := ⟨_, rfl⟩
    have hA1 : A' = A ∨ ∀ p, A' = some p → w.heap.size + 1 + 1 + 1 ≤ p.block := .inl hA'
    obtain ⟨c', hc'⟩ : ∃ c', c' = c := ⟨_, rfl⟩
    rw [← hA', ← hc'] at hb1
    simp only [← hA', ← hc']
    clear hA' hc'
    have RS := Lib.hid ((RowAt.new' _ (w.heap.size + 1 + 1) 44 rd0 (by simp)).to bel1)
    have HBB := Lib.hid hb1
    have BW : Below w.heap.size w w1 := Below.trans (by exact (by repeat (first | with_reducible exact Below.refl _ _ | with_reducible refine bel_later _ ?_ | with_reducible refine bel_alloc ?_ _ | refine bel_set ?_ (by first | omega | (simp; done) | (simp; omega)) _ | with_reducible refine Below.drew ?_ | with_reducible refine bel_drewN ?_ _ | with_reducible assumption | assumption))) (bel1.mono (by first | omega | (simp; done) | (simp; omega)))
    have hA2 : ∀ p, A' = some p → p.block ≠ w.heap.size + 1 + 1 := fun p hp => by
      rcases hA1 with h | h
      · have := hAl p (h.symm.trans hp); omega
      · have := h p hp; (try simp at this); omega
    have HA2 := Lib.hid hA2
    have HA3 : Hid (A' = A ∨ ∀ p, A' = some p → w.heap.size ≤ p.block) := Lib.hid (hA1.imp id (fun h p hp => by have := h p hp; (try simp at this); omega))
    clear hb1 hA1 hA2
    have rslt : w.heap.size + 1 + 1 < (w1).heap.size := RS.out.lt
    have rslu : w.heap.size + 1 + 1 < (w1).heap.size + 1 := Nat.lt_succ_of_lt RS.out.lt
    have rs0 : (w1).cell? ⟨w.heap.size + 1 + 1, 0, none⟩ = some (.int .i64 0) := RS.out.cells 0
    have rsz0 : (w1).frozen? ⟨w.heap.size + 1 + 1, 0, none⟩ = false := RS.out.frozen 0
    have rs1 : (w1).cell? ⟨w.heap.size + 1 + 1, 1, none⟩ = some (.int .i64 0) := RS.out.cells 1
    have rsz1 : (w1).frozen? ⟨w.heap.size + 1 + 1, 1, none⟩ = false := RS.out.frozen 1
    have rs2 : (w1).cell? ⟨w.heap.size + 1 + 1, 2, none⟩ = some (.int .i64 0) := RS.out.cells 2
    have rsz2 : (w1).frozen? ⟨w.heap.size + 1 + 1, 2, none⟩ = false := RS.out.frozen 2
    have rs3 : (w1).cell? ⟨w.heap.size + 1 + 1, 3, none⟩ = some (.slice none 0 0) := RS.out.cells 3
    have rsz3 : (w1).frozen? ⟨w.heap.size + 1 + 1, 3, none⟩ = false := RS.out.frozen 3
    have rs4 : (w1).cell? ⟨w.heap.size + 1 + 1, 4, none⟩ = some (.bool false) := RS.out.cells 4
    have rsz4 : (w1).frozen? ⟨w.heap.size + 1 + 1, 4, none⟩ = false := RS.out.frozen 4
    go_wp2
    refine bodyPost_ret (v := .tuple #[R.R A' c', .int .i64 0]) (by simp [results, Try.results22, go_sem, *]) rfl ⟨A', c', rfl, (by repeat (first | with_reducible exact HBB.out | refine Rb.set ?_ HA2.out)), (by repeat (first | with_reducible exact Below.refl _ _ | with_reducible refine bel_later _ ?_ | with_reducible refine bel_alloc ?_ _ | refine bel_set ?_ (by first | omega | (simp; done) | (simp; omega)) _ | with_reducible refine Below.drew ?_ | with_reducible refine bel_drewN ?_ _ | with_reducible assumption | assumption)), HA3.out⟩
  · rw [if_neg (by decide), if_neg (by decide), if_neg (by decide), if_neg (by decide)]
    obtain ⟨R, hR⟩ : ∃ R, D.crash n = R := ⟨_, rfl⟩
    rw [hR] at kx ⊢
    clear hR
    go_enter Try.func22, Try.ntmps22
    go_wp2_with fail
    refine (kx.out).mono ?_
    rintro e w1 ⟨A', c', rfl, hb1, bel1, hA0⟩
    have hA1 := Or.inr (a := A' = A) hA0
    clear hA0
    have RS := Lib.hid ((RowAt.new' _ (w.heap.size + 1 + 1) 44 rd0 (by simp)).to bel1)
    have HBB := Lib.hid hb1
    have BW : Below w.heap.size w w1 := Below.trans (by exact (by repeat (first | with_reducible exact Below.refl _ _ | with_reducible refine bel_later _ ?_ | with_reducible refine bel_alloc ?_ _ | refine bel_set ?_ (by first | omega | (simp; done) | (simp; omega)) _ | with_reducible refine Below.drew ?_ | with_reducible refine bel_drewN ?_ _ | with_reducible assumption | assumption))) (bel1.mono (by first | omega | (simp; done) | (simp; omega)))
    have hA2 : ∀ p, A' = some p → p.block ≠ w.heap.size + 1 + 1 := fun p hp => by
      rcases hA1 with h | h
      · have := hAl p (h.symm.trans hp); omega
      · have := h p hp; (try simp at this); omega
    have HA2 := Lib.hid hA2
    have HA3 : Hid (A' = A ∨ ∀ p, A' = some p → w.heap.size ≤ p.block) := Lib.hid (hA1.imp id (fun h p hp => by have := h p hp; (try simp at this); omega))
    clear hb1 hA1 hA2
    have rslt : w.heap.size + 1 + 1 < (w1).heap.size := RS.out.lt
    have rslu : w.heap.size + 1 + 1 < (w1).heap.size + 1 := Nat.lt_succ_of_lt RS.out.lt
    have rs0 : (w1).cell? ⟨w.heap.size + 1 + 1, 0, none⟩ = some (.int .i64 0) := RS.out.cells 0
    have rsz0 : (w1).frozen? ⟨w.heap.size + 1 + 1, 0, none⟩ = false := RS.out.frozen 0
    have rs1 : (w1).cell? ⟨w.heap.size + 1 + 1, 1, none⟩ = some (.int .i64 0) := RS.out.cells 1
    have rsz1 : (w1).frozen? ⟨w.heap.size + 1 + 1, 1, none⟩ = false := RS.out.frozen 1
    have rs2 : (w1).cell? ⟨w.heap.size + 1 + 1, 2, none⟩ = some (.int .i64 0) := RS.out.cells 2
    have rsz2 : (w1).frozen? ⟨w.heap.size + 1 + 1, 2, none⟩ = false := RS.out.frozen 2
    have rs3 : (w1).cell? ⟨w.heap.size + 1 + 1, 3, none⟩ = some (.slice none 0 0) := RS.out.cells 3
    have rsz3 : (w1).frozen? ⟨w.heap.size + 1 + 1, 3, none⟩ = false := RS.out.frozen 3
    have rs4 : (w1).cell? ⟨w.heap.size + 1 + 1, 4, none⟩ = some (.bool false) := RS.out.cells 4
    have rsz4 : (w1).frozen? ⟨w.heap.size + 1 + 1, 4, none⟩ = false := RS.out.frozen 4
    go_wp2
    refine bodyPost_ret (v := .tuple #[R.R A' c', .int .i64 0]) (by simp [results, Try.results22, go_sem, *]) rfl ⟨A', c', rfl, (by repeat (first | with_reducible exact HBB.out | refine Rb.set ?_ HA2.out)), (by repeat (first | with_reducible exact Below.refl _ _ | with_reducible refine bel_later _ ?_ | with_reducible refine bel_alloc ?_ _ | refine bel_set ?_ (by first | omega | (simp; done) | (simp; omega)) _ | with_reducible refine Below.drew ?_ | with_reducible refine bel_drewN ?_ _ | with_reducible assumption | assumption)), HA3.out⟩
end Go.Proofs.Ytpjdgnoekplldaa
