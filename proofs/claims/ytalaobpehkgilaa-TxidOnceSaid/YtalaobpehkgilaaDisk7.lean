/- A disk: Cut. -/
import Derived.Test.YtalaobpehkgilaaDisk6
import Derived.Lib.MinMax
namespace Go.Proofs.Ytalaobpehkgilaa
open Go.RowKit
set_option linter.unusedVariables false
attribute [local go_sem] Later.cell Later.frozen setCell_twice
section
variable {w : World} {B g c : Nat} {A : Option Addr} {D : Dk}
set_option maxHeartbeats 400000 in
theorem cut_any (h : DkAt w B g A c D) (n : Int) (hlo : -9223372036854775808 ≤ n) (hhi : n ≤ 9223372036854775807) : Calls Try.prog 17 #[.pointer (some ⟨g, 0, none⟩), .int .i64 n] w (OpP w B g A (D.cut n)) := by
  have hmf : ∀ (fn : Fn) (first cap : Array Value) (w : World), (Instr.makeFunc fn first cap).run Try.prog w = .ok (.func fn first cap) w := fun _ _ _ _ => rfl
  have hgl := h.lt
  have kr := Lib.hid (ready_any (h.to (bel_alloc (Below.refl _ _) (.cells #[.int .i64 0] 25))))
  have RV := Lib.hid (rv_row w)
  have hne : w.heap.size ≠ g := by omega
  have hAl : ∀ p, A = some p → p.block < w.heap.size := fun p hp => (own_at h.own p hp).2.1
  have d2 : (Rv w).cell? ⟨g, 2, none⟩ = some (.slice A D.l.length c) := (h.to (bel_alloc (Below.refl _ _) (.cells #[.int .i64 0] 25))).row.cells 2
  cases ho : D.off
  · rw [ho] at kr
    by_cases h1 : n < 0 ∨ (D.l.length : Int) < n
    · have HS : Hid (D.cut n = (D, 2)) := Lib.hid (by unfold Dk.cut; rw [if_neg (by rw [ho]; decide), if_pos h1])
      have H := Lib.hid h
      rw [HS.out]
      clear h ho
      by_cases h2 : n < 0
      · have g1 : decide (n < 0) = true := decide_eq_true h2
        go_enter_defers Try.func17, Try.ntmps17
        go_wp2_with fail
        refine (kr.out).mono ?_
        rintro e_ w_ ⟨rfl, rfl⟩
        go_wp2
        refine leaves_cons (f := 26) (args := #[.pointer (some ⟨w.heap.size, 0, none⟩)]) (by simp) (by simp [go_sem]) ?_
        refine (idle_cut ⟨w.heap.size, 0, none⟩ _).mono ?_
        rintro e u' w'' ⟨rfl, rfl, rfl⟩
        simp [Leaves, settle, results, Try.results17, go_sem]
        exact ⟨rfl, .same (H.out.to (bel_alloc (Below.refl _ _) _)) ((Moves.refl _ _ _).alloc _)⟩
      · have g1 : decide (n < 0) = false := decide_eq_false h2
        have h3 : (D.l.length : Int) < n := by omega
        have g2 : decide ((D.l.length : Int) < n) = true := decide_eq_true h3
        go_enter_defers Try.func17, Try.ntmps17
        go_wp2_with fail
        refine (kr.out).mono ?_
        rintro e_ w_ ⟨rfl, rfl⟩
        go_wp2
        refine leaves_cons (f := 26) (args := #[.pointer (some ⟨w.heap.size, 0, none⟩)]) (by simp) (by simp [go_sem]) ?_
        refine (idle_cut ⟨w.heap.size, 0, none⟩ _).mono ?_
        rintro e u' w'' ⟨rfl, rfl, rfl⟩
        simp [Leaves, settle, results, Try.results17, go_sem]
        exact ⟨rfl, .same (H.out.to (bel_alloc (Below.refl _ _) _)) ((Moves.refl _ _ _).alloc _)⟩
    · obtain ⟨k, rfl⟩ : ∃ k : Nat, n = (k : Int) := ⟨n.toNat, by omega⟩
      have hkl : k ≤ D.l.length := by omega
      have g1 : decide ((k : Int) < 0) = false := decide_eq_false (by omega)
      have g2 : decide ((D.l.length : Int) < (k : Int)) = false := decide_eq_false (by omega)
      have HOK := Lib.hid (Dk.cut_ok h.ok (k : Int))
      have HL := Lib.hid (Dk.sparked_l D)
      have hcap : D.l.length ≤ c := (own_nil_c h.own).2
      have HS : Hid (D.cut (k : Int) = if (Dk.sparked D).2 = true then ({ (Dk.sparked D).1 with l := (Dk.sparked D).1.l.take k, safe := min (Dk.sparked D).1.safe k }, 0) else ((Dk.sparked D).1, 6)) := Lib.hid (by unfold Dk.cut; rw [if_neg (by rw [ho]; decide), if_neg h1, Int.toNat_natCast])
      cases hb : D.sparked.2
      · have ks := Lib.hid (spark_no (D1 := D.sparked.1) (h.to (bel_alloc (Below.refl _ _) (.cells #[.int .i64 0] 25))) (by rw [← hb]))
        rw [hb] at HS
        rw [show D.cut (k : Int) = (D.sparked.1, 6) from HS.out]
        clear h ho hb h1
        go_enter_defers Try.func17, Try.ntmps17
        go_wp2_with fail
        refine (kr.out).mono ?_
        rintro e_ w_ ⟨rfl, rfl⟩
        go_wp2_with fail
        refine (ks.out).mono ?_
        rintro e_ w1 ⟨rfl, h1, o1⟩
        have r1 := RowAt.only RV.out o1 hne
        have c1 := r1.cells 0
        have f1 := r1.frozen 0
        refine leaves_cons (f := 26) (args := #[.pointer (some ⟨w.heap.size, 0, none⟩)]) (by simp) (by simp [go_sem]) ?_
        refine (catch_cut ⟨w.heap.size, 0, none⟩ 0 _ _ [] _ c1 f1).mono ?_
        rintro e u' w'' ⟨rfl, rfl, rfl⟩
        have c6 : (w1.setCell ⟨w.heap.size, 0, none⟩ (.int .i64 6)).cell? ⟨w.heap.size, 0, none⟩ = some (.int .i64 6) := (r1.set 0 (.int .i64 6)).cells 0
        simp [Leaves, settle, results, Try.results17, go_sem, c6]
        exact ⟨rfl, .same (h1.other ((Only.refl _ _).set _) hne (fun p hp => by have := hAl p hp; omega)) ((((Moves.refl _ _ _).alloc _).trans (.inl rfl) (.of_only o1)).set (Nat.le_refl _) _)⟩
      · have ks := Lib.hid (spark_ok (D1 := D.sparked.1) (h.to (bel_alloc (Below.refl _ _) (.cells #[.int .i64 0] 25))) (by rw [← hb]))
        rw [hb] at HS
        obtain ⟨j, hj⟩ : ∃ j, min D.sparked.1.safe k = j := ⟨_, rfl⟩
        have HD : Hid (D.cut (k : Int) = ({ D.sparked.1 with l := D.sparked.1.l.take k, safe := j }, 0)) := Lib.hid (by rw [HS.out, ← hj]; rfl)
        rw [HD.out] at HOK ⊢
        have hjm : min (D.sparked.1.safe : Int) (k : Int) = (j : Int) := by omega
        clear h ho hb h1 HS hj
        go_enter_defers Try.func17, Try.ntmps17
        go_wp2_with fail
        refine (kr.out).mono ?_
        rintro e_ w_ ⟨rfl, rfl⟩
        go_wp2_with fail
        refine (ks.out).mono ?_
        rintro e_ w1 ⟨rfl, h1, o1⟩
        have r1 := RowAt.only RV.out o1 hne
        have c1 : w1.cell? ⟨w.heap.size, 0, none⟩ = some (.int .i64 0) := r1.cells 0
        have f1 := r1.frozen 0
        have c2 : w1.cell? ⟨g, 2, none⟩ = some (.slice A D.sparked.1.l.length c) := h1.row.cells 2
        rw [HL.out.1] at c2
        have c3 : w1.cell? ⟨g, 3, none⟩ = some (.int .i64 (D.sparked.1.safe : Int)) := h1.row.cells 3
        have f2 := h1.row.frozen 2
        have f3 := h1.row.frozen 3
        have H1 := Lib.hid h1
        have O1 := Lib.hid o1
        clear h1 o1 r1
        have hk0 : (0 : Int) ≤ (k : Int) := by omega
        have hkc : (k : Int) ≤ (c : Int) := by omega
        go_wp2
        obtain ⟨w2, hw2⟩ : ∃ w2, w2 = (w1.setCell ⟨g, 2, none⟩ (.slice A k c)).setCell ⟨g, 3, none⟩ (.int .i64 (j : Int)) := ⟨_, rfl⟩
        have o3 : Only g w1 w2 := by rw [hw2]; exact ((Only.refl _ _).set _).set _
        have h3 : DkAt w2 B g A c { D.sparked.1 with l := D.sparked.1.l.take k, safe := j } := by
          refine H1.out.cut (k := k) o3 ?_ rfl (by rw [HL.out.1]; exact hkl) HOK.out
          have hr := (H1.out.row.set 2 (.slice A k c)).set 3 (.int .i64 (j : Int))
          have hlk : (D.sparked.1.l.take k).length = k := by rw [List.length_take, HL.out.1]; omega
          rw [← hw2] at hr
          simp only [Dk.C, hlk]
          simpa using hr
        rw [← hw2]
        refine leaves_cons (f := 26) (args := #[.pointer (some ⟨w.heap.size, 0, none⟩)]) (by simp) (by simp [go_sem]) ?_
        refine (idle_cut ⟨w.heap.size, 0, none⟩ _).mono ?_
        rintro e u' w'' ⟨rfl, rfl, rfl⟩
        have c6 : (w2.setCell ⟨w.heap.size, 0, none⟩ (.int .i64 0)).cell? ⟨w.heap.size, 0, none⟩ = some (.int .i64 0) := (((RowAt.only RV.out O1.out hne).only o3 hne).set 0 (.int .i64 0)).cells 0
        simp [Leaves, settle, results, Try.results17, go_sem, c6]
        exact ⟨rfl, .same (h3.other ((Only.refl _ _).set _) hne (fun p hp => by have := hAl p hp; omega)) (((((Moves.refl _ _ _).alloc _).trans (.inl rfl) (.of_only O1.out)).trans (.inl rfl) (.of_only o3)).set (Nat.le_refl _) _)⟩
  · have HS : Hid (D.cut n = (D, 6)) := Lib.hid (by unfold Dk.cut; rw [if_pos ho])
    rw [ho] at kr
    have H := Lib.hid h
    rw [HS.out]
    clear h ho
    go_enter_defers Try.func17, Try.ntmps17
    go_wp2_with fail
    refine (kr.out).mono ?_
    rintro e_ w_ ⟨rfl, rfl⟩
    go_wp2
    refine leaves_cons (f := 26) (args := #[.pointer (some ⟨w.heap.size, 0, none⟩)]) (by simp) (by simp [go_sem]) ?_
    refine (idle_cut ⟨w.heap.size, 0, none⟩ _).mono ?_
    rintro e u' w'' ⟨rfl, rfl, rfl⟩
    simp [Leaves, settle, results, Try.results17, go_sem]
    exact ⟨rfl, .same (H.out.to (bel_alloc (Below.refl _ _) _)) ((Moves.refl _ _ _).alloc _)⟩
end
end Go.Proofs.Ytalaobpehkgilaa
