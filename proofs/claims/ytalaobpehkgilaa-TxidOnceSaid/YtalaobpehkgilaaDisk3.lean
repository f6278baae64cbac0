/- A disk: New, Off, Sparks (for a seat without the others). -/
import Derived.Test.YtalaobpehkgilaaDisk2
namespace Go.Proofs.Ytalaobpehkgilaa
open Go.RowKit
set_option linter.unusedVariables false
attribute [local go_sem] Later.cell Later.frozen setCell_twice
set_option maxHeartbeats 200000 in
theorem new_bad (room : Int) (w : World) (h : room < 0 ∨ 262144 < room) : Calls Try.prog 4 #[.int .i64 room] w fun e w' => e = .returned (.tuple #[.pointer none, .int .i64 2]) ∧ w = w' := by
  by_cases h1 : room < 0
  · clear h
    go_enter Try.func4, Try.ntmps4
    go_wp2
    go_ret2
    exact ⟨rfl, rfl⟩
  have g1 : decide (room < 0) = false := decide_eq_false h1
  have h2 : 262144 < room := by omega
  have g2 : decide (262144 < room) = true := decide_eq_true h2
  clear h h1
  go_enter Try.func4, Try.ntmps4
  go_wp2
  go_ret2
  exact ⟨rfl, rfl⟩
set_option maxHeartbeats 200000 in
theorem new_any (r : Nat) (w : World) (hr : r ≤ 262144) : Calls Try.prog 4 #[.int .i64 (r : Int)] w fun e w' => e = .returned (.tuple #[.pointer (some ⟨w.heap.size, 0, none⟩), .int .i64 0]) ∧ DkAt w' w.heap.size w.heap.size none 0 (Dk.new r) ∧ Below w.heap.size w w' := by
  have hr' := Lib.hid hr
  have g1 : decide ((r : Int) < 0) = false := decide_eq_false (by omega)
  have g2 : decide (262144 < (r : Int)) = false := decide_eq_false (by omega)
  clear hr
  go_enter Try.func4, Try.ntmps4
  go_wp2
  go_ret2
  refine ⟨rfl, ⟨?_, World.ownsRow_nil _ _ _ _, Nat.le_refl _, ⟨Nat.le_refl _, Nat.zero_le _, by simpa [Dk.new] using hr'.out, (fun k hk => by cases hk), (fun x hx => by cases hx)⟩, (fun p hp => by cases hp)⟩, (by repeat (first | with_reducible exact Below.refl _ _ | with_reducible refine bel_later _ ?_ | with_reducible refine bel_alloc ?_ _ | refine bel_set ?_ (by first | omega | (simp; done) | (simp; omega)) _ | with_reducible refine Below.drew ?_ | with_reducible refine bel_drewN ?_ _ | with_reducible assumption | assumption))⟩
  have := RowAt.new w 51 [.pointer (some ⟨w.heap.size, 0, none⟩), .int .i64 (r : Int), .slice none 0 0, .int .i64 0, .bool false, .int .i64 0, .bool false]
  simpa [Dk.C, Dk.new] using this
section
variable {w : World} {B g c : Nat} {A : Option Addr} {D : Dk}
theorem off_any (h : DkAt w B g A c D) : Calls Try.prog 12 #[.pointer (some ⟨g, 0, none⟩)] w fun e w' => e = .returned (.bool D.off) ∧ w = w' := by
  have km := Lib.hid (made_yes h)
  have c6 : w.cell? ⟨g, 6, none⟩ = some (.bool D.off) := h.row.cells 6
  clear h
  go_enter Try.func12, Try.ntmps12
  go_wp2_with fail
  refine (km.out).mono ?_
  rintro e_ w_ ⟨rfl, rfl⟩
  go_wp2
  go_ret
  exact ⟨rfl, rfl⟩
theorem sparks_any (h : DkAt w B g A c D) (n : Int) (hn : n ≤ 9223372036854775807) : Calls Try.prog 8 #[.pointer (some ⟨g, 0, none⟩), .int .i64 n] w fun e w' => e = .returned (.tuple #[]) ∧ DkAt w' B g A c (D.sparks n) ∧ Only g w w' := by
  have km := Lib.hid (made_yes h)
  have H := Lib.hid h
  have c4 : w.cell? ⟨g, 4, none⟩ = some (.bool D.left.isSome) := h.row.cells 4
  have c5 : w.cell? ⟨g, 5, none⟩ = some (.int .i64 ((D.left.getD 0 : Nat) : Int)) := h.row.cells 5
  have f4 := h.row.frozen 4
  have f5 := h.row.frozen 5
  have hk := Lib.hid (Dk.sparks_ok h.ok hn)
  clear h
  have H2 := Lib.hid ((H.out.row.set 4 (.bool (decide (0 ≤ n)))).set 5 (.int .i64 (max n 0)))
  by_cases hn0 : n < 0
  · have e1 : Hid ((D.sparks n).left = none) := Lib.hid (by simp [Dk.sparks, hn0])
    have e2 : Hid (max n 0 = 0) := Lib.hid (by omega)
    have e3 : decide (0 ≤ n) = false := decide_eq_false (by omega)
    have E3 := Lib.hid e3
    go_enter Try.func8, Try.ntmps8
    go_wp2_with fail
    refine (km.out).mono ?_
    rintro e_ w_ ⟨rfl, rfl⟩
    go_wp2
    refine bodyPost_end (results_none rfl _ _ _) rfl ⟨rfl, H.out.turn (((Only.refl _ _).set _).set _) ?_ rfl hk.out, ((Only.refl _ _).set _).set _⟩
    have h2 := H2.out
    rw [e2.out, E3.out] at h2
    simp only [Dk.C, e1.out]
    simpa [Dk.C, Dk.sparks] using h2
  · have e1 : Hid ((D.sparks n).left = some n.toNat) := Lib.hid (by simp [Dk.sparks, hn0])
    have e2 : Hid (max n 0 = n) := Lib.hid (by omega)
    have e3 : decide (0 ≤ n) = true := decide_eq_true (by omega)
    have e4 : Hid (((n.toNat : Nat) : Int) = n) := Lib.hid (by omega)
    have E3 := Lib.hid e3
    go_enter Try.func8, Try.ntmps8
    go_wp2_with fail
    refine (km.out).mono ?_
    rintro e_ w_ ⟨rfl, rfl⟩
    go_wp2
    refine bodyPost_end (results_none rfl _ _ _) rfl ⟨rfl, H.out.turn (((Only.refl _ _).set _).set _) ?_ rfl hk.out, ((Only.refl _ _).set _).set _⟩
    have h2 := H2.out
    rw [e2.out, E3.out] at h2
    simp only [Dk.C, e1.out, Option.getD_some, e4.out]
    simpa [Dk.C, Dk.sparks] using h2
end
end Go.Proofs.Ytalaobpehkgilaa
