/- A disk: spark; New, Len, Safe, Room, Off, Sparks. -/
import Derived.Test.YtalaobpehkgilaaDisk
import Derived.IntWalk
namespace Go.Proofs.Ytalaobpehkgilaa
open Go.RowKit
set_option linter.unusedVariables false
attribute [local go_sem] Later.cell Later.frozen setCell_twice
section
variable {w : World} {B g c : Nat} {A : Option Addr} {D : Dk}
theorem Only.own_ne {w' : World} {e n m B' : Nat} {A' : Option Addr} {l : List Value} (k : Only g w w') (h : w.ownsRow B' e 1 (.slice A' n m) n l) (h1 : ∀ p, A' = some p → p.block ≠ g) : w'.ownsRow B' e 1 (.slice A' n m) n l := by
  refine ⟨h.1, ?_⟩
  rcases h.2 with h0 | ⟨g', cap, cur, hv, hg, hh, r⟩
  · exact .inl h0
  · obtain ⟨rfl, _⟩ : A' = some ⟨g', 0, none⟩ ∧ _ := by simpa using hv
    exact .inr ⟨g', cap, cur, hv, hg, (k.block g' (h1 _ rfl)).trans hh, r⟩
theorem DkAt.turn {w' : World} {D' : Dk} (h : DkAt w B g A c D) (k : Only g w w') (hr : RowAt w' g 51 (D'.C g A c)) (hl : D'.l = D.l) (hk : D'.Ok) : DkAt w' B g A c D' :=
  ⟨hr, by rw [hl]; exact k.own_ne h.own h.ne, h.base, hk, h.ne⟩
def SparkP (w : World) (B g : Nat) (A : Option Addr) (c : Nat) (D : Dk) (e : Ending) (w' : World) : Prop :=
  e = (if (D.sparked).2 = true then .returned (.tuple #[]) else .panicked [{ v := .iface 73 (.agg #[]), recovered := false }]) ∧ DkAt w' B g A c (D.sparked).1 ∧ Only g w w'
set_option maxHeartbeats 200000 in
theorem spark_any (h : DkAt w B g A c D) : Calls Try.prog 28 #[.pointer (some ⟨g, 0, none⟩)] w (SparkP w B g A c D) := by
  have H := Lib.hid h
  have hk := Dk.sparked_ok h.ok
  have HK := Lib.hid hk
  have c4 : w.cell? ⟨g, 4, none⟩ = some (.bool D.left.isSome) := h.row.cells 4
  have c5 : w.cell? ⟨g, 5, none⟩ = some (.int .i64 ((D.left.getD 0 : Nat) : Int)) := h.row.cells 5
  have c6 : w.cell? ⟨g, 6, none⟩ = some (.bool D.off) := h.row.cells 6
  have f5 := h.row.frozen 5
  have f6 := h.row.frozen 6
  clear hk h
  unfold SparkP
  cases hl : D.left with
  | none =>
    have hs : D.sparked = (D, true) := by unfold Dk.sparked; rw [hl]
    have HS := Lib.hid hs
    rw [hl] at c4
    clear hs hl
    rw [HS.out]
    go_enter Try.func28, Try.ntmps28
    go_wp2
    refine bodyPost_ret (results_none rfl _ _ _) rfl ?_
    exact ⟨rfl, H.out, Only.refl _ _⟩
  | some k =>
    cases k with
    | zero =>
      have hs : D.sparked = ({ D with off := true }, false) := by unfold Dk.sparked; rw [hl]
      rw [hl] at c4 c5
      have HS := Lib.hid hs
      clear hs
      rw [HS.out]
      go_enter Try.func28, Try.ntmps28
      go_wp2
      have hr := H.out.row.set 6 (.bool true)
      have hk := HK.out
      rw [HS.out] at hk
      dsimp only at hk
      rw [hl] at hk
      refine ⟨rfl, rfl, H.out.turn ((Only.refl _ _).set _) ?_ rfl hk, (Only.refl _ _).set _⟩
      simpa [hl, Dk.C] using hr
    | succ k =>
      have hs : D.sparked = ({ D with left := some k }, true) := by unfold Dk.sparked; rw [hl]
      rw [hl] at c4 c5
      have HS := Lib.hid hs
      clear hs
      rw [HS.out]
      have g0 : (((k : Nat) : Int) + 1 == 0) = false := beq_eq_false_iff_ne.2 (by omega)
      have hkb : (k : Int) ≤ 9223372036854775807 := by have := H.out.ok.left _ hl; omega
      go_enter Try.func28, Try.ntmps28
      go_wp2
      have hr := H.out.row.set 5 (.int .i64 (k : Int))
      have hk := HK.out
      rw [HS.out] at hk
      refine bodyPost_end (results_none rfl _ _ _) rfl ⟨rfl, H.out.turn ((Only.refl _ _).set _) ?_ rfl hk, (Only.refl _ _).set _⟩
      simpa [hl, Dk.C] using hr
end
end Go.Proofs.Ytalaobpehkgilaa
