/- A disk in memory: how it lies; made, ready, spark, and what it tells of itself. -/
import Derived.Test.YtalaobpehkgilaaCopyB
import Derived.Test.YtalaobpehkgilaaRowC
import Derived.Test.YtalaobpehkgilaaDkLaw
import Derived.Defers
import Derived.Recover
import Derived.LaidEqlPtr
import Derived.Laws.Pointers
namespace Go.Proofs.Ytalaobpehkgilaa
open Go.RowKit
set_option linter.unusedVariables false
attribute [local go_sem] Later.cell Later.frozen setCell_twice
abbrev Dk.C (g : Nat) (A : Option Addr) (c : Nat) (D : Dk) : List Value := [.pointer (some ⟨g, 0, none⟩), .int .i64 (D.room : Int), .slice A D.l.length c, .int .i64 (D.safe : Int), .bool D.left.isSome, .int .i64 ((D.left.getD 0 : Nat) : Int), .bool D.off]
/-- block g is the disk D; its bytes are the call's own row (slice A, capacity c), in blocks from B on -/
structure DkAt (w : World) (B g : Nat) (A : Option Addr) (c : Nat) (D : Dk) : Prop where
  row : RowAt w g 51 (D.C g A c)
  own : w.ownsRow B 5 1 (.slice A D.l.length c) D.l.length (D.l.map byw)
  base : B ≤ g
  ok : D.Ok
  ne : ∀ p, A = some p → p.block ≠ g
/-- block g, and the one that A lies in, may be others; and there may be new ones -/
structure Moves (g : Nat) (A : Option Addr) (w w' : World) : Prop where
  os : w'.os = w.os
  tape : w'.tape = w.tape
  output : w'.output = w.output
  size : w.heap.size ≤ w'.heap.size
  block : ∀ k, k < w.heap.size → k ≠ g → (∀ p, A = some p → p.block ≠ k) → w'.heap[k]? = w.heap[k]?
section
variable {w w' w'' : World} {B g c : Nat} {A : Option Addr} {D : Dk}
theorem DkAt.to (h : DkAt w B g A c D) (k : Below w.heap.size w w') : DkAt w' B g A c D := ⟨h.row.to k, own_below h.own k, h.base, h.ok, h.ne⟩
theorem DkAt.lt (h : DkAt w B g A c D) : g < w.heap.size := h.row.lt
theorem own_at {e n m : Nat} {l : List Value} (h : w.ownsRow B e 1 (.slice A n m) n l) : ∀ p, A = some p → B ≤ p.block ∧ p.block < w.heap.size ∧ p.off = 0 := fun p hp => by
  rcases h.2 with ⟨h1, _⟩ | ⟨g', cap, cur, hv, hg, hh, _⟩
  · obtain ⟨rfl, _⟩ : A = none ∧ _ := by simpa using h1
    cases hp
  · obtain ⟨rfl, _⟩ : A = some ⟨g', 0, none⟩ ∧ _ := by simpa using hv
    cases hp
    exact ⟨hg, (Array.getElem?_eq_some_iff.1 hh).1, rfl⟩
theorem Moves.refl (g : Nat) (A : Option Addr) (w : World) : Moves g A w w := ⟨rfl, rfl, rfl, Nat.le_refl _, fun _ _ _ _ => rfl⟩
theorem Moves.of_only (k : Only g w w') : Moves g A w w' := ⟨k.os, k.tape, k.output, Nat.le_of_eq k.size.symm, fun j _ hj _ => k.block j hj⟩
theorem Moves.of_below (k : Below w.heap.size w w') : Moves g A w w' := ⟨k.os, k.tape, k.output, k.size, fun j hj _ _ => k.block j hj⟩
theorem Moves.trans {A' : Option Addr} (h : Moves g A w w') (hA : A' = A ∨ ∀ p, A' = some p → w.heap.size ≤ p.block) (k : Moves g A' w' w'') : Moves g A w w'' :=
  ⟨k.os.trans h.os, k.tape.trans h.tape, k.output.trans h.output, Nat.le_trans h.size k.size, fun j hj hg ha =>
    (k.block j (Nat.lt_of_lt_of_le hj h.size) hg (fun p hp => by
      rcases hA with rfl | hA
      · exact ha p hp
      · have := hA p hp; omega)).trans (h.block j hj hg ha)⟩
theorem Moves.below (h : Moves g A w w') (hg : B ≤ g) (hA : ∀ p, A = some p → B ≤ p.block) (hB : B ≤ w.heap.size) : Below B w w' :=
  ⟨h.os, h.tape, h.output, h.size, fun k hk => h.block k (by omega) (by omega) (fun p hp => by have := hA p hp; omega)⟩
theorem DkAt.moves (h : DkAt w B g A c D) (k : Moves g A w w') : Below B w w' := k.below h.base (fun p hp => (own_at h.own p hp).1) (Nat.le_of_lt (Nat.lt_of_le_of_lt h.base h.lt))
theorem Moves.own {B' e n m : Nat} {A' : Option Addr} {l : List Value} (k : Moves g A w w') (h : w.ownsRow B' e 1 (.slice A' n m) n l) (h1 : ∀ p, A' = some p → p.block ≠ g) (h2 : ∀ p q, A' = some p → A = some q → q.block ≠ p.block) : w'.ownsRow B' e 1 (.slice A' n m) n l := by
  refine ⟨h.1, ?_⟩
  rcases h.2 with h0 | ⟨g', cap, cur, hv, hg, hh, r⟩
  · exact .inl h0
  · obtain ⟨rfl, _⟩ : A' = some ⟨g', 0, none⟩ ∧ _ := by simpa using hv
    exact .inr ⟨g', cap, cur, hv, hg, (k.block g' (Array.getElem?_eq_some_iff.1 hh).1 (h1 _ rfl) (fun q hq => h2 _ q rfl hq)).trans hh, r⟩
theorem Moves.row {b : Nat} {T : TypeId} {C : List Value} (k : Moves g A w w') (h : RowAt w b T C) (h1 : b ≠ g) (h2 : ∀ p, A = some p → p.block ≠ b) : RowAt w' b T C := (k.block b h.lt h1 h2).trans h
/-- what an operation that changes the disk leaves -/
def Dur (w : World) (B g : Nat) (A : Option Addr) (D : Dk) (w' : World) : Prop :=
  ∃ A' c', DkAt w' B g A' c' D ∧ Moves g A w w' ∧ (A' = A ∨ ∀ p, A' = some p → w.heap.size ≤ p.block)
end
theorem size_disk : (Try.prog.info? 51).map (·.size) = some 7 := by kernel_rfl
theorem ptr_same (a : Addr) (w : World) : (binOp .eql 24 (.pointer (some a)) (.pointer (some a))).run Try.prog w = .ok (.bool true) w := by
  obtain ⟨j, hj, _⟩ := Option.map_eq_some_iff.1 size_disk
  exact run_eql_ptr_same w a Try.underlying24 hj
theorem ptr_nil_some (a : Addr) (w : World) : (binOp .eql 24 (.pointer none) (.pointer (some a))).run Try.prog w = .ok (.bool false) w := by
  have h : ∀ d : Nat, (Op.equalIn (d + 1) 24 (.pointer none) (.pointer (some a))).run Try.prog w = .ok false w := fun d => by
    simp [Op.equalIn, run_underlying Try.underlying24]
  simp only [binOp]
  simp [Op.equal, Op.maxDepth, h 9999]
set_option maxHeartbeats 200000 in
theorem made_yes {w : World} {B g c : Nat} {A : Option Addr} {D : Dk} (h : DkAt w B g A c D) : Calls Try.prog 24 #[.pointer (some ⟨g, 0, none⟩)] w fun e w' => e = .returned (.bool true) ∧ w = w' := by
  have c0 : w.cell? ⟨g, 0, none⟩ = some (.pointer (some ⟨g, 0, none⟩)) := h.row.cells 0
  have hp := ptr_same
  go_enter Try.func24, Try.ntmps24
  go_wp2
  go_ret
  exact ⟨rfl, rfl⟩
theorem made_nil (w : World) : Calls Try.prog 24 #[.pointer none] w fun e w' => e = .returned (.bool false) ∧ w = w' := by
  go_enter Try.func24, Try.ntmps24
  go_wp2
  go_ret
  exact ⟨rfl, rfl⟩
theorem made_no {w : World} {g : Nat} (c0 : w.cell? ⟨g, 0, none⟩ = some (.pointer none)) : Calls Try.prog 24 #[.pointer (some ⟨g, 0, none⟩)] w fun e w' => e = .returned (.bool false) ∧ w = w' := by
  have hp := ptr_nil_some
  go_enter Try.func24, Try.ntmps24
  go_wp2
  go_ret
  exact ⟨rfl, rfl⟩
theorem ready_any {w : World} {B g c : Nat} {A : Option Addr} {D : Dk} (h : DkAt w B g A c D) : Calls Try.prog 27 #[.pointer (some ⟨g, 0, none⟩)] w fun e w' => e = .returned (.int .i64 (if D.off = true then 6 else 0)) ∧ w = w' := by
  have km := Lib.hid (made_yes h)
  have c6 : w.cell? ⟨g, 6, none⟩ = some (.bool D.off) := h.row.cells 6
  clear h
  cases hd : D.off
  · rw [hd] at c6
    go_enter Try.func27, Try.ntmps27
    go_wp2_with fail
    refine (km.out).mono ?_
    rintro e_ w_ ⟨rfl, rfl⟩
    go_wp2
    go_ret
    exact ⟨rfl, rfl⟩
  · rw [hd] at c6
    go_enter Try.func27, Try.ntmps27
    go_wp2_with fail
    refine (km.out).mono ?_
    rintro e_ w_ ⟨rfl, rfl⟩
    go_wp2
    go_ret
    exact ⟨rfl, rfl⟩
theorem ready_no (p : Option Addr) {w : World} (km : Calls Try.prog 24 #[.pointer p] w fun e w' => e = .returned (.bool false) ∧ w = w') : Calls Try.prog 27 #[.pointer p] w fun e w' => e = .returned (.int .i64 1) ∧ w = w' := by
  have km := Lib.hid km
  go_enter Try.func27, Try.ntmps27
  go_wp2_with fail
  refine (km.out).mono ?_
  rintro e_ w_ ⟨rfl, rfl⟩
  go_wp2
  go_ret
  exact ⟨rfl, rfl⟩
end Go.Proofs.Ytalaobpehkgilaa
