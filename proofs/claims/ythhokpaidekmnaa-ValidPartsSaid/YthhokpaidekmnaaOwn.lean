/- Rows and variables, of whatever type: own rows, a variable known whole, one block alone changed. -/
import Derived.Test.YthhokpaidekmnaaProg
import Derived.Test.YthhokpaidekmnaaSq
import Derived.WalkLawsBesides
import Derived.WalkSpells
import Derived.Outline
import Derived.Lib.SmallJoins
import Derived.Laws.Tables
import Derived.Deep.MidRow
namespace Go.Proofs.Ythhokpaidekmnaa
open Go.RowKit
set_option linter.unusedVariables false
/-- what a function hands back that makes a row of its own (or nil) -/
def Makes {α : Type} (f : α → Value) (e : TypeId) (w : World) (l : List α) (en : Ending) (w' : World) : Prop :=
 ∃ A c, en = .returned (.slice A l.length c) ∧ w'.ownsRow w.heap.size e 1 (.slice A l.length c) l.length (l.map f) ∧ Below w.heap.size w w'
theorem Makes.of_own {α : Type} {f : α → Value} {w w' : World} {l : List α} {e : TypeId} {A : Option Addr} {n c : Nat} (hn : l.length = n) (h : w'.ownsRow w.heap.size e 1 (.slice A n c) n (l.map f)) (hb : Below w.heap.size w w') : Makes f e w l (.returned (.slice A n c)) w' := by
 subst hn
 exact ⟨A, c, rfl, h, hb⟩
theorem keep_block {W : World} {b i c j : Nat} {u v : Value} (hne : b ≠ c) (h : W.cell? ⟨c, j, none⟩ = some v) : (W.setCell ⟨b, i, none⟩ u).cell? ⟨c, j, none⟩ = some v :=
 keep_set h (fun h1 => hne (by injection h1))
theorem own_below {w w' : World} {B e size n : Nat} {v : Value} {xs : List Value} (h : w.ownsRow B e size v n xs) (hb : Below w.heap.size w w') : w'.ownsRow B e size v n xs := by
 obtain ⟨h1, h2⟩ := h
 refine ⟨h1, ?_⟩
 rcases h2 with h2 | ⟨g, cap, cur, hv, hg, hh, r⟩
 ·exact .inl h2
 ·exact .inr ⟨g, cap, cur, hv, hg, (hb.block g (Array.getElem?_eq_some_iff.1 hh).1).trans hh, r⟩
theorem own_more {w : World} {B B' e size n : Nat} {v : Value} {xs : List Value} (h : w.ownsRow B e size v n xs) (hB : B' ≤ B) : w.ownsRow B' e size v n xs := by
 obtain ⟨h1, h2⟩ := h
 refine ⟨h1, ?_⟩
 rcases h2 with h2 | ⟨g, cap, cur, hv, hg, r⟩
 ·exact .inl h2
 ·exact .inr ⟨g, cap, cur, hv, Nat.le_trans hB hg, r⟩
theorem own_cap {w : World} {base e n c : Nat} {A : Option Addr} {xs : List Value} (h : w.ownsRow base e 1 (.slice A n c) n xs) : c ≤ 9223372036854775807 := by
 rcases h.2 with ⟨h1, h0⟩ | ⟨g, cap, cur, hv, _, hh, hnc, hm, _⟩
 ·obtain ⟨rfl, rfl, rfl⟩ : A = none ∧ n = 0 ∧ c = 0 := by simpa using h1
  omega
 ·obtain ⟨rfl, rfl⟩ : A = some ⟨g, 0, none⟩ ∧ c = cap := by simpa using hv
  unfold maxLen at hm
  omega
def RowAt (w : World) (b : Nat) (T : TypeId) (C : List Value) : Prop := w.heap[b]? = some (.cells C.toArray T (0, 0))
section
variable {w w' : World} {b B : Nat} {T : TypeId} {C : List Value}
theorem RowAt.lt (h : RowAt w b T C) : b < w.heap.size := (Array.getElem?_eq_some_iff.1 h).1
theorem RowAt.cell (h : RowAt w b T C) {j : Nat} {v : Value} (hv : C[j]? = some v) : w.cell? ⟨b, j, none⟩ = some v := by
 rw [cell_of_row _ _ _ _ _ _ h]; simpa using hv
theorem RowAt.frozen (h : RowAt w b T C) (j : Nat) : w.frozen? ⟨b, j, none⟩ = false := by
 have : w.heap[b]? = some (.cells C.toArray T (0, 0)) := h
 simp [World.frozen?, this]
theorem RowAt.below (h : RowAt w b T C) (k : Below B w w') (hb : b < B) : RowAt w' b T C := (k.block b hb).trans h
theorem RowAt.to (h : RowAt w b T C) (k : Below w.heap.size w w') : RowAt w' b T C := h.below k h.lt
theorem RowAt.alloc (h : RowAt w b T C) (o : Obj) : RowAt (w.alloc o) b T C := h.to ((Below.refl _ _).alloc (Nat.le_refl _) o)
theorem RowAt.drew (h : RowAt w b T C) : RowAt w.drew b T C := h
theorem RowAt.new (w : World) (T : TypeId) (C : List Value) : RowAt (w.alloc (.cells C.toArray T)) w.heap.size T C := heap_alloc_new w _
theorem RowAt.range (h : RowAt w b T C) (o n : Nat) : w.rangeAt b o ((C.drop o).take n) := fun j v hv => by
 rw [List.getElem?_take] at hv
 split at hv
 ·rw [List.getElem?_drop] at hv
  exact h.cell hv
 ·cases hv
theorem RowAt.set (h : RowAt w b T C) (j : Nat) (v : Value) : RowAt (w.setCell ⟨b, j, none⟩ v) b T (C.set j v) := by
 have h1 : w.heap[b]? = some (.cells C.toArray T (0, 0)) := h
 unfold RowAt
 simp only [World.setCell, Array.getElem?_modify, if_true, h1]
 simp
theorem RowAt.other (h : RowAt w b T C) {g j : Nat} (hg : g ≠ b) (v : Value) : RowAt (w.setCell ⟨g, j, none⟩ v) b T C := (Below.heap_setCell _ _ _ _ (fun e => hg e.symm)).trans h
theorem RowAt.row (h : RowAt w b T C) (D : List Value) : RowAt (w.setRow b D.toArray) b T D := by
 have h1 : w.heap[b]? = some (.cells C.toArray T (0, 0)) := h
 exact setRow_heap w b _ _ T _ h1
theorem RowAt.row_other (h : RowAt w b T C) {g : Nat} (hg : g ≠ b) (D : Array Value) : RowAt (w.setRow g D) b T C := (setRow_other w g b D (fun e => hg e.symm)).trans h
end
structure Only (g : Nat) (w w' : World) : Prop where
 os : w'.os = w.os
 tape : w'.tape = w.tape
 output : w'.output = w.output
 size : w'.heap.size = w.heap.size
 block : ∀ k, k ≠ g → w'.heap[k]? = w.heap[k]?
theorem Only.refl (g : Nat) (w : World) : Only g w w := ⟨rfl, rfl, rfl, rfl, fun _ _ => rfl⟩
theorem Only.set {g i : Nat} {w w' : World} (h : Only g w w') (u : Value) : Only g w (w'.setCell ⟨g, i, none⟩ u) :=
 ⟨h.os, h.tape, h.output, by simp [World.setCell, h.size], fun k hk => (Below.heap_setCell _ _ _ _ hk).trans (h.block k hk)⟩
theorem Only.drew {g : Nat} {w w' : World} (h : Only g w w') : Only g w w'.drew := ⟨h.os, h.tape, h.output, h.size, h.block⟩
theorem Only.cell {g : Nat} {w w' : World} (h : Only g w w') {p : Addr} (hp : p.block ≠ g) : w'.cell? p = w.cell? p := World.cell?_of_block (h.block p.block hp)
theorem Only.frozen {g : Nat} {w w' : World} (h : Only g w w') {p : Addr} (hp : p.block ≠ g) : w'.frozen? p = w.frozen? p := World.frozen?_of_block (h.block p.block hp)
theorem Only.below {g B : Nat} {w w' : World} (h : Only g w w') (hB : B ≤ g) : Below B w w' := ⟨h.os, h.tape, h.output, by rw [h.size]; omega, fun k hk => h.block k (by omega)⟩
theorem Only.own {g B e n : Nat} {w w' : World} {v : Value} {xs : List Value} (h : Only g w w') (ho : w.ownsRow B e 1 v n xs) (hB : g < B) : w'.ownsRow B e 1 v n xs := by
 obtain ⟨h1, h2⟩ := ho
 refine ⟨h1, ?_⟩
 rcases h2 with h2 | ⟨g', cap, cur, hv, hg, hh, r⟩
 ·exact .inl h2
 ·exact .inr ⟨g', cap, cur, hv, hg, (h.block g' (by omega)).trans hh, r⟩
end Go.Proofs.Ythhokpaidekmnaa
