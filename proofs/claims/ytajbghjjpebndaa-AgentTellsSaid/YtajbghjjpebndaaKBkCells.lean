/- The walk of bank.Cells. -/
import Derived.Test.YtajbghjjpebndaaQ22
import Derived.Test.YtajbghjjpebndaaQ10
namespace Go.Proofs.Ytajbghjjpebndaa
set_option maxRecDepth 100000
open Go.RowKit
set_option linter.unusedVariables false
attribute [local go_sem] Later.cell Later.frozen setCell_twice
namespace Bk
def mark (l : List Pr) : List Bool := (List.range 64).map fun i => (last l i).isSome
theorem mark_length (l : List Pr) : (mark l).length = 64 := by simp [mark]
theorem mark_get (l : List Pr) {i : Nat} (h : i < 64) : (mark l)[i]? = some (last l i).isSome := by simp [mark, h]
theorem mark_nil : mark [] = List.replicate 64 false := by decide
/-- one word more of the last block -/
theorem mark_more {l : List Pr} {a : Nat} {ws : List Nat} {j : Nat} (hj : j < ws.length) (h : a + ws.length ≤ 64) : (mark (l ++ [((a : Int), ws.take j)])).set (a + j) true = mark (l ++ [((a : Int), ws.take (j + 1))]) := by
  apply List.ext_getElem?
  intro i
  rw [List.getElem?_set, mark_length]
  by_cases hi : i < 64
  · rw [mark_get _ hi, mark_get _ hi, last_snoc, last_snoc]
    have h1 : hits ((a : Int), ws.take j) i = decide (a ≤ i ∧ i < a + j) := by simp only [hits, List.length_take]; rw [decide_eq_decide]; omega
    have h2 : hits ((a : Int), ws.take (j + 1)) i = decide (a ≤ i ∧ i < a + (j + 1)) := by simp only [hits, List.length_take]; rw [decide_eq_decide]; omega
    rw [h1, h2]
    by_cases he : a + j = i
    · rw [if_pos he, if_pos (by omega), if_pos (by simp; omega)]; rfl
    · rw [if_neg he]
      by_cases hd : a ≤ i ∧ i < a + j
      · rw [if_pos (by simpa using hd), if_pos (by simp; omega)]; rfl
      · rw [if_neg (by simpa using hd), if_neg (by simp; omega)]
  · rw [if_neg (by omega), List.getElem?_eq_none (by rw [mark_length]; omega), List.getElem?_eq_none (by rw [mark_length]; omega)]
theorem mark_none (l : List Pr) (a : Int) (ws : List Nat) : mark (l ++ [(a, ws.take 0)]) = mark l := by
  unfold mark
  apply List.map_congr_left
  intro i _
  rw [last_snoc, if_neg (by simp [hits])]
end Bk
abbrev mks (l : List Bk.Pr) : List Value := (Bk.mark l).map Value.bool
def CellsP (l : List Bk.Pr) (w : World) (e : Ending) (w' : World) : Prop :=
  Below w.heap.size w w' ∧ if Bk.fit l = true then ∃ A c, e = .returned (.tuple #[.slice A (Bk.cells l).length c, .int .i64 0]) ∧ w'.ownsRow w.heap.size 3 1 (.slice A (Bk.cells l).length c) (Bk.cells l).length ((Bk.cells l).map fun x : Nat => .int .i64 x) else e = .returned (.tuple #[.slice none 0 0, .int .i64 20])
theorem info_int : (Try.prog.info? 3).map (fun i => (i.zero, i.size, i.bytes)) = some (some (.int .i64 0), 1, 8) := by kernel_rfl
theorem info_bool : (Try.prog.info? 4).map (fun i => (i.zero, i.size, i.bytes)) = some (some (.bool false), 1, 1) := by kernel_rfl
theorem one1 (w : World) (x : Value) (t : TypeId) : ∀ (j : Nat) (u : Value), [x][j]? = some u → (w.alloc (.cells #[x] t)).cell? ((⟨w.heap.size, 0, none⟩ : Addr).add j) = some u := by
  intro j u hu
  cases j with
  | zero => simp at hu; subst hu; simp [go_sem]
  | succ j => simp at hu
theorem one_i64 (a : Int) : ∀ u ∈ [Value.int .i64 a], u.oneCell' = true := by simp [Value.oneCell']
end Go.Proofs.Ytajbghjjpebndaa
