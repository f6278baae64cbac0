/- Plain laws of blocks: cut anywhere; the cells one by one. -/
import Derived.Test.YtkilpiiljpeamaaApartLaw
namespace Go.Proofs.Ytkilpiiljpeamaa.Bk
theorem over_cut (bank : List Nat) (l : List Pr) (k : Nat) : over (over bank (l.take k)) (l.drop k) = over bank l := by
  rw [over_over, List.take_append_drop]
theorem cells_nodup (l : List Pr) : (cells l).Nodup := (List.filter_sublist).nodup List.nodup_range
theorem mem_cells {l : List Pr} {x : Nat} : x ∈ cells l ↔ x < 64 ∧ (last l x).isSome = true := by
  unfold cells
  rw [List.mem_filter, List.mem_range]
theorem cells_fresh {l : List Pr} {k c : Nat} (h : (cells l)[k]? = some c) : c ∉ (cells l).take k := by
  intro hm
  obtain ⟨i, hi, he⟩ := List.getElem_of_mem hm
  rw [List.length_take] at hi
  rw [List.getElem_take] at he
  obtain ⟨hk, hc⟩ := List.getElem?_eq_some_iff.1 h
  have := (List.getElem_inj (cells_nodup l)).1 (he.trans hc.symm)
  omega
theorem take_snoc {α : Type} {l : List α} {k : Nat} {c : α} (h : l[k]? = some c) : l.take (k + 1) = l.take k ++ [c] := by
  rw [List.take_add_one, h]
  rfl
/-- 1 if blocks say a word of an address -/
def one (l : List Pr) (i : Nat) : Nat := if (last l i).isSome = true then 1 else 0
/-- what they say, or the word that is there -/
def say (l : List Pr) (i d : Nat) : Nat := (last l i).getD d
theorem one_nil (i : Nat) : one [] i = 0 := rfl
theorem say_nil (i d : Nat) : say [] i d = d := rfl
theorem one_hit {l : List Pr} {k : Nat} {p : Pr} (h : l[k]? = some p) {i : Nat} (hi : hits p i = true) : one (l.take (k + 1)) i = 1 := by
  unfold one
  rw [last_take_succ h, if_pos hi]
  rfl
theorem say_hit {l : List Pr} {k : Nat} {p : Pr} (h : l[k]? = some p) {i d : Nat} (hi : hits p i = true) : say (l.take (k + 1)) i d = p.2.getD ((i : Int) - p.1).toNat 0 := by
  unfold say
  rw [last_take_succ h, if_pos hi]
  rfl
theorem one_miss {l : List Pr} {k : Nat} {p : Pr} (h : l[k]? = some p) {i : Nat} (hi : hits p i = false) : one (l.take (k + 1)) i = one (l.take k) i := by
  unfold one
  rw [last_take_succ h, hi]
  rfl
theorem say_miss {l : List Pr} {k : Nat} {p : Pr} (h : l[k]? = some p) {i d : Nat} (hi : hits p i = false) : say (l.take (k + 1)) i d = say (l.take k) i d := by
  unfold say
  rw [last_take_succ h, hi]
  rfl
theorem one_cells {l : List Pr} {i : Nat} (hi : i < 64) : (if i ∈ cells l then 1 else 0) = one l i := by
  unfold one
  by_cases h : (last l i).isSome = true
  · rw [if_pos h, if_pos (mem_cells.2 ⟨hi, h⟩)]
  · rw [if_neg h, if_neg (fun hm => h (mem_cells.1 hm).2)]
theorem over_say {bank : List Nat} {l : List Pr} {i : Nat} (h : i < bank.length) : (over bank l)[i]? = some (say l i (bank.getD i 0)) := over_get bank l h
end Go.Proofs.Ytkilpiiljpeamaa.Bk
