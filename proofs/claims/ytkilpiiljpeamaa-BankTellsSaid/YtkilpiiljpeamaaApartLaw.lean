/- Plain laws of blocks: two of them, and lists behind lists. -/
import Derived.Test.YtkilpiiljpeamaaBkLaw
namespace Go.Proofs.Ytkilpiiljpeamaa.Bk
theorem last_one (p : Pr) (i : Nat) : last [p] i = if hits p i = true then some (p.2.getD ((i : Int) - p.1).toNat 0) else none := last_snoc [] p i
theorem last_two (p q : Pr) (i : Nat) : last [p, q] i = (last [q] i).or (last [p] i) := last_append [p] [q] i
theorem last_one_some (p : Pr) (i : Nat) : (last [p] i).isSome = hits p i := by
  rw [last_one]
  cases hits p i <;> rfl
theorem last_two_some (p q : Pr) (i : Nat) : (last [p, q] i).isSome = (hits q i || hits p i) := by
  rw [last_two, Option.isSome_or, last_one_some, last_one_some]
theorem over_over (bank : List Nat) (l m : List Pr) : over (over bank l) m = over bank (l ++ m) := by
  apply List.ext_getElem?
  intro i
  by_cases hi : i < bank.length
  · rw [over_get _ _ (by rw [over_length]; exact hi), over_get _ _ hi, last_append, List.getD_eq_getElem?_getD, over_get _ _ hi]
    cases last m i <;> rfl
  · rw [List.getElem?_eq_none (by rw [over_length, over_length]; omega), List.getElem?_eq_none (by rw [over_length]; omega)]
theorem over_congr (bank : List Nat) {l m : List Pr} (h : ∀ i, i < bank.length → last l i = last m i) : over bank l = over bank m := by
  unfold over
  apply List.map_congr_left
  intro i hi
  rw [h i (by simpa using hi)]
theorem over_twice (bank : List Nat) (l : List Pr) : over (over bank l) l = over bank l := by
  rw [over_over]
  refine over_congr _ (fun i _ => ?_)
  rw [last_append]
  cases last l i <;> rfl
theorem over_last (bank : List Nat) (p q : Pr) : over (over bank [p, q]) [q] = over bank [p, q] := by
  rw [over_over]
  refine over_congr _ (fun i _ => ?_)
  rw [last_append, last_two]
  cases last [q] i <;> rfl
theorem count_two (P Q : Nat → Bool) : ∀ l : List Nat, (l.filter fun i => Q i || P i).length + (l.filter fun i => Q i && P i).length = (l.filter P).length + (l.filter Q).length
  | [] => rfl
  | x :: l => by
    have ih := count_two P Q l
    simp only [List.filter_cons]
    cases hp : P x <;> cases hq : Q x <;> simp <;> omega
theorem cells_two (p q : Pr) : (cells [p, q]).length + ((List.range 64).filter fun i => hits q i && hits p i).length = (cells [p]).length + (cells [q]).length := by
  unfold cells
  have h1 : (fun i => (last [p, q] i).isSome) = fun i => hits q i || hits p i := funext fun i => last_two_some p q i
  have h2 : (fun i => (last [p] i).isSome) = fun i => hits p i := funext fun i => last_one_some p i
  have h3 : (fun i => (last [q] i).isSome) = fun i => hits q i := funext fun i => last_one_some q i
  rw [h1, h2, h3]
  exact count_two _ _ _
theorem over_swap {bank : List Nat} (hb : bank.length = 64) {p q : Pr} (h : (cells [p, q]).length = (cells [p]).length + (cells [q]).length) : over bank [p, q] = over bank [q, p] := by
  have h0 : ((List.range 64).filter fun i => hits q i && hits p i).length = 0 := by have := cells_two p q; omega
  have h1 := List.eq_nil_of_length_eq_zero h0
  refine over_congr _ (fun i hi => ?_)
  have h2 : ¬ (hits q i = true ∧ hits p i = true) := by
    rintro ⟨h3, h4⟩
    have : i ∈ ((List.range 64).filter fun i => hits q i && hits p i) := by simp [h3, h4]; omega
    rw [h1] at this
    cases this
  rw [last_two, last_two, last_one, last_one]
  by_cases h3 : hits q i = true
  · have h4 : ¬ hits p i = true := fun h => h2 ⟨h3, h⟩
    rw [if_pos h3, if_neg h4]
    rfl
  · rw [if_neg h3]
    cases hits p i <;> rfl
theorem cells_le (p q : Pr) : (cells [p, q]).length ≤ (cells [p]).length + (cells [q]).length := by have := cells_two p q; omega
theorem cells_length (l : List Pr) : (cells l).length ≤ 64 := cellsTo_length l 64
end Go.Proofs.Ytkilpiiljpeamaa.Bk
