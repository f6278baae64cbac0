/- The plain law of a ledger: jobs, and what a record makes of them. No program in sight. -/
import Derived.Test.YtegmeodmjaijnaaNvLaw
namespace Go.Proofs.Ytegmeodmjaijnaa
structure Jp where
  tx : Nat
  who : Nat
  text : List Nat
  st : Nat
namespace Jp
structure Fit (x : Jp) : Prop where
  tx : x.tx < 4294967296
  who : x.who < 256
  text : ∀ b ∈ x.text, b < 256
  st : x.st < 256
/-- how a job stands behind a record, of how it stood (0: it was none) -/
def step (what : Nat) (yes : Bool) (st : Nat) : Option Nat :=
  if what = 2 ∧ yes = false ∧ st = 0 then some 1 else if what = 3 ∧ yes = true ∧ st = 1 then some 2 else if what = 3 ∧ yes = false ∧ st = 1 then some 3
  else if what = 4 ∧ yes = false ∧ st = 2 then some 4 else if what = 4 ∧ yes = false ∧ st = 3 then some 5 else none
theorem step_le {what : Nat} {yes : Bool} {st s : Nat} (h : step what yes st = some s) : s ≤ 5 ∧ 1 ≤ s ∧ s < 256 := by
  unfold step at h
  repeat' split at h
  all_goals first | (cases h; done) | (cases h; decide)
def Sorted (l : List Jp) : Prop := l.Pairwise fun a b => a.tx < b.tx
/-- the first place whose number is at least tx -/
def at_ (l : List Jp) (tx : Nat) : Nat := (l.takeWhile fun j => decide (j.tx < tx)).length
theorem at_le (l : List Jp) (tx : Nat) : at_ l tx ≤ l.length := by
  unfold at_
  exact (List.takeWhile_sublist _).length_le
theorem at_nil (tx : Nat) : at_ [] tx = 0 := rfl
theorem at_cons (x : Jp) (l : List Jp) (tx : Nat) : at_ (x :: l) tx = if x.tx < tx then at_ l tx + 1 else 0 := by
  unfold at_
  rw [List.takeWhile_cons]
  by_cases h : x.tx < tx <;> simp [h]
/-- it is where those less end -/
theorem at_is {tx : Nat} : ∀ {l : List Jp} {i : Nat}, Sorted l → i ≤ l.length → (∀ k j, k < i → l[k]? = some j → j.tx < tx) → (∀ k j, i ≤ k → l[k]? = some j → tx ≤ j.tx) → at_ l tx = i
  | [], i, _, hi, _, _ => by rw [at_nil]; simp at hi; omega
  | x :: l, i, hs, hi, h1, h2 => by
    rw [at_cons]
    cases i with
    | zero =>
      have := h2 0 x (Nat.le_refl _) rfl
      rw [if_neg (by omega)]
    | succ i =>
      have := h1 0 x (by omega) rfl
      rw [if_pos this, at_is (i := i) (List.pairwise_cons.1 hs).2 (by simpa using hi) (fun k j hk hj => h1 (k + 1) j (by omega) (by simpa using hj)) (fun k j hk hj => h2 (k + 1) j (by omega) (by simpa using hj))]
/-- the bounds at the place itself are enough in a sorted row -/
theorem at_of {tx : Nat} {l : List Jp} {i : Nat} (hs : Sorted l) (hi : i ≤ l.length) (h1 : ∀ j, 0 < i → l[i - 1]? = some j → j.tx < tx) (h2 : ∀ j, l[i]? = some j → tx ≤ j.tx) : at_ l tx = i := by
  refine at_is hs hi (fun k j hk hj => ?_) (fun k j hk hj => ?_)
  · have hl : i - 1 < l.length := by omega
    have h3 := h1 l[i - 1] (by omega) (List.getElem?_eq_getElem hl)
    by_cases hki : k = i - 1
    · subst hki
      rw [List.getElem?_eq_getElem hl] at hj
      obtain rfl := Option.some.inj hj
      exact h3
    · have hkl := (List.getElem?_eq_some_iff.1 hj).1
      have h4 := List.pairwise_iff_getElem.1 hs k (i - 1) hkl hl (by omega)
      rw [(List.getElem?_eq_some_iff.1 hj).2] at h4
      omega
  · have hkl := (List.getElem?_eq_some_iff.1 hj).1
    have hil : i < l.length := by omega
    have h3 := h2 l[i] (List.getElem?_eq_getElem hil)
    by_cases hki : k = i
    · subst hki
      rw [List.getElem?_eq_getElem hil] at hj
      obtain rfl := Option.some.inj hj
      exact h3
    · have h4 := List.pairwise_iff_getElem.1 hs i k hil hkl (by omega)
      rw [(List.getElem?_eq_some_iff.1 hj).2] at h4
      omega
/-- a job by its number -/
def find (l : List Jp) (tx : Nat) : Option Nat :=
  match l[at_ l tx]? with
  | none => none
  | some j => if j.tx = tx then some (at_ l tx) else none
theorem find_some {l : List Jp} {tx i : Nat} (h : find l tx = some i) : ∃ j, l[i]? = some j ∧ j.tx = tx ∧ i = at_ l tx := by
  unfold find at h
  split at h
  · cases h
  · next j hj =>
    split at h
    · next ht =>
      obtain rfl := Option.some.inj h
      exact ⟨j, hj, ht, rfl⟩
    · cases h
def lastTx (l : List Jp) : Nat := match l.getLast? with
  | none => 0
  | some j => j.tx
/-- a ledger after a record -/
def put (l : List Jp) (x : Nr) : Option (List Jp) :=
  if x.right = false then none
  else if x.what = 1 then some l
  else if x.what = 2 then (match step 2 x.yes 0 with
    | none => none
    | some s => if x.tx ≤ lastTx l then none else some (l ++ [⟨x.tx, x.who, x.text, s⟩]))
  else match find l x.tx with
    | none => none
    | some i => match l[i]? with
      | none => none
      | some j => match step x.what x.yes j.st with
        | none => none
        | some s => some (l.set i ⟨j.tx, j.who, j.text, s⟩)
theorem sorted_last {l : List Jp} (hs : Sorted l) {j : Jp} (hj : j ∈ l) : j.tx ≤ lastTx l := by
  unfold lastTx
  cases hl : l.getLast? with
  | none => rw [List.getLast?_eq_none_iff.1 hl] at hj; cases hj
  | some k =>
    obtain ⟨init, rfl⟩ := List.getLast?_eq_some_iff.1 hl
    rcases List.mem_append.1 hj with h | h
    · exact Nat.le_of_lt ((List.pairwise_append.1 hs).2.2 j h k (by simp))
    · obtain rfl := List.mem_singleton.1 h
      exact Nat.le_refl _
theorem sorted_snoc {l : List Jp} (hs : Sorted l) {x : Jp} (hx : lastTx l < x.tx) : Sorted (l ++ [x]) :=
  List.pairwise_append.2 ⟨hs, by simp, fun a ha b hb => by
    obtain rfl := List.mem_singleton.1 hb
    exact Nat.lt_of_le_of_lt (sorted_last hs ha) hx⟩
theorem sorted_tx {l m : List Jp} (h : l.map Jp.tx = m.map Jp.tx) (hs : Sorted l) : Sorted m := by
  have h1 : (l.map Jp.tx).Pairwise (· < ·) := List.pairwise_map.2 hs
  rw [h] at h1
  exact List.pairwise_map.1 h1
theorem set_tx {l : List Jp} {i : Nat} {j : Jp} (hj : l[i]? = some j) (s : Nat) : (l.set i ⟨j.tx, j.who, j.text, s⟩).map Jp.tx = l.map Jp.tx := by
  apply List.ext_getElem?
  intro k
  rw [List.getElem?_map, List.getElem?_map, List.getElem?_set]
  by_cases hk : i = k
  · subst hk
    have hl := (List.getElem?_eq_some_iff.1 hj).1
    rw [if_pos rfl, if_pos hl, hj]
    rfl
  · rw [if_neg hk]
/-- what a right ledger stays -/
theorem put_sorted {l m : List Jp} {x : Nr} (hs : Sorted l) (h : put l x = some m) : Sorted m := by
  unfold put at h
  split at h
  · cases h
  split at h
  · obtain rfl := Option.some.inj h; exact hs
  split at h
  · split at h
    · cases h
    · split at h
      · cases h
      · next hlt =>
        obtain rfl := Option.some.inj h
        exact sorted_snoc hs (by simp only; omega)
  · split at h
    · cases h
    · split at h
      · cases h
      · next j hj =>
        split at h
        · cases h
        · obtain rfl := Option.some.inj h
          exact sorted_tx (set_tx hj _).symm hs
theorem put_fit {l m : List Jp} {x : Nr} (hx : x.Fit) (hl : ∀ j ∈ l, j.Fit) (h : put l x = some m) : ∀ j ∈ m, j.Fit := by
  unfold put at h
  split at h
  · cases h
  split at h
  · obtain rfl := Option.some.inj h; exact hl
  split at h
  · split at h
    · cases h
    · next s hst =>
      split at h
      · cases h
      · obtain rfl := Option.some.inj h
        intro j hj
        rcases List.mem_append.1 hj with hj | hj
        · exact hl j hj
        · obtain rfl := List.mem_singleton.1 hj
          exact ⟨hx.tx, hx.who, hx.u, (step_le hst).2.2⟩
  · split at h
    · cases h
    · split at h
      · cases h
      · next j0 hj0 =>
        split at h
        · cases h
        · next s hst =>
          obtain rfl := Option.some.inj h
          intro j hj
          rcases List.mem_or_eq_of_mem_set hj with hj | rfl
          · exact hl j hj
          · have h0 := hl j0 (List.mem_of_getElem? hj0)
            exact ⟨h0.tx, h0.who, h0.text, (step_le hst).2.2⟩
theorem put_length {l m : List Jp} {x : Nr} (h : put l x = some m) : m.length ≤ l.length + 1 := by
  unfold put at h
  repeat' split at h
  all_goals first | cases h | skip
  all_goals (try obtain rfl := Option.some.inj h)
  all_goals simp
/-- the ledger of records -/
def makeFrom (l : List Jp) : List Nr → Option (List Jp)
  | [] => some l
  | x :: r => match put l x with
    | none => none
    | some m => makeFrom m r
def make (r : List Nr) : Option (List Jp) := makeFrom [] r
end Jp
end Go.Proofs.Ytegmeodmjaijnaa
