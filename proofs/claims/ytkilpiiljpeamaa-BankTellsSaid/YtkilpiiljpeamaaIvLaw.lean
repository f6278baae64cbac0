/- The plain law of the reference's Diff: block by block. -/
import Derived.Test.YtkilpiiljpeamaaDifLaw
namespace Go.Proofs.Ytkilpiiljpeamaa
/-- behind the blocks up to an address, the next word that differs begins a new one -/
def Closed (a b : List Nat) (s : Nat) : Prop := ∀ p, (iv a b s).getLast? = some p → ∀ x, s ≤ x → x < 64 → (∀ i, s ≤ i → i < x → gw a i = gw b i) → gw a x ≠ gw b x → p.2 + 1 < x ∨ 14 ≤ x - p.1
section
variable {a b : List Nat} {s e : Nat} {T : List (Nat × Nat)}
theorem closed_zero (a b : List Nat) : Closed a b 0 := fun p hp => by cases hp
theorem closed_64 (a b : List Nat) : Closed a b 64 := fun p hp x h1 h2 => by omega
theorem iv_skip (h : gw a s = gw b s) : iv a b (s + 1) = iv a b s := by
  show (if gw a s = gw b s then iv a b s else istep (iv a b s) s) = _
  rw [if_pos h]
theorem iv_hit (h : gw a s ≠ gw b s) : iv a b (s + 1) = istep (iv a b s) s := by
  show (if gw a s = gw b s then iv a b s else istep (iv a b s) s) = _
  rw [if_neg h]
theorem closed_skip (h : gw a s = gw b s) (hc : Closed a b s) : Closed a b (s + 1) := fun p hp x h1 h2 h3 h4 => by
  rw [iv_skip h] at hp
  refine hc p hp x (by omega) h2 (fun i hi1 hi2 => ?_) h4
  by_cases hi : i = s
  · subst hi; exact h
  · exact h3 i (by omega) hi2
theorem iv_new (h : gw a s ≠ gw b s) (hs : s < 64) (hc : Closed a b s) : iv a b (s + 1) = iv a b s ++ [(s, s + 1)] := by
  rw [iv_hit h]
  unfold istep
  cases hl : (iv a b s).getLast? with
  | none => rw [List.getLast?_eq_none_iff.1 hl]; rfl
  | some p =>
    simp only
    rw [if_pos (hc p hl s (Nat.le_refl _) hs (fun i h1 h2 => by omega) h)]
theorem iv_grow (h : gw a e ≠ gw b e) (hT : iv a b e = T ++ [(s, e)]) (h14 : e - s < 14) : iv a b (e + 1) = T ++ [(s, e + 1)] := by
  rw [iv_hit h, hT]
  unfold istep
  simp only [List.getLast?_append, List.getLast?_singleton, Option.some_or]
  rw [if_neg (by omega), List.dropLast_concat]
theorem iv_grow2 (h0 : gw a e = gw b e) (h : gw a (e + 1) ≠ gw b (e + 1)) (hT : iv a b e = T ++ [(s, e)]) (h14 : e + 1 - s < 14) : iv a b (e + 2) = T ++ [(s, e + 2)] := by
  rw [show e + 2 = (e + 1) + 1 by omega, iv_hit h, iv_skip h0, hT]
  unfold istep
  simp only [List.getLast?_append, List.getLast?_singleton, Option.some_or]
  rw [if_neg (by omega), List.dropLast_concat]
theorem last_iv (hT : iv a b e = T ++ [(s, e)]) {p : Nat × Nat} (hp : (iv a b e).getLast? = some p) : p = (s, e) := by
  rw [hT] at hp
  simpa using hp.symm
theorem closed_full (hT : iv a b e = T ++ [(s, e)]) (h : gw a e ≠ gw b e) (h14 : 14 ≤ e - s) : Closed a b e := fun p hp x h1 h2 h3 h4 => by
  obtain rfl := last_iv hT hp
  by_cases hx : x = e
  · subst hx; exact .inr h14
  · exact absurd (h3 e (Nat.le_refl _) (by omega)) h
theorem closed_two (hT : iv a b e = T ++ [(s, e)]) (h : gw a e = gw b e) (h2 : gw a (e + 1) = gw b (e + 1)) : Closed a b e := fun p hp x h1 h5 h3 h4 => by
  obtain rfl := last_iv hT hp
  have hx0 : x ≠ e := fun hx => by subst hx; exact h4 h
  have hx1 : x ≠ e + 1 := fun hx => by subst hx; exact h4 h2
  exact .inl (by simp only; omega)
theorem closed_last (h : gw a e = gw b e) (he : e + 1 = 64) : Closed a b e := fun p hp x h1 h5 h3 h4 => by
  have hx0 : x ≠ e := fun hx => by subst hx; exact h4 h
  omega
theorem closed_full2 (hT : iv a b e = T ++ [(s, e)]) (h : gw a e = gw b e) (h2 : gw a (e + 1) ≠ gw b (e + 1)) (h14 : 14 ≤ e + 1 - s) : Closed a b e := fun p hp x h1 h5 h3 h4 => by
  obtain rfl := last_iv hT hp
  have hx0 : x ≠ e := fun hx => by subst hx; exact h4 h
  by_cases hx : x = e + 1
  · subst hx; exact .inr h14
  · exact absurd (h3 (e + 1) (by omega) (by omega)) h2
end
end Go.Proofs.Ytkilpiiljpeamaa
