/- The plain law of Diff: what a fold over the addresses that differ makes. -/
import Derived.Test.YtkilpiiljpeamaaDifMem
namespace Go.Proofs.Ytkilpiiljpeamaa
open Go.RowKit
set_option linter.unusedVariables false
abbrev gw (l : List Nat) (i : Nat) : Nat := l[i]?.getD 0
def cutb (b : List Nat) (p : Nat × Nat) : Bk.Pr := ((p.1 : Int), (b.drop p.1).take (p.2 - p.1))
def istep (T : List (Nat × Nat)) (x : Nat) : List (Nat × Nat) :=
  match T.getLast? with
  | none => [(x, x + 1)]
  | some p => if p.2 + 1 < x ∨ 14 ≤ x - p.1 then T ++ [(x, x + 1)] else T.dropLast ++ [(p.1, x + 1)]
def iv (a b : List Nat) : Nat → List (Nat × Nat)
  | 0 => []
  | x + 1 => if gw a x = gw b x then iv a b x else istep (iv a b x) x
/-- what is in such a block: it begins and ends with what differs, single ones between -/
structure IvOk (a b : List Nat) (x : Nat) (p : Nat × Nat) : Prop where
  lt : p.1 < p.2
  le : p.2 ≤ x
  fit : p.2 ≤ p.1 + 14
  beg : gw a p.1 ≠ gw b p.1
  fin : gw a (p.2 - 1) ≠ gw b (p.2 - 1)
  one : ∀ i, p.1 ≤ i → i + 1 < p.2 → gw a i = gw b i → gw a (i + 1) ≠ gw b (i + 1)
structure IvsOk (a b : List Nat) (x : Nat) (T : List (Nat × Nat)) : Prop where
  ok : ∀ p ∈ T, IvOk a b x p
  asc : T.Pairwise fun p q => p.2 ≤ q.1
  all : ∀ i, i < x → gw a i ≠ gw b i → ∃ p ∈ T, p.1 ≤ i ∧ i < p.2
theorem IvOk.more {a b : List Nat} {x : Nat} {p : Nat × Nat} (h : IvOk a b x p) : IvOk a b (x + 1) p := ⟨h.lt, Nat.le_succ_of_le h.le, h.fit, h.beg, h.fin, h.one⟩
theorem istep_ok {a b : List Nat} {x : Nat} {T : List (Nat × Nat)} (h : IvsOk a b x T) (hx : gw a x ≠ gw b x) (hgap : ∀ p, T.getLast? = some p → ∀ i, p.2 ≤ i → i < x → gw a i = gw b i) : IvsOk a b (x + 1) (istep T x) := by
  have hnew : IvOk a b (x + 1) (x, x + 1) := ⟨by simp, by simp, by simp, hx, by simpa using hx, fun i h1 h2 => by simp only at h1 h2; omega⟩
  unfold istep
  split
  · next hT =>
    have hTn : T = [] := List.getLast?_eq_none_iff.1 hT
    subst hTn
    refine ⟨fun p hp => ?_, by simp, fun i hi hd => ?_⟩
    · obtain rfl := List.mem_singleton.1 hp
      exact hnew
    · rcases Nat.lt_or_ge i x with h1 | h1
      · obtain ⟨p, hp, _⟩ := h.all i h1 hd
        cases hp
      · exact ⟨_, List.mem_singleton.2 rfl, by simp only; omega, by simp only; omega⟩
  · next p hT =>
    obtain ⟨init, rfl⟩ : ∃ init, T = init ++ [p] := List.getLast?_eq_some_iff.1 hT
    have hp := h.ok p (by simp)
    have hpw := List.pairwise_append.1 h.asc
    split
    · refine ⟨fun q hq => ?_, ?_, fun i hi hd => ?_⟩
      · rcases List.mem_append.1 hq with hq | hq
        · exact (h.ok q hq).more
        · obtain rfl := List.mem_singleton.1 hq
          exact hnew
      · refine List.pairwise_append.2 ⟨h.asc, by simp, fun q hq r hr => ?_⟩
        obtain rfl := List.mem_singleton.1 hr
        exact (h.ok q hq).le
      · rcases Nat.lt_or_ge i x with h1 | h1
        · obtain ⟨q, hq, h2⟩ := h.all i h1 hd
          exact ⟨q, List.mem_append_left _ hq, h2⟩
        · exact ⟨(x, x + 1), by simp, by simp only; omega, by simp only; omega⟩
    · next hc =>
      rw [List.dropLast_concat]
      have hle := hp.le
      have hlt := hp.lt
      have hex : IvOk a b (x + 1) (p.1, x + 1) := ⟨by simp only; omega, Nat.le_refl _, by simp only; omega, hp.beg, by simpa using hx, fun i h1 h2 h3 => by
        simp only at h1 h2
        rcases Nat.lt_or_ge (i + 1) p.2 with h4 | h4
        · exact hp.one i h1 h4 h3
        · by_cases h5 : i + 1 = x
          · rw [h5]; exact hx
          · exfalso
            have h6 : i + 1 = p.2 := by omega
            have h7 := hp.fin
            rw [show p.2 - 1 = i by omega] at h7
            exact h7 h3⟩
      refine ⟨fun q hq => ?_, ?_, fun i hi hd => ?_⟩
      · rcases List.mem_append.1 hq with hq | hq
        · exact (h.ok q (by simp [hq])).more
        · obtain rfl := List.mem_singleton.1 hq
          exact hex
      · refine List.pairwise_append.2 ⟨hpw.1, by simp, fun q hq r hr => ?_⟩
        obtain rfl := List.mem_singleton.1 hr
        exact hpw.2.2 q hq p (by simp)
      · rcases Nat.lt_or_ge i x with h1 | h1
        · obtain ⟨q, hq, h2, h3⟩ := h.all i h1 hd
          rcases List.mem_append.1 hq with hq | hq
          · exact ⟨q, List.mem_append_left _ hq, h2, h3⟩
          · obtain rfl := List.mem_singleton.1 hq
            exact ⟨(q.1, x + 1), by simp, h2, by simp only; omega⟩
        · exact ⟨(p.1, x + 1), by simp, by simp only; omega, by simp only; omega⟩
theorem iv_gap {a b : List Nat} {T : List (Nat × Nat)} {x : Nat} (h : IvsOk a b x T) {p : Nat × Nat} (hp : T.getLast? = some p) {i : Nat} (h1 : p.2 ≤ i) (h2 : i < x) : gw a i = gw b i := by
  obtain ⟨init, rfl⟩ : ∃ init, T = init ++ [p] := List.getLast?_eq_some_iff.1 hp
  by_cases hd : gw a i = gw b i
  · exact hd
  · exfalso
    obtain ⟨q, hq, h3, h4⟩ := h.all i h2 hd
    rcases List.mem_append.1 hq with hq | hq
    · have := (List.pairwise_append.1 h.asc).2.2 q hq p (by simp)
      have := (h.ok p (by simp)).lt
      omega
    · obtain rfl := List.mem_singleton.1 hq
      omega
theorem iv_ok (a b : List Nat) : ∀ x, IvsOk a b x (iv a b x)
  | 0 => ⟨fun p hp => (by cases hp), List.Pairwise.nil, fun i hi => by omega⟩
  | x + 1 => by
    have h := iv_ok a b x
    unfold iv
    split
    · next he =>
      exact ⟨fun p hp => (h.ok p hp).more, h.asc, fun i hi hd => by
        rcases Nat.lt_or_ge i x with h1 | h1
        · exact h.all i h1 hd
        · obtain rfl : i = x := by omega
          exact absurd he hd⟩
    · next hd => exact istep_ok h hd (fun p hp i h1 h2 => iv_gap h hp h1 h2)
theorem cutb_length {b : List Nat} {p : Nat × Nat} (hb : p.2 ≤ b.length) : (cutb b p).2.length = p.2 - p.1 := by
  unfold cutb; simp; omega
theorem cutb_get {b : List Nat} {p : Nat × Nat} {i : Nat} (h : i < p.2 - p.1) : gw (cutb b p).2 i = gw b (p.1 + i) := by
  unfold cutb gw
  rw [List.getElem?_take_of_lt h, List.getElem?_drop]
theorem dstep_istep {b : List Nat} {T : List (Nat × Nat)} {x : Nat} (hb : b.length = 64) (hx : x < 64) (hT : ∀ p ∈ T, p.1 < p.2 ∧ p.2 ≤ x) : dstep b (T.map (cutb b)) x = (istep T x).map (cutb b) := by
  have hnew : cutb b (x, x + 1) = ((x : Int), [b[x]?.getD 0]) := by
    unfold cutb
    rw [show x + 1 - x = 1 by omega]
    have hl : x < b.length := by omega
    rw [List.drop_eq_getElem_cons hl, List.take_succ_cons, List.take_zero, List.getElem?_eq_getElem hl]
    rfl
  unfold dstep istep
  rw [List.getLast?_map]
  cases hl : T.getLast? with
  | none => simp [hnew]
  | some p =>
    obtain ⟨init, rfl⟩ : ∃ init, T = init ++ [p] := List.getLast?_eq_some_iff.1 hl
    have h1 := hT p (by simp)
    have hlen : (cutb b p).2.length = p.2 - p.1 := cutb_length (by omega)
    have hc1 : (cutb b p).1 = (p.1 : Int) := rfl
    simp only [Option.map_some, hlen, hc1]
    have hiff : ((p.1 : Int) + ((p.2 - p.1 : Nat) : Int) + 1 < (x : Int) ∨ 14 ≤ (x : Int) - (p.1 : Int)) ↔ (p.2 + 1 < x ∨ 14 ≤ x - p.1) := by omega
    by_cases hc : p.2 + 1 < x ∨ 14 ≤ x - p.1
    · rw [if_pos (hiff.2 hc), if_pos hc]
      simp [hnew]
    · rw [if_neg (fun h => hc (hiff.1 h)), if_neg hc]
      simp only [List.map_append, List.map_cons, List.map_nil, List.dropLast_concat]
      congr 1
      congr 1
      show ((p.1 : Int), _) = ((p.1 : Int), _)
      congr 1
      rw [show ((p.1 : Int) + ((p.2 - p.1 : Nat) : Int)).toNat = p.2 by omega]
      show (b.drop p.1).take (p.2 - p.1) ++ (b.drop p.2).take (x + 1 - p.2) = (b.drop p.1).take (x + 1 - p.1)
      rw [show x + 1 - p.1 = (p.2 - p.1) + (x + 1 - p.2) by omega, List.take_add, List.drop_drop, show p.1 + (p.2 - p.1) = p.2 by omega]
theorem dif_iv {a b : List Nat} (hb : b.length = 64) : ∀ x, x ≤ 64 → dif b (difs a b x) = (iv a b x).map (cutb b)
  | 0, _ => rfl
  | x + 1, hx => by
    have ih := dif_iv (a := a) hb x (by omega)
    rw [difs_succ]
    unfold iv
    split
    · exact ih
    · rw [dif_snoc, ih]
      exact dstep_istep hb (by omega) (fun p hp => ⟨((iv_ok a b x).ok p hp).lt, ((iv_ok a b x).ok p hp).le⟩)
theorem difs_self (a : List Nat) : ∀ x, difs a a x = []
  | 0 => rfl
  | x + 1 => by rw [difs_succ, if_pos rfl, difs_self a x]
/-- what such blocks say of an address -/
theorem last_cuts {b : List Nat} (hb : b.length = 64) (i : Nat) : ∀ T : List (Nat × Nat), (∀ p ∈ T, p.2 ≤ 64) → Bk.lastR (T.map (cutb b)) i = if (∃ p ∈ T, p.1 ≤ i ∧ i < p.2) then some (gw b i) else none
  | [], _ => by simp [Bk.lastR]
  | p :: T, h => by
    have ih := last_cuts hb i T (fun q hq => h q (by simp [hq]))
    have hlen : (cutb b p).2.length = p.2 - p.1 := cutb_length (by have := h p (by simp); omega)
    have hc1 : (cutb b p).1 = (p.1 : Int) := rfl
    rw [List.map_cons, Bk.lastR]
    by_cases hc : p.1 ≤ i ∧ i < p.2
    · rw [if_pos (Bk.hits_iff.2 (by rw [hlen, hc1]; omega)), if_pos ⟨p, by simp, hc⟩]
      rw [hc1, List.getD_eq_getElem?_getD, show ((i : Int) - (p.1 : Int)).toNat = i - p.1 by omega]
      show some (gw (cutb b p).2 (i - p.1)) = _
      rw [cutb_get (by omega), show p.1 + (i - p.1) = i by omega]
    · rw [if_neg (fun hh => hc (by have := Bk.hits_iff.1 hh; rw [hlen, hc1] at this; omega)), ih]
      by_cases he : ∃ q ∈ T, q.1 ≤ i ∧ i < q.2
      · obtain ⟨q, hq, h2⟩ := he
        rw [if_pos ⟨q, hq, h2⟩, if_pos ⟨q, by simp [hq], h2⟩]
      · rw [if_neg he, if_neg]
        rintro ⟨q, hq, h2⟩
        rcases List.mem_cons.1 hq with rfl | hq
        · exact hc h2
        · exact he ⟨q, hq, h2⟩
/-- overridden by what makes it another one, a bank is that one -/
theorem over_dif {a b : List Nat} (ha : a.length = 64) (hb : b.length = 64) : Bk.over a (dif b (difs a b 64)) = b := by
  have hok := iv_ok a b 64
  rw [dif_iv hb 64 (Nat.le_refl _)]
  apply List.ext_getElem?
  intro i
  by_cases hi : i < 64
  · rw [Bk.over_get _ _ (by omega)]
    unfold Bk.last
    rw [← List.map_reverse, last_cuts hb i _ (fun p hp => (hok.ok p (by simpa using hp)).le)]
    have hbi : b[i]? = some (gw b i) := by unfold gw; rw [List.getElem?_eq_getElem (by omega)]; rfl
    rw [hbi]
    split
    · rfl
    · next hn =>
      have he : gw a i = gw b i := by
        by_cases hd : gw a i = gw b i
        · exact hd
        · exfalso
          obtain ⟨p, hp, h2⟩ := hok.all i hi hd
          exact hn ⟨p, by simpa using hp, h2⟩
      rw [← he, List.getD_eq_getElem?_getD]
      rfl
  · rw [List.getElem?_eq_none (by rw [Bk.over_length]; omega), List.getElem?_eq_none (by omega)]
end Go.Proofs.Ytkilpiiljpeamaa
