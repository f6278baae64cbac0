/- Plain law of SumBursts: bits turned within 32 beside one another turn the check. -/
import Derived.Test.YtbokggilfepdhaaCrc
namespace Go.Proofs.Ytbokggilfepdhaa.Crc

theorem shifts_pow : ∀ k : Nat, shifts k (2 ^ k) = 1
  | 0 => rfl
  | k + 1 => by
    show shifts k (shift (2 ^ (k + 1))) = 1
    have h1 : shift (2 ^ (k + 1)) = 2 ^ k := by
      unfold shift
      rw [Nat.pow_succ, if_neg (by omega)]
      omega
    rw [h1]
    exact shifts_pow k
theorem shifts_back {m i : Nat} (h : i ≤ m) : shifts (m - i) 1 = shifts m (2 ^ i) := by
  obtain ⟨d, rfl⟩ : ∃ d, m = i + d := ⟨m - i, by omega⟩
  rw [shifts_add, shifts_pow, Nat.add_sub_cancel_left]
theorem raw_off : ∀ (l : List Nat) (s t : Nat), raw (s ^^^ t) l = raw s l ^^^ shifts (8 * l.length) t
  | [], _, _ => rfl
  | b :: l, s, t => by
    show raw (add (s ^^^ t) b) l = raw (add s b) l ^^^ _
    have h : add (s ^^^ t) b = add s b ^^^ shifts 8 t := by
      have := add_xor s t b 0
      rw [Nat.xor_zero] at this
      rw [this]
      simp [add]
    rw [h, raw_off l, show 8 * (b :: l).length = 8 + 8 * l.length by simp; omega, shifts_add]

theorem pow_byte (k : Nat) : 2 ^ (k % 8) < 256 := Nat.pow_lt_pow_right (a := 2) (n := 8) (by omega) (by omega)
def flip (l : List Nat) (k : Nat) : List Nat := l.modify (k / 8) (· ^^^ 2 ^ (k % 8))
theorem flip_length (l : List Nat) (k : Nat) : (flip l k).length = l.length := by simp [flip]
theorem flip_byte {l : List Nat} (h : ∀ x ∈ l, x < 256) (k : Nat) : ∀ x ∈ flip l k, x < 256 := by
  intro x hx
  unfold flip at hx
  obtain ⟨i, hi, he⟩ := List.mem_iff_getElem.1 hx
  rw [List.getElem_modify] at he
  split at he
  · rw [← he]
    exact xor_byte (h _ (List.getElem_mem _)) (Nat.pow_lt_pow_right (a := 2) (n := 8) (by omega) (by omega))
  · rw [← he]; exact h _ (List.getElem_mem _)
theorem raw_flip : ∀ (l : List Nat) (k s : Nat), k < 8 * l.length → raw s (flip l k) = raw s l ^^^ shifts (8 * l.length - k) 1
  | [], _, _, h => by simp at h
  | b :: l, k, s, h => by
    rcases Nat.lt_or_ge k 8 with hk | hk
    · have e : flip (b :: l) k = (b ^^^ 2 ^ k) :: l := by
        unfold flip
        rw [Nat.div_eq_of_lt hk, Nat.mod_eq_of_lt hk]
        rfl
      rw [e]
      show raw (add s (b ^^^ 2 ^ k)) l = raw (add s b) l ^^^ _
      have h2 : add s (b ^^^ 2 ^ k) = add s b ^^^ shifts 8 (2 ^ k) := by
        have := add_xor s 0 b (2 ^ k)
        rw [Nat.xor_zero] at this
        rw [this]
        simp [add]
      rw [h2, raw_off, ← shifts_add, show 8 * (b :: l).length = 8 + 8 * l.length by simp; omega, shifts_back (by omega)]
    · have e : flip (b :: l) k = b :: flip l (k - 8) := by
        obtain ⟨j, rfl⟩ : ∃ j, k = j + 8 := ⟨k - 8, by omega⟩
        unfold flip
        rw [Nat.add_sub_cancel, show (j + 8) / 8 = j / 8 + 1 by omega, show (j + 8) % 8 = j % 8 by omega]
        rfl
      rw [e]
      show raw (add s b) (flip l (k - 8)) = raw (add s b) l ^^^ _
      simp only [List.length_cons] at h ⊢
      rw [raw_flip l (k - 8) _ (by omega), show 8 * l.length - (k - 8) = 8 * (l.length + 1) - k by omega]

/-- what is turned behind j rounds -/
def burst (l : List Nat) (at_ T : Nat) : Nat → List Nat
  | 0 => l
  | j + 1 => if T.testBit j = true ∧ at_ + j < 8 * l.length then flip (burst l at_ T j) (at_ + j) else burst l at_ T j
def picked (m T : Nat) : Nat → Nat
  | 0 => 0
  | j + 1 => if T.testBit j = true ∧ j < m then picked m T j ^^^ 2 ^ j else picked m T j
theorem burst_length (l : List Nat) (a T : Nat) : ∀ j, (burst l a T j).length = l.length
  | 0 => rfl
  | j + 1 => by
    unfold burst
    split
    · rw [flip_length]; exact burst_length l a T j
    · exact burst_length l a T j
theorem burst_byte {l : List Nat} (h : ∀ x ∈ l, x < 256) (a T : Nat) : ∀ j, ∀ x ∈ burst l a T j, x < 256
  | 0 => h
  | j + 1 => by
    unfold burst
    split
    · exact flip_byte (burst_byte h a T j) _
    · exact burst_byte h a T j
theorem picked_lt (m T : Nat) : ∀ j, picked m T j < 2 ^ j
  | 0 => by simp [picked]
  | j + 1 => by
    have := picked_lt m T j
    unfold picked
    split
    · exact Nat.xor_lt_two_pow (by rw [Nat.pow_succ]; omega) (by rw [Nat.pow_succ]; omega)
    · rw [Nat.pow_succ]; omega
theorem raw_burst (l : List Nat) (a T s : Nat) (ha : a < 8 * l.length) : ∀ j, raw s (burst l a T j) = raw s l ^^^ shifts (8 * l.length - a) (picked (8 * l.length - a) T j)
  | 0 => by simp [burst, picked, shifts_zero]
  | j + 1 => by
    unfold burst picked
    by_cases h : T.testBit j = true ∧ a + j < 8 * l.length
    · rw [if_pos h, if_pos ⟨h.1, by omega⟩, raw_flip _ _ _ (by rw [burst_length]; exact h.2), raw_burst l a T s ha j, burst_length, shifts_xor, ← Nat.xor_assoc, ← shifts_back (by omega), show 8 * l.length - (a + j) = 8 * l.length - a - j by omega]
    · rw [if_neg h, if_neg (fun hc => h ⟨hc.1, by omega⟩), raw_burst l a T s ha j]
theorem burst_same (l : List Nat) (a T : Nat) (ha : a < 8 * l.length) : ∀ j, picked (8 * l.length - a) T j = 0 → burst l a T j = l
  | 0, _ => rfl
  | j + 1, h => by
    unfold picked at h
    unfold burst
    have hl := picked_lt (8 * l.length - a) T j
    by_cases hc : T.testBit j = true ∧ a + j < 8 * l.length
    · rw [if_pos ⟨hc.1, by omega⟩] at h
      have : picked (8 * l.length - a) T j = 2 ^ j := by
        have e := congrArg (· ^^^ 2 ^ j) h
        simp only [Nat.xor_assoc, Nat.xor_self, Nat.xor_zero, Nat.zero_xor] at e
        exact e
      omega
    · rw [if_neg (fun hd => hc ⟨hd.1, by omega⟩)] at h
      rw [if_neg hc]
      exact burst_same l a T ha j h
/-- THE LAW -/
theorem burst_tells {l : List Nat} (hl : ∀ x ∈ l, x < 256) (a T : Nat) (ha : a < 8 * l.length) (h : bytes l = bytes (burst l a T 32)) : burst l a T 32 = l := by
  have hb := burst_byte hl a T 32
  have r1 := raw_lt l (s := 4294967295) (by decide) hl
  have r2 := raw_lt _ (s := 4294967295) (by decide) hb
  have hr : raw 4294967295 l = raw 4294967295 (burst l a T 32) := by
    unfold bytes at h
    omega
  rw [raw_burst l a T _ ha] at hr
  have h0 : shifts (8 * l.length - a) (picked (8 * l.length - a) T 32) = 0 := by
    have e := congrArg (raw 4294967295 l ^^^ ·) hr
    simp only [Nat.xor_self, ← Nat.xor_assoc, Nat.zero_xor] at e
    exact e.symm
  exact burst_same l a T ha 32 (shifts_eq_zero _ (picked_lt _ _ 32) h0)
end Go.Proofs.Ytbokggilfepdhaa.Crc
