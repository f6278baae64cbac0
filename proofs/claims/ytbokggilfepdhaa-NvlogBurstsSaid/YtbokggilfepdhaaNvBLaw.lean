/- The plain law of NvlogBursts: bytes turned within four beside one another turn the check. -/
import Derived.Test.YtbokggilfepdhaaNvLaw
import Derived.Test.YtbokggilfepdhaaBurst
namespace Go.Proofs.Ytbokggilfepdhaa
set_option linter.unusedVariables false
namespace Crc
theorem shifts_mul : ∀ (i c : Nat), shifts i (c * 2 ^ i) = c
  | 0, c => by simp [shifts]
  | i + 1, c => by
    show shifts i (shift (c * 2 ^ (i + 1))) = c
    have h1 : shift (c * 2 ^ (i + 1)) = c * 2 ^ i := by
      unfold shift
      rw [Nat.pow_succ, ← Nat.mul_assoc, if_neg (by omega)]
      omega
    rw [h1]
    exact shifts_mul i c
theorem shifts_by {m i : Nat} (h : i ≤ m) (c : Nat) : shifts (m - i) c = shifts m (c * 2 ^ i) := by
  obtain ⟨d, rfl⟩ : ∃ d, m = i + d := ⟨m - i, by omega⟩
  rw [shifts_add, shifts_mul, Nat.add_sub_cancel_left]
theorem raw_mod : ∀ (l : List Nat) (p c s : Nat), p < l.length → raw s (l.modify p (· ^^^ c)) = raw s l ^^^ shifts (8 * (l.length - p)) c
  | [], _, _, _, h => by simp at h
  | b :: l, 0, c, s, _ => by
    show raw (add s (b ^^^ c)) l = raw (add s b) l ^^^ _
    have h2 : add s (b ^^^ c) = add s b ^^^ shifts 8 c := by
      have := add_xor s 0 b c
      rw [Nat.xor_zero] at this
      rw [this]
      simp [add]
    rw [h2, raw_off, ← shifts_add, show 8 * ((b :: l).length - 0) = 8 + 8 * l.length by simp; omega]
  | b :: l, p + 1, c, s, h => by
    show raw (add s b) (l.modify p (· ^^^ c)) = raw (add s b) l ^^^ _
    rw [raw_mod l p c _ (by simpa using h), show (b :: l).length - (p + 1) = l.length - p by simp]
def tbyte (T j : Nat) : Nat := T / 2 ^ (8 * j) % 256
def tcond (l : List Nat) (k T j : Nat) : Bool := decide (k + j ≠ 7 ∧ k + j ≠ 8 ∧ k + j < l.length ∧ tbyte T j ≠ 0)
def turn (l : List Nat) (k T : Nat) : Nat → List Nat
  | 0 => l
  | j + 1 => if tcond l k T j = true then (turn l k T j).modify (k + j) (· ^^^ tbyte T j) else turn l k T j
def tpick (l : List Nat) (k T : Nat) : Nat → Nat
  | 0 => 0
  | j + 1 => if tcond l k T j = true then tpick l k T j ^^^ tbyte T j * 2 ^ (8 * j) else tpick l k T j
def tch (l : List Nat) (k T : Nat) : Nat → Bool
  | 0 => false
  | j + 1 => tch l k T j || tcond l k T j
theorem tbyte_lt (T j : Nat) : tbyte T j < 256 := Nat.mod_lt _ (by decide)
section
variable (l : List Nat) (k T : Nat)
theorem turn_length : ∀ j, (turn l k T j).length = l.length
  | 0 => rfl
  | j + 1 => by
    unfold turn
    split
    · rw [List.length_modify]; exact turn_length j
    · exact turn_length j
theorem turn_byte (h : ∀ x ∈ l, x < 256) : ∀ j, ∀ x ∈ turn l k T j, x < 256
  | 0 => h
  | j + 1 => by
    unfold turn
    split
    · intro x hx
      obtain ⟨i, hi, he⟩ := List.mem_iff_getElem.1 hx
      rw [List.getElem_modify] at he
      split at he
      · rw [← he]
        exact xor_byte (turn_byte h j _ (List.getElem_mem _)) (tbyte_lt T j)
      · rw [← he]; exact turn_byte h j _ (List.getElem_mem _)
    · exact turn_byte h j
theorem turn_get {q : Nat} (hq : q = 7 ∨ q = 8) : ∀ j, (turn l k T j)[q]? = l[q]?
  | 0 => rfl
  | j + 1 => by
    unfold turn
    split
    next h =>
      have h2 := of_decide_eq_true h
      have h3 : k + j ≠ q := by omega
      rw [List.getElem?_modify]
      simp only [if_neg h3]
      rw [turn_get hq j]
      simp
    · exact turn_get hq j
theorem tpick_lt : ∀ j, tpick l k T j < 2 ^ (8 * j)
  | 0 => by simp [tpick]
  | j + 1 => by
    have h1 := tpick_lt j
    have h2 := tbyte_lt T j
    have h3 : (2 : Nat) ^ (8 * (j + 1)) = 256 * 2 ^ (8 * j) := by rw [Nat.mul_add, Nat.pow_add, Nat.mul_comm]
    have h4 : tbyte T j * 2 ^ (8 * j) < 256 * 2 ^ (8 * j) := (Nat.mul_lt_mul_right (Nat.two_pow_pos _)).2 h2
    unfold tpick
    split
    · exact Nat.xor_lt_two_pow (by rw [h3]; omega) (by rw [h3]; exact h4)
    · rw [h3]; omega
theorem tch_pick : ∀ j, tch l k T j = true → tpick l k T j ≠ 0
  | 0, h => by cases h
  | j + 1, h => by
    unfold tch at h
    unfold tpick
    have hl := tpick_lt l k T j
    by_cases hc : tcond l k T j = true
    · rw [if_pos hc]
      intro h0
      have hb := (of_decide_eq_true hc).2.2.2
      have h1 : 2 ^ (8 * j) ≤ tbyte T j * 2 ^ (8 * j) := Nat.le_mul_of_pos_left _ (by omega)
      have e := congrArg (· ^^^ tbyte T j * 2 ^ (8 * j)) h0
      simp only [Nat.xor_assoc, Nat.xor_self, Nat.xor_zero, Nat.zero_xor] at e
      omega
    · rw [if_neg hc]
      rw [show tcond l k T j = false by simpa using hc, Bool.or_false] at h
      exact tch_pick j h
theorem tch_same : ∀ j, tch l k T j = false → turn l k T j = l
  | 0, _ => rfl
  | j + 1, h => by
    unfold tch at h
    rw [Bool.or_eq_false_iff] at h
    unfold turn
    rw [if_neg (by rw [h.2]; decide)]
    exact tch_same j h.1
theorem raw_turn (s : Nat) : ∀ j, raw s (turn l k T j) = raw s l ^^^ shifts (8 * (l.length - k)) (tpick l k T j)
  | 0 => by simp [turn, tpick, shifts_zero]
  | j + 1 => by
    unfold turn tpick
    by_cases hc : tcond l k T j = true
    · have h2 := of_decide_eq_true hc
      rw [if_pos hc, if_pos hc, raw_mod _ _ _ _ (by rw [turn_length]; omega), raw_turn s j, turn_length, shifts_xor, ← Nat.xor_assoc, ← shifts_by (by omega), show 8 * (l.length - (k + j)) = 8 * (l.length - k) - 8 * j by omega]
    · rw [if_neg hc, if_neg hc, raw_turn s j]
/-- THE LAW -/
theorem turn_tells (hl : ∀ x ∈ l, x < 256) (h : tch l k T 4 = true) : bytes (turn l k T 4) ≠ bytes l := by
  intro he
  have hb := turn_byte l k T hl 4
  have r1 := raw_lt l (s := 4294967295) (by decide) hl
  have r2 := raw_lt _ (s := 4294967295) (by decide) hb
  have hr : raw 4294967295 (turn l k T 4) = raw 4294967295 l := by
    unfold bytes at he
    omega
  rw [raw_turn] at hr
  have h0 : shifts (8 * (l.length - k)) (tpick l k T 4) = 0 := by
    have e := congrArg (raw 4294967295 l ^^^ ·) hr
    simp only [Nat.xor_self, ← Nat.xor_assoc, Nat.zero_xor] at e
    exact e
  exact tch_pick l k T 4 h (shifts_eq_zero _ (tpick_lt l k T 4) h0)
end
end Crc
namespace Nr
theorem first_turn {x : Nr} (h : x.right = true) (hf : Fit x) (k T : Nat) (hc : Crc.tch (body x) k T 4 = true) : first (Crc.turn (body x) k T 4 ++ four (Crc.bytes (body x))) = none := by
  have hbl := Crc.turn_length (body x) k T 4
  have ht : told (Crc.turn (body x) k T 4 ++ four (Crc.bytes (body x))) = x.text.length := by
    have h2 := (parse_bytes h hf []).2.1
    rw [List.append_nil] at h2
    rw [← h2]
    have h9 := body_length x
    have g : ∀ q, q = 7 ∨ q = 8 → (Crc.turn (body x) k T 4 ++ four (Crc.bytes (body x))).getD q 0 = (bytes x).getD q 0 := fun q hq => by
      rw [List.getD_eq_getElem?_getD, List.getD_eq_getElem?_getD, bytes, List.getElem?_append_left (by omega), List.getElem?_append_left (by omega), Crc.turn_get _ _ _ hq]
    unfold told
    rw [g 7 (.inl rfl), g 8 (.inr rfl)]
  have h9 := body_length x
  unfold first
  split
  · rfl
  · rw [if_neg]
    rintro ⟨_, h2⟩
    rw [ht, List.take_append_of_le_length (by omega), List.take_of_length_le (by omega), List.drop_append_of_le_length (by omega), List.drop_of_length_le (by omega), List.nil_append] at h2
    have h3 := num4_four (Crc.bytes_lt (body_u hf)) []
    rw [List.append_nil] at h3
    rw [h3] at h2
    exact Crc.turn_tells _ k T (body_u hf) hc h2
theorem read_turn {H : List Nr} {x : Nr} (hg : ∀ y ∈ H, y.right = true ∧ Fit y) (h : x.right = true) (hf : Fit x) (k T : Nat) (hc : Crc.tch (body x) k T 4 = true) : read (all H ++ (Crc.turn (body x) k T 4 ++ four (Crc.bytes (body x)))) = (H, (all H).length) := by
  rw [read_all _ _ hg, read_none (first_turn h hf k T hc)]
  simp
end Nr
end Go.Proofs.Ytbokggilfepdhaa
