/- Plain mathematics of the check sum of layer 8: no program in sight. -/
namespace Go.Proofs.Ytegmeodmjaijnaa.Crc

/-- one bit 0 taken in -/
def shift (s : Nat) : Nat := if s % 2 = 1 then (s / 2) ^^^ 3988292384 else s / 2
def shifts : Nat → Nat → Nat
  | 0, s => s
  | n + 1, s => shifts n (shift s)
def add (s b : Nat) : Nat := shifts 8 (s ^^^ b)
def raw (s : Nat) (l : List Nat) : Nat := l.foldl add s
def bytes (l : List Nat) : Nat := 4294967295 - raw 4294967295 l

theorem shift_lt {s : Nat} (h : s < 4294967296) : shift s < 4294967296 := by
  unfold shift
  split
  · exact Nat.xor_lt_two_pow (n := 32) (by omega) (by decide)
  · omega
theorem shifts_lt : ∀ (n : Nat) {s : Nat}, s < 4294967296 → shifts n s < 4294967296
  | 0, _, h => h
  | n + 1, _, h => shifts_lt n (shift_lt h)
theorem shifts_succ : ∀ (n s : Nat), shifts (n + 1) s = shift (shifts n s)
  | 0, _ => rfl
  | n + 1, s => shifts_succ n (shift s)
theorem shifts_add : ∀ (n m s : Nat), shifts (n + m) s = shifts m (shifts n s)
  | 0, m, s => by simp [shifts]
  | n + 1, m, s => by rw [Nat.add_right_comm]; exact shifts_add n m (shift s)
theorem xor_lt {a b : Nat} (ha : a < 4294967296) (hb : b < 4294967296) : a ^^^ b < 4294967296 := Nat.xor_lt_two_pow (n := 32) ha hb
theorem add_lt {s b : Nat} (h : s < 4294967296) (hb : b < 256) : add s b < 4294967296 := shifts_lt 8 (xor_lt h (by omega))
theorem raw_lt : ∀ (l : List Nat) {s : Nat}, s < 4294967296 → (∀ b ∈ l, b < 256) → raw s l < 4294967296
  | [], _, h, _ => h
  | b :: l, _, h, hl => raw_lt l (add_lt h (hl b (by simp))) (fun c hc => hl c (by simp [hc]))
theorem raw_append (s : Nat) (l m : List Nat) : raw s (l ++ m) = raw (raw s l) m := by simp [raw, List.foldl_append]

/-! ### linear -/
theorem odd_xor (a b : Nat) : (a ^^^ b) % 2 = (a % 2 + b % 2) % 2 := by
  have h : (a ^^^ b).testBit 0 = (a.testBit 0 ^^ b.testBit 0) := Nat.testBit_xor ..
  simp only [Nat.testBit_zero] at h
  rcases Nat.mod_two_eq_zero_or_one a with ha | ha <;> rcases Nat.mod_two_eq_zero_or_one b with hb | hb <;> rcases Nat.mod_two_eq_zero_or_one (a ^^^ b) with hc | hc <;> simp [ha, hb, hc] at h ⊢
theorem half_xor (a b : Nat) : (a ^^^ b) / 2 = a / 2 ^^^ b / 2 := by
  have := Nat.shiftRight_xor_distrib (a := a) (b := b) (i := 1)
  simpa [Nat.shiftRight_eq_div_pow] using this
theorem shift_xor (a b : Nat) : shift (a ^^^ b) = shift a ^^^ shift b := by
  unfold shift
  rw [odd_xor, half_xor]
  rcases Nat.mod_two_eq_zero_or_one a with ha | ha <;> rcases Nat.mod_two_eq_zero_or_one b with hb | hb <;> simp [ha, hb]
  · rw [Nat.xor_assoc]
  · rw [Nat.xor_assoc, Nat.xor_comm (b / 2), ← Nat.xor_assoc]
  · rw [Nat.xor_assoc, Nat.xor_comm (b / 2), ← Nat.xor_assoc 3988292384, Nat.xor_self, Nat.zero_xor]
theorem shifts_xor : ∀ (n a b : Nat), shifts n (a ^^^ b) = shifts n a ^^^ shifts n b
  | 0, _, _ => rfl
  | n + 1, a, b => by show shifts n (shift (a ^^^ b)) = _; rw [shift_xor]; exact shifts_xor n _ _
theorem shift_zero : shift 0 = 0 := rfl
theorem shifts_zero : ∀ n : Nat, shifts n 0 = 0
  | 0 => rfl
  | n + 1 => shifts_zero n
theorem xor4 (a b c d : Nat) : a ^^^ b ^^^ (c ^^^ d) = a ^^^ c ^^^ (b ^^^ d) := by
  rw [Nat.xor_assoc, Nat.xor_assoc, ← Nat.xor_assoc b, Nat.xor_comm b c, Nat.xor_assoc c]
theorem add_xor (s t b c : Nat) : add (s ^^^ t) (b ^^^ c) = add s b ^^^ add t c := by
  unfold add
  rw [xor4, shifts_xor]
theorem raw_xor : ∀ (l m : List Nat) (s t : Nat), l.length = m.length → raw (s ^^^ t) (List.zipWith (· ^^^ ·) l m) = raw s l ^^^ raw t m
  | [], [], _, _, _ => rfl
  | b :: l, c :: m, s, t, h => by
    show raw (add (s ^^^ t) (b ^^^ c)) _ = raw (add s b) l ^^^ raw (add t c) m
    rw [add_xor]
    exact raw_xor l m _ _ (by simpa using h)
theorem compl_eq {a : Nat} (h : a < 4294967296) : 4294967295 - a = 4294967295 ^^^ a := by
  apply Nat.eq_of_testBit_eq
  intro i
  rw [Nat.testBit_xor, show (4294967295 : Nat) - a = 2 ^ 32 - (a + 1) by omega, Nat.testBit_two_pow_sub_succ h, show (4294967295 : Nat) = 2 ^ 32 - 1 by rfl, Nat.testBit_two_pow_sub_one]
  by_cases hi : i < 32
  · simp [hi]
  · have : a.testBit i = false := Nat.testBit_lt_two_pow (Nat.lt_of_lt_of_le h (Nat.pow_le_pow_right (n := 2) (by omega) (show 32 ≤ i by omega)))
    simp [hi, this]
theorem bytes_eq {l : List Nat} (h : ∀ b ∈ l, b < 256) : bytes l = 4294967295 ^^^ raw 4294967295 l := compl_eq (raw_lt l (by decide) h)
theorem bytes_lt {l : List Nat} (_h : ∀ b ∈ l, b < 256) : bytes l < 4294967296 := by unfold bytes; omega

/-! ### injective -/
theorem shift_eq_zero {s : Nat} (h : s < 4294967296) (h0 : shift s = 0) : s = 0 := by
  unfold shift at h0
  split at h0
  · exfalso
    have hb : (s / 2 ^^^ 3988292384).testBit 31 = true := by
      rw [Nat.testBit_xor]
      have : (s / 2).testBit 31 = false := Nat.testBit_lt_two_pow (by omega)
      rw [this]; decide
    rw [h0] at hb
    simp at hb
  · omega
theorem shifts_eq_zero : ∀ (n : Nat) {s : Nat}, s < 4294967296 → shifts n s = 0 → s = 0
  | 0, _, _, h => h
  | n + 1, _, hs, h => shift_eq_zero hs (shifts_eq_zero n (shift_lt hs) h)

/-! ### three rows -/
def x3 (a b c : List Nat) : List Nat := List.zipWith (· ^^^ ·) (List.zipWith (· ^^^ ·) a b) c
theorem x3_get {a b c : List Nat} {k x y z : Nat} (ha : a[k]? = some x) (hb : b[k]? = some y) (hc : c[k]? = some z) : (x3 a b c)[k]? = some (x ^^^ y ^^^ z) := by
  simp [x3, List.getElem?_zipWith, ha, hb, hc]
theorem x3_take (a b c : List Nat) (n : Nat) : (x3 a b c).take n = x3 (a.take n) (b.take n) (c.take n) := by simp [x3, List.take_zipWith]
theorem x3_length (a b c : List Nat) : (x3 a b c).length = min (min a.length b.length) c.length := by simp [x3]
theorem xor_byte {a b : Nat} (ha : a < 256) (hb : b < 256) : a ^^^ b < 256 := Nat.xor_lt_two_pow (n := 8) ha hb
theorem zip_byte {a b : List Nat} (ha : ∀ x ∈ a, x < 256) (hb : ∀ x ∈ b, x < 256) : ∀ x ∈ List.zipWith (· ^^^ ·) a b, x < 256 := by
  intro x hx
  obtain ⟨i, h1, h2⟩ := List.mem_iff_getElem.1 hx
  simp only [List.getElem_zipWith] at h2
  rw [← h2]
  exact xor_byte (ha _ (List.getElem_mem _)) (hb _ (List.getElem_mem _))
theorem x3_byte {a b c : List Nat} (ha : ∀ x ∈ a, x < 256) (hb : ∀ x ∈ b, x < 256) (hc : ∀ x ∈ c, x < 256) : ∀ x ∈ x3 a b c, x < 256 := zip_byte (zip_byte ha hb) hc
theorem ones3 (m p q r : Nat) : m ^^^ (p ^^^ q ^^^ r) = m ^^^ p ^^^ (m ^^^ q) ^^^ (m ^^^ r) := by
  apply Nat.eq_of_testBit_eq
  intro i
  simp only [Nat.testBit_xor]
  cases m.testBit i <;> cases p.testBit i <;> cases q.testBit i <;> cases r.testBit i <;> rfl
theorem bytes_x3 {a b c : List Nat} (ha : ∀ x ∈ a, x < 256) (hb : ∀ x ∈ b, x < 256) (hc : ∀ x ∈ c, x < 256) (h1 : a.length = b.length) (h2 : b.length = c.length) :
    bytes (x3 a b c) = bytes a ^^^ bytes b ^^^ bytes c := by
  rw [bytes_eq ha, bytes_eq hb, bytes_eq hc, bytes_eq (x3_byte ha hb hc)]
  have e1 := raw_xor (List.zipWith (· ^^^ ·) a b) c (4294967295 ^^^ 4294967295) 4294967295 (by simp; omega)
  have e2 := raw_xor a b 4294967295 4294967295 h1
  rw [e2] at e1
  unfold x3
  rw [show (4294967295 ^^^ 4294967295 ^^^ 4294967295 : Nat) = 4294967295 by decide] at e1
  rw [e1, ones3]
end Go.Proofs.Ytegmeodmjaijnaa.Crc
