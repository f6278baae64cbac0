/- Plain law of bits in bytes: no program in sight. -/
namespace Go.Proofs.Ytfdbajalhnenhaa.Bt
/-- the number whose first n bits are f's -/
def ofBits (f : Nat → Bool) : Nat → Nat
  | 0 => 0
  | n + 1 => ofBits f n + (if f n = true then 2 ^ n else 0)
theorem ofBits_lt (f : Nat → Bool) : ∀ n, ofBits f n < 2 ^ n
  | 0 => by simp [ofBits]
  | n + 1 => by
    have := ofBits_lt f n
    unfold ofBits
    rw [Nat.pow_succ]
    split <;> omega
theorem ofBits_test (f : Nat → Bool) : ∀ (n k : Nat), (ofBits f n).testBit k = (decide (k < n) && f k)
  | 0, k => by simp [ofBits]
  | n + 1, k => by
    have hlt := ofBits_lt f n
    have ih := ofBits_test f n
    unfold ofBits
    by_cases hf : f n = true
    · rw [if_pos hf, Nat.add_comm]
      rcases Nat.lt_trichotomy k n with h | h | h
      · rw [Nat.testBit_two_pow_add_gt h, ih k]
        simp [h, show k < n + 1 by omega]
      · subst h
        rw [Nat.testBit_two_pow_add_eq, ih k]
        simp [hf]
      · rw [Nat.testBit_lt_two_pow]
        · simp [show ¬ k < n + 1 by omega]
        · have : 2 ^ (n + 1) ≤ 2 ^ k := Nat.pow_le_pow_right (by omega) (by omega)
          rw [Nat.pow_succ] at this
          omega
    · rw [if_neg hf, Nat.add_zero, ih k]
      by_cases h : k < n
      · simp [h, show k < n + 1 by omega]
      · by_cases h' : k = n
        · subst h'
          simp [hf]
        · simp [h, show ¬ k < n + 1 by omega]
theorem test_hi {y n k : Nat} (h : y < 2 ^ n) (hk : n ≤ k) : y.testBit k = false :=
  Nat.testBit_lt_two_pow (Nat.lt_of_lt_of_le h (Nat.pow_le_pow_right (by omega) hk))

/-- the j-th byte of bits -/
def byteOf (l : List Bool) (j : Nat) : Nat := ofBits (fun k => l.getD (8 * j + k) false) 8
def many (n : Nat) : Nat := (n + 7) / 8
def packN (l : List Bool) (N : Nat) : List Nat := (List.range N).map (byteOf l)
def packBits (l : List Bool) : List Nat := packN l (many l.length)
def bitsOf (b : List Nat) (n : Nat) : List Bool := (List.range n).map fun i => (b.getD (i / 8) 0).testBit (i % 8)
theorem byteOf_lt (l : List Bool) (j : Nat) : byteOf l j < 256 := ofBits_lt _ 8
theorem byteOf_test (l : List Bool) (j k : Nat) : (byteOf l j).testBit k = (decide (k < 8) && l.getD (8 * j + k) false) := ofBits_test _ 8 k
theorem packN_length (l : List Bool) (N : Nat) : (packN l N).length = N := by simp [packN]
theorem packBits_length (l : List Bool) : (packBits l).length = many l.length := packN_length _ _
theorem packN_get (l : List Bool) {N j : Nat} (h : j < N) : (packN l N)[j]? = some (byteOf l j) := by simp [packN, h]
theorem packN_byte (l : List Bool) (N : Nat) : ∀ x ∈ packN l N, x < 256 := by
  intro x hx
  obtain ⟨j, _, rfl⟩ := List.mem_map.1 hx
  exact byteOf_lt l j
theorem packBits_byte (l : List Bool) : ∀ x ∈ packBits l, x < 256 := packN_byte _ _
theorem bitsOf_length (b : List Nat) (n : Nat) : (bitsOf b n).length = n := by simp [bitsOf]
theorem bitsOf_get (b : List Nat) {n i : Nat} (h : i < n) : (bitsOf b n)[i]? = some ((b.getD (i / 8) 0).testBit (i % 8)) := by simp [bitsOf, h]
theorem bitsOf_getD (b : List Nat) (n i : Nat) : (bitsOf b n).getD i false = (decide (i < n) && (b.getD (i / 8) 0).testBit (i % 8)) := by
  by_cases h : i < n
  · rw [List.getD_eq_getElem?_getD, bitsOf_get b h]; simp [h]
  · rw [List.getD_eq_getElem?_getD, List.getElem?_eq_none (by rw [bitsOf_length]; omega)]; simp [h]
theorem eq_of_test {x y : Nat} (hx : x < 256) (hy : y < 256) (h : ∀ k, k < 8 → x.testBit k = y.testBit k) : x = y := by
  apply Nat.eq_of_testBit_eq
  intro k
  by_cases hk : k < 8
  · exact h k hk
  · rw [test_hi (n := 8) hx (by omega), test_hi (n := 8) hy (by omega)]

/-! ### one bit more -/
theorem take_getD (l : List Bool) (i j : Nat) : (l.take i).getD j false = (decide (j < i) && l.getD j false) := by
  rw [List.getD_eq_getElem?_getD, List.getD_eq_getElem?_getD, List.getElem?_take]
  by_cases h : j < i <;> simp [h]
theorem byteOf_skip (l : List Bool) {i j : Nat} (h : l.getD i false = false ∨ j ≠ i / 8) : byteOf (l.take (i + 1)) j = byteOf (l.take i) j := by
  refine eq_of_test (byteOf_lt _ _) (byteOf_lt _ _) fun k hk => ?_
  rw [byteOf_test, byteOf_test, take_getD, take_getD]
  by_cases he : 8 * j + k = i
  · rcases h with h | h
    · rw [he, h]; simp
    · exfalso; omega
  · have : decide (8 * j + k < i + 1) = decide (8 * j + k < i) := by
      by_cases h2 : 8 * j + k < i
      · simp [h2, show 8 * j + k < i + 1 by omega]
      · simp [h2, show ¬ 8 * j + k < i + 1 by omega]
    rw [this]
theorem byteOf_set (l : List Bool) {i : Nat} (h : l.getD i false = true) : byteOf (l.take (i + 1)) (i / 8) = byteOf (l.take i) (i / 8) ||| 2 ^ (i % 8) := by
  have hp : 2 ^ (i % 8) < 256 := Nat.pow_lt_pow_right (a := 2) (n := 8) (by omega) (by omega)
  refine eq_of_test (byteOf_lt _ _) (Nat.or_lt_two_pow (n := 8) (byteOf_lt _ _) hp) fun k hk => ?_
  rw [byteOf_test, Nat.testBit_or, byteOf_test, take_getD, take_getD, Nat.testBit_two_pow]
  by_cases he : i % 8 = k
  · have e : 8 * (i / 8) + k = i := by omega
    rw [e, h]
    simp [he, hk]
  · have hne : 8 * (i / 8) + k ≠ i := by omega
    have : decide (8 * (i / 8) + k < i + 1) = decide (8 * (i / 8) + k < i) := by
      by_cases h2 : 8 * (i / 8) + k < i
      · simp [h2, show 8 * (i / 8) + k < i + 1 by omega]
      · simp [h2, show ¬ 8 * (i / 8) + k < i + 1 by omega]
    rw [this]
    simp [he]
theorem byteOf_fresh (l : List Bool) (i : Nat) : byteOf (l.take i) (i / 8) < 2 ^ (i % 8) := by
  apply Nat.lt_pow_two_of_testBit
  intro k hk
  rw [byteOf_test, take_getD]
  have : ¬ 8 * (i / 8) + k < i := by omega
  simp [this]
theorem or_add {y k : Nat} (h : y < 2 ^ k) : y ||| 2 ^ k = y + 2 ^ k := by
  apply Nat.eq_of_testBit_eq
  intro j
  rw [Nat.testBit_or, Nat.testBit_two_pow, Nat.add_comm]
  rcases Nat.lt_trichotomy j k with hj | hj | hj
  · rw [Nat.testBit_two_pow_add_gt hj]
    simp [show ¬ k = j by omega]
  · subst hj
    rw [Nat.testBit_two_pow_add_eq, test_hi h (Nat.le_refl _)]
    simp
  · rw [test_hi h (by omega), Nat.testBit_lt_two_pow]
    · simp [show ¬ k = j by omega]
    · have : 2 ^ (k + 1) ≤ 2 ^ j := Nat.pow_le_pow_right (by omega) (by omega)
      rw [Nat.pow_succ] at this
      omega
theorem packN_skip (l : List Bool) {i N : Nat} (h : l.getD i false = false) : packN (l.take (i + 1)) N = packN (l.take i) N := by
  unfold packN
  exact List.map_congr_left fun j _ => byteOf_skip l (.inl h)
theorem packN_set (l : List Bool) {i N : Nat} (h : l.getD i false = true) (hi : i / 8 < N) : packN (l.take (i + 1)) N = (packN (l.take i) N).set (i / 8) (byteOf (l.take i) (i / 8) ||| 2 ^ (i % 8)) := by
  apply List.ext_getElem?
  intro j
  rw [List.getElem?_set, packN_length]
  by_cases hj : i / 8 = j
  · subst hj
    rw [packN_get _ hi, byteOf_set l h]
    simp [hi]
  · rw [if_neg hj]
    by_cases hjN : j < N
    · rw [packN_get _ hjN, packN_get _ hjN, byteOf_skip l (.inr (fun e => hj e.symm))]
    · rw [List.getElem?_eq_none (by rw [packN_length]; omega), List.getElem?_eq_none (by rw [packN_length]; omega)]
theorem byteOf_zero (l : List Bool) {j : Nat} (h : l.length ≤ 8 * j) : byteOf l j = 0 := by
  refine eq_of_test (byteOf_lt _ _) (by decide) fun k hk => ?_
  rw [byteOf_test, List.getD_eq_getElem?_getD, List.getElem?_eq_none (by omega)]
  simp
theorem packN_nil (N : Nat) : packN [] N = List.replicate N 0 := by
  apply List.ext_getElem?
  intro j
  by_cases hj : j < N
  · rw [packN_get _ hj, byteOf_zero [] (by simp), List.getElem?_replicate, if_pos hj]
  · rw [List.getElem?_eq_none (by rw [packN_length]; omega), List.getElem?_eq_none (by simp; omega)]
theorem packN_snoc (l : List Bool) (N : Nat) (h : l.length ≤ 8 * N) : packN l (N + 1) = packN l N ++ [0] := by
  unfold packN
  rw [List.range_succ, List.map_append]
  simp [byteOf_zero l h]

/-! ### there and back -/
theorem bits_pack (l : List Bool) : bitsOf (packBits l) l.length = l := by
  apply List.ext_getElem?
  intro i
  by_cases h : i < l.length
  · rw [bitsOf_get _ h]
    have hm : i / 8 < many l.length := by unfold many; omega
    have hg : (packBits l).getD (i / 8) 0 = byteOf l (i / 8) := by
      rw [List.getD_eq_getElem?_getD]
      unfold packBits
      rw [packN_get _ hm]
      rfl
    rw [hg, byteOf_test, show 8 * (i / 8) + i % 8 = i by omega, List.getElem?_eq_getElem h, List.getD_eq_getElem?_getD, List.getElem?_eq_getElem h]
    simp
    omega
  · rw [List.getElem?_eq_none (by rw [bitsOf_length]; omega), List.getElem?_eq_none (by omega)]
/-- b is just n bits -/
def okB (b : List Nat) (n : Nat) : Bool := decide (n ≤ 8 * b.length) && decide (8 * b.length < n + 8) && (decide (n % 8 = 0) || decide (b.getD (b.length - 1) 0 / 2 ^ (n % 8) = 0))
theorem pack_byte {b : List Nat} (hb : ∀ x ∈ b, x < 256) (n j : Nat) : byteOf (bitsOf b n) j = (b.getD j 0) % 2 ^ (n - 8 * j) := by
  have hbj : b.getD j 0 < 256 := by
    rw [List.getD_eq_getElem?_getD]
    cases h : b[j]? with
    | none => decide
    | some x => exact hb x (List.mem_of_getElem? h)
  have hm : b.getD j 0 % 2 ^ (n - 8 * j) < 256 := Nat.lt_of_le_of_lt (Nat.mod_le _ _) hbj
  refine eq_of_test (byteOf_lt _ _) hm fun k hk => ?_
  rw [byteOf_test, bitsOf_getD, Nat.testBit_mod_two_pow, show (8 * j + k) / 8 = j by omega, show (8 * j + k) % 8 = k by omega]
  by_cases h : 8 * j + k < n
  · simp [h, hk, show k < n - 8 * j by omega]
  · simp [h, show ¬ k < n - 8 * j by omega]
theorem pack_bits {b : List Nat} (hb : ∀ x ∈ b, x < 256) {n : Nat} (hn : n ≤ 8 * b.length) : packBits (bitsOf b n) = b ↔ okB b n = true := by
  constructor
  · intro h
    have hl : many n = b.length := by
      have := congrArg List.length h
      rw [packBits_length, bitsOf_length] at this
      exact this
    have hl' : 8 * b.length < n + 8 := by unfold many at hl; omega
    unfold okB
    simp only [hn, hl', decide_true, Bool.true_and, Bool.or_eq_true, decide_eq_true_eq]
    by_cases h8 : n % 8 = 0
    · exact .inl h8
    · right
      have hlast : b.length - 1 < many n := by unfold many at *; omega
      have hg : (packBits (bitsOf b n))[b.length - 1]? = some (byteOf (bitsOf b n) (b.length - 1)) := by
        unfold packBits
        rw [bitsOf_length]
        exact packN_get _ hlast
      rw [h, pack_byte hb] at hg
      have he : b.getD (b.length - 1) 0 = b.getD (b.length - 1) 0 % 2 ^ (n - 8 * (b.length - 1)) := by
        conv => lhs; rw [List.getD_eq_getElem?_getD, hg]
        rfl
      have hexp : n - 8 * (b.length - 1) = n % 8 := by unfold many at *; omega
      rw [hexp] at he
      rw [Nat.div_eq_zero_iff]
      right
      rw [he]
      exact Nat.mod_lt _ (Nat.two_pow_pos _)
  · intro h
    unfold okB at h
    simp only [Bool.and_eq_true, Bool.or_eq_true, decide_eq_true_eq] at h
    obtain ⟨⟨_, hl⟩, hlast⟩ := h
    have hm : many n = b.length := by unfold many; omega
    apply List.ext_getElem?
    intro j
    by_cases hj : j < b.length
    · unfold packBits
      rw [bitsOf_length, packN_get _ (by omega), pack_byte hb, List.getElem?_eq_getElem hj]
      have hgj : b.getD j 0 = b[j] := by rw [List.getD_eq_getElem?_getD, List.getElem?_eq_getElem hj]; rfl
      rw [hgj]
      congr 1
      apply Nat.mod_eq_of_lt
      by_cases hfull : 8 * j + 8 ≤ n
      · exact Nat.lt_of_lt_of_le (hb _ (List.getElem_mem hj)) (Nat.pow_le_pow_right (n := 2) (show 0 < 2 by omega) (show 8 ≤ n - 8 * j by omega))
      · have hjl : j = b.length - 1 := by omega
        have hn8 : n % 8 ≠ 0 := by omega
        rcases hlast with h0 | h0
        · exact absurd h0 hn8
        · rw [← hjl, hgj, Nat.div_eq_zero_iff] at h0
          rw [show n - 8 * j = n % 8 by omega]
          rcases h0 with h0 | h0
          · exact absurd h0 (Nat.ne_of_gt (Nat.two_pow_pos _))
          · exact h0
    · rw [List.getElem?_eq_none (by rw [packBits_length, bitsOf_length]; omega), List.getElem?_eq_none (by omega)]
/-- the document's Bits -/
def bits (b : List Nat) (n : Int) : List Bool := if 0 ≤ n ∧ okB b n.toNat = true then bitsOf b n.toNat else []
theorem ok_pack (l : List Bool) : okB (packBits l) l.length = true := by
  have hle : l.length ≤ 8 * (packBits l).length := by rw [packBits_length]; unfold many; omega
  rw [← pack_bits (packBits_byte l) hle, bits_pack]
theorem bits_back (l : List Bool) : bits (packBits l) (l.length : Int) = l := by
  unfold bits
  rw [if_pos ⟨by omega, by simpa using ok_pack l⟩]
  simpa using bits_pack l
theorem pack_back {b : List Nat} (hb : ∀ x ∈ b, x < 256) {n : Int} (h : bits b n ≠ []) : (bits b n).length = n.toNat ∧ packBits (bits b n) = b := by
  unfold bits at h ⊢
  by_cases hc : 0 ≤ n ∧ okB b n.toNat = true
  · rw [if_pos hc]
    refine ⟨bitsOf_length _ _, (pack_bits hb ?_).2 hc.2⟩
    have := hc.2
    unfold okB at this
    simp only [Bool.and_eq_true, decide_eq_true_eq] at this
    exact this.1.1
  · rw [if_neg hc] at h
    exact absurd rfl h
end Go.Proofs.Ytfdbajalhnenhaa.Bt
