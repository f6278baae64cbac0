/- The plain law of a bus: what is under way, bits that are turned. No program in sight. -/
import Derived.Test.YthigkmoilfdciaaBase
namespace Go.Proofs.Ythigkmoilfdciaa
set_option linter.unusedVariables false
set_option linter.unusedSimpArgs false
/-- a parcel -/
structure Par where
  s : Int
  up : Bool
  b : List Nat
/-- a fate -/
structure Fa where
  lost : Bool
  twice : Bool
  wait : Nat
  again : Nat
  at_ : Nat
  turns : Nat
structure Fa.Fit (f : Fa) : Prop where
  wait : f.wait < 256
  again : f.again < 256
  at_ : f.at_ < 65536
  turns : f.turns < 65536
/-- a bus: its links, the time, what is under way in the order in which it was sent, and when it comes -/
structure Bu where
  rtu : List Bool
  time : Nat
  l : List (Nat × Par)
namespace Bu
def maskTo (T : Nat → Bool) (j : Nat) : Nat → Nat
  | 0 => 0
  | k + 1 => maskTo T j k ^^^ (if T (8 * j + k) = true then 2 ^ k else 0)
theorem maskTo_bit (T : Nat → Bool) (j q : Nat) : ∀ k, (maskTo T j k).testBit q = (decide (q < k) && T (8 * j + q))
  | 0 => by simp [maskTo]
  | k + 1 => by
    rw [maskTo, Nat.testBit_xor, maskTo_bit T j q k]
    by_cases h : T (8 * j + k) = true
    · rw [if_pos h, Nat.testBit_two_pow]
      by_cases hq : k = q
      · subst hq
        simp [h]
      · have h1 : decide (q < k + 1) = decide (q < k) := by
          rw [decide_eq_decide]; omega
        rw [h1]
        simp [hq]
    · rw [if_neg h, Nat.zero_testBit]
      by_cases hq : k = q
      · subst hq
        have : T (8 * j + k) = false := by simpa using h
        simp [this]
      · have h1 : decide (q < k + 1) = decide (q < k) := by
          rw [decide_eq_decide]; omega
        rw [h1]
        simp
theorem maskTo_lt' (T : Nat → Bool) (j : Nat) : ∀ k, maskTo T j k < 2 ^ k
  | 0 => by simp [maskTo]
  | k + 1 => by
    rw [maskTo]
    have h1 : maskTo T j k < 2 ^ (k + 1) := Nat.lt_of_lt_of_le (maskTo_lt' T j k) (Nat.pow_le_pow_right (by decide) (Nat.le_succ k))
    have h2 : (if T (8 * j + k) = true then 2 ^ k else 0) < 2 ^ (k + 1) := by
      split
      · exact Nat.pow_lt_pow_right (by decide) (Nat.lt_succ_self k)
      · exact Nat.two_pow_pos _
    exact Nat.xor_lt_two_pow h1 h2
theorem maskTo_lt (T : Nat → Bool) (j : Nat) : maskTo T j 8 < 256 := maskTo_lt' T j 8
theorem mask_congr {T T' : Nat → Bool} {j : Nat} (h : ∀ q, q < 8 → T (8 * j + q) = T' (8 * j + q)) : maskTo T j 8 = maskTo T' j 8 := by
  apply Nat.eq_of_testBit_eq
  intro q
  rw [maskTo_bit, maskTo_bit]
  by_cases hq : q < 8
  · rw [h q hq]
  · simp [hq]
theorem mask_one {T T' : Nat → Bool} {n : Nat} (h0 : T n = false) (h1 : T' n = true) (h : ∀ m, m ≠ n → T m = T' m) : maskTo T' (n / 8) 8 = maskTo T (n / 8) 8 ^^^ 2 ^ (n % 8) := by
  apply Nat.eq_of_testBit_eq
  intro q
  rw [maskTo_bit, Nat.testBit_xor, maskTo_bit, Nat.testBit_two_pow]
  by_cases hq : q = n % 8
  · subst hq
    have e : 8 * (n / 8) + n % 8 = n := Nat.div_add_mod n 8
    have hl : n % 8 < 8 := Nat.mod_lt _ (by decide)
    simp [e, h0, h1, hl]
  · have hne : 8 * (n / 8) + q ≠ n ∨ ¬ q < 8 := by omega
    have hq2 : ¬ n % 8 = q := fun e => hq e.symm
    rcases hne with hne | hne
    · rw [h _ hne]
      simp [hq2]
    · simp [hne, hq2]
/-- bytes of which bits are turned -/
def turn (T : Nat → Bool) (b : List Nat) : List Nat := b.mapIdx fun j x => x ^^^ maskTo T j 8
theorem turn_length (T : Nat → Bool) (b : List Nat) : (turn T b).length = b.length := by simp [turn]
theorem turn_get {T : Nat → Bool} {b : List Nat} {j x : Nat} (h : b[j]? = some x) : (turn T b)[j]? = some (x ^^^ maskTo T j 8) := by
  simp [turn, List.getElem?_mapIdx, h]
theorem turn_u {T : Nat → Bool} {b : List Nat} (h : ∀ x ∈ b, x < 256) : ∀ x ∈ turn T b, x < 256 := by
  intro x hx
  obtain ⟨j, hj⟩ := List.getElem?_of_mem hx
  have hjl : j < b.length := by have := (List.getElem?_eq_some_iff.1 hj).1; rwa [turn_length] at this
  rw [turn_get (List.getElem?_eq_getElem hjl)] at hj
  obtain rfl := Option.some.inj hj
  exact Nat.xor_lt_two_pow (n := 8) (h _ (List.getElem_mem hjl)) (maskTo_lt T j)
theorem turn_congr {T T' : Nat → Bool} {b : List Nat} (h : ∀ n, n < 8 * b.length → T n = T' n) : turn T b = turn T' b := by
  apply List.ext_getElem?
  intro j
  by_cases hj : j < b.length
  · rw [turn_get (List.getElem?_eq_getElem hj), turn_get (List.getElem?_eq_getElem hj), mask_congr (fun q hq => h _ (by omega))]
  · rw [List.getElem?_eq_none (by rw [turn_length]; omega), List.getElem?_eq_none (by rw [turn_length]; omega)]
theorem turn_one {T T' : Nat → Bool} {b : List Nat} {n x : Nat} (h0 : T n = false) (h1 : T' n = true) (h : ∀ m, m ≠ n → T m = T' m) (hx : (turn T b)[n / 8]? = some x) : turn T' b = (turn T b).set (n / 8) (x ^^^ 2 ^ (n % 8)) := by
  have hl : n / 8 < b.length := by have := (List.getElem?_eq_some_iff.1 hx).1; rwa [turn_length] at this
  rw [turn_get (List.getElem?_eq_getElem hl)] at hx
  obtain rfl := Option.some.inj hx
  apply List.ext_getElem?
  intro j
  rw [List.getElem?_set]
  by_cases hj : n / 8 = j
  · subst hj
    rw [if_pos rfl, if_pos (by rw [turn_length]; exact hl), turn_get (List.getElem?_eq_getElem hl), mask_one h0 h1 h, Nat.xor_assoc]
  · rw [if_neg hj]
    by_cases hjl : j < b.length
    · rw [turn_get (List.getElem?_eq_getElem hjl), turn_get (List.getElem?_eq_getElem hjl), mask_congr (fun q hq => (h _ (by omega)).symm)]
    · rw [List.getElem?_eq_none (by rw [turn_length]; omega), List.getElem?_eq_none (by rw [turn_length]; omega)]
theorem turn_none (b : List Nat) : turn (fun _ => false) b = b := by
  apply List.ext_getElem?
  intro j
  have hz : ∀ k, maskTo (fun _ => false) j k = 0 := by
    intro k
    induction k with
    | zero => rfl
    | succ k ih => rw [maskTo, ih]; simp
  by_cases hj : j < b.length
  · rw [turn_get (List.getElem?_eq_getElem hj), hz, List.getElem?_eq_getElem hj, Nat.xor_zero]
  · rw [List.getElem?_eq_none (by rw [turn_length]; omega), List.getElem?_eq_none (by omega)]
/-- which bits are turned: those of turns, its first m ones, from a bit on -/
def tset (f turns m n : Nat) : Bool := decide (f ≤ n ∧ n < f + m) && turns.testBit (n - f)
theorem tset_zero (f turns : Nat) : tset f turns 0 = fun _ => false := by
  funext n
  unfold tset
  rw [Bool.and_eq_false_iff]
  exact .inl (decide_eq_false (by omega))
theorem tset_turns0 (f m : Nat) : tset f 0 m = fun _ => false := by
  funext n
  simp [tset]
theorem tset_other {f turns m n : Nat} (h : n ≠ f + m) : tset f turns m n = tset f turns (m + 1) n := by
  unfold tset
  congr 1
  rw [decide_eq_decide]
  omega
theorem tset_not {f turns m : Nat} : tset f turns m (f + m) = false := by
  unfold tset
  rw [Bool.and_eq_false_iff]
  exact .inl (decide_eq_false (by omega))
theorem tset_here {f turns m : Nat} : tset f turns (m + 1) (f + m) = turns.testBit m := by
  unfold tset
  rw [show decide (f ≤ f + m ∧ f + m < f + (m + 1)) = true from decide_eq_true (by omega), Bool.true_and, Nat.add_sub_cancel_left]
/-- one more bit of turns that is 0, or stands behind all bytes: nothing -/
theorem turn_skip {b : List Nat} {f turns m : Nat} (h : turns.testBit m = false ∨ 8 * b.length ≤ f + m) : turn (tset f turns (m + 1)) b = turn (tset f turns m) b := by
  refine turn_congr fun n hn => ?_
  by_cases e : n = f + m
  · subst e
    rcases h with h | h
    · rw [tset_here, tset_not, h]
    · omega
  · exact (tset_other e).symm
/-- one that is 1: its bit -/
theorem turn_bit {b : List Nat} {f turns m x : Nat} (h : turns.testBit m = true) (hx : (turn (tset f turns m) b)[(f + m) / 8]? = some x) : turn (tset f turns (m + 1)) b = (turn (tset f turns m) b).set ((f + m) / 8) (x ^^^ 2 ^ ((f + m) % 8)) :=
  turn_one tset_not (by rw [tset_here, h]) (fun n hn => tset_other hn) hx
/-- bytes that are turned as a fate says -/
def turned (b : List Nat) (at_ turns : Nat) : List Nat := turn (tset (at_ % (8 * b.length)) turns 16) b
theorem turned_length (b : List Nat) (at_ turns : Nat) : (turned b at_ turns).length = b.length := turn_length _ _
theorem turned_zero (b : List Nat) (at_ : Nat) : turned b at_ 0 = b := by unfold turned; rw [tset_turns0, turn_none]
/-- may a parcel be sent? -/
def right (n : Nat) (p : Par) : Bool := decide (0 ≤ p.s ∧ p.s < (n : Int) ∧ 1 ≤ p.b.length ∧ p.b.length ≤ 300)
/-- what is under way behind a parcel that is right -/
def send (x : Bu) (p : Par) (f : Fa) : Bu :=
  if f.lost = true then x else
    ⟨x.rtu, x.time, x.l ++ (x.time + 1 + f.wait, ⟨p.s, p.up, turned p.b f.at_ (if x.rtu.getD p.s.toNat false = true then f.turns else 0)⟩) :: (if f.twice = true then [(x.time + 1 + f.again, p)] else [])⟩
def tick (x : Bu) : Bu × List Par := (⟨x.rtu, x.time + 1, x.l.filter fun q => decide (q.1 ≠ x.time + 1)⟩, (x.l.filter fun q => decide (q.1 = x.time + 1)).map (·.2))
/-- what comes at a time -/
def at_ (x : Bu) (t : Nat) : List Par := (x.l.filter fun q => decide (q.1 = t)).map (·.2)
theorem at_snoc (r : List Bool) (time : Nat) (l : List (Nat × Par)) (t t' : Nat) (p : Par) : at_ ⟨r, time, l ++ [(t', p)]⟩ t = at_ ⟨r, time, l⟩ t ++ (if t' = t then [p] else []) := by
  unfold at_
  rw [List.filter_append, List.map_append]
  by_cases h : t' = t <;> simp [h, List.filter_cons]
theorem tick_len (x : Bu) : (tick x).1.l.length + (tick x).2.length = x.l.length := by
  unfold tick
  simp only [List.length_map]
  induction x.l with
  | nil => rfl
  | cons q l ih =>
    by_cases h : q.1 = x.time + 1 <;> simp [List.filter_cons, h] <;> simp at ih <;> omega
end Bu
end Go.Proofs.Ythigkmoilfdciaa
