/- Layer 15: the document's Times is the program's: as a fraction that can't be made smaller. No program in sight. -/
import Derived.Test.YthhokpaidekmnaaVrA
namespace Go.Proofs.Ythhokpaidekmnaa
set_option linter.unusedVariables false
set_option linter.unusedSimpArgs false
/-- behind k digits: n * num / below is the value times 10^k, and can't be made smaller; Q / den is the value in millionths -/
structure TmI (N0 Q den num k n below : Nat) : Prop where
 hk : k ≤ 6
 co : (n * num).Coprime below
 eq : n * num * 10 ^ (6 - k) * den = Q * below
 b1 : 1 ≤ below
 n1 : 1 ≤ n
 nb : n ≤ N0 * 10 ^ k
theorem gcd_parts {a b : Nat} (ha : 1 ≤ a) : 1 ≤ Nat.gcd a b ∧ Nat.gcd a b ≤ a ∧ a / Nat.gcd a b * Nat.gcd a b = a ∧ b / Nat.gcd a b * Nat.gcd a b = b ∧ (a / Nat.gcd a b).Coprime (b / Nat.gcd a b) ∧ 1 ≤ a / Nat.gcd a b := by
 have hg : 0 < Nat.gcd a b := Nat.gcd_pos_of_pos_left _ ha
 have h1 := Nat.div_mul_cancel (Nat.gcd_dvd_left a b)
 refine ⟨hg, Nat.le_of_dvd ha (Nat.gcd_dvd_left a b), h1, Nat.div_mul_cancel (Nat.gcd_dvd_right a b), Nat.coprime_div_gcd_div_gcd hg, ?_⟩
 rcases Nat.eq_zero_or_pos (a / Nat.gcd a b) with h0 | h0
 ·rw [h0, Nat.zero_mul] at h1; omega
 ·exact h0
theorem dvd_of_mul {a b c : Nat} (h : a * b = c) : a ∣ c := ⟨b, h.symm⟩
/-- the fraction as it is laid -/
theorem TmI.start {N num0 den0 d n1 den1 num1 den2 num2 ten1 n2 ten2 : Nat} (hd : d ≤ 6) (hN : 1 ≤ N) (hnum : 1 ≤ num0) (hden : 1 ≤ den0)
  (e1 : n1 = N / Nat.gcd N den0) (e2 : den1 = den0 / Nat.gcd N den0) (e3 : num1 = num0 / Nat.gcd num0 den1) (e4 : den2 = den1 / Nat.gcd num0 den1)
  (e5 : num2 = num1 / Nat.gcd num1 (10 ^ d)) (e6 : ten1 = 10 ^ d / Nat.gcd num1 (10 ^ d)) (e7 : n2 = n1 / Nat.gcd n1 ten1) (e8 : ten2 = ten1 / Nat.gcd n1 ten1) :
  TmI N (N * 10 ^ (6 - d) * num0) den0 num2 0 n2 (den2 * ten2) ∧ 1 ≤ num2 ∧ num2 ≤ num0 := by
 obtain ⟨a1, _, a2, a3, a4, a5⟩ := gcd_parts (b := den0) hN
 rw [← e1] at a2 a4 a5
 rw [← e2] at a3 a4
 obtain ⟨b1, _, b2, b3, b4, b5⟩ := gcd_parts (b := den1) hnum
 rw [← e3] at b2 b4 b5
 rw [← e4] at b3 b4
 obtain ⟨c1, _, c2, c3, c4, c5⟩ := gcd_parts (b := 10 ^ d) b5
 rw [← e5] at c2 c4 c5
 rw [← e6] at c3 c4
 obtain ⟨d1, _, d2, d3, d4, d5⟩ := gcd_parts (b := ten1) a5
 rw [← e7] at d2 d4 d5
 rw [← e8] at d3 d4
 obtain ⟨g1, h1⟩ : ∃ g, Nat.gcd N den0 = g := ⟨_, rfl⟩
 obtain ⟨g2, h2⟩ : ∃ g, Nat.gcd num0 den1 = g := ⟨_, rfl⟩
 obtain ⟨g3, h3⟩ : ∃ g, Nat.gcd num1 (10 ^ d) = g := ⟨_, rfl⟩
 obtain ⟨g4, h4⟩ : ∃ g, Nat.gcd n1 ten1 = g := ⟨_, rfl⟩
 rw [h1] at a1 a2 a3
 rw [h2] at b1 b2 b3
 rw [h3] at c1 c2 c3
 rw [h4] at d1 d2 d3
 have p10 : 1 ≤ 10 ^ d := Nat.pos_of_ne_zero (by simp)
 have hden2 : 1 ≤ den2 := by
  rcases Nat.eq_zero_or_pos den2 with h0 | h0
  ·rw [h0, Nat.zero_mul] at b3; rw [← b3, Nat.zero_mul] at a3; omega
  ·exact h0
 have hten2 : 1 ≤ ten2 := by
  rcases Nat.eq_zero_or_pos ten2 with h0 | h0
  ·rw [h0, Nat.zero_mul] at d3; rw [← d3, Nat.zero_mul] at c3; omega
  ·exact h0
 have k1 : n2.Coprime den2 := (a4.coprime_dvd_left (dvd_of_mul d2)).coprime_dvd_right (dvd_of_mul b3)
 have k2 : num2.Coprime den2 := b4.coprime_dvd_left (dvd_of_mul c2)
 have k3 : num2.Coprime ten2 := c4.coprime_dvd_right (dvd_of_mul d3)
 refine ⟨⟨by omega, (Nat.Coprime.mul_left k1 k2).mul_right (Nat.Coprime.mul_left d4 k3), ?_, Nat.mul_pos hden2 hten2, d5, ?_⟩, c5, ?_⟩
 ·have hp : 10 ^ 6 = 10 ^ (6 - d) * (ten2 * g4 * g3) := by
   rw [d3, c3, ← Nat.pow_add, show 6 - d + d = 6 by omega]
  rw [Nat.sub_zero, hp, ← a2, ← d2, ← b2, ← c2, ← a3, ← b3]
  simp only [Nat.mul_assoc, Nat.mul_comm, Nat.mul_left_comm]
 ·rw [Nat.pow_zero, Nat.mul_one, ← a2, ← d2, Nat.mul_assoc]
  exact Nat.le_mul_of_pos_right _ (Nat.mul_pos d1 a1)
 ·rw [← b2, ← c2, Nat.mul_assoc]
  exact Nat.le_mul_of_pos_right _ (Nat.mul_pos c1 b1)
theorem TmI.step {N0 Q den num k n below g : Nat} (h : TmI N0 Q den num k n below) (hk : k < 6) (hg : Nat.gcd below 10 = g) : TmI N0 Q den num (k + 1) (n * (10 / g)) (below / g) := by
 obtain ⟨a1, _, a2, a3, a4, a5⟩ := gcd_parts (b := 10) h.b1
 rw [hg] at a1 a2 a3 a4 a5
 have hq : 1 ≤ 10 / g := by
  rcases Nat.eq_zero_or_pos (10 / g) with h0 | h0
  ·rw [h0, Nat.zero_mul] at a3; omega
  ·exact h0
 refine ⟨by omega, ?_, ?_, a5, Nat.mul_pos h.n1 hq, ?_⟩
 ·have e : n * (10 / g) * num = (n * num) * (10 / g) := by simp only [Nat.mul_assoc, Nat.mul_comm, Nat.mul_left_comm]
  rw [e]
  exact Nat.Coprime.mul_left (h.co.coprime_dvd_right (dvd_of_mul a2)) a4.symm
 ·apply Nat.eq_of_mul_eq_mul_right (show 0 < g by omega)
  have e1 : Q * (below / g) * g = Q * below := by rw [Nat.mul_assoc, a2]
  rw [e1, ← h.eq, show 6 - k = 6 - (k + 1) + 1 by omega, Nat.pow_succ]
  have e2 : n * (10 / g) * num * 10 ^ (6 - (k + 1)) * den * g = n * num * 10 ^ (6 - (k + 1)) * den * (10 / g * g) := by simp only [Nat.mul_assoc, Nat.mul_comm, Nat.mul_left_comm]
  rw [e2, a3]
  simp only [Nat.mul_assoc, Nat.mul_comm, Nat.mul_left_comm]
 ·rw [Nat.pow_succ, ← Nat.mul_assoc]
  have : 10 / g ≤ 10 := Nat.div_le_self _ _
  exact Nat.mul_le_mul h.nb this
theorem stripI_nat : ∀ (k m : Nat), Vd.stripI (m : Int) k = (((Vd.strip m k).1 : Int), (Vd.strip m k).2)
 | 0, m => rfl
 | k + 1, m => by
  by_cases h : m % 10 = 0
  ·rw [strip_step h, stripI_step (show (m : Int) % 10 = 0 by omega), show (m : Int) / 10 = ((m / 10 : Nat) : Int) by omega, stripI_nat k]
  ·rw [strip_stop (.inr h), stripI_stop (show (m : Int) % 10 ≠ 0 by omega)]
theorem stripI_neg : ∀ (k m : Nat), Vd.stripI (-(m : Int)) k = (-((Vd.strip m k).1 : Int), (Vd.strip m k).2)
 | 0, m => rfl
 | k + 1, m => by
  by_cases h : m % 10 = 0
  ·rw [strip_step h, stripI_step (show (-(m : Int)) % 10 = 0 by omega), show -(m : Int) / 10 = -((m / 10 : Nat) : Int) by omega, stripI_neg k]
  ·rw [strip_stop (.inr h), stripI_stop (show (-(m : Int)) % 10 ≠ 0 by omega)]
/-- what ofQ answers, of a whole number and its digits -/
theorem ofQ_of {x : Dc} {m k : Nat} (hk : k ≤ 6) : Vd.ofQ x (m * 10 ^ (6 - k)) = Vd.ofI (if x.n < 0 then -(m : Int) else (m : Int)) k := by
 unfold Vd.ofQ Vd.ofI
 have hs := strip_mul m k (6 - k)
 rw [show k + (6 - k) = 6 by omega] at hs
 rw [hs]
 by_cases hx : x.n < 0
 ·rw [if_pos hx, if_pos hx, stripI_neg]
  dsimp only
  by_cases hb : 1000000000000 < (Vd.strip m k).1
  ·rw [if_pos hb, if_pos (.inr (by omega))]
  ·rw [if_neg hb, if_neg (by omega)]
 ·rw [if_neg hx, if_neg hx, stripI_nat]
  dsimp only
  by_cases hb : 1000000000000 < (Vd.strip m k).1
  ·rw [if_pos hb, if_pos (.inl (by omega))]
  ·rw [if_neg hb, if_neg (by omega)]
theorem ofQ_huge {x : Dc} {m k : Nat} (hk : k ≤ 6) (hm : 4000000000000000000 < m) : Vd.ofQ x (m * 10 ^ (6 - k)) = none := by
 unfold Vd.ofQ
 have hs := strip_mul m k (6 - k)
 rw [show k + (6 - k) = 6 by omega] at hs
 rw [hs]
 obtain ⟨h1, h2, _⟩ := strip_spec k m
 have hp : 10 ^ (k - (Vd.strip m k).2) ≤ 1000000 := (pow10_le (k := k - (Vd.strip m k).2) (by omega)).2
 rw [if_pos]
 have h3 : (Vd.strip m k).1 * 10 ^ (k - (Vd.strip m k).2) ≤ (Vd.strip m k).1 * 1000000 := Nat.mul_le_mul_left _ hp
 omega
/-- the value, when nothing is below -/
theorem TmI.one {x : Dc} {N0 num0 den num k n : Nat} (h : TmI N0 ((Vd.mil x).natAbs * num0) den num k n 1) (hf : Vd.facOk x num0 den = true) (hden : 1 ≤ den) : Vd.times x num0 den = Vd.ofQ x (n * num * 10 ^ (6 - k)) := by
 have he := h.eq
 rw [Nat.mul_one] at he
 unfold Vd.times
 rw [if_pos hf, ← he, if_pos (Nat.mul_mod_left _ _), Nat.mul_div_cancel _ hden]
/-- none, if something is below in the end -/
theorem TmI.six {x : Dc} {N0 num0 den num n below : Nat} (h : TmI N0 ((Vd.mil x).natAbs * num0) den num 6 n below) (hden : 1 ≤ den) (hb : below ≠ 1) : Vd.times x num0 den = none := by
 unfold Vd.times
 split
 ·split
  ·rename_i hm
   exfalso
   have hq := Nat.div_mul_cancel (Nat.dvd_of_mod_eq_zero hm)
   have he := h.eq
   rw [Nat.sub_self, Nat.pow_zero, Nat.mul_one, ← hq] at he
   have hd : n * num = (Vd.mil x).natAbs * num0 / den * below := by
    apply Nat.eq_of_mul_eq_mul_right (show 0 < den by omega)
    rw [he]
    simp only [Nat.mul_assoc, Nat.mul_comm, Nat.mul_left_comm]
   exact hb (h.co.symm.eq_one_of_dvd ⟨_, by rw [hd, Nat.mul_comm]⟩)
  ·rfl
 ·rfl
theorem times_zero (d a b : Nat) (hf : Vd.facOk ⟨0, d⟩ a b = true) : Vd.times ⟨0, d⟩ a b = some ⟨0, 0⟩ := by
 unfold Vd.times
 have : (Vd.mil ⟨0, d⟩).natAbs = 0 := by unfold Vd.mil; simp
 rw [if_pos hf, this, Nat.zero_mul, if_pos (Nat.zero_mod _), Nat.zero_div]
 rfl
end Go.Proofs.Ythhokpaidekmnaa
