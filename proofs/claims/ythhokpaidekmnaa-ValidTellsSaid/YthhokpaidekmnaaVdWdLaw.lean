/- Layer 15: the plain law of ValidWords. -/
import Derived.Test.YthhokpaidekmnaaVdFind
namespace Go.Proofs.Ythhokpaidekmnaa
set_option linter.unusedVariables false
set_option linter.unusedSimpArgs false
theorem mul_ten_mod (n : Int) (e : Nat) : n * 10 ^ (e + 1) % 10 = 0 ∧ n * 10 ^ (e + 1) / 10 = n * 10 ^ e := by
 rw [Int.pow_succ, ← Int.mul_assoc]
 omega
theorem stripI_mul (n : Int) (d : Nat) : ∀ e, Vd.stripI (n * 10 ^ e) (d + e) = Vd.stripI n d
 | 0 => by simp
 | e + 1 => by
  have := mul_ten_mod n e
  rw [← Nat.add_assoc, stripI_step this.1, this.2]
  exact stripI_mul n d e
theorem mulN_ten_mod (n e : Nat) : n * 10 ^ (e + 1) % 10 = 0 ∧ n * 10 ^ (e + 1) / 10 = n * 10 ^ e := by
 rw [Nat.pow_succ, ← Nat.mul_assoc]
 omega
theorem strip_mul (n : Nat) (d : Nat) : ∀ e, Vd.strip (n * 10 ^ e) (d + e) = Vd.strip n d
 | 0 => by simp
 | e + 1 => by
  have := mulN_ten_mod n e
  rw [← Nat.add_assoc, strip_step this.1, this.2]
  exact strip_mul n d e
theorem stripI_right {n : Int} {d : Nat} (h : d = 0 ∨ n % 10 ≠ 0) : Vd.stripI n d = (n, d) := by
 rcases h with rfl | h
 ·rfl
 ·exact stripI_stop h
theorem stripI_spec : ∀ (k : Nat) (n : Int), (Vd.stripI n k).2 ≤ k ∧ n = (Vd.stripI n k).1 * 10 ^ (k - (Vd.stripI n k).2) ∧ ((Vd.stripI n k).2 = 0 ∨ (Vd.stripI n k).1 % 10 ≠ 0)
 | 0, n => by simp [Vd.stripI]
 | k + 1, n => by
  by_cases h : n % 10 = 0
  ·rw [stripI_step h]
   obtain ⟨h1, h2, h3⟩ := stripI_spec k (n / 10)
   refine ⟨by omega, ?_, h3⟩
   rw [show k + 1 - (Vd.stripI (n / 10) k).2 = k - (Vd.stripI (n / 10) k).2 + 1 by omega, Int.pow_succ, ← Int.mul_assoc, ← h2]
   omega
  ·rw [stripI_stop h]
   exact ⟨Nat.le_refl _, by simp, .inr h⟩
theorem strip_spec : ∀ (k n : Nat), (Vd.strip n k).2 ≤ k ∧ n = (Vd.strip n k).1 * 10 ^ (k - (Vd.strip n k).2) ∧ ((Vd.strip n k).2 = 0 ∨ (Vd.strip n k).1 % 10 ≠ 0)
 | 0, n => by simp [Vd.strip]
 | k + 1, n => by
  by_cases h : n % 10 = 0
  ·rw [strip_step h]
   obtain ⟨h1, h2, h3⟩ := strip_spec k (n / 10)
   refine ⟨by omega, ?_, h3⟩
   rw [show k + 1 - (Vd.strip (n / 10) k).2 = k - (Vd.strip (n / 10) k).2 + 1 by omega, Nat.pow_succ, ← Nat.mul_assoc, ← h2]
   omega
  ·rw [strip_stop (.inr h)]
   exact ⟨Nat.le_refl _, by simp, .inr h⟩
theorem word_worth {v : Dc} {dg : Int} {sg : Bool} {w : Nat} (h0 : 0 ≤ dg) (h : Vd.word v dg sg = some w) : w < 65536 ∧ Vd.worth w dg sg = some v := by
 obtain ⟨n, d⟩ := v
 unfold Vd.word at h
 split at h
 ·rename_i hc
  obtain ⟨hr, hd, hdg⟩ := hc
  obtain ⟨_, _, _, hs⟩ := rightD_out hr
  obtain ⟨k, rfl⟩ : ∃ k : Nat, dg = (k : Int) := ⟨dg.toNat, by omega⟩
  rw [Int.toNat_natCast] at h
  dsimp only at hd
  obtain ⟨e, rfl⟩ : ∃ e, k = d + e := ⟨k - d, by omega⟩
  have hN : Vd.scaled ⟨n, d⟩ (d + e) = n * 10 ^ e := by unfold Vd.scaled; dsimp only; rw [show d + e - d = e by omega]
  rw [hN] at h
  have hst : Vd.stripI (n * 10 ^ e) (d + e) = (n, d) := by rw [stripI_mul]; exact stripI_right hs
  obtain ⟨N, hNN⟩ : ∃ N, n * 10 ^ e = N := ⟨_, rfl⟩
  rw [hNN] at h hst
  unfold Vd.worth
  rw [if_pos (by omega), Int.toNat_natCast]
  cases sg
  ·rw [if_neg (by decide)] at h
   split at h
   ·rename_i hb
    obtain rfl : N.toNat = w := by simpa using h
    have : Vd.regI N.toNat false = N := by unfold Vd.regI; simp; omega
    rw [this, hst]
    exact ⟨by omega, rfl⟩
   ·cases h
  ·rw [if_pos rfl] at h
   split at h
   ·rename_i hb
    obtain rfl : (N % 65536).toNat = w := by simpa using h
    have : Vd.regI (N % 65536).toNat true = N := by unfold Vd.regI; simp only [true_and]; split <;> omega
    rw [this, hst]
    exact ⟨by omega, rfl⟩
   ·cases h
 ·cases h
theorem worth_word {v : Dc} {dg : Int} {sg : Bool} {w : Nat} (hw : w < 65536) (h : Vd.worth w dg sg = some v) : Vd.rightD v = true ∧ Vd.word v dg sg = some w := by
 unfold Vd.worth at h
 split at h
 ·rename_i hc
  obtain ⟨k, rfl⟩ : ∃ k : Nat, dg = (k : Int) := ⟨dg.toNat, by omega⟩
  rw [Int.toNat_natCast] at h
  have hrb := regI_bound w sg hw
  have hre : (sg = false ∧ Vd.regI w sg = (w : Int)) ∨ (sg = true ∧ -32768 ≤ Vd.regI w sg ∧ Vd.regI w sg ≤ 32767 ∧ (Vd.regI w sg % 65536).toNat = w) := by
   cases sg
   ·left; refine ⟨rfl, ?_⟩; unfold Vd.regI; simp
   ·right; refine ⟨rfl, ?_⟩; unfold Vd.regI; simp only [true_and]; split <;> omega
  obtain ⟨N, hN⟩ : ∃ N, Vd.regI w sg = N := ⟨_, rfl⟩
  rw [hN] at h hrb hre
  obtain ⟨h1, h2, h3⟩ := stripI_spec k N
  obtain ⟨n, d⟩ := v
  obtain ⟨rfl, rfl⟩ : (Vd.stripI N k).1 = n ∧ (Vd.stripI N k).2 = d := by simpa using h
  obtain ⟨n, hn⟩ : ∃ n, (Vd.stripI N k).1 = n := ⟨_, rfl⟩
  obtain ⟨d, hd⟩ : ∃ n, (Vd.stripI N k).2 = n := ⟨_, rfl⟩
  rw [hn, hd] at h2 h3 ⊢
  rw [hd] at h1
  have hp : (1 : Int) ≤ 10 ^ (k - d) := by
   have : (0 : Int) < 10 ^ (k - d) := Int.pow_pos (by decide)
   omega
  have hnb : -65536 ≤ n ∧ n ≤ 65536 := by
   have h4 : n.natAbs ≤ N.natAbs := by
    rw [h2, Int.natAbs_mul]
    exact Nat.le_mul_of_pos_right _ (by omega)
   omega
  have hr : Vd.rightD ⟨n, d⟩ = true := by
   rw [rightD_eq, decide_eq_true_iff]
   exact ⟨by omega, by omega, by omega, h3⟩
  refine ⟨hr, ?_⟩
  unfold Vd.word
  rw [if_pos ⟨hr, by dsimp only; omega, by omega⟩, Int.toNat_natCast]
  have hs : Vd.scaled ⟨n, d⟩ k = N := h2.symm
  rw [hs]
  rcases hre with ⟨rfl, he⟩ | ⟨rfl, hb1, hb2, he⟩
  ·rw [if_neg (by decide), if_pos (by omega), he]
   simp
  ·rw [if_pos rfl, if_pos ⟨hb1, hb2⟩, he]
 ·cases h
/-- a decimal's size, in millionths -/
theorem mil_abs (n : Int) (d : Nat) : (Vd.mil ⟨n, d⟩).natAbs = n.natAbs * 10 ^ (6 - d) := by
 unfold Vd.mil
 dsimp only
 rw [Int.natAbs_mul, Int.natAbs_pow]
 rfl
theorem ofQ_self {v : Dc} (h : Vd.rightD v = true) : Vd.ofQ v (Vd.mil v).natAbs = some v := by
 obtain ⟨n, d⟩ := v
 obtain ⟨h1, h2, h3, h4⟩ := rightD_out h
 have hst : Vd.strip (Vd.mil ⟨n, d⟩).natAbs 6 = (n.natAbs, d) := by
  rw [mil_abs]
  have := strip_mul n.natAbs d (6 - d)
  rw [show d + (6 - d) = 6 by omega] at this
  rw [this]
  exact strip_stop (by omega)
 unfold Vd.ofQ
 rw [hst, if_neg (by dsimp only; omega)]
 dsimp only
 split
 ·rw [show -(n.natAbs : Int) = n by omega]
 ·rw [show (n.natAbs : Int) = n by omega]
theorem ofQ_mil {x v : Dc} {q : Nat} (h : Vd.ofQ x q = some v) : (Vd.mil v).natAbs = q ∧ (0 < q → (v.n < 0 ↔ x.n < 0)) := by
 unfold Vd.ofQ at h
 split at h
 ·cases h
 ·obtain ⟨h1, h2, h3⟩ := strip_spec 6 q
  obtain ⟨m, hm⟩ : ∃ n, (Vd.strip q 6).1 = n := ⟨_, rfl⟩
  obtain ⟨e, he⟩ : ∃ n, (Vd.strip q 6).2 = n := ⟨_, rfl⟩
  rw [hm, he] at h
  rw [hm, he] at h2
  obtain rfl : _ = v := by simpa using h
  rw [mil_abs]
  have hmm : (if x.n < 0 then -(m : Int) else (m : Int)).natAbs = m := by split <;> omega
  refine ⟨by rw [hmm]; exact h2.symm, fun hq => ?_⟩
  have hm0 : 0 < m := by
   rcases Nat.eq_zero_or_pos m with h0 | h0
   ·rw [h0, Nat.zero_mul] at h2; omega
   ·exact h0
  dsimp only
  split <;> omega
theorem ofQ_sign {x y : Dc} {q : Nat} (h : 0 < q → (x.n < 0 ↔ y.n < 0)) : Vd.ofQ x q = Vd.ofQ y q := by
 unfold Vd.ofQ
 rcases Nat.eq_zero_or_pos q with rfl | hq
 ·have : Vd.strip 0 6 = (0, 0) := by decide
  rw [this]
  simp
 ·have := h hq
  split
  ·rfl
  ·by_cases hx : x.n < 0
   ·rw [if_pos hx, if_pos (this.1 hx)]
   ·rw [if_neg hx, if_neg (fun hy => hx (this.2 hy))]
theorem facOk_of {x : Dc} {a b : Nat} (h : Vd.rightD x = true) (h1 : 1 ≤ a) (h2 : a ≤ 1000000000) (h3 : 1 ≤ b) (h4 : b ≤ 1000000000) : Vd.facOk x a b = true := by
 unfold Vd.facOk
 rw [h, decide_eq_true ⟨h1, h2, h3, h4⟩]
 rfl
theorem un_mul {u v : Un} (hu : 1 ≤ u.num ∧ u.num ≤ 3600 ∧ 1 ≤ u.den ∧ u.den ≤ 1000) (hv : 1 ≤ v.num ∧ v.num ≤ 3600 ∧ 1 ≤ v.den ∧ v.den ≤ 1000) : 1 ≤ u.num * v.den ∧ u.num * v.den ≤ 1000000000 := by
 have h1 : u.num * v.den ≤ 3600 * 1000 := Nat.mul_le_mul hu.2.1 hv.2.2.2
 have h2 : 1 * 1 ≤ u.num * v.den := Nat.mul_le_mul hu.1 hv.2.2.1
 omega
/-- a right value in its own unit -/
theorem to_self {v : Dc} {a : ByteArray} (h : Vd.rightD v = true) (ha : (Vd.known a).isSome = true) : Vd.to_ v a a = some v := by
 obtain ⟨u, hu⟩ := Option.isSome_iff_exists.1 ha
 have hb := known_bound hu
 unfold Vd.to_
 rw [hu]
 dsimp only
 rw [if_pos rfl]
 unfold Vd.times
 have m1 := un_mul hb hb
 rw [Nat.mul_comm u.den u.num, if_pos (facOk_of h m1.1 m1.2 m1.1 m1.2)]
 rw [if_pos (Nat.mul_mod_left _ _), Nat.mul_div_cancel _ (by omega)]
 exact ofQ_self h
theorem times_is {x v : Dc} {a b : Nat} (h : Vd.times x a b = some v) : Vd.rightD x = true ∧ 1 ≤ b ∧ ∃ q, (Vd.mil x).natAbs * a = q * b ∧ Vd.ofQ x q = some v := by
 unfold Vd.times at h
 split at h
 ·rename_i hf
  unfold Vd.facOk at hf
  rw [Bool.and_eq_true, decide_eq_true_iff] at hf
  split at h
  ·rename_i hm
   exact ⟨hf.1, hf.2.2.2.1, _, (Nat.div_mul_cancel (Nat.dvd_of_mod_eq_zero hm)).symm, h⟩
  ·cases h
 ·cases h
theorem times_of {x v : Dc} {a b q : Nat} (hf : Vd.facOk x a b = true) (h : (Vd.mil x).natAbs * a = q * b) (hb : 1 ≤ b) (hq : Vd.ofQ x q = some v) : Vd.times x a b = some v := by
 unfold Vd.times
 rw [if_pos hf, h, if_pos (Nat.mul_mod_left _ _), Nat.mul_div_cancel _ (by omega)]
 exact hq
/-- a value by way of another unit -/
theorem to_trans {x c v : Dc} {a b p : ByteArray} (h1 : Vd.to_ x a b = some c) (h2 : Vd.to_ x a p = some v) : Vd.to_ c b p = some v := by
 have hcr := to_right h1
 unfold Vd.to_ at h1 h2 ⊢
 cases ha : Vd.known a with
 | none => rw [ha] at h1; cases h1
 | some ua =>
  cases hb : Vd.known b with
  | none => rw [ha, hb] at h1; cases h1
  | some ub =>
   cases hp : Vd.known p with
   | none => rw [ha, hp] at h2; cases h2
   | some up =>
    rw [ha, hb] at h1
    rw [ha, hp] at h2
    dsimp only at h1 h2 ⊢
    split at h1
    ·rename_i e1
     split at h2
     ·rename_i e2
      rw [if_pos (e1.symm.trans e2)]
      have ka := known_bound ha
      have kb := known_bound hb
      have kp := known_bound hp
      obtain ⟨hr, _, q1, hq1, ho1⟩ := times_is h1
      obtain ⟨_, _, q2, hq2, ho2⟩ := times_is h2
      have m1 := un_mul kb kp
      have m2 := un_mul kp kb
      obtain ⟨hmc, hsc⟩ := ofQ_mil ho1
      have key : q1 * (ub.num * up.den) = q2 * (ub.den * up.num) := by
       apply Nat.eq_of_mul_eq_mul_right (show 0 < ua.den by omega)
       have e1 : q1 * (ub.num * up.den) * ua.den = (q1 * (ua.den * ub.num)) * up.den := by simp only [Nat.mul_assoc, Nat.mul_comm, Nat.mul_left_comm]
       have e2 : q2 * (ub.den * up.num) * ua.den = (q2 * (ua.den * up.num)) * ub.den := by simp only [Nat.mul_assoc, Nat.mul_comm, Nat.mul_left_comm]
       rw [e1, e2, ← hq1, ← hq2]
       simp only [Nat.mul_assoc, Nat.mul_comm, Nat.mul_left_comm]
      refine times_of (q := q2) (facOk_of hcr m1.1 m1.2 (by rw [Nat.mul_comm]; exact m2.1) (by rw [Nat.mul_comm]; exact m2.2)) (by rw [hmc]; exact key) (by rw [Nat.mul_comm]; exact m2.1) ?_
      rw [ofQ_sign (y := x) (fun hq => ?_)]
      ·exact ho2
      ·apply hsc
       rcases Nat.eq_zero_or_pos q1 with h0 | h0
       ·rw [h0, Nat.zero_mul] at key
        have : 0 < q2 * (ub.den * up.num) := Nat.mul_pos hq (by have := m2.1; rw [Nat.mul_comm] at this; omega)
        omega
       ·exact h0
     ·cases h2
    ·cases h1
theorem cmp_lt {x y : Dc} (hx : Vd.rightD x = true) (hy : Vd.rightD y = true) : (Vd.cmp x y < 0 ↔ Vd.mil x < Vd.mil y) ∧ (0 < Vd.cmp x y ↔ Vd.mil y < Vd.mil x) := by
 unfold Vd.cmp
 rw [hx, hy, Bool.and_self, if_pos rfl]
 constructor
 ·split
  ·omega
  ·split <;> omega
 ·split
  ·omega
  ·split <;> omega
theorem rightPt_out {p : Pt} (h : Vd.rightPt p = true) : 0 ≤ p.digits ∧ p.digits ≤ 6 ∧ Vd.rightD p.low = true ∧ Vd.rightD p.high = true ∧ (Vd.known p.unit).isSome = true := by
 unfold Vd.rightPt at h
 simp only [Bool.and_eq_true, decide_eq_true_iff] at h
 obtain ⟨⟨⟨⟨⟨h1, h2⟩, h3⟩, h4⟩, h5⟩, h6⟩ := h
 exact ⟨h2.2.2.1, h2.2.2.2, h3, h4, h6⟩
/-- what a value's register, without a fault, says -/
theorem vword_ok {p : Pt} {s : St} {w : Nat} (h : Vd.vword p s = (w, 0)) : ∃ v, Vd.to_ s.value s.unit p.unit = some v ∧ ¬ Vd.cmp v p.low < 0 ∧ ¬ 0 < Vd.cmp v p.high ∧ Vd.word v p.digits p.signed = some w := by
 unfold Vd.vword at h
 cases ht : Vd.to_ s.value s.unit p.unit with
 | none => rw [ht] at h; simp at h
 | some d =>
  rw [ht] at h
  dsimp only at h
  split at h
  ·simp at h
  ·rename_i hc
   cases hw : Vd.word d p.digits p.signed with
   | none => rw [hw] at h; simp at h
   | some r =>
    rw [hw] at h
    obtain rfl : r = w := by simpa using h
    exact ⟨d, rfl, fun h => hc (.inl h), fun h => hc (.inr h), hw⟩
theorem vword_mk {p : Pt} {s : St} {w : Nat} {v : Dc} (h1 : Vd.to_ s.value s.unit p.unit = some v) (h2 : ¬ Vd.cmp v p.low < 0) (h3 : ¬ 0 < Vd.cmp v p.high) (h4 : Vd.word v p.digits p.signed = some w) : Vd.vword p s = (w, 0) := by
 unfold Vd.vword
 rw [h1]
 dsimp only
 rw [if_neg (by omega), h4]
theorem vword_no {p : Pt} {s : St} {w e : Nat} (h : Vd.vword p s = (w, e)) (he : e ≠ 0) : w = 0 ∧ (e = 152 ∨ e = 153) := by
 unfold Vd.vword at h
 cases ht : Vd.to_ s.value s.unit p.unit with
 | none =>
  rw [ht] at h
  obtain ⟨rfl, rfl⟩ : 0 = w ∧ 152 = e := by simpa using h
  exact ⟨rfl, .inl rfl⟩
 | some d =>
  rw [ht] at h
  dsimp only at h
  split at h
  ·obtain ⟨rfl, rfl⟩ : 0 = w ∧ 153 = e := by simpa using h
   exact ⟨rfl, .inr rfl⟩
  ·cases hw : Vd.word d p.digits p.signed with
   | none =>
    rw [hw] at h
    obtain ⟨rfl, rfl⟩ : 0 = w ∧ 153 = e := by simpa using h
    exact ⟨rfl, .inr rfl⟩
   | some r =>
    rw [hw] at h
    obtain ⟨_, rfl⟩ : r = w ∧ 0 = e := by simpa using h
    exact absurd rfl he
/-- the law of a point and a value -/
theorem words_law {p : Pt} {d : Dc} {un : ByteArray} {w : Nat} (hp : Vd.rightPt p = true) (hd : Vd.rightD d = true) (h : Vd.vword p ⟨⟨#[]⟩, d, un, 0⟩ = (w, 0)) :
  ∃ v, Vd.to_ d un p.unit = some v ∧ Vd.rightD v = true ∧ w < 65536 ∧ Vd.worth w p.digits p.signed = some v ∧ ¬ Vd.cmp v p.low < 0 ∧ ¬ 0 < Vd.cmp v p.high ∧
   (∀ c ot, Vd.to_ d un ot = some c → Vd.vword p ⟨⟨#[]⟩, c, ot, 0⟩ = (w, 0)) ∧
   ∃ nx, Vd.worth ((w + 1) % 65536) p.digits p.signed = some nx ∧ Vd.rightD nx = true ∧ (0 < Vd.cmp nx v → ¬ 0 < Vd.cmp nx p.high → Vd.vword p ⟨⟨#[]⟩, nx, p.unit, 0⟩ = ((w + 1) % 65536, 0)) := by
 obtain ⟨v, h1, h2, h3, h4⟩ := vword_ok h
 dsimp only at h1
 obtain ⟨q1, q2, q3, q4, q5⟩ := rightPt_out hp
 have hv := to_right h1
 obtain ⟨hw, hwv⟩ := word_worth q1 h4
 refine ⟨v, h1, hv, hw, hwv, h2, h3, fun c ot hc => vword_mk (to_trans hc h1) h2 h3 h4, ?_⟩
 have hlt : (w + 1) % 65536 < 65536 := Nat.mod_lt _ (by decide)
 obtain ⟨x, hx⟩ : ∃ x, (w + 1) % 65536 = x := ⟨_, rfl⟩
 rw [hx] at hlt ⊢
 cases hn : Vd.worth x p.digits p.signed with
 | none => unfold Vd.worth at hn; rw [if_pos ⟨q1, q2⟩] at hn; cases hn
 | some nx =>
  obtain ⟨hnr, hnw⟩ := worth_word hlt hn
  refine ⟨nx, rfl, hnr, fun c1 c2 => vword_mk (to_self hnr q5) (fun c3 => ?_) c2 hnw⟩
  have e1 := (cmp_lt hnr hv).2.1 c1
  have e2 := (cmp_lt hnr q3).1.1 c3
  have e3 : ¬ Vd.mil v < Vd.mil p.low := fun hh => h2 ((cmp_lt hv q3).1.2 hh)
  omega
end Go.Proofs.Ythhokpaidekmnaa
