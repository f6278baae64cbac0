/- Plain law of the check sum: rows of words that differ in one word alone have unlike checks. No program in sight. -/
import Derived.Test.YtopkncbpkccfbaaCrc
import Derived.Test.YtopkncbpkccfbaaPack
namespace Go.Proofs.Ytopkncbpkccfbaa.Crc
theorem xor_eq_zero {a b : Nat} (h : a ^^^ b = 0) : a = b := by
  have h1 : a ^^^ b ^^^ b = b := by rw [h, Nat.zero_xor]
  rwa [Nat.xor_assoc, Nat.xor_self, Nat.xor_zero] at h1
theorem shifts_inj {n s t : Nat} (hs : s < 4294967296) (ht : t < 4294967296) (h : shifts n s = shifts n t) : s = t := by
  have h0 : shifts n (s ^^^ t) = 0 := by rw [shifts_xor, h, Nat.xor_self]
  exact xor_eq_zero (shifts_eq_zero n (xor_lt hs ht) h0)
theorem add_inj {s t b : Nat} (hs : s < 4294967296) (ht : t < 4294967296) (hb : b < 256) (h : add s b = add t b) : s = t := by
  have h1 := shifts_inj (xor_lt hs (by omega)) (xor_lt ht (by omega)) h
  have h2 : s ^^^ b ^^^ b = t ^^^ b ^^^ b := by rw [h1]
  rwa [Nat.xor_assoc, Nat.xor_assoc, Nat.xor_self, Nat.xor_zero, Nat.xor_zero] at h2
theorem raw_inj : ∀ (l : List Nat) {s t : Nat}, s < 4294967296 → t < 4294967296 → (∀ b ∈ l, b < 256) → raw s l = raw t l → s = t
  | [], _, _, _, _, _, h => h
  | b :: l, s, t, hs, ht, hl, h => by
    have hb := hl b (by simp)
    exact add_inj hs ht hb (raw_inj l (add_lt hs hb) (add_lt ht hb) (fun c hc => hl c (by simp [hc])) h)
theorem shifts_mul : ∀ (k m : Nat), shifts k (2 ^ k * m) = m
  | 0, m => by simp [shifts]
  | k + 1, m => by
    have e : 2 ^ (k + 1) * m = 2 * (2 ^ k * m) := by rw [Nat.pow_succ, Nat.mul_comm (2 ^ k) 2, Nat.mul_assoc]
    have h1 : shift (2 ^ (k + 1) * m) = 2 ^ k * m := by
      unfold shift
      rw [if_neg (by omega)]
      omega
    show shifts k (shift (2 ^ (k + 1) * m)) = m
    rw [h1]
    exact shifts_mul k m
theorem two_inj {s a b c d : Nat} (hs : s < 4294967296) (ha : a < 256) (hb : b < 256) (hc : c < 256) (hd : d < 256) (h : raw s [a, b] = raw s [c, d]) : a = c ∧ b = d := by
  have h1 : add (add s a) b = add (add s c) d := h
  have h2 := shifts_inj (xor_lt (add_lt hs ha) (by omega)) (xor_lt (add_lt hs hc) (by omega)) h1
  have h3 : add s a ^^^ add s c = b ^^^ d := by
    have e : add s a ^^^ b ^^^ (add s c ^^^ d) = 0 := by rw [h2, Nat.xor_self]
    have e2 : add s a ^^^ b ^^^ (add s c ^^^ d) = (add s a ^^^ add s c) ^^^ (b ^^^ d) := xor4 _ _ _ _
    exact xor_eq_zero (e2 ▸ e)
  have h4 : add s a ^^^ add s c = shifts 8 (a ^^^ c) := by
    unfold add
    rw [← shifts_xor, xor4, Nat.xor_self, Nat.zero_xor]
  have hbd : b ^^^ d < 256 := Nat.xor_lt_two_pow (n := 8) hb hd
  have hac : a ^^^ c < 256 := Nat.xor_lt_two_pow (n := 8) ha hc
  have h5 : shifts 8 (a ^^^ c) = shifts 8 (2 ^ 8 * (b ^^^ d)) := by rw [← h4, h3, shifts_mul]
  have h6 := shifts_inj (by omega) (by omega) h5
  have h7 : a ^^^ c = 0 := by omega
  have h8 : b ^^^ d = 0 := by omega
  exact ⟨xor_eq_zero h7, xor_eq_zero h8⟩
/-- one word alone is another one -/
theorem one_word {X Y : List Nat} {u v : Nat} (hX : ∀ x ∈ X, x < 65536) (hY : ∀ x ∈ Y, x < 65536) (hu : u < 65536) (hv : v < 65536) (h : bytes (packRegs (X ++ u :: Y)) = bytes (packRegs (X ++ v :: Y))) : u = v := by
  have hbX := packRegs_byte hX
  have hbY := packRegs_byte hY
  have e : ∀ z, packRegs (X ++ z :: Y) = packRegs X ++ ([z / 256, z % 256] ++ packRegs Y) := fun z => by
    rw [packRegs_append]; rfl
  have hw : ∀ z, z < 65536 → ∀ b ∈ packRegs (X ++ z :: Y), b < 256 := fun z hz => packRegs_byte (fun x hx => by
    rcases List.mem_append.1 hx with hx | hx
    · exact hX x hx
    · rcases List.mem_cons.1 hx with rfl | hx
      · exact hz
      · exact hY x hx)
  have hr : raw 4294967295 (packRegs (X ++ u :: Y)) = raw 4294967295 (packRegs (X ++ v :: Y)) := by
    have h1 := raw_lt _ (s := 4294967295) (by decide) (hw u hu)
    have h2 := raw_lt _ (s := 4294967295) (by decide) (hw v hv)
    unfold bytes at h
    omega
  rw [e, e, raw_append, raw_append, raw_append, raw_append] at hr
  have hs : raw 4294967295 (packRegs X) < 4294967296 := raw_lt _ (by decide) hbX
  have two_lt : ∀ z, z < 65536 → raw (raw 4294967295 (packRegs X)) [z / 256, z % 256] < 4294967296 := fun z hz => raw_lt _ hs (fun b hb => by
    rcases List.mem_cons.1 hb with rfl | hb
    · omega
    · obtain rfl := List.mem_singleton.1 hb; omega)
  have h3 := raw_inj _ (two_lt u hu) (two_lt v hv) hbY hr
  have h4 := two_inj hs (by omega) (by omega) (by omega) (by omega) h3
  omega
end Go.Proofs.Ytopkncbpkccfbaa.Crc
