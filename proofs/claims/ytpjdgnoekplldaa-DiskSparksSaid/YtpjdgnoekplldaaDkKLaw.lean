/- The plain law of DiskKeeps and DiskSparks: what one operation leaves. -/
import Derived.Test.YtpjdgnoekplldaaDkDo
namespace Go.Proofs.Ytpjdgnoekplldaa
set_option linter.unusedVariables false
namespace Dk
theorem puts_take : ∀ (b : List Nat) (D : Dk), ∃ m, m ≤ b.length ∧ (puts D b).1.l = D.l ++ b.take m ∧ (puts D b).1.safe = D.safe ∧ (puts D b).1.room = D.room ∧ (puts D b).2 = (if m = b.length then 0 else 6)
  | [], D => ⟨0, Nat.le_refl _, by simp [puts], rfl, rfl, rfl⟩
  | x :: b, D => by
    have hl := sparked_l D
    unfold puts
    by_cases h : (sparked D).2 = true
    · rw [if_pos h]
      obtain ⟨m, h1, h2, h3, h4, h5⟩ := puts_take b { (sparked D).1 with l := (sparked D).1.l ++ [x] }
      refine ⟨m + 1, by simp; omega, by rw [h2]; simp [hl.1], by rw [h3]; exact hl.2.1, by rw [h4]; exact hl.2.2, ?_⟩
      rw [h5]
      simp
    · rw [if_neg h]
      exact ⟨0, by simp, by simp [hl.1], hl.2.1, hl.2.2, by simp⟩
/-- appending: what there was, and the first m bytes -/
theorem append_take (D : Dk) (b : List Nat) : ∃ m, m ≤ b.length ∧ (append D b).1.l = D.l ++ b.take m ∧ (append D b).1.safe = D.safe ∧ (0 < b.length → ((append D b).2 = 0 ↔ m = b.length)) := by
  unfold append
  split
  · exact ⟨0, Nat.zero_le _, by simp, rfl, fun h => ⟨fun h1 => by simp at h1, fun h1 => by omega⟩⟩
  split
  · exact ⟨0, Nat.zero_le _, by simp, rfl, fun h => ⟨fun h1 => by simp at h1, fun h1 => by omega⟩⟩
  · obtain ⟨m, h1, h2, h3, _, h5⟩ := puts_take b D
    refine ⟨m, h1, h2, h3, fun _ => ?_⟩
    rw [h5]
    split <;> simp_all
theorem sync_same {D : Dk} (h : D.Ok) : (sync D).1.l = D.l ∧ D.safe ≤ (sync D).1.safe := by
  have hl := sparked_l D
  have := h.safe
  unfold sync
  split
  · exact ⟨rfl, Nat.le_refl _⟩
  split
  · exact ⟨hl.1, by rw [hl.1]; exact this⟩
  · exact ⟨hl.1, by rw [hl.2.1]; exact Nat.le_refl _⟩
theorem cut_same {D : Dk} (n : Int) : ((cut D n).2 = 0 ∧ (cut D n).1.l = D.l.take n.toNat ∧ (((cut D n).1.l.length : Nat) : Int) = n) ∨ ((cut D n).2 ≠ 0 ∧ (cut D n).1.l = D.l ∧ (cut D n).1.safe = D.safe) := by
  have hl := sparked_l D
  unfold cut
  split
  · exact .inr ⟨by simp, rfl, rfl⟩
  split
  · exact .inr ⟨by simp, rfl, rfl⟩
  · next h1 h2 =>
    split
    · refine .inl ⟨rfl, by rw [hl.1], ?_⟩
      simp only [hl.1, List.length_take]
      omega
    · exact .inr ⟨by simp, hl.1, hl.2.1⟩
theorem crash_same {D : Dk} (h : D.Ok) (n : Int) : (crash D n).l <+: D.l ∧ D.safe ≤ (crash D n).safe ∧ (crash D n).safe = (crash D n).l.length ∧ (crash D n).off = false := by
  have := h.safe
  refine ⟨List.take_prefix _ _, by simp only [crash]; omega, ?_, rfl⟩
  simp only [crash, List.length_take]
  omega
/-- how many sparks: left below 0 says that the power is off -/
def Spk (D : Dk) (left : Int) : Prop := (D.off = true ↔ left < 0) ∧ (0 ≤ left → D.left = some left.toNat)
theorem puts_sparks : ∀ (b : List Nat) (D : Dk) (s : Nat), D.left = some s → D.off = false →
    (b.length ≤ s → puts D b = ({ D with l := D.l ++ b, left := some (s - b.length) }, 0)) ∧ (s < b.length → puts D b = ({ D with l := D.l ++ b.take s, left := some 0, off := true }, 6))
  | [], D, s, h, ho => ⟨fun _ => by simp [puts, ← h], fun h1 => by simp at h1⟩
  | x :: b, D, 0, h, ho => ⟨fun h1 => by simp at h1, fun _ => by simp [puts, sparked, h]⟩
  | x :: b, D, s + 1, h, ho => by
    have hs : D.sparked = ({ D with left := some s }, true) := by unfold sparked; rw [h]
    have ih := puts_sparks b { D with left := some s, l := D.l ++ [x] } s rfl ho
    unfold puts
    rw [hs, if_pos rfl]
    refine ⟨fun h1 => ?_, fun h1 => ?_⟩
    · rw [ih.1 (by simpa using h1)]
      simp [Nat.add_sub_add_right]
    · rw [ih.2 (by simpa using h1)]
      simp
/-- appending with sparks: what is told, and the sparks left -/
theorem append_sparks {D : Dk} {left : Int} (h : D.Spk left) (b : List Nat) (hr : D.l.length + b.length ≤ D.room) :
    (append D b).1.l.length = D.l.length + min b.length left.toNat ∧ ((append D b).2 = 0 ↔ (0 ≤ left ∧ (b.length : Int) ≤ left)) ∧ (append D b).1.Spk (if 0 ≤ left then left - b.length else left) ∧ (append D b).1.room = D.room ∧ (append D b).1.safe = D.safe := by
  unfold append
  by_cases hl : left < 0
  · rw [if_pos (h.1.2 hl)]
    refine ⟨by rw [show left.toNat = 0 by omega]; simp, ⟨fun h1 => by simp at h1, fun h1 => by omega⟩, ?_, rfl, rfl⟩
    rw [if_neg (by omega)]
    exact h
  · have ho : D.off = false := by
      cases hd : D.off
      · rfl
      · exact absurd (h.1.1 hd) hl
    rw [ho, if_neg (by decide), if_neg (by omega), if_pos (show 0 ≤ left by omega)]
    have hp := puts_sparks b D left.toNat (h.2 (by omega)) ho
    by_cases hb : b.length ≤ left.toNat
    · rw [hp.1 hb]
      refine ⟨by simp; omega, ⟨fun _ => by omega, fun _ => rfl⟩, ⟨⟨fun h1 => by simp [ho] at h1, fun h1 => by omega⟩, fun _ => ?_⟩, rfl, rfl⟩
      show some _ = some _
      congr 1
      omega
    · rw [hp.2 (by omega)]
      refine ⟨by simp; omega, ⟨fun h1 => by simp at h1, fun h1 => by omega⟩, ⟨⟨fun _ => by omega, fun _ => rfl⟩, fun h1 => by omega⟩, rfl, rfl⟩
theorem sparked_sparks {D : Dk} {left : Int} (h : D.Spk left) (hl : 0 ≤ left) : ((sparked D).2 = true ↔ 0 < left) ∧ (sparked D).1.Spk (left - 1) ∧ ((sparked D).1.off = true ↔ left ≤ 0) := by
  have ho : D.off = false := by
    cases hd : D.off
    · rfl
    · have := h.1.1 hd; omega
  have h2 := h.2 hl
  obtain ⟨s, rfl⟩ : ∃ s : Nat, left = s := ⟨left.toNat, by omega⟩
  rw [Int.toNat_natCast] at h2
  unfold sparked
  rw [h2]
  cases s with
  | zero => exact ⟨by simp, ⟨by simp, fun h => by omega⟩, by simp⟩
  | succ s =>
    refine ⟨by simp, ⟨⟨fun h1 => by simp [ho] at h1, fun h1 => by omega⟩, fun _ => ?_⟩, ?_⟩
    · show some s = some _
      congr 1
      omega
    · simp [ho]
theorem sync_sparks {D : Dk} {left : Int} (h : D.Spk left) : ((sync D).2 = 0 ↔ 0 < left) ∧ (sync D).1.Spk (left - 1) ∧ (sync D).1.l = D.l ∧ (sync D).1.room = D.room := by
  have hs := sparked_l D
  unfold sync
  by_cases hl : left < 0
  · rw [if_pos (h.1.2 hl)]
    exact ⟨⟨fun h1 => by simp at h1, fun h1 => by omega⟩, ⟨⟨fun _ => by omega, fun _ => h.1.2 hl⟩, fun h1 => by omega⟩, rfl, rfl⟩
  · have ho : D.off = false := by
      cases hd : D.off
      · rfl
      · exact absurd (h.1.1 hd) hl
    have hk := sparked_sparks h (by omega)
    rw [ho, if_neg (by decide)]
    split
    · next h1 => exact ⟨⟨fun _ => hk.1.1 h1, fun _ => rfl⟩, hk.2.1, hs.1, hs.2.2⟩
    · next h1 => exact ⟨⟨fun h2 => by simp at h2, fun h2 => absurd (hk.1.2 h2) h1⟩, hk.2.1, hs.1, hs.2.2⟩
theorem cut_sparks {D : Dk} {left : Int} (h : D.Spk left) : ((cut D D.l.length).2 = 0 ↔ 0 < left) ∧ (cut D D.l.length).1.Spk (left - 1) ∧ (cut D D.l.length).1.l = D.l ∧ (cut D D.l.length).1.room = D.room := by
  have hs := sparked_l D
  unfold cut
  by_cases hl : left < 0
  · rw [if_pos (h.1.2 hl)]
    exact ⟨⟨fun h1 => by simp at h1, fun h1 => by omega⟩, ⟨⟨fun _ => by omega, fun _ => h.1.2 hl⟩, fun h1 => by omega⟩, rfl, rfl⟩
  · have ho : D.off = false := by
      cases hd : D.off
      · rfl
      · exact absurd (h.1.1 hd) hl
    have hk := sparked_sparks h (by omega)
    rw [ho, if_neg (by decide), if_neg (by omega)]
    split
    · next h1 => exact ⟨⟨fun _ => hk.1.1 h1, fun _ => rfl⟩, hk.2.1, by simp [hs.1], hs.2.2⟩
    · next h1 => exact ⟨⟨fun h2 => by simp at h2, fun h2 => absurd (hk.1.2 h2) h1⟩, hk.2.1, hs.1, hs.2.2⟩
end Dk
end Go.Proofs.Ytpjdgnoekplldaa
