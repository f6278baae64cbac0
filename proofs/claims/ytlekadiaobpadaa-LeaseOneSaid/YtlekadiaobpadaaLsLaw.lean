/- Plain law of leases: no program in sight. -/
namespace Go.Proofs.Ytlekadiaobpadaa.Ls
/-- a lease: who has it, and for how many ticks yet -/
structure L where
  o : Nat
  l : Int
def fit (x : L) : Prop := x.o < 65536 ∧ -9223372036854775808 ≤ x.l ∧ x.l ≤ 9223372036854775807
def right (x : L) : Bool := if x.o = 0 then decide (x.l = 0) else (decide (1 ≤ x.l) || decide (x.l = -1))
def counted (x : L) : L := if right x = true then x else ⟨0, 0⟩
def free (x : L) : Bool := decide ((counted x).o = 0)
def takeC (c : L) (ow : Nat) (t : Int) : L × Int :=
  if ow = 0 ∨ t < 1 then (c, 2) else if c.o ≠ 0 ∧ c.o ≠ ow then (c, 22) else if c.l = -1 then (c, 0) else (⟨ow, t⟩, 0)
def take (x : L) (ow : Nat) (t : Int) : L × Int := takeC (counted x) ow t
def holdC (c : L) (ow : Nat) : L × Int := if ow = 0 then (c, 2) else if c.o ≠ ow then (c, 22) else (⟨ow, -1⟩, 0)
def hold (x : L) (ow : Nat) : L × Int := holdC (counted x) ow
def leaveC (c : L) (ow : Nat) : L × Int := if ow = 0 then (c, 2) else if c.o ≠ ow then (c, 22) else (⟨0, 0⟩, 0)
def leave (x : L) (ow : Nat) : L × Int := leaveC (counted x) ow
def tickC (c : L) : L × Bool := if 0 < c.l then (if c.l = 1 then (⟨0, 0⟩, true) else (⟨c.o, c.l - 1⟩, false)) else (c, false)
def tick (x : L) : L × Bool := tickC (counted x)
def bootC (c : L) : L := if c.l = -1 then c else ⟨0, 0⟩
def boot (x : L) : L := bootC (counted x)

theorem right_counted (x : L) : right (counted x) = true := by
  unfold counted
  split
  · assumption
  · rfl
theorem counted_fit {x : L} (h : fit x) : fit (counted x) := by
  unfold counted
  split
  · exact h
  · exact ⟨by decide, by decide, by decide⟩
/-- what a right lease is -/
theorem right_cases {x : L} (h : right x = true) : (x.o = 0 ∧ x.l = 0) ∨ (x.o ≠ 0 ∧ 1 ≤ x.l) ∨ (x.o ≠ 0 ∧ x.l = -1) := by
  unfold right at h
  split at h
  · exact .inl ⟨by assumption, by simpa using h⟩
  · simp at h; omega
theorem right_of_free {x : L} (h : x.o = 0) (h' : x.l = 0) : right x = true := by simp [right, h, h']
theorem right_of_runs {x : L} (h : x.o ≠ 0) (h' : 1 ≤ x.l) : right x = true := by simp [right, h, h']
theorem right_of_held {x : L} (h : x.o ≠ 0) (h' : x.l = -1) : right x = true := by simp [right, h, h']
theorem right_not_free {x : L} (h : x.o = 0) (h' : x.l ≠ 0) : right x = false := by simp [right, h, h']
theorem right_not {x : L} (h : x.o ≠ 0) (h' : x.l < 1) (h'' : x.l ≠ -1) : right x = false := by simp [right, h, h'']; omega
theorem counted_of_right {x : L} (h : right x = true) : counted x = x := by simp [counted, h]
theorem counted_not {x : L} (h : right x = false) : counted x = ⟨0, 0⟩ := by simp [counted, h]
end Go.Proofs.Ytlekadiaobpadaa.Ls
