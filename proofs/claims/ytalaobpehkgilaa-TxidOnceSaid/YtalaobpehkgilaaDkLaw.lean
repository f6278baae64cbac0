/- The plain law of a disk: what each operation makes of it. -/
import Derived.WalkKit
namespace Go.Proofs.Ytalaobpehkgilaa
/-- a disk: its room, its bytes, how many are safe, the sparks left (none: as many as one likes), whether it is off -/
structure Dk where
  room : Nat
  l : List Nat
  safe : Nat
  left : Option Nat
  off : Bool
namespace Dk
def new (room : Nat) : Dk := ⟨room, [], 0, none, false⟩
/-- a spark is used up; false: there is none -/
def sparked (D : Dk) : Dk × Bool :=
  match D.left with
  | none => (D, true)
  | some 0 => ({ D with off := true }, false)
  | some (k + 1) => ({ D with left := some k }, true)
def puts (D : Dk) : List Nat → Dk × Int
  | [] => (D, 0)
  | x :: b => if (sparked D).2 = true then puts { (sparked D).1 with l := (sparked D).1.l ++ [x] } b else ((sparked D).1, 6)
def append (D : Dk) (b : List Nat) : Dk × Int :=
  if D.off = true then (D, 6) else if D.room < D.l.length + b.length then (D, 5) else puts D b
def sync (D : Dk) : Dk × Int :=
  if D.off = true then (D, 6) else if (sparked D).2 = true then ({ (sparked D).1 with safe := (sparked D).1.l.length }, 0) else ((sparked D).1, 6)
def cut (D : Dk) (n : Int) : Dk × Int :=
  if D.off = true then (D, 6) else if n < 0 ∨ (D.l.length : Int) < n then (D, 2)
  else if (sparked D).2 = true then ({ (sparked D).1 with l := (sparked D).1.l.take n.toNat, safe := min (sparked D).1.safe n.toNat }, 0) else ((sparked D).1, 6)
def sparks (D : Dk) (n : Int) : Dk := { D with left := if n < 0 then none else some n.toNat }
def crash (D : Dk) (n : Int) : Dk :=
  let k := D.safe + min n.toNat (D.l.length - D.safe)
  { D with l := D.l.take k, safe := k, left := none, off := false }
/-- what any disk keeps -/
structure Ok (D : Dk) : Prop where
  safe : D.safe ≤ D.l.length
  room : D.l.length ≤ D.room
  hi : D.room ≤ 262144
  left : ∀ k, D.left = some k → k ≤ 9223372036854775807
  u : ∀ x ∈ D.l, x < 256
theorem sparked_l (D : Dk) : (sparked D).1.l = D.l ∧ (sparked D).1.safe = D.safe ∧ (sparked D).1.room = D.room := by
  unfold sparked
  split <;> exact ⟨rfl, rfl, rfl⟩
theorem sparked_ok {D : Dk} (h : D.Ok) : (sparked D).1.Ok := by
  have hl := sparked_l D
  refine ⟨by rw [hl.1, hl.2.1]; exact h.safe, by rw [hl.1, hl.2.2]; exact h.room, by rw [hl.2.2]; exact h.hi, ?_, by rw [hl.1]; exact h.u⟩
  unfold sparked
  split
  · exact h.left
  · exact h.left
  · next k hk =>
    intro j hj
    have := h.left _ hk
    obtain rfl : k = j := by simpa using hj
    omega
theorem puts_ok : ∀ (b : List Nat) {D : Dk}, D.Ok → D.l.length + b.length ≤ D.room → (∀ x ∈ b, x < 256) → (puts D b).1.Ok
  | [], D, h, _, _ => h
  | x :: b, D, h, hr, hu => by
    unfold puts
    have hl := sparked_l D
    have hk := sparked_ok h
    split
    · refine puts_ok b ⟨?_, ?_, hk.hi, hk.left, ?_⟩ ?_ (fun y hy => hu y (List.mem_cons_of_mem _ hy))
      · simp only [List.length_append, List.length_singleton]; have := hk.safe; omega
      · simp only [List.length_append, List.length_singleton, hl.1, hl.2.2]; simp only [List.length_cons] at hr; omega
      · intro y hy
        rcases List.mem_append.1 hy with h1 | h1
        · exact hk.u y h1
        · obtain rfl : y = x := by simpa using h1
          exact hu y List.mem_cons_self
      · simp only [List.length_append, List.length_singleton, hl.1, hl.2.2]; simp only [List.length_cons] at hr; omega
    · exact hk
theorem append_ok {D : Dk} (h : D.Ok) {b : List Nat} (hu : ∀ x ∈ b, x < 256) : (append D b).1.Ok := by
  unfold append
  split
  · exact h
  split
  · exact h
  · exact puts_ok b h (by omega) hu
theorem sync_ok {D : Dk} (h : D.Ok) : (sync D).1.Ok := by
  unfold sync
  have hk := sparked_ok h
  split
  · exact h
  split
  · exact ⟨Nat.le_refl _, hk.room, hk.hi, hk.left, hk.u⟩
  · exact hk
theorem cut_ok {D : Dk} (h : D.Ok) (n : Int) : (cut D n).1.Ok := by
  unfold cut
  have hk := sparked_ok h
  split
  · exact h
  split
  · exact h
  split
  · refine ⟨?_, ?_, hk.hi, hk.left, fun x hx => hk.u x (List.mem_of_mem_take hx)⟩
    · have := hk.safe
      simp only [List.length_take]; omega
    · have := hk.room
      simp only [List.length_take]; omega
  · exact hk
theorem sparks_ok {D : Dk} (h : D.Ok) {n : Int} (hn : n ≤ 9223372036854775807) : (sparks D n).Ok := by
  refine ⟨h.safe, h.room, h.hi, fun k hk => ?_, h.u⟩
  unfold sparks at hk
  dsimp only at hk
  split at hk
  · cases hk
  · obtain rfl : n.toNat = k := by simpa using hk
    omega
theorem crash_ok {D : Dk} (h : D.Ok) (n : Int) : (crash D n).Ok := by
  have h1 := h.safe
  have h2 := h.room
  refine ⟨?_, ?_, h.hi, fun k hk => (by cases hk), fun x hx => h.u x (List.mem_of_mem_take hx)⟩
  · simp only [crash, List.length_take]; omega
  · simp only [crash, List.length_take]; omega
end Dk
end Go.Proofs.Ytalaobpehkgilaa
