/- The plain law of records and their bytes: no program in sight. -/
import Derived.Test.YtalaobpehkgilaaCrc
namespace Go.Proofs.Ytalaobpehkgilaa
set_option linter.unusedVariables false
/-- a record -/
structure Nr where
  what : Nat
  tx : Nat
  who : Nat
  yes : Bool
  text : List Nat
namespace Nr
def right (x : Nr) : Bool :=
  decide ((x.what = 2 ∧ 0 < x.who ∧ x.yes = false ∧ x.text.length ≤ 8192) ∨ ((x.what = 1 ∨ x.what = 3 ∨ x.what = 4) ∧ x.who = 0 ∧ x.text.length = 0 ∧ (x.yes = false ∨ x.what = 3)))
def four (x : Nat) : List Nat := [x / 16777216, x / 65536 % 256, x / 256 % 256, x % 256]
def num4 (b : List Nat) : Nat := b.getD 0 0 * 16777216 + b.getD 1 0 * 65536 + b.getD 2 0 * 256 + b.getD 3 0
def one (b : Bool) : Nat := if b = true then 1 else 0
def head (x : Nr) : List Nat := [x.what] ++ four x.tx ++ [x.who, one x.yes, x.text.length / 256 % 256, x.text.length % 256]
def body (x : Nr) : List Nat := head x ++ x.text
def bytes (x : Nr) : List Nat := body x ++ four (Crc.bytes (body x))
def size (x : Nr) : Nat := 13 + x.text.length
structure Fit (x : Nr) : Prop where
  what : x.what < 256
  tx : x.tx < 4294967296
  who : x.who < 256
  u : ∀ b ∈ x.text, b < 256
theorem four_length (x : Nat) : (four x).length = 4 := rfl
theorem four_u {x : Nat} (h : x < 4294967296) : ∀ b ∈ four x, b < 256 := by
  intro b hb
  simp [four] at hb
  omega
theorem head_length (x : Nr) : (head x).length = 9 := rfl
theorem body_length (x : Nr) : (body x).length = 9 + x.text.length := by simp [body, head_length]
theorem bytes_length (x : Nr) : (bytes x).length = size x := by simp [bytes, body_length, four_length, size]; omega
theorem num4_four {x : Nat} (h : x < 4294967296) (t : List Nat) : num4 (four x ++ t) = x := by
  simp [num4, four]
  omega
theorem right_len {x : Nr} (h : x.right = true) : x.text.length ≤ 8192 := by
  have := of_decide_eq_true h
  omega
theorem one_u (b : Bool) : one b < 256 := by cases b <;> decide
theorem head_u {x : Nr} (h : Fit x) : ∀ b ∈ head x, b < 256 := by
  intro b hb
  have h1 := h.what
  have h2 := h.who
  have h3 := one_u x.yes
  simp only [head, List.mem_append, List.mem_cons, List.not_mem_nil, or_false] at hb
  rcases hb with (rfl | hb) | rfl | rfl | rfl | rfl
  · exact h1
  · exact four_u h.tx b hb
  · exact h2
  · exact h3
  · omega
  · omega
theorem body_u {x : Nr} (h : Fit x) : ∀ b ∈ body x, b < 256 := by
  intro b hb
  rcases List.mem_append.1 hb with h1 | h1
  · exact head_u h b h1
  · exact h.u b h1
theorem bytes_u {x : Nr} (h : Fit x) : ∀ b ∈ bytes x, b < 256 := by
  intro b hb
  rcases List.mem_append.1 hb with h1 | h1
  · exact body_u h b h1
  · exact four_u (Crc.bytes_lt (body_u h)) b h1
/-- the length that bytes tell -/
def told (b : List Nat) : Nat := b.getD 7 0 * 256 + b.getD 8 0
/-- the record that bytes tell, if they are one -/
def parse (b : List Nat) : Nr := ⟨b.getD 0 0, num4 (b.drop 1), b.getD 5 0, decide (b.getD 6 0 = 1), (b.drop 9).take (told b)⟩
def first (b : List Nat) : Option Nr :=
  if b.length < 13 ∨ 1 < b.getD 6 0 ∨ b.length < 13 + told b then none
  else if (parse b).right = true ∧ Crc.bytes (b.take (9 + told b)) = num4 (b.drop (9 + told b)) then some (parse b) else none
theorem parse_bytes {x : Nr} (h : x.right = true) (hf : Fit x) (t : List Nat) : parse (bytes x ++ t) = x ∧ told (bytes x ++ t) = x.text.length ∧ (bytes x ++ t).getD 6 0 = one x.yes := by
  have hl := right_len h
  have h1 : told (bytes x ++ t) = x.text.length := by
    simp [told, bytes, body, head, four]
    omega
  refine ⟨?_, h1, by simp [bytes, body, head, four]⟩
  have h2 := hf.tx
  unfold parse
  rw [h1]
  obtain ⟨what, tx, who, yes, text⟩ := x
  have e1 : decide (one yes = 1) = yes := by cases yes <;> rfl
  have e2 : num4 ((bytes ⟨what, tx, who, yes, text⟩ ++ t).drop 1) = tx := by
    simp [bytes, body, head, four, num4]
    simp at h2
    omega
  rw [e2]
  simp [bytes, body, head, four, e1]
theorem first_bytes {x : Nr} (h : x.right = true) (hf : Fit x) (t : List Nat) : first (bytes x ++ t) = some x := by
  obtain ⟨h1, h2, h3⟩ := parse_bytes h hf t
  unfold first
  have hl : (bytes x ++ t).length = 13 + x.text.length + t.length := by rw [List.length_append, bytes_length, size]
  have ho : one x.yes ≤ 1 := by cases x.yes <;> decide
  rw [h1, h2, h3, if_neg (by omega), if_pos]
  refine ⟨h, ?_⟩
  have e1 : (bytes x ++ t).take (9 + x.text.length) = body x := by
    rw [bytes, List.append_assoc, ← body_length, List.take_left]
  have e2 : (bytes x ++ t).drop (9 + x.text.length) = four (Crc.bytes (body x)) ++ t := by
    rw [bytes, List.append_assoc, ← body_length, List.drop_left]
  rw [e1, e2, num4_four (Crc.bytes_lt (body_u hf))]
theorem nine {b : List Nat} (h : 13 ≤ b.length) : ∃ b0 b1 b2 b3 b4 b5 b6 b7 b8 r, b = b0 :: b1 :: b2 :: b3 :: b4 :: b5 :: b6 :: b7 :: b8 :: r := by
  match b, h with
  | b0 :: b1 :: b2 :: b3 :: b4 :: b5 :: b6 :: b7 :: b8 :: r, _ => exact ⟨_, _, _, _, _, _, _, _, _, _, rfl⟩
theorem four_num4 {b : List Nat} (h : 4 ≤ b.length) (hu : ∀ x ∈ b, x < 256) : four (num4 b) = b.take 4 := by
  match b, h with
  | a :: b :: c :: d :: r, _ =>
    have ha := hu a (by simp)
    have hb := hu b (by simp)
    have hc := hu c (by simp)
    have hd := hu d (by simp)
    simp [four, num4]
    omega
/-- the bytes that are told to be a record's, are: if they begin with that record's bytes -/
theorem parse_head {b : List Nat} (h : 13 + told b ≤ b.length) (h6 : b.getD 6 0 ≤ 1) (hu : ∀ x ∈ b, x < 256) : body (parse b) = b.take (9 + told b) ∧ (parse b).text.length = told b ∧ Fit (parse b) := by
  have htl : (parse b).text.length = told b := by
    simp [parse]
    omega
  obtain ⟨b0, b1, b2, b3, b4, b5, b6, b7, b8, r, rfl⟩ := nine (b := b) (by omega)
  have g0 := hu b0 (by simp)
  have g1 := hu b1 (by simp)
  have g2 := hu b2 (by simp)
  have g3 := hu b3 (by simp)
  have g4 := hu b4 (by simp)
  have g5 := hu b5 (by simp)
  have g7 := hu b7 (by simp)
  have g8 := hu b8 (by simp)
  simp at h6
  have e6 : one (decide (b6 = 1)) = b6 := by
    have : b6 = 0 ∨ b6 = 1 := by omega
    rcases this with rfl | rfl <;> rfl
  have et : told (b0 :: b1 :: b2 :: b3 :: b4 :: b5 :: b6 :: b7 :: b8 :: r) = b7 * 256 + b8 := by simp [told]
  refine ⟨?_, htl, ⟨by simpa [parse] using g0, by simp [parse, num4]; omega, by simpa [parse] using g5, fun x hx => ?_⟩⟩
  · rw [body, head, htl, et, Nat.add_comm 9]
    simp [parse, num4, four, e6, et]
    omega
  · simp only [parse] at hx
    exact hu x (List.mem_of_mem_drop (List.mem_of_mem_take hx))
theorem first_some {b : List Nat} {x : Nr} (hu : ∀ y ∈ b, y < 256) (h : first b = some x) : b = bytes x ++ b.drop (size x) ∧ x.right = true ∧ Fit x ∧ size x ≤ b.length ∧ x = parse b := by
  unfold first at h
  split at h
  · cases h
  next h1 =>
  split at h
  next h2 =>
    obtain rfl := Option.some.inj h
    obtain ⟨p1, p2, p3⟩ := parse_head (b := b) (by omega) (by omega) hu
    have hsz : size (parse b) = 13 + told b := by rw [size, p2]
    refine ⟨?_, h2.1, p3, by omega, rfl⟩
    have e1 : four (Crc.bytes (body (parse b))) = (b.drop (9 + told b)).take 4 := by
      rw [p1, h2.2]
      exact four_num4 (by rw [List.length_drop]; omega) (fun y hy => hu y (List.mem_of_mem_drop hy))
    have e3 : (b.drop (9 + told b)).take 4 ++ b.drop (9 + told b + 4) = b.drop (9 + told b) := by
      have := List.take_append_drop 4 (b.drop (9 + told b))
      rwa [List.drop_drop] at this
    rw [bytes, e1, p1, hsz, List.append_assoc, show 13 + told b = 9 + told b + 4 by omega, e3, List.take_append_drop]
  · cases h
/-- what the document's answer looks at: the record as it may be, and its bytes -/
theorem first_iff {b : List Nat} (hu : ∀ y ∈ b, y < 256) (x : Nr) : first b = some x ↔ 13 + told b ≤ b.length ∧ 13 ≤ b.length ∧ x = parse b ∧ x.right = true ∧ bytes x <+: b := by
  constructor
  · intro h
    obtain ⟨h1, h2, h3, h4, h5⟩ := first_some hu h
    unfold first at h
    split at h
    · cases h
    next g1 => exact ⟨by omega, by omega, h5, h2, ⟨_, h1.symm⟩⟩
  · rintro ⟨h1, h0, rfl, h2, ⟨t, ht⟩⟩
    have hf : Fit (parse b) := by
      have g : ∀ i, b.getD i 0 < 256 := fun i => by
        rw [List.getD_eq_getElem?_getD]
        cases hi : b[i]? with
        | none => simp
        | some y => exact hu y (List.mem_of_getElem? hi)
      have g2 : ∀ i, (b.drop 1).getD i 0 < 256 := fun i => by
        rw [List.getD_eq_getElem?_getD, List.getElem?_drop]
        cases hi : b[1 + i]? with
        | none => simp
        | some y => exact hu y (List.mem_of_getElem? hi)
      refine ⟨g 0, ?_, g 5, fun y hy => hu y (List.mem_of_mem_drop (List.mem_of_mem_take hy))⟩
      have := g2 0
      have := g2 1
      have := g2 2
      have := g2 3
      simp only [parse, num4]
      omega
    have := first_bytes h2 hf t
    rwa [ht] at this
theorem first_short {x : Nr} (h : x.right = true) (hf : Fit x) {k : Nat} (hk : k < size x) : first ((bytes x).take k) = none := by
  unfold first
  rw [if_pos]
  by_cases h13 : k < 13
  · exact .inl (by rw [List.length_take]; omega)
  · refine .inr (.inr ?_)
    have ht : told ((bytes x).take k) = x.text.length := by
      have h2 := (parse_bytes h hf []).2.1
      rw [List.append_nil] at h2
      rw [← h2]
      simp only [told, List.getD_eq_getElem?_getD, List.getElem?_take]
      rw [if_pos (by omega), if_pos (by omega)]
    rw [ht, List.length_take]
    have : size x = 13 + x.text.length := rfl
    omega
theorem first_le {b : List Nat} {x : Nr} (h : first b = some x) : size x ≤ b.length ∧ 13 ≤ b.length ∧ 13 ≤ size x := by
  unfold first at h
  split at h
  · cases h
  next h1 =>
  split at h
  next h2 =>
    obtain rfl := Option.some.inj h
    have : (parse b).text.length ≤ told b := by simp only [parse, List.length_take]; omega
    simp only [size]
    omega
  · cases h
/-- the records that bytes begin with, and how many bytes they have -/
def read (b : List Nat) : List Nr × Nat :=
  match h : first b with
  | none => ([], 0)
  | some x => (x :: (read (b.drop (size x))).1, size x + (read (b.drop (size x))).2)
  termination_by b.length
  decreasing_by all_goals (have := first_le h; rw [List.length_drop]; omega)
theorem read_none {b : List Nat} (h : first b = none) : read b = ([], 0) := by
  rw [read]
  split
  · rfl
  next x hx => rw [h] at hx; cases hx
theorem read_some {b : List Nat} {x : Nr} (h : first b = some x) : read b = (x :: (read (b.drop (size x))).1, size x + (read (b.drop (size x))).2) := by
  rw [read]
  split
  next hx => rw [h] at hx; cases hx
  next y hy =>
    rw [h] at hy
    obtain rfl := Option.some.inj hy
    rfl
theorem read_le (b : List Nat) : (read b).2 ≤ b.length := by
  generalize hn : b.length = n
  induction n using Nat.strongRecOn generalizing b with
  | ind n ih =>
    cases h : first b with
    | none => rw [read_none h]; exact Nat.zero_le _
    | some x =>
      have h1 := first_le h
      have := ih (b.drop (size x)).length (by rw [List.length_drop]; omega) (b.drop (size x)) rfl
      rw [read_some h]
      rw [List.length_drop] at this
      show size x + _ ≤ n
      omega
/-- bytes of records, one behind the other -/
def all (l : List Nr) : List Nat := l.flatMap bytes
theorem all_cons (x : Nr) (l : List Nr) : all (x :: l) = bytes x ++ all l := rfl
theorem all_append (l m : List Nr) : all (l ++ m) = all l ++ all m := by simp [all]
theorem read_all : ∀ (l : List Nr) (t : List Nat), (∀ x ∈ l, x.right = true ∧ Fit x) → read (all l ++ t) = (l ++ (read t).1, (all l).length + (read t).2)
  | [], t, _ => by simp [all]
  | x :: l, t, h => by
    have hx := h x (by simp)
    have hf := first_bytes hx.1 hx.2 (all l ++ t)
    rw [all_cons, List.append_assoc, read_some hf, ← bytes_length, List.drop_left, read_all l t (fun y hy => h y (by simp [hy]))]
    simp
    omega
theorem read_nil : read [] = ([], 0) := read_none (by simp [first])
theorem read_is (l : List Nr) (h : ∀ x ∈ l, x.right = true ∧ Fit x) : read (all l) = (l, (all l).length) := by
  have := read_all l [] h
  rw [List.append_nil, read_nil] at this
  simpa using this
/-- what bytes begin with is those records' bytes -/
theorem read_back {b : List Nat} (hu : ∀ y ∈ b, y < 256) : b.take (read b).2 = all (read b).1 ∧ ∀ x ∈ (read b).1, x.right = true ∧ Fit x := by
  generalize hn : b.length = n
  induction n using Nat.strongRecOn generalizing b with
  | ind n ih =>
    cases h : first b with
    | none => rw [read_none h]; exact ⟨by simp [all], by simp⟩
    | some x =>
      have h1 := first_le h
      obtain ⟨e1, e2, e3, _⟩ := first_some hu h
      obtain ⟨i1, i2⟩ := ih (b.drop (size x)).length (by rw [List.length_drop]; omega) (b := b.drop (size x)) (fun y hy => hu y (List.mem_of_mem_drop hy)) rfl
      rw [read_some h]
      refine ⟨?_, ?_⟩
      · show b.take (size x + _) = all (x :: _)
        rw [all_cons, ← i1, List.take_add]
        congr 1
        conv => lhs; rw [e1]
        rw [← bytes_length, List.take_left]
      · intro y hy
        rcases List.mem_cons.1 hy with rfl | hy
        · exact ⟨e2, e3⟩
        · exact i2 y hy
end Nr
end Go.Proofs.Ytalaobpehkgilaa
