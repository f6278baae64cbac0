/- The plain law of NvlogKeeps: what a disk of records is through appending, crashes and opening. -/
import Derived.Test.YtalaobpehkgilaaNvOpen
import Derived.Test.YtalaobpehkgilaaDkFree
namespace Go.Proofs.Ytalaobpehkgilaa
set_option linter.unusedVariables false
def Good (l : List Nr) : Prop := ∀ x ∈ l, x.right = true ∧ x.Fit
/-- a disk that is on, with just these records, all safe -/
structure Dk.Has (D : Dk) (H : List Nr) : Prop where
  l : D.l = Nr.all H
  safe : D.safe = D.l.length
  off : D.off = false
/-- a disk with these records, and the first bytes of one more; the records are safe -/
structure Dk.Tail (D : Dk) (H : List Nr) (x : Nr) : Prop where
  l : ∃ m, m ≤ x.bytes.length ∧ D.l = Nr.all H ++ x.bytes.take m
  safe : (Nr.all H).length ≤ D.safe
theorem Good.snoc {H : List Nr} {x : Nr} (h : Good H) (hx : x.right = true ∧ x.Fit) : Good (H ++ [x]) := fun y hy => by
  rcases List.mem_append.1 hy with hy | hy
  · exact h y hy
  · rw [List.mem_singleton.1 hy]; exact hx
theorem all_snoc (H : List Nr) (x : Nr) : Nr.all (H ++ [x]) = Nr.all H ++ x.bytes := by rw [Nr.all_append]; simp [Nr.all]
/-- what bytes of records, and the first ones of one more, are read as -/
theorem read_tail {H : List Nr} {x : Nr} (h : Good H) (hx : x.right = true ∧ x.Fit) {m : Nat} (hm : m ≤ x.bytes.length) :
    (m = x.bytes.length ∧ Nr.read (Nr.all H ++ x.bytes.take m) = (H ++ [x], (Nr.all H ++ x.bytes.take m).length)) ∨ (m < x.bytes.length ∧ Nr.read (Nr.all H ++ x.bytes.take m) = (H, (Nr.all H).length)) := by
  rcases Nat.lt_or_ge m x.bytes.length with h1 | h1
  · refine .inr ⟨h1, ?_⟩
    rw [Nr.read_all H _ h, Nr.read_none (Nr.first_short hx.1 hx.2 (by rw [← Nr.bytes_length]; exact h1))]
    simp
  · obtain rfl : m = x.bytes.length := by omega
    refine .inl ⟨rfl, ?_⟩
    rw [List.take_length, ← all_snoc]
    exact Nr.read_is _ (h.snoc hx)
theorem Dk.puts_off : ∀ (b : List Nat) (D : Dk), D.off = false → ∃ m, m ≤ b.length ∧ (Dk.puts D b).1.l = D.l ++ b.take m ∧ (Dk.puts D b).1.safe = D.safe ∧ (((Dk.puts D b).2 = 0 ∧ m = b.length ∧ (Dk.puts D b).1.off = false) ∨ (Dk.puts D b).2 = 6)
  | [], D, ho => ⟨0, Nat.le_refl _, by simp [Dk.puts], rfl, .inl ⟨rfl, rfl, ho⟩⟩
  | x :: b, D, ho => by
    have hl := Dk.sparked_l D
    unfold Dk.puts
    by_cases h : (Dk.sparked D).2 = true
    · rw [if_pos h]
      have ho1 : (Dk.sparked D).1.off = false := by
        unfold Dk.sparked at h ⊢
        split at h
        · exact ho
        · cases h
        · exact ho
      obtain ⟨m, h1, h2, h3, h4⟩ := Dk.puts_off b { (Dk.sparked D).1 with l := (Dk.sparked D).1.l ++ [x] } ho1
      refine ⟨m + 1, by simp; omega, by rw [h2]; simp [hl.1], by rw [h3]; exact hl.2.1, ?_⟩
      rcases h4 with ⟨a, b', c⟩ | a
      · exact .inl ⟨a, by simp [b'], c⟩
      · exact .inr a
    · rw [if_neg h]
      exact ⟨0, by simp, by simp [hl.1], hl.2.1, .inr rfl⟩
/-- syncing a disk that is on -/
theorem Dk.sync_off {D : Dk} (ho : D.off = false) : (D.sync).1.l = D.l ∧ (((D.sync).2 = 0 ∧ (D.sync).1.safe = D.l.length ∧ (D.sync).1.off = false) ∨ ((D.sync).2 = 6 ∧ (D.sync).1.safe = D.safe ∧ D.left ≠ none)) := by
  have hl := Dk.sparked_l D
  unfold Dk.sync
  rw [if_neg (by rw [ho]; decide)]
  split
  next h =>
    refine ⟨hl.1, .inl ⟨rfl, by show (Dk.sparked D).1.l.length = _; rw [hl.1], ?_⟩⟩
    show (Dk.sparked D).1.off = false
    unfold Dk.sparked at h ⊢
    split at h
    · exact ho
    · cases h
    · exact ho
  next h =>
    refine ⟨hl.1, .inr ⟨rfl, hl.2.1, fun hn => h ?_⟩⟩
    unfold Dk.sparked
    rw [hn]
/-- appending a record upon a disk of records -/
theorem Dk.lappend_has {D : Dk} {H : List Nr} (h : D.Has H) (x : Nr) :
    ((D.lappend x).2 = 0 ∧ x.right = true ∧ (D.lappend x).1.Has (H ++ [x])) ∨ ((D.lappend x).2 = 6 ∧ x.right = true ∧ (D.lappend x).1.Tail H x) ∨ (((D.lappend x).2 = 5 ∨ (D.lappend x).2 = 50) ∧ (D.lappend x).1.Has H) := by
  unfold Dk.lappend
  by_cases hr : x.right = true
  · rw [if_pos hr]
    unfold Dk.append
    rw [if_neg (show ¬ (D.off = true) by rw [h.off]; decide)]
    by_cases hf : D.room < D.l.length + x.bytes.length
    · rw [if_pos hf, if_neg (show ¬ ((D, (5 : Int)).2 = 0) by show ¬ ((5 : Int) = 0); decide)]
      exact .inr (.inr ⟨.inl rfl, h⟩)
    · rw [if_neg hf]
      obtain ⟨m, h1, h2, h3, h4⟩ := Dk.puts_off x.bytes D h.off
      have hT : (Dk.puts D x.bytes).1.Tail H x := ⟨⟨m, h1, by rw [h2, h.l]⟩, by rw [h3, h.safe, h.l]; exact Nat.le_refl _⟩
      rcases h4 with ⟨e0, hm, ho⟩ | e6
      · rw [if_pos e0]
        have hs := Dk.sync_off ho
        rcases hs.2 with ⟨s0, ss, so⟩ | ⟨s6, ss, _⟩
        · refine .inl ⟨s0, hr, ⟨?_, by rw [ss, hs.1], so⟩⟩
          rw [hs.1, h2, hm, List.take_length, all_snoc, h.l]
        · refine .inr (.inl ⟨s6, hr, ⟨⟨m, h1, by rw [hs.1, h2, h.l]⟩, by rw [ss]; exact hT.safe⟩⟩)
      · rw [if_neg (by rw [e6]; decide)]
        exact .inr (.inl ⟨e6, hr, hT⟩)
  · rw [if_neg hr]
    exact .inr (.inr ⟨.inr rfl, h⟩)
theorem Dk.Tail.crash {D : Dk} {H : List Nr} {x : Nr} (h : D.Tail H x) (hs : D.safe ≤ D.l.length) (n : Int) : (D.crash n).Tail H x ∧ (D.crash n).off = false ∧ (D.crash n).safe = (D.crash n).l.length ∧ (D.crash n).left = none := by
  obtain ⟨m, hm, hl⟩ := h.l
  have hs2 := h.safe
  obtain ⟨k, hk⟩ : ∃ k, D.safe + min n.toNat (D.l.length - D.safe) = k := ⟨_, rfl⟩
  have hk2 : k ≤ D.l.length := by omega
  have hk3 : (Nr.all H).length ≤ k := by omega
  have hcl : (D.crash n).l = D.l.take k := by simp only [Dk.crash, hk]
  have hcs : (D.crash n).safe = k := by simp only [Dk.crash, hk]
  refine ⟨⟨⟨min (k - (Nr.all H).length) m, by omega, ?_⟩, by rw [hcs]; exact hk3⟩, rfl, by rw [hcs, hcl, List.length_take]; omega, rfl⟩
  rw [hcl, hl, List.take_append, List.take_of_length_le hk3, List.take_take]
theorem Dk.Tail.sparks {D : Dk} {H : List Nr} {x : Nr} (h : D.Tail H x) (n : Int) : (D.sparks n).Tail H x := ⟨h.l, h.safe⟩
/-- opening upon a disk with the first bytes of one more -/
theorem Dk.lopen_tail {D : Dk} {H : List Nr} {x : Nr} (h : D.Tail H x) (hg : Good H) (hx : x.right = true ∧ x.Fit) (ho : D.off = false) (hs : D.safe = D.l.length) :
    ((D.lopen).2.2 = 0 ∧ ((D.lopen).2.1 = H ∨ (D.lopen).2.1 = H ++ [x]) ∧ (D.lopen).1.Has (D.lopen).2.1) ∨ ((D.lopen).2.2 ≠ 0 ∧ (D.lopen).1.Tail H x ∧ D.left ≠ none) := by
  obtain ⟨m, hm, hl⟩ := h.l
  have hs2 := h.safe
  have key : ∀ (E : Dk) (rs : List Nr), E.off = false → E.l = Nr.all rs → (rs = H ∨ rs = H ++ [x]) → E.Tail H x → (E.left ≠ none → D.left ≠ none) →
      ((E.lopen2 rs).2.2 = 0 ∧ ((E.lopen2 rs).2.1 = H ∨ (E.lopen2 rs).2.1 = H ++ [x]) ∧ (E.lopen2 rs).1.Has (E.lopen2 rs).2.1) ∨ ((E.lopen2 rs).2.2 ≠ 0 ∧ (E.lopen2 rs).1.Tail H x ∧ D.left ≠ none) := by
    intro E rs eo el hrs et hle
    have hsy := Dk.sync_off eo
    unfold Dk.lopen2
    rcases hsy.2 with ⟨s0, ss, so⟩ | ⟨s6, ss, sl⟩
    · rw [if_pos s0]
      exact .inl ⟨rfl, hrs, ⟨by show E.sync.1.l = _; rw [hsy.1, el], by show E.sync.1.safe = E.sync.1.l.length; rw [ss, hsy.1], so⟩⟩
    · rw [if_neg (by rw [s6]; decide)]
      refine .inr ⟨by show E.sync.2 ≠ 0; rw [s6]; decide, ⟨?_, by show _ ≤ E.sync.1.safe; rw [ss]; exact et.safe⟩, hle sl⟩
      obtain ⟨m', hm', hl'⟩ := et.l
      exact ⟨m', hm', by show E.sync.1.l = _; rw [hsy.1, hl']⟩
  unfold Dk.lopen
  rcases read_tail hg hx hm with ⟨hm1, hr⟩ | ⟨hm1, hr⟩
  · rw [hl, hr]
    rw [if_neg (by simp)]
    refine key D (H ++ [x]) ho ?_ (.inr rfl) h id
    rw [hl, hm1, List.take_length, all_snoc]
  · rw [hl, hr]
    by_cases hc : (Nr.all H).length < (Nr.all H ++ x.bytes.take m).length
    · rw [if_pos hc]
      have hcl := Dk.sparked_l D
      have hcut : D.cut (((Nr.all H).length : Nat) : Int) = if D.sparked.2 = true then ({ D.sparked.1 with l := D.sparked.1.l.take (Nr.all H).length, safe := min D.sparked.1.safe (Nr.all H).length }, 0) else (D.sparked.1, 6) := by
        unfold Dk.cut
        rw [if_neg (show ¬ (D.off = true) by rw [ho]; decide), if_neg (by rw [hl, List.length_append]; omega), Int.toNat_natCast]
      simp only [hcut]
      by_cases hsp : (Dk.sparked D).2 = true
      · simp only [hsp, if_true]
        refine key _ H ?_ ?_ (.inl rfl) ⟨⟨0, Nat.zero_le _, ?_⟩, ?_⟩ ?_
        · show (Dk.sparked D).1.off = false
          unfold Dk.sparked at hsp ⊢
          split at hsp
          · exact ho
          · cases hsp
          · exact ho
        · show (Dk.sparked D).1.l.take _ = _
          rw [hcl.1, hl, List.take_left]
        · show (Dk.sparked D).1.l.take _ = _
          rw [hcl.1, hl, List.take_left]; simp
        · show _ ≤ min (Dk.sparked D).1.safe _
          rw [hcl.2.1]; omega
        · intro hne hn
          apply hne
          show (Dk.sparked D).1.left = none
          unfold Dk.sparked
          rw [hn]
          exact hn
      · rw [if_neg hsp, if_neg (show ¬ (((Dk.sparked D).1, (6 : Int)).2 = 0) by show ¬ ((6 : Int) = 0); decide)]
        refine .inr ⟨by show (6 : Int) ≠ 0; decide, ⟨⟨m, hm, by show (Dk.sparked D).1.l = _; rw [hcl.1, hl]⟩, by show _ ≤ (Dk.sparked D).1.safe; rw [hcl.2.1]; exact hs2⟩, fun hn => hsp ?_⟩
        unfold Dk.sparked
        rw [hn]
    · rw [if_neg hc]
      have hm0 : x.bytes.take m = [] := List.eq_nil_of_length_eq_zero (by rw [List.length_append] at hc; omega)
      refine key D H ho ?_ (.inl rfl) h id
      rw [hl, hm0, List.append_nil]
/-- opening upon a disk of records, with sparks without end -/
theorem Dk.lopen_has {D : Dk} {H : List Nr} (h : D.Has H) (hg : Good H) (hn : D.left = none) : (D.lopen).2.2 = 0 ∧ (D.lopen).2.1 = H ∧ (D.lopen).1.Has H := by
  unfold Dk.lopen
  rw [h.l, Nr.read_is H hg]
  rw [if_neg (by simp)]
  have hsy := Dk.sync_off h.off
  unfold Dk.lopen2
  rcases hsy.2 with ⟨s0, ss, so⟩ | ⟨_, _, sl⟩
  · rw [if_pos s0]
    exact ⟨rfl, rfl, ⟨by show D.sync.1.l = _; rw [hsy.1, h.l], by show D.sync.1.safe = D.sync.1.l.length; rw [ss, hsy.1], so⟩⟩
  · exact absurd hn sl
theorem Dk.Has.sparks {D : Dk} {H : List Nr} (h : D.Has H) (n : Int) : (D.sparks n).Has H := ⟨h.l, h.safe, h.off⟩
theorem Dk.has_new (r : Nat) : (Dk.new r).Has [] := ⟨rfl, rfl, rfl⟩
theorem Dk.Has.few {D : Dk} {H : List Nr} (h : D.Has H) (hok : D.Ok) : H.length * 13 ≤ D.room := by
  have h1 := hok.room
  rw [h.l] at h1
  refine Nat.le_trans ?_ h1
  clear h h1
  induction H with
  | nil => simp
  | cons x H ih =>
    rw [Nr.all_cons, List.length_append, Nr.bytes_length, Nr.size, List.length_cons]
    omega
end Go.Proofs.Ytalaobpehkgilaa
