/- The plain law of TxidOnce: the numbers reserved upon a disk, what is taken, what a crash passes over. -/
import Derived.Test.YtalaobpehkgilaaTxLaw
import Derived.Test.YtalaobpehkgilaaNvKLaw
namespace Go.Proofs.Ytalaobpehkgilaa
set_option linter.unusedVariables false
/-- a reserving -/
abbrev rv (t : Nat) : Nr := ⟨1, t, 0, false, []⟩
def grT (T : List Nat) : Nat := Tx.gr (T.map fun t => (1, t))
theorem grT_snoc (T : List Nat) (t : Nat) : grT (T ++ [t]) = max (grT T) t := by
  unfold grT
  rw [List.map_append, List.map_singleton, Tx.gr_snoc, Tx.most]
  split
  · omega
  · omega
theorem grT_one (t : Nat) : grT [t] = t := by
  have := grT_snoc [] t
  rw [List.nil_append] at this
  rw [this]
  show max 0 t = t
  omega
theorem grT_lt {T : List Nat} (h : ∀ t ∈ T, t < 4294967296) : grT T < 4294967296 := Tx.gr_lt (by
  intro r hr
  obtain ⟨t, ht, rfl⟩ := List.mem_map.1 hr
  exact h t ht)
theorem rv_right (t : Nat) : (rv t).right = true := by simp [Nr.right]
theorem rv_fit {t : Nat} (h : t < 4294967296) : (rv t).Fit := ⟨(by decide : 1 < 256), h, (by decide : 0 < 256), by simp⟩
theorem rv_size (t : Nat) : (rv t).bytes.length = 13 := by rw [Nr.bytes_length, Nr.size]; rfl
theorem all_rv (T : List Nat) : (Nr.all (T.map rv)).length = 13 * T.length := by
  induction T with
  | nil => rfl
  | cons t T ih => rw [List.map_cons, Nr.all_cons, List.length_append, ih, rv_size, List.length_cons]; omega
theorem good_rv {T : List Nat} (h : ∀ t ∈ T, t < 4294967296) : Good (T.map rv) := by
  intro x hx
  obtain ⟨t, ht, rfl⟩ := List.mem_map.1 hx
  exact ⟨rv_right t, rv_fit (h t ht)⟩
theorem Dk.Has.crash {D : Dk} {H : List Nr} (h : D.Has H) (n : Int) : (D.crash n).Has H ∧ (D.crash n).left = none := by
  have hk : D.safe + min n.toNat (D.l.length - D.safe) = D.l.length := by rw [h.safe]; omega
  have hl : (D.crash n).l = D.l := by simp only [Dk.crash, hk, List.take_length]
  have hs : (D.crash n).safe = D.l.length := by simp only [Dk.crash, hk]
  exact ⟨⟨by rw [hl, h.l], by rw [hs, hl], rfl⟩, rfl⟩
/-- a disk that ran out of sparks is off -/
theorem Dk.sparked_off {D : Dk} (h : ¬ (Dk.sparked D).2 = true) : (Dk.sparked D).1.off = true := by
  unfold Dk.sparked at h ⊢
  split at h
  · exact absurd rfl h
  · rfl
  · exact absurd rfl h
theorem Dk.puts_six : ∀ (b : List Nat) (D : Dk), D.off = false → ((Dk.puts D b).2 = 0 ∧ (Dk.puts D b).1.off = false) ∨ ((Dk.puts D b).2 = 6 ∧ (Dk.puts D b).1.off = true)
  | [], D, ho => .inl ⟨rfl, ho⟩
  | x :: b, D, ho => by
    unfold Dk.puts
    by_cases h : (Dk.sparked D).2 = true
    · rw [if_pos h]
      have ho1 : (Dk.sparked D).1.off = false := by
        unfold Dk.sparked at h ⊢
        split at h
        · exact ho
        · cases h
        · exact ho
      exact Dk.puts_six b _ ho1
    · rw [if_neg h]
      exact .inr ⟨rfl, Dk.sparked_off h⟩
theorem Dk.sync_six {D : Dk} (ho : D.off = false) : ((D.sync).2 = 0) ∨ ((D.sync).2 = 6 ∧ (D.sync).1.off = true) := by
  unfold Dk.sync
  rw [if_neg (by rw [ho]; decide)]
  by_cases h : (Dk.sparked D).2 = true
  · rw [if_pos h]; exact .inl rfl
  · rw [if_neg h]; exact .inr ⟨rfl, Dk.sparked_off h⟩
theorem Dk.lappend_six {D : Dk} (ho : D.off = false) {x : Nr} (hr : x.right = true) (hf : D.l.length + x.bytes.length ≤ D.room) : (D.lappend x).2 = 0 ∨ ((D.lappend x).2 = 6 ∧ (D.lappend x).1.off = true) := by
  unfold Dk.lappend
  rw [if_pos hr]
  have ha : D.append x.bytes = Dk.puts D x.bytes := by unfold Dk.append; rw [if_neg (by rw [ho]; decide), if_neg (by omega)]
  rw [ha]
  rcases Dk.puts_six x.bytes D ho with ⟨h1, h2⟩ | ⟨h1, h2⟩
  · rw [if_pos h1]
    exact Dk.sync_six h2
  · rw [if_neg (by rw [h1]; decide)]
    exact .inr ⟨h1, h2⟩
theorem Dk.puts_room : ∀ (b : List Nat) (D : Dk), (Dk.puts D b).1.room = D.room
  | [], D => rfl
  | x :: b, D => by
    have h := (Dk.sparked_l D).2.2
    unfold Dk.puts
    split
    · rw [Dk.puts_room b]; exact h
    · exact h
theorem Dk.sync_room (D : Dk) : (D.sync).1.room = D.room := by
  have h := (Dk.sparked_l D).2.2
  unfold Dk.sync
  split
  · rfl
  split
  · exact h
  · exact h
theorem Dk.lappend_room (D : Dk) (x : Nr) : (D.lappend x).1.room = D.room := by
  have ha : (D.append x.bytes).1.room = D.room := by
    unfold Dk.append
    split
    · rfl
    split
    · rfl
    · exact Dk.puts_room _ _
  unfold Dk.lappend
  split
  · split
    · rw [Dk.sync_room, ha]
    · exact ha
  · rfl
theorem Dk.lopen_room (D : Dk) : (D.lopen).1.room = D.room := by
  have hc : ∀ n, (D.cut n).1.room = D.room := by
    intro n
    have h := (Dk.sparked_l D).2.2
    unfold Dk.cut
    split
    · rfl
    split
    · rfl
    split
    · exact h
    · exact h
  have h2 : ∀ (E : Dk) rs, (E.lopen2 rs).1.room = E.room := by
    intro E rs
    unfold Dk.lopen2
    split
    · exact Dk.sync_room E
    · exact Dk.sync_room E
  unfold Dk.lopen
  split
  · split
    · rw [h2, hc]
    · exact hc _
  · exact h2 _ _
/-- the reservings T, the numbers N (next) and E (end), La the last one that was taken, go how many crashes since then, behind k rounds -/
structure Once (k : Nat) (T : List Nat) (N E La go : Nat) : Prop where
  few : T.length ≤ k + 1
  fit : ∀ t ∈ T, t < 4294967296
  e : E = max (grT T) 1
  ne : N ≤ E
  pos : 1 ≤ N
  near : E ≤ N + 16
  lo : La + 1 ≤ N
  hi : N ≤ La + 1 + 16 * go
  gk : go ≤ k
namespace Once
variable {k N E La go : Nat} {T : List Nat}
theorem top (h : Once k T N E La go) : E ≤ 4294967295 := by have := grT_lt h.fit; have := h.e; omega
theorem begin_ {t : Nat} (ht : t < 4294967296) : Once 0 [t] (max t 1) (max t 1) (max t 1 - 1) 0 :=
  ⟨by simp, by simpa using ht, by rw [grT_one], Nat.le_refl _, by omega, by omega, by omega, by omega, Nat.le_refl _⟩
theorem crash (h : Once k T N E La go) : Once (k + 1) T E E La (go + 1) := by
  obtain ⟨h1, h2, h3, h4, h5, h6, h7, h8, h9⟩ := h
  exact ⟨by omega, h2, h3, Nat.le_refl _, by omega, by omega, by omega, by omega, by omega⟩
theorem fit_snoc (h : Once k T N E La go) {m : Nat} (hm : m < 4294967296) : ∀ t ∈ T ++ [m], t < 4294967296 := fun t ht => by
  rcases List.mem_append.1 ht with ht | ht
  · exact h.fit t ht
  · rw [List.mem_singleton.1 ht]; exact hm
theorem tail (h : Once k T N N La go) {m : Nat} (hN : N < 4294967295) (hm : m = min (N + 16) 4294967295) : Once (k + 1) (T ++ [m]) m m La (go + 1) := by
  have hf := h.fit_snoc (m := m) (by omega)
  obtain ⟨h1, h2, h3, h4, h5, h6, h7, h8, h9⟩ := h
  refine ⟨by rw [List.length_append, List.length_singleton]; omega, hf, ?_, Nat.le_refl _, by omega, by omega, by omega, by omega, by omega⟩
  rw [grT_snoc]
  omega
theorem reserve (h : Once k T N N La go) {m : Nat} (hN : N < 4294967295) (hm : m = min (N + 16) 4294967295) : Once (k + 1) (T ++ [m]) (N + 1) m N 0 := by
  have hf := h.fit_snoc (m := m) (by omega)
  obtain ⟨h1, h2, h3, h4, h5, h6, h7, h8, h9⟩ := h
  refine ⟨by rw [List.length_append, List.length_singleton]; omega, hf, ?_, by omega, by omega, by omega, by omega, by omega, by omega⟩
  rw [grT_snoc]
  omega
theorem take (h : Once k T N E La go) (hN : N < E) : Once (k + 1) T (N + 1) E N 0 := by
  obtain ⟨h1, h2, h3, h4, h5, h6, h7, h8, h9⟩ := h
  exact ⟨by omega, h2, h3, by omega, by omega, by omega, by omega, by omega, by omega⟩
theorem more (h : Once k T N E La go) : Once (k + 1) T N E La go := by
  obtain ⟨h1, h2, h3, h4, h5, h6, h7, h8, h9⟩ := h
  exact ⟨by omega, h2, h3, h4, h5, h6, h7, h8, by omega⟩
end Once
end Go.Proofs.Ytalaobpehkgilaa
