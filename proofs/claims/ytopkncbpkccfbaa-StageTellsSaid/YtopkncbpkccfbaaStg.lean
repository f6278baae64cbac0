/- Plain law of tagged blocks: no program in sight. -/
import Derived.Test.YtopkncbpkccfbaaBkLaw
namespace Go.Proofs.Ytopkncbpkccfbaa.Stg
open Go.Proofs.Ytopkncbpkccfbaa.Bk
def zs (n : Nat) : List Nat := List.replicate n 0
def itself (a : Int) (ws : List Nat) : List Nat := if fits a ws.length = true then a.toNat :: ws.length :: (ws ++ zs (14 - ws.length)) else zs 16
theorem itself_yes {a : Int} {ws : List Nat} (h : fits a ws.length = true) : itself a ws = a.toNat :: ws.length :: (ws ++ zs (14 - ws.length)) := by simp [itself, h]
theorem itself_no {a : Int} {ws : List Nat} (h : fits a ws.length = false) : itself a ws = zs 16 := by simp [itself, h]
theorem itself_length (a : Int) (ws : List Nat) : (itself a ws).length = 16 := by
  unfold itself
  split
  · rename_i h
    have := fits_iff.1 h
    simp [zs]; omega
  · simp [zs]
theorem itself_u16 {a : Int} {ws : List Nat} (h : ∀ x ∈ ws, x < 65536) : ∀ x ∈ itself a ws, x < 65536 := by
  intro x hx
  unfold itself at hx
  split at hx
  · rename_i hf
    have := fits_iff.1 hf
    simp only [List.mem_cons, List.mem_append, zs, List.mem_replicate] at hx
    rcases hx with rfl | rfl | hx | hx
    · omega
    · omega
    · exact h x hx
    · omega
  · simp only [zs, List.mem_replicate] at hx
    omega
def tagged (o t n : Nat) (a : Int) (ws : List Nat) : List Nat := o :: t / 65536 :: t % 65536 :: n :: itself a ws
theorem tagged_length (o t n : Nat) (a : Int) (ws : List Nat) : (tagged o t n a ws).length = 20 := by simp [tagged, itself_length]
theorem tagged_u16 {o t n : Nat} {a : Int} {ws : List Nat} (ho : o < 65536) (ht : t < 4294967296) (hn : n < 65536) (h : ∀ x ∈ ws, x < 65536) : ∀ x ∈ tagged o t n a ws, x < 65536 := by
  intro x hx
  simp only [tagged, List.mem_cons] at hx
  rcases hx with rfl | rfl | rfl | rfl | hx
  · exact ho
  · omega
  · omega
  · exact hn
  · exact itself_u16 h x hx
/-- what words says: the words, the error -/
def words (o t : Nat) (n : Int) (a : Int) (ws : List Nat) : List Nat × Int :=
  if n < 0 ∨ 7 < n then ([], 2) else if fits a ws.length = true then (tagged o t n.toNat a ws, 0) else ([], 20)
theorem words_u16 {o t : Nat} {n a : Int} {ws : List Nat} (ho : o < 65536) (ht : t < 4294967296) (h : ∀ x ∈ ws, x < 65536) : ∀ x ∈ (words o t n a ws).1, x < 65536 := by
  intro x hx
  unfold words at hx
  split at hx
  · cases hx
  split at hx
  · exact tagged_u16 ho ht (by omega) h x hx
  · cases hx
theorem words_length (o t : Nat) (n a : Int) (ws : List Nat) : (words o t n a ws).1.length ≤ 20 := by
  unfold words
  split
  · simp
  split
  · simp [tagged_length]
  · simp
/-- what words say -/
structure R where
  o : Nat
  t : Nat
  n : Nat
  a : Nat
  ws : List Nat
  e : Int
  deriving DecidableEq
def none2 : R := ⟨0, 0, 0, 0, [], 2⟩
def none20 : R := ⟨0, 0, 0, 0, [], 20⟩
def readOk (w : List Nat) : R := ⟨w.getD 0 0, 65536 * w.getD 1 0 + w.getD 2 0, w.getD 3 0, w.getD 4 0, (w.drop 6).take (w.getD 5 0), 0⟩
def read (w : List Nat) : R :=
  if w.length ≠ 20 ∨ 8 ≤ w.getD 3 0 then none2
  else if 14 < w.getD 5 0 then none20
  else if fits (w.getD 4 0 : Nat) (w.getD 5 0) = true ∧ itself (w.getD 4 0 : Nat) ((w.drop 6).take (w.getD 5 0)) = w.drop 4 then readOk w else none20
theorem read_tagged {o t n : Nat} {a : Int} {ws : List Nat} (hf : fits a ws.length = true) (hn : n ≤ 7) : read (tagged o t n a ws) = ⟨o, t, n, a.toNat, ws, 0⟩ := by
  have h := fits_iff.1 hf
  have hi := itself_yes hf
  have ha : ((a.toNat : Nat) : Int) = a := by omega
  have hl := tagged_length o t n a ws
  have e3 : (tagged o t n a ws).getD 3 0 = n := rfl
  have e4 : (tagged o t n a ws).getD 4 0 = a.toNat := by unfold tagged; rw [hi]; rfl
  have e5 : (tagged o t n a ws).getD 5 0 = ws.length := by unfold tagged; rw [hi]; rfl
  have ed : (tagged o t n a ws).drop 4 = itself a ws := rfl
  have ew : ((tagged o t n a ws).drop 6).take ws.length = ws := by
    unfold tagged; rw [hi]
    show (ws ++ zs (14 - ws.length)).take ws.length = ws
    rw [List.take_append_of_le_length (by omega), List.take_length]
  unfold read
  rw [e3, e4, e5, ew, ed, ha]
  rw [if_neg (by omega), if_neg (by omega), if_pos ⟨hf, rfl⟩]
  unfold readOk
  rw [e3, e4, e5, ew]
  have e0 : (tagged o t n a ws).getD 0 0 = o := rfl
  have e1 : (tagged o t n a ws).getD 1 0 = t / 65536 := rfl
  have e2 : (tagged o t n a ws).getD 2 0 = t % 65536 := rfl
  rw [e0, e1, e2, show 65536 * (t / 65536) + t % 65536 = t by omega]
theorem list20 {w : List Nat} (h : w.length = 20) : w = w.getD 0 0 :: w.getD 1 0 :: w.getD 2 0 :: w.getD 3 0 :: w.drop 4 := by
  match w, h with
  | a :: b :: c :: d :: r, _ => rfl
/-- what is read of words is tagged as just these -/
theorem read_back {w : List Nat} (hw : ∀ x ∈ w, x < 65536) (h : (read w).e = 0) :
    fits ((read w).a : Nat) (read w).ws.length = true ∧ (read w).n ≤ 7 ∧ words (read w).o (read w).t ((read w).n : Nat) ((read w).a : Nat) (read w).ws = (w, 0) := by
  have hr : w.length = 20 ∧ w.getD 3 0 < 8 ∧ w.getD 5 0 ≤ 14 ∧ fits (w.getD 4 0 : Nat) (w.getD 5 0) = true ∧ itself (w.getD 4 0 : Nat) ((w.drop 6).take (w.getD 5 0)) = w.drop 4 ∧ read w = readOk w := by
    unfold read at h ⊢
    split at h
    · exact absurd h (by decide)
    rename_i h1
    split at h
    · exact absurd h (by decide)
    rename_i h2
    split at h
    · rename_i h3
      rw [if_neg h1, if_neg h2, if_pos h3]
      exact ⟨by omega, by omega, by omega, h3.1, h3.2, rfl⟩
    · exact absurd h (by decide)
  obtain ⟨h1, h2, h3, h4, h5, h6⟩ := hr
  have hl : ((w.drop 6).take (w.getD 5 0)).length = w.getD 5 0 := by rw [List.length_take, List.length_drop]; omega
  have hb : ∀ i, w.getD i 0 < 65536 := by
    intro i
    rw [List.getD_eq_getElem?_getD]
    cases hi : w[i]? with
    | none => simp
    | some x => exact hw x (List.mem_of_getElem? hi)
  have hf : fits ((w.getD 4 0 : Nat) : Int) ((w.drop 6).take (w.getD 5 0)).length = true := by rw [hl]; exact h4
  rw [h6]
  refine ⟨hf, by show w.getD 3 0 ≤ 7; omega, ?_⟩
  show words (w.getD 0 0) (65536 * w.getD 1 0 + w.getD 2 0) ((w.getD 3 0 : Nat) : Int) ((w.getD 4 0 : Nat) : Int) ((w.drop 6).take (w.getD 5 0)) = (w, 0)
  unfold words
  rw [if_neg (by omega), if_pos hf]
  unfold tagged
  rw [h5, Int.toNat_natCast]
  have b1 := hb 1
  have b2 := hb 2
  rw [show (65536 * w.getD 1 0 + w.getD 2 0) / 65536 = w.getD 1 0 by omega, show (65536 * w.getD 1 0 + w.getD 2 0) % 65536 = w.getD 2 0 by omega, ← list20 h1]
theorem read_e (w : List Nat) : (read w).e = 0 ∨ (read w).e = 2 ∨ (read w).e = 20 := by
  unfold read
  split
  · exact .inr (.inl rfl)
  split
  · exact .inr (.inr rfl)
  split
  · exact .inl rfl
  · exact .inr (.inr rfl)
theorem tagged_inj {o p t u n m : Nat} {a b : Int} {ws vs : List Nat} (ha : fits a ws.length = true) (hb : fits b vs.length = true) (hn : n ≤ 7) (hm : m ≤ 7) :
    tagged o t n a ws = tagged p u m b vs ↔ o = p ∧ t = u ∧ n = m ∧ a = b ∧ ws = vs := by
  constructor
  · intro h
    have h1 := read_tagged (o := o) (t := t) ha hn
    rw [h, read_tagged hb hm] at h1
    have f1 := fits_iff.1 ha
    have f2 := fits_iff.1 hb
    injection h1 with e1 e2 e3 e4 e5 _
    exact ⟨e1.symm, e2.symm, e3.symm, by omega, e5.symm⟩
  · rintro ⟨rfl, rfl, rfl, rfl, rfl⟩
    rfl
end Go.Proofs.Ytopkncbpkccfbaa.Stg
