/- Plain law of blocks: no program in sight. A block is its address and its words. Plain law of tagged blocks: no program in sight. How arguments that came in are opened into the words of the walks. -/
import Derived.Test.YtajbghjjpebndaaQ00
import Derived.ProofKit
import Derived.OpenShut
namespace Go.Proofs.Ytajbghjjpebndaa.Bk
abbrev Pr := Int × List Nat
def fits (a : Int) (n : Nat) : Bool := decide (n ≤ 14 ∧ 0 ≤ a ∧ a < 64 ∧ a + (n : Int) ≤ 64)
theorem fits_iff {a : Int} {n : Nat} : fits a n = true ↔ n ≤ 14 ∧ 0 ≤ a ∧ a < 64 ∧ a + (n : Int) ≤ 64 := by simp [fits]
theorem fits_no {a : Int} {n : Nat} : fits a n = false ↔ ¬ (n ≤ 14 ∧ 0 ≤ a ∧ a < 64 ∧ a + (n : Int) ≤ 64) := by simp [fits]
abbrev pfits (p : Pr) : Bool := fits p.1 p.2.length
def fit (l : List Pr) : Bool := l.all fun p => fits p.1 p.2.length
theorem fit_iff {l : List Pr} : fit l = true ↔ ∀ p ∈ l, fits p.1 p.2.length = true := by simp [fit]
/-- does it say a word of address i? -/
def hits (p : Pr) (i : Nat) : Bool := decide (p.1 ≤ (i : Int) ∧ (i : Int) < p.1 + (p.2.length : Int))
theorem hits_iff {p : Pr} {i : Nat} : hits p i = true ↔ p.1 ≤ (i : Int) ∧ (i : Int) < p.1 + (p.2.length : Int) := by simp [hits]
def lastR : List Pr → Nat → Option Nat
  | [], _ => none
  | p :: l, i => if hits p i = true then some (p.2.getD ((i : Int) - p.1).toNat 0) else lastR l i
/-- the word that blocks say of an address at last -/
def last (l : List Pr) (i : Nat) : Option Nat := lastR l.reverse i
theorem last_nil (i : Nat) : last [] i = none := rfl
theorem last_snoc (l : List Pr) (p : Pr) (i : Nat) : last (l ++ [p]) i = if hits p i = true then some (p.2.getD ((i : Int) - p.1).toNat 0) else last l i := by
  simp [last, lastR]
theorem lastR_append (l m : List Pr) (i : Nat) : lastR (l ++ m) i = (lastR l i).or (lastR m i) := by
  induction l with
  | nil => rfl
  | cons p l ih =>
    simp only [List.cons_append, lastR]
    split
    · rfl
    · exact ih
theorem last_append (l m : List Pr) (i : Nat) : last (l ++ m) i = (last m i).or (last l i) := by
  simp [last, lastR_append]
theorem last_take_succ {l : List Pr} {k : Nat} {p : Pr} (h : l[k]? = some p) (i : Nat) : last (l.take (k + 1)) i = if hits p i = true then some (p.2.getD ((i : Int) - p.1).toNat 0) else last (l.take k) i := by
  rw [List.take_add_one, h, Option.toList, last_snoc]
/-- a bank overwritten by blocks -/
def over (bank : List Nat) (l : List Pr) : List Nat := (List.range bank.length).map fun i => (last l i).getD (bank.getD i 0)
theorem over_length (bank : List Nat) (l : List Pr) : (over bank l).length = bank.length := by simp [over]
theorem over_get (bank : List Nat) (l : List Pr) {i : Nat} (h : i < bank.length) : (over bank l)[i]? = some ((last l i).getD (bank.getD i 0)) := by
  simp [over, h]
theorem over_nil (bank : List Nat) : over bank [] = bank := by
  apply List.ext_getElem?
  intro i
  by_cases h : i < bank.length
  · rw [over_get _ _ h]; simp [last_nil, h]
  · rw [List.getElem?_eq_none (by rw [over_length]; omega), List.getElem?_eq_none (by omega)]
/-- the words of a block laid over a row -/
def put (L : List Nat) (p : Pr) : List Nat := L.take p.1.toNat ++ (p.2 ++ L.drop (p.1.toNat + p.2.length))
theorem put_length {L : List Nat} {p : Pr} (h : fits p.1 p.2.length = true) (hL : L.length = 64) : (put L p).length = 64 := by
  have := fits_iff.1 h
  simp [put]; omega
theorem put_get {L : List Nat} {p : Pr} (h : fits p.1 p.2.length = true) (hL : L.length = 64) {i : Nat} (hi : i < 64) :
    (put L p)[i]? = if hits p i = true then some (p.2.getD ((i : Int) - p.1).toNat 0) else L[i]? := by
  have hf := fits_iff.1 h
  obtain ⟨a, ws⟩ := p
  simp only at hf
  have ht : (L.take a.toNat).length = a.toNat := by rw [List.length_take]; omega
  unfold put
  simp only
  by_cases h1 : i < a.toNat
  · rw [List.getElem?_append_left (by omega), List.getElem?_take_of_lt h1, if_neg (by rw [hits_iff]; simp only; omega)]
  rw [List.getElem?_append_right (by omega), ht]
  by_cases h2 : i - a.toNat < ws.length
  · rw [List.getElem?_append_left h2, if_pos (by rw [hits_iff]; simp only; omega), List.getD_eq_getElem?_getD, show ((i : Int) - a).toNat = i - a.toNat by omega, List.getElem?_eq_getElem h2]
    rfl
  · rw [List.getElem?_append_right (by omega), if_neg (by rw [hits_iff]; simp only; omega), List.getElem?_drop]
    congr 1
    omega
theorem over_snoc {bank : List Nat} {l : List Pr} {p : Pr} (hb : bank.length = 64) (h : fits p.1 p.2.length = true) : over bank (l ++ [p]) = put (over bank l) p := by
  apply List.ext_getElem?
  intro i
  have ho := over_length bank l
  by_cases hi : i < 64
  · rw [over_get _ _ (by omega), put_get h (by omega) hi, over_get _ _ (by omega), last_snoc]
    split <;> rfl
  · rw [List.getElem?_eq_none (by rw [over_length]; omega), List.getElem?_eq_none (by rw [put_length h (by omega)]; omega)]
theorem over_take_succ {bank : List Nat} {l : List Pr} {k : Nat} {p : Pr} (hb : bank.length = 64) (hp : l[k]? = some p) (h : fits p.1 p.2.length = true) : over bank (l.take (k + 1)) = put (over bank (l.take k)) p := by
  rw [List.take_add_one, hp, Option.toList, over_snoc hb h]
theorem last_u16 {l : List Pr} (h : ∀ p ∈ l, ∀ x ∈ p.2, x < 65536) {i x : Nat} (hx : last l i = some x) : x < 65536 := by
  have key : ∀ (m : List Pr), (∀ p ∈ m, ∀ x ∈ p.2, x < 65536) → lastR m i = some x → x < 65536 := by
    intro m
    induction m with
    | nil => intro _ h; cases h
    | cons p m ih =>
      intro hm hx
      simp only [lastR] at hx
      split at hx
      · rw [Option.some.injEq, List.getD_eq_getElem?_getD] at hx
        subst hx
        cases hg : p.2[((i : Int) - p.1).toNat]? with
        | none => simp
        | some y => exact hm p (by simp) y (List.mem_of_getElem? hg)
      · exact ih (fun q hq => hm q (by simp [hq])) hx
  exact key l.reverse (fun p hp => h p (by simpa using hp)) hx
theorem getD_u16 {l : List Nat} (h : ∀ x ∈ l, x < 65536) (i : Nat) : l.getD i 0 < 65536 := by
  rw [List.getD_eq_getElem?_getD]
  cases hi : l[i]? with
  | none => simp
  | some x => exact h x (List.mem_of_getElem? hi)
theorem over_u16 {bank : List Nat} {l : List Pr} (hb : ∀ x ∈ bank, x < 65536) (h : ∀ p ∈ l, ∀ x ∈ p.2, x < 65536) : ∀ x ∈ over bank l, x < 65536 := by
  intro x hx
  simp only [over, List.mem_map, List.mem_range] at hx
  obtain ⟨i, hi, rfl⟩ := hx
  cases hl : last l i with
  | none => exact getD_u16 hb i
  | some y => exact last_u16 h hl
/-- the addresses that blocks have words for -/
def cells (l : List Pr) : List Nat := (List.range 64).filter fun i => (last l i).isSome
def cellsTo (l : List Pr) (k : Nat) : List Nat := (List.range k).filter fun i => (last l i).isSome
theorem cellsTo_succ (l : List Pr) (k : Nat) : cellsTo l (k + 1) = if (last l k).isSome = true then cellsTo l k ++ [k] else cellsTo l k := by
  unfold cellsTo
  rw [List.range_succ, List.filter_append]
  by_cases h : (last l k).isSome = true <;> simp [h]
theorem cellsTo_length (l : List Pr) (k : Nat) : (cellsTo l k).length ≤ k := by
  have := List.length_filter_le (fun i => (last l i).isSome) (List.range k)
  simpa [cellsTo] using this
theorem cellsTo_lt {l : List Pr} {k x : Nat} (h : x ∈ cellsTo l k) : x < k := by
  simp [cellsTo] at h
  exact h.1
/-- the words of a block itself, and others' -/
def same (l m : List Pr) : Bool := decide (l = m)
end Go.Proofs.Ytajbghjjpebndaa.Bk
namespace Go.Proofs.Ytajbghjjpebndaa.Stg
open Go.Proofs.Ytajbghjjpebndaa.Bk
def zs (n : Nat) : List Nat := List.replicate n 0
def itself (a : Int) (ws : List Nat) : List Nat := if fits a ws.length = true then a.toNat :: ws.length :: (ws ++ zs (14 - ws.length)) else zs 16
theorem itself_yes {a : Int} {ws : List Nat} (h : fits a ws.length = true) : itself a ws = a.toNat :: ws.length :: (ws ++ zs (14 - ws.length)) := by simp [itself, h]
theorem itself_no {a : Int} {ws : List Nat} (h : fits a ws.length = false) : itself a ws = zs 16 := by simp [itself, h]
theorem itself_length (a : Int) (ws : List Nat) : (itself a ws).length = 16 := by
  unfold itself
  split
  · rename_i h
    have := fits_iff.1 h
    simp [zs]; omega
  · simp [zs]
theorem itself_u16 {a : Int} {ws : List Nat} (h : ∀ x ∈ ws, x < 65536) : ∀ x ∈ itself a ws, x < 65536 := by
  intro x hx
  unfold itself at hx
  split at hx
  · rename_i hf
    have := fits_iff.1 hf
    simp only [List.mem_cons, List.mem_append, zs, List.mem_replicate] at hx
    rcases hx with rfl | rfl | hx | hx
    · omega
    · omega
    · exact h x hx
    · omega
  · simp only [zs, List.mem_replicate] at hx
    omega
def tagged (o t n : Nat) (a : Int) (ws : List Nat) : List Nat := o :: t / 65536 :: t % 65536 :: n :: itself a ws
theorem tagged_length (o t n : Nat) (a : Int) (ws : List Nat) : (tagged o t n a ws).length = 20 := by simp [tagged, itself_length]
theorem tagged_u16 {o t n : Nat} {a : Int} {ws : List Nat} (ho : o < 65536) (ht : t < 4294967296) (hn : n < 65536) (h : ∀ x ∈ ws, x < 65536) : ∀ x ∈ tagged o t n a ws, x < 65536 := by
  intro x hx
  simp only [tagged, List.mem_cons] at hx
  rcases hx with rfl | rfl | rfl | rfl | hx
  · exact ho
  · omega
  · omega
  · exact hn
  · exact itself_u16 h x hx
/-- what words says: the words, the error -/
def words (o t : Nat) (n : Int) (a : Int) (ws : List Nat) : List Nat × Int :=
  if n < 0 ∨ 7 < n then ([], 2) else if fits a ws.length = true then (tagged o t n.toNat a ws, 0) else ([], 20)
theorem words_u16 {o t : Nat} {n a : Int} {ws : List Nat} (ho : o < 65536) (ht : t < 4294967296) (h : ∀ x ∈ ws, x < 65536) : ∀ x ∈ (words o t n a ws).1, x < 65536 := by
  intro x hx
  unfold words at hx
  split at hx
  · cases hx
  split at hx
  · exact tagged_u16 ho ht (by omega) h x hx
  · cases hx
theorem words_length (o t : Nat) (n a : Int) (ws : List Nat) : (words o t n a ws).1.length ≤ 20 := by
  unfold words
  split
  · simp
  split
  · simp [tagged_length]
  · simp
/-- what words say -/
structure R where
  o : Nat
  t : Nat
  n : Nat
  a : Nat
  ws : List Nat
  e : Int
  deriving DecidableEq
def none2 : R := ⟨0, 0, 0, 0, [], 2⟩
def none20 : R := ⟨0, 0, 0, 0, [], 20⟩
def readOk (w : List Nat) : R := ⟨w.getD 0 0, 65536 * w.getD 1 0 + w.getD 2 0, w.getD 3 0, w.getD 4 0, (w.drop 6).take (w.getD 5 0), 0⟩
def read (w : List Nat) : R :=
  if w.length ≠ 20 ∨ 8 ≤ w.getD 3 0 then none2
  else if 14 < w.getD 5 0 then none20
  else if fits (w.getD 4 0 : Nat) (w.getD 5 0) = true ∧ itself (w.getD 4 0 : Nat) ((w.drop 6).take (w.getD 5 0)) = w.drop 4 then readOk w else none20
theorem read_tagged {o t n : Nat} {a : Int} {ws : List Nat} (hf : fits a ws.length = true) (hn : n ≤ 7) : read (tagged o t n a ws) = ⟨o, t, n, a.toNat, ws, 0⟩ := by
  have h := fits_iff.1 hf
  have hi := itself_yes hf
  have ha : ((a.toNat : Nat) : Int) = a := by omega
  have hl := tagged_length o t n a ws
  have e3 : (tagged o t n a ws).getD 3 0 = n := rfl
  have e4 : (tagged o t n a ws).getD 4 0 = a.toNat := by unfold tagged; rw [hi]; rfl
  have e5 : (tagged o t n a ws).getD 5 0 = ws.length := by unfold tagged; rw [hi]; rfl
  have ed : (tagged o t n a ws).drop 4 = itself a ws := rfl
  have ew : ((tagged o t n a ws).drop 6).take ws.length = ws := by
    unfold tagged; rw [hi]
    show (ws ++ zs (14 - ws.length)).take ws.length = ws
    rw [List.take_append_of_le_length (by omega), List.take_length]
  unfold read
  rw [e3, e4, e5, ew, ed, ha]
  rw [if_neg (by omega), if_neg (by omega), if_pos ⟨hf, rfl⟩]
  unfold readOk
  rw [e3, e4, e5, ew]
  have e0 : (tagged o t n a ws).getD 0 0 = o := rfl
  have e1 : (tagged o t n a ws).getD 1 0 = t / 65536 := rfl
  have e2 : (tagged o t n a ws).getD 2 0 = t % 65536 := rfl
  rw [e0, e1, e2, show 65536 * (t / 65536) + t % 65536 = t by omega]
theorem list20 {w : List Nat} (h : w.length = 20) : w = w.getD 0 0 :: w.getD 1 0 :: w.getD 2 0 :: w.getD 3 0 :: w.drop 4 := by
  match w, h with
  | a :: b :: c :: d :: r, _ => rfl
/-- what is read of words is tagged as just these -/
theorem read_back {w : List Nat} (hw : ∀ x ∈ w, x < 65536) (h : (read w).e = 0) :
    fits ((read w).a : Nat) (read w).ws.length = true ∧ (read w).n ≤ 7 ∧ words (read w).o (read w).t ((read w).n : Nat) ((read w).a : Nat) (read w).ws = (w, 0) := by
  have hr : w.length = 20 ∧ w.getD 3 0 < 8 ∧ w.getD 5 0 ≤ 14 ∧ fits (w.getD 4 0 : Nat) (w.getD 5 0) = true ∧ itself (w.getD 4 0 : Nat) ((w.drop 6).take (w.getD 5 0)) = w.drop 4 ∧ read w = readOk w := by
    unfold read at h ⊢
    split at h
    · exact absurd h (by decide)
    rename_i h1
    split at h
    · exact absurd h (by decide)
    rename_i h2
    split at h
    · rename_i h3
      rw [if_neg h1, if_neg h2, if_pos h3]
      exact ⟨by omega, by omega, by omega, h3.1, h3.2, rfl⟩
    · exact absurd h (by decide)
  obtain ⟨h1, h2, h3, h4, h5, h6⟩ := hr
  have hl : ((w.drop 6).take (w.getD 5 0)).length = w.getD 5 0 := by rw [List.length_take, List.length_drop]; omega
  have hb : ∀ i, w.getD i 0 < 65536 := by
    intro i
    rw [List.getD_eq_getElem?_getD]
    cases hi : w[i]? with
    | none => simp
    | some x => exact hw x (List.mem_of_getElem? hi)
  have hf : fits ((w.getD 4 0 : Nat) : Int) ((w.drop 6).take (w.getD 5 0)).length = true := by rw [hl]; exact h4
  rw [h6]
  refine ⟨hf, by show w.getD 3 0 ≤ 7; omega, ?_⟩
  show words (w.getD 0 0) (65536 * w.getD 1 0 + w.getD 2 0) ((w.getD 3 0 : Nat) : Int) ((w.getD 4 0 : Nat) : Int) ((w.drop 6).take (w.getD 5 0)) = (w, 0)
  unfold words
  rw [if_neg (by omega), if_pos hf]
  unfold tagged
  rw [h5, Int.toNat_natCast]
  have b1 := hb 1
  have b2 := hb 2
  rw [show (65536 * w.getD 1 0 + w.getD 2 0) / 65536 = w.getD 1 0 by omega, show (65536 * w.getD 1 0 + w.getD 2 0) % 65536 = w.getD 2 0 by omega, ← list20 h1]
theorem read_e (w : List Nat) : (read w).e = 0 ∨ (read w).e = 2 ∨ (read w).e = 20 := by
  unfold read
  split
  · exact .inr (.inl rfl)
  split
  · exact .inr (.inr rfl)
  split
  · exact .inl rfl
  · exact .inr (.inr rfl)
theorem tagged_inj {o p t u n m : Nat} {a b : Int} {ws vs : List Nat} (ha : fits a ws.length = true) (hb : fits b vs.length = true) (hn : n ≤ 7) (hm : m ≤ 7) :
    tagged o t n a ws = tagged p u m b vs ↔ o = p ∧ t = u ∧ n = m ∧ a = b ∧ ws = vs := by
  constructor
  · intro h
    have h1 := read_tagged (o := o) (t := t) ha hn
    rw [h, read_tagged hb hm] at h1
    have f1 := fits_iff.1 ha
    have f2 := fits_iff.1 hb
    injection h1 with e1 e2 e3 e4 e5 _
    exact ⟨e1.symm, e2.symm, e3.symm, by omega, e5.symm⟩
  · rintro ⟨rfl, rfl, rfl, rfl, rfl⟩
    rfl
end Go.Proofs.Ytajbghjjpebndaa.Stg
namespace Go.Proofs.Ytajbghjjpebndaa
set_option maxRecDepth 100000
open Go.ChangeShapes Go.WideShapes Go.ChangeAt Go.RowKit

/-- an integer kind without a sign, and its bound -/
def top : IntKind → Nat
  | .u8 => 256
  | .u16 => 65536
  | .u32 => 4294967296
  | _ => 18446744073709551616
def plainKind : IntKind → Bool
  | .u8 => true
  | .u16 => true
  | .u32 => true
  | .u64 => true
  | _ => false
theorem nat_of_wf {k : IntKind} {n : Int} (hk : plainKind k = true) (h : (Lit.int k n).wf = true) : 0 ≤ n ∧ n < top k := by
  cases k <;> simp [plainKind] at hk <;> simp [Lit.wf, IntKind.min, IntKind.max, IntKind.signed, IntKind.bits, top] at h ⊢ <;> omega

section
variable {H : Type} {enc : TypeId × Value → H} {P : Program} {w : World} {base b0 : Nat} {spare : Nat → Bool} {held : Bool} {r : Reach}
theorem open_nat {t : TypeId} {k : IntKind} {v : Value} {d : DataW H} {ps : List MemPlace} (hk : plainKind k = true) (ht : P.underlying t = some (.int k)) (hval : Value.okWide P w r b0 t v) (hd : DataW.Trod enc P w base spare held t v d ps) :
    ∃ n : Nat, v = .int k (n : Int) ∧ n < top k := by
  obtain ⟨n, rfl, _, _, hw⟩ := open_int ht hval hd
  have hb := nat_of_wf hk hw
  exact ⟨n.toNat, by rw [Int.toNat_of_nonneg hb.1], by omega⟩
theorem open_i64 {t : TypeId} {v : Value} {d : DataW H} {ps : List MemPlace} (ht : P.underlying t = some (.int .i64)) (hval : Value.okWide P w r b0 t v) (hd : DataW.Trod enc P w base spare held t v d ps) :
    ∃ n : Int, v = .int .i64 n ∧ -9223372036854775808 ≤ n ∧ n ≤ 9223372036854775807 := by
  obtain ⟨n, rfl, _, _, hw⟩ := open_int ht hval hd
  simp [Lit.wf, IntKind.min, IntKind.max, IntKind.signed, IntKind.bits] at hw
  exact ⟨n, rfl, by omega, by omega⟩
theorem open_truth {t : TypeId} {v : Value} {d : DataW H} {ps : List MemPlace} (ht : P.underlying t = some .bool) (hval : Value.okWide P w r b0 t v) (hd : DataW.Trod enc P w base spare held t v d ps) :
    ∃ b : Bool, v = .bool b := by
  obtain ⟨b, rfl, _, _⟩ := open_bool ht hval hd
  exact ⟨b, rfl⟩
theorem open_nums {t e : TypeId} {k : IntKind} {v : Value} {d : DataW H} {ps : List MemPlace} (hk : plainKind k = true) (ht : P.underlying t = some (.slice e)) (he : P.underlying e = some (.int k)) (hc : P.cellsOf e = 1)
    (hval : Value.okWide P w r b0 t v) (hd : DataW.Trod enc P w base (fun _ => true) held t v d ps) :
    ∃ (A : Option Addr) (l : List Nat) (c : Nat), v = .slice A l.length c ∧ Nums k w w.heap.size A l ∧ (∀ x ∈ l, x < top k) ∧ l.length ≤ c ∧ c ≤ 9223372036854775807 ∧ (A = none → c = 0) := by
  obtain ⟨a, len, cap, rfl⟩ := okWide_slice ht hval
  obtain ⟨fuel, hf⟩ := hd
  rcases open_ints ht he hc hf with ⟨hcs, _⟩ | ⟨x, l, c, zs, hcs, _, hl, hm, hz, _, hcell, hwz⟩
  · simp [Value.cells] at hcs
    obtain ⟨rfl, rfl, rfl⟩ := hcs
    exact ⟨none, [], 0, rfl, Nums.nil, by simp, Nat.le_refl _, by omega, fun _ => rfl⟩
  · simp [Value.cells] at hcs
    obtain ⟨rfl, rfl, rfl⟩ := hcs
    simp at hz
    have hlen : ((zs.take len).map Int.toNat).length = len := by simp; omega
    refine ⟨some x, (zs.take len).map Int.toNat, cap, by rw [hlen], fun hn => ?_, ?_, by omega, hm, by simp⟩
    · have h0 := hcell 0 (by omega)
      have hsp : x.spot = none := by have := World.cell?_spot h0; simpa [Addr.add] using this
      obtain ⟨b, o, sp⟩ := x
      simp only at hsp
      subst hsp
      refine ⟨b, o, rfl, by have := block_lt_of_cell h0; simpa [Addr.add] using this, fun j y hy => ?_⟩
      rw [List.getElem?_map, List.getElem?_take] at hy
      split at hy
      · rename_i hj
        have hj' : j < zs.length := by omega
        rw [List.getElem?_eq_getElem hj'] at hy
        simp at hy
        have hwf := nat_of_wf hk (hwz zs[j] (List.getElem_mem _))
        have hcj := hcell j hj'
        have ha : (⟨b, o, none⟩ : Addr).add j = ⟨b, o + j, none⟩ := by unfold Addr.add; split <;> simp_all
        rw [ha] at hcj
        rw [hcj, ← hy, List.getD_eq_getElem?_getD, List.getElem?_eq_getElem hj', Option.getD_some, Int.toNat_of_nonneg hwf.1]
      · simp at hy
    · intro y hy
      obtain ⟨z, hz', rfl⟩ := List.mem_map.1 hy
      have := nat_of_wf hk (hwz z (List.mem_of_mem_take hz'))
      omega
end
end Go.Proofs.Ytajbghjjpebndaa
