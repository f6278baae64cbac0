/- Plain mathematics of the check sum of layer 8: no program in sight. Words for memory that the walks of this seat share: a slice of unsigned integers that reads as a list of numbers; a class of later worlds for regions that draw their order. The walks of package sum: shift, Add, Bytes. -/
import Derived.WalkKit
import Derived.Below
import Derived.Deep.Draws
import Derived.Deep.Quiet
import Derived.BigQuiet
import Derived.Laws.BitsAllLaws
import Derived.Lib.Hide
import Derived.Laws.Rows
import Derived.Test.YtajbghjjpebndaaProg
import Derived.WalkLawsBesides
import Derived.WalkSpells
import Derived.Outline
namespace Go.Proofs.Ytajbghjjpebndaa.Crc

/-- one bit 0 taken in -/
def shift (s : Nat) : Nat := if s % 2 = 1 then (s / 2) ^^^ 3988292384 else s / 2
def shifts : Nat → Nat → Nat
  | 0, s => s
  | n + 1, s => shifts n (shift s)
def add (s b : Nat) : Nat := shifts 8 (s ^^^ b)
def raw (s : Nat) (l : List Nat) : Nat := l.foldl add s
def bytes (l : List Nat) : Nat := 4294967295 - raw 4294967295 l

theorem shift_lt {s : Nat} (h : s < 4294967296) : shift s < 4294967296 := by
  unfold shift
  split
  · exact Nat.xor_lt_two_pow (n := 32) (by omega) (by decide)
  · omega
theorem shifts_lt : ∀ (n : Nat) {s : Nat}, s < 4294967296 → shifts n s < 4294967296
  | 0, _, h => h
  | n + 1, _, h => shifts_lt n (shift_lt h)
theorem shifts_succ : ∀ (n s : Nat), shifts (n + 1) s = shift (shifts n s)
  | 0, _ => rfl
  | n + 1, s => shifts_succ n (shift s)
theorem shifts_add : ∀ (n m s : Nat), shifts (n + m) s = shifts m (shifts n s)
  | 0, m, s => by simp [shifts]
  | n + 1, m, s => by rw [Nat.add_right_comm]; exact shifts_add n m (shift s)
theorem xor_lt {a b : Nat} (ha : a < 4294967296) (hb : b < 4294967296) : a ^^^ b < 4294967296 := Nat.xor_lt_two_pow (n := 32) ha hb
theorem add_lt {s b : Nat} (h : s < 4294967296) (hb : b < 256) : add s b < 4294967296 := shifts_lt 8 (xor_lt h (by omega))
theorem raw_lt : ∀ (l : List Nat) {s : Nat}, s < 4294967296 → (∀ b ∈ l, b < 256) → raw s l < 4294967296
  | [], _, h, _ => h
  | b :: l, _, h, hl => raw_lt l (add_lt h (hl b (by simp))) (fun c hc => hl c (by simp [hc]))
theorem raw_append (s : Nat) (l m : List Nat) : raw s (l ++ m) = raw (raw s l) m := by simp [raw, List.foldl_append]

/-! ### linear -/
theorem odd_xor (a b : Nat) : (a ^^^ b) % 2 = (a % 2 + b % 2) % 2 := by
  have h : (a ^^^ b).testBit 0 = (a.testBit 0 ^^ b.testBit 0) := Nat.testBit_xor ..
  simp only [Nat.testBit_zero] at h
  rcases Nat.mod_two_eq_zero_or_one a with ha | ha <;> rcases Nat.mod_two_eq_zero_or_one b with hb | hb <;> rcases Nat.mod_two_eq_zero_or_one (a ^^^ b) with hc | hc <;> simp [ha, hb, hc] at h ⊢
theorem half_xor (a b : Nat) : (a ^^^ b) / 2 = a / 2 ^^^ b / 2 := by
  have := Nat.shiftRight_xor_distrib (a := a) (b := b) (i := 1)
  simpa [Nat.shiftRight_eq_div_pow] using this
theorem shift_xor (a b : Nat) : shift (a ^^^ b) = shift a ^^^ shift b := by
  unfold shift
  rw [odd_xor, half_xor]
  rcases Nat.mod_two_eq_zero_or_one a with ha | ha <;> rcases Nat.mod_two_eq_zero_or_one b with hb | hb <;> simp [ha, hb]
  · rw [Nat.xor_assoc]
  · rw [Nat.xor_assoc, Nat.xor_comm (b / 2), ← Nat.xor_assoc]
  · rw [Nat.xor_assoc, Nat.xor_comm (b / 2), ← Nat.xor_assoc 3988292384, Nat.xor_self, Nat.zero_xor]
theorem shifts_xor : ∀ (n a b : Nat), shifts n (a ^^^ b) = shifts n a ^^^ shifts n b
  | 0, _, _ => rfl
  | n + 1, a, b => by show shifts n (shift (a ^^^ b)) = _; rw [shift_xor]; exact shifts_xor n _ _
theorem shift_zero : shift 0 = 0 := rfl
theorem shifts_zero : ∀ n : Nat, shifts n 0 = 0
  | 0 => rfl
  | n + 1 => shifts_zero n
theorem xor4 (a b c d : Nat) : a ^^^ b ^^^ (c ^^^ d) = a ^^^ c ^^^ (b ^^^ d) := by
  rw [Nat.xor_assoc, Nat.xor_assoc, ← Nat.xor_assoc b, Nat.xor_comm b c, Nat.xor_assoc c]
theorem add_xor (s t b c : Nat) : add (s ^^^ t) (b ^^^ c) = add s b ^^^ add t c := by
  unfold add
  rw [xor4, shifts_xor]
theorem raw_xor : ∀ (l m : List Nat) (s t : Nat), l.length = m.length → raw (s ^^^ t) (List.zipWith (· ^^^ ·) l m) = raw s l ^^^ raw t m
  | [], [], _, _, _ => rfl
  | b :: l, c :: m, s, t, h => by
    show raw (add (s ^^^ t) (b ^^^ c)) _ = raw (add s b) l ^^^ raw (add t c) m
    rw [add_xor]
    exact raw_xor l m _ _ (by simpa using h)
theorem compl_eq {a : Nat} (h : a < 4294967296) : 4294967295 - a = 4294967295 ^^^ a := by
  apply Nat.eq_of_testBit_eq
  intro i
  rw [Nat.testBit_xor, show (4294967295 : Nat) - a = 2 ^ 32 - (a + 1) by omega, Nat.testBit_two_pow_sub_succ h, show (4294967295 : Nat) = 2 ^ 32 - 1 by rfl, Nat.testBit_two_pow_sub_one]
  by_cases hi : i < 32
  · simp [hi]
  · have : a.testBit i = false := Nat.testBit_lt_two_pow (Nat.lt_of_lt_of_le h (Nat.pow_le_pow_right (n := 2) (by omega) (show 32 ≤ i by omega)))
    simp [hi, this]
theorem bytes_eq {l : List Nat} (h : ∀ b ∈ l, b < 256) : bytes l = 4294967295 ^^^ raw 4294967295 l := compl_eq (raw_lt l (by decide) h)
theorem bytes_lt {l : List Nat} (_h : ∀ b ∈ l, b < 256) : bytes l < 4294967296 := by unfold bytes; omega

/-! ### injective -/
theorem shift_eq_zero {s : Nat} (h : s < 4294967296) (h0 : shift s = 0) : s = 0 := by
  unfold shift at h0
  split at h0
  · exfalso
    have hb : (s / 2 ^^^ 3988292384).testBit 31 = true := by
      rw [Nat.testBit_xor]
      have : (s / 2).testBit 31 = false := Nat.testBit_lt_two_pow (by omega)
      rw [this]; decide
    rw [h0] at hb
    simp at hb
  · omega
theorem shifts_eq_zero : ∀ (n : Nat) {s : Nat}, s < 4294967296 → shifts n s = 0 → s = 0
  | 0, _, _, h => h
  | n + 1, _, hs, h => shift_eq_zero hs (shifts_eq_zero n (shift_lt hs) h)

/-! ### three rows -/
def x3 (a b c : List Nat) : List Nat := List.zipWith (· ^^^ ·) (List.zipWith (· ^^^ ·) a b) c
theorem x3_get {a b c : List Nat} {k x y z : Nat} (ha : a[k]? = some x) (hb : b[k]? = some y) (hc : c[k]? = some z) : (x3 a b c)[k]? = some (x ^^^ y ^^^ z) := by
  simp [x3, List.getElem?_zipWith, ha, hb, hc]
theorem x3_take (a b c : List Nat) (n : Nat) : (x3 a b c).take n = x3 (a.take n) (b.take n) (c.take n) := by simp [x3, List.take_zipWith]
theorem x3_length (a b c : List Nat) : (x3 a b c).length = min (min a.length b.length) c.length := by simp [x3]
theorem xor_byte {a b : Nat} (ha : a < 256) (hb : b < 256) : a ^^^ b < 256 := Nat.xor_lt_two_pow (n := 8) ha hb
theorem zip_byte {a b : List Nat} (ha : ∀ x ∈ a, x < 256) (hb : ∀ x ∈ b, x < 256) : ∀ x ∈ List.zipWith (· ^^^ ·) a b, x < 256 := by
  intro x hx
  obtain ⟨i, h1, h2⟩ := List.mem_iff_getElem.1 hx
  simp only [List.getElem_zipWith] at h2
  rw [← h2]
  exact xor_byte (ha _ (List.getElem_mem _)) (hb _ (List.getElem_mem _))
theorem x3_byte {a b c : List Nat} (ha : ∀ x ∈ a, x < 256) (hb : ∀ x ∈ b, x < 256) (hc : ∀ x ∈ c, x < 256) : ∀ x ∈ x3 a b c, x < 256 := zip_byte (zip_byte ha hb) hc
theorem ones3 (m p q r : Nat) : m ^^^ (p ^^^ q ^^^ r) = m ^^^ p ^^^ (m ^^^ q) ^^^ (m ^^^ r) := by
  apply Nat.eq_of_testBit_eq
  intro i
  simp only [Nat.testBit_xor]
  cases m.testBit i <;> cases p.testBit i <;> cases q.testBit i <;> cases r.testBit i <;> rfl
theorem bytes_x3 {a b c : List Nat} (ha : ∀ x ∈ a, x < 256) (hb : ∀ x ∈ b, x < 256) (hc : ∀ x ∈ c, x < 256) (h1 : a.length = b.length) (h2 : b.length = c.length) :
    bytes (x3 a b c) = bytes a ^^^ bytes b ^^^ bytes c := by
  rw [bytes_eq ha, bytes_eq hb, bytes_eq hc, bytes_eq (x3_byte ha hb hc)]
  have e1 := raw_xor (List.zipWith (· ^^^ ·) a b) c (4294967295 ^^^ 4294967295) 4294967295 (by simp; omega)
  have e2 := raw_xor a b 4294967295 4294967295 h1
  rw [e2] at e1
  unfold x3
  rw [show (4294967295 ^^^ 4294967295 ^^^ 4294967295 : Nat) = 4294967295 by decide] at e1
  rw [e1, ones3]
end Go.Proofs.Ytajbghjjpebndaa.Crc
namespace Go.Proofs.Ytajbghjjpebndaa
set_option maxRecDepth 100000
open Go.RowKit

/-- the slice '.slice A l.length c' reads as the numbers l; it lies below block B -/
def Nums (k : IntKind) (w : World) (B : Nat) (A : Option Addr) (l : List Nat) : Prop :=
  0 < l.length → ∃ b o, A = some ⟨b, o, none⟩ ∧ b < B ∧ ∀ (j x : Nat), l[j]? = some x → w.cell? ⟨b, o + j, none⟩ = some (.int k (x : Int))

section
variable {k : IntKind} {w w' : World} {B B' : Nat} {A : Option Addr} {l : List Nat}
theorem Nums.nil : Nums k w B A [] := fun h => absurd h (by simp)
theorem Nums.at_ (h : Nums k w B A l) {j : Nat} (hj : j < l.length) : ∃ b o x, A = some ⟨b, o, none⟩ ∧ b < B ∧ l[j]? = some x ∧ w.cell? ⟨b, o + j, none⟩ = some (.int k (x : Int)) := by
  obtain ⟨b, o, hA, hb, hc⟩ := h (by omega)
  exact ⟨b, o, l[j], hA, hb, List.getElem?_eq_getElem hj, hc j _ (List.getElem?_eq_getElem hj)⟩
theorem Nums.keep (h : Nums k w B A l) (hk : ∀ b o, b < B → w'.cell? ⟨b, o, none⟩ = w.cell? ⟨b, o, none⟩) : Nums k w' B A l := fun hn => by
  obtain ⟨b, o, hA, hb, hc⟩ := h hn
  exact ⟨b, o, hA, hb, fun j x hx => (hk b _ hb).trans (hc j x hx)⟩
theorem Nums.below (h : Nums k w B A l) (hb : Below B w w') : Nums k w' B A l := h.keep fun b o hbB => hb.cell (p := ⟨b, o, none⟩) hbB
theorem Nums.more (h : Nums k w B A l) (hB : B ≤ B') : Nums k w B' A l := fun hn => by
  obtain ⟨b, o, hA, hb, hc⟩ := h hn
  exact ⟨b, o, hA, by omega, hc⟩
theorem Nums.drew (h : Nums k w B A l) : Nums k w.drew B A l := h
theorem Nums.drewN (h : Nums k w B A l) (n : Nat) : Nums k (w.drewN n) B A l := h
theorem Nums.take (h : Nums k w B A l) (n : Nat) : Nums k w B A (l.take n) := fun hn => by
  obtain ⟨b, o, hA, hb, hc⟩ := h (by rw [List.length_take] at hn; omega)
  refine ⟨b, o, hA, hb, fun j x hx => hc j x ?_⟩
  rw [List.getElem?_take] at hx
  split at hx
  · exact hx
  · cases hx
end

/-- numbers as the values of a row -/
def vals (k : IntKind) (l : List Nat) : List Value := l.map fun x : Nat => Value.int k (x : Int)
theorem vals_length (k : IntKind) (l : List Nat) : (vals k l).length = l.length := by simp [vals]
theorem vals_append (k : IntKind) (l m : List Nat) : vals k (l ++ m) = vals k l ++ vals k m := by simp [vals]
theorem vals_get {k : IntKind} {l : List Nat} {j x : Nat} (h : l[j]? = some x) : (vals k l)[j]? = some (.int k (x : Int)) := by simp [vals, h]
theorem vals_set (k : IntKind) (l : List Nat) (j x : Nat) : (vals k l).set j (.int k (x : Int)) = vals k (l.set j x) := by
  unfold vals; rw [List.map_set]
theorem vals_replicate (k : IntKind) (n x : Nat) : List.replicate n (Value.int k (x : Int)) = vals k (List.replicate n x) := by simp [vals]
theorem vals_one {k : IntKind} {l : List Nat} : ∀ u ∈ vals k l, u.oneCell' = true := by
  intro u hu
  simp only [vals, List.mem_map] at hu
  obtain ⟨x, _, rfl⟩ := hu
  rfl
theorem Nums.of_own {k : IntKind} {w : World} {base n c : Nat} {e : TypeId} {A : Option Addr} {l : List Nat} (h : w.ownsRow base e 1 (.slice A n c) n (vals k l)) : Nums k w w.heap.size A l := fun hn => by
  have hl := h.1
  rw [vals_length] at hl
  rcases h.2 with ⟨_, h0⟩ | ⟨g, cap, cur, hv, _, hh, hnc, _⟩
  · omega
  · have hA : A = some ⟨g, 0, none⟩ ∧ c = cap := by simpa using hv
    obtain ⟨rfl, rfl⟩ := hA
    refine ⟨g, 0, rfl, (Array.getElem?_eq_some_iff.1 hh).1, fun j x hx => ?_⟩
    have hj : j < l.length := by
      rcases Nat.lt_or_ge j l.length with h1 | h1
      · exact h1
      · rw [List.getElem?_eq_none h1] at hx; cases hx
    rw [Nat.zero_add, h.cellAt j (by omega)]
    exact vals_get hx

theorem made_vals (k : IntKind) (n : Nat) : (madeCells #[Value.int k 0] n).toList = vals k (List.replicate n 0) := by
  rw [toList_madeCells_one, show (Value.int k 0) = Value.int k ((0 : Nat) : Int) from rfl, vals_replicate]
theorem Nums.new (w : World) (k : IntKind) (l : List Nat) (t : TypeId) (m : Nat × Nat) : Nums k (w.alloc (.cells (vals k l).toArray t m)) (w.heap.size + 1) (some ⟨w.heap.size, 0, none⟩) l := fun _ =>
  ⟨_, 0, rfl, Nat.lt_succ_self _, fun j x hx => by
    rw [Nat.zero_add, cell_of_row _ _ _ _ _ _ (heap_alloc_new w _)]
    simpa using vals_get hx⟩
theorem Nums.alloc {k : IntKind} {w : World} {B : Nat} {A : Option Addr} {l : List Nat} (h : Nums k w B A l) (hB : B ≤ w.heap.size) (o : Obj) : Nums k (w.alloc o) B A l :=
  h.below ((Below.refl _ _).alloc hB o)
/-- a row of n places, of which the first k are filled with X's first k -/
def fill (X : List Nat) (n k : Nat) : List Nat := X.take k ++ List.replicate (n - k) 0
theorem fill_length {X : List Nat} {n k : Nat} (hk : k ≤ n) (hX : n ≤ X.length) : (fill X n k).length = n := by simp [fill]; omega
theorem fill_zero (X : List Nat) (n : Nat) : fill X n 0 = List.replicate n 0 := by simp [fill]
theorem fill_all (X : List Nat) (n : Nat) : fill X n n = X.take n := by simp [fill]
theorem fill_step {X : List Nat} {n k x : Nat} (hk : k < n) (hx : X[k]? = some x) : (fill X n k).set k x = fill X n (k + 1) := by
  have hl : k < X.length := by
    rcases Nat.lt_or_ge k X.length with h1 | h1
    · exact h1
    · rw [List.getElem?_eq_none h1] at hx; cases hx
  have h1 : (X.take k).length = k := by simp; omega
  unfold fill
  rw [List.set_append_right _ _ (by omega), h1, Nat.sub_self, show n - k = (n - (k + 1)) + 1 by omega, List.replicate_succ, List.set_cons_zero, List.take_add_one, hx]
  simp
/-- what a function that makes a row hands back -/
def Fresh (w : World) (e : TypeId) (k : IntKind) (l : List Nat) (en : Ending) (w' : World) : Prop :=
  ∃ A c, en = .returned (.slice A l.length c) ∧ w'.ownsRow w.heap.size e 1 (.slice A l.length c) l.length (vals k l) ∧ Below w.heap.size w w'

/-- the worlds that are as w was below block B -/
structure Later (B : Nat) (w : World) where
  val : World
  bel : Below B w val
instance (B : Nat) (w : World) : Inhabited (Later B w) := ⟨⟨w, Below.refl _ _⟩⟩

theorem setCell_twice (w : World) (a : Addr) (u v : Value) : (w.setCell a u).setCell a v = w.setCell a v := by
  simp only [World.setCell]
  congr 1
  apply Array.ext_getElem?
  intro i
  simp only [Array.getElem?_modify]
  by_cases h : a.block = i
  · simp only [h, if_true]
    cases w.heap[i]? with
    | none => rfl
    | some o => cases o <;> simp <;> by_cases hs : a.spot.isSome = true <;> simp [hs]
  · simp [h]
theorem Later.cell {B : Nat} {w : World} (x : Later B w) (b o : Nat) (h : b < B) : x.val.cell? ⟨b, o, none⟩ = w.cell? ⟨b, o, none⟩ := x.bel.cell (p := ⟨b, o, none⟩) h
theorem Later.keep {W : World} (x : Later W.heap.size W) {b o : Nat} {v : Value} (h : W.cell? ⟨b, o, none⟩ = some v) : x.val.cell? ⟨b, o, none⟩ = some v :=
  (x.bel.cell (p := ⟨b, o, none⟩) (block_lt_of_cell h)).trans h
theorem keep_alloc {W : World} {o : Obj} {p : Addr} {v : Value} (h : W.cell? p = some v) : (W.alloc o).cell? p = some v :=
  (World.cell?_alloc_lt W o p (block_lt_of_cell h)).trans h
theorem keep_set {W : World} {p q : Addr} {u v : Value} (h : W.cell? p = some v) (hne : q ≠ p) : (W.setCell q u).cell? p = some v :=
  (World.cell?_setCell_other W q p u hne).trans h
theorem later_is {B : Nat} {w w' : World} (h : Below B w w') : ∃ x : Later B w, w' = x.val := ⟨⟨w', h⟩, rfl⟩
theorem Later.frozen {B : Nat} {w : World} (x : Later B w) (b o : Nat) (h : b < B) : x.val.frozen? ⟨b, o, none⟩ = w.frozen? ⟨b, o, none⟩ := x.bel.frozen (p := ⟨b, o, none⟩) h
theorem wp_region_later {P : Program} {id : Nat} {Q : Exit → Act → World → Prop} {a : Act} {w : World} {l : List Oper} (B : Nat) (hm : P.follows .mixedOrders = true) (hB : Region.lexB .any l.toArray = true)
    (h : wpQuiet P l.toArray (fun w' => ∃ x : Later B w, w' = x.val) (fun a' => ∀ w', (∃ x : Later B w, w' = x.val) → Q .normal a' w') l a) : (Code.region id l.toArray true).wp P Q a w :=
  wp_region_quiet (C := fun w' => ∃ x : Later B w, w' = x.val) hm hB ⟨⟨w.drew, (Below.refl _ _).drew⟩, rfl⟩ (by simpa using h)

theorem wp_region_lat {P : Program} {id : Nat} {Q : Exit → Act → World → Prop} {a : Act} {w : World} {l : List Oper} (hm : P.follows .mixedOrders = true) (hB : Region.lexB .any l.toArray = true)
    (h : wpQuiet P l.toArray (fun w' => ∃ x : Later w.heap.size w, w' = x.val) (fun a' => ∀ w', (∃ x : Later w.heap.size w, w' = x.val) → Q .normal a' w') l a) : (Code.region id l.toArray true).wp P Q a w :=
  wp_region_later w.heap.size hm hB h
section
variable {w W : World}
theorem bel_alloc (h : Below w.heap.size w W) (o : Obj) : Below w.heap.size w (W.alloc o) := h.alloc h.size o
theorem bel_drewN (h : Below w.heap.size w W) (n : Nat) : Below w.heap.size w (W.drewN n) := ⟨h.os, h.tape, h.output, h.size, h.block⟩
theorem bel_later (x : Later W.heap.size W) (h : Below w.heap.size w W) : Below w.heap.size w x.val := h.trans (x.bel.mono h.size)
theorem bel_set (h : Below w.heap.size w W) {p : Addr} (hp : w.heap.size ≤ p.block) (u : Value) : Below w.heap.size w (W.setCell p u) := h.setCell hp u
end

/-- the world behind a call that leaves it alone, under a new name -/
theorem forget {P : Program} {f : FuncId} {args : Array Value} {w : World} {v : Value} (h : Calls P f args w fun e w' => e = .returned v ∧ w = w') :
    Calls P f args w fun e w' => e = .returned v ∧ Below w.heap.size w w' := h.mono fun _ _ ⟨he, hb⟩ => ⟨he, hb ▸ Below.refl _ _⟩
/-- a new block, then a later world -/
theorem below_new {w w' : World} {o : Obj} (h : Below (w.alloc o).heap.size (w.alloc o) w') : Below w.heap.size w w' :=
  ((Below.refl _ _).alloc (Nat.le_refl _) o).trans (h.mono (by simp))
theorem below_step {B : Nat} {w w1 w2 : World} (h : Below B w w1) (hB : B ≤ w.heap.size) (k : Below w1.heap.size w1 w2) : Below B w w2 := h.trans (k.mono (Nat.le_trans hB h.size))
/-- a contract that makes memory alone, met inside such a region -/
theorem later_of {P : Program} {f : FuncId} {args : Array Value} {B : Nat} {w : World} {x : Later B w} {v : Value} (hB : B ≤ w.heap.size)
    (h : Calls P f args x.val fun e w' => e = .returned v ∧ Below x.val.heap.size x.val w') : Calls P f args x.val fun e w'' => e = .returned v ∧ ∃ y : Later B w, w'' = y.val :=
  h.mono fun _ w'' ⟨he, hb⟩ => ⟨he, ⟨w'', x.bel.trans (hb.mono (Nat.le_trans hB x.bel.size))⟩, rfl⟩
/-- one that leaves the world alone -/
theorem later_new {P : Program} {f : FuncId} {args : Array Value} {w : World} {x : Later w.heap.size w} {v : Value}
    (h : Calls P f args x.val fun e w' => e = .returned v ∧ Below x.val.heap.size x.val w') : Calls P f args x.val fun e w'' => e = .returned v ∧ ∃ y : Later w.heap.size w, w'' = y.val := later_of (Nat.le_refl _) h
theorem later_same {P : Program} {f : FuncId} {args : Array Value} {B : Nat} {w : World} {x : Later B w} {v : Value}
    (h : Calls P f args x.val fun e w' => e = .returned v ∧ x.val = w') : Calls P f args x.val fun e w'' => e = .returned v ∧ ∃ y : Later B w, w'' = y.val :=
  h.mono fun _ _ ⟨he, hb⟩ => ⟨he, x, hb.symm⟩
theorem ret_int {k : IntKind} {a b : Int} (h : a = b) : Ending.returned (.int k a) = .returned (.int k b) := by rw [h]
end Go.Proofs.Ytajbghjjpebndaa
namespace Go.Proofs.Ytajbghjjpebndaa
set_option maxRecDepth 100000
open Go.RowKit
theorem and1 (s : Nat) (h : s < 4294967296) : bits .and .u32 (s : Int) 1 = ((s % 2 : Nat) : Int) := by
  have := u32_and_nat s 1 h (by decide)
  rw [nat_mask1] at this
  exact this
theorem shift_any (s : Nat) (w : World) (h : s < 4294967296) :
    Calls Try.prog 110 #[.int .u32 (s : Int)] w fun e w' => e = .returned (.int .u32 (Crc.shift s : Int)) ∧ w = w' := by
  have h1 := and1 s h
  have h2 : bits .xor .u32 ((s : Int) / 2) 3988292384 = ((s / 2 ^^^ 3988292384 : Nat) : Int) := by
    have := u32_xor_nat (s / 2) 3988292384 (by omega) (by decide)
    exact this
  by_cases ho : s % 2 = 1
  · have ht : (bits .and .u32 (s : Int) 1 == 1) = true := by rw [h1, ho]; rfl
    clear h1
    have H2 := Lib.hid h2; clear h2
    go_enter Try.func110, Try.ntmps110
    go_wp2
    go_ret
    exact ⟨ret_int (by rw [H2.out]; simp [Crc.shift, ho]), rfl⟩
  · have ht : (bits .and .u32 (s : Int) 1 == 1) = false := by rw [h1]; simp; omega
    clear h1 h2
    go_enter Try.func110, Try.ntmps110
    go_wp2
    go_ret
    exact ⟨ret_int (by simp [Crc.shift, ho]), rfl⟩

theorem add_any (s b : Nat) (w : World) (h : s < 4294967296) (hb : b < 256) :
    Calls Try.prog 108 #[.int .u32 (s : Int), .int .u8 (b : Int)] w fun e w' => e = .returned (.int .u32 (Crc.add s b : Int)) ∧ w = w' := by
  have h2 : bits .xor .u32 (s : Int) (b : Int) = ((s ^^^ b : Nat) : Int) := u32_xor_nat s b h (by omega)
  have hx := Crc.xor_lt (a := s) (b := b) h (by omega)
  have H2 := Lib.hid h2; clear h2
  go_enter Try.func108, Try.ntmps108
  go_wp2
  rw [H2.out]
  go_loop [0, 9] (fun v i => ∃ k : Nat, k ≤ 8 ∧ i = .int .i64 k ∧ v = .int .u32 (Crc.shifts k (s ^^^ b) : Nat)) (fun _ i => 8 - (intOf i).toNat)
  case atStart => exact ⟨0, by omega, rfl, rfl⟩
  case round =>
    obtain ⟨k, hk, rfl, rfl⟩ := hrel
    have hs := Crc.shifts_lt k hx
    have HE := Lib.hid (Crc.shifts_succ k (s ^^^ b))
    by_cases hlt : k < 8
    · go_wp2_with (go_at_call 110; refine (shift_any _ _ hs).mono ?_; rintro e w' ⟨rfl, rfl⟩)
      go_round
      case rel => exact ⟨k + 1, by omega, by go_num, by rw [HE.out]⟩
      case measure => simp [intOf]; omega
    · have : k = 8 := by omega
      subst this
      go_wp2
      go_ret
      exact ⟨rfl, rfl⟩

theorem not_u32 (a : Nat) (h : a < 4294967296) : bits .xor .u32 IntKind.u32.max (a : Int) = ((4294967295 - a : Nat) : Int) := by
  have h1 := u32_xor_nat 4294967295 a (by decide) h
  rw [Crc.compl_eq h]
  exact h1

theorem bytes_any (A : Option Addr) (c : Nat) (l : List Nat) (B : Nat) (w : World) (h : Nums .u8 w B A l) (hl : ∀ b ∈ l, b < 256) (hn : l.length ≤ 140737488355328) :
    Calls Try.prog 98 #[.slice A l.length c] w fun e w' => e = .returned (.int .u32 (Crc.bytes l : Nat)) ∧ w = w' := by
  go_enter Try.func98, Try.ntmps98
  go_wp2
  go_loop [3, 4, 7] (fun v _ i => ∃ k : Nat, k ≤ l.length ∧ i = .int .i64 k ∧ v = .int .u32 (Crc.raw 4294967295 (l.take k) : Nat)) (fun _ _ i => l.length - (intOf i).toNat)
  case atStart => exact ⟨0, by omega, rfl, rfl⟩
  case round =>
    obtain ⟨k, hk, rfl, rfl⟩ := hrel
    have hs := Crc.raw_lt (s := 4294967295) (l.take k) (by decide) (fun b hb => hl b (List.mem_of_mem_take hb))
    by_cases hlt : k < l.length
    · obtain ⟨b, o, x, rfl, _, hx, hc⟩ := h.at_ hlt
      have hxl := hl x (List.mem_of_getElem? hx)
      have HE := Lib.hid (show Crc.raw 4294967295 (l.take (k + 1)) = Crc.add (Crc.raw 4294967295 (l.take k)) x by rw [List.take_add_one, hx, Option.toList, Crc.raw_append]; rfl)
      clear hx
      go_wp2_with (go_at_call 108; refine (add_any _ _ _ hs hxl).mono ?_; rintro e w' ⟨rfl, rfl⟩)
      go_round
      case rel => exact ⟨k + 1, by omega, by go_num, by rw [HE.out]⟩
      case measure => simp [intOf]; omega
    · have : k = l.length := by omega
      subst this
      have HE := Lib.hid (show l.take l.length = l from List.take_length)
      go_wp2
      go_ret
      rw [HE.out] at hs
      first | exact ⟨ret_int (not_u32 _ hs), rfl⟩ | (rw [HE.out]; exact ⟨ret_int (not_u32 _ hs), rfl⟩)
theorem bytes_n (A : Option Addr) (c n : Nat) (l : List Nat) (B : Nat) (w : World) (h : Nums .u8 w B A l) (hl : ∀ b ∈ l, b < 256) (hn : l.length ≤ 140737488355328) (he : l.length = n) :
    Calls Try.prog 98 #[.slice A n c] w fun e w' => e = .returned (.int .u32 (Crc.bytes l : Nat)) ∧ w = w' := by
  subst he
  exact bytes_any A c l B w h hl hn
end Go.Proofs.Ytajbghjjpebndaa
