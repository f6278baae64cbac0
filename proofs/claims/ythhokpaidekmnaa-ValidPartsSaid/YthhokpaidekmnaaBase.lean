/- Words for memory that the walks of this seat share: a slice of unsigned integers that reads as a list of numbers; a class of later worlds for regions that draw their order. -/
import Derived.WalkKit
import Derived.Below
import Derived.Deep.Draws
import Derived.Deep.Quiet
import Derived.BigQuiet
import Derived.Laws.BitsAllLaws
import Derived.Lib.Hide
import Derived.Laws.Rows
namespace Go.Proofs.Ythhokpaidekmnaa
open Go.RowKit

/-- the slice '.slice A l.length c' reads as the numbers l; it lies below block B -/
def Nums (k : IntKind) (w : World) (B : Nat) (A : Option Addr) (l : List Nat) : Prop :=
 0 < l.length → ∃ b o, A = some ⟨b, o, none⟩ ∧ b < B ∧ ∀ (j x : Nat), l[j]? = some x → w.cell? ⟨b, o + j, none⟩ = some (.int k (x : Int))

section
variable {k : IntKind} {w w' : World} {B B' : Nat} {A : Option Addr} {l : List Nat}
theorem Nums.nil : Nums k w B A [] := fun h => absurd h (by simp)
theorem Nums.at_ (h : Nums k w B A l) {j : Nat} (hj : j < l.length) : ∃ b o x, A = some ⟨b, o, none⟩ ∧ b < B ∧ l[j]? = some x ∧ w.cell? ⟨b, o + j, none⟩ = some (.int k (x : Int)) := by
 obtain ⟨b, o, hA, hb, hc⟩ := h (by omega)
 exact ⟨b, o, l[j], hA, hb, List.getElem?_eq_getElem hj, hc j _ (List.getElem?_eq_getElem hj)⟩
theorem Nums.keep (h : Nums k w B A l) (hk : ∀ b o, b < B → w'.cell? ⟨b, o, none⟩ = w.cell? ⟨b, o, none⟩) : Nums k w' B A l := fun hn => by
 obtain ⟨b, o, hA, hb, hc⟩ := h hn
 exact ⟨b, o, hA, hb, fun j x hx => (hk b _ hb).trans (hc j x hx)⟩
theorem Nums.below (h : Nums k w B A l) (hb : Below B w w') : Nums k w' B A l := h.keep fun b o hbB => hb.cell (p := ⟨b, o, none⟩) hbB
theorem Nums.more (h : Nums k w B A l) (hB : B ≤ B') : Nums k w B' A l := fun hn => by
 obtain ⟨b, o, hA, hb, hc⟩ := h hn
 exact ⟨b, o, hA, by omega, hc⟩
theorem Nums.drew (h : Nums k w B A l) : Nums k w.drew B A l := h
theorem Nums.drewN (h : Nums k w B A l) (n : Nat) : Nums k (w.drewN n) B A l := h
theorem Nums.take (h : Nums k w B A l) (n : Nat) : Nums k w B A (l.take n) := fun hn => by
 obtain ⟨b, o, hA, hb, hc⟩ := h (by rw [List.length_take] at hn; omega)
 refine ⟨b, o, hA, hb, fun j x hx => hc j x ?_⟩
 rw [List.getElem?_take] at hx
 split at hx
 ·exact hx
 ·cases hx
end

/-- numbers as the values of a row -/
def vals (k : IntKind) (l : List Nat) : List Value := l.map fun x : Nat => Value.int k (x : Int)
theorem vals_length (k : IntKind) (l : List Nat) : (vals k l).length = l.length := by simp [vals]
theorem vals_append (k : IntKind) (l m : List Nat) : vals k (l ++ m) = vals k l ++ vals k m := by simp [vals]
theorem vals_get {k : IntKind} {l : List Nat} {j x : Nat} (h : l[j]? = some x) : (vals k l)[j]? = some (.int k (x : Int)) := by simp [vals, h]
theorem vals_set (k : IntKind) (l : List Nat) (j x : Nat) : (vals k l).set j (.int k (x : Int)) = vals k (l.set j x) := by
 unfold vals; rw [List.map_set]
theorem vals_replicate (k : IntKind) (n x : Nat) : List.replicate n (Value.int k (x : Int)) = vals k (List.replicate n x) := by simp [vals]
theorem vals_one {k : IntKind} {l : List Nat} : ∀ u ∈ vals k l, u.oneCell' = true := by
 intro u hu
 simp only [vals, List.mem_map] at hu
 obtain ⟨x, _, rfl⟩ := hu
 rfl
theorem Nums.of_own {k : IntKind} {w : World} {base n c : Nat} {e : TypeId} {A : Option Addr} {l : List Nat} (h : w.ownsRow base e 1 (.slice A n c) n (vals k l)) : Nums k w w.heap.size A l := fun hn => by
 have hl := h.1
 rw [vals_length] at hl
 rcases h.2 with ⟨_, h0⟩ | ⟨g, cap, cur, hv, _, hh, hnc, _⟩
 ·omega
 ·have hA : A = some ⟨g, 0, none⟩ ∧ c = cap := by simpa using hv
  obtain ⟨rfl, rfl⟩ := hA
  refine ⟨g, 0, rfl, (Array.getElem?_eq_some_iff.1 hh).1, fun j x hx => ?_⟩
  have hj : j < l.length := by
   rcases Nat.lt_or_ge j l.length with h1 | h1
   ·exact h1
   ·rw [List.getElem?_eq_none h1] at hx; cases hx
  rw [Nat.zero_add, h.cellAt j (by omega)]
  exact vals_get hx

theorem made_vals (k : IntKind) (n : Nat) : (madeCells #[Value.int k 0] n).toList = vals k (List.replicate n 0) := by
 rw [toList_madeCells_one, show (Value.int k 0) = Value.int k ((0 : Nat) : Int) from rfl, vals_replicate]
theorem Nums.new (w : World) (k : IntKind) (l : List Nat) (t : TypeId) (m : Nat × Nat) : Nums k (w.alloc (.cells (vals k l).toArray t m)) (w.heap.size + 1) (some ⟨w.heap.size, 0, none⟩) l := fun _ =>
 ⟨_, 0, rfl, Nat.lt_succ_self _, fun j x hx => by
  rw [Nat.zero_add, cell_of_row _ _ _ _ _ _ (heap_alloc_new w _)]
  simpa using vals_get hx⟩
theorem Nums.alloc {k : IntKind} {w : World} {B : Nat} {A : Option Addr} {l : List Nat} (h : Nums k w B A l) (hB : B ≤ w.heap.size) (o : Obj) : Nums k (w.alloc o) B A l :=
 h.below ((Below.refl _ _).alloc hB o)
/-- a row of n places, of which the first k are filled with X's first k -/
def fill (X : List Nat) (n k : Nat) : List Nat := X.take k ++ List.replicate (n - k) 0
theorem fill_length {X : List Nat} {n k : Nat} (hk : k ≤ n) (hX : n ≤ X.length) : (fill X n k).length = n := by simp [fill]; omega
theorem fill_zero (X : List Nat) (n : Nat) : fill X n 0 = List.replicate n 0 := by simp [fill]
theorem fill_all (X : List Nat) (n : Nat) : fill X n n = X.take n := by simp [fill]
theorem fill_step {X : List Nat} {n k x : Nat} (hk : k < n) (hx : X[k]? = some x) : (fill X n k).set k x = fill X n (k + 1) := by
 have hl : k < X.length := by
  rcases Nat.lt_or_ge k X.length with h1 | h1
  ·exact h1
  ·rw [List.getElem?_eq_none h1] at hx; cases hx
 have h1 : (X.take k).length = k := by simp; omega
 unfold fill
 rw [List.set_append_right _ _ (by omega), h1, Nat.sub_self, show n - k = (n - (k + 1)) + 1 by omega, List.replicate_succ, List.set_cons_zero, List.take_add_one, hx]
 simp
/-- what a function that makes a row hands back -/
def Fresh (w : World) (e : TypeId) (k : IntKind) (l : List Nat) (en : Ending) (w' : World) : Prop :=
 ∃ A c, en = .returned (.slice A l.length c) ∧ w'.ownsRow w.heap.size e 1 (.slice A l.length c) l.length (vals k l) ∧ Below w.heap.size w w'

/-- the worlds that are as w was below block B -/
structure Later (B : Nat) (w : World) where
 val : World
 bel : Below B w val
instance (B : Nat) (w : World) : Inhabited (Later B w) := ⟨⟨w, Below.refl _ _⟩⟩

theorem setCell_twice (w : World) (a : Addr) (u v : Value) : (w.setCell a u).setCell a v = w.setCell a v := by
 simp only [World.setCell]
 congr 1
 apply Array.ext_getElem?
 intro i
 simp only [Array.getElem?_modify]
 by_cases h : a.block = i
 ·simp only [h, if_true]
  cases w.heap[i]? with
  | none => rfl
  | some o => cases o <;> simp <;> by_cases hs : a.spot.isSome = true <;> simp [hs]
 ·simp [h]
theorem Later.cell {B : Nat} {w : World} (x : Later B w) (b o : Nat) (h : b < B) : x.val.cell? ⟨b, o, none⟩ = w.cell? ⟨b, o, none⟩ := x.bel.cell (p := ⟨b, o, none⟩) h
theorem Later.keep {W : World} (x : Later W.heap.size W) {b o : Nat} {v : Value} (h : W.cell? ⟨b, o, none⟩ = some v) : x.val.cell? ⟨b, o, none⟩ = some v :=
 (x.bel.cell (p := ⟨b, o, none⟩) (block_lt_of_cell h)).trans h
theorem keep_alloc {W : World} {o : Obj} {p : Addr} {v : Value} (h : W.cell? p = some v) : (W.alloc o).cell? p = some v :=
 (World.cell?_alloc_lt W o p (block_lt_of_cell h)).trans h
theorem keep_set {W : World} {p q : Addr} {u v : Value} (h : W.cell? p = some v) (hne : q ≠ p) : (W.setCell q u).cell? p = some v :=
 (World.cell?_setCell_other W q p u hne).trans h
theorem later_is {B : Nat} {w w' : World} (h : Below B w w') : ∃ x : Later B w, w' = x.val := ⟨⟨w', h⟩, rfl⟩
theorem Later.frozen {B : Nat} {w : World} (x : Later B w) (b o : Nat) (h : b < B) : x.val.frozen? ⟨b, o, none⟩ = w.frozen? ⟨b, o, none⟩ := x.bel.frozen (p := ⟨b, o, none⟩) h
theorem wp_region_later {P : Program} {id : Nat} {Q : Exit → Act → World → Prop} {a : Act} {w : World} {l : List Oper} (B : Nat) (hm : P.follows .mixedOrders = true) (hB : Region.lexB .any l.toArray = true)
  (h : wpQuiet P l.toArray (fun w' => ∃ x : Later B w, w' = x.val) (fun a' => ∀ w', (∃ x : Later B w, w' = x.val) → Q .normal a' w') l a) : (Code.region id l.toArray true).wp P Q a w :=
 wp_region_quiet (C := fun w' => ∃ x : Later B w, w' = x.val) hm hB ⟨⟨w.drew, (Below.refl _ _).drew⟩, rfl⟩ (by simpa using h)

theorem wp_region_lat {P : Program} {id : Nat} {Q : Exit → Act → World → Prop} {a : Act} {w : World} {l : List Oper} (hm : P.follows .mixedOrders = true) (hB : Region.lexB .any l.toArray = true)
  (h : wpQuiet P l.toArray (fun w' => ∃ x : Later w.heap.size w, w' = x.val) (fun a' => ∀ w', (∃ x : Later w.heap.size w, w' = x.val) → Q .normal a' w') l a) : (Code.region id l.toArray true).wp P Q a w :=
 wp_region_later w.heap.size hm hB h
section
variable {w W : World}
theorem bel_alloc (h : Below w.heap.size w W) (o : Obj) : Below w.heap.size w (W.alloc o) := h.alloc h.size o
theorem bel_drewN (h : Below w.heap.size w W) (n : Nat) : Below w.heap.size w (W.drewN n) := ⟨h.os, h.tape, h.output, h.size, h.block⟩
theorem bel_later (x : Later W.heap.size W) (h : Below w.heap.size w W) : Below w.heap.size w x.val := h.trans (x.bel.mono h.size)
theorem bel_set (h : Below w.heap.size w W) {p : Addr} (hp : w.heap.size ≤ p.block) (u : Value) : Below w.heap.size w (W.setCell p u) := h.setCell hp u
/-- a chain of new blocks, stores into own blocks, later worlds -/
theorem belo (h : Below w.heap.size w W := by repeat (first | with_reducible exact Below.refl _ _ | with_reducible refine bel_later _ ?_ | with_reducible refine bel_alloc ?_ _ | refine bel_set ?_ (by first | omega | (simp; done) | (simp; omega)) _ | with_reducible refine Below.drew ?_ | with_reducible refine bel_drewN ?_ _ | with_reducible assumption | assumption)) : Below w.heap.size w W := h
end
section
variable {B : Nat} {w W W0 : World} {b o : Nat} {v : Value}
theorem Later.cq (x : Later B w) (b o : Nat) (h : b < B := by first | omega | (simp; done) | (simp; omega)) : x.val.cell? ⟨b, o, none⟩ = w.cell? ⟨b, o, none⟩ := x.cell b o h
theorem Later.zq (x : Later B w) (b o : Nat) (h : b < B := by first | omega | (simp; done) | (simp; omega)) : x.val.frozen? ⟨b, o, none⟩ = w.frozen? ⟨b, o, none⟩ := x.frozen b o h
theorem Later.carry (x : Later W.heap.size W) (c : W0.cell? ⟨b, o, none⟩ = some v) (h : W0.cell? ⟨b, o, none⟩ = some v → W.cell? ⟨b, o, none⟩ = some v := by intro h_; repeat (first | exact h_ | apply keep_alloc | (apply keep_set; rotate_left; first | (simp; done) | (simp; omega)))) : x.val.cell? ⟨b, o, none⟩ = some v := x.keep (h c)
end

/-- the world behind a call that leaves it alone, under a new name -/
theorem forget {P : Program} {f : FuncId} {args : Array Value} {w : World} {v : Value} (h : Calls P f args w fun e w' => e = .returned v ∧ w = w') :
  Calls P f args w fun e w' => e = .returned v ∧ Below w.heap.size w w' := h.mono fun _ _ ⟨he, hb⟩ => ⟨he, hb ▸ Below.refl _ _⟩
/-- a new block, then a later world -/
theorem below_new {w w' : World} {o : Obj} (h : Below (w.alloc o).heap.size (w.alloc o) w') : Below w.heap.size w w' :=
 ((Below.refl _ _).alloc (Nat.le_refl _) o).trans (h.mono (by simp))
theorem below_step {B : Nat} {w w1 w2 : World} (h : Below B w w1) (hB : B ≤ w.heap.size) (k : Below w1.heap.size w1 w2) : Below B w w2 := h.trans (k.mono (Nat.le_trans hB h.size))
/-- a contract that makes memory alone, met inside such a region -/
theorem later_of {P : Program} {f : FuncId} {args : Array Value} {B : Nat} {w : World} {x : Later B w} {v : Value} (hB : B ≤ w.heap.size)
  (h : Calls P f args x.val fun e w' => e = .returned v ∧ Below x.val.heap.size x.val w') : Calls P f args x.val fun e w'' => e = .returned v ∧ ∃ y : Later B w, w'' = y.val :=
 h.mono fun _ w'' ⟨he, hb⟩ => ⟨he, ⟨w'', x.bel.trans (hb.mono (Nat.le_trans hB x.bel.size))⟩, rfl⟩
/-- one that leaves the world alone -/
theorem later_new {P : Program} {f : FuncId} {args : Array Value} {w : World} {x : Later w.heap.size w} {v : Value}
  (h : Calls P f args x.val fun e w' => e = .returned v ∧ Below x.val.heap.size x.val w') : Calls P f args x.val fun e w'' => e = .returned v ∧ ∃ y : Later w.heap.size w, w'' = y.val := later_of (Nat.le_refl _) h
theorem later_same {P : Program} {f : FuncId} {args : Array Value} {B : Nat} {w : World} {x : Later B w} {v : Value}
  (h : Calls P f args x.val fun e w' => e = .returned v ∧ x.val = w') : Calls P f args x.val fun e w'' => e = .returned v ∧ ∃ y : Later B w, w'' = y.val :=
 h.mono fun _ _ ⟨he, hb⟩ => ⟨he, x, hb.symm⟩
theorem ret_int {k : IntKind} {a b : Int} (h : a = b) : Ending.returned (.int k a) = .returned (.int k b) := by rw [h]
end Go.Proofs.Ythhokpaidekmnaa
