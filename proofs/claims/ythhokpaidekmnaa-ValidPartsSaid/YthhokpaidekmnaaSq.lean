/- A slice that reads as a list, one cell an element: the words of Base for whatever kind of element. -/
import Derived.Test.YthhokpaidekmnaaApp
namespace Go.Proofs.Ythhokpaidekmnaa
open Go.RowKit
set_option linter.unusedVariables false

/-- the slice '.slice A l.length c' reads as the list l (f: an element's cell); it lies below block B -/
def Sq {α : Type} (f : α → Value) (w : World) (B : Nat) (A : Option Addr) (l : List α) : Prop :=
 0 < l.length → ∃ b o, A = some ⟨b, o, none⟩ ∧ b < B ∧ ∀ (j : Nat) (x : α), l[j]? = some x → w.cell? ⟨b, o + j, none⟩ = some (f x)
section
variable {α : Type} {f : α → Value} {w w' : World} {B B' : Nat} {A : Option Addr} {l : List α}
theorem Sq.nil : Sq f w B A [] := fun h => absurd h (by simp)
theorem Sq.at_ (h : Sq f w B A l) {j : Nat} (hj : j < l.length) : ∃ b o x, A = some ⟨b, o, none⟩ ∧ b < B ∧ l[j]? = some x ∧ w.cell? ⟨b, o + j, none⟩ = some (f x) := by
 obtain ⟨b, o, hA, hb, hc⟩ := h (by omega)
 exact ⟨b, o, l[j], hA, hb, List.getElem?_eq_getElem hj, hc j _ (List.getElem?_eq_getElem hj)⟩
theorem Sq.keep (h : Sq f w B A l) (hk : ∀ b o, b < B → w'.cell? ⟨b, o, none⟩ = w.cell? ⟨b, o, none⟩) : Sq f w' B A l := fun hn => by
 obtain ⟨b, o, hA, hb, hc⟩ := h hn
 exact ⟨b, o, hA, hb, fun j x hx => (hk b _ hb).trans (hc j x hx)⟩
theorem Sq.below (h : Sq f w B A l) (hb : Below B w w') : Sq f w' B A l := h.keep fun b o hbB => hb.cell (p := ⟨b, o, none⟩) hbB
theorem Sq.more (h : Sq f w B A l) (hB : B ≤ B') : Sq f w B' A l := fun hn => by
 obtain ⟨b, o, hA, hb, hc⟩ := h hn
 exact ⟨b, o, hA, by omega, hc⟩
theorem Sq.alloc (h : Sq f w B A l) (hB : B ≤ w.heap.size) (o : Obj) : Sq f (w.alloc o) B A l := h.below ((Below.refl _ _).alloc hB o)
theorem Sq.later (h : Sq f w w.heap.size A l) (x : Later w.heap.size w) : Sq f x.val x.val.heap.size A l := (h.below x.bel).more x.bel.size
theorem Sq.take (h : Sq f w B A l) (n : Nat) : Sq f w B A (l.take n) := fun hn => by
 obtain ⟨b, o, hA, hb, hc⟩ := h (by rw [List.length_take] at hn; omega)
 refine ⟨b, o, hA, hb, fun j x hx => hc j x ?_⟩
 rw [List.getElem?_take] at hx
 split at hx
 ·exact hx
 ·cases hx
theorem Sq.of_own {base n c : Nat} {e : TypeId} (h : w.ownsRow base e 1 (.slice A n c) n (l.map f)) : Sq f w w.heap.size A l := fun hn => by
 have hl := h.1
 rw [List.length_map] at hl
 rcases h.2 with ⟨_, h0⟩ | ⟨g, cap, cur, hv, _, hh, hnc, _⟩
 ·omega
 ·have hA : A = some ⟨g, 0, none⟩ ∧ c = cap := by simpa using hv
  obtain ⟨rfl, rfl⟩ := hA
  refine ⟨g, 0, rfl, (Array.getElem?_eq_some_iff.1 hh).1, fun j x hx => ?_⟩
  have hj : j < l.length := (List.getElem?_eq_some_iff.1 hx).1
  rw [Nat.zero_add, h.cellAt j (by omega), List.getElem?_map, hx]
  rfl
/-- a row written out -/
theorem Sq.lits (w : World) (l : List α) (cs : Array Value) (t : TypeId) (m : Nat × Nat) (n B : Nat) (hcs : cs.toList = l.map f) (hn : n = w.heap.size) (hB : n < B) : Sq f (w.alloc (.cells cs t m)) B (some ⟨n, 0, none⟩) l := fun hl => by
 subst hn
 refine ⟨w.heap.size, 0, rfl, hB, fun j x hx => ?_⟩
 rw [Nat.zero_add, cell_of_row _ _ _ _ _ _ (heap_alloc_new w _)]
 have : (cs.toList)[j]? = some (f x) := by rw [hcs, List.getElem?_map, hx]; rfl
 simpa using this
end
theorem nums_sq {k : IntKind} {w : World} {B : Nat} {A : Option Addr} {l : List Nat} (h : Nums k w B A l) : Sq (fun x : Nat => .int k (x : Int)) w B A l := h
theorem sq_nums {k : IntKind} {w : World} {B : Nat} {A : Option Addr} {l : List Nat} (h : Sq (fun x : Nat => .int k (x : Int)) w B A l) : Nums k w B A l := h
/-- what a function hands back that answers a row of its own (or nil) -/
def Gives {α : Type} (f : α → Value) (w : World) (l : List α) (en : Ending) (w' : World) : Prop :=
 ∃ A c, en = .returned (.slice A l.length c) ∧ Sq f w' w'.heap.size A l ∧ (A = none → c = 0) ∧ l.length ≤ c ∧ Below w.heap.size w w'
theorem made_map {α : Type} (f : α → Value) (d : α) (n : Nat) : (madeCells #[f d] n).toList = (List.replicate n d).map f := by
 rw [toList_madeCells_one]; simp
theorem own_nil_c {w : World} {base e n c : Nat} {A : Option Addr} {xs : List Value} (h : w.ownsRow base e 1 (.slice A n c) n xs) : (A = none → c = 0) ∧ n ≤ c := by
 rcases h.2 with ⟨h1, h0⟩ | ⟨g, cap, cur, hv, _, hh, hnc, _⟩
 ·obtain ⟨rfl, rfl, rfl⟩ : A = none ∧ n = 0 ∧ c = 0 := by simpa using h1
  exact ⟨fun _ => rfl, Nat.le_refl _⟩
 ·obtain ⟨rfl, rfl⟩ : A = some ⟨g, 0, none⟩ ∧ c = cap := by simpa using hv
  exact ⟨by simp, hnc⟩
theorem Gives.of_own {α : Type} {f : α → Value} {w w' : World} {l : List α} {base : Nat} {e : TypeId} {A : Option Addr} {n c : Nat} (hn : l.length = n) (h : w'.ownsRow base e 1 (.slice A n c) n (l.map f)) (hb : Below w.heap.size w w') : Gives f w l (.returned (.slice A n c)) w' := by
 subst hn
 exact ⟨A, c, rfl, Sq.of_own h, (own_nil_c h).1, (own_nil_c h).2, hb⟩
theorem Gives.nil {α : Type} {f : α → Value} {w w' : World} (hb : Below w.heap.size w w') : Gives f w [] (.returned (.slice none 0 0)) w' := ⟨none, 0, rfl, Sq.nil, fun _ => rfl, Nat.le_refl _, hb⟩

section
variable {α : Type} {f : α → Value} {P : Program} (w : World)
theorem run_append_sq (hone : ∀ a, (f a).oneCell' = true) (base : Nat) (t ty e : TypeId) (i : TypeInfo) (z : Value) (bytes : Nat) (ht : P.underlying t = some (.slice e)) (hi : P.info? e = some i) (hz : i.zero = some z) (hzs : z.cells.size = 1)
  (hsize : i.size = 1) (hby : i.bytes = bytes) (h0 : 0 < bytes)
  (v : Value) (l : List α) (hown : w.ownsRow base e 1 v l.length (l.map f))
  (B : Nat) (A2 : Option Addr) (l2 : List α) (c2 m : Nat) (hm : l2.length = m) (hr : Sq f w B A2 l2) (hnil : A2 = none → c2 = 0)
  (hbytes : (l.length + m) * bytes ≤ 140737488355328) (hbase : base ≤ w.heap.size) :
  ∃ A' c' w', (Builtin.append_ #[t, t] ty #[v, .slice A2 m c2]).run P w = .ok (.slice A' (l ++ l2).length c') w' ∧ w'.ownsRow base e 1 (.slice A' (l ++ l2).length c') (l ++ l2).length ((l ++ l2).map f) ∧ w.grownBy w' v.ownBlock ∧ Below base w w' := by
 subst hm
 have hlen : l.length + l2.length ≤ 140737488355328 := Nat.le_trans (Nat.le_mul_of_pos_right _ h0) hbytes
 have fin : ∀ v' w', (Builtin.append_ #[t, t] ty #[v, .slice A2 l2.length c2]).run P w = .ok v' w' → w'.ownsRow base e 1 v' (l.length + l2.length) (l.map f ++ l2.map f) → w.grownBy w' v.ownBlock →
   ∃ A' c' w', (Builtin.append_ #[t, t] ty #[v, .slice A2 l2.length c2]).run P w = .ok (.slice A' (l ++ l2).length c') w' ∧ w'.ownsRow base e 1 (.slice A' (l ++ l2).length c') (l ++ l2).length ((l ++ l2).map f) ∧ w.grownBy w' v.ownBlock ∧ Below base w w' := by
  intro v' w' hrun ho hg
  obtain ⟨A', c', rfl⟩ := own_form ho
  rw [← List.length_append] at hrun ho
  rw [← List.map_append] at ho
  exact ⟨A', c', w', hrun, ho, hg, (Below.refl _ _).grown hg hbase (fun g hgb => (hown.lt g hgb).1)⟩
 rcases Nat.eq_zero_or_pos l2.length with hz2 | hp
 ·have hl2 : l2 = [] := List.eq_nil_of_length_eq_zero hz2
  subst hl2
  cases A2 with
  | none =>
   rw [hnil rfl] at fin ⊢
   exact fin v w (run_append_owned_none (P := P) (w := w) base t ty e i 1 ht hi v _ _ hown) (by simpa using hown) (World.grownBy.refl w _)
  | some ad =>
   obtain ⟨v', w', hrun, h2, h3, _⟩ := run_append_own (P := P) w base t ty e i z 1 bytes ht hi hz hsize hby hzs (by omega) v l.length (l.map f) hown ad 0 c2 [] (by simp) (by simp) (by simp) (by unfold maxLen; simp at hlen; omega) (by simpa using hbytes) hbase
   exact fin v' w' hrun (by simpa using h2) h3
 ·obtain ⟨b, o, rfl, hb, hc⟩ := hr hp
  have hadd : ∀ j, (⟨b, o, none⟩ : Addr).add j = ⟨b, o + j, none⟩ := fun j => by unfold Addr.add; split <;> simp_all
  obtain ⟨v', w', hrun, h2, h3, _⟩ := run_append_own (P := P) w base t ty e i z 1 bytes ht hi hz hsize hby hzs (by omega) v l.length (l.map f) hown ⟨b, o, none⟩ l2.length c2 (l2.map f) (by rw [List.length_map, Nat.mul_one])
   (fun j u hu => by
    rw [hadd]
    simp only [List.getElem?_map, Option.map_eq_some_iff] at hu
    obtain ⟨y, hy, rfl⟩ := hu
    exact hc j y hy) (fun u hu => by obtain ⟨a, _, rfl⟩ := List.mem_map.1 hu; exact hone a) (by unfold maxLen; omega) hbytes hbase
  exact fin v' w' hrun h2 h3

theorem wpList_append_sq {ops : Array Oper} {rest : List Oper} {o : Oper} {a : Act} {Q : Exit → Act → World → Prop} (hgd : o.guard = none) (s x : Operand) (t : TypeId)
  (ho : o.op = .call { callee := .builtin .append, args := #[s, x], argTypes := #[t, t] }) (hone : ∀ a, (f a).oneCell' = true)
  (base : Nat) (e : TypeId) (i : TypeInfo) (z : Value) (bytes : Nat) (ht : P.underlying t = some (.slice e)) (hi : P.info? e = some i) (hz : i.zero = some z) (hzs : z.cells.size = 1)
  (hsize : i.size = 1) (hby : i.bytes = bytes) (h0 : 0 < bytes)
  (v : Value) (l : List α) (hs : a.eval s = v) (hown : w.ownsRow base e 1 v l.length (l.map f))
  (B : Nat) (A2 : Option Addr) (l2 : List α) (c2 m : Nat) (hm : l2.length = m) (hx : a.eval x = .slice A2 m c2) (hr : Sq f w B A2 l2) (hnil : A2 = none → c2 = 0)
  (hbytes : (l.length + m) * bytes ≤ 140737488355328) (hbase : base ≤ w.heap.size)
  (h : ∀ A' c' w', w'.ownsRow base e 1 (.slice A' (l ++ l2).length c') (l ++ l2).length ((l ++ l2).map f) → w.grownBy w' v.ownBlock → Below base w w' → wpList P ops Q rest (a.put o.dst (.slice A' (l ++ l2).length c')) w') : wpList P ops Q (o :: rest) a w := by
 refine wpList_plain hgd fun K hK => ?_
 obtain ⟨A', c', w', hrun, h2, h3, h4⟩ := run_append_sq (P := P) w hone base t o.type e i z bytes ht hi hz hzs hsize hby h0 v l hown B A2 l2 c2 m hm hr hnil hbytes hbase
 unfold Oper.wp execOp
 simp only [ho, resolve, invoke, builtin, Sem.run_bind, Sem.run_pure, Result.andThen_ok, List.map_toArray, List.map_cons, List.map_nil, hs, hx, hrun]
 exact hK _ _ (h A' c' w' h2 h3 h4)

theorem step_append_sq {ops : Array Oper} {o : Oper} {a : Act} {K : Act → World → Prop} {Q : Exit → Act → World → Prop} {E : Prop} (hgd : o.guard = none) (s x : Operand) (t : TypeId)
  (ho : o.op = .call { callee := .builtin .append, args := #[s, x], argTypes := #[t, t] }) (hone : ∀ a, (f a).oneCell' = true)
  (base : Nat) (e : TypeId) (i : TypeInfo) (z : Value) (bytes : Nat) (ht : P.underlying t = some (.slice e)) (hi : P.info? e = some i) (hz : i.zero = some z) (hzs : z.cells.size = 1)
  (hsize : i.size = 1) (hby : i.bytes = bytes) (h0 : 0 < bytes)
  (v : Value) (l : List α) (hs : a.eval s = v) (hown : w.ownsRow base e 1 v l.length (l.map f))
  (B : Nat) (A2 : Option Addr) (l2 : List α) (c2 m : Nat) (hm : l2.length = m) (hx : a.eval x = .slice A2 m c2) (hr : Sq f w B A2 l2) (hnil : A2 = none → c2 = 0)
  (hbytes : (l.length + m) * bytes ≤ 140737488355328) (hbase : base ≤ w.heap.size)
  (h : ∀ A' c' w', w'.ownsRow base e 1 (.slice A' (l ++ l2).length c') (l ++ l2).length ((l ++ l2).map f) → w.grownBy w' v.ownBlock → Below base w w' → K (a.put o.dst (.slice A' (l ++ l2).length c')) w') :
  if Region.wanted o (yielded ops a.tmps) = true then Oper.wp P o a w K Q else E := by
 have hw : Region.wanted o (yielded ops a.tmps) = true := by simp [Region.wanted, hgd]
 rw [if_pos hw]
 obtain ⟨A', c', w', hrun, h2, h3, h4⟩ := run_append_sq (P := P) w hone base t o.type e i z bytes ht hi hz hzs hsize hby h0 v l hown B A2 l2 c2 m hm hr hnil hbytes hbase
 unfold Oper.wp execOp
 simp only [ho, resolve, invoke, builtin, Sem.run_bind, Sem.run_pure, Result.andThen_ok, List.map_toArray, List.map_cons, List.map_nil, hs, hx, hrun]
 exact h A' c' w' h2 h3 h4
end
/-- a row of n places, of which the first k are filled with X's first k -/
def fillD {α : Type} (d : α) (X : List α) (n k : Nat) : List α := X.take k ++ List.replicate (n - k) d
theorem fillD_length {α : Type} {d : α} {X : List α} {n k : Nat} (hk : k ≤ n) (hX : n ≤ X.length) : (fillD d X n k).length = n := by simp [fillD]; omega
theorem fillD_zero {α : Type} (d : α) (X : List α) (n : Nat) : fillD d X n 0 = List.replicate n d := by simp [fillD]
theorem fillD_all {α : Type} (d : α) (X : List α) (n : Nat) : fillD d X n n = X.take n := by simp [fillD]
theorem fillD_step {α : Type} {d : α} {X : List α} {n k : Nat} {x : α} (hk : k < n) (hx : X[k]? = some x) : (fillD d X n k).set k x = fillD d X n (k + 1) := by
 have hl : k < X.length := (List.getElem?_eq_some_iff.1 hx).1
 have h1 : (X.take k).length = k := by simp; omega
 unfold fillD
 rw [List.set_append_right _ _ (by omega), h1, Nat.sub_self, show n - k = (n - (k + 1)) + 1 by omega, List.replicate_succ, List.set_cons_zero, List.take_add_one, hx]
 simp
theorem map_get {α : Type} {f : α → Value} {l : List α} {j : Nat} {x : α} (h : l[j]? = some x) : (l.map f)[j]? = some (f x) := by simp [h]
end Go.Proofs.Ythhokpaidekmnaa
