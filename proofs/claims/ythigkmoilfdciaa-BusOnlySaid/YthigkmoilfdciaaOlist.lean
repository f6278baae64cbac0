/- A list of the call's own: elements of several cells, each with a row of its own or another's. -/
import Derived.Test.YthigkmoilfdciaaAppR
import Derived.Test.YthigkmoilfdciaaOwn
namespace Go.Proofs.Ythigkmoilfdciaa
open Go.RowKit
set_option linter.unusedVariables false
/-- what kind of elements: their cells, and the slice (of numbers) that each holds -/
structure Kind (α : Type) where
  f : α → List Value
  s : Nat
  A : α → Option Addr
  l : α → List Nat
  g : Nat → Value
structure Kind.Fine {α : Type} (K : Kind α) : Prop where
  hf : ∀ a, (K.f a).length = K.s
  hs : 0 < K.s
  one : ∀ a, ∀ u ∈ K.f a, u.oneCell' = true
/-- block-off: the element's slice does not lie where the list lies -/
def Kind.Off {α : Type} (K : Kind α) (A : Option Addr) (a : α) : Prop := 0 < (K.l a).length → ∀ p q, K.A a = some p → A = some q → q.block ≠ p.block
structure Olist {α : Type} (K : Kind α) (w : World) (base : Nat) (e : TypeId) (A : Option Addr) (n c : Nat) (l : List α) : Prop where
  len : l.length = n
  own : w.ownsRow base e K.s (.slice A n c) n (l.flatMap K.f)
  ok : ∀ a ∈ l, Sq K.g w w.heap.size (K.A a) (K.l a)
  off : ∀ a ∈ l, K.Off A a
section
variable {α : Type} {K : Kind α} {w w' : World} {base n c : Nat} {e : TypeId} {A : Option Addr} {l : List α}
theorem Olist.nil (K : Kind α) (w : World) (base : Nat) (e : TypeId) : Olist K w base e none 0 0 [] :=
  ⟨rfl, by simpa using World.ownsRow_nil w base e K.s, by simp, by simp⟩
theorem Olist.to (h : Olist K w base e A n c l) (k : Below w.heap.size w w') : Olist K w' base e A n c l :=
  ⟨h.len, own_below h.own k, fun a ha => ((h.ok a ha).below k).more k.size, h.off⟩
theorem Olist.base_le {base' : Nat} (h : Olist K w base e A n c l) (hb : base' ≤ base) : Olist K w base' e A n c l := ⟨h.len, own_more h.own hb, h.ok, h.off⟩
theorem Olist.recs (h : Olist K w base e A n c l) (F : K.Fine) : Recs K.f K.s w w.heap.size A l := Recs.of_own F.hf F.hs h.own
theorem own_at_s {s m : Nat} {xs : List Value} (h : w.ownsRow base e s (.slice A n m) n xs) : ∀ p, A = some p → base ≤ p.block ∧ p.block < w.heap.size ∧ p = ⟨p.block, 0, none⟩ := fun p hp => by
  rcases h.2 with ⟨h1, _⟩ | ⟨g, cap, cur, hv, hb, hh, _⟩
  · have : A = none ∧ n = 0 ∧ m = 0 := by simpa using h1
    rw [this.1] at hp; cases hp
  · have hA : A = some ⟨g, 0, none⟩ ∧ m = cap := by simpa using hv
    rw [hA.1] at hp
    obtain rfl := Option.some.inj hp
    exact ⟨hb, (Array.getElem?_eq_some_iff.1 hh).1, rfl⟩
theorem own_nil_s {s m : Nat} {xs : List Value} (h : w.ownsRow base e s (.slice A n m) n xs) : (A = none → m = 0 ∧ n = 0) ∧ n ≤ m ∧ m ≤ 9223372036854775807 := by
  rcases h.2 with ⟨h1, _⟩ | ⟨g, cap, cur, hv, _, hh, hnc, hm, _⟩
  · obtain ⟨rfl, rfl, rfl⟩ : A = none ∧ n = 0 ∧ m = 0 := by simpa using h1
    exact ⟨fun _ => ⟨rfl, rfl⟩, Nat.le_refl _, by decide⟩
  · obtain ⟨rfl, rfl⟩ : A = some ⟨g, 0, none⟩ ∧ m = cap := by simpa using hv
    unfold maxLen at hm
    exact ⟨by simp, hnc, by omega⟩
/-- a slice whose block is not written stays -/
theorem Sq.grown {β : Type} {g : β → Value} {B : Option Addr} {xs : List β} {row : Option Nat} (h : Sq g w w.heap.size B xs) (k : w.grownBy w' row) (hne : 0 < xs.length → ∀ p, B = some p → some p.block ≠ row) : Sq g w' w'.heap.size B xs := fun hn => by
  obtain ⟨b, o, hA, hb, hc⟩ := h hn
  exact ⟨b, o, hA, Nat.lt_of_lt_of_le hb k.size, fun j x hx => (k.cell_far ⟨b, o + j, none⟩ hb (show some b ≠ row from hne hn ⟨b, o, none⟩ hA)).trans (hc j x hx)⟩
theorem ownBlock_slice (A : Option Addr) (n c : Nat) (q : Nat) (h : (Value.slice A n c).ownBlock = some q) : ∃ p, A = some p ∧ p.block = q := by
  cases A with
  | none => simp [Value.ownBlock] at h
  | some p => exact ⟨p, rfl, by simpa [Value.ownBlock] using h⟩
/-- one element more -/
theorem Olist.push (h : Olist K w base e A n c l) (F : K.Fine) (a0 : α) (hsq : Sq K.g w w.heap.size (K.A a0) (K.l a0)) (hoff : K.Off A a0) {v' : Value} (ho : w'.ownsRow base e K.s v' (n + 1) (l.flatMap K.f ++ K.f a0)) (hg : w.grownBy w' (Value.slice A n c).ownBlock) (hat : v'.ownBlock = (Value.slice A n c).ownBlock ∨ v'.ownBlock = some w.heap.size) :
    ∃ A' c', v' = .slice A' (n + 1) c' ∧ Olist K w' base e A' (n + 1) c' (l ++ [a0]) ∧ ∀ q, A' = some q → (∃ q0, A = some q0 ∧ q0.block = q.block) ∨ q.block = w.heap.size := by
  obtain ⟨A', c', rfl⟩ := own_forms ho
  have key : ∀ a ∈ l ++ [a0], Sq K.g w w.heap.size (K.A a) (K.l a) ∧ K.Off A a := by
    intro a ha
    rcases List.mem_append.1 ha with ha | ha
    · exact ⟨h.ok a ha, h.off a ha⟩
    · obtain rfl := List.mem_singleton.1 ha
      exact ⟨hsq, hoff⟩
  refine ⟨A', c', rfl, ⟨by rw [List.length_append, h.len]; rfl, by simpa [List.flatMap_append] using ho, fun a ha => ?_, fun a ha hn p q hp hq => ?_⟩, fun q hq => ?_⟩
  · obtain ⟨h1, h2⟩ := key a ha
    refine h1.grown hg (fun hn p hp e => ?_)
    obtain ⟨q, hq, hqb⟩ := ownBlock_slice A n c p.block e.symm
    exact h2 hn p q hp hq hqb
  · obtain ⟨h1, h2⟩ := key a ha
    rcases hat with hat | hat
    · rw [hq] at hat
      obtain ⟨q2, hq2, hb2⟩ := ownBlock_slice A n c q.block (by rw [← hat]; rfl)
      rw [← hb2]
      exact h2 hn p q2 hp hq2
    · obtain ⟨b, o, hA, hb, _⟩ := h1 hn
      rw [hp] at hA
      obtain rfl := Option.some.inj hA
      rw [hq] at hat
      have : q.block = w.heap.size := by simpa [Value.ownBlock] using hat
      show q.block ≠ b
      omega
  · rcases hat with hat | hat
    · rw [hq] at hat
      exact .inl (ownBlock_slice A n c q.block (by rw [← hat]; rfl))
    · rw [hq] at hat
      exact .inr (by simpa [Value.ownBlock] using hat)
theorem lit_news (w : World) (n : Nat) (cs : List Value) (t : TypeId) (hn : n = w.heap.size) : ∀ j u, cs[j]? = some u → (w.alloc (.cells cs.toArray t)).cell? ((⟨n, 0, none⟩ : Addr).add j) = some u := by
  intro j u hu
  subst hn
  have hadd : (⟨w.heap.size, 0, none⟩ : Addr).add j = ⟨w.heap.size, j, none⟩ := by unfold Addr.add; split <;> simp_all
  rw [hadd, World.cell?_alloc_new]
  simpa using hu
end
section
variable {α : Type} {K : Kind α} {P : Program} (w0 : World)
theorem wpList_append_el {ops : Array Oper} {rest : List Oper} {o : Oper} {a : Act} {Q : Exit → Act → World → Prop} (hgd : o.guard = none) (s x : Operand) (t : TypeId)
    (ho : o.op = .call { callee := .builtin .append, args := #[s, x], argTypes := #[t, t] }) (F : K.Fine)
    (base : Nat) (e : TypeId) (i : TypeInfo) (z : Value) (bytes : Nat) (ht : P.underlying t = some (.slice e)) (hi : P.info? e = some i) (hz : i.zero = some z)
    (hsize : i.size = K.s) (hby : i.bytes = bytes) (hzs : z.cells.size = K.s)
    (A : Option Addr) (n c : Nat) (l : List α) (hs : a.eval s = .slice A n c) (te : TypeId) (a0 : α) (g : Nat) (hg : g = w0.heap.size) (hown : Olist K w0 base e A n c l)
    (hx : a.eval x = .slice (some ⟨g, 0, none⟩) 1 1) (hsq : Sq K.g w0 w0.heap.size (K.A a0) (K.l a0)) (hoff : K.Off A a0)
    (h63 : n + 1 ≤ 140737488355328) (hbytes : (n + 1) * bytes ≤ 140737488355328) (hbase : base ≤ w0.heap.size)
    (h : ∀ A' c' w', Olist K w' base e A' (n + 1) c' (l ++ [a0]) → (w0.alloc (.cells (K.f a0).toArray te)).grownBy w' (Value.slice A n c).ownBlock → (∀ q, A' = some q → (∃ q0, A = some q0 ∧ q0.block = q.block) ∨ w0.heap.size ≤ q.block) → Below base w0 w' → wpList P ops Q rest (a.put o.dst (.slice A' (n + 1) c')) w') : wpList P ops Q (o :: rest) a (w0.alloc (.cells (K.f a0).toArray te)) := by
  have h1 : Olist K (w0.alloc (.cells (K.f a0).toArray te)) base e A n c l := hown.to (bel_alloc (Below.refl _ _) _)
  have hb0 : Below w0.heap.size w0 (w0.alloc (.cells (K.f a0).toArray te)) := bel_alloc (Below.refl _ _) _
  refine wpList_append_own_at _ hgd s x t ho base e i z K.s bytes ht hi hz hsize hby hzs F.hs (.slice A n c) n (l.flatMap K.f) hs h1.own ⟨g, 0, none⟩ 1 1 (K.f a0) hx (by rw [F.hf, Nat.one_mul]) (lit_news w0 g _ te hg) (F.one a0) (by unfold maxLen; omega) hbytes (by simp; omega) (fun v' w' o' g' _ at' => ?_)
  obtain ⟨A', c', rfl, hol, hwh⟩ := h1.push F a0 ((hsq.below hb0).more hb0.size) hoff o' g' at'
  exact h A' c' w' hol g' (fun q hq => (hwh q hq).imp id (fun e => by simp at e; omega)) (((Below.refl base w0).alloc hbase _).trans ((Below.refl base _).grown g' (by simp; omega) (fun b hb => (h1.own.lt b hb).1)))
end
end Go.Proofs.Ythigkmoilfdciaa
