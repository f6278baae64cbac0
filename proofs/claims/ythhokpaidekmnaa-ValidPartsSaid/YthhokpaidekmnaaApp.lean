/- append onto a row of the call's own, in the words of Base. -/
import Derived.Test.YthhokpaidekmnaaBase
import Derived.Maps.AppendAt
import Derived.Deep.AppendLies
import Derived.OwnWalk
namespace Go.Proofs.Ythhokpaidekmnaa
open Go.RowKit

theorem own_empty (w : World) (e : TypeId) (k : IntKind) : (w.alloc (.cells #[] e)).ownsRow w.heap.size e 1 (.slice (some ⟨w.heap.size, 0, none⟩) ([] : List Nat).length 0) ([] : List Nat).length (vals k []) :=
 ⟨rfl, .inr ⟨w.heap.size, 0, #[], rfl, Nat.le_refl _, heap_alloc_new w _, Nat.le_refl _, by simp [maxLen], rfl, rfl⟩⟩
theorem own_nil (w : World) (base : Nat) (e : TypeId) (k : IntKind) : w.ownsRow base e 1 (.slice none ([] : List Nat).length 0) ([] : List Nat).length (vals k []) := World.ownsRow_nil w base e 1

theorem own_form {w : World} {base e n : Nat} {v : Value} {xs : List Value} (h : w.ownsRow base e 1 v n xs) : ∃ A c, v = .slice A n c := by
 rcases h.2 with ⟨rfl, rfl⟩ | ⟨g, cap, cur, rfl, _⟩
 ·exact ⟨none, 0, rfl⟩
 ·exact ⟨some ⟨g, 0, none⟩, cap, rfl⟩

theorem own_some {w : World} {base e n c : Nat} {A : Option Addr} {xs : List Value} (h : w.ownsRow base e 1 (.slice A n c) n xs) (hn : 0 < n) : ∃ g, A = some ⟨g, 0, none⟩ ∧ base ≤ g ∧ g < w.heap.size := by
 have hl := h.1
 rcases h.2 with ⟨_, h0⟩ | ⟨g, cap, cur, hv, hb, hh, _⟩
 ·omega
 ·have hA : A = some ⟨g, 0, none⟩ ∧ c = cap := by simpa using hv
  exact ⟨g, hA.1, hb, (Array.getElem?_eq_some_iff.1 hh).1⟩

section
variable {P : Program} (w : World)
theorem run_append_nums (base : Nat) (t ty e : TypeId) (i : TypeInfo) (k : IntKind) (bytes : Nat) (ht : P.underlying t = some (.slice e)) (hi : P.info? e = some i) (hz : i.zero = some (.int k 0))
  (hsize : i.size = 1) (hby : i.bytes = bytes) (h0 : 0 < bytes)
  (v : Value) (l : List Nat) (hown : w.ownsRow base e 1 v l.length (vals k l))
  (B : Nat) (A2 : Option Addr) (l2 : List Nat) (c2 : Nat) (hr : Nums k w B A2 l2) (hnil : A2 = none → c2 = 0)
  (hbytes : (l.length + l2.length) * bytes ≤ 140737488355328) (hbase : base ≤ w.heap.size) :
  ∃ A' c' w', (Builtin.append_ #[t, t] ty #[v, .slice A2 l2.length c2]).run P w = .ok (.slice A' (l ++ l2).length c') w' ∧ w'.ownsRow base e 1 (.slice A' (l ++ l2).length c') (l ++ l2).length (vals k (l ++ l2)) ∧ w.grownBy w' v.ownBlock ∧ Below base w w' := by
 have hlen : l.length + l2.length ≤ 140737488355328 := Nat.le_trans (Nat.le_mul_of_pos_right _ h0) hbytes
 have fin : ∀ v' w', (Builtin.append_ #[t, t] ty #[v, .slice A2 l2.length c2]).run P w = .ok v' w' → w'.ownsRow base e 1 v' (l.length + l2.length) (vals k l ++ vals k l2) → w.grownBy w' v.ownBlock →
   ∃ A' c' w', (Builtin.append_ #[t, t] ty #[v, .slice A2 l2.length c2]).run P w = .ok (.slice A' (l ++ l2).length c') w' ∧ w'.ownsRow base e 1 (.slice A' (l ++ l2).length c') (l ++ l2).length (vals k (l ++ l2)) ∧ w.grownBy w' v.ownBlock ∧ Below base w w' := by
  intro v' w' hrun ho hg
  obtain ⟨A', c', rfl⟩ := own_form ho
  rw [← List.length_append] at hrun ho
  rw [← vals_append] at ho
  exact ⟨A', c', w', hrun, ho, hg, (Below.refl _ _).grown hg hbase (fun g hgb => (hown.lt g hgb).1)⟩
 rcases Nat.eq_zero_or_pos l2.length with hz2 | hp
 ·have hl2 : l2 = [] := List.eq_nil_of_length_eq_zero hz2
  subst hl2
  cases A2 with
  | none =>
   rw [hnil rfl] at fin ⊢
   exact fin v w (run_append_owned_none (P := P) (w := w) base t ty e i 1 ht hi v _ _ hown) (by simpa [vals] using hown) (World.grownBy.refl w _)
  | some ad =>
   obtain ⟨v', w', hrun, h2, h3, _⟩ := run_append_own (P := P) w base t ty e i (.int k 0) 1 bytes ht hi hz hsize hby rfl (by omega) v l.length (vals k l) hown ad 0 c2 [] (by simp) (by simp) (by simp) (by unfold maxLen; simp at hlen; omega) (by simpa using hbytes) hbase
   exact fin v' w' hrun (by simpa [vals] using h2) h3
 ·obtain ⟨b, o, rfl, hb, hc⟩ := hr hp
  have hadd : ∀ j, (⟨b, o, none⟩ : Addr).add j = ⟨b, o + j, none⟩ := fun j => by unfold Addr.add; split <;> simp_all
  obtain ⟨v', w', hrun, h2, h3, _⟩ := run_append_own (P := P) w base t ty e i (.int k 0) 1 bytes ht hi hz hsize hby rfl (by omega) v l.length (vals k l) hown ⟨b, o, none⟩ l2.length c2 (vals k l2) (by rw [vals_length, Nat.mul_one])
   (fun j u hu => by
    rw [hadd]
    simp only [vals, List.getElem?_map, Option.map_eq_some_iff] at hu
    obtain ⟨y, hy, rfl⟩ := hu
    exact hc j y hy) vals_one (by unfold maxLen; omega) hbytes hbase
  exact fin v' w' hrun h2 h3

theorem wpList_append_nums {ops : Array Oper} {rest : List Oper} {o : Oper} {a : Act} {Q : Exit → Act → World → Prop} (hgd : o.guard = none) (s x : Operand) (t : TypeId)
  (ho : o.op = .call { callee := .builtin .append, args := #[s, x], argTypes := #[t, t] })
  (base : Nat) (e : TypeId) (i : TypeInfo) (k : IntKind) (bytes : Nat) (ht : P.underlying t = some (.slice e)) (hi : P.info? e = some i) (hz : i.zero = some (.int k 0))
  (hsize : i.size = 1) (hby : i.bytes = bytes) (h0 : 0 < bytes)
  (v : Value) (l : List Nat) (hs : a.eval s = v) (hown : w.ownsRow base e 1 v l.length (vals k l))
  (B : Nat) (A2 : Option Addr) (l2 : List Nat) (c2 : Nat) (hx : a.eval x = .slice A2 l2.length c2) (hr : Nums k w B A2 l2) (hnil : A2 = none → c2 = 0)
  (hbytes : (l.length + l2.length) * bytes ≤ 140737488355328) (hbase : base ≤ w.heap.size)
  (h : ∀ A' c' w', w'.ownsRow base e 1 (.slice A' (l ++ l2).length c') (l ++ l2).length (vals k (l ++ l2)) → w.grownBy w' v.ownBlock → Below base w w' → wpList P ops Q rest (a.put o.dst (.slice A' (l ++ l2).length c')) w') : wpList P ops Q (o :: rest) a w := by
 refine wpList_plain hgd fun K hK => ?_
 obtain ⟨A', c', w', hrun, h2, h3, h4⟩ := run_append_nums (P := P) w base t o.type e i k bytes ht hi hz hsize hby h0 v l hown B A2 l2 c2 hr hnil hbytes hbase
 unfold Oper.wp execOp
 simp only [ho, resolve, invoke, builtin, Sem.run_bind, Sem.run_pure, Result.andThen_ok, List.map_toArray, List.map_cons, List.map_nil, hs, hx, hrun]
 exact hK _ _ (h A' c' w' h2 h3 h4)
end
end Go.Proofs.Ythhokpaidekmnaa
