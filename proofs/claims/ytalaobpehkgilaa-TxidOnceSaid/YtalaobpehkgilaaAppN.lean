/- append onto a row of the call's own, the lengths by name. -/
import Derived.Test.YtalaobpehkgilaaSq
namespace Go.Proofs.Ytalaobpehkgilaa
open Go.RowKit
section
variable {α : Type} {f : α → Value} {P : Program} (w : World)
theorem wpList_append_n {ops : Array Oper} {rest : List Oper} {o : Oper} {a : Act} {Q : Exit → Act → World → Prop} (hgd : o.guard = none) (s x : Operand) (t : TypeId)
    (ho : o.op = .call { callee := .builtin .append, args := #[s, x], argTypes := #[t, t] }) (hone : ∀ a, (f a).oneCell' = true)
    (base : Nat) (e : TypeId) (i : TypeInfo) (z : Value) (bytes : Nat) (ht : P.underlying t = some (.slice e)) (hi : P.info? e = some i) (hz : i.zero = some z) (hzs : z.cells.size = 1)
    (hsize : i.size = 1) (hby : i.bytes = bytes) (h0 : 0 < bytes)
    (A1 : Option Addr) (c1 N : Nat) (l : List α) (hs : a.eval s = .slice A1 N c1) (hN : l.length = N) (hown : w.ownsRow base e 1 (.slice A1 N c1) N (l.map f))
    (B : Nat) (A2 : Option Addr) (l2 : List α) (c2 m : Nat) (hm : l2.length = m) (hx : a.eval x = .slice A2 m c2) (hr : Sq f w B A2 l2) (hnil : A2 = none → c2 = 0)
    (M : Nat) (hM : N + m = M) (hbytes : M * bytes ≤ 140737488355328) (hbase : base ≤ w.heap.size)
    (h : ∀ A' c' w', w'.ownsRow base e 1 (.slice A' M c') M ((l ++ l2).map f) → w.grownBy w' (Value.slice A1 N c1).ownBlock → Below base w w' → wpList P ops Q rest (a.put o.dst (.slice A' M c')) w') : wpList P ops Q (o :: rest) a w := by
  subst hN hm hM
  refine wpList_append_sq w hgd s x t ho hone base e i z bytes ht hi hz hzs hsize hby h0 (.slice A1 l.length c1) l hs hown B A2 l2 c2 l2.length rfl hx hr hnil hbytes hbase (fun A' c' w' h1 h2 h3 => ?_)
  have hl : (l ++ l2).length = l.length + l2.length := List.length_append
  rw [hl] at h1 ⊢
  exact h A' c' w' h1 h2 h3
theorem step_append_n {ops : Array Oper} {o : Oper} {a : Act} {K : Act → World → Prop} {Q : Exit → Act → World → Prop} {E : Prop} (hgd : o.guard = none) (s x : Operand) (t : TypeId)
    (ho : o.op = .call { callee := .builtin .append, args := #[s, x], argTypes := #[t, t] }) (hone : ∀ a, (f a).oneCell' = true)
    (base : Nat) (e : TypeId) (i : TypeInfo) (z : Value) (bytes : Nat) (ht : P.underlying t = some (.slice e)) (hi : P.info? e = some i) (hz : i.zero = some z) (hzs : z.cells.size = 1)
    (hsize : i.size = 1) (hby : i.bytes = bytes) (h0 : 0 < bytes)
    (A1 : Option Addr) (c1 N : Nat) (l : List α) (hs : a.eval s = .slice A1 N c1) (hN : l.length = N) (hown : w.ownsRow base e 1 (.slice A1 N c1) N (l.map f))
    (B : Nat) (A2 : Option Addr) (l2 : List α) (c2 m : Nat) (hm : l2.length = m) (hx : a.eval x = .slice A2 m c2) (hr : Sq f w B A2 l2) (hnil : A2 = none → c2 = 0)
    (M : Nat) (hM : N + m = M) (hbytes : M * bytes ≤ 140737488355328) (hbase : base ≤ w.heap.size)
    (h : ∀ A' c' w', w'.ownsRow base e 1 (.slice A' M c') M ((l ++ l2).map f) → w.grownBy w' (Value.slice A1 N c1).ownBlock → Below base w w' → K (a.put o.dst (.slice A' M c')) w') :
    if Region.wanted o (yielded ops a.tmps) = true then Oper.wp P o a w K Q else E := by
  subst hN hm hM
  refine step_append_sq w hgd s x t ho hone base e i z bytes ht hi hz hzs hsize hby h0 (.slice A1 l.length c1) l hs hown B A2 l2 c2 l2.length rfl hx hr hnil hbytes hbase (fun A' c' w' h1 h2 h3 => ?_)
  have hl : (l ++ l2).length = l.length + l2.length := List.length_append
  rw [hl] at h1 ⊢
  exact h A' c' w' h1 h2 h3
end
end Go.Proofs.Ytalaobpehkgilaa
