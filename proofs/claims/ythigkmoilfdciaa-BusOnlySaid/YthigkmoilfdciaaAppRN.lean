/- append of records onto a row of the call's own, the lengths by name. -/
import Derived.Test.YthigkmoilfdciaaAppR
namespace Go.Proofs.Ythigkmoilfdciaa
open Go.RowKit
section
variable {α : Type} {f : α → List Value} {s : Nat} {P : Program} (w : World)
theorem wpList_append_rn {ops : Array Oper} {rest : List Oper} {o : Oper} {a : Act} {Q : Exit → Act → World → Prop} (hgd : o.guard = none) (sv x : Operand) (t : TypeId)
    (ho : o.op = .call { callee := .builtin .append, args := #[sv, x], argTypes := #[t, t] })
    (hf : ∀ a, (f a).length = s) (hs : 0 < s) (hone : ∀ a, ∀ u ∈ f a, u.oneCell' = true)
    (base : Nat) (e : TypeId) (i : TypeInfo) (z : Value) (bytes : Nat) (ht : P.underlying t = some (.slice e)) (hi : P.info? e = some i) (hz : i.zero = some z)
    (hsize : i.size = s) (hby : i.bytes = bytes) (h0 : 0 < bytes) (hzs : z.cells.size = s)
    (A1 : Option Addr) (c1 N : Nat) (l : List α) (hsv : a.eval sv = .slice A1 N c1) (hN : l.length = N) (hown : w.ownsRow base e s (.slice A1 N c1) N (l.flatMap f))
    (B : Nat) (A2 : Option Addr) (l2 : List α) (c2 m : Nat) (hm : l2.length = m) (hx : a.eval x = .slice A2 m c2) (hr : Recs f s w B A2 l2) (hnil : A2 = none → c2 = 0)
    (M : Nat) (hM : N + m = M) (hbytes : M * bytes ≤ 140737488355328) (hbase : base ≤ w.heap.size)
    (h : ∀ A' c' w', w'.ownsRow base e s (.slice A' M c') M ((l ++ l2).flatMap f) → w.grownBy w' (Value.slice A1 N c1).ownBlock → Below base w w' → wpList P ops Q rest (a.put o.dst (.slice A' M c')) w') : wpList P ops Q (o :: rest) a w := by
  subst hN hm hM
  refine wpList_append_recs w hgd sv x t ho hf hs hone base e i z bytes ht hi hz hsize hby h0 hzs (.slice A1 l.length c1) l hsv hown B A2 l2 c2 l2.length rfl hx hr hnil hbytes hbase (fun A' c' w' h1 h2 h3 => ?_)
  have hl : (l ++ l2).length = l.length + l2.length := List.length_append
  rw [hl] at h1 ⊢
  exact h A' c' w' h1 h2 h3
end
end Go.Proofs.Ythigkmoilfdciaa
