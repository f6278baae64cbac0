/- Variables that are known whole, as steps of a walk: a load, a store (for seats without api.Block). -/
import Derived.Test.YthhokpaidekmnaaOwn
namespace Go.Proofs.Ythhokpaidekmnaa
open Go.RowKit
set_option linter.unusedVariables false
section
variable {P : Program} {ops : Array Oper} {rest : List Oper} {o : Oper} {a : Act} {w : World} {Q : Exit → Act → World → Prop}
theorem wpList_load_row_g (hw : Region.wanted o (yielded ops a.tmps) = true) (ty : TypeId) (x : Operand) (ho : o.op = .load ty x)
  (g : Nat) (hx : a.eval x = .pointer (some ⟨g, 0, none⟩)) (t : TypeId) (cs : Array Value) (fr : Nat × Nat) (d : TypeDesc) (hg : w.heap[g]? = some (.cells cs t fr))
  (hu : P.underlying ty = some d) (hd : (match d with | .struct _ | .array _ _ => true | _ => false) = true) (hi : (P.info? ty).map (·.size) = some cs.size)
  (h : wpList P ops Q rest (a.put o.dst (.agg cs)) w) : wpList P ops Q (o :: rest) a w :=
 wpList_step fun K hK => by rw [if_pos hw]; exact wp_load_row ty x ho g hx t cs fr d hg hu hd hi (hK _ _ h)
theorem wpList_load_var (hw : Region.wanted o (yielded ops a.tmps) = true) (ty : TypeId) (x : Operand) (ho : o.op = .load ty x)
  (g : Nat) (hx : a.eval x = .pointer (some ⟨g, 0, none⟩)) (C : List Value) (d : TypeDesc) (n : Nat) (hR : RowAt w g ty C)
  (hu : P.underlying ty = some d) (hd : (match d with | .struct _ | .array _ _ => true | _ => false) = true) (hi : (P.info? ty).map (·.size) = some n) (hn : C.length = n)
  (h : wpList P ops Q rest (a.put o.dst (.agg C.toArray)) w) : wpList P ops Q (o :: rest) a w :=
 wpList_load_row_g hw ty x ho g hx ty C.toArray (0, 0) d hR hu hd (by rw [hi, ← hn]; simp) h
theorem wpList_store_var (hgd : o.guard = none) (ty : TypeId) (x y : Operand) (ho : o.op = .store ty x y)
  (g : Nat) (C D : List Value) (n : Nat) (hx : a.eval x = .pointer (some ⟨g, 0, none⟩)) (hy : a.eval y = .agg D.toArray) (hR : RowAt w g ty C)
  (hi : (P.info? ty).map (·.size) = some n) (hC : C.length = n) (hD : D.length = n) (h1 : ∀ v ∈ D, v.oneCell' = true)
  (h : ∀ w', RowAt w' g ty D → Only g w w' → wpList P ops Q rest (a.put o.dst undef) w') : wpList P ops Q (o :: rest) a w :=
 wpList_store_row hgd ty x y ho g D.toArray hx hy ty C.toArray hR (by rw [hi, ← hD]; simp) (by simp [hC, hD]) (all_oneCell_toArray h1)
  (h _ (RowAt.row hR D) ⟨rfl, rfl, rfl, setRow_size _ _ _, fun k hk => setRow_other w g k _ hk⟩)
end
theorem Only.to {g : Nat} {W w w' : World} (k : Only g w w') (h : Below W.heap.size W w) (hg : W.heap.size ≤ g) : Below W.heap.size W w' := h.trans (k.below hg)
theorem RowAt.new' (w : World) (n : Nat) (T : TypeId) (C : List Value) (hn : n = w.heap.size) : RowAt (w.alloc (.cells C.toArray T)) n T C := by subst hn; exact RowAt.new w T C
end Go.Proofs.Ythhokpaidekmnaa
