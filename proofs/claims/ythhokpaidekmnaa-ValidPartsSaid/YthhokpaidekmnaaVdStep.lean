/- Whole variables in a region that draws its order. -/
import Derived.Test.YthhokpaidekmnaaVarB
import Derived.Test.YthhokpaidekmnaaRowC
namespace Go.Proofs.Ythhokpaidekmnaa
open Go.RowKit
set_option linter.unusedVariables false
section
variable {P : Program} {ops : Array Oper} {o : Oper} {a : Act} {w : World} {K : Act → World → Prop} {Q : Exit → Act → World → Prop} {E : Prop}
theorem step_load_var (hgd : o.guard = none) (ty : TypeId) (x : Operand) (ho : o.op = .load ty x)
  (g : Nat) (hx : a.eval x = .pointer (some ⟨g, 0, none⟩)) (C : List Value) (d : TypeDesc) (n : Nat) (hR : RowAt w g ty C)
  (hu : P.underlying ty = some d) (hd : (match d with | .struct _ | .array _ _ => true | _ => false) = true) (hi : (P.info? ty).map (·.size) = some n) (hn : C.length = n)
  (h : K (a.put o.dst (.agg C.toArray)) w) : if Region.wanted o (yielded ops a.tmps) = true then Oper.wp P o a w K Q else E := by
 rw [if_pos (by simp [Region.wanted, hgd])]
 exact wp_load_row ty x ho g hx ty C.toArray (0, 0) d hR hu hd (by rw [hi, ← hn]; simp) h
theorem step_store_var (hgd : o.guard = none) (ty : TypeId) (x y : Operand) (ho : o.op = .store ty x y)
  (g : Nat) (C D : List Value) (n : Nat) (hx : a.eval x = .pointer (some ⟨g, 0, none⟩)) (hy : a.eval y = .agg D.toArray) (hR : RowAt w g ty C)
  (hi : (P.info? ty).map (·.size) = some n) (hC : C.length = n) (hD : D.length = n) (h1 : ∀ v ∈ D, v.oneCell' = true)
  (h : ∀ w', RowAt w' g ty D → Only g w w' → K (a.put o.dst undef) w') : if Region.wanted o (yielded ops a.tmps) = true then Oper.wp P o a w K Q else E := by
 rw [if_pos (by simp [Region.wanted, hgd])]
 exact wp_store_row ty x y ho g D.toArray hx hy ty C.toArray hR (by rw [hi, ← hD]; simp) (by simp [hC, hD]) (all_oneCell_toArray h1) (h _ (RowAt.row hR D) ⟨rfl, rfl, rfl, setRow_size _ _ _, fun k hk => setRow_other w g k _ hk⟩)
end
end Go.Proofs.Ythhokpaidekmnaa
