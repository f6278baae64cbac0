/- Variables that are known whole, as steps of a walk: a load, a store; what stays while one block is written. -/
import Derived.Test.YtopkncbpkccfbaaStSt
import Derived.Test.YtopkncbpkccfbaaOnly
namespace Go.Proofs.Ytopkncbpkccfbaa
open Go.RowKit
set_option linter.unusedVariables false
section
variable {P : Program} {ops : Array Oper} {rest : List Oper} {o : Oper} {a : Act} {w : World} {Q : Exit → Act → World → Prop}
theorem wpList_load_var (hw : Region.wanted o (yielded ops a.tmps) = true) (ty : TypeId) (x : Operand) (ho : o.op = .load ty x)
    (g : Nat) (hx : a.eval x = .pointer (some ⟨g, 0, none⟩)) (C : List Value) (d : TypeDesc) (n : Nat) (hR : RowAt w g ty C)
    (hu : P.underlying ty = some d) (hd : (match d with | .struct _ | .array _ _ => true | _ => false) = true) (hi : (P.info? ty).map (·.size) = some n) (hn : C.length = n)
    (h : wpList P ops Q rest (a.put o.dst (.agg C.toArray)) w) : wpList P ops Q (o :: rest) a w :=
  wpList_load_row_g hw ty x ho g hx ty C.toArray (0, 0) d hR hu hd (by rw [hi, ← hn]; simp) h
theorem wpList_store_var (hgd : o.guard = none) (ty : TypeId) (x y : Operand) (ho : o.op = .store ty x y)
    (g : Nat) (C D : List Value) (n : Nat) (hx : a.eval x = .pointer (some ⟨g, 0, none⟩)) (hy : a.eval y = .agg D.toArray) (hR : RowAt w g ty C)
    (hi : (P.info? ty).map (·.size) = some n) (hC : C.length = n) (hD : D.length = n) (h1 : ∀ v ∈ D, v.oneCell' = true)
    (h : ∀ w', RowAt w' g ty D → Only g w w' → wpList P ops Q rest (a.put o.dst undef) w') : wpList P ops Q (o :: rest) a w :=
  wpList_store_row hgd ty x y ho g D.toArray hx hy ty C.toArray hR (by rw [hi, ← hD]; simp) (by simp [hC, hD]) (all_oneCell_toArray h1)
    (h _ (RowAt.row hR D) ⟨rfl, rfl, rfl, setRow_size _ _ _, fun k hk => setRow_other w g k _ hk⟩)
end
section
variable {g : Nat} {w w' : World}
theorem RowAt.only {b : Nat} {T : TypeId} {C : List Value} (h : RowAt w b T C) (k : Only g w w') (hne : b ≠ g) : RowAt w' b T C := (k.block b hne).trans h
theorem Only.to {W w w' : World} (k : Only g w w') (h : Below W.heap.size W w) (hg : W.heap.size ≤ g) : Below W.heap.size W w' := h.trans (k.below hg)
theorem Blk.Ok.only {b : Blk} (h : b.Ok w w.heap.size) (k : Only g w w') (hne : ∀ p, b.A = some p → p.block ≠ g) : b.Ok w' w'.heap.size :=
  ⟨fun hn => by
    obtain ⟨b', o, hA, hb, hc⟩ := h.sq hn
    exact ⟨b', o, hA, by rw [k.size]; exact hb, fun j x hx => (k.cell (p := ⟨b', o + j, none⟩) (show b' ≠ g from hne _ hA)).trans (hc j x hx)⟩, h.u, h.lo, h.hi, h.ln, h.cap, h.nl⟩
theorem Sq.only {α : Type} {f : α → Value} {A : Option Addr} {l : List α} (h : Sq f w w.heap.size A l) (k : Only g w w') (hne : ∀ p, A = some p → p.block ≠ g) : Sq f w' w'.heap.size A l := fun hn => by
  obtain ⟨b', o, hA, hb, hc⟩ := h hn
  exact ⟨b', o, hA, by rw [k.size]; exact hb, fun j x hx => (k.cell (p := ⟨b', o + j, none⟩) (show b' ≠ g from hne _ hA)).trans (hc j x hx)⟩
theorem Blks.only {A : Option Addr} {l : List Blk} (h : Blks w w.heap.size A l) (k : Only g w w') (hA : ∀ p, A = some p → p.block ≠ g) (hb : ∀ b ∈ l, ∀ p, b.A = some p → p.block ≠ g) : Blks w' w'.heap.size A l :=
  ⟨fun hn => by
    obtain ⟨b', o, hA', hb', hc⟩ := h.rc hn
    exact ⟨b', o, hA', by rw [k.size]; exact hb', fun j x hx i v hv => (k.cell (p := ⟨b', o + (j * 2 + i), none⟩) (show b' ≠ g from hA _ hA')).trans (hc j x hx i v hv)⟩, fun b hbl => (h.ok b hbl).only k (hb b hbl)⟩
theorem Stv.Is.only {s : Stv} {base tx : Nat} {S : SS} (h : s.Is w base tx S) (k : Only g w w') (hg : g < base) : s.Is w' base tx S :=
  ⟨⟨h.ok.lh, h.ok.lb, h.ok.tx, fun b hb => (h.ok.ok b hb).only k (fun p hp e => by have := h.new b hb p hp; omega)⟩, h.tx, h.S, h.new, h.ln⟩
end
end Go.Proofs.Ytopkncbpkccfbaa
