/- Words for the walk of StageRefuses. -/
import Derived.Test.YtopkncbpkccfbaaStgBk
import Derived.Test.YtopkncbpkccfbaaFit
import Derived.Test.YtopkncbpkccfbaaStgBack
import Derived.Test.YtopkncbpkccfbaaStgLaw
namespace Go.Proofs.Ytopkncbpkccfbaa
open Go.RowKit
set_option linter.unusedVariables false
attribute [local go_sem] Later.cell Later.frozen setCell_twice
section
variable {P : Program} {ops : Array Oper} {rest : List Oper} {o : Oper} {a : Act} {w : World} {Q : Exit → Act → World → Prop}
theorem wpList_load_row_g (hw : Region.wanted o (yielded ops a.tmps) = true) (ty : TypeId) (x : Operand) (ho : o.op = .load ty x)
    (g : Nat) (hx : a.eval x = .pointer (some ⟨g, 0, none⟩)) (t : TypeId) (cs : Array Value) (fr : Nat × Nat) (d : TypeDesc) (hg : w.heap[g]? = some (.cells cs t fr))
    (hu : P.underlying ty = some d) (hd : (match d with | .struct _ | .array _ _ => true | _ => false) = true) (hi : (P.info? ty).map (·.size) = some cs.size)
    (h : wpList P ops Q rest (a.put o.dst (.agg cs)) w) : wpList P ops Q (o :: rest) a w :=
  wpList_step fun K hK => by rw [if_pos hw]; exact wp_load_row ty x ho g hx t cs fr d hg hu hd hi (hK _ _ h)
end
def OneP (w : World) (p : Bk.Pr) (e : Ending) (w' : World) : Prop :=
  ∃ g o c y, e = .returned (.slice (some ⟨g, o, none⟩) 1 c) ∧ (y : Blk).pr = p ∧ y.Ok w' w'.heap.size ∧ g < w'.heap.size ∧ w'.cell? ⟨g, o, none⟩ = some (.int .i64 y.a) ∧ w'.cell? ⟨g, o + 1, none⟩ = some (.slice y.A y.ws.length y.c) ∧ 1 ≤ c ∧ c ≤ 9223372036854775807 ∧ Below w.heap.size w w'
theorem fit_one (A0 : Option Addr) (x : Blk) (w : World) (h : Blks w w.heap.size A0 [x]) :
    Calls Try.prog 18 #[.slice A0 1 1, .int .i64 1] w (OneP w (Bk.fitP x.pr)) := by
  refine (fit_any A0 [x] 1 1 w h (by simp) (by omega) (by omega)).mono ?_
  rintro e w' ⟨A, c, bl, rfl, hp, hb, hc, hc2, _, hbel⟩
  have hl : bl.length = 1 := by have := congrArg List.length hp; simpa using this
  match bl, hl with
  | [y], _ =>
    obtain ⟨g, o, b, rfl, hg, hb1, hbo, hc0, hc1⟩ := hb.at_ (k := 0) (by simp)
    obtain rfl : y = b := by simpa using hb1
    exact ⟨g, o, c, y, rfl, by simpa using hp, hbo, hg, by simpa using hc0, by simpa using hc1, hc, hc2, hbel⟩
abbrev zt (t : Nat) : Array Value := #[.int .u32 (t : Int), .bool false, .bool false, .bool false, .bool false, .bool false, .bool false, .bool false, .bool false, .int .i64 0, .slice none 0 0, .int .i64 0, .slice none 0 0, .int .i64 0, .slice none 0 0, .int .i64 0, .slice none 0 0, .int .i64 0, .slice none 0 0, .int .i64 0, .slice none 0 0, .int .i64 0, .slice none 0 0, .int .i64 0, .slice none 0 0]
def St0 (t : Nat) : Stv := ⟨t, List.replicate 8 false, List.replicate 8 Blk.zero⟩
theorem St0_ok (t : Nat) (w : World) (B : Nat) (ht : t < 4294967296) : (St0 t).Ok w B := ⟨rfl, rfl, ht, fun b hb => by rw [List.eq_of_mem_replicate hb]; exact Blk.zero_ok w B⟩
theorem St0_len (t : Nat) : ∀ b ∈ (St0 t).bs, b.ws.length ≤ 35184372088832 := fun b hb => by rw [List.eq_of_mem_replicate hb]; decide
end Go.Proofs.Ytopkncbpkccfbaa
