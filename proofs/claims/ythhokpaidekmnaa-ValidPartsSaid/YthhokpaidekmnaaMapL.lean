/- A map that is written out, with plain keys: an insert, a look-up. -/
import Derived.Test.YthhokpaidekmnaaOwn
import Derived.MapKept
import Derived.WideMake
import Derived.Carry
namespace Go.Proofs.Ythhokpaidekmnaa
open Go.RowKit
set_option linter.unusedVariables false
/-- block g is a map of these entries -/
def MapIs (w : World) (g : Nat) (es : Array MapEntry) (clock : Nat) : Prop := w.heap[g]? = some (.map es clock)
section
variable {P : Program} {w w' : World} {g clock : Nat} {es : Array MapEntry}
theorem MapIs.lt (h : MapIs w g es clock) : g < w.heap.size := (Array.getElem?_eq_some_iff.1 h).1
theorem MapIs.new (w : World) (n : Nat) (hn : n = w.heap.size) : MapIs (w.alloc (.map #[] 0)) n #[] 0 := by subst hn; exact heap_alloc_new w _
theorem run_insert_key (t kt et : TypeId) (d : TypeDesc) (key v : Value) (ht : P.underlying t = some (.map kt et)) (hk : P.underlying kt = some d) (hkey : MapKept.IsKey d key) (hf : Instr.findNow d key es.toList 0 = some none) (hb : MapIs w g es clock) :
  (Instr.mapUpdate t (.map (some g)) key v).run P w = .ok () { w with heap := w.heap.setIfInBounds g (.map (es.push { key, val := v, born := clock }) (clock + 1)) } := by
 have hc : (Instr.checkKey false 10000 kt key).run P w = .ok () w := MapKept.run_checkKey hk hkey false 9999
 simp [Instr.mapUpdate, run_underlying ht, MapKept.run_getObj_map hb, hc, MapKept.run_findKey hk hf, MapKept.run_setObj_map _ hb, Result.andThen]
theorem wpList_insert {ops : Array Oper} {rest : List Oper} {o : Oper} {a : Act} {Q : Exit → Act → World → Prop} (hgd : o.guard = none) (t : TypeId) (m x y : Operand) (ho : o.op = .insert t m x y)
  (kt et : TypeId) (d : TypeDesc) (g : Nat) (key v : Value) (ht : P.underlying t = some (.map kt et)) (hk : P.underlying kt = some d) (hm : a.eval m = .map (some g)) (hx : a.eval x = key) (hy : a.eval y = v) (hb : MapIs w g es clock) (hkey : MapKept.IsKey d key) (hf : Instr.findNow d key es.toList 0 = some none)
  (h : ∀ w', MapIs w' g (es.push { key, val := v, born := clock }) (clock + 1) → Only g w w' → wpList P ops Q rest (a.put o.dst undef) w') : wpList P ops Q (o :: rest) a w := by
 refine wpList_plain hgd fun K' hK' => ?_
 have hrun := run_insert_key (P := P) t kt et d key v ht hk hkey hf hb
 unfold Oper.wp
 simp [execOp, ho, hm, hx, hy, hrun, Result.andThen]
 refine hK' _ _ (h _ ?_ ⟨rfl, rfl, rfl, by simp, fun k hk => ?_⟩)
 ·show (w.heap.setIfInBounds g _)[g]? = _
  simp [hb.lt]
 ·show (w.heap.setIfInBounds g _)[k]? = _
  rw [Array.getElem?_setIfInBounds]
  simp [Ne.symm hk]
theorem run_look_key (t kt et : TypeId) (d : TypeDesc) (key : Value) (ht : P.underlying t = some (.map kt et)) (hk : P.underlying kt = some d) (hkey : MapKept.IsKey d key) (hb : MapIs w g es clock)
  (v : Value) (b : Bool) (hf : (∃ i, Instr.findNow d key es.toList 0 = some (some (i, v)) ∧ b = true) ∨ (Instr.findNow d key es.toList 0 = some none ∧ (zeroValue et).run P w = .ok v w ∧ b = false)) :
  (Instr.lookup t (.map (some g)) key true).run P w = .ok (.tuple #[v, .bool b]) w := by
 have hc : (Instr.checkKey es.isEmpty 10000 kt key).run P w = .ok () w := MapKept.run_checkKey hk hkey _ 9999
 rcases hf with ⟨i, hf, rfl⟩ | ⟨hf, hz, rfl⟩
 ·simp [Instr.lookup, run_underlying ht, MapKept.run_getObj_map hb, hc, MapKept.run_findKey hk hf, Result.andThen]
 ·simp [Instr.lookup, run_underlying ht, MapKept.run_getObj_map hb, hc, MapKept.run_findKey hk hf, hz, Result.andThen]
end
theorem wpList_look {P : Program} {w : World} {ops : Array Oper} {rest : List Oper} {o : Oper} {a : Act} {Q : Exit → Act → World → Prop} (hgd : o.guard = none) (t : TypeId) (m x : Operand) (ho : o.op = .lookup t m x true)
  (g : Nat) (key v : Value) (b : Bool) (hm : a.eval m = .map (some g)) (hx : a.eval x = key) (hrun : (Instr.lookup t (.map (some g)) key true).run P w = .ok (.tuple #[v, .bool b]) w)
  (h : wpList P ops Q rest (a.put o.dst (.tuple #[v, .bool b])) w) : wpList P ops Q (o :: rest) a w := by
 refine wpList_plain hgd fun K' hK' => ?_
 unfold Oper.wp
 simp [execOp, ho, hm, hx, hrun, Result.andThen]
 exact hK' _ _ h
end Go.Proofs.Ythhokpaidekmnaa
