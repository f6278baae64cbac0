/- A map of counts: every key but once. -/
import Derived.Test.YtkilpiiljpeamaaOnly
import Derived.Test.YtkilpiiljpeamaaRow
import Derived.MapKept
import Derived.WideMake
import Derived.Carry
namespace Go.Proofs.Ytkilpiiljpeamaa
open Go.RowKit
set_option linter.unusedVariables false
/-- block g is a map of these entries -/
def MapIs (w : World) (g : Nat) (es : Array MapEntry) (clock : Nat) : Prop := w.heap[g]? = some (.map es clock)
def met (l : List Nat) : Array MapEntry := (l.mapIdx fun i (x : Nat) => { key := .int .i64 (x : Int), val := .int .i64 1, born := i : MapEntry }).toArray
theorem met_snoc (l : List Nat) (x : Nat) : met (l ++ [x]) = (met l).push { key := .int .i64 (x : Int), val := .int .i64 1, born := l.length } := by
  unfold met
  rw [List.mapIdx_concat]
  simp
theorem met_keys {l : List Nat} {e : MapEntry} (h : e ∈ (met l).toList) : ∃ x ∈ l, e.key = .int .i64 (x : Int) ∧ e.val = .int .i64 1 := by
  unfold met at h
  obtain ⟨i, hi, rfl⟩ := List.mem_mapIdx.1 h
  exact ⟨l[i], List.getElem_mem hi, rfl, rfl⟩
theorem met_has {l : List Nat} {x : Nat} (h : x ∈ l) : ∃ e ∈ (met l).toList, e.key = .int .i64 (x : Int) := by
  obtain ⟨i, hi, rfl⟩ := List.getElem_of_mem h
  exact ⟨_, by unfold met; exact List.mem_mapIdx.2 ⟨i, hi, rfl⟩, rfl⟩
theorem met_no {l : List Nat} {x : Nat} (h : x ∉ l) : Instr.findNow (.int .i64) (.int .i64 (x : Int)) (met l).toList 0 = some none := by
  rcases MapKept.findNow_spec (d := .int .i64) (k := .int .i64 (x : Int)) rfl (met l).toList 0 (fun e he => by obtain ⟨y, _, hk, _⟩ := met_keys he; rw [hk]; rfl) with ⟨h1, _⟩ | ⟨j, e, h1, h2, h3⟩
  · exact h1
  · obtain ⟨y, hy, hk, _⟩ := met_keys (List.mem_of_getElem? h2)
    rw [h3] at hk
    obtain rfl : x = y := by
      have hk2 : (x : Int) = (y : Int) := by simpa using hk
      omega
    exact absurd hy h
theorem met_yes {l : List Nat} {x : Nat} (h : x ∈ l) : ∃ i, Instr.findNow (.int .i64) (.int .i64 (x : Int)) (met l).toList 0 = some (some (i, .int .i64 1)) := by
  rcases MapKept.findNow_spec (d := .int .i64) (k := .int .i64 (x : Int)) rfl (met l).toList 0 (fun e he => by obtain ⟨y, _, hk, _⟩ := met_keys he; rw [hk]; rfl) with ⟨_, h1⟩ | ⟨j, e, h1, h2, h3⟩
  · obtain ⟨e, he, hk⟩ := met_has h
    exact absurd hk (h1 e he)
  · obtain ⟨y, _, _, hv⟩ := met_keys (List.mem_of_getElem? h2)
    rw [hv] at h1
    exact ⟨_, h1⟩
section
variable {P : Program} {w w' : World} {g clock : Nat} {es : Array MapEntry}
theorem MapIs.lt (h : MapIs w g es clock) : g < w.heap.size := (Array.getElem?_eq_some_iff.1 h).1
theorem MapIs.new (w : World) (n : Nat) (hn : n = w.heap.size) : MapIs (w.alloc (.map #[] 0)) n #[] 0 := by subst hn; exact heap_alloc_new w _
theorem MapIs.to (h : MapIs w g es clock) (hb : Below w.heap.size w w') : MapIs w' g es clock := (hb.block g h.lt).trans h
theorem run_update_key (t kt et : TypeId) (d : TypeDesc) (key v : Value) (ht : P.underlying t = some (.map kt et)) (hk : P.underlying kt = some d) (hkey : MapKept.IsKey d key) (hf : Instr.findNow d key es.toList 0 = some none) (hb : MapIs w g es clock) :
    (Instr.mapUpdate t (.map (some g)) key v).run P w = .ok () { w with heap := w.heap.setIfInBounds g (.map (es.push { key, val := v, born := clock }) (clock + 1)) } := by
  have hc : (Instr.checkKey false 10000 kt key).run P w = .ok () w := MapKept.run_checkKey hk hkey false 9999
  simp [Instr.mapUpdate, run_underlying ht, MapKept.run_getObj_map hb, hc, MapKept.run_findKey hk hf, MapKept.run_setObj_map _ hb, Result.andThen]
theorem wpList_update {ops : Array Oper} {rest : List Oper} {o : Oper} {a : Act} {Q : Exit → Act → World → Prop} (hgd : o.guard = none) (t : TypeId) (m x y : Operand) (ho : o.op = .mapUpdate t m x y)
    (kt et : TypeId) (d : TypeDesc) (g : Nat) (key v : Value) (ht : P.underlying t = some (.map kt et)) (hk : P.underlying kt = some d) (hm : a.eval m = .map (some g)) (hx : a.eval x = key) (hy : a.eval y = v) (hb : MapIs w g es clock) (hkey : MapKept.IsKey d key) (hf : Instr.findNow d key es.toList 0 = some none)
    (h : ∀ w', MapIs w' g (es.push { key, val := v, born := clock }) (clock + 1) → Only g w w' → wpList P ops Q rest (a.put o.dst undef) w') : wpList P ops Q (o :: rest) a w := by
  refine wpList_plain hgd fun K' hK' => ?_
  have hrun := run_update_key (P := P) t kt et d key v ht hk hkey hf hb
  unfold Oper.wp
  simp [execOp, ho, hm, hx, hy, hrun, Result.andThen]
  refine hK' _ _ (h _ ?_ ⟨rfl, rfl, rfl, by simp, fun k hk => ?_⟩)
  · show (w.heap.setIfInBounds g _)[g]? = _
    simp [hb.lt]
  · show (w.heap.setIfInBounds g _)[k]? = _
    rw [Array.getElem?_setIfInBounds]
    simp [Ne.symm hk]
theorem run_look0 (t kt et : TypeId) (d : TypeDesc) (key : Value) (ht : P.underlying t = some (.map kt et)) (hk : P.underlying kt = some d) (hkey : MapKept.IsKey d key) (hb : MapIs w g es clock)
    (v : Value) (hf : (∃ i, Instr.findNow d key es.toList 0 = some (some (i, v))) ∨ (Instr.findNow d key es.toList 0 = some none ∧ (zeroValue et).run P w = .ok v w)) :
    (Instr.lookup t (.map (some g)) key false).run P w = .ok v w := by
  have hc : (Instr.checkKey es.isEmpty 10000 kt key).run P w = .ok () w := MapKept.run_checkKey hk hkey _ 9999
  rcases hf with ⟨i, hf⟩ | ⟨hf, hz⟩
  · simp [Instr.lookup, run_underlying ht, MapKept.run_getObj_map hb, hc, MapKept.run_findKey hk hf, Result.andThen]
  · simp [Instr.lookup, run_underlying ht, MapKept.run_getObj_map hb, hc, MapKept.run_findKey hk hf, hz, Result.andThen]
theorem wpList_look0 {ops : Array Oper} {rest : List Oper} {o : Oper} {a : Act} {Q : Exit → Act → World → Prop} (hgd : o.guard = none) (t : TypeId) (m x : Operand) (ho : o.op = .lookup t m x false)
    (g : Nat) (key v : Value) (hm : a.eval m = .map (some g)) (hx : a.eval x = key) (hrun : (Instr.lookup t (.map (some g)) key false).run P w = .ok v w)
    (h : wpList P ops Q rest (a.put o.dst v) w) : wpList P ops Q (o :: rest) a w := by
  refine wpList_plain hgd fun K' hK' => ?_
  unfold Oper.wp
  simp [execOp, ho, hm, hx, hrun, Result.andThen]
  exact hK' _ _ h
end
theorem zero_int (w : World) : (zeroValue 3).run Try.prog w = .ok (.int .i64 0) w := by kernel_rfl
/-- how often a key has been met -/
theorem met_look {w : World} {g clock : Nat} (l : List Nat) (x : Nat) (n : Nat) (hn : (if x ∈ l then 1 else 0) = n) (hb : MapIs w g (met l) clock) :
    (Instr.lookup 42 (.map (some g)) (.int .i64 (x : Int)) false).run Try.prog w = .ok (.int .i64 (n : Int)) w := by
  subst hn
  by_cases h : x ∈ l
  · rw [if_pos h]
    exact run_look0 42 3 3 (.int .i64) (.int .i64 (x : Int)) Try.underlying42 Try.underlying3 rfl hb _ (.inl (met_yes h))
  · rw [if_neg h]
    exact run_look0 42 3 3 (.int .i64) (.int .i64 (x : Int)) Try.underlying42 Try.underlying3 rfl hb _ (.inr ⟨met_no h, zero_int w⟩)
end Go.Proofs.Ytkilpiiljpeamaa
