/- Layer 23: the map of steps. -/
import Derived.Test.YtegmeodmjaijnaaMapL
import Derived.Test.YtegmeodmjaijnaaJbLaw
import Derived.DeepKeys4
import Derived.DeepKeys3
namespace Go.Proofs.Ytegmeodmjaijnaa
open Go.RowKit
set_option linter.unusedVariables false
set_option linter.unusedSimpArgs false
attribute [local go_sem] Later.cell Later.frozen setCell_twice
theorem stepLaidOut : laidOutB Try.prog = true := by kernel_rfl
theorem step_row : (62 : TypeId) < Try.prog.types.size := of_decide_eq_true (by kernel_rfl)
theorem step_wide : (match Try.prog.underlying 62 with | some (.array _ _) | some (.struct _) => true | _ => false) = true := by rw [Try.underlying62]
theorem step_law : WideMaps.KeyLaw Try.prog 62 := deep_law_laid stepLaidOut (m := 2) (by omega) step_row (by kernel_rfl) step_wide
abbrev stepKey (what : Nat) (yes : Bool) (st : Nat) : Value := .agg #[.int .u8 (what : Int), .bool yes, .int .u8 (st : Int)]
theorem step_cells : Try.prog.cellsOf 62 = 3 := by kernel_rfl
theorem step_c1 : Try.prog.cellsOf 5 = 1 := by kernel_rfl
theorem step_c2 : Try.prog.cellsOf 4 = 1 := by kernel_rfl
theorem step_keyType : Try.prog.keyType 62 = true := by kernel_rfl
theorem step_fuel : ∃ n, Try.prog.types.size + 1 = n + 2 := ⟨Try.prog.types.size - 1, by have h : (62 : Nat) < Try.prog.types.size := step_row; omega⟩
theorem step_keyOf {what : Nat} {yes : Bool} {st : Nat} (hw : what < 256) (hs : st < 256) : ∃ l, keyOf Try.prog 62 (stepKey what yes st) = some l := by
  obtain ⟨n, hn⟩ := step_fuel
  have hw1 : (Lit.int .u8 (what : Int)).wf = true := by simp [Lit.wf, IntKind.min, IntKind.max, IntKind.bits, IntKind.signed]; omega
  have hs1 : (Lit.int .u8 (st : Int)).wf = true := by simp [Lit.wf, IntKind.min, IntKind.max, IntKind.bits, IntKind.signed]; omega
  unfold keyOf
  rw [Try.underlying62, hn]
  simp [step_keyType, Value.formed, Try.underlying62, step_cells, Program.keyLits, Try.underlying5, Try.underlying4, step_c1, step_c2, Value.cells, hw1, hs1]
/-- the steps that there are -/
def stepF : List (Nat × Bool × Nat × Nat) := [(2, false, 0, 1), (3, true, 1, 2), (3, false, 1, 3), (4, false, 2, 4), (4, false, 3, 5)]
abbrev fKey (p : Nat × Bool × Nat × Nat) : Value := stepKey p.1 p.2.1 p.2.2.1
abbrev fVal (p : Nat × Bool × Nat × Nat) : Value := .int .u8 (p.2.2.2 : Int)
theorem stepKey_eq {a c a' c' : Nat} {b b' : Bool} : stepKey a b c = stepKey a' b' c' ↔ a = a' ∧ b = b' ∧ c = c' := by
  simp only [stepKey, Value.agg.injEq, Array.mk.injEq, List.cons.injEq, Value.int.injEq, Value.bool.injEq, true_and, and_true]
  constructor <;> rintro ⟨h1, h2, h3⟩ <;> exact ⟨by omega, h2, by omega⟩
theorem stepF_fine {p : Nat × Bool × Nat × Nat} (h : p ∈ stepF) : p.1 < 256 ∧ p.2.2.1 < 256 ∧ Jp.step p.1 p.2.1 p.2.2.1 = some p.2.2.2 := by
  simp only [stepF, List.mem_cons, List.not_mem_nil, or_false] at h
  rcases h with rfl | rfl | rfl | rfl | rfl <;> decide
theorem stepF_all {what : Nat} {yes : Bool} {st s : Nat} (h : Jp.step what yes st = some s) : (what, yes, st, s) ∈ stepF := by
  unfold Jp.step at h
  repeat' split at h
  all_goals first | (cases h; done) | skip
  all_goals next hc => (obtain ⟨rfl, rfl, rfl⟩ := hc; obtain rfl := Option.some.inj h; decide)
theorem stepF_inj {i j : Nat} {p q : Nat × Bool × Nat × Nat} (hp : stepF[i]? = some p) (hq : stepF[j]? = some q) (h : fKey p = fKey q) : i = j := by
  have hi : i < 5 := (List.getElem?_eq_some_iff.1 hp).1
  have hj : j < 5 := (List.getElem?_eq_some_iff.1 hq).1
  rw [stepKey_eq] at h
  match i, hi, j, hj with
  | 0, _, 0, _ | 1, _, 1, _ | 2, _, 2, _ | 3, _, 3, _ | 4, _, 4, _ => rfl
  | 0, _, 1, _ | 0, _, 2, _ | 0, _, 3, _ | 0, _, 4, _ | 1, _, 0, _ | 1, _, 2, _ | 1, _, 3, _ | 1, _, 4, _ | 2, _, 0, _ | 2, _, 1, _ | 2, _, 3, _ | 2, _, 4, _ | 3, _, 0, _ | 3, _, 1, _ | 3, _, 2, _ | 3, _, 4, _ | 4, _, 0, _ | 4, _, 1, _ | 4, _, 2, _ | 4, _, 3, _ =>
    exfalso
    obtain rfl := Option.some.inj hp
    obtain rfl := Option.some.inj hq
    simp at h
/-- block g is the map of those steps that b says -/
def StepMap (w : World) (g : Nat) (b : Nat → Bool) : Prop := ∃ es clock, MapIs w g es clock ∧ (∀ e ∈ es.toList, ∃ j p, stepF[j]? = some p ∧ b j = true ∧ e.key = fKey p ∧ e.val = fVal p) ∧ ∀ j p, stepF[j]? = some p → b j = true → ∃ e ∈ es.toList, e.key = fKey p
def upd (b : Nat → Bool) (j : Nat) : Nat → Bool := fun k => if k = j then true else b k
theorem StepMap.to {w w' : World} {g : Nat} {b : Nat → Bool} (h : StepMap w g b) (k : Below w.heap.size w w') : StepMap w' g b := by
  obtain ⟨es, clock, h1, h2, h3⟩ := h
  exact ⟨es, clock, (k.block g h1.lt).trans h1, h2, h3⟩
theorem StepMap.lt {w : World} {g : Nat} {b : Nat → Bool} (h : StepMap w g b) : g < w.heap.size := by
  obtain ⟨es, clock, h1, _⟩ := h
  exact h1.lt
theorem step_ok {es : List MapEntry} (h : ∀ e ∈ es, ∃ (p : Nat × Bool × Nat × Nat), p ∈ stepF ∧ e.key = fKey p) : ∀ e ∈ es, ∃ l, keyOf Try.prog 62 e.key = some l := fun e he => by
  obtain ⟨p, hp, hk⟩ := h e he
  rw [hk]
  exact step_keyOf (stepF_fine hp).1 (stepF_fine hp).2.1
theorem zero_u8 (w : World) : (zeroValue 5).run Try.prog w = .ok (.int .u8 0) w := by kernel_rfl
theorem run_insert_step {w : World} {g j : Nat} {b : Nat → Bool} {p : Nat × Bool × Nat × Nat} (h : StepMap w g b) (hp : stepF[j]? = some p) (hb : b j = false) :
    ∃ w', (Instr.mapUpdate 54 (.map (some g)) (fKey p) (fVal p)).run Try.prog w = .ok () w' ∧ StepMap w' g (upd b j) ∧ Only g w w' := by
  obtain ⟨es, clock, h1, h2, h3⟩ := h
  have hpf := stepF_fine (List.mem_of_getElem? hp)
  obtain ⟨l, hl⟩ := step_keyOf (yes := p.2.1) hpf.1 hpf.2.1
  have hc := step_law.check w false hl
  have hno : ∀ e ∈ es.toList, e.key ≠ fKey p := fun e he hk => by
    obtain ⟨i, q, hq, hbi, hkq, _⟩ := h2 e he
    have := stepF_inj hq hp (hkq.symm.trans hk)
    subst this
    rw [hb] at hbi; cases hbi
  have hf : (Instr.findKey 62 (fKey p) es.toList).run Try.prog w = .ok none w := by
    rcases step_law.find w hl es.toList (step_ok (fun e he => by obtain ⟨i, q, hq, _, hkq, _⟩ := h2 e he; exact ⟨q, List.mem_of_getElem? hq, hkq⟩)) with ⟨h4, _⟩ | ⟨j', e0, _, h5, h6⟩
    · exact h4
    · exact absurd h6 (hno e0 (List.mem_of_getElem? h5))
  refine ⟨{ w with heap := w.heap.setIfInBounds g (.map (es.push { key := fKey p, val := fVal p, born := clock }) (clock + 1)) }, ?_, ⟨es.push { key := fKey p, val := fVal p, born := clock }, clock + 1, ?_, fun e he => ?_, fun i q hq hbi => ?_⟩, rfl, rfl, rfl, by simp, fun k hk => ?_⟩
  · simp [Instr.mapUpdate, run_underlying Try.underlying54, MapKept.run_getObj_map h1, hc, hf, MapKept.run_setObj_map _ h1, Result.andThen]
  · show (w.heap.setIfInBounds g _)[g]? = _
    simp [h1.lt]
  · rw [Array.toList_push] at he
    rcases List.mem_append.1 he with he | he
    · obtain ⟨i, q, hq, hbi, hk⟩ := h2 e he
      exact ⟨i, q, hq, by unfold upd; split <;> simp [hbi], hk⟩
    · obtain rfl := List.mem_singleton.1 he
      exact ⟨j, p, hp, by simp [upd], rfl, rfl⟩
  · rw [Array.toList_push]
    by_cases hij : i = j
    · subst hij
      rw [hp] at hq
      obtain rfl := Option.some.inj hq
      exact ⟨_, List.mem_append_right _ (List.mem_singleton.2 rfl), rfl⟩
    · obtain ⟨e, he, hk⟩ := h3 i q hq (by unfold upd at hbi; rwa [if_neg hij] at hbi)
      exact ⟨e, List.mem_append_left _ he, hk⟩
  · show (w.heap.setIfInBounds g _)[k]? = _
    rw [Array.getElem?_setIfInBounds]
    simp [Ne.symm hk]
/-- a look-up -/
theorem run_look_step {w : World} {g : Nat} (what : Nat) (yes : Bool) (st : Nat) (hw : what < 256) (hs : st < 256) (hb : StepMap w g (fun _ => true)) :
    (Instr.lookup 54 (.map (some g)) (stepKey what yes st) true).run Try.prog w = .ok (.tuple #[.int .u8 (((Jp.step what yes st).getD 0 : Nat) : Int), .bool (Jp.step what yes st).isSome]) w := by
  obtain ⟨es, clock, h1, h2, h3⟩ := hb
  obtain ⟨l, hl⟩ := step_keyOf (yes := yes) hw hs
  have hc := step_law.check w (es.isEmpty) hl
  rcases step_law.find w hl es.toList (step_ok (fun e he => by obtain ⟨i, q, hq, _, hkq, _⟩ := h2 e he; exact ⟨q, List.mem_of_getElem? hq, hkq⟩)) with ⟨h4, h5⟩ | ⟨j, e0, h4, h5, h6⟩
  · have hn : Jp.step what yes st = none := by
      cases hst : Jp.step what yes st with
      | none => rfl
      | some s =>
        exfalso
        obtain ⟨i, hi⟩ := List.getElem?_of_mem (stepF_all hst)
        obtain ⟨e, he, hk⟩ := h3 i _ hi rfl
        exact h5 e he hk
    rw [hn]
    simp [Instr.lookup, run_underlying Try.underlying54, MapKept.run_getObj_map h1, hc, h4, zero_u8, Result.andThen]
  · obtain ⟨i, q, hq, _, hkq, hvq⟩ := h2 e0 (List.mem_of_getElem? h5)
    have hqf := (stepF_fine (List.mem_of_getElem? hq)).2.2
    rw [hkq, stepKey_eq] at h6
    obtain ⟨rfl, rfl, rfl⟩ := h6
    rw [hqf]
    simp [Instr.lookup, run_underlying Try.underlying54, MapKept.run_getObj_map h1, hc, h4, hvq, Result.andThen]
end Go.Proofs.Ytegmeodmjaijnaa
