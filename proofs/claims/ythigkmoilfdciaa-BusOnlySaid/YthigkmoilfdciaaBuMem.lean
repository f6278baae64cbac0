/- A bus in memory: its variable, its links, its map of what comes; what stays while it is written. -/
import Derived.Test.YthigkmoilfdciaaBuLaw
import Derived.Test.YthigkmoilfdciaaMapL
import Derived.Test.YthigkmoilfdciaaVarB
import Derived.Test.YthigkmoilfdciaaRowC
import Derived.Test.YthigkmoilfdciaaAppRN
import Derived.Test.YthigkmoilfdciaaBs
namespace Go.Proofs.Ythigkmoilfdciaa
open Go.RowKit
set_option linter.unusedVariables false
set_option linter.unusedSimpArgs false
/-- nothing that was there has changed but the blocks of F -/
structure Fr (F : List Nat) (w w' : World) : Prop where
  os : w'.os = w.os
  tape : w'.tape = w.tape
  output : w'.output = w.output
  size : w.heap.size ≤ w'.heap.size
  block : ∀ k, k < w.heap.size → k ∉ F → w'.heap[k]? = w.heap[k]?
section
variable {F F' : List Nat} {w w1 w2 w' : World} {B b e s n c : Nat} {A : Option Addr} {T : TypeId} {C xs : List Value}
theorem Fr.refl (F : List Nat) (w : World) : Fr F w w := ⟨rfl, rfl, rfl, Nat.le_refl _, fun _ _ _ => rfl⟩
theorem Fr.trans (h : Fr F w w1) (k : Fr F' w1 w2) (hF : ∀ b, b ∈ F' → b ∈ F ∨ w.heap.size ≤ b) : Fr F w w2 :=
  ⟨k.os.trans h.os, k.tape.trans h.tape, k.output.trans h.output, Nat.le_trans h.size k.size, fun i hi hF' => (k.block i (Nat.lt_of_lt_of_le hi h.size) (fun hm => by
    rcases hF i hm with h1 | h1
    · exact hF' h1
    · omega)).trans (h.block i hi hF')⟩
theorem Fr.of_below (F : List Nat) (h : Below w.heap.size w w') : Fr F w w' := ⟨h.os, h.tape, h.output, h.size, fun k hk _ => h.block k hk⟩
theorem Fr.of_only (h : Only b w w') (hb : b ∈ F) : Fr F w w' := ⟨h.os, h.tape, h.output, by rw [h.size]; exact Nat.le_refl _, fun k _ hF => h.block k (fun e => hF (e ▸ hb))⟩
theorem Fr.of_grown {row : Option Nat} (h : w.grownBy w' row) (hb : ∀ k, row = some k → k ∈ F) : Fr F w w' := ⟨h.os, h.tape, h.output, h.size, fun k hk hF => h.block k hk (fun e => hF (hb k e.symm))⟩
theorem Fr.more (h : Fr F w w') (hF : ∀ b, b ∈ F → b ∈ F' ∨ w.heap.size ≤ b) : Fr F' w w' := ⟨h.os, h.tape, h.output, h.size, fun k hk hk' => h.block k hk (fun hm => by
  rcases hF k hm with h1 | h1
  · exact hk' h1
  · omega)⟩
theorem Fr.below (h : Fr F w w') (hF : ∀ b, b ∈ F → B ≤ b) (hB : B ≤ w.heap.size) : Below B w w' := ⟨h.os, h.tape, h.output, h.size, fun k hk => h.block k (by omega) (fun hm => by have := hF k hm; omega)⟩
theorem Fr.row (h : Fr F w w') (hr : RowAt w b T C) (hb : b ∉ F) : RowAt w' b T C := (h.block b hr.lt hb).trans hr
theorem Fr.map {es : Array MapEntry} {clock : Nat} (h : Fr F w w') (hr : MapIs w b es clock) (hb : b ∉ F) : MapIs w' b es clock := (h.block b hr.lt hb).trans hr
theorem Fr.own (h : Fr F w w') (ho : w.ownsRow B e s (.slice A n c) n xs) (hb : ∀ p, A = some p → p.block ∉ F) : w'.ownsRow B e s (.slice A n c) n xs := by
  obtain ⟨h1, h2⟩ := ho
  refine ⟨h1, ?_⟩
  rcases h2 with h2 | ⟨g, cap, cur, hv, hg, hh, r⟩
  · exact .inl h2
  · have hA : A = some ⟨g, 0, none⟩ := by simp at hv; exact hv.1
    exact .inr ⟨g, cap, cur, hv, hg, (h.block g (Array.getElem?_eq_some_iff.1 hh).1 (hb _ hA)).trans hh, r⟩
theorem Fr.cell (h : Fr F w w') {p : Addr} (hp : p.block < w.heap.size) (hb : p.block ∉ F) : w'.cell? p = w.cell? p := World.cell?_of_block (h.block p.block hp hb)
end
/-- a parcel in memory: its bytes own, in a block -/
structure Pm where
  p : Par
  g : Nat
  c : Nat
abbrev pmV (s : Int) (up : Bool) (A : Option Addr) (n c : Nat) : List Value := [.int .i64 s, .bool up, .slice A n c]
abbrev pmF (x : Pm) : List Value := pmV x.p.s x.p.up (some ⟨x.g, 0, none⟩) x.p.b.length x.c
theorem pmF_length (x : Pm) : (pmF x).length = 3 := rfl
theorem pmF_one : ∀ (x : Pm) (u : Value), u ∈ pmF x → u.oneCell' = true := fun x u hu => by
  simp only [pmF, pmV, List.mem_cons, List.not_mem_nil, or_false] at hu
  rcases hu with rfl | rfl | rfl <;> rfl
/-- an entry of the map: when, which row -/
structure En where
  t : Nat
  g : Nat
  c : Nat
  l : List Pm
def En.k (e : En) : Value := .int .i64 (e.t : Int)
def En.v (e : En) : Value := .slice (some ⟨e.g, 0, none⟩) e.l.length e.c
def En.foot (e : En) : List Nat := e.g :: e.l.map Pm.g
def kvs (es : Array MapEntry) : List (Value × Value) := es.toList.map fun e => (e.key, e.val)
def enKV (E : List En) : List (Value × Value) := E.map fun e => (e.k, e.v)
/-- block gm is the map of these entries -/
def EnMap (w : World) (gm : Nat) (E : List En) : Prop := ∃ es clock, MapIs w gm es clock ∧ kvs es = enKV E
theorem EnMap.lt {w : World} {gm : Nat} {E : List En} (h : EnMap w gm E) : gm < w.heap.size := by obtain ⟨es, clock, h, _⟩ := h; exact h.lt
theorem enKV_key {es : Array MapEntry} {E : List En} (h : kvs es = enKV E) {x : MapEntry} (hx : x ∈ es.toList) : ∃ e ∈ E, x.key = e.k ∧ x.val = e.v := by
  have h1 : (x.key, x.val) ∈ enKV E := by rw [← h]; exact List.mem_map_of_mem hx
  obtain ⟨e, he, h2⟩ := List.mem_map.1 h1
  exact ⟨e, he, (congrArg Prod.fst h2).symm, (congrArg Prod.snd h2).symm⟩
theorem key_int (t : Int) : MapKept.IsKey (.int .i64) (.int .i64 t) := rfl
theorem en_find {es : Array MapEntry} {E : List En} (h : kvs es = enKV E) (t : Nat) :
    (Instr.findNow (.int .i64) (.int .i64 (t : Int)) es.toList 0 = some none ∧ ∀ e ∈ E, e.t ≠ t) ∨ ∃ j e x, Instr.findNow (.int .i64) (.int .i64 (t : Int)) es.toList 0 = some (some (j, e.v)) ∧ E[j]? = some e ∧ e.t = t ∧ es.toList[j]? = some x ∧ x.key = .int .i64 (t : Int) := by
  rcases MapKept.findNow_spec (d := .int .i64) (k := .int .i64 (t : Int)) rfl es.toList 0 (fun x hx => by obtain ⟨e, _, hk, _⟩ := enKV_key h hx; rw [hk]; rfl) with ⟨h1, h2⟩ | ⟨j, x, h1, h2, h3⟩
  · refine .inl ⟨h1, fun e he ht => ?_⟩
    have h4 : (e.k, e.v) ∈ kvs es := by rw [h]; exact List.mem_map_of_mem he
    obtain ⟨x, hx, h5⟩ := List.mem_map.1 h4
    refine h2 x hx ?_
    have := congrArg Prod.fst h5
    rw [show x.key = e.k from this, En.k, ht]
  · have h4 : (kvs es)[j]? = some (x.key, x.val) := by unfold kvs; rw [List.getElem?_map, h2]; rfl
    rw [h] at h4
    unfold enKV at h4
    rw [List.getElem?_map] at h4
    cases he : E[j]? with
    | none => rw [he] at h4; cases h4
    | some e =>
      rw [he] at h4
      have h5 := Option.some.inj h4
      have hk : e.k = x.key := congrArg Prod.fst h5
      have hv : e.v = x.val := congrArg Prod.snd h5
      refine .inr ⟨j, e, x, by rw [h1, Nat.zero_add, hv], he, ?_, h2, h3⟩
      rw [h3, En.k] at hk
      have : (e.t : Int) = (t : Int) := by simpa using hk
      omega
section
variable {w : World} {gm : Nat} {E : List En}
theorem zero_parcels (w : World) : (zeroValue 42).run Try.prog w = .ok (.slice none 0 0) w := by kernel_rfl
/-- a look-up -/
theorem run_look_en (h : EnMap w gm E) (t : Nat) : ∃ v, (Instr.lookup 60 (.map (some gm)) (.int .i64 (t : Int)) false).run Try.prog w = .ok v w ∧ ((v = .slice none 0 0 ∧ ∀ e ∈ E, e.t ≠ t) ∨ ∃ (j : Nat) (e : En), E[j]? = some e ∧ e.t = t ∧ v = e.v) := by
  obtain ⟨es, clock, h1, h2⟩ := h
  have hc : (Instr.checkKey es.isEmpty 10000 3 (.int .i64 (t : Int))).run Try.prog w = .ok () w := MapKept.run_checkKey Try.underlying3 (key_int _) _ 9999
  rcases en_find h2 t with ⟨hf, hno⟩ | ⟨j, e, x, hf, he, ht, _, _⟩
  · exact ⟨_, by simp [Instr.lookup, run_underlying Try.underlying60, MapKept.run_getObj_map h1, hc, MapKept.run_findKey Try.underlying3 hf, zero_parcels, Result.andThen], .inl ⟨rfl, hno⟩⟩
  · exact ⟨_, by simp [Instr.lookup, run_underlying Try.underlying60, MapKept.run_getObj_map h1, hc, MapKept.run_findKey Try.underlying3 hf, Result.andThen], .inr ⟨j, e, he, ht, rfl⟩⟩
theorem setMap_only (w : World) (gm : Nat) (o : Obj) : Only gm w { w with heap := w.heap.setIfInBounds gm o } := ⟨rfl, rfl, rfl, by simp, fun k hk => by
  show (w.heap.setIfInBounds gm _)[k]? = _
  rw [Array.getElem?_setIfInBounds]
  simp [Ne.symm hk]⟩
/-- a new key -/
theorem run_put_new (h : EnMap w gm E) (e : En) (hno : ∀ x ∈ E, x.t ≠ e.t) : ∃ w', (Instr.mapUpdate 60 (.map (some gm)) e.k e.v).run Try.prog w = .ok () w' ∧ EnMap w' gm (E ++ [e]) ∧ Only gm w w' := by
  obtain ⟨es, clock, h1, h2⟩ := h
  have hc : (Instr.checkKey false 10000 3 (.int .i64 (e.t : Int))).run Try.prog w = .ok () w := MapKept.run_checkKey Try.underlying3 (key_int _) _ 9999
  rcases en_find h2 e.t with ⟨hf, _⟩ | ⟨j, x, _, _, hx, ht, _, _⟩
  · refine ⟨{ w with heap := w.heap.setIfInBounds gm (.map (es.push { key := e.k, val := e.v, born := clock }) (clock + 1)) }, by simp [En.k, Instr.mapUpdate, run_underlying Try.underlying60, MapKept.run_getObj_map h1, hc, MapKept.run_findKey Try.underlying3 hf, MapKept.run_setObj_map _ h1, Result.andThen], ⟨es.push { key := e.k, val := e.v, born := clock }, clock + 1, ?_, ?_⟩, setMap_only _ _ _⟩
    · show (w.heap.setIfInBounds gm _)[gm]? = _
      simp [h1.lt]
    · unfold kvs enKV at *
      rw [Array.toList_push, List.map_append, h2, List.map_append]
      rfl
  · exact absurd ht (hno x (List.mem_of_getElem? hx))
/-- a key that is there -/
theorem run_put_old (h : EnMap w gm E) {j : Nat} {e0 e : En} (he : E[j]? = some e0) (ht : e0.t = e.t) (hn : (E.map En.t).Nodup) : ∃ w', (Instr.mapUpdate 60 (.map (some gm)) e.k e.v).run Try.prog w = .ok () w' ∧ EnMap w' gm (E.set j e) ∧ Only gm w w' := by
  obtain ⟨es, clock, h1, h2⟩ := h
  have hc : (Instr.checkKey false 10000 3 (.int .i64 (e.t : Int))).run Try.prog w = .ok () w := MapKept.run_checkKey Try.underlying3 (key_int _) _ 9999
  rcases en_find h2 e.t with ⟨_, hno⟩ | ⟨i, x, y, hf, hx, hxt, hy, hyk⟩
  · exact absurd ht (hno e0 (List.mem_of_getElem? he))
  · have hij : i = j := by
      have hi : i < (E.map En.t).length := by have := (List.getElem?_eq_some_iff.1 hx).1; simpa using this
      refine (List.getElem?_inj hi hn).1 ?_
      rw [List.getElem?_map, List.getElem?_map, hx, he]
      show some x.t = some e0.t
      rw [hxt, ht]
    subst hij
    have hi2 : i < es.size := by have := (List.getElem?_eq_some_iff.1 hy).1; simpa using this
    have hy' : es[i]? = some y := by rw [← Array.getElem?_toList]; exact hy
    refine ⟨{ w with heap := w.heap.setIfInBounds gm (.map (es.modify i fun x => { x with key := .int .i64 (e.t : Int), val := e.v }) clock) }, by simp [En.k, Instr.mapUpdate, run_underlying Try.underlying60, MapKept.run_getObj_map h1, hc, MapKept.run_findKey Try.underlying3 hf, hy', hyk, MapKept.run_keyThatStays (d := .int .i64) (k := .int .i64 (e.t : Int)) rfl, MapKept.run_setObj_map _ h1, Result.andThen], ⟨es.modify i fun x => { x with key := .int .i64 (e.t : Int), val := e.v }, clock, ?_, ?_⟩, setMap_only _ _ _⟩
    · show (w.heap.setIfInBounds gm _)[gm]? = _
      simp [h1.lt]
    · unfold kvs enKV at *
      apply List.ext_getElem?
      intro k
      have h3 := congrArg (fun l : List (Value × Value) => l[k]?) h2
      simp only [List.getElem?_map] at h3 ⊢
      rw [Array.getElem?_toList, Array.getElem?_modify, List.getElem?_set]
      by_cases hk : i = k
      · subst hk
        have hil : i < E.length := (List.getElem?_eq_some_iff.1 hx).1
        rw [if_pos rfl, if_pos rfl, if_pos hil, hy']
        rfl
      · rw [if_neg hk, if_neg hk, ← Array.getElem?_toList]
        exact h3
theorem map_eraseIdx' {α β : Type} (f : α → β) : ∀ (l : List α) (i : Nat), (l.eraseIdx i).map f = (l.map f).eraseIdx i
  | [], i => by simp
  | a :: l, 0 => rfl
  | a :: l, i + 1 => by rw [List.eraseIdx_cons_succ, List.map_cons, List.map_cons, List.eraseIdx_cons_succ, map_eraseIdx' f l i]
/-- a key is struck -/
theorem run_drop_en (h : EnMap w gm E) (t : Nat) (hn : (E.map En.t).Nodup) (ty : TypeId) : ∃ w', (Builtin.delete_ #[60, 3] ty #[.map (some gm), .int .i64 (t : Int)]).run Try.prog w = .ok (.tuple #[]) w' ∧ EnMap w' gm (E.filter fun e => decide (e.t ≠ t)) ∧ Only gm w w' := by
  obtain ⟨es, clock, h1, h2⟩ := h
  have hc : ∀ q, (Instr.checkKey q 10000 3 (.int .i64 (t : Int))).run Try.prog w = .ok () w := fun q => MapKept.run_checkKey Try.underlying3 (key_int _) _ 9999
  rcases en_find h2 t with ⟨hf, hno⟩ | ⟨i, x, y, hf, hx, hxt, hy, hyk⟩
  · refine ⟨{ w with heap := w.heap.setIfInBounds gm (.map es clock) }, by simp [Builtin.delete_, run_underlying Try.underlying60, MapKept.run_getObj_map h1, hc, MapKept.run_findKey Try.underlying3 hf, MapKept.run_setObj_map _ h1, Result.andThen], ⟨es, clock, ?_, ?_⟩, setMap_only _ _ _⟩
    · show (w.heap.setIfInBounds gm _)[gm]? = _
      simp [h1.lt]
    · rw [h2]
      congr 1
      exact (List.filter_eq_self.2 (fun e he => by simpa using hno e he)).symm
  · have hi2 : i < es.size := by have := (List.getElem?_eq_some_iff.1 hy).1; simpa using this
    refine ⟨{ w with heap := w.heap.setIfInBounds gm (.map (es.eraseIdxIfInBounds i) clock) }, by simp [Builtin.delete_, run_underlying Try.underlying60, MapKept.run_getObj_map h1, hc, MapKept.run_findKey Try.underlying3 hf, MapKept.run_setObj_map _ h1, Result.andThen], ⟨es.eraseIdxIfInBounds i, clock, ?_, ?_⟩, setMap_only _ _ _⟩
    · show (w.heap.setIfInBounds gm _)[gm]? = _
      simp [h1.lt]
    · have hE : (E.filter fun e => decide (e.t ≠ t)) = E.eraseIdx i := by
        have key : ∀ (E : List En) (i : Nat) (x : En), E[i]? = some x → x.t = t → (E.map En.t).Nodup → (E.filter fun e => decide (e.t ≠ t)) = E.eraseIdx i := by
          intro E
          induction E with
          | nil => intro i x h; cases h
          | cons a E ih =>
            intro i x hx hxt hn
            rw [List.map_cons, List.nodup_cons] at hn
            cases i with
            | zero =>
              obtain rfl : a = x := by simpa using hx
              rw [List.filter_cons_of_neg (by simp [hxt])]
              rw [List.eraseIdx_zero, List.tail_cons]
              refine List.filter_eq_self.2 (fun e he => ?_)
              have : e.t ≠ a.t := fun h => hn.1 (by rw [← h]; exact List.mem_map_of_mem he)
              simp only [decide_eq_true_eq]
              omega
            | succ i =>
              have hx' : E[i]? = some x := by simpa using hx
              have : a.t ≠ t := fun h => hn.1 (by rw [h, ← hxt]; exact List.mem_map_of_mem (List.mem_of_getElem? hx'))
              rw [List.filter_cons_of_pos (by simpa using this), List.eraseIdx_cons_succ, ih i x hx' hxt hn.2]
        exact key E i x hx hxt hn
      rw [hE]
      unfold kvs enKV at *
      unfold Array.eraseIdxIfInBounds
      rw [dif_pos hi2, Array.toList_eraseIdx, map_eraseIdx', map_eraseIdx', h2]
end
end Go.Proofs.Ythigkmoilfdciaa
