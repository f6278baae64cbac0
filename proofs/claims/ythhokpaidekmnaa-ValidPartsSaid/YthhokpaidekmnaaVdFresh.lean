/- Layer 15: valid.fresh: which keys have been met. -/
import Derived.Test.YthhokpaidekmnaaVdRcp
namespace Go.Proofs.Ythhokpaidekmnaa
open Go.RowKit
set_option linter.unusedVariables false
set_option linter.unusedSimpArgs false
set_option maxRecDepth 100000
attribute [local go_sem] Later.cell Later.frozen setCell_twice
/-- nothing that was there has changed but block g -/
structure Fr1 (g : Nat) (w w' : World) : Prop where
 os : w'.os = w.os
 tape : w'.tape = w.tape
 output : w'.output = w.output
 size : w.heap.size ≤ w'.heap.size
 block : ∀ k, k < w.heap.size → k ≠ g → w'.heap[k]? = w.heap[k]?
theorem Fr1.below {g B : Nat} {w w' : World} (h : Fr1 g w w') (hg : B ≤ g) (hB : B ≤ w.heap.size) : Below B w w' := ⟨h.os, h.tape, h.output, h.size, fun k hk => h.block k (by omega) (by omega)⟩
theorem Fr1.cell {g : Nat} {w w' : World} (h : Fr1 g w w') {p : Addr} (hp : p.block < w.heap.size) (hg : p.block ≠ g) : w'.cell? p = w.cell? p := World.cell?_of_block (h.block p.block hp hg)
theorem Fr1.frozen {g : Nat} {w w' : World} (h : Fr1 g w w') {p : Addr} (hp : p.block < w.heap.size) (hg : p.block ≠ g) : w'.frozen? p = w.frozen? p := World.frozen?_of_block (h.block p.block hp hg)
/-- the entries of a map of what was met -/
structure Ents {α : Type} (kf : α → Value) (es : Array MapEntry) (l : List α) : Prop where
 of : ∀ e ∈ es.toList, ∃ a ∈ l, e.key = kf a ∧ e.val = .agg #[]
 has : ∀ a ∈ l, ∃ e ∈ es.toList, e.key = kf a
theorem Ents.nil {α : Type} (kf : α → Value) : Ents kf #[] ([] : List α) := ⟨fun e he => by simp at he, fun a ha => by cases ha⟩
/-- block gm is the map of what was met -/
def MetM {α : Type} (kf : α → Value) (w : World) (gm : Nat) (l : List α) : Prop := ∃ es clock, MapIs w gm es clock ∧ Ents kf es l
theorem MetM.lt {α : Type} {kf : α → Value} {w : World} {gm : Nat} {l : List α} (h : MetM kf w gm l) : gm < w.heap.size := by
 obtain ⟨es, c, h, _⟩ := h
 exact h.lt
theorem MetM.to {α : Type} {kf : α → Value} {w w' : World} {gm : Nat} {l : List α} (h : MetM kf w gm l) (hb : Below w.heap.size w w') : MetM kf w' gm l := by
 obtain ⟨es, c, h, k⟩ := h
 exact ⟨es, c, h.to hb, k⟩
theorem MetM.off {α : Type} {kf : α → Value} {w w' : World} {gm g : Nat} {l : List α} (h : MetM kf w gm l) (hb : Fr1 g w w') (hg : gm ≠ g) : MetM kf w' gm l := by
 obtain ⟨es, c, h, k⟩ := h
 exact ⟨es, c, (hb.block gm h.lt hg).trans h, k⟩
section
variable {α : Type} {kf : α → Value} {P : Program} {w : World} {gm : Nat} {l : List α} {d : TypeDesc} {t kt et : TypeId}
theorem met_found (hinj : ∀ a b, kf a = kf b → a = b) (hkey : ∀ a, MapKept.IsKey d (kf a)) {es : Array MapEntry} (h : Ents kf es l) (k : α) :
  (k ∈ l ∧ ∃ (j : Nat) (e : MapEntry), Instr.findNow d (kf k) es.toList 0 = some (some (j, .agg #[])) ∧ es[j]? = some e ∧ e.key = kf k ∧ e.val = .agg #[]) ∨ (k ∉ l ∧ Instr.findNow d (kf k) es.toList 0 = some none) := by
 rcases MapKept.findNow_spec (d := d) (k := kf k) (hkey k) es.toList 0 (fun e he => by obtain ⟨a, _, hk, _⟩ := h.of e he; rw [hk]; exact hkey a) with ⟨h1, h2⟩ | ⟨j, e, h1, h2, h3⟩
 ·refine .inr ⟨fun hm => ?_, h1⟩
  obtain ⟨e, he, hk⟩ := h.has k hm
  exact h2 e he hk
 ·obtain ⟨a, ha, hk, hv⟩ := h.of e (List.mem_of_getElem? h2)
  have : a = k := hinj _ _ (hk.symm.trans h3)
  subst this
  exact .inl ⟨ha, j, e, by rw [h1, hv]; simp, by simpa using h2, hk, hv⟩
theorem met_look (hinj : ∀ a b, kf a = kf b → a = b) (hkey : ∀ a, MapKept.IsKey d (kf a)) (ht : P.underlying t = some (.map kt et)) (hk : P.underlying kt = some d) (hz : ∀ w, (zeroValue et).run P w = .ok (.agg #[]) w) (h : MetM kf w gm l) (k : α) (b : Bool) (hb : (b = true ↔ k ∈ l)) :
  (Instr.lookup t (.map (some gm)) (kf k) true).run P w = .ok (.tuple #[.agg #[], .bool b]) w := by
 obtain ⟨es, c, hM, hE⟩ := h
 refine run_look_key t kt et d (kf k) ht hk (hkey k) hM _ _ ?_
 rcases met_found hinj hkey hE k with ⟨hm, j, e, h1, _⟩ | ⟨hm, h1⟩
 ·exact .inl ⟨j, h1, hb.2 hm⟩
 ·refine .inr ⟨h1, hz w, ?_⟩
  cases b
  ·rfl
  ·exact absurd (hb.1 rfl) hm
theorem met_update (hinj : ∀ a b, kf a = kf b → a = b) (hkey : ∀ a, MapKept.IsKey d (kf a)) (ht : P.underlying t = some (.map kt et)) (hk : P.underlying kt = some d) (h : MetM kf w gm l) (k : α) :
  ∃ w', (Instr.mapUpdate t (.map (some gm)) (kf k) (.agg #[])).run P w = .ok () w' ∧ MetM kf w' gm (k :: l) ∧ Fr1 gm w w' := by
 obtain ⟨es, c, hM, hE⟩ := h
 have hfr : ∀ o : Obj, Fr1 gm w { w with heap := w.heap.setIfInBounds gm o } := fun o => ⟨rfl, rfl, rfl, by simp, fun i _ hg => by
  show (w.heap.setIfInBounds gm _)[i]? = _
  rw [Array.getElem?_setIfInBounds]
  simp [Ne.symm hg]⟩
 have hmp : ∀ (es' : Array MapEntry) (c' : Nat), MapIs { w with heap := w.heap.setIfInBounds gm (.map es' c') } gm es' c' := fun es' c' => by
  show (w.heap.setIfInBounds gm _)[gm]? = _
  simp [hM.lt]
 rcases met_found hinj hkey hE k with ⟨hm, j, e, h1, h2, h3, h4⟩ | ⟨hm, h1⟩
 ·refine ⟨_, ?_, ⟨_, _, hmp (es.modify j fun e => { e with key := kf k, val := .agg #[] }) c, ?_⟩, hfr _⟩
  ·have hc : (Instr.checkKey false 10000 kt (kf k)).run P w = .ok () w := MapKept.run_checkKey hk (hkey k) false 9999
   simp [Instr.mapUpdate, run_underlying ht, MapKept.run_getObj_map hM, hc, MapKept.run_findKey hk h1, h2, h3, MapKept.run_keyThatStays (hkey k), MapKept.run_setObj_map _ hM, Result.andThen]
  ·constructor
   ·intro x hx
    obtain ⟨i, hi, rfl⟩ := List.mem_iff_getElem.1 hx
    have hi2 : i < es.size := by simpa using hi
    simp only [Array.getElem_toList, Array.getElem_modify]
    split
    ·exact ⟨k, .head _, rfl, rfl⟩
    ·obtain ⟨a, ha, hb⟩ := hE.of es[i] (Array.mem_toList_iff.2 (Array.getElem_mem hi2))
     exact ⟨a, .tail _ ha, hb⟩
   ·have key : ∀ a ∈ l, ∃ x ∈ (es.modify j fun e => { e with key := kf k, val := .agg #[] }).toList, x.key = kf a := by
     intro a ha
     obtain ⟨x, hx, hxk⟩ := hE.has a ha
     obtain ⟨i, hi, rfl⟩ := List.mem_iff_getElem.1 hx
     refine ⟨(es.modify j fun e => { e with key := kf k, val := .agg #[] })[i]'(by simpa using hi), Array.mem_toList_iff.2 (Array.getElem_mem _), ?_⟩
     rw [Array.getElem_modify]
     split
     ·rename_i hij
      subst hij
      rw [Array.getElem?_eq_getElem (by simpa using hi)] at h2
      have := Option.some.inj h2
      simp only [Array.getElem_toList] at hxk
      rw [← hxk, this, h3]
     ·simpa using hxk
    intro a ha
    rcases List.mem_cons.1 ha with rfl | ha
    ·exact key _ hm
    ·exact key a ha
 ·refine ⟨_, run_insert_key t kt et d (kf k) (.agg #[]) ht hk (hkey k) h1 hM, ⟨_, _, hmp _ _, ?_⟩, hfr _⟩
  constructor
  ·intro x hx
   simp only [Array.toList_push, List.mem_append, List.mem_singleton] at hx
   rcases hx with hx | rfl
   ·obtain ⟨a, ha, hb⟩ := hE.of x hx
    exact ⟨a, .tail _ ha, hb⟩
   ·exact ⟨k, .head _, rfl, rfl⟩
  ·intro a ha
   rcases List.mem_cons.1 ha with rfl | ha
   ·exact ⟨_, by rw [Array.toList_push]; exact List.mem_append_right _ (.head _), rfl⟩
   ·obtain ⟨x, hx, hk⟩ := hE.has a ha
    exact ⟨x, by rw [Array.toList_push]; exact List.mem_append_left _ hx, hk⟩
end
theorem wpList_update_run {P : Program} {w w' : World} {ops : Array Oper} {rest : List Oper} {o : Oper} {a : Act} {Q : Exit → Act → World → Prop} (hgd : o.guard = none) (t : TypeId) (m x y : Operand) (ho : o.op = .mapUpdate t m x y)
  (g : Nat) (key v : Value) (hm : a.eval m = .map (some g)) (hx : a.eval x = key) (hy : a.eval y = v) (hrun : (Instr.mapUpdate t (.map (some g)) key v).run P w = .ok () w')
  (h : wpList P ops Q rest (a.put o.dst undef) w') : wpList P ops Q (o :: rest) a w := by
 refine wpList_plain hgd fun K' hK' => ?_
 unfold Oper.wp
 simp [execOp, ho, hm, hx, hy, hrun, Result.andThen]
 exact hK' _ _ h
abbrev skf : ByteArray → Value := Value.string
abbrev ikf : Int → Value := Value.int .i64
/-- what fresh answers: a variable gv that holds the map gm -/
abbrev frS (gv : Nat) : Value := .func (.func 45) #[] #[.pointer (some ⟨gv, 0, none⟩)]
abbrev frI (gv : Nat) : Value := .func (.func 56) #[] #[.pointer (some ⟨gv, 0, none⟩)]
/-- the variable and its map -/
structure MetV {α : Type} (kf : α → Value) (w : World) (gv gm : Nat) (l : List α) : Prop where
 v : w.cell? ⟨gv, 0, none⟩ = some (.map (some gm))
 z : w.frozen? ⟨gv, 0, none⟩ = false
 m : MetM kf w gm l
 lt : gv < w.heap.size
 ne : gv ≠ gm
theorem MetV.to {α : Type} {kf : α → Value} {w w' : World} {gv gm : Nat} {l : List α} (h : MetV kf w gv gm l) (hb : Below w.heap.size w w') : MetV kf w' gv gm l :=
 ⟨(hb.cell (p := ⟨gv, 0, none⟩) h.lt).trans h.v, (hb.frozen (p := ⟨gv, 0, none⟩) h.lt).trans h.z, h.m.to hb, Nat.lt_of_lt_of_le h.lt hb.size, h.ne⟩
theorem MetV.off {α : Type} {kf : α → Value} {w w' : World} {gv gm g : Nat} {l : List α} (h : MetV kf w gv gm l) (hb : Fr1 g w w') (h1 : gm ≠ g) (h2 : gv ≠ g) : MetV kf w' gv gm l :=
 ⟨(hb.cell (p := ⟨gv, 0, none⟩) h.lt h2).trans h.v, (hb.frozen (p := ⟨gv, 0, none⟩) h.lt h2).trans h.z, h.m.off hb h1, Nat.lt_of_lt_of_le h.lt hb.size, h.ne⟩
/-- fresh's own post -/
def FrP {α : Type} (kf : α → Value) (fv : Nat → Value) (w : World) (e : Ending) (w' : World) : Prop :=
 ∃ gv gm, e = .returned (fv gv) ∧ MetV kf w' gv gm ([] : List α) ∧ w.heap.size ≤ gv ∧ w.heap.size ≤ gm ∧ Below w.heap.size w w'
theorem fresh_s (w : World) : Calls Try.prog 30 #[] w (FrP skf frS w) := by
 have hmm := @run_makeMap Try.prog
 go_enter Try.func30, Try.ntmps30
 go_wp2
 go_ret
 exact ⟨w.heap.size + 1, w.heap.size, rfl, ⟨by simp [go_sem], by simp [go_sem], ⟨#[], 0, (MapIs.new w w.heap.size rfl).to (bel_alloc (Below.refl _ _) _), Ents.nil _⟩, by simp, by omega⟩, by omega, by omega, belo⟩
theorem fresh_i (w : World) : Calls Try.prog 47 #[] w (FrP ikf frI w) := by
 have hmm := @run_makeMap Try.prog
 go_enter Try.func47, Try.ntmps47
 go_wp2
 go_ret
 exact ⟨w.heap.size + 1, w.heap.size, rfl, ⟨by simp [go_sem], by simp [go_sem], ⟨#[], 0, (MapIs.new w w.heap.size rfl).to (bel_alloc (Below.refl _ _) _), Ents.nil _⟩, by simp, by omega⟩, by omega, by omega, belo⟩
/-- what a key's question leaves -/
def AskP {α : Type} (kf : α → Value) (W : World) (gv gm : Nat) (l : List α) (k : α) (b : Bool) (e : Ending) (w' : World) : Prop :=
 e = .returned (.bool b) ∧ MetV kf w' gv gm (k :: l) ∧ Fr1 gm W w'
theorem skf_inj : ∀ a b, skf a = skf b → a = b := fun a b h => by simpa [skf] using h
theorem ikf_inj : ∀ a b, ikf a = ikf b → a = b := fun a b h => by simpa [ikf] using h
theorem zero_st (w : World) : (zeroValue 82).run Try.prog w = .ok (.agg #[]) w := by kernel_rfl
theorem Fr1.of_below {g : Nat} {w w' : World} (h : Below w.heap.size w w') : Fr1 g w w' := ⟨h.os, h.tape, h.output, h.size, fun k hk _ => h.block k hk⟩
theorem Fr1.trans {g : Nat} {a b c : World} (h : Fr1 g a b) (k : Fr1 g b c) : Fr1 g a c := ⟨k.os.trans h.os, k.tape.trans h.tape, k.output.trans h.output, Nat.le_trans h.size k.size, fun i hi hg => (k.block i (Nat.lt_of_lt_of_le hi h.size) hg).trans (h.block i hi hg)⟩
theorem ask_s (k : ByteArray) (W : World) (gv gm : Nat) (l : List ByteArray) (b : Bool) (hb : b = true ↔ k ∉ l) (h : MetV skf W gv gm l) :
  Calls Try.prog 45 #[.string k, .pointer (some ⟨gv, 0, none⟩)] W (AskP skf W gv gm l k b) := by
 have hgv := h.lt
 have c0 := h.v
 have z0 := h.z
 have HH := Lib.hid h
 obtain ⟨w9, r9, m9, f9⟩ := met_update (P := Try.prog) (t := 81) (d := .string) skf_inj (fun _ => trivial) Try.underlying81 Try.underlying9 (h.m.to (bel_alloc (Below.refl _ _) (.cells #[] 82))) k
 have F9 := Lib.hid ((Fr1.of_below (bel_alloc (Below.refl W.heap.size W) (.cells #[] 82))).trans f9)
 have M9 := Lib.hid m9
 have R9 := Lib.hid r9
 have c9 : w9.cell? ⟨gv, 0, none⟩ = some (.map (some gm)) := (F9.out.cell (p := ⟨gv, 0, none⟩) hgv h.ne).trans h.v
 have z9 : w9.frozen? ⟨gv, 0, none⟩ = false := (F9.out.frozen (p := ⟨gv, 0, none⟩) hgv h.ne).trans h.z
 have L := Lib.hid (met_look (P := Try.prog) (t := 81) (d := .string) skf_inj (fun _ => trivial) Try.underlying81 Try.underlying9 zero_st h.m k (!b) (by
  cases b
  ·simpa using hb
  ·simpa using hb))
 clear h hb m9 f9 r9
 go_enter Try.func45, Try.ntmps45
 go_wp2_with (first | (refine wpList_look rfl 81 (.tmp 7) (.tmp 8) rfl gm (.string k) (.agg #[]) (!b) rfl rfl L.out ?_) | (refine wpList_update_run rfl 81 (.tmp 12) (.tmp 13) (.tmp 14) rfl gm (.string k) (.agg #[]) rfl rfl rfl R9.out ?_))
 go_ret
 exact ⟨rfl, ⟨c9, z9, M9.out, Nat.lt_of_lt_of_le hgv F9.out.size, HH.out.ne⟩, F9.out⟩
theorem ask_i (k : Int) (W : World) (gv gm : Nat) (l : List Int) (b : Bool) (hb : b = true ↔ k ∉ l) (h : MetV ikf W gv gm l) :
  Calls Try.prog 56 #[.int .i64 k, .pointer (some ⟨gv, 0, none⟩)] W (AskP ikf W gv gm l k b) := by
 have hgv := h.lt
 have c0 := h.v
 have z0 := h.z
 have HH := Lib.hid h
 obtain ⟨w9, r9, m9, f9⟩ := met_update (P := Try.prog) (t := 94) (d := (.int .i64)) ikf_inj (fun _ => rfl) Try.underlying94 Try.underlying3 (h.m.to (bel_alloc (Below.refl _ _) (.cells #[] 82))) k
 have F9 := Lib.hid ((Fr1.of_below (bel_alloc (Below.refl W.heap.size W) (.cells #[] 82))).trans f9)
 have M9 := Lib.hid m9
 have R9 := Lib.hid r9
 have c9 : w9.cell? ⟨gv, 0, none⟩ = some (.map (some gm)) := (F9.out.cell (p := ⟨gv, 0, none⟩) hgv h.ne).trans h.v
 have z9 : w9.frozen? ⟨gv, 0, none⟩ = false := (F9.out.frozen (p := ⟨gv, 0, none⟩) hgv h.ne).trans h.z
 have L := Lib.hid (met_look (P := Try.prog) (t := 94) (d := (.int .i64)) ikf_inj (fun _ => rfl) Try.underlying94 Try.underlying3 zero_st h.m k (!b) (by
  cases b
  ·simpa using hb
  ·simpa using hb))
 clear h hb m9 f9 r9
 go_enter Try.func56, Try.ntmps56
 go_wp2_with (first | (refine wpList_look rfl 94 (.tmp 7) (.tmp 8) rfl gm (.int .i64 k) (.agg #[]) (!b) rfl rfl L.out ?_) | (refine wpList_update_run rfl 94 (.tmp 12) (.tmp 13) (.tmp 14) rfl gm (.int .i64 k) (.agg #[]) rfl rfl rfl R9.out ?_))
 go_ret
 exact ⟨rfl, ⟨c9, z9, M9.out, Nat.lt_of_lt_of_le hgv F9.out.size, HH.out.ne⟩, F9.out⟩
end Go.Proofs.Ythhokpaidekmnaa
