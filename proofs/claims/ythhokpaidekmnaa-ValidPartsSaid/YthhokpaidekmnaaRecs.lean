/- A slice of structs that reads as a list of records, and how one that came in is opened. -/
import Derived.Test.YthhokpaidekmnaaOpen
import Derived.Deep.Slices
namespace Go.Proofs.Ythhokpaidekmnaa
open Go.ChangeShapes Go.WideShapes Go.ChangeAt Go.RowKit Go.Deep
set_option linter.unusedVariables false

/-- the slice '.slice A l.length c' reads as the records l, of s cells each (f: a record's cells); it lies below block B -/
def Recs {α : Type} (f : α → List Value) (s : Nat) (w : World) (B : Nat) (A : Option Addr) (l : List α) : Prop :=
 0 < l.length → ∃ b o, A = some ⟨b, o, none⟩ ∧ b < B ∧ ∀ (j : Nat) (a : α), l[j]? = some a → ∀ (i : Nat) (v : Value), (f a)[i]? = some v → w.cell? ⟨b, o + (j * s + i), none⟩ = some v
section
variable {α : Type} {f : α → List Value} {s : Nat} {w w' : World} {B B' : Nat} {A : Option Addr} {l : List α}
theorem Recs.nil : Recs f s w B A [] := fun h => absurd h (by simp)
theorem Recs.keep (h : Recs f s w B A l) (hk : ∀ b o, b < B → w'.cell? ⟨b, o, none⟩ = w.cell? ⟨b, o, none⟩) : Recs f s w' B A l := fun hn => by
 obtain ⟨b, o, hA, hb, hc⟩ := h hn
 exact ⟨b, o, hA, hb, fun j x hx i v hv => (hk b _ hb).trans (hc j x hx i v hv)⟩
theorem Recs.below (h : Recs f s w B A l) (hb : Below B w w') : Recs f s w' B A l := h.keep fun b o hbB => hb.cell (p := ⟨b, o, none⟩) hbB
theorem Recs.more (h : Recs f s w B A l) (hB : B ≤ B') : Recs f s w B' A l := fun hn => by
 obtain ⟨b, o, hA, hb, hc⟩ := h hn
 exact ⟨b, o, hA, by omega, hc⟩
theorem Recs.alloc (h : Recs f s w B A l) (hB : B ≤ w.heap.size) (o : Obj) : Recs f s (w.alloc o) B A l := h.below ((Below.refl _ _).alloc hB o)
theorem Recs.take (h : Recs f s w B A l) (n : Nat) : Recs f s w B A (l.take n) := fun hn => by
 obtain ⟨b, o, hA, hb, hc⟩ := h (by rw [List.length_take] at hn; omega)
 refine ⟨b, o, hA, hb, fun j x hx => hc j x ?_⟩
 rw [List.getElem?_take] at hx
 split at hx
 ·exact hx
 ·cases hx
/-- the cells of record number j -/
theorem Recs.at_ (h : Recs f s w B A l) {j : Nat} (hj : j < l.length) : ∃ b o a, A = some ⟨b, o, none⟩ ∧ b < B ∧ l[j]? = some a ∧ ∀ (i : Nat) (v : Value), (f a)[i]? = some v → w.cell? ⟨b, o + (j * s + i), none⟩ = some v := by
 obtain ⟨b, o, hA, hb, hc⟩ := h (by omega)
 exact ⟨b, o, l[j], hA, hb, List.getElem?_eq_getElem hj, hc j _ (List.getElem?_eq_getElem hj)⟩
end

theorem list_choose {α : Type} {R : Nat → α → Prop} : ∀ (n : Nat), (∀ i, i < n → ∃ a, R i a) → ∃ l : List α, l.length = n ∧ ∀ i a, l[i]? = some a → R i a
 | 0, _ => ⟨[], rfl, fun i a h => by simp at h⟩
 | n + 1, h => by
  obtain ⟨l, hl, hR⟩ := list_choose n (fun i hi => h i (by omega))
  obtain ⟨a, ha⟩ := h n (by omega)
  refine ⟨l ++ [a], by simp [hl], fun i b hb => ?_⟩
  rw [List.getElem?_append] at hb
  split at hb
  ·exact hR i b hb
  ·rename_i hge
   have : i = n := by
    rcases Nat.lt_or_ge (i - l.length) 1 with h1 | h1
    ·omega
    ·simp [List.getElem?_eq_none (show [a].length ≤ i - l.length by simpa using h1)] at hb
   subst this
   simp [hl] at hb
   exact hb ▸ ha

section
variable {H : Type} {enc : TypeId × Value → H} {P : Program} {w : World} {base b0 : Nat} {spare : Nat → Bool} {held : Bool} {r : Reach}
theorem open_recs {α : Type} (f : α → List Value) (Q : α → Prop) {t e : TypeId} {s fuel : Nat} {cs : List Value} {x : DataW H × List MemPlace} (ht : P.underlying t = some (.slice e)) (hs : P.cellsOf e = s) (hs0 : 0 < s)
  (hel : ∀ (n : Nat) (cs' : List Value) (y : DataW H × List MemPlace), DataW.trod enc P w base spare held n e cs' = some y → ∃ a, cs' = f a ∧ Q a)
  (h : DataW.trod enc P w base spare held fuel t cs = some x) :
  ∃ (A : Option Addr) (l : List α) (c : Nat), cs = [.slice A l.length c] ∧ Recs f s w w.heap.size A l ∧ (∀ a ∈ l, Q a) ∧ l.length ≤ c ∧ c ≤ 9223372036854775807 ∧ (A = none → c = 0) := by
 rcases open_slice ht h with ⟨rfl, _⟩ | ⟨a, len, cap, m, n, D, Pl, rfl, hb, hl, hm, hmm, hx, hi⟩
 ·exact ⟨none, [], 0, rfl, Recs.nil, by simp, Nat.le_refl _, by omega, fun _ => rfl⟩
 ·have hlm : len ≤ m := by rw [hmm]; split <;> omega
  obtain ⟨l, hll, hR⟩ := list_choose (R := fun i b => (∀ (k : Nat) (v : Value), (f b)[k]? = some v → w.cell? (a.add (i * s + k)) = some v) ∧ (f b).length = s ∧ Q b) len (fun i hil => by
   obtain ⟨cs', hc, hy⟩ := hi i (by omega)
   obtain ⟨b, rfl, hQ⟩ := hel n cs' _ hy
   obtain ⟨_, hcl, hat⟩ := World.cells?_some hc
   rw [hs] at hc hcl hat
   refine ⟨b, fun k v hk => ?_, hcl, hQ⟩
   have hks : k < s := by
    rcases Nat.lt_or_ge k (f b).length with h1 | h1
    ·omega
    ·rw [List.getElem?_eq_none h1] at hk; cases hk
   have := hat k hks
   rw [add_add] at this
   rw [this]; exact hk)
  refine ⟨some a, l, cap, by rw [hll], fun hn => ?_, fun b hb' => ?_, by omega, by unfold maxLen at hm; omega, by simp⟩
  ·obtain ⟨c0, hc0⟩ : ∃ c0, l[0]? = some c0 := ⟨l[0], List.getElem?_eq_getElem hn⟩
   obtain ⟨h1, h2, _⟩ := hR 0 c0 hc0
   obtain ⟨v0, hv0⟩ : ∃ v0, (f c0)[0]? = some v0 := ⟨(f c0)[0], List.getElem?_eq_getElem (by omega)⟩
   have hcell := h1 0 v0 hv0
   have hsp : a.spot = none := by have := World.cell?_spot hcell; simpa [Addr.add] using this
   obtain ⟨b, o, sp⟩ := a
   simp only at hsp
   subst hsp
   have hadd : ∀ j, (⟨b, o, none⟩ : Addr).add j = ⟨b, o + j, none⟩ := fun j => by unfold Addr.add; split <;> simp_all
   refine ⟨b, o, rfl, by have := block_lt_of_cell hcell; simpa [Addr.add] using this, fun j y hy i v hv => ?_⟩
   have := (hR j y hy).1 i v hv
   rw [hadd] at this
   exact this
  ·obtain ⟨i, hi', he⟩ := List.mem_iff_getElem.1 hb'
   exact (hR i b (by rw [List.getElem?_eq_getElem hi', he])).2.2
theorem okWide_slice_trod {α : Type} (f : α → List Value) (Q : α → Prop) {t e : TypeId} {s : Nat} {v : Value} {d : DataW H} {ps : List MemPlace} (ht : P.underlying t = some (.slice e)) (hs : P.cellsOf e = s) (hs0 : 0 < s)
  (hel : ∀ (n : Nat) (cs' : List Value) (y : DataW H × List MemPlace), DataW.trod enc P w base spare held n e cs' = some y → ∃ a, cs' = f a ∧ Q a)
  (hval : Value.okWide P w r b0 t v) (hd : DataW.Trod enc P w base spare held t v d ps) :
  ∃ (A : Option Addr) (l : List α) (c : Nat), v = .slice A l.length c ∧ Recs f s w w.heap.size A l ∧ (∀ a ∈ l, Q a) ∧ l.length ≤ c ∧ c ≤ 9223372036854775807 ∧ (A = none → c = 0) := by
 obtain ⟨a, len, cap, rfl⟩ := okWide_slice ht hval
 obtain ⟨fuel, hf⟩ := hd
 obtain ⟨A, l, c, hcs, r⟩ := open_recs f Q ht hs hs0 hel hf
 simp [Value.cells] at hcs
 obtain ⟨rfl, rfl, rfl⟩ := hcs
 exact ⟨a, l, cap, rfl, r⟩
/-- a number out of a cell -/
theorem trod_nat {k : IntKind} {t : TypeId} {n : Nat} {v : Value} {y : DataW H × List MemPlace} (hk : plainKind k = true) (ht : P.underlying t = some (.int k)) (h : DataW.trod enc P w base spare held n t [v] = some y) : ∃ a : Nat, v = .int k (a : Int) ∧ a < top k := by
 obtain ⟨a, hv, _, hw⟩ := DataW.trod_int ht h
 simp at hv
 have ha := nat_of_wf hk hw
 exact ⟨a.toNat, by rw [hv, Int.toNat_of_nonneg ha.1], by omega⟩
theorem trod_i64 {t : TypeId} {n : Nat} {v : Value} {y : DataW H × List MemPlace} (ht : P.underlying t = some (.int .i64)) (h : DataW.trod enc P w base spare held n t [v] = some y) : ∃ a : Int, v = .int .i64 a ∧ -9223372036854775808 ≤ a ∧ a ≤ 9223372036854775807 := by
 obtain ⟨a, hv, _, hw⟩ := DataW.trod_int ht h
 simp at hv
 simp [Lit.wf, IntKind.min, IntKind.max, IntKind.signed, IntKind.bits] at hw
 exact ⟨a, hv, by omega, by omega⟩
theorem trod_truth {t : TypeId} {n : Nat} {v : Value} {y : DataW H × List MemPlace} (ht : P.underlying t = some .bool) (h : DataW.trod enc P w base spare held n t [v] = some y) : ∃ b : Bool, v = .bool b := by
 obtain ⟨b, hv, _⟩ := DataW.trod_bool ht h
 simp at hv
 exact ⟨b, hv⟩
/-- the field of a struct's cells -/
theorem trod_field {t : TypeId} {fs : Array Field} {fuel : Nat} {cs : List Value} {x : DataW H × List MemPlace} (ht : P.underlying t = some (.struct fs)) (h : DataW.trod enc P w base spare held fuel t cs = some x) :
  cs.length = P.cellsOf t ∧ ∃ n, ∀ (i : Nat) (f : Field), fs[i]? = some f → ∃ y, DataW.trod enc P w base spare held n f.type ((cs.drop f.offset).take (P.cellsOf f.type)) = some y := by
 obtain ⟨xs, n, _, _, hl, hxl, hf⟩ := DataW.trod_struct ht h
 refine ⟨hl, n, fun i f hi => ?_⟩
 have hlt : i < xs.length := by rw [hxl]; exact (Array.getElem?_eq_some_iff.1 hi).1
 exact ⟨xs[i], by rw [hf i f hi, List.getElem?_eq_getElem hlt]⟩
end
end Go.Proofs.Ythhokpaidekmnaa
