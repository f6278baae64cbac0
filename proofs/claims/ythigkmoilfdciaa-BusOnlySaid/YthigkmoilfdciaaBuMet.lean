/- Layer 11: all that was sent, in memory; the closure that takes what came. -/
import Derived.Test.YthigkmoilfdciaaBuOnLaw
import Derived.Test.YthigkmoilfdciaaBuRfS
namespace Go.Proofs.Ythigkmoilfdciaa
open Go.RowKit
set_option linter.unusedVariables false
set_option linter.unusedSimpArgs false
attribute [local go_sem] Later.cell Later.frozen setCell_twice
theorem heap_set_same' (w : World) (g i : Nat) (cs : Array Value) (t : TypeId) (u : Value) (h : w.heap[g]? = some (.cells cs t (0, 0))) : (w.setCell ⟨g, i, none⟩ u).heap[g]? = some (.cells (cs.setIfInBounds i u) t (0, 0)) := by
  have h1 : RowAt w g t cs.toList := by unfold RowAt; rw [h]
  have h2 := h1.set i u
  unfold RowAt at h2
  rw [h2]
  congr 1
  congr 1
  apply Array.ext'
  simp
theorem own_setW {w : World} {base e s g n c : Nat} {xs : List Value} (h : w.ownsRow base e s (.slice (some ⟨g, 0, none⟩) n c) n xs) {i : Nat} (hi : i < xs.length) (u : Value) : (w.setCell ⟨g, i, none⟩ u).ownsRow base e s (.slice (some ⟨g, 0, none⟩) n c) n (xs.set i u) := by
  obtain ⟨h1, h2⟩ := h
  refine ⟨by simpa using h1, ?_⟩
  rcases h2 with ⟨h, _⟩ | ⟨g', cap, cur, hv, hb, hh, h3, h4, h5, h6⟩
  · cases h
  obtain ⟨rfl, rfl⟩ : g = g' ∧ c = cap := by simpa using hv
  have hs := heap_set_same' w g i cur e u hh
  refine .inr ⟨g, c, _, rfl, hb, hs, h3, h4, by simpa using h5, ?_⟩
  rw [← h6]
  simp [List.take_set]
theorem flat_set (i : Nat) (v : Value) (y : Snt) (hi : i < 11) : ∀ (S : List Snt) (j : Nat) (x : Snt), S[j]? = some x → (sntF x).set i v = sntF y → (S.flatMap sntF).set (j * 11 + i) v = (S.set j y).flatMap sntF
  | [], j, x, h, _ => by simp at h
  | a :: S, 0, x, h, e => by
    obtain rfl : a = x := by simpa using h
    rw [List.set_cons_zero, List.flatMap_cons, List.flatMap_cons, Nat.zero_mul, Nat.zero_add, List.set_append_left _ _ (by simpa using hi), e]
  | a :: S, j + 1, x, h, e => by
    have ih := flat_set i v y hi S j x (by simpa using h) e
    rw [List.set_cons_succ, List.flatMap_cons, List.flatMap_cons, List.set_append_right _ _ (by simp; omega), show (j + 1) * 11 + i - (sntF a).length = j * 11 + i by simp; omega, ih]
/-- all that was sent: a variable, an own row, each one's bytes a row of its own -/
structure Alls (w : World) (B gL : Nat) (A : Option Addr) (n c : Nat) (S : List Snt) : Prop where
  var : RowAt w gL 52 [.slice A n c]
  len : S.length = n
  own : w.ownsRow B 56 11 (.slice A n c) n (S.flatMap sntF)
  byt : ∀ x ∈ S, w.ownsRow B 5 1 (.slice x.p.A x.p.p.b.length x.p.c) x.p.p.b.length (x.p.p.b.map byw)
  gl : gL < B
section
variable {w w' : World} {B gL n c : Nat} {A : Option Addr} {S : List Snt}
theorem Alls.to (h : Alls w B gL A n c S) (k : Below w.heap.size w w') : Alls w' B gL A n c S := ⟨h.var.to k, h.len, own_below h.own k, fun x hx => own_below (h.byt x hx) k, h.gl⟩
/-- one of them is written -/
theorem Alls.put {g j i : Nat} (h : Alls w B gL (some ⟨g, 0, none⟩) n c S) {x y : Snt} (hx : S[j]? = some x) (hi : i < 11) (v : Value) (e : (sntF x).set i v = sntF y) (hp : y.p = x.p) : Alls (w.setCell ⟨g, j * 11 + i, none⟩ v) B gL (some ⟨g, 0, none⟩) n c (S.set j y) := by
  have hj : j < S.length := (List.getElem?_eq_some_iff.1 hx).1
  have k : Only g w (w.setCell ⟨g, j * 11 + i, none⟩ v) := (Only.refl _ _).set _
  have hgB := (own_at_s h.own _ rfl).1
  dsimp only at hgB
  refine ⟨h.var.only k (by have := h.gl; omega), by rw [List.length_set]; exact h.len, ?_, fun z hz => ?_, h.gl⟩
  · rw [← flat_set i v y hi S j x hx e]
    refine own_setW h.own ?_ v
    rw [flat_length (f := sntF) (s := 11) (fun _ => rfl)]
    have : j * 11 + i < S.length * 11 := by have : (j + 1) * 11 ≤ S.length * 11 := Nat.mul_le_mul_right _ hj; omega
    exact this
  · have hz' : ∃ z' ∈ S, z'.p = z.p := by
      rcases List.mem_or_eq_of_mem_set hz with hz | rfl
      · exact ⟨z, hz, rfl⟩
      · exact ⟨x, List.mem_of_getElem? hx, hp.symm⟩
    obtain ⟨z', hz1, hz2⟩ := hz'
    rw [← hz2]
    refine own_only_ne k (h.byt z' hz1) (fun p hp he => ?_)
    have := own_ne_w (h.byt z' hz1) h.own (by decide) p hp
    rw [he] at this
    exact this rfl
end
theorem sent_at {w : World} {B g n c : Nat} {S : List Snt} (h : w.ownsRow B 56 11 (.slice (some ⟨g, 0, none⟩) n c) n (S.flatMap sntF)) {j : Nat} {x : Snt} (hx : S[j]? = some x) : ∀ i v, (sntF x)[i]? = some v → w.cell? ⟨g, j * 11 + i, none⟩ = some v := fun i v hv => by
  have hn : 0 < S.length := by have := (List.getElem?_eq_some_iff.1 hx).1; omega
  obtain ⟨b, o, hA, _, hc⟩ := (Recs.of_own (f := sntF) (s := 11) (fun _ => rfl) (by decide) h) hn
  obtain ⟨rfl, rfl⟩ : g = b ∧ 0 = o := by
    injection hA with h1
    injection h1 with h2 h3
    exact ⟨h2, h3⟩
  have := hc j x hx i v hv
  rwa [Nat.zero_add] at this
end Go.Proofs.Ythigkmoilfdciaa
