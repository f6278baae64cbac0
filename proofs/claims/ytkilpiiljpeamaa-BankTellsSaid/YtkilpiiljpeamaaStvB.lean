/- Own rows of blocks (for seats without stages). -/
import Derived.Test.YtkilpiiljpeamaaRow
import Derived.Test.YtkilpiiljpeamaaBank
import Derived.Maps.AppendAt
namespace Go.Proofs.Ytkilpiiljpeamaa
open Go.RowKit
set_option linter.unusedVariables false
theorem bflat_length (l : List Blk) : (l.flatMap Blk.cells).length = l.length * 2 := by
  induction l with
  | nil => rfl
  | cons b l ih => simp only [List.flatMap_cons, List.length_append, ih, List.length_cons, List.length_nil]; omega
theorem bflat_get {l : List Blk} {k : Nat} {b : Blk} (h : l[k]? = some b) : (l.flatMap Blk.cells)[k * 2]? = some (.int .i64 b.a) ∧ (l.flatMap Blk.cells)[k * 2 + 1]? = some (.slice b.A b.ws.length b.c) := by
  induction l generalizing k with
  | nil => cases h
  | cons x l ih =>
    cases k with
    | zero =>
      obtain rfl : x = b := by simpa using h
      exact ⟨rfl, rfl⟩
    | succ k =>
      have := ih (by simpa using h)
      simp only [List.flatMap_cons, show (k + 1) * 2 = k * 2 + 2 by omega, show k * 2 + 2 + 1 = (k * 2 + 1) + 2 by omega]
      exact this
theorem lit2 (w : World) (x y : Value) (t : TypeId) : ∀ (j : Nat) (u : Value), [x, y][j]? = some u → (w.alloc (.cells #[x, y] t)).cell? ((⟨w.heap.size, 0, none⟩ : Addr).add j) = some u := by
  intro j u h
  have hadd : (⟨w.heap.size, 0, none⟩ : Addr).add j = ⟨w.heap.size, 0 + j, none⟩ := by unfold Addr.add; split <;> simp_all
  rw [hadd, Nat.zero_add, cell_of_row _ _ _ _ _ _ (heap_alloc_new w _)]
  simpa using h
theorem one2 (b : Int) (A : Option Addr) (n c : Nat) : ∀ u ∈ [Value.int .i64 b, .slice A n c], u.oneCell' = true := by
  intro u hu
  have hb' : u = .int .i64 b ∨ u = .slice A n c := by simpa using hu
  rcases hb' with rfl | rfl <;> rfl
theorem own_form2 {w : World} {base e s n : Nat} {v : Value} {xs : List Value} (h : w.ownsRow base e s v n xs) : ∃ A c, v = .slice A n c ∧ (A = none → c = 0) ∧ n ≤ c ∧ c ≤ 9223372036854775807 := by
  rcases h.2 with ⟨rfl, rfl⟩ | ⟨g, cap, cur, rfl, _, _, hnc, hm, _⟩
  · exact ⟨none, 0, rfl, fun _ => rfl, Nat.le_refl _, by omega⟩
  · exact ⟨some ⟨g, 0, none⟩, cap, rfl, by simp, hnc, by unfold maxLen at hm; omega⟩
/-- an own row of blocks reads as them -/
theorem Recs.of_own2 {w : World} {base e n : Nat} {A : Option Addr} {c : Nat} {l : List Blk} (hn : n = l.length) (h : w.ownsRow base e 2 (.slice A n c) n (l.flatMap Blk.cells)) : Recs Blk.cells 2 w w.heap.size A l := fun hl => by
  subst hn
  have hlen := h.1
  rcases h.2 with ⟨_, h0⟩ | ⟨g, cap, cur, hv, _, hh, hnc, _, hsz, htk⟩
  · omega
  · obtain ⟨rfl, rfl⟩ : A = some ⟨g, 0, none⟩ ∧ c = cap := by simpa using hv
    refine ⟨g, 0, rfl, (Array.getElem?_eq_some_iff.1 hh).1, fun j a hj i v hi => ?_⟩
    have hjl : j < l.length := (List.getElem?_eq_some_iff.1 hj).1
    have key : (l.flatMap Blk.cells)[j * 2 + i]? = some v := by
      have hf := bflat_get hj
      match i, hi with
      | 0, hi => rw [Nat.add_zero, hf.1]; simpa using hi
      | 1, hi => rw [hf.2]; simpa using hi
      | i + 2, hi => simp at hi
    rw [Nat.zero_add, cell_of_row _ _ _ _ _ _ hh]
    rw [← htk, List.getElem?_take] at key
    split at key
    · simpa using key
    · cases key
/-- its words do not lie in block g -/
def Blk.Off (g : Option Nat) (b : Blk) : Prop := ∀ p, b.A = some p → some p.block ≠ g
theorem Blk.Ok.grown {w w' : World} {b : Blk} {row : Option Nat} (h : b.Ok w w.heap.size) (hg : w.grownBy w' row) (ho : b.Off row) : b.Ok w' w'.heap.size := by
  refine ⟨fun hn => ?_, h.u, h.lo, h.hi, h.ln, h.cap, h.nl⟩
  obtain ⟨g, o, hA, hb, hc⟩ := h.sq hn
  exact ⟨g, o, hA, Nat.lt_of_lt_of_le hb hg.size, fun j x hx => hg.cell (hc j x hx) (ho ⟨g, o, none⟩ hA)⟩
def Blk.In (L B : Nat) (b : Blk) : Prop := ∀ p, b.A = some p → L ≤ p.block ∧ p.block < B
def Blk.Own (L : Nat) (w : World) (b : Blk) : Prop := w.ownsRow L 25 1 (.slice b.A b.ws.length b.c) b.ws.length (b.ws.map u16w)
theorem own_grown {w w' : World} {B e s n c : Nat} {A : Option Addr} {xs : List Value} {row : Option Nat} (h : w.ownsRow B e s (.slice A n c) n xs) (hg : w.grownBy w' row) (ho : ∀ p, A = some p → some p.block ≠ row) : w'.ownsRow B e s (.slice A n c) n xs := by
  obtain ⟨h1, h2⟩ := h
  refine ⟨h1, ?_⟩
  rcases h2 with h2 | ⟨g, cap, cur, hv, hB, hh, r⟩
  · exact .inl h2
  · have hA : A = some ⟨g, 0, none⟩ := by simp at hv; exact hv.1
    exact .inr ⟨g, cap, cur, hv, hB, (hg.block g (Array.getElem?_eq_some_iff.1 hh).1 (ho _ hA)).trans hh, r⟩
theorem RowAt.grown {w w' : World} {b : Nat} {T : TypeId} {C : List Value} {row : Option Nat} (h : RowAt w b T C) (hg : w.grownBy w' row) (hne : some b ≠ row) : RowAt w' b T C := (hg.block b h.lt hne).trans h
/-- what Blocks hands back -/
def BlocksP (w : World) (l : List Bk.Pr) (e : Ending) (w' : World) : Prop :=
  ∃ A c bl, e = .returned (.slice A (bl : List Blk).length c) ∧ prs bl = l ∧ Blks w' w'.heap.size A bl ∧ bl.length ≤ c ∧ c ≤ 9223372036854775807 ∧ (A = none → c = 0) ∧ Below w.heap.size w w'
def BlocksQ (w : World) (l : List Bk.Pr) (e : Ending) (w' : World) : Prop :=
  ∃ A c bl, e = .returned (.slice A (bl : List Blk).length c) ∧ prs bl = l ∧ Blks w' w'.heap.size A bl ∧ bl.length ≤ c ∧ c ≤ 9223372036854775807 ∧ (A = none → c = 0) ∧ w'.ownsRow w.heap.size 34 2 (.slice A bl.length c) bl.length (bl.flatMap Blk.cells) ∧ (∀ b ∈ bl, b.In w.heap.size w'.heap.size ∧ b.Own w.heap.size w') ∧ Below w.heap.size w w'
theorem BlocksQ.weak {w w' : World} {l : List Bk.Pr} {e : Ending} : BlocksQ w l e w' → BlocksP w l e w' := fun ⟨A, c, bl, h1, h2, h3, h4, h5, h6, _, _, h7⟩ => ⟨A, c, bl, h1, h2, h3, h4, h5, h6, h7⟩
theorem info_block : (Try.prog.info? 34).map (fun i => (i.zero, i.size, i.bytes)) = some (some (.agg #[.int .i64 0, .slice none 0 0]), 2, 32) := by kernel_rfl
end Go.Proofs.Ytkilpiiljpeamaa
