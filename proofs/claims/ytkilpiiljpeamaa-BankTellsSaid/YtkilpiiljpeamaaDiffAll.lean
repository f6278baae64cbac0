/- bank.Diff at any two rows of words. -/
import Derived.Test.YtkilpiiljpeamaaBkDiff
import Derived.Test.YtkilpiiljpeamaaBkCells
namespace Go.Proofs.Ytkilpiiljpeamaa
open Go.RowKit
set_option linter.unusedVariables false
attribute [local go_sem] Later.cell Later.frozen setCell_twice
theorem Sq.to {α : Type} {f : α → Value} {w w' : World} {A : Option Addr} {l : List α} (h : Sq f w w.heap.size A l) (k : Below w.heap.size w w') : Sq f w' w'.heap.size A l := (h.below k).more k.size
theorem sq_full {w : World} {A : Option Addr} {l : List Nat} (h : Sq u16w w w.heap.size A l) (hl : 0 < l.length) : ∃ b o, A = some ⟨b, o, none⟩ ∧ b < w.heap.size ∧ ∀ j, j < l.length → w.cell? ⟨b, o + j, none⟩ = some (.int .u16 ((l[j]?.getD 0 : Nat) : Int)) := by
  obtain ⟨b, o, hA, hb, hc⟩ := h hl
  exact ⟨b, o, hA, hb, fun j hj => by rw [List.getElem?_eq_getElem hj]; exact hc j _ (List.getElem?_eq_getElem hj)⟩
def DiffQ (a b : List Nat) (w : World) (e : Ending) (w' : World) : Prop := Below w.heap.size w w' ∧ if a.length = 64 ∧ b.length = 64 then ∃ bl Al cl, e = .returned (.tuple #[.slice Al bl.length cl, .int .i64 0]) ∧ prs bl = dif b (difs a b 64) ∧ w'.ownsRow w.heap.size 34 2 (.slice Al bl.length cl) bl.length (bl.flatMap Blk.cells) ∧ ∀ y ∈ bl, w'.ownsRow w.heap.size 25 1 (.slice y.A y.ws.length y.c) y.ws.length (y.ws.map u16w) else e = .returned (.tuple #[.slice none 0 0, .int .i64 21])
set_option maxRecDepth 100000 in
set_option maxHeartbeats 400000 in
theorem diff_all (A B : Option Addr) (a b : List Nat) (ca cb n m : Nat) (w : World) (ha : Sq u16w w w.heap.size A a) (hb : Sq u16w w w.heap.size B b) (hn : a.length = n) (hm : b.length = m) (hcb : m ≤ cb) :
    Calls Try.prog 9 #[.slice A n ca, .slice B m cb] w (DiffQ a b w) := by
  by_cases h1 : n = 64
  · subst h1
    by_cases h2 : m = 64
    · subst h2
      obtain ⟨ba, oa, rfl, hba, hca⟩ := sq_full ha (by omega)
      obtain ⟨bb, ob, rfl, hbb, hcb2⟩ := sq_full hb (by omega)
      rw [hn] at hca
      rw [hm] at hcb2
      refine (diff_any ba oa bb ob ca cb a b w hba hbb hm hcb hca hcb2).mono ?_
      rintro e w' ⟨h3, h4⟩
      exact ⟨h3, by rw [if_pos ⟨hn, hm⟩]; exact h4⟩
    · have g1 : ((m : Int) != 64) = true := bne_iff_ne.2 (by omega)
      have HM := Lib.hid hm
      clear hn hm ha hb hcb
      go_enter Try.func9, Try.ntmps9
      go_wp2
      go_ret2
      exact ⟨(by repeat (first | with_reducible exact Below.refl _ _ | with_reducible refine bel_later _ ?_ | with_reducible refine bel_alloc ?_ _ | refine bel_set ?_ (by first | omega | (simp; done) | (simp; omega)) _ | with_reducible refine Below.drew ?_ | with_reducible refine bel_drewN ?_ _ | with_reducible assumption | assumption)), by rw [if_neg (by rw [HM.out]; omega)]; rfl⟩
  · have g1 : ((n : Int) != 64) = true := bne_iff_ne.2 (by omega)
    have HN := Lib.hid hn
    clear hn hm ha hb hcb
    go_enter Try.func9, Try.ntmps9
    go_wp2
    go_ret2
    exact ⟨(by repeat (first | with_reducible exact Below.refl _ _ | with_reducible refine bel_later _ ?_ | with_reducible refine bel_alloc ?_ _ | refine bel_set ?_ (by first | omega | (simp; done) | (simp; omega)) _ | with_reducible refine Below.drew ?_ | with_reducible refine bel_drewN ?_ _ | with_reducible assumption | assumption)), by rw [if_neg (by rw [HN.out]; omega)]; rfl⟩
/-- the answer's blocks, as they read -/
theorem diff_blks {w' : World} {bl : List Blk} {Al : Option Addr} {cl : Nat} {B : Nat} {a b : List Nat} (hb : b.length = 64) (hu : ∀ x ∈ b, x < 65536) (hp : prs bl = dif b (difs a b 64)) (ho : w'.ownsRow B 34 2 (.slice Al bl.length cl) bl.length (bl.flatMap Blk.cells)) (hy : ∀ y ∈ bl, w'.ownsRow B 25 1 (.slice y.A y.ws.length y.c) y.ws.length (y.ws.map u16w))
    (hlaw : ∀ p ∈ dif b (difs a b 64), 0 ≤ p.1 ∧ p.1 < 64 ∧ ∀ x ∈ p.2, x < 65536) : Blks w' w'.heap.size Al bl :=
  ⟨Recs.of_own2 rfl ho, fun y hyb => by
    have h := hlaw y.pr (by rw [← hp]; exact List.mem_map_of_mem hyb)
    exact Blk.Ok.of_own rfl (hy y hyb) h.2.2 (by have := h.1; simp only at this; omega) (by have := h.2.1; simp only at this; omega)⟩
end Go.Proofs.Ytkilpiiljpeamaa
