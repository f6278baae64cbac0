/- A variable that is known whole: a block of cells. The walks of package stage: tagged, own, Words. The walk of stage.Read. -/
import Derived.Test.YtajbghjjpebndaaQ04
import Derived.Laws.Tables
import Derived.Deep.MidRow
import Derived.Test.YtajbghjjpebndaaQ05
import Derived.Deep.RegionHeld3
namespace Go.Proofs.Ytajbghjjpebndaa
set_option maxRecDepth 100000
open Go.RowKit
set_option linter.unusedVariables false
def RowAt (w : World) (b : Nat) (T : TypeId) (C : List Value) : Prop := w.heap[b]? = some (.cells C.toArray T (0, 0))
section
variable {w w' : World} {b B : Nat} {T : TypeId} {C : List Value}
theorem RowAt.lt (h : RowAt w b T C) : b < w.heap.size := (Array.getElem?_eq_some_iff.1 h).1
theorem RowAt.cell (h : RowAt w b T C) {j : Nat} {v : Value} (hv : C[j]? = some v) : w.cell? ⟨b, j, none⟩ = some v := by
  rw [cell_of_row _ _ _ _ _ _ h]; simpa using hv
theorem RowAt.frozen (h : RowAt w b T C) (j : Nat) : w.frozen? ⟨b, j, none⟩ = false := by
  have : w.heap[b]? = some (.cells C.toArray T (0, 0)) := h
  simp [World.frozen?, this]
theorem RowAt.below (h : RowAt w b T C) (k : Below B w w') (hb : b < B) : RowAt w' b T C := (k.block b hb).trans h
theorem RowAt.to (h : RowAt w b T C) (k : Below w.heap.size w w') : RowAt w' b T C := h.below k h.lt
theorem RowAt.alloc (h : RowAt w b T C) (o : Obj) : RowAt (w.alloc o) b T C := h.to ((Below.refl _ _).alloc (Nat.le_refl _) o)
theorem RowAt.drew (h : RowAt w b T C) : RowAt w.drew b T C := h
theorem RowAt.new (w : World) (T : TypeId) (C : List Value) : RowAt (w.alloc (.cells C.toArray T)) w.heap.size T C := heap_alloc_new w _
theorem RowAt.range (h : RowAt w b T C) (o n : Nat) : w.rangeAt b o ((C.drop o).take n) := fun j v hv => by
  rw [List.getElem?_take] at hv
  split at hv
  · rw [List.getElem?_drop] at hv
    exact h.cell hv
  · cases hv
theorem RowAt.set (h : RowAt w b T C) (j : Nat) (v : Value) : RowAt (w.setCell ⟨b, j, none⟩ v) b T (C.set j v) := by
  have h1 : w.heap[b]? = some (.cells C.toArray T (0, 0)) := h
  unfold RowAt
  simp only [World.setCell, Array.getElem?_modify, if_true, h1]
  simp
theorem RowAt.other (h : RowAt w b T C) {g j : Nat} (hg : g ≠ b) (v : Value) : RowAt (w.setCell ⟨g, j, none⟩ v) b T C := (Below.heap_setCell _ _ _ _ (fun e => hg e.symm)).trans h
theorem RowAt.row (h : RowAt w b T C) (D : List Value) : RowAt (w.setRow b D.toArray) b T D := by
  have h1 : w.heap[b]? = some (.cells C.toArray T (0, 0)) := h
  exact setRow_heap w b _ _ T _ h1
theorem RowAt.row_other (h : RowAt w b T C) {g : Nat} (hg : g ≠ b) (D : Array Value) : RowAt (w.setRow g D) b T C := (setRow_other w g b D (fun e => hg e.symm)).trans h
end
end Go.Proofs.Ytajbghjjpebndaa
namespace Go.Proofs.Ytajbghjjpebndaa
set_option maxRecDepth 100000
open Go.RowKit
set_option linter.unusedVariables false
attribute [local go_sem] Later.cell Later.frozen setCell_twice
/-- a block in memory of its own -/
def Owns (w : World) (a : Int) (ws : List Nat) (e : Ending) (w' : World) : Prop :=
  ∃ A c, e = .returned (.agg #[.int .i64 a, .slice A ws.length c]) ∧ w'.ownsRow w.heap.size 24 1 (.slice A ws.length c) ws.length (ws.map u16w) ∧ Below w.heap.size w w'
theorem own_any (a : Int) (ws : List Nat) (A : Option Addr) (c n : Nat) (w : World) (hn : ws.length = n) (sq : Sq u16w w w.heap.size A ws) (hnc : ws.length ≤ 35184372088832) (hnl : A = none → c = 0) :
    Calls Try.prog 51 #[.agg #[.int .i64 a, .slice A n c]] w (Owns w a ws) := by
  subst hn
  have kc := Lib.hid (fun W (h : Below w.heap.size w W) => clone_any A ws ws.length c W ((sq.below h).more h.size) hnc rfl hnl)
  go_enter Try.func51, Try.ntmps51
  go_wp2_with fail
  with_reducible refine (kc.out _ (by repeat (first | exact Below.refl _ _ | refine bel_alloc ?_ _))).mono ?_
  rintro e_x1 w_x1 ⟨Ax1, cx1, rfl, ox1, hb_x1⟩
  obtain ⟨x1, rfl⟩ := later_is hb_x1
  clear hb_x1
  have hz_x1 := x1.bel.size
  try simp at hz_x1
  have l_x1_0 : w.heap.size < x1.val.heap.size := by omega
  have m_x1_0 : w.heap.size < x1.val.heap.size + 1 := by omega
  have q_ := x1.bel.cell (p := ⟨w.heap.size, 0, none⟩) (by first | omega | (simp; done) | (simp; omega))
  generalize c_x1_0_0 : x1.val.cell? ⟨w.heap.size, 0, none⟩ = q at q_
  first | (have q2_ : q = some _ := q_; subst q2_) | (simp [go_sem] at q_; have q2_ : q = some _ := q_; subst q2_) | (simp [go_sem, *] at q_; have q2_ : q = some _ := q_; subst q2_)
  have q_ := x1.bel.frozen (p := ⟨w.heap.size, 0, none⟩) (by first | omega | (simp; done) | (simp; omega))
  generalize z_x1_0_0 : x1.val.frozen? ⟨w.heap.size, 0, none⟩ = q at q_
  first | (have q2_ : q = false := q_; subst q2_) | (simp [go_sem] at q_; have q2_ : q = false := q_; subst q2_) | (simp [go_sem, *] at q_; have q2_ : q = false := q_; subst q2_)
  have q_ := x1.bel.cell (p := ⟨w.heap.size, 1, none⟩) (by first | omega | (simp; done) | (simp; omega))
  generalize c_x1_0_1 : x1.val.cell? ⟨w.heap.size, 1, none⟩ = q at q_
  first | (have q2_ : q = some _ := q_; subst q2_) | (simp [go_sem] at q_; have q2_ : q = some _ := q_; subst q2_) | (simp [go_sem, *] at q_; have q2_ : q = some _ := q_; subst q2_)
  have q_ := x1.bel.frozen (p := ⟨w.heap.size, 1, none⟩) (by first | omega | (simp; done) | (simp; omega))
  generalize z_x1_0_1 : x1.val.frozen? ⟨w.heap.size, 1, none⟩ = q at q_
  first | (have q2_ : q = false := q_; subst q2_) | (simp [go_sem] at q_; have q2_ : q = false := q_; subst q2_) | (simp [go_sem, *] at q_; have q2_ : q = false := q_; subst q2_)
  have l_x1_1 : w.heap.size+1 < x1.val.heap.size := by omega
  have m_x1_1 : w.heap.size+1 < x1.val.heap.size + 1 := by omega
  have q_ := x1.bel.cell (p := ⟨w.heap.size+1, 0, none⟩) (by first | omega | (simp; done) | (simp; omega))
  generalize c_x1_1_0 : x1.val.cell? ⟨w.heap.size+1, 0, none⟩ = q at q_
  first | (have q2_ : q = some _ := q_; subst q2_) | (simp [go_sem] at q_; have q2_ : q = some _ := q_; subst q2_) | (simp [go_sem, *] at q_; have q2_ : q = some _ := q_; subst q2_)
  have q_ := x1.bel.frozen (p := ⟨w.heap.size+1, 0, none⟩) (by first | omega | (simp; done) | (simp; omega))
  generalize z_x1_1_0 : x1.val.frozen? ⟨w.heap.size+1, 0, none⟩ = q at q_
  first | (have q2_ : q = false := q_; subst q2_) | (simp [go_sem] at q_; have q2_ : q = false := q_; subst q2_) | (simp [go_sem, *] at q_; have q2_ : q = false := q_; subst q2_)
  have q_ := x1.bel.cell (p := ⟨w.heap.size+1, 1, none⟩) (by first | omega | (simp; done) | (simp; omega))
  generalize c_x1_1_1 : x1.val.cell? ⟨w.heap.size+1, 1, none⟩ = q at q_
  first | (have q2_ : q = some _ := q_; subst q2_) | (simp [go_sem] at q_; have q2_ : q = some _ := q_; subst q2_) | (simp [go_sem, *] at q_; have q2_ : q = some _ := q_; subst q2_)
  have q_ := x1.bel.frozen (p := ⟨w.heap.size+1, 1, none⟩) (by first | omega | (simp; done) | (simp; omega))
  generalize z_x1_1_1 : x1.val.frozen? ⟨w.heap.size+1, 1, none⟩ = q at q_
  first | (have q2_ : q = false := q_; subst q2_) | (simp [go_sem] at q_; have q2_ : q = false := q_; subst q2_) | (simp [go_sem, *] at q_; have q2_ : q = false := q_; subst q2_)
  have hown : x1.val.ownsRow (w.heap.size + 1 + 1) 24 1 (.slice Ax1 ws.length cx1) ws.length (ws.map u16w) := own_more ox1 (by simp)
  clear ox1
  go_wp2
  refine bodyPost_ret (v := .agg #[.int .i64 a, .slice Ax1 ws.length cx1]) (by simp [results, Try.results51, go_sem, *]) rfl ⟨Ax1, cx1, rfl, own_more (B := w.heap.size + 1 + 1) (by repeat (first | exact hown | refine ownsRow_setCell_below ?_ (by first | omega | (simp; done) | (simp; omega)) _)) (by omega), (by repeat (first | with_reducible exact Below.refl _ _ | with_reducible refine bel_later _ ?_ | with_reducible refine bel_alloc ?_ _ | refine bel_set ?_ (by first | omega | (simp; done) | (simp; omega)) _ | with_reducible refine Below.drew ?_ | with_reducible refine bel_drewN ?_ _ | with_reducible assumption | assumption))⟩
theorem number_any (n : Int) (r : Bool) (w : World) (hr : decide (0 ≤ n ∧ n < 8) = r) :
    Calls Try.prog 96 #[.int .i64 n] w fun e w' => e = .returned (.bool r) ∧ w = w' := by
  by_cases h1 : 0 ≤ n
  · by_cases h2 : n < 8
    · obtain rfl : r = true := by rw [← hr]; simp; omega
      clear hr
      go_enter Try.func96, Try.ntmps96
      go_wp2
      go_ret
      exact ⟨rfl, rfl⟩
    · obtain rfl : r = false := by rw [← hr]; simp; omega
      have g2 : decide (n < 8) = false := by simpa using h2
      clear hr
      go_enter Try.func96, Try.ntmps96
      go_wp2
      go_ret
      exact ⟨rfl, rfl⟩
  · obtain rfl : r = false := by rw [← hr]; simp; omega
    have g1 : decide (0 ≤ n) = false := by simpa using h1
    clear hr
    go_enter Try.func96, Try.ntmps96
    go_wp2
    go_ret
    exact ⟨rfl, rfl⟩
/-- what Words hands back -/
def WordsP (w : World) (r : List Nat × Int) (e : Ending) (w' : World) : Prop :=
  ∃ A c, e = .returned (.tuple #[.slice A r.1.length c, .int .i64 r.2]) ∧ w'.ownsRow w.heap.size 24 1 (.slice A r.1.length c) r.1.length (r.1.map u16w) ∧ Below w.heap.size w w'
theorem WordsP.mk' {w w' : World} {r : List Nat × Int} {A : Option Addr} {c n : Nat} {er : Int} {l : List Nat} (h : r = (l, er)) (hn : l.length = n) (ho : w'.ownsRow w.heap.size 24 1 (.slice A n c) n (l.map u16w)) (hb : Below w.heap.size w w') : WordsP w r (.returned (.tuple #[.slice A n c, .int .i64 er])) w' := by
  subst h hn
  exact ⟨A, c, rfl, ho, hb⟩
end Go.Proofs.Ytajbghjjpebndaa
namespace Go.Proofs.Ytajbghjjpebndaa
set_option maxRecDepth 100000
open Go.RowKit
set_option linter.unusedVariables false
attribute [local go_sem] Later.cell Later.frozen setCell_twice
/-- what Read hands back -/
def ReadP (w : World) (r : Stg.R) (e : Ending) (w' : World) : Prop :=
  ∃ A c, e = .returned (.tuple #[.int .u16 (r.o : Int), .int .u32 (r.t : Int), .int .i64 (r.n : Int), .agg #[.int .i64 (r.a : Int), .slice A r.ws.length c], .int .i64 r.e]) ∧ w'.ownsRow w.heap.size 24 1 (.slice A r.ws.length c) r.ws.length (r.ws.map u16w) ∧ Below w.heap.size w w'
theorem ReadP.mk' {w w' : World} {r q : Stg.R} {A : Option Addr} {c n : Nat} (h : r = q) (hn : q.ws.length = n) (ho : w'.ownsRow w.heap.size 24 1 (.slice A n c) n (q.ws.map u16w)) (hb : Below w.heap.size w w') : ReadP w r (.returned (.tuple #[.int .u16 (q.o : Int), .int .u32 (q.t : Int), .int .i64 (q.n : Int), .agg #[.int .i64 (q.a : Int), .slice A n c], .int .i64 q.e])) w' := by
  subst h hn
  exact ⟨A, c, rfl, ho, hb⟩
theorem sq_at {w : World} {B : Nat} {A : Option Addr} {v : List Nat} (sq : Sq u16w w B A v) (h : v.length = 20) : ∃ b o, A = some ⟨b, o, none⟩ ∧ b < B ∧ ∀ j, j < 20 → w.cell? ⟨b, o + j, none⟩ = some (.int .u16 ((v.getD j 0 : Nat) : Int)) := by
  obtain ⟨b, o, hA, hb, hc⟩ := sq (by omega)
  refine ⟨b, o, hA, hb, fun j hj => hc j _ ?_⟩
  rw [List.getD_eq_getElem?_getD, List.getElem?_eq_getElem (by omega)]
  rfl
theorem sq_drop {α : Type} {f : α → Value} {w : World} {B b o : Nat} {l : List α} (h : Sq f w B (some ⟨b, o, none⟩) l) (k : Nat) : Sq f w B (some ⟨b, o + k, none⟩) (l.drop k) := fun hn => by
  obtain ⟨b2, o2, hA, hb, hc⟩ := h (by rw [List.length_drop] at hn; omega)
  obtain ⟨rfl, rfl⟩ : b = b2 ∧ o = o2 := by simpa using hA
  refine ⟨b, o + k, rfl, hb, fun j x hx => ?_⟩
  rw [List.getElem?_drop] at hx
  rw [Nat.add_assoc]
  exact hc _ _ hx
end Go.Proofs.Ytajbghjjpebndaa
