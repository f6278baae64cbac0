/- A disk that is none: what each function does with it (for seats without 09). -/
import Derived.Test.YtalaobpehkgilaaDisk8
namespace Go.Proofs.Ytalaobpehkgilaa
open Go.RowKit
set_option linter.unusedVariables false
attribute [local go_sem] Later.cell Later.frozen setCell_twice
/-- made says no, in this world and all later ones -/
def NoDk (p : Option Addr) (w : World) : Prop := ∀ W, Below w.heap.size w W → Calls Try.prog 24 #[.pointer p] W fun e w' => e = .returned (.bool false) ∧ W = w'
section
variable {p : Option Addr} {w w' : World}
theorem NoDk.to (h : NoDk p w) (k : Below w.heap.size w w') : NoDk p w' := fun W hW => h W (k.trans (hW.mono k.size))
theorem NoDk.now (h : NoDk p w) : Calls Try.prog 24 #[.pointer p] w fun e w' => e = .returned (.bool false) ∧ w = w' := h w (Below.refl _ _)
theorem noDk_nil (w : World) : NoDk none w := fun W _ => made_nil W
theorem noDk_new {g : Nat} (c0 : w.cell? ⟨g, 0, none⟩ = some (.pointer none)) : NoDk (some ⟨g, 0, none⟩) w := fun W hW => made_no ((hW.cell (p := ⟨g, 0, none⟩) (block_lt_of_cell c0)).trans c0)
def ErrP (w : World) (n : Int) (e : Ending) (w' : World) : Prop := e = .returned (.int .i64 n) ∧ Below w.heap.size w w'
theorem append_no (h : NoDk p w) (x : Value) : Calls Try.prog 21 #[.pointer p, x] w (ErrP w 1) := by
  have hmf : ∀ (fn : Fn) (first cap : Array Value) (w : World), (Instr.makeFunc fn first cap).run Try.prog w = .ok (.func fn first cap) w := fun _ _ _ _ => rfl
  have kr := Lib.hid (ready_no p (h.to (bel_alloc (Below.refl _ _) (.cells #[.int .i64 0] 25))).now)
  clear h
  go_enter_defers Try.func21, Try.ntmps21
  go_wp2_with fail
  refine (kr.out).mono ?_
  rintro e_ w_ ⟨rfl, rfl⟩
  go_wp2
  refine leaves_cons (f := 33) (args := #[.pointer (some ⟨w.heap.size, 0, none⟩)]) (by simp) (by simp [go_sem]) ?_
  refine (idle_append ⟨w.heap.size, 0, none⟩ _).mono ?_
  rintro e u' w'' ⟨rfl, rfl, rfl⟩
  simp [Leaves, settle, results, Try.results21, go_sem]
  exact ⟨rfl, bel_alloc (Below.refl _ _) _⟩
theorem sync_no (h : NoDk p w) : Calls Try.prog 18 #[.pointer p] w (ErrP w 1) := by
  have hmf : ∀ (fn : Fn) (first cap : Array Value) (w : World), (Instr.makeFunc fn first cap).run Try.prog w = .ok (.func fn first cap) w := fun _ _ _ _ => rfl
  have kr := Lib.hid (ready_no p (h.to (bel_alloc (Below.refl _ _) (.cells #[.int .i64 0] 25))).now)
  clear h
  go_enter_defers Try.func18, Try.ntmps18
  go_wp2_with fail
  refine (kr.out).mono ?_
  rintro e_ w_ ⟨rfl, rfl⟩
  go_wp2
  refine leaves_cons (f := 29) (args := #[.pointer (some ⟨w.heap.size, 0, none⟩)]) (by simp) (by simp [go_sem]) ?_
  refine (idle_sync ⟨w.heap.size, 0, none⟩ _).mono ?_
  rintro e u' w'' ⟨rfl, rfl, rfl⟩
  simp [Leaves, settle, results, Try.results18, go_sem]
  exact ⟨rfl, bel_alloc (Below.refl _ _) _⟩
theorem cut_no (h : NoDk p w) (x : Value) : Calls Try.prog 17 #[.pointer p, x] w (ErrP w 1) := by
  have hmf : ∀ (fn : Fn) (first cap : Array Value) (w : World), (Instr.makeFunc fn first cap).run Try.prog w = .ok (.func fn first cap) w := fun _ _ _ _ => rfl
  have kr := Lib.hid (ready_no p (h.to (bel_alloc (Below.refl _ _) (.cells #[.int .i64 0] 25))).now)
  clear h
  go_enter_defers Try.func17, Try.ntmps17
  go_wp2_with fail
  refine (kr.out).mono ?_
  rintro e_ w_ ⟨rfl, rfl⟩
  go_wp2
  refine leaves_cons (f := 26) (args := #[.pointer (some ⟨w.heap.size, 0, none⟩)]) (by simp) (by simp [go_sem]) ?_
  refine (idle_cut ⟨w.heap.size, 0, none⟩ _).mono ?_
  rintro e u' w'' ⟨rfl, rfl, rfl⟩
  simp [Leaves, settle, results, Try.results17, go_sem]
  exact ⟨rfl, bel_alloc (Below.refl _ _) _⟩
theorem sparks_no (h : NoDk p w) (x : Value) : Calls Try.prog 8 #[.pointer p, x] w fun e w' => e = .returned (.tuple #[]) ∧ w = w' := by
  have km := Lib.hid h.now
  clear h
  go_enter Try.func8, Try.ntmps8
  go_wp2_with fail
  refine (km.out).mono ?_
  rintro e_ w_ ⟨rfl, rfl⟩
  go_wp2
  exact bodyPost_ret (results_none rfl _ _ _) rfl ⟨rfl, rfl⟩
theorem crash_no (h : NoDk p w) (x : Value) : Calls Try.prog 13 #[.pointer p, x] w fun e w' => e = .returned (.tuple #[]) ∧ w = w' := by
  have km := Lib.hid h.now
  clear h
  go_enter Try.func13, Try.ntmps13
  go_wp2_with fail
  refine (km.out).mono ?_
  rintro e_ w_ ⟨rfl, rfl⟩
  go_wp2
  exact bodyPost_ret (results_none rfl _ _ _) rfl ⟨rfl, rfl⟩
theorem bytes_no (h : NoDk p w) : Calls Try.prog 15 #[.pointer p] w fun e w' => e = .returned (.slice none 0 0) ∧ w = w' := by
  have km := Lib.hid h.now
  clear h
  go_enter Try.func15, Try.ntmps15
  go_wp2_with fail
  refine (km.out).mono ?_
  rintro e_ w_ ⟨rfl, rfl⟩
  go_wp2
  go_ret
  exact ⟨rfl, rfl⟩
end
end Go.Proofs.Ytalaobpehkgilaa
