/- A disk that is none: what each function does with it; do. -/
import Derived.Test.YtpjdgnoekplldaaDkOp
namespace Go.Proofs.Ytpjdgnoekplldaa
open Go.RowKit
set_option linter.unusedVariables false
attribute [local go_sem] Later.cell Later.frozen setCell_twice
/-- made says no, in this world and all later ones -/
def NoDk (p : Option Addr) (w : World) : Prop := ∀ W, Below w.heap.size w W → Calls Try.prog 29 #[.pointer p] W fun e w' => e = .returned (.bool false) ∧ W = w'
section
variable {p : Option Addr} {w w' : World}
theorem NoDk.to (h : NoDk p w) (k : Below w.heap.size w w') : NoDk p w' := fun W hW => h W (k.trans (hW.mono k.size))
theorem NoDk.now (h : NoDk p w) : Calls Try.prog 29 #[.pointer p] w fun e w' => e = .returned (.bool false) ∧ w = w' := h w (Below.refl _ _)
theorem noDk_nil (w : World) : NoDk none w := fun W _ => made_nil W
theorem noDk_new {g : Nat} (c0 : w.cell? ⟨g, 0, none⟩ = some (.pointer none)) : NoDk (some ⟨g, 0, none⟩) w := fun W hW => made_no ((hW.cell (p := ⟨g, 0, none⟩) (block_lt_of_cell c0)).trans c0)
def ErrP (w : World) (n : Int) (e : Ending) (w' : World) : Prop := e = .returned (.int .i64 n) ∧ Below w.heap.size w w'
theorem append_no (h : NoDk p w) (x : Value) : Calls Try.prog 10 #[.pointer p, x] w (ErrP w 1) := by
  have hmf : ∀ (fn : Fn) (first cap : Array Value) (w : World), (Instr.makeFunc fn first cap).run Try.prog w = .ok (.func fn first cap) w := fun _ _ _ _ => rfl
  have kr := Lib.hid (ready_no p (h.to (bel_alloc (Below.refl _ _) (.cells #[.int .i64 0] 24))).now)
  clear h
  go_enter_defers Try.func10, Try.ntmps10
  go_wp2_with fail
  refine (kr.out).mono ?_
  rintro e_ w_ ⟨rfl, rfl⟩
  go_wp2
  refine leaves_cons (f := 26) (args := #[.pointer (some ⟨w.heap.size, 0, none⟩)]) (by simp) (by simp [go_sem]) ?_
  refine (idle_append ⟨w.heap.size, 0, none⟩ _).mono ?_
  rintro e u' w'' ⟨rfl, rfl, rfl⟩
  simp [Leaves, settle, results, Try.results10, go_sem]
  exact ⟨rfl, bel_alloc (Below.refl _ _) _⟩
theorem sync_no (h : NoDk p w) : Calls Try.prog 17 #[.pointer p] w (ErrP w 1) := by
  have hmf : ∀ (fn : Fn) (first cap : Array Value) (w : World), (Instr.makeFunc fn first cap).run Try.prog w = .ok (.func fn first cap) w := fun _ _ _ _ => rfl
  have kr := Lib.hid (ready_no p (h.to (bel_alloc (Below.refl _ _) (.cells #[.int .i64 0] 24))).now)
  clear h
  go_enter_defers Try.func17, Try.ntmps17
  go_wp2_with fail
  refine (kr.out).mono ?_
  rintro e_ w_ ⟨rfl, rfl⟩
  go_wp2
  refine leaves_cons (f := 30) (args := #[.pointer (some ⟨w.heap.size, 0, none⟩)]) (by simp) (by simp [go_sem]) ?_
  refine (idle_sync ⟨w.heap.size, 0, none⟩ _).mono ?_
  rintro e u' w'' ⟨rfl, rfl, rfl⟩
  simp [Leaves, settle, results, Try.results17, go_sem]
  exact ⟨rfl, bel_alloc (Below.refl _ _) _⟩
theorem cut_no (h : NoDk p w) (x : Value) : Calls Try.prog 18 #[.pointer p, x] w (ErrP w 1) := by
  have hmf : ∀ (fn : Fn) (first cap : Array Value) (w : World), (Instr.makeFunc fn first cap).run Try.prog w = .ok (.func fn first cap) w := fun _ _ _ _ => rfl
  have kr := Lib.hid (ready_no p (h.to (bel_alloc (Below.refl _ _) (.cells #[.int .i64 0] 24))).now)
  clear h
  go_enter_defers Try.func18, Try.ntmps18
  go_wp2_with fail
  refine (kr.out).mono ?_
  rintro e_ w_ ⟨rfl, rfl⟩
  go_wp2
  refine leaves_cons (f := 31) (args := #[.pointer (some ⟨w.heap.size, 0, none⟩)]) (by simp) (by simp [go_sem]) ?_
  refine (idle_cut ⟨w.heap.size, 0, none⟩ _).mono ?_
  rintro e u' w'' ⟨rfl, rfl, rfl⟩
  simp [Leaves, settle, results, Try.results18, go_sem]
  exact ⟨rfl, bel_alloc (Below.refl _ _) _⟩
theorem sparks_no (h : NoDk p w) (x : Value) : Calls Try.prog 14 #[.pointer p, x] w fun e w' => e = .returned (.tuple #[]) ∧ w = w' := by
  have km := Lib.hid h.now
  clear h
  go_enter Try.func14, Try.ntmps14
  go_wp2_with fail
  refine (km.out).mono ?_
  rintro e_ w_ ⟨rfl, rfl⟩
  go_wp2
  exact bodyPost_ret (results_none rfl _ _ _) rfl ⟨rfl, rfl⟩
theorem crash_no (h : NoDk p w) (x : Value) : Calls Try.prog 19 #[.pointer p, x] w fun e w' => e = .returned (.tuple #[]) ∧ w = w' := by
  have km := Lib.hid h.now
  clear h
  go_enter Try.func19, Try.ntmps19
  go_wp2_with fail
  refine (km.out).mono ?_
  rintro e_ w_ ⟨rfl, rfl⟩
  go_wp2
  exact bodyPost_ret (results_none rfl _ _ _) rfl ⟨rfl, rfl⟩
theorem bytes_no (h : NoDk p w) : Calls Try.prog 11 #[.pointer p] w fun e w' => e = .returned (.slice none 0 0) ∧ w = w' := by
  have km := Lib.hid h.now
  clear h
  go_enter Try.func11, Try.ntmps11
  go_wp2_with fail
  refine (km.out).mono ?_
  rintro e_ w_ ⟨rfl, rfl⟩
  go_wp2
  go_ret
  exact ⟨rfl, rfl⟩
set_option maxHeartbeats 1000000 in
theorem do_no (h : NoDk p w) (what : Nat) (hw : what < 256) (n : Int) (Ab : Option Addr) (nb cb : Nat) (r : Int) (hr : r = if what % 5 > 2 then 0 else 1) :
    Calls Try.prog 23 #[.pointer p, .agg #[.int .u8 (what : Int), .slice Ab nb cb, .int .i64 n]] w (ErrP w r) := by
  have h1 := h.to (bel_alloc (Below.refl _ _) (.cells #[.int .u8 (what : Int), .slice Ab nb cb, .int .i64 n] 38))
  have ka := Lib.hid (append_no h1 (.slice Ab nb cb))
  have ks := Lib.hid (sync_no h1)
  have kc := Lib.hid (cut_no h1 (.int .i64 n))
  have kp := Lib.hid (sparks_no h1 (.int .i64 n))
  have kx := Lib.hid (crash_no h1 (.int .i64 n))
  obtain ⟨m, hm⟩ : ∃ m, what % 5 = m := ⟨_, rfl⟩
  have hmI : (what : Int) % 5 = (m : Int) := by omega
  have hm5 : m = 0 ∨ m = 1 ∨ m = 2 ∨ m = 3 ∨ m = 4 := by omega
  rw [hm] at hr
  clear h h1 hm
  rcases hm5 with rfl | rfl | rfl | rfl | rfl
  · obtain rfl : r = 1 := by simpa using hr
    clear hr
    go_enter Try.func23, Try.ntmps23
    go_wp2_with fail
    refine (ka.out).mono ?_
    rintro e w1 ⟨rfl, hb⟩
    go_wp2
    go_ret
    exact ⟨rfl, below_new hb⟩
  · obtain rfl : r = 1 := by simpa using hr
    clear hr
    go_enter Try.func23, Try.ntmps23
    go_wp2_with fail
    refine (ks.out).mono ?_
    rintro e w1 ⟨rfl, hb⟩
    go_wp2
    go_ret
    exact ⟨rfl, below_new hb⟩
  · obtain rfl : r = 1 := by simpa using hr
    clear hr
    go_enter Try.func23, Try.ntmps23
    go_wp2_with fail
    refine (kc.out).mono ?_
    rintro e w1 ⟨rfl, hb⟩
    go_wp2
    go_ret
    exact ⟨rfl, below_new hb⟩
  · obtain rfl : r = 0 := by simpa using hr
    clear hr
    go_enter Try.func23, Try.ntmps23
    go_wp2_with fail
    refine (kp.out).mono ?_
    rintro e w1 ⟨rfl, hb⟩
    subst hb
    go_wp2
    go_ret
    exact ⟨rfl, (by repeat (first | with_reducible exact Below.refl _ _ | with_reducible refine bel_later _ ?_ | with_reducible refine bel_alloc ?_ _ | refine bel_set ?_ (by first | omega | (simp; done) | (simp; omega)) _ | with_reducible refine Below.drew ?_ | with_reducible refine bel_drewN ?_ _ | with_reducible assumption | assumption))⟩
  · obtain rfl : r = 0 := by simpa using hr
    clear hr
    go_enter Try.func23, Try.ntmps23
    go_wp2_with fail
    refine (kx.out).mono ?_
    rintro e w1 ⟨rfl, hb⟩
    subst hb
    go_wp2
    go_ret
    exact ⟨rfl, (by repeat (first | with_reducible exact Below.refl _ _ | with_reducible refine bel_later _ ?_ | with_reducible refine bel_alloc ?_ _ | refine bel_set ?_ (by first | omega | (simp; done) | (simp; omega)) _ | with_reducible refine Below.drew ?_ | with_reducible refine bel_drewN ?_ _ | with_reducible assumption | assumption))⟩
end
end Go.Proofs.Ytpjdgnoekplldaa
