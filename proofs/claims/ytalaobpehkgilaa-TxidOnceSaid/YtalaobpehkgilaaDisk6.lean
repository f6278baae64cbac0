/- A disk: the deferred closures; Sync, Cut. -/
import Derived.Test.YtalaobpehkgilaaDisk5
namespace Go.Proofs.Ytalaobpehkgilaa
open Go.RowKit
set_option linter.unusedVariables false
attribute [local go_sem] Later.cell Later.frozen setCell_twice
theorem catch_append (p : Addr) (x : Int) (u : TypeId) (pv : Value) (older : List PanicEntry) (w : World) (hc : w.cell? p = some (.int .i64 x)) (hz : w.frozen? p = false) :
    CallsD Try.prog 33 #[.pointer (some p)] (.panicking ({ v := .iface u pv, recovered := false } :: older)) w fun e u' w' =>
      e = .returned (.tuple #[]) ∧ u' = .panicking ({ v := .iface u pv, recovered := true } :: older) ∧ w' = w.setCell p (.int .i64 6) := by
  refine callsD_of_wpS Try.func33 rfl fun c₀ cs hu => ?_
  apply wpS_seq
  apply wpS_region
  simp [wpOpsS, go_sem, recoverD, hu, Try.ntmps33, Exit.thenS]
  refine wpS_cond (t := true) (by simp [Act.eval, Array.replicate]) ?_
  simp only [if_true]
  apply wpS_region
  simp [wpOpsS, go_sem, hc, hz, bodyPostS, results, Try.results33]
theorem idle_append (p : Addr) (w : World) :
    CallsD Try.prog 33 #[.pointer (some p)] .returning w fun e u' w' => e = .returned (.tuple #[]) ∧ u' = .returning ∧ w' = w := by
  refine callsD_of_wpS Try.func33 rfl fun c₀ cs hu => ?_
  apply wpS_seq
  apply wpS_region
  simp [wpOpsS, go_sem, recoverD, hu, Try.ntmps33, Exit.thenS]
  refine wpS_cond (t := false) (by simp [Act.eval, Array.replicate]) ?_
  simp only [Bool.false_eq_true, if_false]
  refine wpS_of_wp (wp_skip ?_)
  cases c₀
  simp_all [bodyPostS, results, Try.results33]
theorem catch_sync (p : Addr) (x : Int) (u : TypeId) (pv : Value) (older : List PanicEntry) (w : World) (hc : w.cell? p = some (.int .i64 x)) (hz : w.frozen? p = false) :
    CallsD Try.prog 29 #[.pointer (some p)] (.panicking ({ v := .iface u pv, recovered := false } :: older)) w fun e u' w' =>
      e = .returned (.tuple #[]) ∧ u' = .panicking ({ v := .iface u pv, recovered := true } :: older) ∧ w' = w.setCell p (.int .i64 6) := by
  refine callsD_of_wpS Try.func29 rfl fun c₀ cs hu => ?_
  apply wpS_seq
  apply wpS_region
  simp [wpOpsS, go_sem, recoverD, hu, Try.ntmps29, Exit.thenS]
  refine wpS_cond (t := true) (by simp [Act.eval, Array.replicate]) ?_
  simp only [if_true]
  apply wpS_region
  simp [wpOpsS, go_sem, hc, hz, bodyPostS, results, Try.results29]
theorem idle_sync (p : Addr) (w : World) :
    CallsD Try.prog 29 #[.pointer (some p)] .returning w fun e u' w' => e = .returned (.tuple #[]) ∧ u' = .returning ∧ w' = w := by
  refine callsD_of_wpS Try.func29 rfl fun c₀ cs hu => ?_
  apply wpS_seq
  apply wpS_region
  simp [wpOpsS, go_sem, recoverD, hu, Try.ntmps29, Exit.thenS]
  refine wpS_cond (t := false) (by simp [Act.eval, Array.replicate]) ?_
  simp only [Bool.false_eq_true, if_false]
  refine wpS_of_wp (wp_skip ?_)
  cases c₀
  simp_all [bodyPostS, results, Try.results29]
theorem catch_cut (p : Addr) (x : Int) (u : TypeId) (pv : Value) (older : List PanicEntry) (w : World) (hc : w.cell? p = some (.int .i64 x)) (hz : w.frozen? p = false) :
    CallsD Try.prog 26 #[.pointer (some p)] (.panicking ({ v := .iface u pv, recovered := false } :: older)) w fun e u' w' =>
      e = .returned (.tuple #[]) ∧ u' = .panicking ({ v := .iface u pv, recovered := true } :: older) ∧ w' = w.setCell p (.int .i64 6) := by
  refine callsD_of_wpS Try.func26 rfl fun c₀ cs hu => ?_
  apply wpS_seq
  apply wpS_region
  simp [wpOpsS, go_sem, recoverD, hu, Try.ntmps26, Exit.thenS]
  refine wpS_cond (t := true) (by simp [Act.eval, Array.replicate]) ?_
  simp only [if_true]
  apply wpS_region
  simp [wpOpsS, go_sem, hc, hz, bodyPostS, results, Try.results26]
theorem idle_cut (p : Addr) (w : World) :
    CallsD Try.prog 26 #[.pointer (some p)] .returning w fun e u' w' => e = .returned (.tuple #[]) ∧ u' = .returning ∧ w' = w := by
  refine callsD_of_wpS Try.func26 rfl fun c₀ cs hu => ?_
  apply wpS_seq
  apply wpS_region
  simp [wpOpsS, go_sem, recoverD, hu, Try.ntmps26, Exit.thenS]
  refine wpS_cond (t := false) (by simp [Act.eval, Array.replicate]) ?_
  simp only [Bool.false_eq_true, if_false]
  refine wpS_of_wp (wp_skip ?_)
  cases c₀
  simp_all [bodyPostS, results, Try.results26]
section
variable {w : World} {B g c : Nat} {A : Option Addr} {D : Dk}
/-- what an operation with an error leaves -/
def OpP (w : World) (B g : Nat) (A : Option Addr) (r : Dk × Int) (e : Ending) (w' : World) : Prop := e = .returned (.int .i64 r.2) ∧ Dur w B g A r.1 w'
theorem Dur.same {w' : World} {D' : Dk} (h : DkAt w' B g A c D') (k : Moves g A w w') : Dur w B g A D' w' := ⟨A, c, h, k, .inl rfl⟩
theorem Moves.alloc {w' : World} (k : Moves g A w w') (o : Obj) : Moves g A w (w'.alloc o) :=
  k.trans (.inl rfl) (.of_below (bel_alloc (Below.refl _ _) o))
theorem Moves.set {w' : World} (k : Moves g A w w') {p : Addr} (hp : w.heap.size ≤ p.block) (v : Value) : Moves g A w (w'.setCell p v) :=
  ⟨k.os, k.tape, k.output, by have := k.size; simpa [World.setCell] using this, fun j hj hg ha => (Below.heap_setCell _ _ _ _ (by omega)).trans (k.block j hj hg ha)⟩
theorem DkAt.other {w' : World} (h : DkAt w B g A c D) {b : Nat} (k : Only b w w') (hb : b ≠ g) (hA : ∀ p, A = some p → p.block ≠ b) : DkAt w' B g A c D :=
  ⟨(k.block g (fun e => hb e.symm)).trans h.row, k.own_ne h.own hA, h.base, h.ok, h.ne⟩
theorem spark_ok {D1 : Dk} (h : DkAt w B g A c D) (hd : D.sparked = (D1, true)) : Calls Try.prog 28 #[.pointer (some ⟨g, 0, none⟩)] w fun e w' => e = .returned (.tuple #[]) ∧ DkAt w' B g A c D1 ∧ Only g w w' := by
  have := spark_any h
  unfold SparkP at this
  rw [hd] at this
  exact this.mono fun e w' ⟨he, h1, h2⟩ => ⟨he.trans (if_pos rfl), h1, h2⟩
theorem spark_no {D1 : Dk} (h : DkAt w B g A c D) (hd : D.sparked = (D1, false)) : Calls Try.prog 28 #[.pointer (some ⟨g, 0, none⟩)] w fun e w' => e = .panicked [{ v := .iface 73 (.agg #[]), recovered := false }] ∧ DkAt w' B g A c D1 ∧ Only g w w' := by
  have := spark_any h
  unfold SparkP at this
  rw [hd] at this
  exact this.mono fun e w' ⟨he, h1, h2⟩ => ⟨he.trans (if_neg (by simp)), h1, h2⟩
/-- the result's own variable, ahead of the disk's operations -/
abbrev Rv (w : World) : World := w.alloc (.cells #[.int .i64 0] 25)
theorem rv_row (w : World) : RowAt (Rv w) w.heap.size 25 [.int .i64 0] := RowAt.new w _ [.int .i64 0]
set_option maxHeartbeats 400000 in
theorem sync_any (h : DkAt w B g A c D) : Calls Try.prog 18 #[.pointer (some ⟨g, 0, none⟩)] w (OpP w B g A D.sync) := by
  have hmf : ∀ (fn : Fn) (first cap : Array Value) (w : World), (Instr.makeFunc fn first cap).run Try.prog w = .ok (.func fn first cap) w := fun _ _ _ _ => rfl
  have hgl := h.lt
  have kr := Lib.hid (ready_any (h.to (bel_alloc (Below.refl _ _) (.cells #[.int .i64 0] 25))))
  have HOK := Lib.hid (Dk.sync_ok h.ok)
  have RV := Lib.hid (rv_row w)
  have hne : w.heap.size ≠ g := by omega
  have hAl : ∀ p, A = some p → p.block < w.heap.size := fun p hp => (own_at h.own p hp).2.1
  cases ho : D.off
  · have HS : Hid (D.sync = if (Dk.sparked D).2 = true then ({ (Dk.sparked D).1 with safe := (Dk.sparked D).1.l.length }, 0) else ((Dk.sparked D).1, 6)) := Lib.hid (by unfold Dk.sync; rw [if_neg (by rw [ho]; decide)])
    rw [ho] at kr
    have HL := Lib.hid (Dk.sparked_l D)
    cases hb : D.sparked.2
    · have ks := Lib.hid (spark_no (D1 := D.sparked.1) (h.to (bel_alloc (Below.refl _ _) (.cells #[.int .i64 0] 25))) (by rw [← hb]))
      rw [hb] at HS
      rw [show D.sync = (D.sparked.1, 6) from HS.out]
      clear h ho hb
      go_enter_defers Try.func18, Try.ntmps18
      go_wp2_with fail
      refine (kr.out).mono ?_
      rintro e_ w_ ⟨rfl, rfl⟩
      go_wp2_with fail
      refine (ks.out).mono ?_
      rintro e_ w1 ⟨rfl, h1, o1⟩
      have r1 := RowAt.only RV.out o1 hne
      have c1 := r1.cells 0
      have f1 := r1.frozen 0
      refine leaves_cons (f := 29) (args := #[.pointer (some ⟨w.heap.size, 0, none⟩)]) (by simp) (by simp [go_sem]) ?_
      refine (catch_sync ⟨w.heap.size, 0, none⟩ 0 _ _ [] _ c1 f1).mono ?_
      rintro e u' w'' ⟨rfl, rfl, rfl⟩
      have c6 : (w1.setCell ⟨w.heap.size, 0, none⟩ (.int .i64 6)).cell? ⟨w.heap.size, 0, none⟩ = some (.int .i64 6) := (r1.set 0 (.int .i64 6)).cells 0
      simp [Leaves, settle, results, Try.results18, go_sem, c6]
      exact ⟨rfl, .same (h1.other ((Only.refl _ _).set _) hne (fun p hp => by have := hAl p hp; omega)) ((((Moves.refl _ _ _).alloc _).trans (.inl rfl) (.of_only o1)).set (Nat.le_refl _) _)⟩
    · have ks := Lib.hid (spark_ok (D1 := D.sparked.1) (h.to (bel_alloc (Below.refl _ _) (.cells #[.int .i64 0] 25))) (by rw [← hb]))
      rw [hb] at HS
      rw [show D.sync = ({ D.sparked.1 with safe := D.sparked.1.l.length }, 0) from HS.out]
      clear h ho hb
      go_enter_defers Try.func18, Try.ntmps18
      go_wp2_with fail
      refine (kr.out).mono ?_
      rintro e_ w_ ⟨rfl, rfl⟩
      go_wp2_with fail
      refine (ks.out).mono ?_
      rintro e_ w1 ⟨rfl, h1, o1⟩
      have r1 := RowAt.only RV.out o1 hne
      have c1 : w1.cell? ⟨w.heap.size, 0, none⟩ = some (.int .i64 0) := r1.cells 0
      have f1 := r1.frozen 0
      have c2 : w1.cell? ⟨g, 2, none⟩ = some (.slice A D.sparked.1.l.length c) := h1.row.cells 2
      have c3 : w1.cell? ⟨g, 3, none⟩ = some (.int .i64 (D.sparked.1.safe : Int)) := h1.row.cells 3
      have f3 := h1.row.frozen 3
      have H1 := Lib.hid h1
      have O1 := Lib.hid o1
      clear h1 o1 r1
      go_wp2
      refine leaves_cons (f := 29) (args := #[.pointer (some ⟨w.heap.size, 0, none⟩)]) (by simp) (by simp [go_sem]) ?_
      refine (idle_sync ⟨w.heap.size, 0, none⟩ _).mono ?_
      rintro e u' w'' ⟨rfl, rfl, rfl⟩
      have o3 : Only g w1 (w1.setCell ⟨g, 3, none⟩ (.int .i64 (D.sparked.1.l.length : Int))) := (Only.refl _ _).set _
      have h3 : DkAt (w1.setCell ⟨g, 3, none⟩ (.int .i64 (D.sparked.1.l.length : Int))) B g A c { D.sparked.1 with safe := D.sparked.1.l.length } := H1.out.turn o3 (H1.out.row.set 3 (.int .i64 (D.sparked.1.l.length : Int))) rfl ⟨Nat.le_refl _, H1.out.ok.room, H1.out.ok.hi, H1.out.ok.left, H1.out.ok.u⟩
      have c6 : ((w1.setCell ⟨g, 3, none⟩ (.int .i64 (D.sparked.1.l.length : Int))).setCell ⟨w.heap.size, 0, none⟩ (.int .i64 0)).cell? ⟨w.heap.size, 0, none⟩ = some (.int .i64 0) := (((RowAt.only RV.out O1.out hne).only o3 hne).set 0 (.int .i64 0)).cells 0
      simp [Leaves, settle, results, Try.results18, go_sem, c6]
      exact ⟨rfl, .same (h3.other ((Only.refl _ _).set _) hne (fun p hp => by have := hAl p hp; omega)) (((((Moves.refl _ _ _).alloc _).trans (.inl rfl) (.of_only O1.out)).trans (.inl rfl) (.of_only o3)).set (Nat.le_refl _) _)⟩
  · have HS : Hid (D.sync = (D, 6)) := Lib.hid (by unfold Dk.sync; rw [if_pos ho])
    rw [ho] at kr
    have H := Lib.hid h
    rw [HS.out]
    clear h ho
    go_enter_defers Try.func18, Try.ntmps18
    go_wp2_with fail
    refine (kr.out).mono ?_
    rintro e_ w_ ⟨rfl, rfl⟩
    go_wp2
    refine leaves_cons (f := 29) (args := #[.pointer (some ⟨w.heap.size, 0, none⟩)]) (by simp) (by simp [go_sem]) ?_
    refine (idle_sync ⟨w.heap.size, 0, none⟩ _).mono ?_
    rintro e u' w'' ⟨rfl, rfl, rfl⟩
    simp [Leaves, settle, results, Try.results18, go_sem]
    exact ⟨rfl, .same (H.out.to (bel_alloc (Below.refl _ _) _)) ((Moves.refl _ _ _).alloc _)⟩
end
end Go.Proofs.Ytalaobpehkgilaa
