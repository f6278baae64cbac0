/- Op.does: what is done with a lease; an operation that came in. -/
import Derived.Test.YtlekadiaobpadaaBox
import Derived.Test.YtlekadiaobpadaaRecs
import Derived.Test.YtlekadiaobpadaaOpenLs
namespace Go.Proofs.Ytlekadiaobpadaa
open Go.ChangeShapes Go.WideShapes Go.ChangeAt Go.RowKit Go.Deep
set_option linter.unusedVariables false
attribute [local go_sem] Later.cell Later.frozen setCell_twice lease_fld0 lease_fld1
namespace Ls
structure Op where
  q : Nat
  ow : Nat
  t : Int
def Op.fit (o : Op) : Prop := o.q < 256 ∧ o.ow < 65536 ∧ -9223372036854775808 ≤ o.t ∧ o.t ≤ 9223372036854775807
def Op.cells (o : Op) : List Value := [.int .u8 (o.q : Int), .int .u16 (o.ow : Int), .int .i64 o.t]
def does (o : Op) (x : L) : L × Int :=
  if o.q % 5 = 0 then take x o.ow o.t else if o.q % 5 = 1 then hold x o.ow else if o.q % 5 = 2 then leave x o.ow else if o.q % 5 = 3 then ((tick x).1, 0) else (boot x, 0)
theorem takeC_fit {c : L} {ow : Nat} {t : Int} (h : fit c) (how : ow < 65536) (h2 : -9223372036854775808 ≤ t) (h3 : t ≤ 9223372036854775807) : fit (takeC c ow t).1 := by
  unfold takeC
  repeat' split
  all_goals first | exact h | exact ⟨how, h2, h3⟩
theorem holdC_fit {c : L} {ow : Nat} (h : fit c) (how : ow < 65536) : fit (holdC c ow).1 := by
  unfold holdC
  repeat' split
  all_goals first | exact h | exact ⟨how, by show (-9223372036854775808 : Int) ≤ -1; omega, by show (-1 : Int) ≤ 9223372036854775807; omega⟩
theorem leaveC_fit {c : L} {ow : Nat} (h : fit c) : fit (leaveC c ow).1 := by
  unfold leaveC
  repeat' split
  all_goals first | exact h | exact ⟨by decide, by decide, by decide⟩
theorem tickC_fit {c : L} (h : fit c) : fit (tickC c).1 := by
  unfold tickC
  repeat' split
  · exact ⟨by decide, by decide, by decide⟩
  · obtain ⟨h1, h2, h3⟩ := h
    exact ⟨h1, by simp only; omega, by simp only; omega⟩
  · exact h
theorem bootC_fit {c : L} (h : fit c) : fit (bootC c) := by
  unfold bootC
  split
  · exact h
  · exact ⟨by decide, by decide, by decide⟩
theorem does_fit {o : Op} {x : L} (ho : o.fit) (h : fit x) : fit (does o x).1 := by
  obtain ⟨_, h1, h2, h3⟩ := ho
  have hc := counted_fit h
  unfold does
  repeat' split
  · exact takeC_fit hc h1 h2 h3
  · exact holdC_fit hc h1
  · exact leaveC_fit hc
  · exact tickC_fit hc
  · exact bootC_fit hc
end Ls

theorem op_trod {H : Type} {enc : TypeId × Value → H} {w : World} {base : Nat} {spare : Nat → Bool} {held : Bool} (n : Nat) (cs : List Value) (y : DataW H × List MemPlace) (h : DataW.trod enc Try.prog w base spare held n 37 cs = some y) : ∃ o : Ls.Op, cs = o.cells ∧ o.fit := by
  obtain ⟨hl, n, hf⟩ := trod_field Try.underlying37 h
  have hC : Try.prog.cellsOf 37 = 3 := by kernel_rfl
  rw [hC] at hl
  match cs, hl with
  | [v0, v1, v2], _ =>
    obtain ⟨y0, h0⟩ := hf 0 _ rfl
    obtain ⟨y1, h1⟩ := hf 1 _ rfl
    obtain ⟨y2, h2⟩ := hf 2 _ rfl
    obtain ⟨a0, rfl, b0⟩ := trod_nat (k := .u8) (v := v0) rfl Try.underlying5 h0
    obtain ⟨a1, rfl, b1⟩ := trod_nat (k := .u16) (v := v1) rfl Try.underlying22 h1
    obtain ⟨a2, rfl, b2, b3⟩ := trod_i64 (v := v2) Try.underlying3 h2
    exact ⟨⟨a0, a1, a2⟩, rfl, b0, b1, b2, b3⟩

set_option maxRecDepth 100000 in
set_option maxHeartbeats 2000000 in
theorem does_any (op : Ls.Op) (x : Ls.L) (w : World) (ho : op.fit) (hf : Ls.fit x) :
    Calls Try.prog 23 #[.agg #[.int .u8 (op.q : Int), .int .u16 (op.ow : Int), .int .i64 op.t], .agg #[.int .u16 (x.o : Int), .int .i64 x.l]] w fun e w' => e = .returned (.tuple #[.agg #[.int .u16 ((Ls.does op x).1.o : Int), .int .i64 (Ls.does op x).1.l], .int .i64 (Ls.does op x).2]) ∧ Below w.heap.size w w' := by
  have kt := Lib.hid (fun w => take_any x op.ow op.t w hf ho.2.1 ho.2.2.1 ho.2.2.2)
  have kh := Lib.hid (fun w => hold_any x op.ow w hf ho.2.1)
  have kl := Lib.hid (fun w => leave_any x op.ow w hf ho.2.1)
  have kk := Lib.hid (fun w => tick_any x w hf)
  have kb := Lib.hid (fun w => boot_any x w hf)
  obtain ⟨q, ow, t⟩ := op
  obtain ⟨h0, h1, h2, h3⟩ := ho
  simp only at h0 h1 h2 h3
  by_cases q0 : q % 5 = 0
  · rw [show Ls.does ⟨q, ow, t⟩ x = Ls.take x ow t by simp [Ls.does, q0]]
    generalize Ls.take x ow t = r at *
    obtain ⟨⟨a, b⟩, c⟩ := r
    simp only at *
    have e0 : ((q : Int) % 5 == 0) = true := by rw [beq_iff_eq]; omega
    clear q0
    go_enter Try.func23, Try.ntmps23
    go_wp2_with fail
    refine (kt.out _).mono ?_
    rintro e_x1 w_x1 ⟨rfl, hb_x1⟩
    obtain ⟨x1, rfl⟩ := later_is hb_x1
    clear hb_x1
    have hz_x1 := x1.bel.size
    try simp at hz_x1
    have l_x1_0 : w.heap.size+1+1 < x1.val.heap.size := by omega
    have m_x1_0 : w.heap.size+1+1 < x1.val.heap.size + 1 := by omega
    have q_ := x1.bel.cell (p := ⟨w.heap.size+1+1, 0, none⟩) (by first | omega | (simp; done) | (simp; omega))
    generalize c_x1_0_0 : x1.val.cell? ⟨w.heap.size+1+1, 0, none⟩ = q at q_
    first | (have q2_ : q = some _ := q_; subst q2_) | (simp [go_sem] at q_; have q2_ : q = some _ := q_; subst q2_) | (simp [go_sem, *] at q_; have q2_ : q = some _ := q_; subst q2_)
    have q_ := x1.bel.frozen (p := ⟨w.heap.size+1+1, 0, none⟩) (by first | omega | (simp; done) | (simp; omega))
    generalize z_x1_0_0 : x1.val.frozen? ⟨w.heap.size+1+1, 0, none⟩ = q at q_
    first | (have q2_ : q = false := q_; subst q2_) | (simp [go_sem] at q_; have q2_ : q = false := q_; subst q2_) | (simp [go_sem, *] at q_; have q2_ : q = false := q_; subst q2_)
    have q_ := x1.bel.cell (p := ⟨w.heap.size+1+1, 1, none⟩) (by first | omega | (simp; done) | (simp; omega))
    generalize c_x1_0_1 : x1.val.cell? ⟨w.heap.size+1+1, 1, none⟩ = q at q_
    first | (have q2_ : q = some _ := q_; subst q2_) | (simp [go_sem] at q_; have q2_ : q = some _ := q_; subst q2_) | (simp [go_sem, *] at q_; have q2_ : q = some _ := q_; subst q2_)
    have q_ := x1.bel.frozen (p := ⟨w.heap.size+1+1, 1, none⟩) (by first | omega | (simp; done) | (simp; omega))
    generalize z_x1_0_1 : x1.val.frozen? ⟨w.heap.size+1+1, 1, none⟩ = q at q_
    first | (have q2_ : q = false := q_; subst q2_) | (simp [go_sem] at q_; have q2_ : q = false := q_; subst q2_) | (simp [go_sem, *] at q_; have q2_ : q = false := q_; subst q2_)
    go_wp2
    exact bodyPost_ret (v := .tuple #[.agg #[.int .u16 (a : Int), .int .i64 b], .int .i64 c]) (by simp [results, Try.results23, go_sem, *]) rfl ⟨rfl, (by repeat (first | exact Below.refl _ _ | refine bel_later _ ?_ | refine bel_alloc ?_ _ | refine bel_set ?_ (by first | omega | (simp; done) | (simp; omega)) _ | refine Below.drew ?_ | assumption))⟩
  have e0 : ((q : Int) % 5 == 0) = false := beq_eq_false_iff_ne.2 (by omega)
  by_cases q1 : q % 5 = 1
  · rw [show Ls.does ⟨q, ow, t⟩ x = Ls.hold x ow by simp [Ls.does, q1]]
    generalize Ls.hold x ow = r at *
    obtain ⟨⟨a, b⟩, c⟩ := r
    simp only at *
    have e1 : ((q : Int) % 5 == 1) = true := by rw [beq_iff_eq]; omega
    clear q0 q1
    go_enter Try.func23, Try.ntmps23
    go_wp2_with fail
    refine (kh.out _).mono ?_
    rintro e_x1 w_x1 ⟨rfl, hb_x1⟩
    obtain ⟨x1, rfl⟩ := later_is hb_x1
    clear hb_x1
    have hz_x1 := x1.bel.size
    try simp at hz_x1
    have l_x1_0 : w.heap.size+1+1 < x1.val.heap.size := by omega
    have m_x1_0 : w.heap.size+1+1 < x1.val.heap.size + 1 := by omega
    have q_ := x1.bel.cell (p := ⟨w.heap.size+1+1, 0, none⟩) (by first | omega | (simp; done) | (simp; omega))
    generalize c_x1_0_0 : x1.val.cell? ⟨w.heap.size+1+1, 0, none⟩ = q at q_
    first | (have q2_ : q = some _ := q_; subst q2_) | (simp [go_sem] at q_; have q2_ : q = some _ := q_; subst q2_) | (simp [go_sem, *] at q_; have q2_ : q = some _ := q_; subst q2_)
    have q_ := x1.bel.frozen (p := ⟨w.heap.size+1+1, 0, none⟩) (by first | omega | (simp; done) | (simp; omega))
    generalize z_x1_0_0 : x1.val.frozen? ⟨w.heap.size+1+1, 0, none⟩ = q at q_
    first | (have q2_ : q = false := q_; subst q2_) | (simp [go_sem] at q_; have q2_ : q = false := q_; subst q2_) | (simp [go_sem, *] at q_; have q2_ : q = false := q_; subst q2_)
    have q_ := x1.bel.cell (p := ⟨w.heap.size+1+1, 1, none⟩) (by first | omega | (simp; done) | (simp; omega))
    generalize c_x1_0_1 : x1.val.cell? ⟨w.heap.size+1+1, 1, none⟩ = q at q_
    first | (have q2_ : q = some _ := q_; subst q2_) | (simp [go_sem] at q_; have q2_ : q = some _ := q_; subst q2_) | (simp [go_sem, *] at q_; have q2_ : q = some _ := q_; subst q2_)
    have q_ := x1.bel.frozen (p := ⟨w.heap.size+1+1, 1, none⟩) (by first | omega | (simp; done) | (simp; omega))
    generalize z_x1_0_1 : x1.val.frozen? ⟨w.heap.size+1+1, 1, none⟩ = q at q_
    first | (have q2_ : q = false := q_; subst q2_) | (simp [go_sem] at q_; have q2_ : q = false := q_; subst q2_) | (simp [go_sem, *] at q_; have q2_ : q = false := q_; subst q2_)
    go_wp2
    exact bodyPost_ret (v := .tuple #[.agg #[.int .u16 (a : Int), .int .i64 b], .int .i64 c]) (by simp [results, Try.results23, go_sem, *]) rfl ⟨rfl, (by repeat (first | exact Below.refl _ _ | refine bel_later _ ?_ | refine bel_alloc ?_ _ | refine bel_set ?_ (by first | omega | (simp; done) | (simp; omega)) _ | refine Below.drew ?_ | assumption))⟩
  have e1 : ((q : Int) % 5 == 1) = false := beq_eq_false_iff_ne.2 (by omega)
  by_cases q2 : q % 5 = 2
  · rw [show Ls.does ⟨q, ow, t⟩ x = Ls.leave x ow by simp [Ls.does, q2]]
    generalize Ls.leave x ow = r at *
    obtain ⟨⟨a, b⟩, c⟩ := r
    simp only at *
    have e2 : ((q : Int) % 5 == 2) = true := by rw [beq_iff_eq]; omega
    clear q0 q1 q2
    go_enter Try.func23, Try.ntmps23
    go_wp2_with fail
    refine (kl.out _).mono ?_
    rintro e_x1 w_x1 ⟨rfl, hb_x1⟩
    obtain ⟨x1, rfl⟩ := later_is hb_x1
    clear hb_x1
    have hz_x1 := x1.bel.size
    try simp at hz_x1
    have l_x1_0 : w.heap.size+1+1 < x1.val.heap.size := by omega
    have m_x1_0 : w.heap.size+1+1 < x1.val.heap.size + 1 := by omega
    have q_ := x1.bel.cell (p := ⟨w.heap.size+1+1, 0, none⟩) (by first | omega | (simp; done) | (simp; omega))
    generalize c_x1_0_0 : x1.val.cell? ⟨w.heap.size+1+1, 0, none⟩ = q at q_
    first | (have q2_ : q = some _ := q_; subst q2_) | (simp [go_sem] at q_; have q2_ : q = some _ := q_; subst q2_) | (simp [go_sem, *] at q_; have q2_ : q = some _ := q_; subst q2_)
    have q_ := x1.bel.frozen (p := ⟨w.heap.size+1+1, 0, none⟩) (by first | omega | (simp; done) | (simp; omega))
    generalize z_x1_0_0 : x1.val.frozen? ⟨w.heap.size+1+1, 0, none⟩ = q at q_
    first | (have q2_ : q = false := q_; subst q2_) | (simp [go_sem] at q_; have q2_ : q = false := q_; subst q2_) | (simp [go_sem, *] at q_; have q2_ : q = false := q_; subst q2_)
    have q_ := x1.bel.cell (p := ⟨w.heap.size+1+1, 1, none⟩) (by first | omega | (simp; done) | (simp; omega))
    generalize c_x1_0_1 : x1.val.cell? ⟨w.heap.size+1+1, 1, none⟩ = q at q_
    first | (have q2_ : q = some _ := q_; subst q2_) | (simp [go_sem] at q_; have q2_ : q = some _ := q_; subst q2_) | (simp [go_sem, *] at q_; have q2_ : q = some _ := q_; subst q2_)
    have q_ := x1.bel.frozen (p := ⟨w.heap.size+1+1, 1, none⟩) (by first | omega | (simp; done) | (simp; omega))
    generalize z_x1_0_1 : x1.val.frozen? ⟨w.heap.size+1+1, 1, none⟩ = q at q_
    first | (have q2_ : q = false := q_; subst q2_) | (simp [go_sem] at q_; have q2_ : q = false := q_; subst q2_) | (simp [go_sem, *] at q_; have q2_ : q = false := q_; subst q2_)
    go_wp2
    exact bodyPost_ret (v := .tuple #[.agg #[.int .u16 (a : Int), .int .i64 b], .int .i64 c]) (by simp [results, Try.results23, go_sem, *]) rfl ⟨rfl, (by repeat (first | exact Below.refl _ _ | refine bel_later _ ?_ | refine bel_alloc ?_ _ | refine bel_set ?_ (by first | omega | (simp; done) | (simp; omega)) _ | refine Below.drew ?_ | assumption))⟩
  have e2 : ((q : Int) % 5 == 2) = false := beq_eq_false_iff_ne.2 (by omega)
  by_cases q3 : q % 5 = 3
  · rw [show Ls.does ⟨q, ow, t⟩ x = ((Ls.tick x).1, 0) by simp [Ls.does, q3]]
    generalize Ls.tick x = r at *
    obtain ⟨⟨a, b⟩, c⟩ := r
    simp only at *
    have e3 : ((q : Int) % 5 == 3) = true := by rw [beq_iff_eq]; omega
    clear q0 q1 q2 q3
    go_enter Try.func23, Try.ntmps23
    go_wp2_with fail
    refine (kk.out _).mono ?_
    rintro e_x1 w_x1 ⟨rfl, hb_x1⟩
    obtain ⟨x1, rfl⟩ := later_is hb_x1
    clear hb_x1
    have hz_x1 := x1.bel.size
    try simp at hz_x1
    have l_x1_0 : w.heap.size+1+1 < x1.val.heap.size := by omega
    have m_x1_0 : w.heap.size+1+1 < x1.val.heap.size + 1 := by omega
    have q_ := x1.bel.cell (p := ⟨w.heap.size+1+1, 0, none⟩) (by first | omega | (simp; done) | (simp; omega))
    generalize c_x1_0_0 : x1.val.cell? ⟨w.heap.size+1+1, 0, none⟩ = q at q_
    first | (have q2_ : q = some _ := q_; subst q2_) | (simp [go_sem] at q_; have q2_ : q = some _ := q_; subst q2_) | (simp [go_sem, *] at q_; have q2_ : q = some _ := q_; subst q2_)
    have q_ := x1.bel.frozen (p := ⟨w.heap.size+1+1, 0, none⟩) (by first | omega | (simp; done) | (simp; omega))
    generalize z_x1_0_0 : x1.val.frozen? ⟨w.heap.size+1+1, 0, none⟩ = q at q_
    first | (have q2_ : q = false := q_; subst q2_) | (simp [go_sem] at q_; have q2_ : q = false := q_; subst q2_) | (simp [go_sem, *] at q_; have q2_ : q = false := q_; subst q2_)
    have q_ := x1.bel.cell (p := ⟨w.heap.size+1+1, 1, none⟩) (by first | omega | (simp; done) | (simp; omega))
    generalize c_x1_0_1 : x1.val.cell? ⟨w.heap.size+1+1, 1, none⟩ = q at q_
    first | (have q2_ : q = some _ := q_; subst q2_) | (simp [go_sem] at q_; have q2_ : q = some _ := q_; subst q2_) | (simp [go_sem, *] at q_; have q2_ : q = some _ := q_; subst q2_)
    have q_ := x1.bel.frozen (p := ⟨w.heap.size+1+1, 1, none⟩) (by first | omega | (simp; done) | (simp; omega))
    generalize z_x1_0_1 : x1.val.frozen? ⟨w.heap.size+1+1, 1, none⟩ = q at q_
    first | (have q2_ : q = false := q_; subst q2_) | (simp [go_sem] at q_; have q2_ : q = false := q_; subst q2_) | (simp [go_sem, *] at q_; have q2_ : q = false := q_; subst q2_)
    go_wp2
    exact bodyPost_ret (v := .tuple #[.agg #[.int .u16 (a : Int), .int .i64 b], .int .i64 0]) (by simp [results, Try.results23, go_sem, *]) rfl ⟨rfl, (by repeat (first | exact Below.refl _ _ | refine bel_later _ ?_ | refine bel_alloc ?_ _ | refine bel_set ?_ (by first | omega | (simp; done) | (simp; omega)) _ | refine Below.drew ?_ | assumption))⟩
  · rw [show Ls.does ⟨q, ow, t⟩ x = (Ls.boot x, 0) by simp [Ls.does, q0, q1, q2, q3]]
    generalize Ls.boot x = r at *
    obtain ⟨a, b⟩ := r
    simp only at *
    have e3 : ((q : Int) % 5 == 3) = false := beq_eq_false_iff_ne.2 (by omega)
    clear q0 q1 q2 q3
    go_enter Try.func23, Try.ntmps23
    go_wp2_with fail
    refine (kb.out _).mono ?_
    rintro e_x1 w_x1 ⟨rfl, hb_x1⟩
    obtain ⟨x1, rfl⟩ := later_is hb_x1
    clear hb_x1
    have hz_x1 := x1.bel.size
    try simp at hz_x1
    have l_x1_0 : w.heap.size+1+1 < x1.val.heap.size := by omega
    have m_x1_0 : w.heap.size+1+1 < x1.val.heap.size + 1 := by omega
    have q_ := x1.bel.cell (p := ⟨w.heap.size+1+1, 0, none⟩) (by first | omega | (simp; done) | (simp; omega))
    generalize c_x1_0_0 : x1.val.cell? ⟨w.heap.size+1+1, 0, none⟩ = q at q_
    first | (have q2_ : q = some _ := q_; subst q2_) | (simp [go_sem] at q_; have q2_ : q = some _ := q_; subst q2_) | (simp [go_sem, *] at q_; have q2_ : q = some _ := q_; subst q2_)
    have q_ := x1.bel.frozen (p := ⟨w.heap.size+1+1, 0, none⟩) (by first | omega | (simp; done) | (simp; omega))
    generalize z_x1_0_0 : x1.val.frozen? ⟨w.heap.size+1+1, 0, none⟩ = q at q_
    first | (have q2_ : q = false := q_; subst q2_) | (simp [go_sem] at q_; have q2_ : q = false := q_; subst q2_) | (simp [go_sem, *] at q_; have q2_ : q = false := q_; subst q2_)
    have q_ := x1.bel.cell (p := ⟨w.heap.size+1+1, 1, none⟩) (by first | omega | (simp; done) | (simp; omega))
    generalize c_x1_0_1 : x1.val.cell? ⟨w.heap.size+1+1, 1, none⟩ = q at q_
    first | (have q2_ : q = some _ := q_; subst q2_) | (simp [go_sem] at q_; have q2_ : q = some _ := q_; subst q2_) | (simp [go_sem, *] at q_; have q2_ : q = some _ := q_; subst q2_)
    have q_ := x1.bel.frozen (p := ⟨w.heap.size+1+1, 1, none⟩) (by first | omega | (simp; done) | (simp; omega))
    generalize z_x1_0_1 : x1.val.frozen? ⟨w.heap.size+1+1, 1, none⟩ = q at q_
    first | (have q2_ : q = false := q_; subst q2_) | (simp [go_sem] at q_; have q2_ : q = false := q_; subst q2_) | (simp [go_sem, *] at q_; have q2_ : q = false := q_; subst q2_)
    go_wp2
    exact bodyPost_ret (v := .tuple #[.agg #[.int .u16 (a : Int), .int .i64 b], .int .i64 0]) (by simp [results, Try.results23, go_sem, *]) rfl ⟨rfl, (by repeat (first | exact Below.refl _ _ | refine bel_later _ ?_ | refine bel_alloc ?_ _ | refine bel_set ?_ (by first | omega | (simp; done) | (simp; omega)) _ | refine Below.drew ?_ | assumption))⟩
end Go.Proofs.Ytlekadiaobpadaa
