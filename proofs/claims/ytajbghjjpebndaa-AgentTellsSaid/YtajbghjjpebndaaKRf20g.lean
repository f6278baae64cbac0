/- saucierref20.Do (refused; claim, abort): as plain agents. -/
import Derived.Test.YtajbghjjpebndaaKRf20c
import Derived.Test.YtajbghjjpebndaaQ24
import Derived.Test.YtajbghjjpebndaaQ21
import Derived.Test.YtajbghjjpebndaaKRf17o
import Derived.Test.YtajbghjjpebndaaQ17
namespace Go.Proofs.Ytajbghjjpebndaa
set_option maxRecDepth 100000
open Go.RowKit
set_option linter.unusedVariables false
set_option linter.unusedSimpArgs false
attribute [local go_sem] Later.cell Later.frozen setCell_twice
theorem Stv.Is.retx {s : Stv} {w : World} {base tx t : Nat} {S : SS} (h : s.Is w base tx S) (ht : t < 4294967296) : (⟨t, s.hs, s.bs⟩ : Stv).Is w base t S :=
  ⟨⟨h.ok.lh, h.ok.lb, ht, h.ok.ok⟩, rfl, h.S, h.new, h.ln⟩
section
variable {A : Option Addr} {c base : Nat} {s : Stv} {g : Ag}
theorem agC_claimed (t o : Nat) : ((((((agC A c s g).set 3 (.int .u8 1)).set 4 (.int .u32 (t : Int))).set 6 (.int .u32 (t : Int))).set 1 (.int .u16 (o : Int))).set 2 (.int .i64 g.tk)) = agC A c ⟨t, s.hs, s.bs⟩ ⟨g.bank, ⟨o, g.tk⟩, 1, t, g.la, t, g.S, g.tk⟩ := rfl
theorem agC_held : ((agC A c s g).set 3 (.int .u8 2)).set 2 (.int .i64 (-1)) = agC A c s ⟨g.bank, ⟨g.l.o, -1⟩, 2, g.tx, g.la, g.stx, g.S, g.tk⟩ := rfl
set_option maxHeartbeats 1000000 in
theorem rdo_bad (w : World) (h : AgIs A c s g w base) (q : Cmd) (hq : q.Fit) (h0 : q.ow = 0 ∨ q.tx = 0 ∨ q.v < 1 ∨ 4 < q.v) :
    Calls Try.prog 29 #[.agg (agC A c s g).toArray, .agg (cmdL q).toArray] w (AgEE w (g.doit q)) := by
  obtain ⟨XX, hX⟩ : ∃ XX, g.doit q = XX := ⟨_, rfl⟩
  rw [hX]
  have HX := Lib.hid hX
  have ko := Lib.hid (fun W (hW : Below w.heap.size w W) => rcopy_any W (h.to hW))
  have HCO := Lib.hid h.C32
  have HQ := Lib.hid hq
  clear hX h hq
  obtain rfl : (g, 2) = XX := by rw [← HX.out, doit_arg h0]
  have H0 := Lib.hid h0
  clear h0 HX
  go_enter Try.func29, Try.ntmps29
  go_upto_region 1 with fail
  obtain ⟨w0, hw0⟩ : ∃ w_q_, w_q_ = ((w.alloc (.cells (agC A c s g).toArray 35)).alloc (.cells (cmdL q).toArray 41)).alloc (.cells z32 35) := ⟨_, rfl⟩
  rw [← hw0]
  have hin := in_acr w (agC A c s g) (cmdL q)
  rw [← hw0] at hin
  obtain ⟨r1, rq, r2, b0, z0⟩ := hin
  have R1 := Lib.hid r1
  have RQ := Lib.hid rq
  have R2 := Lib.hid r2
  have B0 := Lib.hid b0
  clear hw0 r1 r2 b0 rq
  go_wp2_with (refine wpList_load_var rfl 35 (.tmp 2) rfl (w.heap.size) rfl _ _ 32 R1.out Try.underlying35 rfl size_32 HCO.out ?_)
  with_reducible refine (ko.out _ B0.out).mono ?_
  rintro e1 w1 ⟨A1, c1, s1, rfl, i1, hb1⟩
  have I1 := Lib.hid i1
  have HC := Lib.hid i1.C32
  have H25 := Lib.hid i1.C25
  replace R1 := Lib.hid (R1.out.to hb1)
  replace RQ := Lib.hid (RQ.out.to hb1)
  replace R2 := Lib.hid (R2.out.to hb1)
  have B1 := Lib.hid (B0.out.trans (hb1.mono B0.out.size))
  have hz1 := hb1.size
  clear hb1 i1 ko
  go_upto_region 2 with (refine wpList_store_var rfl 35 (.tmp 2) (.tmp 9) rfl (w.heap.size) _ (agC A1 c1 s1 g) 32 rfl rfl R1.out size_32 (by first | rfl | exact HCO.out) HC.out (agC_one _) ?_; intro w_2 r_2 k_2; have R_2 := Lib.hid r_2; have K_2 := Lib.hid k_2; clear r_2 k_2)
  replace R2 := Lib.hid (R2.out.only K_2.out (by omega))
  replace RQ := Lib.hid (RQ.out.only K_2.out (by omega))
  have I2 := Lib.hid (I1.out.only K_2.out (by omega))
  have B2 := Lib.hid (K_2.out.to B1.out (Nat.le_refl _))
  have hz2 : w0.heap.size ≤ w_2.heap.size := by rw [K_2.out.size]; exact hz1
  have RA := R_2
  clear B1 I1 K_2 R1 R_2 B0 hz1 w1
  rename World => wz
  try simp only [Act.put]
  have q0 : wz.cell? ⟨w.heap.size + 1, 0, none⟩ = some (.int .u16 (q.ow : Int)) := RQ.out.cells 0
  have q1 : wz.cell? ⟨w.heap.size + 1, 1, none⟩ = some (.int .u8 (q.v : Int)) := RQ.out.cells 1
  have q2 : wz.cell? ⟨w.heap.size + 1, 2, none⟩ = some (.int .u32 (q.tx : Int)) := RQ.out.cells 2
  by_cases h1 : q.ow = 0
  · have u1 : ((q.ow : Int) == 0) = true := by simp [h1]
    clear h1
    go_upto_region 3 with fail
    clear q0 q1 q2
    go_wp2_with (first | (refine wpList_load_var rfl 35 (.tmp 2) rfl (w.heap.size) rfl _ _ 32 RA.out Try.underlying35 rfl size_32 HC.out ?_) | (refine wpList_store_var rfl 35 (.tmp 4) (.tmp 28) rfl (w.heap.size + 2) _ (agC A1 c1 s1 g) 32 rfl rfl R2.out size_32 (by first | rfl | exact HCO.out) HC.out (agC_one _) ?_; intro w_5 r_5 k_5; have R_5 := Lib.hid r_5; have K_5 := Lib.hid k_5; clear r_5 k_5))
    exact bodyPost_ret (results_cell_tmp rfl _ _ (w.heap.size + 2) 35 _ (0, 0) _ rfl R_5.out Try.underlying35 rfl (by rw [size_32, List.size_toArray, HC.out])) rfl ⟨A1, c1, s1, rfl, (I2.out.only K_5.out (by omega)).more (by omega), K_5.out.to B2.out (by omega)⟩
  have u1 : ((q.ow : Int) == 0) = false := beq_eq_false_iff_ne.2 (by omega)
  by_cases h2 : q.tx = 0
  · have u2 : ((q.tx : Int) == 0) = true := by simp [h2]
    clear h1 h2
    go_upto_region 3 with fail
    clear q0 q1 q2
    go_wp2_with (first | (refine wpList_load_var rfl 35 (.tmp 2) rfl (w.heap.size) rfl _ _ 32 RA.out Try.underlying35 rfl size_32 HC.out ?_) | (refine wpList_store_var rfl 35 (.tmp 4) (.tmp 28) rfl (w.heap.size + 2) _ (agC A1 c1 s1 g) 32 rfl rfl R2.out size_32 (by first | rfl | exact HCO.out) HC.out (agC_one _) ?_; intro w_5 r_5 k_5; have R_5 := Lib.hid r_5; have K_5 := Lib.hid k_5; clear r_5 k_5))
    exact bodyPost_ret (results_cell_tmp rfl _ _ (w.heap.size + 2) 35 _ (0, 0) _ rfl R_5.out Try.underlying35 rfl (by rw [size_32, List.size_toArray, HC.out])) rfl ⟨A1, c1, s1, rfl, (I2.out.only K_5.out (by omega)).more (by omega), K_5.out.to B2.out (by omega)⟩
  have u2 : ((q.tx : Int) == 0) = false := beq_eq_false_iff_ne.2 (by omega)
  by_cases h3 : q.v < 1
  · have u3 : decide ((q.v : Int) < 1) = true := decide_eq_true (by omega)
    clear h1 h2 h3
    go_upto_region 3 with fail
    clear q0 q1 q2
    go_wp2_with (first | (refine wpList_load_var rfl 35 (.tmp 2) rfl (w.heap.size) rfl _ _ 32 RA.out Try.underlying35 rfl size_32 HC.out ?_) | (refine wpList_store_var rfl 35 (.tmp 4) (.tmp 28) rfl (w.heap.size + 2) _ (agC A1 c1 s1 g) 32 rfl rfl R2.out size_32 (by first | rfl | exact HCO.out) HC.out (agC_one _) ?_; intro w_5 r_5 k_5; have R_5 := Lib.hid r_5; have K_5 := Lib.hid k_5; clear r_5 k_5))
    exact bodyPost_ret (results_cell_tmp rfl _ _ (w.heap.size + 2) 35 _ (0, 0) _ rfl R_5.out Try.underlying35 rfl (by rw [size_32, List.size_toArray, HC.out])) rfl ⟨A1, c1, s1, rfl, (I2.out.only K_5.out (by omega)).more (by omega), K_5.out.to B2.out (by omega)⟩
  have u3 : decide ((q.v : Int) < 1) = false := decide_eq_false (by omega)
  have u4 : decide (4 < (q.v : Int)) = true := decide_eq_true (by have := H0.out; omega)
  clear h1 h2 h3
  go_upto_region 3 with fail
  clear q0 q1 q2
  go_wp2_with (first | (refine wpList_load_var rfl 35 (.tmp 2) rfl (w.heap.size) rfl _ _ 32 RA.out Try.underlying35 rfl size_32 HC.out ?_) | (refine wpList_store_var rfl 35 (.tmp 4) (.tmp 28) rfl (w.heap.size + 2) _ (agC A1 c1 s1 g) 32 rfl rfl R2.out size_32 (by first | rfl | exact HCO.out) HC.out (agC_one _) ?_; intro w_5 r_5 k_5; have R_5 := Lib.hid r_5; have K_5 := Lib.hid k_5; clear r_5 k_5))
  exact bodyPost_ret (results_cell_tmp rfl _ _ (w.heap.size + 2) 35 _ (0, 0) _ rfl R_5.out Try.underlying35 rfl (by rw [size_32, List.size_toArray, HC.out])) rfl ⟨A1, c1, s1, rfl, (I2.out.only K_5.out (by omega)).more (by omega), K_5.out.to B2.out (by omega)⟩
set_option maxHeartbeats 1000000 in
theorem rdo_owned (w : World) (h : AgIs A c s g w base) (q : Cmd) (hq : q.Fit) (h0 : ¬ (q.ow = 0 ∨ q.tx = 0 ∨ q.v < 1 ∨ 4 < q.v)) (h1 : g.l.o ≠ 0 ∧ g.l.o ≠ q.ow) :
    Calls Try.prog 29 #[.agg (agC A c s g).toArray, .agg (cmdL q).toArray] w (AgEE w (g.doit q)) := by
  obtain ⟨XX, hX⟩ : ∃ XX, g.doit q = XX := ⟨_, rfl⟩
  rw [hX]
  have HX := Lib.hid hX
  have ko := Lib.hid (fun W (hW : Below w.heap.size w W) => rcopy_any W (h.to hW))
  have HCO := Lib.hid h.C32
  have HQ := Lib.hid hq
  clear hX h hq
  obtain rfl : (g, 22) = XX := by rw [← HX.out, doit_owned h0 h1]
  clear HX
  have u1 : ((q.ow : Int) == 0) = false := beq_eq_false_iff_ne.2 (by omega)
  have u2 : ((q.tx : Int) == 0) = false := beq_eq_false_iff_ne.2 (by omega)
  have u3 : decide ((q.v : Int) < 1) = false := decide_eq_false (by omega)
  have u4 : decide (4 < (q.v : Int)) = false := decide_eq_false (by omega)
  have u5 : ((g.l.o : Int) != 0) = true := bne_iff_ne.2 (by omega)
  have u6 : ((g.l.o : Int) != (q.ow : Int)) = true := bne_iff_ne.2 (by omega)
  clear h0 h1
  go_enter Try.func29, Try.ntmps29
  go_upto_region 1 with fail
  obtain ⟨w0, hw0⟩ : ∃ w_q_, w_q_ = ((w.alloc (.cells (agC A c s g).toArray 35)).alloc (.cells (cmdL q).toArray 41)).alloc (.cells z32 35) := ⟨_, rfl⟩
  rw [← hw0]
  have hin := in_acr w (agC A c s g) (cmdL q)
  rw [← hw0] at hin
  obtain ⟨r1, rq, r2, b0, z0⟩ := hin
  have R1 := Lib.hid r1
  have RQ := Lib.hid rq
  have R2 := Lib.hid r2
  have B0 := Lib.hid b0
  clear hw0 r1 r2 b0 rq
  go_wp2_with (refine wpList_load_var rfl 35 (.tmp 2) rfl (w.heap.size) rfl _ _ 32 R1.out Try.underlying35 rfl size_32 HCO.out ?_)
  with_reducible refine (ko.out _ B0.out).mono ?_
  rintro e1 w1 ⟨A1, c1, s1, rfl, i1, hb1⟩
  have I1 := Lib.hid i1
  have HC := Lib.hid i1.C32
  have H25 := Lib.hid i1.C25
  replace R1 := Lib.hid (R1.out.to hb1)
  replace RQ := Lib.hid (RQ.out.to hb1)
  replace R2 := Lib.hid (R2.out.to hb1)
  have B1 := Lib.hid (B0.out.trans (hb1.mono B0.out.size))
  have hz1 := hb1.size
  clear hb1 i1 ko
  go_upto_region 2 with (refine wpList_store_var rfl 35 (.tmp 2) (.tmp 9) rfl (w.heap.size) _ (agC A1 c1 s1 g) 32 rfl rfl R1.out size_32 (by first | rfl | exact HCO.out) HC.out (agC_one _) ?_; intro w_2 r_2 k_2; have R_2 := Lib.hid r_2; have K_2 := Lib.hid k_2; clear r_2 k_2)
  replace R2 := Lib.hid (R2.out.only K_2.out (by omega))
  replace RQ := Lib.hid (RQ.out.only K_2.out (by omega))
  have I2 := Lib.hid (I1.out.only K_2.out (by omega))
  have B2 := Lib.hid (K_2.out.to B1.out (Nat.le_refl _))
  have hz2 : w0.heap.size ≤ w_2.heap.size := by rw [K_2.out.size]; exact hz1
  have RA := R_2
  clear B1 I1 K_2 R1 R_2 B0 hz1 w1
  rename World => wz
  try simp only [Act.put]
  have q0 : wz.cell? ⟨w.heap.size + 1, 0, none⟩ = some (.int .u16 (q.ow : Int)) := RQ.out.cells 0
  have q1 : wz.cell? ⟨w.heap.size + 1, 1, none⟩ = some (.int .u8 (q.v : Int)) := RQ.out.cells 1
  have q2 : wz.cell? ⟨w.heap.size + 1, 2, none⟩ = some (.int .u32 (q.tx : Int)) := RQ.out.cells 2
  have d1 : wz.cell? ⟨w.heap.size, 1, none⟩ = some (.int .u16 (g.l.o : Int)) := RA.out.cells 1
  go_upto_region 5 with fail
  clear q0 q1 q2 d1 u1 u2 u3 u4 u5 u6
  go_wp2_with (first | (refine wpList_load_var rfl 35 (.tmp 2) rfl (w.heap.size) rfl _ _ 32 RA.out Try.underlying35 rfl size_32 HC.out ?_) | (refine wpList_store_var rfl 35 (.tmp 4) (.tmp 41) rfl (w.heap.size + 2) _ (agC A1 c1 s1 g) 32 rfl rfl R2.out size_32 (by first | rfl | exact HCO.out) HC.out (agC_one _) ?_; intro w_5 r_5 k_5; have R_5 := Lib.hid r_5; have K_5 := Lib.hid k_5; clear r_5 k_5))
  exact bodyPost_ret (results_cell_tmp rfl _ _ (w.heap.size + 2) 35 _ (0, 0) _ rfl R_5.out Try.underlying35 rfl (by rw [size_32, List.size_toArray, HC.out])) rfl ⟨A1, c1, s1, rfl, (I2.out.only K_5.out (by omega)).more (by omega), K_5.out.to B2.out (by omega)⟩
set_option maxHeartbeats 4000000 in
theorem rdo_1 (w : World) (h : AgIs A c s g w base) (hr : g.right) (q : Cmd) (hq : q.Fit) (hv : q.v = 1) (h0 : ¬ (q.ow = 0 ∨ q.tx = 0 ∨ q.v < 1 ∨ 4 < q.v)) (h1 : ¬ (g.l.o ≠ 0 ∧ g.l.o ≠ q.ow)) :
    Calls Try.prog 29 #[.agg (agC A c s g).toArray, .agg (cmdL q).toArray] w (AgEE w (g.doit q)) := by
  obtain ⟨XX, hX⟩ : ∃ XX, g.doit q = XX := ⟨_, rfl⟩
  rw [hX]
  have HX := Lib.hid hX
  have ko := Lib.hid (fun W (hW : Below w.heap.size w W) => rcopy_any W (h.to hW))
  have HCO := Lib.hid h.C32
  have HQ := Lib.hid hq
  clear hX h hq
  rw [doit_1 h0 h1 hv] at HX
  have HR := Lib.hid hr
  have H1 := Lib.hid h1
  have u1 : ((q.ow : Int) == 0) = false := beq_eq_false_iff_ne.2 (by omega)
  have u2 : ((q.tx : Int) == 0) = false := beq_eq_false_iff_ne.2 (by omega)
  have u3 : decide ((q.v : Int) < 1) = false := decide_eq_false (by omega)
  have u4 : decide (4 < (q.v : Int)) = false := decide_eq_false (by omega)
  have v1 : ((q.v : Int) == 1) = true := by simp [hv]
  clear h0 h1 hr hv
  go_enter Try.func29, Try.ntmps29
  go_upto_region 1 with fail
  obtain ⟨w0, hw0⟩ : ∃ w_q_, w_q_ = ((w.alloc (.cells (agC A c s g).toArray 35)).alloc (.cells (cmdL q).toArray 41)).alloc (.cells z32 35) := ⟨_, rfl⟩
  rw [← hw0]
  have hin := in_acr w (agC A c s g) (cmdL q)
  rw [← hw0] at hin
  obtain ⟨r1, rq, r2, b0, z0⟩ := hin
  have R1 := Lib.hid r1
  have RQ := Lib.hid rq
  have R2 := Lib.hid r2
  have B0 := Lib.hid b0
  clear hw0 r1 r2 b0 rq
  go_wp2_with (refine wpList_load_var rfl 35 (.tmp 2) rfl (w.heap.size) rfl _ _ 32 R1.out Try.underlying35 rfl size_32 HCO.out ?_)
  with_reducible refine (ko.out _ B0.out).mono ?_
  rintro e1 w1 ⟨A1, c1, s1, rfl, i1, hb1⟩
  have I1 := Lib.hid i1
  have HC := Lib.hid i1.C32
  have H25 := Lib.hid i1.C25
  replace R1 := Lib.hid (R1.out.to hb1)
  replace RQ := Lib.hid (RQ.out.to hb1)
  replace R2 := Lib.hid (R2.out.to hb1)
  have B1 := Lib.hid (B0.out.trans (hb1.mono B0.out.size))
  have hz1 := hb1.size
  clear hb1 i1 ko
  go_upto_region 2 with (refine wpList_store_var rfl 35 (.tmp 2) (.tmp 9) rfl (w.heap.size) _ (agC A1 c1 s1 g) 32 rfl rfl R1.out size_32 (by first | rfl | exact HCO.out) HC.out (agC_one _) ?_; intro w_2 r_2 k_2; have R_2 := Lib.hid r_2; have K_2 := Lib.hid k_2; clear r_2 k_2)
  replace R2 := Lib.hid (R2.out.only K_2.out (by omega))
  replace RQ := Lib.hid (RQ.out.only K_2.out (by omega))
  have I2 := Lib.hid (I1.out.only K_2.out (by omega))
  have B2 := Lib.hid (K_2.out.to B1.out (Nat.le_refl _))
  have hz2 : w0.heap.size ≤ w_2.heap.size := by rw [K_2.out.size]; exact hz1
  have RA := R_2
  clear B1 I1 K_2 R1 R_2 B0 hz1 w1
  rename World => wz
  try simp only [Act.put]
  have q0 : wz.cell? ⟨w.heap.size + 1, 0, none⟩ = some (.int .u16 (q.ow : Int)) := RQ.out.cells 0
  have q1 : wz.cell? ⟨w.heap.size + 1, 1, none⟩ = some (.int .u8 (q.v : Int)) := RQ.out.cells 1
  have q2 : wz.cell? ⟨w.heap.size + 1, 2, none⟩ = some (.int .u32 (q.tx : Int)) := RQ.out.cells 2
  have d1 : wz.cell? ⟨w.heap.size, 1, none⟩ = some (.int .u16 (g.l.o : Int)) := RA.out.cells 1
  have d3 : wz.cell? ⟨w.heap.size, 3, none⟩ = some (.int .u8 (g.ph : Int)) := RA.out.cells 3
  have d4 : wz.cell? ⟨w.heap.size, 4, none⟩ = some (.int .u32 (g.tx : Int)) := RA.out.cells 4
  have d5 : wz.cell? ⟨w.heap.size, 5, none⟩ = some (.int .u32 (g.la : Int)) := RA.out.cells 5
  go_upto_region 4 with fail
  clear u1 u2 u3 u4
  go_cut [40] (fun x wx => x = .bool false ∧ wz = wx)
  case first =>
    by_cases h8 : g.l.o = 0
    · have u8 : ((g.l.o : Int) != 0) = false := by simp [h8]
      clear h8
      go_wp2
      go_meet
      case rel => exact ⟨rfl, rfl⟩
    · have u8 : ((g.l.o : Int) != 0) = true := bne_iff_ne.2 (by omega)
      have u9 : ((g.l.o : Int) != (q.ow : Int)) = false := by
        have : g.l.o = q.ow := by
          by_cases e : g.l.o = q.ow
          · exact e
          · exact absurd ⟨h8, e⟩ H1.out
        simp [this]
      clear h8
      go_wp2
      go_meet
      case rel => exact ⟨rfl, rfl⟩
  case rest =>
  obtain ⟨rfl, rfl⟩ := hcut
  by_cases h2 : q.tx ≤ g.la
  · have u1 : decide (q.tx ≤ g.la) = true := decide_eq_true h2
    obtain rfl : (g, 23) = XX := by rw [← HX.out, if_pos (.inl h2)]
    clear h2
    go_upto_region 13 with fail
    clear q0 q1 q2 d1 d3 d4 d5
    go_wp2_with (first | (refine wpList_load_var rfl 35 (.tmp 2) rfl (w.heap.size) rfl _ _ 32 RA.out Try.underlying35 rfl size_32 HC.out ?_) | (refine wpList_store_var rfl 35 (.tmp 4) (.tmp 81) rfl (w.heap.size + 2) _ (agC A1 c1 s1 g) 32 rfl rfl R2.out size_32 (by first | rfl | exact HCO.out) HC.out (agC_one _) ?_; intro w_5 r_5 k_5; have R_5 := Lib.hid r_5; have K_5 := Lib.hid k_5; clear r_5 k_5))
    exact bodyPost_ret (results_cell_tmp rfl _ _ (w.heap.size + 2) 35 _ (0, 0) _ rfl R_5.out Try.underlying35 rfl (by rw [size_32, List.size_toArray, HC.out])) rfl ⟨A1, c1, s1, rfl, (I2.out.only K_5.out (by omega)).more (by omega), K_5.out.to B2.out (by omega)⟩
  have u1 : decide (q.tx ≤ g.la) = false := decide_eq_false h2
  by_cases hp : g.ph = 0
  · have e : g.claimed q = ⟨g.bank, ⟨q.ow, g.tk⟩, 1, q.tx, g.la, q.tx, ss0, g.tk⟩ := by unfold Ag.claimed; exact if_pos (.inl (by omega))
    obtain rfl : (⟨g.bank, ⟨q.ow, g.tk⟩, 1, q.tx, g.la, q.tx, ss0, g.tk⟩, 0) = XX := by rw [← HX.out, if_neg (show ¬ (q.tx ≤ g.la ∨ (g.ph ≠ 0 ∧ q.tx < g.tx)) by omega), if_neg (show ¬ (g.ph = 2 ∧ g.tx = q.tx) by omega), e]
    have p0 : ((g.ph : Int) == 0) = true := by simp [hp]
    have n0 : ((g.ph : Int) != 0) = false := by simp [hp]
    have p1 : ((g.ph : Int) == 1) = false := by simp [hp]
    have n1 : ((g.ph : Int) != 1) = true := by simp [hp]
    have p2 : ((g.ph : Int) == 2) = false := by simp [hp]
    have n2 : ((g.ph : Int) != 2) = true := by simp [hp]
    clear e h2 HX hp
    have kf := Lib.hid (fun W (hW : Below wz.heap.size wz W) => rfreed_any W (I2.out.to hW))
    have HF : Hid ((agC A1 c1 Stv.zero g.freed).length = 32) := Lib.hid I2.out.freed.C32
    go_wp2_with (refine wpList_load_var rfl 35 (.tmp 2) rfl (w.heap.size) rfl _ _ 32 RA.out Try.underlying35 rfl size_32 HC.out ?_)
    with_reducible refine (kf.out _ (Below.refl _ _)).mono ?_
    rintro e6 w6 ⟨rfl, hb6⟩
    replace RA := Lib.hid (RA.out.to hb6)
    replace RQ := Lib.hid (RQ.out.to hb6)
    replace R2 := Lib.hid (R2.out.to hb6)
    replace I2 := Lib.hid (show AgIs A1 c1 Stv.zero g.freed w6 _ from I2.out.freed.to hb6)
    replace B2 := Lib.hid (B2.out.trans (hb6.mono B2.out.size))
    replace hz2 := Nat.le_trans hz2 hb6.size
    clear hb6 kf q0 q1 q2 d1 d3 d4 d5
    go_upto_region 18 with (refine wpList_store_var rfl 35 (.tmp 2) (.tmp 104) rfl w.heap.size _ (agC A1 c1 Stv.zero g.freed) 32 rfl rfl RA.out size_32 HC.out HF.out (agC_one _) ?_; intro w_7 r_7 k_7; have R_7 := Lib.hid r_7; have K_7 := Lib.hid k_7; clear r_7 k_7)
    replace RQ := Lib.hid (RQ.out.only K_7.out (by omega))
    replace R2 := Lib.hid (R2.out.only K_7.out (by omega))
    replace I2 := Lib.hid (I2.out.only K_7.out (by omega))
    replace B2 := Lib.hid (K_7.out.to B2.out (Nat.le_refl _))
    replace hz2 : w0.heap.size ≤ w_7.heap.size := by rw [K_7.out.size]; exact hz2
    replace RA := R_7
    clear K_7 R_7 w6 wz
    rename World => wz
    try simp only [Act.put]
    have q0 : wz.cell? ⟨w.heap.size + 1, 0, none⟩ = some (.int .u16 (q.ow : Int)) := RQ.out.cells 0
    have q2 : wz.cell? ⟨w.heap.size + 1, 2, none⟩ = some (.int .u32 (q.tx : Int)) := RQ.out.cells 2
    have d1 : wz.cell? ⟨w.heap.size, 1, none⟩ = some (.int .u16 (g.freed.l.o : Int)) := RA.out.cells 1
    have d2 : wz.cell? ⟨w.heap.size, 2, none⟩ = some (.int .i64 g.freed.l.l) := RA.out.cells 2
    have d3 : wz.cell? ⟨w.heap.size, 3, none⟩ = some (.int .u8 (g.freed.ph : Int)) := RA.out.cells 3
    have d4 : wz.cell? ⟨w.heap.size, 4, none⟩ = some (.int .u32 (g.freed.tx : Int)) := RA.out.cells 4
    have d6 : wz.cell? ⟨w.heap.size, 6, none⟩ = some (.int .u32 (Stv.zero.tx : Int)) := RA.out.cells 6
    have d31 : wz.cell? ⟨w.heap.size, 31, none⟩ = some (.int .i64 g.tk) := RA.out.cell (agL_tk I2.out.C25)
    have f1 := RA.out.frozen 1
    have f2 := RA.out.frozen 2
    have f3 := RA.out.frozen 3
    have f4 := RA.out.frozen 4
    have f6 := RA.out.frozen 6
    have ltA := RA.out.lt
    have ltQ := RQ.out.lt
    go_upto_region 38 with fail
    obtain ⟨w7, hw7⟩ : ∃ w_q_, w_q_ = ((((wz.setCell ⟨w.heap.size, 3, none⟩ (.int .u8 1)).setCell ⟨w.heap.size, 4, none⟩ (.int .u32 (q.tx : Int))).setCell ⟨w.heap.size, 6, none⟩ (.int .u32 (q.tx : Int))).setCell ⟨w.heap.size, 1, none⟩ (.int .u16 (q.ow : Int))).setCell ⟨w.heap.size, 2, none⟩ (.int .i64 g.tk) := ⟨_, rfl⟩
    rw [← hw7]
    have k7 : Only w.heap.size wz w7 := by rw [hw7]; exact (((((Only.refl _ _).set _).set _).set _).set _).set _
    have R7 : Hid (RowAt w7 w.heap.size 35 (agC A1 c1 ⟨q.tx, Stv.zero.hs, Stv.zero.bs⟩ ⟨g.bank, ⟨q.ow, g.tk⟩, 1, q.tx, g.la, q.tx, g.freed.S, g.tk⟩)) := Lib.hid (by
      have h9 := ((((RA.out.set 3 (.int .u8 1)).set 4 (.int .u32 (q.tx : Int))).set 6 (.int .u32 (q.tx : Int))).set 1 (.int .u16 (q.ow : Int))).set 2 (.int .i64 g.tk)
      rw [hw7]
      exact h9)
    have i7 := I2.out.only k7 (by omega)
    have I7 := Lib.hid ((i7.staged ⟨q.tx, Stv.zero.hs, Stv.zero.bs⟩ (i7.st.retx HQ.out.tx)).with ⟨q.ow, g.tk⟩ 1 q.tx g.la ⟨HQ.out.ow, I2.out.tk.1, I2.out.tk.2⟩ (by decide) HQ.out.tx I2.out.la)
    have HC7 : Hid ((agC A1 c1 ⟨q.tx, Stv.zero.hs, Stv.zero.bs⟩ ⟨g.bank, ⟨q.ow, g.tk⟩, 1, q.tx, g.la, q.tx, g.freed.S, g.tk⟩).length = 32) := Lib.hid I7.out.C32
    replace R2 := Lib.hid (R2.out.only k7 (by omega))
    replace B2 := Lib.hid (k7.to B2.out (Nat.le_refl _))
    replace hz2 : w0.heap.size ≤ w7.heap.size := by rw [k7.size]; exact hz2
    clear hw7 k7 i7 RA q0 q2 d1 d2 d3 d4 d6 d31 f1 f2 f3 f4 f6 ltA ltQ I2
    go_wp2_with (first | (refine wpList_load_var rfl 35 (.tmp 2) rfl (w.heap.size) rfl _ _ 32 R7.out Try.underlying35 rfl size_32 HC7.out ?_) | (refine wpList_store_var rfl 35 (.tmp 4) (.tmp 192) rfl (w.heap.size + 2) _ (agC A1 c1 ⟨q.tx, Stv.zero.hs, Stv.zero.bs⟩ ⟨g.bank, ⟨q.ow, g.tk⟩, 1, q.tx, g.la, q.tx, g.freed.S, g.tk⟩) 32 rfl rfl R2.out size_32 (by first | rfl | exact HCO.out) HC7.out (agC_one _) ?_; intro w_5 r_5 k_5; have R_5 := Lib.hid r_5; have K_5 := Lib.hid k_5; clear r_5 k_5))
    exact bodyPost_ret (results_cell_tmp rfl _ _ (w.heap.size + 2) 35 _ (0, 0) _ rfl R_5.out Try.underlying35 rfl (by rw [size_32, List.size_toArray, HC7.out])) rfl ⟨A1, c1, ⟨q.tx, Stv.zero.hs, Stv.zero.bs⟩, rfl, (I7.out.only K_5.out (by omega)).more (by omega), K_5.out.to B2.out (by omega)⟩
  by_cases h3 : q.tx < g.tx
  · have u2 : decide (q.tx < g.tx) = true := decide_eq_true h3
    have n0 : ((g.ph : Int) != 0) = true := bne_iff_ne.2 (by omega)
    obtain rfl : (g, 23) = XX := by rw [← HX.out, if_pos (.inr ⟨hp, h3⟩)]
    clear h2 h3 hp
    go_upto_region 13 with fail
    clear q0 q1 q2 d1 d3 d4 d5
    go_wp2_with (first | (refine wpList_load_var rfl 35 (.tmp 2) rfl (w.heap.size) rfl _ _ 32 RA.out Try.underlying35 rfl size_32 HC.out ?_) | (refine wpList_store_var rfl 35 (.tmp 4) (.tmp 81) rfl (w.heap.size + 2) _ (agC A1 c1 s1 g) 32 rfl rfl R2.out size_32 (by first | rfl | exact HCO.out) HC.out (agC_one _) ?_; intro w_5 r_5 k_5; have R_5 := Lib.hid r_5; have K_5 := Lib.hid k_5; clear r_5 k_5))
    exact bodyPost_ret (results_cell_tmp rfl _ _ (w.heap.size + 2) 35 _ (0, 0) _ rfl R_5.out Try.underlying35 rfl (by rw [size_32, List.size_toArray, HC.out])) rfl ⟨A1, c1, s1, rfl, (I2.out.only K_5.out (by omega)).more (by omega), K_5.out.to B2.out (by omega)⟩
  have u2 : decide (q.tx < g.tx) = false := decide_eq_false h3
  have hph : g.ph = 1 ∨ g.ph = 2 := by
    rcases HR.out.phases with z | z | z
    · exact absurd z.1 hp
    · exact .inl z.1
    · exact .inr z.1
  replace HX := Lib.hid (show (if g.ph = 2 ∧ g.tx = q.tx then (g, 0) else (g.claimed q, 0)) = XX by rw [← HX.out, if_neg (show ¬ (q.tx ≤ g.la ∨ (g.ph ≠ 0 ∧ q.tx < g.tx)) by omega)])
  clear h2 h3
  by_cases h4 : g.tx = q.tx
  · have x1 : ((g.tx : Int) == (q.tx : Int)) = true := by simp [h4]
    have x2 : ((g.tx : Int) != (q.tx : Int)) = false := by simp [h4]
    rcases hph with hp | hp
    · have e : g.claimed q = ⟨g.bank, ⟨q.ow, g.tk⟩, 1, q.tx, g.la, q.tx, g.S, g.tk⟩ := by unfold Ag.claimed; exact if_neg (by omega)
      obtain rfl : (⟨g.bank, ⟨q.ow, g.tk⟩, 1, q.tx, g.la, q.tx, g.S, g.tk⟩, 0) = XX := by rw [← HX.out, if_neg (show ¬ (g.ph = 2 ∧ g.tx = q.tx) by omega), e]
      have p0 : ((g.ph : Int) == 0) = false := by simp [hp]
      have n0 : ((g.ph : Int) != 0) = true := by simp [hp]
      have p1 : ((g.ph : Int) == 1) = true := by simp [hp]
      have n1 : ((g.ph : Int) != 1) = false := by simp [hp]
      have p2 : ((g.ph : Int) == 2) = false := by simp [hp]
      have n2 : ((g.ph : Int) != 2) = true := by simp [hp]
      clear e h4 HX hp
      go_upto_region 18 with fail
      clear q0 q1 q2 d1 d3 d4 d5
      have q0 : wz.cell? ⟨w.heap.size + 1, 0, none⟩ = some (.int .u16 (q.ow : Int)) := RQ.out.cells 0
      have q2 : wz.cell? ⟨w.heap.size + 1, 2, none⟩ = some (.int .u32 (q.tx : Int)) := RQ.out.cells 2
      have d1 : wz.cell? ⟨w.heap.size, 1, none⟩ = some (.int .u16 (g.l.o : Int)) := RA.out.cells 1
      have d2 : wz.cell? ⟨w.heap.size, 2, none⟩ = some (.int .i64 g.l.l) := RA.out.cells 2
      have d3 : wz.cell? ⟨w.heap.size, 3, none⟩ = some (.int .u8 (g.ph : Int)) := RA.out.cells 3
      have d4 : wz.cell? ⟨w.heap.size, 4, none⟩ = some (.int .u32 (g.tx : Int)) := RA.out.cells 4
      have d6 : wz.cell? ⟨w.heap.size, 6, none⟩ = some (.int .u32 (s1.tx : Int)) := RA.out.cells 6
      have d31 : wz.cell? ⟨w.heap.size, 31, none⟩ = some (.int .i64 g.tk) := RA.out.cell (agL_tk I2.out.C25)
      have f1 := RA.out.frozen 1
      have f2 := RA.out.frozen 2
      have f3 := RA.out.frozen 3
      have f4 := RA.out.frozen 4
      have f6 := RA.out.frozen 6
      have ltA := RA.out.lt
      have ltQ := RQ.out.lt
      go_upto_region 38 with fail
      obtain ⟨w7, hw7⟩ : ∃ w_q_, w_q_ = ((((wz.setCell ⟨w.heap.size, 3, none⟩ (.int .u8 1)).setCell ⟨w.heap.size, 4, none⟩ (.int .u32 (q.tx : Int))).setCell ⟨w.heap.size, 6, none⟩ (.int .u32 (q.tx : Int))).setCell ⟨w.heap.size, 1, none⟩ (.int .u16 (q.ow : Int))).setCell ⟨w.heap.size, 2, none⟩ (.int .i64 g.tk) := ⟨_, rfl⟩
      rw [← hw7]
      have k7 : Only w.heap.size wz w7 := by rw [hw7]; exact (((((Only.refl _ _).set _).set _).set _).set _).set _
      have R7 : Hid (RowAt w7 w.heap.size 35 (agC A1 c1 ⟨q.tx, s1.hs, s1.bs⟩ ⟨g.bank, ⟨q.ow, g.tk⟩, 1, q.tx, g.la, q.tx, g.S, g.tk⟩)) := Lib.hid (by
        have h9 := ((((RA.out.set 3 (.int .u8 1)).set 4 (.int .u32 (q.tx : Int))).set 6 (.int .u32 (q.tx : Int))).set 1 (.int .u16 (q.ow : Int))).set 2 (.int .i64 g.tk)
        rw [hw7]
        exact h9)
      have i7 := I2.out.only k7 (by omega)
      have I7 := Lib.hid ((i7.staged ⟨q.tx, s1.hs, s1.bs⟩ (i7.st.retx HQ.out.tx)).with ⟨q.ow, g.tk⟩ 1 q.tx g.la ⟨HQ.out.ow, I2.out.tk.1, I2.out.tk.2⟩ (by decide) HQ.out.tx I2.out.la)
      have HC7 : Hid ((agC A1 c1 ⟨q.tx, s1.hs, s1.bs⟩ ⟨g.bank, ⟨q.ow, g.tk⟩, 1, q.tx, g.la, q.tx, g.S, g.tk⟩).length = 32) := Lib.hid I7.out.C32
      replace R2 := Lib.hid (R2.out.only k7 (by omega))
      replace B2 := Lib.hid (k7.to B2.out (Nat.le_refl _))
      replace hz2 : w0.heap.size ≤ w7.heap.size := by rw [k7.size]; exact hz2
      clear hw7 k7 i7 RA q0 q2 d1 d2 d3 d4 d6 d31 f1 f2 f3 f4 f6 ltA ltQ I2
      go_wp2_with (first | (refine wpList_load_var rfl 35 (.tmp 2) rfl (w.heap.size) rfl _ _ 32 R7.out Try.underlying35 rfl size_32 HC7.out ?_) | (refine wpList_store_var rfl 35 (.tmp 4) (.tmp 192) rfl (w.heap.size + 2) _ (agC A1 c1 ⟨q.tx, s1.hs, s1.bs⟩ ⟨g.bank, ⟨q.ow, g.tk⟩, 1, q.tx, g.la, q.tx, g.S, g.tk⟩) 32 rfl rfl R2.out size_32 (by first | rfl | exact HCO.out) HC7.out (agC_one _) ?_; intro w_5 r_5 k_5; have R_5 := Lib.hid r_5; have K_5 := Lib.hid k_5; clear r_5 k_5))
      exact bodyPost_ret (results_cell_tmp rfl _ _ (w.heap.size + 2) 35 _ (0, 0) _ rfl R_5.out Try.underlying35 rfl (by rw [size_32, List.size_toArray, HC7.out])) rfl ⟨A1, c1, ⟨q.tx, s1.hs, s1.bs⟩, rfl, (I7.out.only K_5.out (by omega)).more (by omega), K_5.out.to B2.out (by omega)⟩
    · obtain rfl : (g, 0) = XX := by rw [← HX.out, if_pos ⟨hp, h4⟩]
      have p0 : ((g.ph : Int) == 0) = false := by simp [hp]
      have n0 : ((g.ph : Int) != 0) = true := by simp [hp]
      have p1 : ((g.ph : Int) == 1) = false := by simp [hp]
      have n1 : ((g.ph : Int) != 1) = true := by simp [hp]
      have p2 : ((g.ph : Int) == 2) = true := by simp [hp]
      have n2 : ((g.ph : Int) != 2) = false := by simp [hp]
      clear h4 HX hp
      go_upto_region 15 with fail
      clear q0 q1 q2 d1 d3 d4 d5
      go_wp2_with (first | (refine wpList_load_var rfl 35 (.tmp 2) rfl (w.heap.size) rfl _ _ 32 RA.out Try.underlying35 rfl size_32 HC.out ?_) | (refine wpList_store_var rfl 35 (.tmp 4) (.tmp 92) rfl (w.heap.size + 2) _ (agC A1 c1 s1 g) 32 rfl rfl R2.out size_32 (by first | rfl | exact HCO.out) HC.out (agC_one _) ?_; intro w_5 r_5 k_5; have R_5 := Lib.hid r_5; have K_5 := Lib.hid k_5; clear r_5 k_5))
      exact bodyPost_ret (results_cell_tmp rfl _ _ (w.heap.size + 2) 35 _ (0, 0) _ rfl R_5.out Try.underlying35 rfl (by rw [size_32, List.size_toArray, HC.out])) rfl ⟨A1, c1, s1, rfl, (I2.out.only K_5.out (by omega)).more (by omega), K_5.out.to B2.out (by omega)⟩
  · have x1 : ((g.tx : Int) == (q.tx : Int)) = false := beq_eq_false_iff_ne.2 (by omega)
    have x2 : ((g.tx : Int) != (q.tx : Int)) = true := bne_iff_ne.2 (by omega)
    have e : g.claimed q = ⟨g.bank, ⟨q.ow, g.tk⟩, 1, q.tx, g.la, q.tx, ss0, g.tk⟩ := by unfold Ag.claimed; exact if_pos (.inr (by omega))
    obtain rfl : (⟨g.bank, ⟨q.ow, g.tk⟩, 1, q.tx, g.la, q.tx, ss0, g.tk⟩, 0) = XX := by rw [← HX.out, if_neg (show ¬ (g.ph = 2 ∧ g.tx = q.tx) by omega), e]
    rcases hph with hp | hp
    · have p0 : ((g.ph : Int) == 0) = false := by simp [hp]
      have n0 : ((g.ph : Int) != 0) = true := by simp [hp]
      have p1 : ((g.ph : Int) == 1) = true := by simp [hp]
      have n1 : ((g.ph : Int) != 1) = false := by simp [hp]
      have p2 : ((g.ph : Int) == 2) = false := by simp [hp]
      have n2 : ((g.ph : Int) != 2) = true := by simp [hp]
      clear e h4 HX hp
      have kf := Lib.hid (fun W (hW : Below wz.heap.size wz W) => rfreed_any W (I2.out.to hW))
      have HF : Hid ((agC A1 c1 Stv.zero g.freed).length = 32) := Lib.hid I2.out.freed.C32
      go_wp2_with (refine wpList_load_var rfl 35 (.tmp 2) rfl (w.heap.size) rfl _ _ 32 RA.out Try.underlying35 rfl size_32 HC.out ?_)
      with_reducible refine (kf.out _ (Below.refl _ _)).mono ?_
      rintro e6 w6 ⟨rfl, hb6⟩
      replace RA := Lib.hid (RA.out.to hb6)
      replace RQ := Lib.hid (RQ.out.to hb6)
      replace R2 := Lib.hid (R2.out.to hb6)
      replace I2 := Lib.hid (show AgIs A1 c1 Stv.zero g.freed w6 _ from I2.out.freed.to hb6)
      replace B2 := Lib.hid (B2.out.trans (hb6.mono B2.out.size))
      replace hz2 := Nat.le_trans hz2 hb6.size
      clear hb6 kf q0 q1 q2 d1 d3 d4 d5
      go_upto_region 18 with (refine wpList_store_var rfl 35 (.tmp 2) (.tmp 104) rfl w.heap.size _ (agC A1 c1 Stv.zero g.freed) 32 rfl rfl RA.out size_32 HC.out HF.out (agC_one _) ?_; intro w_7 r_7 k_7; have R_7 := Lib.hid r_7; have K_7 := Lib.hid k_7; clear r_7 k_7)
      replace RQ := Lib.hid (RQ.out.only K_7.out (by omega))
      replace R2 := Lib.hid (R2.out.only K_7.out (by omega))
      replace I2 := Lib.hid (I2.out.only K_7.out (by omega))
      replace B2 := Lib.hid (K_7.out.to B2.out (Nat.le_refl _))
      replace hz2 : w0.heap.size ≤ w_7.heap.size := by rw [K_7.out.size]; exact hz2
      replace RA := R_7
      clear K_7 R_7 w6 wz
      rename World => wz
      try simp only [Act.put]
      have q0 : wz.cell? ⟨w.heap.size + 1, 0, none⟩ = some (.int .u16 (q.ow : Int)) := RQ.out.cells 0
      have q2 : wz.cell? ⟨w.heap.size + 1, 2, none⟩ = some (.int .u32 (q.tx : Int)) := RQ.out.cells 2
      have d1 : wz.cell? ⟨w.heap.size, 1, none⟩ = some (.int .u16 (g.freed.l.o : Int)) := RA.out.cells 1
      have d2 : wz.cell? ⟨w.heap.size, 2, none⟩ = some (.int .i64 g.freed.l.l) := RA.out.cells 2
      have d3 : wz.cell? ⟨w.heap.size, 3, none⟩ = some (.int .u8 (g.freed.ph : Int)) := RA.out.cells 3
      have d4 : wz.cell? ⟨w.heap.size, 4, none⟩ = some (.int .u32 (g.freed.tx : Int)) := RA.out.cells 4
      have d6 : wz.cell? ⟨w.heap.size, 6, none⟩ = some (.int .u32 (Stv.zero.tx : Int)) := RA.out.cells 6
      have d31 : wz.cell? ⟨w.heap.size, 31, none⟩ = some (.int .i64 g.tk) := RA.out.cell (agL_tk I2.out.C25)
      have f1 := RA.out.frozen 1
      have f2 := RA.out.frozen 2
      have f3 := RA.out.frozen 3
      have f4 := RA.out.frozen 4
      have f6 := RA.out.frozen 6
      have ltA := RA.out.lt
      have ltQ := RQ.out.lt
      go_upto_region 38 with fail
      obtain ⟨w7, hw7⟩ : ∃ w_q_, w_q_ = ((((wz.setCell ⟨w.heap.size, 3, none⟩ (.int .u8 1)).setCell ⟨w.heap.size, 4, none⟩ (.int .u32 (q.tx : Int))).setCell ⟨w.heap.size, 6, none⟩ (.int .u32 (q.tx : Int))).setCell ⟨w.heap.size, 1, none⟩ (.int .u16 (q.ow : Int))).setCell ⟨w.heap.size, 2, none⟩ (.int .i64 g.tk) := ⟨_, rfl⟩
      rw [← hw7]
      have k7 : Only w.heap.size wz w7 := by rw [hw7]; exact (((((Only.refl _ _).set _).set _).set _).set _).set _
      have R7 : Hid (RowAt w7 w.heap.size 35 (agC A1 c1 ⟨q.tx, Stv.zero.hs, Stv.zero.bs⟩ ⟨g.bank, ⟨q.ow, g.tk⟩, 1, q.tx, g.la, q.tx, g.freed.S, g.tk⟩)) := Lib.hid (by
        have h9 := ((((RA.out.set 3 (.int .u8 1)).set 4 (.int .u32 (q.tx : Int))).set 6 (.int .u32 (q.tx : Int))).set 1 (.int .u16 (q.ow : Int))).set 2 (.int .i64 g.tk)
        rw [hw7]
        exact h9)
      have i7 := I2.out.only k7 (by omega)
      have I7 := Lib.hid ((i7.staged ⟨q.tx, Stv.zero.hs, Stv.zero.bs⟩ (i7.st.retx HQ.out.tx)).with ⟨q.ow, g.tk⟩ 1 q.tx g.la ⟨HQ.out.ow, I2.out.tk.1, I2.out.tk.2⟩ (by decide) HQ.out.tx I2.out.la)
      have HC7 : Hid ((agC A1 c1 ⟨q.tx, Stv.zero.hs, Stv.zero.bs⟩ ⟨g.bank, ⟨q.ow, g.tk⟩, 1, q.tx, g.la, q.tx, g.freed.S, g.tk⟩).length = 32) := Lib.hid I7.out.C32
      replace R2 := Lib.hid (R2.out.only k7 (by omega))
      replace B2 := Lib.hid (k7.to B2.out (Nat.le_refl _))
      replace hz2 : w0.heap.size ≤ w7.heap.size := by rw [k7.size]; exact hz2
      clear hw7 k7 i7 RA q0 q2 d1 d2 d3 d4 d6 d31 f1 f2 f3 f4 f6 ltA ltQ I2
      go_wp2_with (first | (refine wpList_load_var rfl 35 (.tmp 2) rfl (w.heap.size) rfl _ _ 32 R7.out Try.underlying35 rfl size_32 HC7.out ?_) | (refine wpList_store_var rfl 35 (.tmp 4) (.tmp 192) rfl (w.heap.size + 2) _ (agC A1 c1 ⟨q.tx, Stv.zero.hs, Stv.zero.bs⟩ ⟨g.bank, ⟨q.ow, g.tk⟩, 1, q.tx, g.la, q.tx, g.freed.S, g.tk⟩) 32 rfl rfl R2.out size_32 (by first | rfl | exact HCO.out) HC7.out (agC_one _) ?_; intro w_5 r_5 k_5; have R_5 := Lib.hid r_5; have K_5 := Lib.hid k_5; clear r_5 k_5))
      exact bodyPost_ret (results_cell_tmp rfl _ _ (w.heap.size + 2) 35 _ (0, 0) _ rfl R_5.out Try.underlying35 rfl (by rw [size_32, List.size_toArray, HC7.out])) rfl ⟨A1, c1, ⟨q.tx, Stv.zero.hs, Stv.zero.bs⟩, rfl, (I7.out.only K_5.out (by omega)).more (by omega), K_5.out.to B2.out (by omega)⟩
    · have p0 : ((g.ph : Int) == 0) = false := by simp [hp]
      have n0 : ((g.ph : Int) != 0) = true := by simp [hp]
      have p1 : ((g.ph : Int) == 1) = false := by simp [hp]
      have n1 : ((g.ph : Int) != 1) = true := by simp [hp]
      have p2 : ((g.ph : Int) == 2) = true := by simp [hp]
      have n2 : ((g.ph : Int) != 2) = false := by simp [hp]
      clear e h4 HX hp
      have kf := Lib.hid (fun W (hW : Below wz.heap.size wz W) => rfreed_any W (I2.out.to hW))
      have HF : Hid ((agC A1 c1 Stv.zero g.freed).length = 32) := Lib.hid I2.out.freed.C32
      go_wp2_with (refine wpList_load_var rfl 35 (.tmp 2) rfl (w.heap.size) rfl _ _ 32 RA.out Try.underlying35 rfl size_32 HC.out ?_)
      with_reducible refine (kf.out _ (Below.refl _ _)).mono ?_
      rintro e6 w6 ⟨rfl, hb6⟩
      replace RA := Lib.hid (RA.out.to hb6)
      replace RQ := Lib.hid (RQ.out.to hb6)
      replace R2 := Lib.hid (R2.out.to hb6)
      replace I2 := Lib.hid (show AgIs A1 c1 Stv.zero g.freed w6 _ from I2.out.freed.to hb6)
      replace B2 := Lib.hid (B2.out.trans (hb6.mono B2.out.size))
      replace hz2 := Nat.le_trans hz2 hb6.size
      clear hb6 kf q0 q1 q2 d1 d3 d4 d5
      go_upto_region 18 with (refine wpList_store_var rfl 35 (.tmp 2) (.tmp 104) rfl w.heap.size _ (agC A1 c1 Stv.zero g.freed) 32 rfl rfl RA.out size_32 HC.out HF.out (agC_one _) ?_; intro w_7 r_7 k_7; have R_7 := Lib.hid r_7; have K_7 := Lib.hid k_7; clear r_7 k_7)
      replace RQ := Lib.hid (RQ.out.only K_7.out (by omega))
      replace R2 := Lib.hid (R2.out.only K_7.out (by omega))
      replace I2 := Lib.hid (I2.out.only K_7.out (by omega))
      replace B2 := Lib.hid (K_7.out.to B2.out (Nat.le_refl _))
      replace hz2 : w0.heap.size ≤ w_7.heap.size := by rw [K_7.out.size]; exact hz2
      replace RA := R_7
      clear K_7 R_7 w6 wz
      rename World => wz
      try simp only [Act.put]
      have q0 : wz.cell? ⟨w.heap.size + 1, 0, none⟩ = some (.int .u16 (q.ow : Int)) := RQ.out.cells 0
      have q2 : wz.cell? ⟨w.heap.size + 1, 2, none⟩ = some (.int .u32 (q.tx : Int)) := RQ.out.cells 2
      have d1 : wz.cell? ⟨w.heap.size, 1, none⟩ = some (.int .u16 (g.freed.l.o : Int)) := RA.out.cells 1
      have d2 : wz.cell? ⟨w.heap.size, 2, none⟩ = some (.int .i64 g.freed.l.l) := RA.out.cells 2
      have d3 : wz.cell? ⟨w.heap.size, 3, none⟩ = some (.int .u8 (g.freed.ph : Int)) := RA.out.cells 3
      have d4 : wz.cell? ⟨w.heap.size, 4, none⟩ = some (.int .u32 (g.freed.tx : Int)) := RA.out.cells 4
      have d6 : wz.cell? ⟨w.heap.size, 6, none⟩ = some (.int .u32 (Stv.zero.tx : Int)) := RA.out.cells 6
      have d31 : wz.cell? ⟨w.heap.size, 31, none⟩ = some (.int .i64 g.tk) := RA.out.cell (agL_tk I2.out.C25)
      have f1 := RA.out.frozen 1
      have f2 := RA.out.frozen 2
      have f3 := RA.out.frozen 3
      have f4 := RA.out.frozen 4
      have f6 := RA.out.frozen 6
      have ltA := RA.out.lt
      have ltQ := RQ.out.lt
      go_upto_region 38 with fail
      obtain ⟨w7, hw7⟩ : ∃ w_q_, w_q_ = ((((wz.setCell ⟨w.heap.size, 3, none⟩ (.int .u8 1)).setCell ⟨w.heap.size, 4, none⟩ (.int .u32 (q.tx : Int))).setCell ⟨w.heap.size, 6, none⟩ (.int .u32 (q.tx : Int))).setCell ⟨w.heap.size, 1, none⟩ (.int .u16 (q.ow : Int))).setCell ⟨w.heap.size, 2, none⟩ (.int .i64 g.tk) := ⟨_, rfl⟩
      rw [← hw7]
      have k7 : Only w.heap.size wz w7 := by rw [hw7]; exact (((((Only.refl _ _).set _).set _).set _).set _).set _
      have R7 : Hid (RowAt w7 w.heap.size 35 (agC A1 c1 ⟨q.tx, Stv.zero.hs, Stv.zero.bs⟩ ⟨g.bank, ⟨q.ow, g.tk⟩, 1, q.tx, g.la, q.tx, g.freed.S, g.tk⟩)) := Lib.hid (by
        have h9 := ((((RA.out.set 3 (.int .u8 1)).set 4 (.int .u32 (q.tx : Int))).set 6 (.int .u32 (q.tx : Int))).set 1 (.int .u16 (q.ow : Int))).set 2 (.int .i64 g.tk)
        rw [hw7]
        exact h9)
      have i7 := I2.out.only k7 (by omega)
      have I7 := Lib.hid ((i7.staged ⟨q.tx, Stv.zero.hs, Stv.zero.bs⟩ (i7.st.retx HQ.out.tx)).with ⟨q.ow, g.tk⟩ 1 q.tx g.la ⟨HQ.out.ow, I2.out.tk.1, I2.out.tk.2⟩ (by decide) HQ.out.tx I2.out.la)
      have HC7 : Hid ((agC A1 c1 ⟨q.tx, Stv.zero.hs, Stv.zero.bs⟩ ⟨g.bank, ⟨q.ow, g.tk⟩, 1, q.tx, g.la, q.tx, g.freed.S, g.tk⟩).length = 32) := Lib.hid I7.out.C32
      replace R2 := Lib.hid (R2.out.only k7 (by omega))
      replace B2 := Lib.hid (k7.to B2.out (Nat.le_refl _))
      replace hz2 : w0.heap.size ≤ w7.heap.size := by rw [k7.size]; exact hz2
      clear hw7 k7 i7 RA q0 q2 d1 d2 d3 d4 d6 d31 f1 f2 f3 f4 f6 ltA ltQ I2
      go_wp2_with (first | (refine wpList_load_var rfl 35 (.tmp 2) rfl (w.heap.size) rfl _ _ 32 R7.out Try.underlying35 rfl size_32 HC7.out ?_) | (refine wpList_store_var rfl 35 (.tmp 4) (.tmp 192) rfl (w.heap.size + 2) _ (agC A1 c1 ⟨q.tx, Stv.zero.hs, Stv.zero.bs⟩ ⟨g.bank, ⟨q.ow, g.tk⟩, 1, q.tx, g.la, q.tx, g.freed.S, g.tk⟩) 32 rfl rfl R2.out size_32 (by first | rfl | exact HCO.out) HC7.out (agC_one _) ?_; intro w_5 r_5 k_5; have R_5 := Lib.hid r_5; have K_5 := Lib.hid k_5; clear r_5 k_5))
      exact bodyPost_ret (results_cell_tmp rfl _ _ (w.heap.size + 2) 35 _ (0, 0) _ rfl R_5.out Try.underlying35 rfl (by rw [size_32, List.size_toArray, HC7.out])) rfl ⟨A1, c1, ⟨q.tx, Stv.zero.hs, Stv.zero.bs⟩, rfl, (I7.out.only K_5.out (by omega)).more (by omega), K_5.out.to B2.out (by omega)⟩
set_option maxHeartbeats 4000000 in
theorem rdo_4 (w : World) (h : AgIs A c s g w base) (hr : g.right) (q : Cmd) (hq : q.Fit) (hv : q.v = 4) (h0 : ¬ (q.ow = 0 ∨ q.tx = 0 ∨ q.v < 1 ∨ 4 < q.v)) (h1 : ¬ (g.l.o ≠ 0 ∧ g.l.o ≠ q.ow)) :
    Calls Try.prog 29 #[.agg (agC A c s g).toArray, .agg (cmdL q).toArray] w (AgEE w (g.doit q)) := by
  obtain ⟨XX, hX⟩ : ∃ XX, g.doit q = XX := ⟨_, rfl⟩
  rw [hX]
  have HX := Lib.hid hX
  have ko := Lib.hid (fun W (hW : Below w.heap.size w W) => rcopy_any W (h.to hW))
  have HCO := Lib.hid h.C32
  have HQ := Lib.hid hq
  clear hX h hq
  rw [doit_4 h0 h1 hv] at HX
  have HR := Lib.hid hr
  have H1 := Lib.hid h1
  have u1 : ((q.ow : Int) == 0) = false := beq_eq_false_iff_ne.2 (by omega)
  have u2 : ((q.tx : Int) == 0) = false := beq_eq_false_iff_ne.2 (by omega)
  have u3 : decide ((q.v : Int) < 1) = false := decide_eq_false (by omega)
  have u4 : decide (4 < (q.v : Int)) = false := decide_eq_false (by omega)
  have v1 : ((q.v : Int) == 1) = false := by simp [hv]
  have v2 : ((q.v : Int) == 2) = false := by simp [hv]
  have v3 : ((q.v : Int) == 3) = false := by simp [hv]
  clear h0 h1 hr hv
  go_enter Try.func29, Try.ntmps29
  go_upto_region 1 with fail
  obtain ⟨w0, hw0⟩ : ∃ w_q_, w_q_ = ((w.alloc (.cells (agC A c s g).toArray 35)).alloc (.cells (cmdL q).toArray 41)).alloc (.cells z32 35) := ⟨_, rfl⟩
  rw [← hw0]
  have hin := in_acr w (agC A c s g) (cmdL q)
  rw [← hw0] at hin
  obtain ⟨r1, rq, r2, b0, z0⟩ := hin
  have R1 := Lib.hid r1
  have RQ := Lib.hid rq
  have R2 := Lib.hid r2
  have B0 := Lib.hid b0
  clear hw0 r1 r2 b0 rq
  go_wp2_with (refine wpList_load_var rfl 35 (.tmp 2) rfl (w.heap.size) rfl _ _ 32 R1.out Try.underlying35 rfl size_32 HCO.out ?_)
  with_reducible refine (ko.out _ B0.out).mono ?_
  rintro e1 w1 ⟨A1, c1, s1, rfl, i1, hb1⟩
  have I1 := Lib.hid i1
  have HC := Lib.hid i1.C32
  have H25 := Lib.hid i1.C25
  replace R1 := Lib.hid (R1.out.to hb1)
  replace RQ := Lib.hid (RQ.out.to hb1)
  replace R2 := Lib.hid (R2.out.to hb1)
  have B1 := Lib.hid (B0.out.trans (hb1.mono B0.out.size))
  have hz1 := hb1.size
  clear hb1 i1 ko
  go_upto_region 2 with (refine wpList_store_var rfl 35 (.tmp 2) (.tmp 9) rfl (w.heap.size) _ (agC A1 c1 s1 g) 32 rfl rfl R1.out size_32 (by first | rfl | exact HCO.out) HC.out (agC_one _) ?_; intro w_2 r_2 k_2; have R_2 := Lib.hid r_2; have K_2 := Lib.hid k_2; clear r_2 k_2)
  replace R2 := Lib.hid (R2.out.only K_2.out (by omega))
  replace RQ := Lib.hid (RQ.out.only K_2.out (by omega))
  have I2 := Lib.hid (I1.out.only K_2.out (by omega))
  have B2 := Lib.hid (K_2.out.to B1.out (Nat.le_refl _))
  have hz2 : w0.heap.size ≤ w_2.heap.size := by rw [K_2.out.size]; exact hz1
  have RA := R_2
  clear B1 I1 K_2 R1 R_2 B0 hz1 w1
  rename World => wz
  try simp only [Act.put]
  have q0 : wz.cell? ⟨w.heap.size + 1, 0, none⟩ = some (.int .u16 (q.ow : Int)) := RQ.out.cells 0
  have q1 : wz.cell? ⟨w.heap.size + 1, 1, none⟩ = some (.int .u8 (q.v : Int)) := RQ.out.cells 1
  have q2 : wz.cell? ⟨w.heap.size + 1, 2, none⟩ = some (.int .u32 (q.tx : Int)) := RQ.out.cells 2
  have d1 : wz.cell? ⟨w.heap.size, 1, none⟩ = some (.int .u16 (g.l.o : Int)) := RA.out.cells 1
  have d3 : wz.cell? ⟨w.heap.size, 3, none⟩ = some (.int .u8 (g.ph : Int)) := RA.out.cells 3
  have d4 : wz.cell? ⟨w.heap.size, 4, none⟩ = some (.int .u32 (g.tx : Int)) := RA.out.cells 4
  have d5 : wz.cell? ⟨w.heap.size, 5, none⟩ = some (.int .u32 (g.la : Int)) := RA.out.cells 5
  go_upto_region 4 with fail
  clear u1 u2 u3 u4
  go_cut [40] (fun x wx => x = .bool false ∧ wz = wx)
  case first =>
    by_cases h8 : g.l.o = 0
    · have u8 : ((g.l.o : Int) != 0) = false := by simp [h8]
      clear h8
      go_wp2
      go_meet
      case rel => exact ⟨rfl, rfl⟩
    · have u8 : ((g.l.o : Int) != 0) = true := bne_iff_ne.2 (by omega)
      have u9 : ((g.l.o : Int) != (q.ow : Int)) = false := by
        have : g.l.o = q.ow := by
          by_cases e : g.l.o = q.ow
          · exact e
          · exact absurd ⟨h8, e⟩ H1.out
        simp [this]
      clear h8
      go_wp2
      go_meet
      case rel => exact ⟨rfl, rfl⟩
  case rest =>
  obtain ⟨rfl, rfl⟩ := hcut
  by_cases h2 : q.tx ≤ g.la
  · have u1 : decide (q.tx ≤ g.la) = true := decide_eq_true h2
    obtain rfl : (g, 23) = XX := by rw [← HX.out, if_pos h2]
    clear h2 HX
    go_upto_region 8 with fail
    clear q0 q1 q2 d1 d3 d4 d5
    go_wp2_with (first | (refine wpList_load_var rfl 35 (.tmp 2) rfl (w.heap.size) rfl _ _ 32 RA.out Try.underlying35 rfl size_32 HC.out ?_) | (refine wpList_store_var rfl 35 (.tmp 4) (.tmp 49) rfl (w.heap.size + 2) _ (agC A1 c1 s1 g) 32 rfl rfl R2.out size_32 (by first | rfl | exact HCO.out) HC.out (agC_one _) ?_; intro w_5 r_5 k_5; have R_5 := Lib.hid r_5; have K_5 := Lib.hid k_5; clear r_5 k_5))
    exact bodyPost_ret (results_cell_tmp rfl _ _ (w.heap.size + 2) 35 _ (0, 0) _ rfl R_5.out Try.underlying35 rfl (by rw [size_32, List.size_toArray, HC.out])) rfl ⟨A1, c1, s1, rfl, (I2.out.only K_5.out (by omega)).more (by omega), K_5.out.to B2.out (by omega)⟩
  have u1 : decide (q.tx ≤ g.la) = false := decide_eq_false h2
  by_cases hp : g.ph = 0
  · have n0 : ((g.ph : Int) != 0) = false := by simp [hp]
    obtain rfl : (g, 0) = XX := by rw [← HX.out, if_neg h2, if_neg (fun z => z.1 hp)]
    clear h2 hp HX
    go_upto_region 38 with fail
    clear q0 q1 q2 d1 d3 d4 d5
    go_wp2_with (first | (refine wpList_load_var rfl 35 (.tmp 2) rfl (w.heap.size) rfl _ _ 32 RA.out Try.underlying35 rfl size_32 HC.out ?_) | (refine wpList_store_var rfl 35 (.tmp 4) (.tmp 192) rfl (w.heap.size + 2) _ (agC A1 c1 s1 g) 32 rfl rfl R2.out size_32 (by first | rfl | exact HCO.out) HC.out (agC_one _) ?_; intro w_5 r_5 k_5; have R_5 := Lib.hid r_5; have K_5 := Lib.hid k_5; clear r_5 k_5))
    exact bodyPost_ret (results_cell_tmp rfl _ _ (w.heap.size + 2) 35 _ (0, 0) _ rfl R_5.out Try.underlying35 rfl (by rw [size_32, List.size_toArray, HC.out])) rfl ⟨A1, c1, s1, rfl, (I2.out.only K_5.out (by omega)).more (by omega), K_5.out.to B2.out (by omega)⟩
  have n0 : ((g.ph : Int) != 0) = true := bne_iff_ne.2 (by omega)
  by_cases h4 : g.tx = q.tx
  · have x1 : ((g.tx : Int) == (q.tx : Int)) = true := by simp [h4]
    obtain rfl : (g.freed, 0) = XX := by rw [← HX.out, if_neg h2, if_pos ⟨hp, h4⟩]
    clear h2 hp h4 HX
    have kf := Lib.hid (fun W (hW : Below wz.heap.size wz W) => rfreed_any W (I2.out.to hW))
    have HF : Hid ((agC A1 c1 Stv.zero g.freed).length = 32) := Lib.hid I2.out.freed.C32
    go_wp2_with (refine wpList_load_var rfl 35 (.tmp 2) rfl (w.heap.size) rfl _ _ 32 RA.out Try.underlying35 rfl size_32 HC.out ?_)
    with_reducible refine (kf.out _ (Below.refl _ _)).mono ?_
    rintro e6 w6 ⟨rfl, hb6⟩
    replace RA := Lib.hid (RA.out.to hb6)
    replace RQ := Lib.hid (RQ.out.to hb6)
    replace R2 := Lib.hid (R2.out.to hb6)
    replace I2 := Lib.hid (show AgIs A1 c1 Stv.zero g.freed w6 _ from I2.out.freed.to hb6)
    replace B2 := Lib.hid (B2.out.trans (hb6.mono B2.out.size))
    replace hz2 := Nat.le_trans hz2 hb6.size
    clear hb6 kf q0 q1 q2 d1 d3 d4 d5
    go_upto_region 38 with (refine wpList_store_var rfl 35 (.tmp 2) (.tmp 61) rfl w.heap.size _ (agC A1 c1 Stv.zero g.freed) 32 rfl rfl RA.out size_32 HC.out HF.out (agC_one _) ?_; intro w_7 r_7 k_7; have R_7 := Lib.hid r_7; have K_7 := Lib.hid k_7; clear r_7 k_7)
    replace RQ := Lib.hid (RQ.out.only K_7.out (by omega))
    replace R2 := Lib.hid (R2.out.only K_7.out (by omega))
    replace I2 := Lib.hid (I2.out.only K_7.out (by omega))
    replace B2 := Lib.hid (K_7.out.to B2.out (Nat.le_refl _))
    replace hz2 : w0.heap.size ≤ w_7.heap.size := by rw [K_7.out.size]; exact hz2
    replace RA := R_7
    clear K_7 R_7 w6 wz
    rename World => wz
    try simp only [Act.put]
    go_wp2_with (first | (refine wpList_load_var rfl 35 (.tmp 2) rfl (w.heap.size) rfl _ _ 32 RA.out Try.underlying35 rfl size_32 HF.out ?_) | (refine wpList_store_var rfl 35 (.tmp 4) (.tmp 192) rfl (w.heap.size + 2) _ (agC A1 c1 Stv.zero g.freed) 32 rfl rfl R2.out size_32 (by first | rfl | exact HCO.out) HF.out (agC_one _) ?_; intro w_5 r_5 k_5; have R_5 := Lib.hid r_5; have K_5 := Lib.hid k_5; clear r_5 k_5))
    exact bodyPost_ret (results_cell_tmp rfl _ _ (w.heap.size + 2) 35 _ (0, 0) _ rfl R_5.out Try.underlying35 rfl (by rw [size_32, List.size_toArray, HF.out])) rfl ⟨A1, c1, Stv.zero, rfl, (I2.out.only K_5.out (by omega)).more (by omega), K_5.out.to B2.out (by omega)⟩
  · have x1 : ((g.tx : Int) == (q.tx : Int)) = false := beq_eq_false_iff_ne.2 (by omega)
    obtain rfl : (g, 0) = XX := by rw [← HX.out, if_neg h2, if_neg (fun z => h4 z.2)]
    clear h2 hp h4 HX
    go_upto_region 38 with fail
    clear q0 q1 q2 d1 d3 d4 d5
    go_wp2_with (first | (refine wpList_load_var rfl 35 (.tmp 2) rfl (w.heap.size) rfl _ _ 32 RA.out Try.underlying35 rfl size_32 HC.out ?_) | (refine wpList_store_var rfl 35 (.tmp 4) (.tmp 192) rfl (w.heap.size + 2) _ (agC A1 c1 s1 g) 32 rfl rfl R2.out size_32 (by first | rfl | exact HCO.out) HC.out (agC_one _) ?_; intro w_5 r_5 k_5; have R_5 := Lib.hid r_5; have K_5 := Lib.hid k_5; clear r_5 k_5))
    exact bodyPost_ret (results_cell_tmp rfl _ _ (w.heap.size + 2) 35 _ (0, 0) _ rfl R_5.out Try.underlying35 rfl (by rw [size_32, List.size_toArray, HC.out])) rfl ⟨A1, c1, s1, rfl, (I2.out.only K_5.out (by omega)).more (by omega), K_5.out.to B2.out (by omega)⟩
end
end Go.Proofs.Ytajbghjjpebndaa
