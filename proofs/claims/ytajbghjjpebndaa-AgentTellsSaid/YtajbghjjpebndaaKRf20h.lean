/- saucierref20.Do (prepare, commit; all): as plain agents. -/
import Derived.Test.YtajbghjjpebndaaKRf20c
import Derived.Test.YtajbghjjpebndaaQ24
import Derived.Test.YtajbghjjpebndaaQ21
import Derived.Test.YtajbghjjpebndaaKRf17o
import Derived.Test.YtajbghjjpebndaaQ17
import Derived.Test.YtajbghjjpebndaaKRf20g
namespace Go.Proofs.Ytajbghjjpebndaa
set_option maxRecDepth 100000
open Go.RowKit
set_option linter.unusedVariables false
set_option linter.unusedSimpArgs false
attribute [local go_sem] Later.cell Later.frozen setCell_twice
section
variable {A : Option Addr} {c base : Nat} {s : Stv} {g : Ag}
set_option maxHeartbeats 4000000 in
theorem rdo_2 (w : World) (h : AgIs A c s g w base) (hr : g.right) (q : Cmd) (hq : q.Fit) (hv : q.v = 2) (h0 : ¬ (q.ow = 0 ∨ q.tx = 0 ∨ q.v < 1 ∨ 4 < q.v)) (h1 : ¬ (g.l.o ≠ 0 ∧ g.l.o ≠ q.ow)) :
    Calls Try.prog 29 #[.agg (agC A c s g).toArray, .agg (cmdL q).toArray] w (AgEE w (g.doit q)) := by
  obtain ⟨XX, hX⟩ : ∃ XX, g.doit q = XX := ⟨_, rfl⟩
  rw [hX]
  have HX := Lib.hid hX
  have ko := Lib.hid (fun W (hW : Below w.heap.size w W) => rcopy_any W (h.to hW))
  have HCO := Lib.hid h.C32
  have HQ := Lib.hid hq
  clear hX h hq
  rw [doit_2 h0 h1 hv] at HX
  have HR := Lib.hid hr
  have H1 := Lib.hid h1
  have u1 : ((q.ow : Int) == 0) = false := beq_eq_false_iff_ne.2 (by omega)
  have u2 : ((q.tx : Int) == 0) = false := beq_eq_false_iff_ne.2 (by omega)
  have u3 : decide ((q.v : Int) < 1) = false := decide_eq_false (by omega)
  have u4 : decide (4 < (q.v : Int)) = false := decide_eq_false (by omega)
  have v1 : ((q.v : Int) == 1) = false := by simp [hv]
  have v2 : ((q.v : Int) == 2) = true := by simp [hv]
  clear h0 h1 hr hv
  go_enter Try.func29, Try.ntmps29
  go_upto_region 1 with fail
  obtain ⟨w0, hw0⟩ : ∃ w_q_, w_q_ = ((w.alloc (.cells (agC A c s g).toArray 35)).alloc (.cells (cmdL q).toArray 41)).alloc (.cells z32 35) := ⟨_, rfl⟩
  rw [← hw0]
  have hin := in_acr w (agC A c s g) (cmdL q)
  rw [← hw0] at hin
  obtain ⟨r1, rq, r2, b0, z0⟩ := hin
  have R1 := Lib.hid r1
  have RQ := Lib.hid rq
  have R2 := Lib.hid r2
  have B0 := Lib.hid b0
  clear hw0 r1 r2 b0 rq
  go_wp2_with (refine wpList_load_var rfl 35 (.tmp 2) rfl (w.heap.size) rfl _ _ 32 R1.out Try.underlying35 rfl size_32 HCO.out ?_)
  with_reducible refine (ko.out _ B0.out).mono ?_
  rintro e1 w1 ⟨A1, c1, s1, rfl, i1, hb1⟩
  have I1 := Lib.hid i1
  have HC := Lib.hid i1.C32
  have H25 := Lib.hid i1.C25
  replace R1 := Lib.hid (R1.out.to hb1)
  replace RQ := Lib.hid (RQ.out.to hb1)
  replace R2 := Lib.hid (R2.out.to hb1)
  have B1 := Lib.hid (B0.out.trans (hb1.mono B0.out.size))
  have hz1 := hb1.size
  clear hb1 i1 ko
  go_upto_region 2 with (refine wpList_store_var rfl 35 (.tmp 2) (.tmp 9) rfl (w.heap.size) _ (agC A1 c1 s1 g) 32 rfl rfl R1.out size_32 (by first | rfl | exact HCO.out) HC.out (agC_one _) ?_; intro w_2 r_2 k_2; have R_2 := Lib.hid r_2; have K_2 := Lib.hid k_2; clear r_2 k_2)
  replace R2 := Lib.hid (R2.out.only K_2.out (by omega))
  replace RQ := Lib.hid (RQ.out.only K_2.out (by omega))
  have I2 := Lib.hid (I1.out.only K_2.out (by omega))
  have B2 := Lib.hid (K_2.out.to B1.out (Nat.le_refl _))
  have hz2 : w0.heap.size ≤ w_2.heap.size := by rw [K_2.out.size]; exact hz1
  have RA := R_2
  clear B1 I1 K_2 R1 R_2 B0 hz1 w1
  rename World => wz
  try simp only [Act.put]
  have q0 : wz.cell? ⟨w.heap.size + 1, 0, none⟩ = some (.int .u16 (q.ow : Int)) := RQ.out.cells 0
  have q1 : wz.cell? ⟨w.heap.size + 1, 1, none⟩ = some (.int .u8 (q.v : Int)) := RQ.out.cells 1
  have q2 : wz.cell? ⟨w.heap.size + 1, 2, none⟩ = some (.int .u32 (q.tx : Int)) := RQ.out.cells 2
  have d1 : wz.cell? ⟨w.heap.size, 1, none⟩ = some (.int .u16 (g.l.o : Int)) := RA.out.cells 1
  have d3 : wz.cell? ⟨w.heap.size, 3, none⟩ = some (.int .u8 (g.ph : Int)) := RA.out.cells 3
  have d4 : wz.cell? ⟨w.heap.size, 4, none⟩ = some (.int .u32 (g.tx : Int)) := RA.out.cells 4
  have d5 : wz.cell? ⟨w.heap.size, 5, none⟩ = some (.int .u32 (g.la : Int)) := RA.out.cells 5
  go_upto_region 4 with fail
  clear u1 u2 u3 u4
  go_cut [40] (fun x wx => x = .bool false ∧ wz = wx)
  case first =>
    by_cases h8 : g.l.o = 0
    · have u8 : ((g.l.o : Int) != 0) = false := by simp [h8]
      clear h8
      go_wp2
      go_meet
      case rel => exact ⟨rfl, rfl⟩
    · have u8 : ((g.l.o : Int) != 0) = true := bne_iff_ne.2 (by omega)
      have u9 : ((g.l.o : Int) != (q.ow : Int)) = false := by
        have : g.l.o = q.ow := by
          by_cases e : g.l.o = q.ow
          · exact e
          · exact absurd ⟨h8, e⟩ H1.out
        simp [this]
      clear h8
      go_wp2
      go_meet
      case rel => exact ⟨rfl, rfl⟩
  case rest =>
  obtain ⟨rfl, rfl⟩ := hcut
  have q3 : wz.cell? ⟨w.heap.size + 1, 3, none⟩ = some (.int .u16 (q.n : Int)) := RQ.out.cells 3
  have q4 : wz.cell? ⟨w.heap.size + 1, 4, none⟩ = some (.int .u32 (q.ck : Int)) := RQ.out.cells 4
  by_cases hp : g.ph = 1
  rotate_left
  · by_cases hp2 : g.ph = 2
    · by_cases h4 : g.tx = q.tx
      · have x1 : ((g.tx : Int) == (q.tx : Int)) = true := by simp [h4]
        have p2 : ((g.ph : Int) == 2) = true := by simp [hp2]
        obtain rfl : (g, 0) = XX := by rw [← HX.out, if_pos ⟨hp2, h4⟩]
        clear h4 hp hp2 HX q3 q4
        go_upto_region 24 with fail
        clear q0 q1 q2 d1 d3 d4 d5
        go_wp2_with (first | (refine wpList_load_var rfl 35 (.tmp 2) rfl (w.heap.size) rfl _ _ 32 RA.out Try.underlying35 rfl size_32 HC.out ?_) | (refine wpList_store_var rfl 35 (.tmp 4) (.tmp 131) rfl (w.heap.size + 2) _ (agC A1 c1 s1 g) 32 rfl rfl R2.out size_32 (by first | rfl | exact HCO.out) HC.out (agC_one _) ?_; intro w_5 r_5 k_5; have R_5 := Lib.hid r_5; have K_5 := Lib.hid k_5; clear r_5 k_5))
        exact bodyPost_ret (results_cell_tmp rfl _ _ (w.heap.size + 2) 35 _ (0, 0) _ rfl R_5.out Try.underlying35 rfl (by rw [size_32, List.size_toArray, HC.out])) rfl ⟨A1, c1, s1, rfl, (I2.out.only K_5.out (by omega)).more (by omega), K_5.out.to B2.out (by omega)⟩
      · have x1 : ((g.tx : Int) == (q.tx : Int)) = false := beq_eq_false_iff_ne.2 (by omega)
        have p2 : ((g.ph : Int) == 2) = true := by simp [hp2]
        have n1 : ((g.ph : Int) != 1) = true := bne_iff_ne.2 (by omega)
        obtain rfl : (g, 23) = XX := by rw [← HX.out, if_neg (show ¬ (g.ph = 2 ∧ g.tx = q.tx) by omega), if_pos (.inl hp)]
        clear h4 hp hp2 HX q3 q4
        go_upto_region 26 with fail
        clear q0 q1 q2 d1 d3 d4 d5
        go_wp2_with (first | (refine wpList_load_var rfl 35 (.tmp 2) rfl (w.heap.size) rfl _ _ 32 RA.out Try.underlying35 rfl size_32 HC.out ?_) | (refine wpList_store_var rfl 35 (.tmp 4) (.tmp 153) rfl (w.heap.size + 2) _ (agC A1 c1 s1 g) 32 rfl rfl R2.out size_32 (by first | rfl | exact HCO.out) HC.out (agC_one _) ?_; intro w_5 r_5 k_5; have R_5 := Lib.hid r_5; have K_5 := Lib.hid k_5; clear r_5 k_5))
        exact bodyPost_ret (results_cell_tmp rfl _ _ (w.heap.size + 2) 35 _ (0, 0) _ rfl R_5.out Try.underlying35 rfl (by rw [size_32, List.size_toArray, HC.out])) rfl ⟨A1, c1, s1, rfl, (I2.out.only K_5.out (by omega)).more (by omega), K_5.out.to B2.out (by omega)⟩
    · have p2 : ((g.ph : Int) == 2) = false := beq_eq_false_iff_ne.2 (by omega)
      have n1 : ((g.ph : Int) != 1) = true := bne_iff_ne.2 (by omega)
      obtain rfl : (g, 23) = XX := by rw [← HX.out, if_neg (show ¬ (g.ph = 2 ∧ g.tx = q.tx) by omega), if_pos (.inl hp)]
      clear hp hp2 HX q3 q4
      go_upto_region 26 with fail
      clear q0 q1 q2 d1 d3 d4 d5
      go_wp2_with (first | (refine wpList_load_var rfl 35 (.tmp 2) rfl (w.heap.size) rfl _ _ 32 RA.out Try.underlying35 rfl size_32 HC.out ?_) | (refine wpList_store_var rfl 35 (.tmp 4) (.tmp 153) rfl (w.heap.size + 2) _ (agC A1 c1 s1 g) 32 rfl rfl R2.out size_32 (by first | rfl | exact HCO.out) HC.out (agC_one _) ?_; intro w_5 r_5 k_5; have R_5 := Lib.hid r_5; have K_5 := Lib.hid k_5; clear r_5 k_5))
      exact bodyPost_ret (results_cell_tmp rfl _ _ (w.heap.size + 2) 35 _ (0, 0) _ rfl R_5.out Try.underlying35 rfl (by rw [size_32, List.size_toArray, HC.out])) rfl ⟨A1, c1, s1, rfl, (I2.out.only K_5.out (by omega)).more (by omega), K_5.out.to B2.out (by omega)⟩
  have p2 : ((g.ph : Int) == 2) = false := beq_eq_false_iff_ne.2 (by omega)
  have n1 : ((g.ph : Int) != 1) = false := by simp [hp]
  by_cases h4 : g.tx = q.tx
  rotate_left
  · have x2 : ((g.tx : Int) != (q.tx : Int)) = true := bne_iff_ne.2 (by omega)
    obtain rfl : (g, 23) = XX := by rw [← HX.out, if_neg (show ¬ (g.ph = 2 ∧ g.tx = q.tx) by omega), if_pos (.inr (.inl h4))]
    clear h4 hp HX q3 q4
    go_upto_region 26 with fail
    clear q0 q1 q2 d1 d3 d4 d5
    go_wp2_with (first | (refine wpList_load_var rfl 35 (.tmp 2) rfl (w.heap.size) rfl _ _ 32 RA.out Try.underlying35 rfl size_32 HC.out ?_) | (refine wpList_store_var rfl 35 (.tmp 4) (.tmp 153) rfl (w.heap.size + 2) _ (agC A1 c1 s1 g) 32 rfl rfl R2.out size_32 (by first | rfl | exact HCO.out) HC.out (agC_one _) ?_; intro w_5 r_5 k_5; have R_5 := Lib.hid r_5; have K_5 := Lib.hid k_5; clear r_5 k_5))
    exact bodyPost_ret (results_cell_tmp rfl _ _ (w.heap.size + 2) 35 _ (0, 0) _ rfl R_5.out Try.underlying35 rfl (by rw [size_32, List.size_toArray, HC.out])) rfl ⟨A1, c1, s1, rfl, (I2.out.only K_5.out (by omega)).more (by omega), K_5.out.to B2.out (by omega)⟩
  have x2 : ((g.tx : Int) != (q.tx : Int)) = false := by simp [h4]
  obtain ⟨b3, hb3⟩ : ∃ b : Bool, decide (SSW g.S q.n q.ck) = b := ⟨_, rfl⟩
  have kw := Lib.hid (fun W (hW : Below wz.heap.size wz W) => rwhole_S (q.n : Int) q.ck b3 W (I2.out.st.to hW) (by rw [← hb3]; exact decide_eq_true_iff))
  have HX2 : Hid ((if ¬ SSW g.S q.n q.ck then (g, 23) else (⟨g.bank, ⟨g.l.o, -1⟩, 2, g.tx, g.la, g.stx, g.S, g.tk⟩, 0)) = XX) := Lib.hid (by
    rw [← HX.out, if_neg (show ¬ (g.ph = 2 ∧ g.tx = q.tx) by omega)]
    by_cases z : SSW g.S q.n q.ck
    · rw [if_neg (fun y => y z), if_neg (fun y => by rcases y with y | y | y; exact y hp; exact y h4; exact y z)]
    · rw [if_pos z, if_pos (.inr (.inr z))])
  have HB3 := Lib.hid hb3
  have HG := Lib.hid (RA.out.stage H25.out)
  have HZ : Hid ((Try.prog.info? 33).map (·.size) = some s1.C.length) := Lib.hid (by rw [H25.out]; exact size_25)
  have hqn := HQ.out.n
  clear h4 hp HX hb3
  go_wp2_with (refine wpList_load_mid_g (by kernel_rfl) 33 (.tmp 143) rfl w.heap.size 6 rfl s1.C _ HG.out Try.underlying33 rfl HZ.out ?_)
  with_reducible refine (kw.out _ (Below.refl _ _)).mono ?_
  rintro e6 w6 ⟨rfl, hb6⟩
  replace RA := Lib.hid (RA.out.to hb6)
  replace R2 := Lib.hid (R2.out.to hb6)
  replace I2 := Lib.hid (I2.out.to hb6)
  replace B2 := Lib.hid (B2.out.trans (hb6.mono B2.out.size))
  replace hz2 := Nat.le_trans hz2 hb6.size
  clear hb6 kw q0 q1 q2 q3 q4 d1 d3 d4 d5 HG HZ RQ p2 n1 x2 wz
  rename World => wz
  cases b3
  · obtain rfl : (g, 23) = XX := by rw [← HX2.out, if_pos (of_decide_eq_false HB3.out)]
    go_upto_region 26 with fail
    go_wp2_with (first | (refine wpList_load_var rfl 35 (.tmp 2) rfl (w.heap.size) rfl _ _ 32 RA.out Try.underlying35 rfl size_32 HC.out ?_) | (refine wpList_store_var rfl 35 (.tmp 4) (.tmp 153) rfl (w.heap.size + 2) _ (agC A1 c1 s1 g) 32 rfl rfl R2.out size_32 (by first | rfl | exact HCO.out) HC.out (agC_one _) ?_; intro w_5 r_5 k_5; have R_5 := Lib.hid r_5; have K_5 := Lib.hid k_5; clear r_5 k_5))
    exact bodyPost_ret (results_cell_tmp rfl _ _ (w.heap.size + 2) 35 _ (0, 0) _ rfl R_5.out Try.underlying35 rfl (by rw [size_32, List.size_toArray, HC.out])) rfl ⟨A1, c1, s1, rfl, (I2.out.only K_5.out (by omega)).more (by omega), K_5.out.to B2.out (by omega)⟩
  · obtain rfl : (⟨g.bank, ⟨g.l.o, -1⟩, 2, g.tx, g.la, g.stx, g.S, g.tk⟩, 0) = XX := by rw [← HX2.out, if_neg (fun y => y (of_decide_eq_true HB3.out))]
    clear HX2 HB3
    have d2 : wz.cell? ⟨w.heap.size, 2, none⟩ = some (.int .i64 g.l.l) := RA.out.cells 2
    have d3 : wz.cell? ⟨w.heap.size, 3, none⟩ = some (.int .u8 (g.ph : Int)) := RA.out.cells 3
    have f2 := RA.out.frozen 2
    have f3 := RA.out.frozen 3
    have ltA := RA.out.lt
    go_upto_region 38 with fail
    obtain ⟨w7, hw7⟩ : ∃ w_q_, w_q_ = (wz.setCell ⟨w.heap.size, 3, none⟩ (.int .u8 2)).setCell ⟨w.heap.size, 2, none⟩ (.int .i64 (-1)) := ⟨_, rfl⟩
    rw [← hw7]
    have k7 : Only w.heap.size wz w7 := by rw [hw7]; exact ((Only.refl _ _).set _).set _
    have R7 : Hid (RowAt w7 w.heap.size 35 (agC A1 c1 s1 ⟨g.bank, ⟨g.l.o, -1⟩, 2, g.tx, g.la, g.stx, g.S, g.tk⟩)) := Lib.hid (by
      rw [hw7]
      exact (RA.out.set 3 (.int .u8 2)).set 2 (.int .i64 (-1)))
    have I7 := Lib.hid ((I2.out.only k7 (by omega)).with ⟨g.l.o, -1⟩ 2 g.tx g.la ⟨I2.out.o, (show (-9223372036854775808 : Int) ≤ -1 by decide), (show (-1 : Int) ≤ 9223372036854775807 by decide)⟩ (by decide) I2.out.tx I2.out.la)
    have HC7 : Hid ((agC A1 c1 s1 ⟨g.bank, ⟨g.l.o, -1⟩, 2, g.tx, g.la, g.stx, g.S, g.tk⟩).length = 32) := Lib.hid I7.out.C32
    replace R2 := Lib.hid (R2.out.only k7 (by omega))
    replace B2 := Lib.hid (k7.to B2.out (Nat.le_refl _))
    replace hz2 : w0.heap.size ≤ w7.heap.size := by rw [k7.size]; exact hz2
    clear hw7 k7 RA d2 d3 f2 f3 ltA I2
    go_wp2_with (first | (refine wpList_load_var rfl 35 (.tmp 2) rfl (w.heap.size) rfl _ _ 32 R7.out Try.underlying35 rfl size_32 HC7.out ?_) | (refine wpList_store_var rfl 35 (.tmp 4) (.tmp 192) rfl (w.heap.size + 2) _ (agC A1 c1 s1 ⟨g.bank, ⟨g.l.o, -1⟩, 2, g.tx, g.la, g.stx, g.S, g.tk⟩) 32 rfl rfl R2.out size_32 (by first | rfl | exact HCO.out) HC7.out (agC_one _) ?_; intro w_5 r_5 k_5; have R_5 := Lib.hid r_5; have K_5 := Lib.hid k_5; clear r_5 k_5))
    exact bodyPost_ret (results_cell_tmp rfl _ _ (w.heap.size + 2) 35 _ (0, 0) _ rfl R_5.out Try.underlying35 rfl (by rw [size_32, List.size_toArray, HC7.out])) rfl ⟨A1, c1, s1, rfl, (I7.out.only K_5.out (by omega)).more (by omega), K_5.out.to B2.out (by omega)⟩
set_option maxHeartbeats 4000000 in
theorem rdo_3 (w : World) (h : AgIs A c s g w base) (hr : g.right) (q : Cmd) (hq : q.Fit) (hv : q.v = 3) (h0 : ¬ (q.ow = 0 ∨ q.tx = 0 ∨ q.v < 1 ∨ 4 < q.v)) (h1 : ¬ (g.l.o ≠ 0 ∧ g.l.o ≠ q.ow)) :
    Calls Try.prog 29 #[.agg (agC A c s g).toArray, .agg (cmdL q).toArray] w (AgEE w (g.doit q)) := by
  obtain ⟨XX, hX⟩ : ∃ XX, g.doit q = XX := ⟨_, rfl⟩
  rw [hX]
  have HX := Lib.hid hX
  have ko := Lib.hid (fun W (hW : Below w.heap.size w W) => rcopy_any W (h.to hW))
  have HCO := Lib.hid h.C32
  have HQ := Lib.hid hq
  clear hX h hq
  rw [doit_3 h0 h1 hv] at HX
  have HR := Lib.hid hr
  have H1 := Lib.hid h1
  have u1 : ((q.ow : Int) == 0) = false := beq_eq_false_iff_ne.2 (by omega)
  have u2 : ((q.tx : Int) == 0) = false := beq_eq_false_iff_ne.2 (by omega)
  have u3 : decide ((q.v : Int) < 1) = false := decide_eq_false (by omega)
  have u4 : decide (4 < (q.v : Int)) = false := decide_eq_false (by omega)
  have v1 : ((q.v : Int) == 1) = false := by simp [hv]
  have v2 : ((q.v : Int) == 2) = false := by simp [hv]
  have v3 : ((q.v : Int) == 3) = true := by simp [hv]
  clear h0 h1 hr hv
  go_enter Try.func29, Try.ntmps29
  go_upto_region 1 with fail
  obtain ⟨w0, hw0⟩ : ∃ w_q_, w_q_ = ((w.alloc (.cells (agC A c s g).toArray 35)).alloc (.cells (cmdL q).toArray 41)).alloc (.cells z32 35) := ⟨_, rfl⟩
  rw [← hw0]
  have hin := in_acr w (agC A c s g) (cmdL q)
  rw [← hw0] at hin
  obtain ⟨r1, rq, r2, b0, z0⟩ := hin
  have R1 := Lib.hid r1
  have RQ := Lib.hid rq
  have R2 := Lib.hid r2
  have B0 := Lib.hid b0
  clear hw0 r1 r2 b0 rq
  go_wp2_with (refine wpList_load_var rfl 35 (.tmp 2) rfl (w.heap.size) rfl _ _ 32 R1.out Try.underlying35 rfl size_32 HCO.out ?_)
  with_reducible refine (ko.out _ B0.out).mono ?_
  rintro e1 w1 ⟨A1, c1, s1, rfl, i1, hb1⟩
  have I1 := Lib.hid i1
  have HC := Lib.hid i1.C32
  have H25 := Lib.hid i1.C25
  replace R1 := Lib.hid (R1.out.to hb1)
  replace RQ := Lib.hid (RQ.out.to hb1)
  replace R2 := Lib.hid (R2.out.to hb1)
  have B1 := Lib.hid (B0.out.trans (hb1.mono B0.out.size))
  have hz1 := hb1.size
  clear hb1 i1 ko
  go_upto_region 2 with (refine wpList_store_var rfl 35 (.tmp 2) (.tmp 9) rfl (w.heap.size) _ (agC A1 c1 s1 g) 32 rfl rfl R1.out size_32 (by first | rfl | exact HCO.out) HC.out (agC_one _) ?_; intro w_2 r_2 k_2; have R_2 := Lib.hid r_2; have K_2 := Lib.hid k_2; clear r_2 k_2)
  replace R2 := Lib.hid (R2.out.only K_2.out (by omega))
  replace RQ := Lib.hid (RQ.out.only K_2.out (by omega))
  have I2 := Lib.hid (I1.out.only K_2.out (by omega))
  have B2 := Lib.hid (K_2.out.to B1.out (Nat.le_refl _))
  have hz2 : w0.heap.size ≤ w_2.heap.size := by rw [K_2.out.size]; exact hz1
  have RA := R_2
  clear B1 I1 K_2 R1 R_2 B0 hz1 w1
  rename World => wz
  try simp only [Act.put]
  have q0 : wz.cell? ⟨w.heap.size + 1, 0, none⟩ = some (.int .u16 (q.ow : Int)) := RQ.out.cells 0
  have q1 : wz.cell? ⟨w.heap.size + 1, 1, none⟩ = some (.int .u8 (q.v : Int)) := RQ.out.cells 1
  have q2 : wz.cell? ⟨w.heap.size + 1, 2, none⟩ = some (.int .u32 (q.tx : Int)) := RQ.out.cells 2
  have d1 : wz.cell? ⟨w.heap.size, 1, none⟩ = some (.int .u16 (g.l.o : Int)) := RA.out.cells 1
  have d3 : wz.cell? ⟨w.heap.size, 3, none⟩ = some (.int .u8 (g.ph : Int)) := RA.out.cells 3
  have d4 : wz.cell? ⟨w.heap.size, 4, none⟩ = some (.int .u32 (g.tx : Int)) := RA.out.cells 4
  have d5 : wz.cell? ⟨w.heap.size, 5, none⟩ = some (.int .u32 (g.la : Int)) := RA.out.cells 5
  go_upto_region 4 with fail
  clear u1 u2 u3 u4
  go_cut [40] (fun x wx => x = .bool false ∧ wz = wx)
  case first =>
    by_cases h8 : g.l.o = 0
    · have u8 : ((g.l.o : Int) != 0) = false := by simp [h8]
      clear h8
      go_wp2
      go_meet
      case rel => exact ⟨rfl, rfl⟩
    · have u8 : ((g.l.o : Int) != 0) = true := bne_iff_ne.2 (by omega)
      have u9 : ((g.l.o : Int) != (q.ow : Int)) = false := by
        have : g.l.o = q.ow := by
          by_cases e : g.l.o = q.ow
          · exact e
          · exact absurd ⟨h8, e⟩ H1.out
        simp [this]
      clear h8
      go_wp2
      go_meet
      case rel => exact ⟨rfl, rfl⟩
  case rest =>
  obtain ⟨rfl, rfl⟩ := hcut
  by_cases h2 : g.la = q.tx
  · have u1 : ((g.la : Int) == (q.tx : Int)) = true := by simp [h2]
    obtain rfl : (g, 0) = XX := by rw [← HX.out, if_pos h2]
    clear h2 HX
    go_upto_region 31 with fail
    clear q0 q1 q2 d1 d3 d4 d5
    go_wp2_with (first | (refine wpList_load_var rfl 35 (.tmp 2) rfl (w.heap.size) rfl _ _ 32 RA.out Try.underlying35 rfl size_32 HC.out ?_) | (refine wpList_store_var rfl 35 (.tmp 4) (.tmp 164) rfl (w.heap.size + 2) _ (agC A1 c1 s1 g) 32 rfl rfl R2.out size_32 (by first | rfl | exact HCO.out) HC.out (agC_one _) ?_; intro w_5 r_5 k_5; have R_5 := Lib.hid r_5; have K_5 := Lib.hid k_5; clear r_5 k_5))
    exact bodyPost_ret (results_cell_tmp rfl _ _ (w.heap.size + 2) 35 _ (0, 0) _ rfl R_5.out Try.underlying35 rfl (by rw [size_32, List.size_toArray, HC.out])) rfl ⟨A1, c1, s1, rfl, (I2.out.only K_5.out (by omega)).more (by omega), K_5.out.to B2.out (by omega)⟩
  have u1 : ((g.la : Int) == (q.tx : Int)) = false := beq_eq_false_iff_ne.2 (by omega)
  by_cases hp : g.ph = 2
  rotate_left
  · have n2 : ((g.ph : Int) != 2) = true := bne_iff_ne.2 (by omega)
    obtain rfl : (g, 23) = XX := by rw [← HX.out, if_neg h2, if_pos (.inl hp)]
    clear h2 hp HX
    go_upto_region 33 with fail
    clear q0 q1 q2 d1 d3 d4 d5
    go_wp2_with (first | (refine wpList_load_var rfl 35 (.tmp 2) rfl (w.heap.size) rfl _ _ 32 RA.out Try.underlying35 rfl size_32 HC.out ?_) | (refine wpList_store_var rfl 35 (.tmp 4) (.tmp 175) rfl (w.heap.size + 2) _ (agC A1 c1 s1 g) 32 rfl rfl R2.out size_32 (by first | rfl | exact HCO.out) HC.out (agC_one _) ?_; intro w_5 r_5 k_5; have R_5 := Lib.hid r_5; have K_5 := Lib.hid k_5; clear r_5 k_5))
    exact bodyPost_ret (results_cell_tmp rfl _ _ (w.heap.size + 2) 35 _ (0, 0) _ rfl R_5.out Try.underlying35 rfl (by rw [size_32, List.size_toArray, HC.out])) rfl ⟨A1, c1, s1, rfl, (I2.out.only K_5.out (by omega)).more (by omega), K_5.out.to B2.out (by omega)⟩
  have n2 : ((g.ph : Int) != 2) = false := by simp [hp]
  by_cases h4 : g.tx = q.tx
  rotate_left
  · have x2 : ((g.tx : Int) != (q.tx : Int)) = true := bne_iff_ne.2 (by omega)
    obtain rfl : (g, 23) = XX := by rw [← HX.out, if_neg h2, if_pos (.inr h4)]
    clear h2 hp h4 HX
    go_upto_region 33 with fail
    clear q0 q1 q2 d1 d3 d4 d5
    go_wp2_with (first | (refine wpList_load_var rfl 35 (.tmp 2) rfl (w.heap.size) rfl _ _ 32 RA.out Try.underlying35 rfl size_32 HC.out ?_) | (refine wpList_store_var rfl 35 (.tmp 4) (.tmp 175) rfl (w.heap.size + 2) _ (agC A1 c1 s1 g) 32 rfl rfl R2.out size_32 (by first | rfl | exact HCO.out) HC.out (agC_one _) ?_; intro w_5 r_5 k_5; have R_5 := Lib.hid r_5; have K_5 := Lib.hid k_5; clear r_5 k_5))
    exact bodyPost_ret (results_cell_tmp rfl _ _ (w.heap.size + 2) 35 _ (0, 0) _ rfl R_5.out Try.underlying35 rfl (by rw [size_32, List.size_toArray, HC.out])) rfl ⟨A1, c1, s1, rfl, (I2.out.only K_5.out (by omega)).more (by omega), K_5.out.to B2.out (by omega)⟩
  have x2 : ((g.tx : Int) != (q.tx : Int)) = false := by simp [h4]
  obtain rfl : (⟨Bk.over g.bank (ssThere g.S), ⟨0, 0⟩, 0, 0, q.tx, 0, ss0, g.tk⟩, 0) = XX := by rw [← HX.out, if_neg h2, if_neg (show ¬ (g.ph ≠ 2 ∨ g.tx ≠ q.tx) by omega)]
  clear h2 hp h4 HX
  have kb := Lib.hid (fun W (hW : Below wz.heap.size wz W) => rblocks_S W (I2.out.st.to hW))
  have kv := Lib.hid (fun W (hW : Below wz.heap.size wz W) (A5 : Option Addr) (c5 : Nat) (bl : List Blk) (hp : prs bl = ssThere g.S) (hB : Blks W W.heap.size A5 bl) (hl : bl.length ≤ c5) (hc : c5 ≤ 9223372036854775807) => rover_any A1 g.bank c1 g.bank.length A5 bl c5 bl.length W (I2.out.to hW).sq rfl rfl hB (by omega))
  have H64 := Lib.hid HR.out.1
  have HFT := Lib.hid HR.out.2.2.2.1
  have HZ : Hid ((Try.prog.info? 33).map (·.size) = some s1.C.length) := Lib.hid (by rw [H25.out]; exact size_25)
  have a0 : wz.cell? ⟨w.heap.size, 0, none⟩ = some (.slice A1 g.bank.length c1) := RA.out.cells 0
  go_upto_region 34 with fail
  clear q0 q1 q2 d1 d3 d4 d5 u1 n2 x2
  refine wp_region_held_drew (S := (fun w' => RowAt w' w.heap.size 35 (agC A1 c1 s1 g) ∧ w'.cell? ⟨w.heap.size, 0, none⟩ = some (.slice A1 g.bank.length c1))) (by kernel_rfl) ?_ (fun hHeld => ?_)
  · exact ⟨RA.out, a0⟩
  refine takeD (i := 0) (oi := _) (v := ?vv1) (d := some 177) rfl (by kernel_rfl) (by kernel_rfl) (by kernel_rfl) (by kernel_rfl) (fun _ _ _ h => h) (Or.inl ⟨by kernel_rfl, ?_⟩) (by assumption) ?_
  rotate_left 1
  · intro W_ hSw; (try dsimp only at hSw); go_simp; (first | done | with_reducible rfl)
  try simp only [Act.put, List.setIfInBounds_toArray, List.set_cons_zero, List.set_cons_succ]
  refine takeD (i := 1) (oi := _) (v := ?vv2) (d := some 178) rfl (by kernel_rfl) (by kernel_rfl) (by kernel_rfl) (by kernel_rfl) (fun _ _ _ h => h) (Or.inl ⟨by kernel_rfl, ?_⟩) (by assumption) ?_
  rotate_left 1
  · intro W_ hSw; (try dsimp only at hSw); go_simp; (first | done | with_reducible rfl)
  try simp only [Act.put, List.setIfInBounds_toArray, List.set_cons_zero, List.set_cons_succ]
  refine takeD (i := 2) (oi := _) (v := ?vv3) (d := some 179) rfl (by kernel_rfl) (by kernel_rfl) (by kernel_rfl) (by kernel_rfl) (fun _ _ _ h => h) (Or.inl ⟨by kernel_rfl, ?_⟩) (by assumption) ?_
  rotate_left 1
  · intro W_ hSw; (try dsimp only at hSw); go_simp; (first | done | with_reducible rfl)
  try simp only [Act.put, List.setIfInBounds_toArray, List.set_cons_zero, List.set_cons_succ]
  refine takeD (i := 3) (oi := _) (v := _) (d := some 180) rfl (by kernel_rfl) (by kernel_rfl) (by kernel_rfl) (by kernel_rfl) (fun _ _ _ h => h) (yieldsIf_load_mid (by kernel_rfl) 33 (.tmp 179) (by kernel_rfl) w.heap.size 6 (by kernel_rfl) s1.C _ (fun W h => h.1.stage H25.out) Try.underlying33 rfl HZ.out) (by assumption) ?_
  try simp only [Act.put, List.setIfInBounds_toArray, List.set_cons_zero, List.set_cons_succ]
  refine wpAnyH_ready (rs := [4]) (by kernel_rfl) (by simp) ?_
  refine AllReadyH.cons (o := _) rfl (fun K hK => ?_) AllReadyH.nil
  go_simp
  (go_at_call 52; (with_reducible refine (kb.out _ (Below.refl _ _).drew).mono ?_); rintro e1 w1 ⟨A5, c5, bl, rfl, hp, hB, hl, hc, hn, hb1⟩; have hb1a : Below wz.heap.size wz w1 := (Below.refl _ _).drew.trans (hb1.mono (Nat.le_refl _)))
  go_wp2_with fail
  refine hK.out _ _ ?_ (fun hHeld => ?_)
  · exact ⟨RA.out.to hb1a, (RA.out.to hb1a).cells 0⟩
  clear hK K
  try simp only [Act.put, List.setIfInBounds_toArray, List.set_cons_zero, List.set_cons_succ]
  refine wpAnyH_ready (rs := [5]) (by kernel_rfl) (by simp) ?_
  refine AllReadyH.cons (o := _) rfl (fun K hK => ?_) AllReadyH.nil
  go_simp
  (go_at_call 62; (with_reducible refine (kv.out _ hb1a _ _ _ hp hB hl hc).mono ?_); rintro e2 w2 ⟨hb2, hov⟩; rw [if_pos H64.out, hp, if_pos HFT.out] at hov; obtain ⟨A6, c6, rfl, o6⟩ := hov; have hb2a : Below wz.heap.size wz w2 := hb1a.trans (hb2.mono hb1a.size))
  go_wp2_with fail
  refine hK.out _ _ ?_ (fun hHeld => ?_)
  · exact ⟨RA.out.to hb2a, (RA.out.to hb2a).cells 0⟩
  clear hK K
  try simp only [Act.put, List.setIfInBounds_toArray, List.set_cons_zero, List.set_cons_succ]
  refine takeD (i := 6) (oi := _) (v := ?vv4) (d := some 176) rfl (by kernel_rfl) (by kernel_rfl) (by kernel_rfl) (by kernel_rfl) (fun _ _ _ h => h) (Or.inl ⟨by kernel_rfl, ?_⟩) (by assumption) ?_
  rotate_left 1
  · intro W_ hSw; (try dsimp only at hSw); go_simp; (first | done | with_reducible rfl)
  try simp only [Act.put, List.setIfInBounds_toArray, List.set_cons_zero, List.set_cons_succ]
  refine takeD (i := 7) (oi := _) (v := ?vv5) (d := some 183) rfl (by kernel_rfl) (by kernel_rfl) (by kernel_rfl) (by kernel_rfl) (fun _ _ _ h => h) (Or.inl ⟨by kernel_rfl, ?_⟩) (by assumption) ?_
  rotate_left 1
  · intro W_ hSw; (try dsimp only at hSw); go_simp; (first | done | with_reducible rfl)
  try simp only [Act.put, List.setIfInBounds_toArray, List.set_cons_zero, List.set_cons_succ]
  refine takeD (i := 8) (oi := _) (v := ?vv6) (d := some 184) rfl (by kernel_rfl) (by kernel_rfl) (by kernel_rfl) (by kernel_rfl) (fun _ _ _ h => h) (Or.inl ⟨by kernel_rfl, ?_⟩) (by assumption) ?_
  rotate_left 1
  · intro W_ hSw; (try dsimp only at hSw); go_simp; (first | done | with_reducible rfl)
  try simp only [Act.put, List.setIfInBounds_toArray, List.set_cons_zero, List.set_cons_succ]
  refine takeD (i := 9) (oi := _) (v := ?vv7) (d := some 6) rfl (by kernel_rfl) (by kernel_rfl) (by kernel_rfl) (by kernel_rfl) (fun _ _ _ h => h) (Or.inl ⟨by kernel_rfl, ?_⟩) (by assumption) ?_
  rotate_left 1
  · intro W_ hSw; (try dsimp only at hSw); go_simp; (first | done | with_reducible rfl)
  try simp only [Act.put, List.setIfInBounds_toArray, List.set_cons_zero, List.set_cons_succ]
  refine takeD (i := 10) (oi := _) (v := ?vv8) (d := some 7) rfl (by kernel_rfl) (by kernel_rfl) (by kernel_rfl) (by kernel_rfl) (fun _ _ _ h => h) (Or.inl ⟨by kernel_rfl, ?_⟩) (by assumption) ?_
  rotate_left 1
  · intro W_ hSw; (try dsimp only at hSw); go_simp; (first | done | with_reducible rfl)
  try simp only [Act.put, List.setIfInBounds_toArray, List.set_cons_zero, List.set_cons_succ]
  refine wpAnyH_done (by kernel_rfl) ?_ _
  have O6 := Lib.hid (own_more o6 (show w0.heap.size ≤ _ from Nat.le_trans hz2 hb1a.size))
  replace RA := Lib.hid (RA.out.to hb2a)
  replace RQ := Lib.hid (RQ.out.to hb2a)
  replace R2 := Lib.hid (R2.out.to hb2a)
  replace I2 := Lib.hid (I2.out.to hb2a)
  replace B2 := Lib.hid (B2.out.trans (hb2a.mono B2.out.size))
  replace hz2 := Nat.le_trans hz2 hb2a.size
  clear hb1 hb1a hb2 hb2a o6 hp hB hl hc hn a0 kb kv HZ
  have a0 : w2.cell? ⟨w.heap.size, 0, none⟩ = some (.slice A1 g.bank.length c1) := RA.out.cells 0
  have a5 : w2.cell? ⟨w.heap.size, 5, none⟩ = some (.int .u32 (g.la : Int)) := RA.out.cells 5
  have q2 : w2.cell? ⟨w.heap.size + 1, 2, none⟩ = some (.int .u32 (q.tx : Int)) := RQ.out.cells 2
  have f0 := RA.out.frozen 0
  have f5 := RA.out.frozen 5
  have ltA := RA.out.lt
  have ltQ := RQ.out.lt
  go_upto_region 37 with fail
  obtain ⟨w3, hw3⟩ : ∃ w_q_, w_q_ = (w2.setCell ⟨w.heap.size, 0, none⟩ (.slice A6 64 c6)).setCell ⟨w.heap.size, 5, none⟩ (.int .u32 (q.tx : Int)) := ⟨_, rfl⟩
  rw [← hw3]
  have k3 : Only w.heap.size w2 w3 := by rw [hw3]; exact ((Only.refl _ _).set _).set _
  have hol : (Bk.over g.bank (ssThere g.S)).length = 64 := (Bk.over_length _ _).trans H64.out
  have hru : ∀ p ∈ ssThere g.S, ∀ x ∈ p.2, x < 65536 := by
    rw [← I2.out.st.S, ← Stv.there_S]
    intro p hp
    obtain ⟨k, hk, rfl⟩ := List.mem_map.1 hp
    have hk8 : k < 8 := by have := (List.mem_filter.1 hk).1; simpa using this
    obtain ⟨b, hb⟩ : ∃ b, s1.bs[k]? = some b := ⟨_, List.getElem?_eq_getElem (by rw [I2.out.st.ok.lb]; exact hk8)⟩
    rw [List.getD_eq_getElem?_getD, prs_get hb]
    exact (I2.out.st.ok.ok b (List.mem_of_getElem? hb)).u
  replace I2 := Lib.hid (I2.out.only k3 (by omega))
  have hag := (I2.out.more (base' := w0.heap.size) (by omega)).banked (k3.own O6.out (by omega)) hol (Nat.le_refl _) (by omega) (Bk.over_u16 I2.out.u hru) q.tx HQ.out.tx
  have R3 : Hid (RowAt w3 w.heap.size 35 (agC A6 c6 s1 ⟨Bk.over g.bank (ssThere g.S), g.l, g.ph, g.tx, q.tx, g.stx, g.S, g.tk⟩)) := Lib.hid (by rw [← agC_commit hol, hw3]; exact (RA.out.set 0 _).set 5 _)
  have HC3 := Lib.hid hag.C32
  have HF : Hid ((agC A6 c6 Stv.zero ⟨Bk.over g.bank (ssThere g.S), ⟨0, 0⟩, 0, 0, q.tx, 0, ss0, g.tk⟩).length = 32) := Lib.hid hag.freed.C32
  have kf := Lib.hid (rfreed_any w3 hag)
  have IF := Lib.hid (show AgIs A6 c6 Stv.zero ⟨Bk.over g.bank (ssThere g.S), ⟨0, 0⟩, 0, 0, q.tx, 0, ss0, g.tk⟩ w3 w0.heap.size from hag.freed)
  replace R2 := Lib.hid (R2.out.only k3 (by omega))
  replace B2 := Lib.hid (k3.to B2.out (Nat.le_refl _))
  replace hz2 : w0.heap.size ≤ w3.heap.size := by rw [k3.size]; exact hz2
  clear hw3 k3 hol hru hag a0 a5 q2 f0 f5 ltA ltQ RA I2 O6
  go_wp2_with (refine wpList_load_var rfl 35 (.tmp 2) rfl (w.heap.size) rfl _ _ 32 R3.out Try.underlying35 rfl size_32 HC3.out ?_)
  with_reducible refine (kf.out).mono ?_
  rintro e4 w4 ⟨rfl, hb4⟩
  replace R3 := Lib.hid (R3.out.to hb4)
  replace R2 := Lib.hid (R2.out.to hb4)
  replace IF := Lib.hid (IF.out.to hb4)
  replace B2 := Lib.hid (B2.out.trans (hb4.mono B2.out.size))
  replace hz2 := Nat.le_trans hz2 hb4.size
  clear hb4 kf
  go_upto_region 38 with (refine wpList_store_var rfl 35 (.tmp 2) (.tmp 191) rfl w.heap.size _ (agC A6 c6 Stv.zero ⟨Bk.over g.bank (ssThere g.S), ⟨0, 0⟩, 0, 0, q.tx, 0, ss0, g.tk⟩) 32 rfl rfl R3.out size_32 HC3.out HF.out (agC_one _) ?_; intro w_7 r_7 k_7; have R_7 := Lib.hid r_7; have K_7 := Lib.hid k_7; clear r_7 k_7)
  replace R2 := Lib.hid (R2.out.only K_7.out (by omega))
  replace IF := Lib.hid (IF.out.only K_7.out (by omega))
  replace B2 := Lib.hid (K_7.out.to B2.out (Nat.le_refl _))
  replace hz2 : w0.heap.size ≤ w_7.heap.size := by rw [K_7.out.size]; exact hz2
  clear K_7 R3
  go_wp2_with (first | (refine wpList_load_var rfl 35 (.tmp 2) rfl (w.heap.size) rfl _ _ 32 R_7.out Try.underlying35 rfl size_32 HF.out ?_) | (refine wpList_store_var rfl 35 (.tmp 4) (.tmp 192) rfl (w.heap.size + 2) _ (agC A6 c6 Stv.zero ⟨Bk.over g.bank (ssThere g.S), ⟨0, 0⟩, 0, 0, q.tx, 0, ss0, g.tk⟩) 32 rfl rfl R2.out size_32 (by first | rfl | exact HCO.out) HF.out (agC_one _) ?_; intro w_5 r_5 k_5; have R_5 := Lib.hid r_5; have K_5 := Lib.hid k_5; clear r_5 k_5))
  exact bodyPost_ret (results_cell_tmp rfl _ _ (w.heap.size + 2) 35 _ (0, 0) _ rfl R_5.out Try.underlying35 rfl (by rw [size_32, List.size_toArray, HF.out])) rfl ⟨A6, c6, Stv.zero, rfl, (IF.out.only K_5.out (by omega)).more (by omega), K_5.out.to B2.out (by omega)⟩
theorem rdo_any (w : World) (h : AgIs A c s g w base) (hr : g.right) (q : Cmd) (hq : q.Fit) :
    Calls Try.prog 29 #[.agg (agC A c s g).toArray, .agg (cmdL q).toArray] w (AgEE w (g.doit q)) := by
  by_cases h0 : q.ow = 0 ∨ q.tx = 0 ∨ q.v < 1 ∨ 4 < q.v
  · exact rdo_bad w h q hq h0
  by_cases h1 : g.l.o ≠ 0 ∧ g.l.o ≠ q.ow
  · exact rdo_owned w h q hq h0 h1
  rcases (show q.v = 1 ∨ q.v = 2 ∨ q.v = 3 ∨ q.v = 4 by omega) with hv | hv | hv | hv
  · exact rdo_1 w h hr q hq hv h0 h1
  · exact rdo_2 w h hr q hq hv h0 h1
  · exact rdo_3 w h hr q hq hv h0 h1
  · exact rdo_4 w h hr q hq hv h0 h1
end
end Go.Proofs.Ytajbghjjpebndaa
