/- saucierref20.Boot, Tick: as plain agents. -/
import Derived.Test.YtajbghjjpebndaaKRf20c
import Derived.Test.YtajbghjjpebndaaQ26
import Derived.Test.YtajbghjjpebndaaQ23
namespace Go.Proofs.Ytajbghjjpebndaa
set_option maxRecDepth 100000
open Go.RowKit
set_option linter.unusedVariables false
set_option linter.unusedSimpArgs false
attribute [local go_sem] Later.cell Later.frozen setCell_twice
section
variable {A : Option Addr} {c base : Nat} {s : Stv} {g : Ag}
set_option maxHeartbeats 400000 in
theorem rboot_any (w : World) (h : AgIs A c s g w base) :
    Calls Try.prog 33 #[.agg (agC A c s g).toArray] w (AgE w g.boot) := by
  obtain ⟨X, hX⟩ : ∃ X, g.boot = X := ⟨_, rfl⟩
  rw [hX]
  have HX := Lib.hid hX
  clear hX
  have ko := Lib.hid (fun W (hW : Below w.heap.size w W) => rcopy_any W (h.to hW))
  have kf := Lib.hid (fun W (A1 : Option Addr) (c1 : Nat) (s1 : Stv) (B : Nat) (i1 : AgIs A1 c1 s1 g W B) => rfreed_any W i1)
  have HCO := Lib.hid h.C32
  clear h
  go_enter Try.func33, Try.ntmps33
  go_upto_region 1 with fail
  obtain ⟨w0, hw0⟩ : ∃ w_q_, w_q_ = (w.alloc (.cells (agC A c s g).toArray 35)).alloc (.cells z32 35) := ⟨_, rfl⟩
  rw [← hw0]
  have hin := in_ar w (agC A c s g)
  rw [← hw0] at hin
  obtain ⟨r1, r2, b0, z0⟩ := hin
  have R1 := Lib.hid r1
  have R2 := Lib.hid r2
  have B0 := Lib.hid b0
  clear hw0 r1 r2 b0
  go_wp2_with (refine wpList_load_var rfl 35 (.tmp 1) rfl (w.heap.size) rfl _ _ 32 R1.out Try.underlying35 rfl size_32 HCO.out ?_)
  with_reducible refine (ko.out _ B0.out).mono ?_
  rintro e1 w1 ⟨A1, c1, s1, rfl, i1, hb1⟩
  have I1 := Lib.hid i1
  have HC := Lib.hid i1.C32
  replace R1 := Lib.hid (R1.out.to hb1)
  replace R2 := Lib.hid (R2.out.to hb1)
  have B1 := Lib.hid (B0.out.trans (hb1.mono B0.out.size))
  clear hb1 i1 ko
  go_upto_region 2 with (refine wpList_store_var rfl 35 (.tmp 1) (.tmp 4) rfl (w.heap.size) _ (agC A1 c1 s1 g) 32 rfl rfl R1.out size_32 (by first | rfl | exact HCO.out) HC.out (agC_one _) ?_; intro w_2 r_2 k_2; have R_2 := Lib.hid r_2; have K_2 := Lib.hid k_2; clear r_2 k_2)
  replace R2 := Lib.hid (R2.out.only K_2.out (by omega))
  have I2 := Lib.hid (I1.out.only K_2.out (by omega))
  have B2 := Lib.hid (K_2.out.to B1.out (Nat.le_refl _))
  have kf2 := Lib.hid (kf.out _ _ _ _ _ I2.out)
  clear B1 I1 K_2 R1 B0 kf
  have d3 : w_2.cell? ⟨w.heap.size, 3, none⟩ = some (.int .u8 (g.ph : Int)) := R_2.out.cells 3
  by_cases h1 : g.ph = 1
  · have g1 : ((g.ph : Int) == 1) = true := by simp [h1]
    obtain rfl : g.freed = X := by rw [← HX.out]; unfold Ag.boot; rw [if_pos h1]
    clear h1
    go_wp2_with (refine wpList_load_var rfl 35 (.tmp 1) rfl (w.heap.size) rfl _ _ 32 R_2.out Try.underlying35 rfl size_32 HC.out ?_)
    with_reducible refine (kf2.out).mono ?_
    rintro e3 w3 ⟨rfl, hb3⟩
    have HF := Lib.hid I2.out.freed.C32
    have I3 := Lib.hid (I2.out.freed.to hb3)
    replace R2 := Lib.hid (R2.out.to hb3)
    have B3 := Lib.hid (B2.out.trans (hb3.mono B2.out.size))
    clear hb3 d3 kf2 I2 B2
    go_wp2_with (refine wpList_store_var rfl 35 (.tmp 2) (.tmp 9) rfl (w.heap.size + 1) _ (agC A1 c1 Stv.zero g.freed) 32 rfl rfl R2.out size_32 (by first | rfl | exact HCO.out) HF.out (agC_one _) ?_; intro w_5 r_5 k_5; have R_5 := Lib.hid r_5; have K_5 := Lib.hid k_5; clear r_5 k_5)
    exact bodyPost_ret (results_cell_row rfl _ _ (w.heap.size + 1) 35 _ (0, 0) _ rfl R_5.out Try.underlying35 rfl (by rw [size_32, List.size_toArray, HF.out])) rfl ⟨A1, c1, _, rfl, (I3.out.only K_5.out (by omega)).more (by omega), K_5.out.to B3.out (by omega)⟩
  · have g1 : ((g.ph : Int) == 1) = false := beq_eq_false_iff_ne.2 (by omega)
    obtain rfl : g = X := by rw [← HX.out]; unfold Ag.boot; rw [if_neg h1]
    clear h1
    go_upto_region 4 with fail
    clear d3 kf2
    go_wp2_with (first | (refine wpList_load_var rfl 35 (.tmp 1) rfl (w.heap.size) rfl _ _ 32 R_2.out Try.underlying35 rfl size_32 HC.out ?_) | (refine wpList_store_var rfl 35 (.tmp 2) (.tmp 10) rfl (w.heap.size + 1) _ (agC A1 c1 s1 g) 32 rfl rfl R2.out size_32 (by first | rfl | exact HCO.out) HC.out (agC_one _) ?_; intro w_5 r_5 k_5; have R_5 := Lib.hid r_5; have K_5 := Lib.hid k_5; clear r_5 k_5))
    exact bodyPost_ret (results_cell_row rfl _ _ (w.heap.size + 1) 35 _ (0, 0) _ rfl R_5.out Try.underlying35 rfl (by rw [size_32, List.size_toArray, HC.out])) rfl ⟨A1, c1, s1, rfl, (I2.out.only K_5.out (by omega)).more (by omega), K_5.out.to B2.out (by omega)⟩
set_option maxHeartbeats 400000 in
theorem rtick_any (w : World) (h : AgIs A c s g w base) (hr : g.right) :
    Calls Try.prog 32 #[.agg (agC A c s g).toArray] w (AgE w g.tick) := by
  obtain ⟨X, hX⟩ : ∃ X, g.tick = X := ⟨_, rfl⟩
  rw [hX]
  have HX := Lib.hid hX
  clear hX
  have ko := Lib.hid (fun W (hW : Below w.heap.size w W) => rcopy_any W (h.to hW))
  have kf := Lib.hid (fun W (A1 : Option Addr) (c1 : Nat) (s1 : Stv) (g1 : Ag) (B : Nat) (i1 : AgIs A1 c1 s1 g1 W B) => rfreed_any W i1)
  have HCO := Lib.hid h.C32
  have HPH : Hid (g.ph = 1 → 0 < g.l.l) := Lib.hid (fun e => by
    rcases hr.phases with z | z | z
    · omega
    · exact z.2.2.1
    · omega)
  have hlo := h.l
  clear h hr
  go_enter Try.func32, Try.ntmps32
  go_upto_region 1 with fail
  obtain ⟨w0, hw0⟩ : ∃ w_q_, w_q_ = (w.alloc (.cells (agC A c s g).toArray 35)).alloc (.cells z32 35) := ⟨_, rfl⟩
  rw [← hw0]
  have hin := in_ar w (agC A c s g)
  rw [← hw0] at hin
  obtain ⟨r1, r2, b0, z0⟩ := hin
  have R1 := Lib.hid r1
  have R2 := Lib.hid r2
  have B0 := Lib.hid b0
  clear hw0 r1 r2 b0
  go_wp2_with (refine wpList_load_var rfl 35 (.tmp 1) rfl (w.heap.size) rfl _ _ 32 R1.out Try.underlying35 rfl size_32 HCO.out ?_)
  with_reducible refine (ko.out _ B0.out).mono ?_
  rintro e1 w1 ⟨A1, c1, s1, rfl, i1, hb1⟩
  have I1 := Lib.hid i1
  have HC := Lib.hid i1.C32
  replace R1 := Lib.hid (R1.out.to hb1)
  replace R2 := Lib.hid (R2.out.to hb1)
  have B1 := Lib.hid (B0.out.trans (hb1.mono B0.out.size))
  have hz1 := hb1.size
  clear hb1 i1 ko
  go_upto_region 2 with (refine wpList_store_var rfl 35 (.tmp 1) (.tmp 4) rfl (w.heap.size) _ (agC A1 c1 s1 g) 32 rfl rfl R1.out size_32 (by first | rfl | exact HCO.out) HC.out (agC_one _) ?_; intro w_2 r_2 k_2; have R_2 := Lib.hid r_2; have K_2 := Lib.hid k_2; clear r_2 k_2)
  replace R2 := Lib.hid (R2.out.only K_2.out (by omega))
  have I2 := Lib.hid (I1.out.only K_2.out (by omega))
  have B2 := Lib.hid (K_2.out.to B1.out (Nat.le_refl _))
  have hz2 : w0.heap.size ≤ w_2.heap.size := by rw [K_2.out.size]; exact hz1
  clear B1 I1 K_2 R1 B0 hz1
  have d3 : w_2.cell? ⟨w.heap.size, 3, none⟩ = some (.int .u8 (g.ph : Int)) := R_2.out.cells 3
  by_cases h1 : g.ph = 1
  rotate_left
  · have g1 : ((g.ph : Int) != 1) = true := bne_iff_ne.2 (by omega)
    obtain rfl : g = X := by rw [← HX.out]; unfold Ag.tick; rw [if_pos h1]
    clear h1
    go_upto_region 3 with fail
    clear d3
    go_wp2_with (first | (refine wpList_load_var rfl 35 (.tmp 1) rfl (w.heap.size) rfl _ _ 32 R_2.out Try.underlying35 rfl size_32 HC.out ?_) | (refine wpList_store_var rfl 35 (.tmp 2) (.tmp 8) rfl (w.heap.size + 1) _ (agC A1 c1 s1 g) 32 rfl rfl R2.out size_32 (by first | rfl | exact HCO.out) HC.out (agC_one _) ?_; intro w_5 r_5 k_5; have R_5 := Lib.hid r_5; have K_5 := Lib.hid k_5; clear r_5 k_5))
    exact bodyPost_ret (results_cell_row rfl _ _ (w.heap.size + 1) 35 _ (0, 0) _ rfl R_5.out Try.underlying35 rfl (by rw [size_32, List.size_toArray, HC.out])) rfl ⟨A1, c1, s1, rfl, (I2.out.only K_5.out (by omega)).more (by omega), K_5.out.to B2.out (by omega)⟩
  have g1 : ((g.ph : Int) != 1) = false := by simp [h1]
  have hl0 := HPH.out h1
  have d2 : w_2.cell? ⟨w.heap.size, 2, none⟩ = some (.int .i64 g.l.l) := R_2.out.cells 2
  have f2 := R_2.out.frozen 2
  have lt2 := R_2.out.lt
  obtain ⟨L, hL⟩ : ∃ L, g.l.l - 1 = L := ⟨_, rfl⟩
  have hX2 : (if L = 0 then g.freed else ⟨g.bank, ⟨g.l.o, L⟩, g.ph, g.tx, g.la, g.stx, g.S, g.tk⟩ : Ag) = X := by
    have e : g.tick = if g.l.l - 1 = 0 then g.freed else ⟨g.bank, ⟨g.l.o, g.l.l - 1⟩, g.ph, g.tx, g.la, g.stx, g.S, g.tk⟩ := by unfold Ag.tick; exact if_neg (fun q => q h1)
    rw [← HX.out, e, hL]
  have HX2 := Lib.hid hX2
  have hL1 : -9223372036854775808 ≤ L ∧ L ≤ 9223372036854775807 := by omega
  clear hX2 HX h1
  go_upto_region 5 with fail
  obtain ⟨w5, hw5⟩ : ∃ w_q_, w_q_ = w_2.setCell ⟨w.heap.size, 2, none⟩ (.int .i64 L) := ⟨_, rfl⟩
  rw [← hw5]
  have k5 : Only w.heap.size w_2 w5 := by rw [hw5]; exact (Only.refl _ _).set _
  have R5 : Hid (RowAt w5 w.heap.size 35 (agC A1 c1 s1 ⟨g.bank, ⟨g.l.o, L⟩, g.ph, g.tx, g.la, g.stx, g.S, g.tk⟩)) := Lib.hid (by rw [hw5]; exact R_2.out.set 2 _)
  have B5 := Lib.hid (k5.to B2.out (Nat.le_refl _))
  replace R2 := Lib.hid (R2.out.only k5 (by omega))
  have I5 := Lib.hid ((I2.out.only k5 (by omega)).with ⟨g.l.o, L⟩ g.ph g.tx g.la ⟨I2.out.o, hL1.1, hL1.2⟩ I2.out.ph I2.out.tx I2.out.la)
  have HC5 := Lib.hid I5.out.C32
  have hz5 : w0.heap.size ≤ w5.heap.size := by rw [k5.size]; exact hz2
  have kf2 := Lib.hid (kf.out _ _ _ _ _ _ I5.out)
  clear hw5 k5 R_2 I2 B2 d2 d3 f2 lt2 hz2 hL kf
  have d2 : w5.cell? ⟨w.heap.size, 2, none⟩ = some (.int .i64 L) := R5.out.cells 2
  by_cases h2 : L = 0
  · have g2 : (L == 0) = true := by simp [h2]
    obtain rfl : g.freed = X := by rw [← HX2.out, if_pos h2]
    clear h2
    go_wp2_with (refine wpList_load_var rfl 35 (.tmp 1) rfl (w.heap.size) rfl _ _ 32 R5.out Try.underlying35 rfl size_32 HC5.out ?_)
    with_reducible refine (kf2.out).mono ?_
    rintro e6 w6 ⟨rfl, hb6⟩
    have HF : Hid ((agC A1 c1 Stv.zero g.freed).length = 32) := Lib.hid I5.out.freed.C32
    have I6 := Lib.hid (show AgIs A1 c1 Stv.zero g.freed w6 _ from I5.out.freed.to hb6)
    replace R2 := Lib.hid (R2.out.to hb6)
    have B6 := Lib.hid (B5.out.trans (hb6.mono B5.out.size))
    clear hb6 kf2 I5 B5 R5 d2
    go_wp2_with (refine wpList_store_var rfl 35 (.tmp 2) (.tmp 20) rfl (w.heap.size + 1) _ (agC A1 c1 Stv.zero g.freed) 32 rfl rfl R2.out size_32 (by first | rfl | exact HCO.out) HF.out (agC_one _) ?_; intro w_5 r_5 k_5; have R_5 := Lib.hid r_5; have K_5 := Lib.hid k_5; clear r_5 k_5)
    exact bodyPost_ret (results_cell_row rfl _ _ (w.heap.size + 1) 35 _ (0, 0) _ rfl R_5.out Try.underlying35 rfl (by rw [size_32, List.size_toArray, HF.out])) rfl ⟨A1, c1, _, rfl, (I6.out.only K_5.out (by omega)).more (by omega), K_5.out.to B6.out (by omega)⟩
  · have g2 : (L == 0) = false := beq_eq_false_iff_ne.2 h2
    obtain rfl : (⟨g.bank, ⟨g.l.o, L⟩, g.ph, g.tx, g.la, g.stx, g.S, g.tk⟩ : Ag) = X := by rw [← HX2.out, if_neg h2]
    clear h2 kf2
    go_upto_region 7 with fail
    clear d2
    go_wp2_with (first | (refine wpList_load_var rfl 35 (.tmp 1) rfl (w.heap.size) rfl _ _ 32 R5.out Try.underlying35 rfl size_32 HC5.out ?_) | (refine wpList_store_var rfl 35 (.tmp 2) (.tmp 21) rfl (w.heap.size + 1) _ (agC A1 c1 s1 ⟨g.bank, ⟨g.l.o, L⟩, g.ph, g.tx, g.la, g.stx, g.S, g.tk⟩) 32 rfl rfl R2.out size_32 (by first | rfl | exact HCO.out) HC5.out (agC_one _) ?_; intro w_5 r_5 k_5; have R_5 := Lib.hid r_5; have K_5 := Lib.hid k_5; clear r_5 k_5))
    exact bodyPost_ret (results_cell_row rfl _ _ (w.heap.size + 1) 35 _ (0, 0) _ rfl R_5.out Try.underlying35 rfl (by rw [size_32, List.size_toArray, HC5.out])) rfl ⟨A1, c1, s1, rfl, (I5.out.only K_5.out (by omega)).more (by omega), K_5.out.to B5.out (by omega)⟩
end
end Go.Proofs.Ytajbghjjpebndaa
