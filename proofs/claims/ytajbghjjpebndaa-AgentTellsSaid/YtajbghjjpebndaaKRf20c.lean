/- saucierref20.freed, Copy, New: as plain agents. -/
import Derived.Test.YtajbghjjpebndaaKRf20b
import Derived.Test.YtajbghjjpebndaaQ28
namespace Go.Proofs.Ytajbghjjpebndaa
set_option maxRecDepth 100000
open Go.RowKit
set_option linter.unusedVariables false
set_option linter.unusedSimpArgs false
attribute [local go_sem] Later.cell Later.frozen setCell_twice
section
variable {A : Option Addr} {c base : Nat} {s : Stv} {g : Ag}
set_option maxHeartbeats 400000 in
theorem rfreed_any (w : World) (h : AgIs A c s g w base) :
    Calls Try.prog 60 #[.agg (agC A c s g).toArray] w fun e w' => e = .returned (.agg (agC A c Stv.zero g.freed).toArray) ∧ Below w.heap.size w w' := by
  have HC : Hid ((agC A c Stv.zero g.freed).length = 32) := Lib.hid h.freed.C32
  have H25 := h.C25
  clear h
  go_enter Try.func60, Try.ntmps60
  go_upto_region 1 with fail
  obtain ⟨w0, hw0⟩ : ∃ w_q_, w_q_ = (w.alloc (.cells (agC A c s g).toArray 35)).alloc (.cells z32 35) := ⟨_, rfl⟩
  rw [← hw0]
  have hin := in_ar w (agC A c s g)
  rw [← hw0] at hin
  obtain ⟨r1, r2, b0, z0⟩ := hin
  have R1 := Lib.hid r1
  have R2 := Lib.hid r2
  have B0 := Lib.hid b0
  clear hw0 r1 r2 b0
  have a0 : w0.cell? ⟨w.heap.size, 0, none⟩ = some (.slice A g.bank.length c) := R1.out.cells 0
  have a5 : w0.cell? ⟨w.heap.size, 5, none⟩ = some (.int .u32 (g.la : Int)) := R1.out.cells 5
  have a31 : w0.cell? ⟨w.heap.size, 31, none⟩ = some (.int .i64 g.tk) := R1.out.cell (agL_tk H25)
  go_wp2_with (refine wpList_store_var rfl 35 (.tmp 2) (.tmp 9) rfl (w.heap.size + 1) _ (agC A c Stv.zero g.freed) 32 rfl rfl R2.out size_32 (by first | rfl | exact HCO.out) HC.out (agC_one _) ?_; intro w_2 r_2 k_2; have R_2 := Lib.hid r_2; have K_2 := Lib.hid k_2; clear r_2 k_2)
  exact bodyPost_ret (results_cell_row rfl _ _ (w.heap.size + 1) 35 _ (0, 0) _ rfl R_2.out Try.underlying35 rfl (by rw [size_32, List.size_toArray, HC.out])) rfl ⟨rfl, K_2.out.to B0.out (by omega)⟩
set_option maxHeartbeats 1000000 in
theorem rcopy_any (w : World) (h : AgIs A c s g w base) :
    Calls Try.prog 28 #[.agg (agC A c s g).toArray] w (AgE w g) := by
  obtain ⟨i0, hif, hz0, hz1, hz2⟩ := info_parts info_w16
  have kc := Lib.hid (fun W (hW : Below w.heap.size w W) => rcopy_S W (h.st.to hW))
  have HCO := Lib.hid h.C32
  have H25 := h.C25
  have HZ : Hid ((Try.prog.info? 33).map (·.size) = some s.C.length) := Lib.hid (by rw [H25]; exact size_25)
  have hsm := h.small
  have IS := Lib.hid h
  clear h
  go_enter Try.func28, Try.ntmps28
  go_upto_region 1 with fail
  obtain ⟨w0, hw0⟩ : ∃ w_q_, w_q_ = (w.alloc (.cells (agC A c s g).toArray 35)).alloc (.cells z32 35) := ⟨_, rfl⟩
  rw [← hw0]
  have hin := in_ar w (agC A c s g)
  rw [← hw0] at hin
  obtain ⟨r1, r2, b0, z0⟩ := hin
  have R1 := Lib.hid r1
  have R2 := Lib.hid r2
  have B0 := Lib.hid b0
  clear hw0 r1 r2 b0
  go_upto_region 2 with (first | (refine wpList_load_var rfl 35 (.tmp 1) rfl (w.heap.size) rfl _ _ 32 R1.out Try.underlying35 rfl size_32 HCO.out ?_) | (refine wpList_store_var rfl 35 (.tmp 3) (.tmp 4) rfl w0.heap.size (agC none 0 Stv.zero Ag0) (agC A c s g) 32 rfl rfl (new_agent w0) size_32 rfl HCO.out (agC_one _) ?_; intro w_3 r_3 k_3; have R_3 := Lib.hid r_3; have HB_3 : Hid (Below w0.heap.size w0 w_3) := Lib.hid (k_3.to (bel_alloc (Below.refl _ _) (.cells z32 35)) (Nat.le_refl _)); clear r_3 k_3))
  replace R1 := Lib.hid (R1.out.to HB_3.out)
  replace R2 := Lib.hid (R2.out.to HB_3.out)
  replace B0 := Lib.hid (B0.out.trans (HB_3.out.mono B0.out.size))
  obtain ⟨gO, hgO⟩ : ∃ gO, w0.heap.size = gO := ⟨_, rfl⟩
  have hwO : w.heap.size + 2 ≤ gO := by rw [← hgO]; omega
  have RO := R_3
  rw [hgO] at RO ⊢
  clear HB_3 R_3 hgO z0
  try simp only [Act.put]
  have o0 : w_3.cell? ⟨gO, 0, none⟩ = some (.slice A g.bank.length c) := RO.out.cells 0
  have f0 := RO.out.frozen 0
  have ltO := RO.out.lt
  go_upto_region 3 with fail
  obtain ⟨w4, hw4⟩ : ∃ w_q_, w_q_ = w_3.setCell ⟨gO, 0, none⟩ (.slice none 0 0) := ⟨_, rfl⟩
  rw [← hw4]
  have k4 : Only gO w_3 w4 := by rw [hw4]; exact (Only.refl _ _).set _
  have R4 : Hid (RowAt w4 gO 35 ((agC A c s g).set 0 (.slice none 0 0))) := Lib.hid (by rw [hw4]; exact RO.out.set 0 _)
  replace R1 := Lib.hid (R1.out.only k4 (by omega))
  replace R2 := Lib.hid (R2.out.only k4 (by omega))
  replace B0 := Lib.hid (k4.to B0.out (by omega))
  replace ltO : gO < w4.heap.size := by rw [k4.size]; exact ltO
  have I4 := Lib.hid (IS.out.to B0.out)
  have SQ := Lib.hid I4.out.sq
  have NL := Lib.hid I4.out.nl
  clear hw4 k4 RO o0 f0
  have o0 : w4.cell? ⟨gO, 0, none⟩ = some (.slice none 0 0) := R4.out.cells 0
  have a0 : w4.cell? ⟨w.heap.size, 0, none⟩ = some (.slice A g.bank.length c) := R1.out.cells 0
  go_upto_region 4 with (at_builtin; go_loud (refine wpList_append_sq (f := u16w) _ rfl (.tmp 7) (.tmp 9) 22 rfl (fun _ => rfl) w4.heap.size 24 i0 _ _ Try.underlying22 hif hz0 rfl hz1 hz2 (by decide) (.slice none 0 0) [] rfl (World.ownsRow_nil _ _ _ _) w4.heap.size A g.bank c g.bank.length rfl rfl SQ.out NL.out (by simp; omega) (Nat.le_refl _) ?_; intro A2 c2 W2 own2 g2 b2; rw [List.nil_append] at own2; have r4w := R4.out.grown g2 (by simp [Value.ownBlock]); have q0 : W2.cell? ⟨gO, 0, none⟩ = some (.slice none 0 0) := r4w.cells 0; have q1 : W2.frozen? ⟨gO, 0, none⟩ = false := r4w.frozen 0; have lt2 := r4w.lt; have RW := Lib.hid r4w; have O2 := Lib.hid own2; have B2 := Lib.hid b2; clear r4w own2 g2 b2))
  try rw [List.nil_append]
  obtain ⟨w5, hw5⟩ : ∃ w_q_, w_q_ = W2.setCell ⟨gO, 0, none⟩ (.slice A2 g.bank.length c2) := ⟨_, rfl⟩
  rw [← hw5]
  have k5 : Only gO W2 w5 := by rw [hw5]; exact (Only.refl _ _).set _
  have R5 : Hid (RowAt w5 gO 35 (agC A2 c2 s g)) := Lib.hid (by rw [hw5]; exact RW.out.set 0 _)
  replace R1 := Lib.hid ((R1.out.to B2.out).only k5 (by omega))
  replace R2 := Lib.hid ((R2.out.to B2.out).only k5 (by omega))
  replace B0 := Lib.hid (k5.to (B0.out.trans (B2.out.mono B0.out.size)) (by omega))
  have O5 := Lib.hid (own_more (k5.own O2.out ltO) (show gO + 1 ≤ w4.heap.size by omega))
  have hz5 : gO < w5.heap.size := by rw [k5.size]; exact lt2
  clear hw5 k5 RW O2 B2 q0 q1 lt2 o0 a0 SQ NL I4 R4 ltO
  have HG := Lib.hid (R1.out.stage H25)
  go_wp2_with (refine wpList_load_mid rfl 33 (.tmp 12) rfl w.heap.size 6 rfl s.C _ HG.out Try.underlying33 rfl HZ.out ?_)
  with_reducible refine (kc.out _ B0.out).mono ?_
  rintro e6 w6 ⟨s6, rfl, i6, hb6⟩
  have HC6 := Lib.hid i6.C25
  have I6 := Lib.hid (i6.more (base' := gO + 1) (by omega))
  replace R5 := Lib.hid (R5.out.to hb6)
  replace R2 := Lib.hid (R2.out.to hb6)
  replace B0 := Lib.hid (B0.out.trans (hb6.mono B0.out.size))
  replace O5 := Lib.hid (own_below O5.out hb6)
  have h25s := Lib.hid H25
  clear i6 hb6 kc HG R1 hz5 H25
  go_upto_region 5 with (refine wpList_store_part rfl 33 (.tmp 15) (.tmp 14) rfl gO 6 35 (agP A2 c2 g) s.C [.int .i64 g.tk] s6.C 25 rfl rfl R5.out size_25 rfl h25s.out HC6.out (Stv.C_one _) ?_; intro w7 r7 k7; have R7 := Lib.hid r7; have K7 := Lib.hid k7; clear r7 k7)
  replace R7 := (show Hid (RowAt w7 gO 35 (agC A2 c2 s6 g)) from R7)
  replace R2 := Lib.hid (R2.out.only K7.out (by omega))
  replace B0 := Lib.hid (K7.out.to B0.out (by omega))
  have O7 := Lib.hid (K7.out.own O5.out (by omega))
  have I7 := Lib.hid (I6.out.only K7.out (by omega))
  have HC7 : Hid ((agC A2 c2 s6 g).length = 32) := Lib.hid (agL_length HC6.out)
  clear K7 O5 I6 R5
  go_wp2_with (first | (refine wpList_load_var rfl 35 (.tmp 3) rfl (gO) rfl _ _ 32 R7.out Try.underlying35 rfl size_32 HC7.out ?_) | (refine wpList_store_var rfl 35 (.tmp 2) (.tmp 16) rfl (w.heap.size + 1) _ (agC A2 c2 s6 g) 32 rfl rfl R2.out size_32 (by first | rfl | exact HCO.out) HC7.out (agC_one _) ?_; intro w_9 r_9 k_9; have R_9 := Lib.hid r_9; have K_9 := Lib.hid k_9; clear r_9 k_9))
  have O9 := K_9.out.own O7.out (by omega)
  have I9 := I7.out.only K_9.out (by omega)
  exact bodyPost_ret (results_cell_row rfl _ _ (w.heap.size + 1) 35 _ (0, 0) _ rfl R_9.out Try.underlying35 rfl (by rw [size_32, List.size_toArray, HC7.out])) rfl ⟨A2, c2, s6, rfl, (AgIs.of_own IS.out O9 I9).more (by omega), K_9.out.to B0.out (by omega)⟩
set_option maxHeartbeats 1000000 in
theorem rnew_any (n : Nat) (bank : List Nat) (tk : Int) (w : World) (h : Sq u16w w w.heap.size A bank) (hn : bank.length = n) (hnl : A = none → c = 0) (hs : bank.length ≤ 35184372088832) (hu : ∀ x ∈ bank, x < 65536) (ht : -9223372036854775808 ≤ tk ∧ tk ≤ 9223372036854775807) :
    Calls Try.prog 27 #[.slice A n c, .int .i64 tk] w (AgEE w (newR bank tk)) := by
  subst hn
  obtain ⟨i0, hif, hz0, hz1, hz2⟩ := info_parts info_w16
  have HC0 : Hid ((agC none 0 Stv.zero Ag0).length = 32) := Lib.hid rfl
  obtain ⟨XX, hX⟩ : ∃ XX, newR bank tk = XX := ⟨_, rfl⟩
  rw [hX]
  have HX := Lib.hid hX
  have HU := Lib.hid hu
  have HH := Lib.hid h
  have NL := Lib.hid hnl
  clear h hnl hX hu
  go_enter Try.func27, Try.ntmps27
  go_upto_region 1 with fail
  obtain ⟨w0, hw0⟩ : ∃ w_q_, w_q_ = w.alloc (.cells z32 35) := ⟨_, rfl⟩
  rw [← hw0]
  have R2 : Hid (RowAt w0 w.heap.size 35 (agC none 0 Stv.zero Ag0)) := Lib.hid (by rw [hw0]; exact new_agent w)
  have B0 : Hid (Below w.heap.size w w0) := Lib.hid (by rw [hw0]; exact bel_alloc (Below.refl _ _) _)
  have z0 : w.heap.size + 1 ≤ w0.heap.size := by rw [hw0, World.size_alloc]; exact Nat.le_refl _
  clear hw0
  by_cases h1 : bank.length = 64
  rotate_left
  · have g1 : ((bank.length : Int) != 64) = true := bne_iff_ne.2 (by omega)
    obtain rfl : (Ag0, 21) = XX := by rw [← HX.out]; unfold newR; rw [if_pos h1]
    clear h1
    go_wp2_with (refine wpList_store_var rfl 35 (.tmp 4) (.tmp 10) rfl (w.heap.size) _ (agC none 0 Stv.zero Ag0) 32 rfl rfl R2.out size_32 (by first | rfl | exact HCO.out) HC0.out (agC_one _) ?_; intro w_5 r_5 k_5; have R_5 := Lib.hid r_5; have K_5 := Lib.hid k_5; clear r_5 k_5)
    exact bodyPost_ret (results_cell_tmp rfl _ _ (w.heap.size) 35 _ (0, 0) _ rfl R_5.out Try.underlying35 rfl (by rw [size_32, List.size_toArray, HC0.out])) rfl ⟨none, 0, _, rfl, Ag0_is _ _, K_5.out.to B0.out (Nat.le_refl _)⟩
  have g1 : ((bank.length : Int) != 64) = false := by simp [h1]
  by_cases h2 : tk < 1
  · have g2 : decide (tk < 1) = true := decide_eq_true h2
    obtain rfl : (Ag0, 2) = XX := by rw [← HX.out]; unfold newR; rw [if_neg (fun h => h h1), if_pos h2]
    clear h1 h2
    go_wp2_with (refine wpList_store_var rfl 35 (.tmp 4) (.tmp 13) rfl (w.heap.size) _ (agC none 0 Stv.zero Ag0) 32 rfl rfl R2.out size_32 (by first | rfl | exact HCO.out) HC0.out (agC_one _) ?_; intro w_5 r_5 k_5; have R_5 := Lib.hid r_5; have K_5 := Lib.hid k_5; clear r_5 k_5)
    exact bodyPost_ret (results_cell_tmp rfl _ _ (w.heap.size) 35 _ (0, 0) _ rfl R_5.out Try.underlying35 rfl (by rw [size_32, List.size_toArray, HC0.out])) rfl ⟨none, 0, _, rfl, Ag0_is _ _, K_5.out.to B0.out (Nat.le_refl _)⟩
  have g2 : decide (tk < 1) = false := decide_eq_false h2
  obtain rfl : (Ag.new bank tk, 0) = XX := by rw [← HX.out]; unfold newR; rw [if_neg (fun h => h h1), if_neg h2]
  clear h1 h2
  have HC1 : Hid ((agC none 0 Stv.zero (Ag.new [] tk)).length = 32) := Lib.hid (agL_length rfl)
  go_upto_region 6 with (refine wpList_store_var rfl 35 (.tmp 6) (.tmp 15) rfl w0.heap.size (agC none 0 Stv.zero Ag0) (agC none 0 Stv.zero (Ag.new [] tk)) 32 rfl rfl (new_agent w0) size_32 rfl HC1.out (agC_one _) ?_; intro w_3 r_3 k_3; have R_3 := Lib.hid r_3; have HB_3 : Hid (Below w0.heap.size w0 w_3) := Lib.hid (k_3.to (bel_alloc (Below.refl _ _) (.cells z32 35)) (Nat.le_refl _)); clear r_3 k_3)
  replace R2 := Lib.hid (R2.out.to HB_3.out)
  have ltO := R_3.out.lt
  replace B0 := Lib.hid (B0.out.trans (HB_3.out.mono B0.out.size))
  obtain ⟨gO, hgO⟩ : ∃ gO, w0.heap.size = gO := ⟨_, rfl⟩
  have hwO : w.heap.size + 1 ≤ gO := by rw [← hgO]; omega
  have R4 := R_3
  rw [hgO] at R4 ltO ⊢
  clear HB_3 R_3 hgO z0
  try simp only [Act.put]
  rename World => w4
  have SQ := Lib.hid ((HH.out.below B0.out).more B0.out.size)
  have o0 : w4.cell? ⟨gO, 0, none⟩ = some (.slice none 0 0) := R4.out.cells 0
  go_upto_region 7 with (at_builtin; go_loud (refine wpList_append_sq (f := u16w) _ rfl (.tmp 17) (.tmp 18) 22 rfl (fun _ => rfl) w4.heap.size 24 i0 _ _ Try.underlying22 hif hz0 rfl hz1 hz2 (by decide) (.slice none 0 0) [] rfl (World.ownsRow_nil _ _ _ _) w4.heap.size A bank c bank.length rfl rfl SQ.out NL.out (by simp; omega) (Nat.le_refl _) ?_; intro A2 c2 W2 own2 g2 b2; rw [List.nil_append] at own2; have r4w := R4.out.grown g2 (by simp [Value.ownBlock]); have q0 : W2.cell? ⟨gO, 0, none⟩ = some (.slice none 0 0) := r4w.cells 0; have q1 : W2.frozen? ⟨gO, 0, none⟩ = false := r4w.frozen 0; have lt2 := r4w.lt; have RW := Lib.hid r4w; have O2 := Lib.hid own2; have B2 := Lib.hid b2; clear r4w own2 g2 b2))
  try rw [List.nil_append]
  obtain ⟨w5, hw5⟩ : ∃ w_q_, w_q_ = W2.setCell ⟨gO, 0, none⟩ (.slice A2 bank.length c2) := ⟨_, rfl⟩
  rw [← hw5]
  have k5 : Only gO W2 w5 := by rw [hw5]; exact (Only.refl _ _).set _
  have R5 : Hid (RowAt w5 gO 35 (agC A2 c2 Stv.zero (Ag.new bank tk))) := Lib.hid (by rw [hw5]; exact RW.out.set 0 _)
  replace R2 := Lib.hid ((R2.out.to B2.out).only k5 (by omega))
  replace B0 := Lib.hid (k5.to (B0.out.trans (B2.out.mono B0.out.size)) (by omega))
  have O5 := Lib.hid (own_more (k5.own O2.out ltO) (show gO ≤ w4.heap.size by omega))
  have HC5 : Hid ((agC A2 c2 Stv.zero (Ag.new bank tk)).length = 32) := Lib.hid (agL_length rfl)
  clear hw5 k5 RW O2 B2 q0 q1 lt2 o0 SQ NL R4 ltO
  go_wp2_with (first | (refine wpList_load_var rfl 35 (.tmp 6) rfl (gO) rfl _ _ 32 R5.out Try.underlying35 rfl size_32 HC5.out ?_) | (refine wpList_store_var rfl 35 (.tmp 4) (.tmp 21) rfl (w.heap.size) _ (agC A2 c2 Stv.zero (Ag.new bank tk)) 32 rfl rfl R2.out size_32 (by first | rfl | exact HCO.out) HC5.out (agC_one _) ?_; intro w_9 r_9 k_9; have R_9 := Lib.hid r_9; have K_9 := Lib.hid k_9; clear r_9 k_9))
  have o9 := K_9.out.own O5.out (by omega)
  exact bodyPost_ret (results_cell_tmp rfl _ _ (w.heap.size) 35 _ (0, 0) _ rfl R_9.out Try.underlying35 rfl (by rw [size_32, List.size_toArray, HC5.out])) rfl ⟨A2, c2, _, rfl, (AgIs.made o9 hs HU.out ht).more (by omega), K_9.out.to B0.out (by omega)⟩
end
end Go.Proofs.Ytajbghjjpebndaa
