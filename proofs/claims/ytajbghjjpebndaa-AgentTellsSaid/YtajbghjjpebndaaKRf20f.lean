/- saucierref20.Put: as plain agents. -/
import Derived.Test.YtajbghjjpebndaaKRf20c
import Derived.Test.YtajbghjjpebndaaQ26
import Derived.Test.YtajbghjjpebndaaQ23
namespace Go.Proofs.Ytajbghjjpebndaa
set_option maxRecDepth 100000
open Go.RowKit
set_option linter.unusedVariables false
set_option linter.unusedSimpArgs false
attribute [local go_sem] Later.cell Later.frozen setCell_twice
section
variable {A : Option Addr} {c base : Nat} {s : Stv} {g : Ag}
set_option maxHeartbeats 1000000 in
theorem rput20_any (w : World) (h : AgIs A c s g w base) (ow tx : Nat) (n : Int) (x : Blk) (how : ow < 65536) (htx : tx < 4294967296) (hx : x.Ok w w.heap.size) :
    Calls Try.prog 31 #[.agg (agC A c s g).toArray, .int .u16 (ow : Int), .int .u32 (tx : Int), .int .i64 n, .agg #[.int .i64 x.a, .slice x.A x.ws.length x.c]] w (AgEE w (g.put ow tx n x.pr)) := by
  obtain ⟨XX, hX⟩ : ∃ XX, g.put ow tx n x.pr = XX := ⟨_, rfl⟩
  rw [hX]
  have HX := Lib.hid hX
  clear hX
  have ko := Lib.hid (fun W (hW : Below w.heap.size w W) => rcopy_any W (h.to hW))
  have HCO := Lib.hid h.C32
  have HXB := Lib.hid hx
  clear h hx
  go_enter Try.func31, Try.ntmps31
  go_upto_region 1 with fail
  obtain ⟨w0, hw0⟩ : ∃ w_q_, w_q_ = ((w.alloc (.cells (agC A c s g).toArray 35)).alloc (.cells [.int .i64 x.a, .slice x.A x.ws.length x.c].toArray 30)).alloc (.cells z32 35) := ⟨_, rfl⟩
  rw [← hw0]
  have hin := in_axr w (agC A c s g) [.int .i64 x.a, .slice x.A x.ws.length x.c]
  rw [← hw0] at hin
  obtain ⟨r1, rq, r2, b0, z0⟩ := hin
  have R1 := Lib.hid r1
  have RQ := Lib.hid rq
  have R2 := Lib.hid r2
  have B0 := Lib.hid b0
  clear hw0 r1 r2 b0 rq
  go_wp2_with (refine wpList_load_var rfl 35 (.tmp 5) rfl (w.heap.size) rfl _ _ 32 R1.out Try.underlying35 rfl size_32 HCO.out ?_)
  with_reducible refine (ko.out _ B0.out).mono ?_
  rintro e1 w1 ⟨A1, c1, s1, rfl, i1, hb1⟩
  have I1 := Lib.hid i1
  have HC := Lib.hid i1.C32
  have H25 := i1.C25
  replace R1 := Lib.hid (R1.out.to hb1)
  replace RQ := Lib.hid (RQ.out.to hb1)
  replace R2 := Lib.hid (R2.out.to hb1)
  have B1 := Lib.hid (B0.out.trans (hb1.mono B0.out.size))
  have hz1 := hb1.size
  clear hb1 i1 ko
  go_upto_region 2 with (refine wpList_store_var rfl 35 (.tmp 5) (.tmp 15) rfl (w.heap.size) _ (agC A1 c1 s1 g) 32 rfl rfl R1.out size_32 (by first | rfl | exact HCO.out) HC.out (agC_one _) ?_; intro w_2 r_2 k_2; have R_2 := Lib.hid r_2; have K_2 := Lib.hid k_2; clear r_2 k_2)
  replace R2 := Lib.hid (R2.out.only K_2.out (by omega))
  replace RQ := Lib.hid (RQ.out.only K_2.out (by omega))
  have I2 := Lib.hid (I1.out.only K_2.out (by omega))
  have B2 := Lib.hid (K_2.out.to B1.out (Nat.le_refl _))
  have hz3 : w0.heap.size ≤ w_2.heap.size := by rw [K_2.out.size]; exact hz1
  clear B1 I1 K_2 R1 B0 hz1 w1
  rename World => wz
  simp only [Act.put]
  by_cases h5 : ow = 0
  · have g5 : ((ow : Int) == 0) = true := by simp [h5]
    obtain rfl : (g, 2) = XX := by rw [← HX.out]; unfold Ag.put; rw [if_pos (.inl h5)]
    clear h5
    go_upto_region 3 with fail
    go_wp2_with (first | (refine wpList_load_var rfl 35 (.tmp 5) rfl (w.heap.size) rfl _ _ 32 R_2.out Try.underlying35 rfl size_32 HC.out ?_) | (refine wpList_store_var rfl 35 (.tmp 10) (.tmp 22) rfl (w.heap.size + 2) _ (agC A1 c1 s1 g) 32 rfl rfl R2.out size_32 (by first | rfl | exact HCO.out) HC.out (agC_one _) ?_; intro w_5 r_5 k_5; have R_5 := Lib.hid r_5; have K_5 := Lib.hid k_5; clear r_5 k_5))
    exact bodyPost_ret (results_cell_tmp rfl _ _ (w.heap.size + 2) 35 _ (0, 0) _ rfl R_5.out Try.underlying35 rfl (by rw [size_32, List.size_toArray, HC.out])) rfl ⟨A1, c1, s1, rfl, (I2.out.only K_5.out (by omega)).more (by omega), K_5.out.to B2.out (by omega)⟩
  have g5 : ((ow : Int) == 0) = false := beq_eq_false_iff_ne.2 (by omega)
  by_cases h6 : tx = 0
  · have g6 : ((tx : Int) == 0) = true := by simp [h6]
    obtain rfl : (g, 2) = XX := by rw [← HX.out]; unfold Ag.put; rw [if_pos (.inr h6)]
    clear h5 h6
    go_upto_region 3 with fail
    go_wp2_with (first | (refine wpList_load_var rfl 35 (.tmp 5) rfl (w.heap.size) rfl _ _ 32 R_2.out Try.underlying35 rfl size_32 HC.out ?_) | (refine wpList_store_var rfl 35 (.tmp 10) (.tmp 22) rfl (w.heap.size + 2) _ (agC A1 c1 s1 g) 32 rfl rfl R2.out size_32 (by first | rfl | exact HCO.out) HC.out (agC_one _) ?_; intro w_5 r_5 k_5; have R_5 := Lib.hid r_5; have K_5 := Lib.hid k_5; clear r_5 k_5))
    exact bodyPost_ret (results_cell_tmp rfl _ _ (w.heap.size + 2) 35 _ (0, 0) _ rfl R_5.out Try.underlying35 rfl (by rw [size_32, List.size_toArray, HC.out])) rfl ⟨A1, c1, s1, rfl, (I2.out.only K_5.out (by omega)).more (by omega), K_5.out.to B2.out (by omega)⟩
  have g6 : ((tx : Int) == 0) = false := beq_eq_false_iff_ne.2 (by omega)
  have h7 : ¬ (ow = 0 ∨ tx = 0) := by omega
  clear h5 h6
  have e1 : wz.cell? ⟨w.heap.size, 1, none⟩ = some (.int .u16 (g.l.o : Int)) := R_2.out.cells 1
  have e3 : wz.cell? ⟨w.heap.size, 3, none⟩ = some (.int .u8 (g.ph : Int)) := R_2.out.cells 3
  have e4 : wz.cell? ⟨w.heap.size, 4, none⟩ = some (.int .u32 (g.tx : Int)) := R_2.out.cells 4
  obtain ⟨bo, hbo⟩ : ∃ b, decide (g.l.o ≠ 0 ∧ g.l.o ≠ ow) = b := ⟨_, rfl⟩
  have HBO := Lib.hid hbo
  go_upto_region 4 with fail
  go_cut [33] (fun x wx => x = .bool bo ∧ wz = wx)
  case first =>
    by_cases h8 : g.l.o = 0
    · have u8 : ((g.l.o : Int) != 0) = false := by simp [h8]
      obtain rfl : bo = false := by rw [← hbo]; exact decide_eq_false (fun q => q.1 h8)
      clear h8 hbo
      go_wp2
      go_meet
      case rel => exact ⟨rfl, rfl⟩
    · have u8 : ((g.l.o : Int) != 0) = true := bne_iff_ne.2 (by omega)
      by_cases h9 : g.l.o = ow
      · have u9 : ((g.l.o : Int) != (ow : Int)) = false := by simp [h9]
        obtain rfl : bo = false := by rw [← hbo]; exact decide_eq_false (fun q => q.2 h9)
        clear h8 h9 hbo
        go_wp2
        go_meet
        case rel => exact ⟨rfl, rfl⟩
      · have u9 : ((g.l.o : Int) != (ow : Int)) = true := bne_iff_ne.2 (by omega)
        obtain rfl : bo = true := by rw [← hbo]; exact decide_eq_true ⟨h8, h9⟩
        clear h8 h9 hbo
        go_wp2
        go_meet
        case rel => exact ⟨rfl, rfl⟩
  case rest =>
  obtain ⟨rfl, rfl⟩ := hcut
  clear hbo
  cases bo
  rotate_left
  · obtain rfl : (g, 22) = XX := by
      rw [← HX.out]
      unfold Ag.put
      rw [if_neg h7, if_pos (of_decide_eq_true HBO.out)]
    clear h7
    go_upto_region 5 with fail
    clear e1 e3 e4
    go_wp2_with (first | (refine wpList_load_var rfl 35 (.tmp 5) rfl (w.heap.size) rfl _ _ 32 R_2.out Try.underlying35 rfl size_32 HC.out ?_) | (refine wpList_store_var rfl 35 (.tmp 10) (.tmp 34) rfl (w.heap.size + 2) _ (agC A1 c1 s1 g) 32 rfl rfl R2.out size_32 (by first | rfl | exact HCO.out) HC.out (agC_one _) ?_; intro w_5 r_5 k_5; have R_5 := Lib.hid r_5; have K_5 := Lib.hid k_5; clear r_5 k_5))
    exact bodyPost_ret (results_cell_tmp rfl _ _ (w.heap.size + 2) 35 _ (0, 0) _ rfl R_5.out Try.underlying35 rfl (by rw [size_32, List.size_toArray, HC.out])) rfl ⟨A1, c1, s1, rfl, (I2.out.only K_5.out (by omega)).more (by omega), K_5.out.to B2.out (by omega)⟩
  have h8 := Lib.hid (of_decide_eq_false HBO.out)
  clear HBO e1
  by_cases h9 : g.ph = 1
  rotate_left
  · have u9 : ((g.ph : Int) != 1) = true := bne_iff_ne.2 (by omega)
    have e1 := h9
    obtain rfl : (g, 23) = XX := by
      rw [← HX.out]
      unfold Ag.put
      rw [if_neg h7, if_neg h8.out, if_pos (by omega)]
    clear h7 h9
    go_upto_region 7 with fail
    clear e1 e3 e4
    go_wp2_with (first | (refine wpList_load_var rfl 35 (.tmp 5) rfl (w.heap.size) rfl _ _ 32 R_2.out Try.underlying35 rfl size_32 HC.out ?_) | (refine wpList_store_var rfl 35 (.tmp 10) (.tmp 44) rfl (w.heap.size + 2) _ (agC A1 c1 s1 g) 32 rfl rfl R2.out size_32 (by first | rfl | exact HCO.out) HC.out (agC_one _) ?_; intro w_5 r_5 k_5; have R_5 := Lib.hid r_5; have K_5 := Lib.hid k_5; clear r_5 k_5))
    exact bodyPost_ret (results_cell_tmp rfl _ _ (w.heap.size + 2) 35 _ (0, 0) _ rfl R_5.out Try.underlying35 rfl (by rw [size_32, List.size_toArray, HC.out])) rfl ⟨A1, c1, s1, rfl, (I2.out.only K_5.out (by omega)).more (by omega), K_5.out.to B2.out (by omega)⟩
  have u9 : ((g.ph : Int) != 1) = false := by simp [h9]
  have h10 := h9
  clear h9
  by_cases h9 : g.tx = tx
  rotate_left
  · have u10 : ((g.tx : Int) != (tx : Int)) = true := bne_iff_ne.2 (by omega)
    have e1 := h9
    clear h10
    obtain rfl : (g, 23) = XX := by
      rw [← HX.out]
      unfold Ag.put
      rw [if_neg h7, if_neg h8.out, if_pos (by omega)]
    clear h7 h9
    go_upto_region 7 with fail
    clear e1 e3 e4
    go_wp2_with (first | (refine wpList_load_var rfl 35 (.tmp 5) rfl (w.heap.size) rfl _ _ 32 R_2.out Try.underlying35 rfl size_32 HC.out ?_) | (refine wpList_store_var rfl 35 (.tmp 10) (.tmp 44) rfl (w.heap.size + 2) _ (agC A1 c1 s1 g) 32 rfl rfl R2.out size_32 (by first | rfl | exact HCO.out) HC.out (agC_one _) ?_; intro w_5 r_5 k_5; have R_5 := Lib.hid r_5; have K_5 := Lib.hid k_5; clear r_5 k_5))
    exact bodyPost_ret (results_cell_tmp rfl _ _ (w.heap.size + 2) 35 _ (0, 0) _ rfl R_5.out Try.underlying35 rfl (by rw [size_32, List.size_toArray, HC.out])) rfl ⟨A1, c1, s1, rfl, (I2.out.only K_5.out (by omega)).more (by omega), K_5.out.to B2.out (by omega)⟩
  have u10 : ((g.tx : Int) != (tx : Int)) = false := by simp [h9]
  have H9 : Hid (g.ph = 1 ∧ g.tx = tx) := Lib.hid ⟨h10, h9⟩
  clear h9 h10
  go_upto_region 8 with fail
  clear e3 e4 u9 u10
  obtain ⟨⟨t', S', E'⟩, hP⟩ : ∃ r, putP g.stx g.S n x.pr = r := ⟨_, rfl⟩
  have hbx : Below w.heap.size w wz := B2.out
  have kp : Hid (∀ W, Below wz.heap.size wz W → Calls Try.prog 63 #[.agg s1.C.toArray, .int .i64 n, .agg #[.int .i64 x.a, .slice x.A x.ws.length x.c]] W fun e w' => ∃ s' : Stv, e = .returned (.tuple #[.agg s'.C.toArray, .int .i64 E']) ∧ s'.Is w' W.heap.size t' S' ∧ Below W.heap.size W w') := Lib.hid (fun W hW => by
    have := rput_all n x W (I2.out.st.to hW) (HXB.out.to (hbx.trans (hW.mono hbx.size)))
    rw [putE_P, hP] at this
    exact this)
  have HP := Lib.hid hP
  clear hP hbx
  have HG := Lib.hid (R_2.out.stage H25)
  have HZ : Hid ((Try.prog.info? 33).map (·.size) = some s1.C.length) := Lib.hid (by rw [H25]; exact size_25)
  have x0 : wz.cell? ⟨w.heap.size + 1, 0, none⟩ = some (.int .i64 x.a) := RQ.out.cells 0
  have x1 : wz.cell? ⟨w.heap.size + 1, 1, none⟩ = some (.slice x.A x.ws.length x.c) := RQ.out.cells 1
  go_wp2_with (refine wpList_load_mid rfl 33 (.tmp 46) rfl w.heap.size 6 rfl s1.C _ HG.out Try.underlying33 rfl HZ.out ?_)
  with_reducible refine (kp.out _ (Below.refl _ _)).mono ?_
  rintro e5 w5 ⟨s5, rfl, i5, hb5⟩
  replace R_2 := Lib.hid (R_2.out.to hb5)
  replace R2 := Lib.hid (R2.out.to hb5)
  replace I2 := Lib.hid (I2.out.to hb5)
  replace B2 := Lib.hid (B2.out.trans (hb5.mono B2.out.size))
  have I5 := Lib.hid (i5.more hz3)
  replace hz3 := Nat.le_trans hz3 hb5.size
  have HC5 := Lib.hid i5.C25
  clear hb5 i5 kp x0 x1 HG HZ RQ wz HXB
  rename World => wz
  go_upto_region 9 with (refine wpList_store_var rfl 33 (.tmp 12) (.tmp 51) rfl wz.heap.size Stv.zero.C s5.C 25 rfl rfl (heap_alloc_new wz _) size_25 rfl HC5.out (Stv.C_one s5) ?_; intro w6 r6 k6; have RS := Lib.hid r6; have HB6 : Hid (Below wz.heap.size wz w6) := Lib.hid (k6.to (bel_alloc (Below.refl _ _) (.cells z25 33)) (Nat.le_refl _)); clear r6 k6)
  replace R_2 := Lib.hid (R_2.out.to HB6.out)
  replace R2 := Lib.hid (R2.out.to HB6.out)
  replace I2 := Lib.hid (I2.out.to HB6.out)
  replace I5 := Lib.hid (I5.out.to HB6.out)
  replace B2 := Lib.hid (B2.out.trans (HB6.out.mono B2.out.size))
  have hzs : wz.heap.size ≠ w.heap.size := by omega
  replace hz3 := Nat.le_trans hz3 HB6.out.size
  clear HB6
  have hput : g.put ow tx n x.pr = if n < 0 ∨ 7 < n then (g, 2) else if Bk.fits x.pr.1 x.pr.2.length = true then (⟨g.bank, ⟨g.l.o, g.tk⟩, g.ph, g.tx, g.la, g.stx, g.S.set n.toNat (some x.pr), g.tk⟩, 0) else (g, 20) := by
    unfold Ag.put
    have := H9.out
    rw [if_neg h7, if_neg h8.out, if_neg (by omega)]
  have hpp := HP.out
  unfold putP at hpp
  by_cases h11 : E' = 0
  · have hS : t' = g.stx ∧ S' = g.S.set n.toNat (some x.pr) ∧ XX = (⟨g.bank, ⟨g.l.o, g.tk⟩, g.ph, g.tx, g.la, g.stx, g.S.set n.toNat (some x.pr), g.tk⟩, 0) := by
      by_cases y : n < 0 ∨ 7 < n
      · rw [if_pos y] at hpp
        injection hpp with z1 z2
        injection z2 with z2 z3
        omega
      · by_cases z : Bk.fits x.pr.1 x.pr.2.length = true
        · rw [if_neg y, if_pos z] at hpp hput
          injection hpp with z1 z2
          injection z2 with z2 z3
          exact ⟨z1.symm, z2.symm, by rw [← HX.out, hput]⟩
        · rw [if_neg y, if_neg z] at hpp
          injection hpp with z1 z2
          injection z2 with z2 z3
          omega
    obtain ⟨rfl, rfl, rfl⟩ := hS
    subst h11
    have I7 := Lib.hid (I2.out.staged s5 I5.out)
    have HC7 := Lib.hid I7.out.C32
    have h25s := Lib.hid H25
    clear hpp hput h7 HP HX H9 h8 H25
    go_upto_region 12 with (first | (refine wpList_load_var rfl 33 (.tmp 12) rfl wz.heap.size rfl s5.C _ 25 RS.out Try.underlying33 rfl size_25 HC5.out ?_) | (refine wpList_store_part rfl 33 (.tmp 58) (.tmp 57) rfl w.heap.size 6 35 (agP A1 c1 g) s1.C [.int .i64 g.tk] s5.C 25 rfl rfl R_2.out size_25 rfl h25s.out HC5.out (Stv.C_one _) ?_; intro w7 r7 k7; have R7 := Lib.hid r7; have K7 := Lib.hid k7; clear r7 k7))
    replace R7 := (show Hid (RowAt w7 w.heap.size 35 (agC A1 c1 s5 ⟨g.bank, g.l, g.ph, g.tx, g.la, g.stx, g.S.set n.toNat (some x.pr), g.tk⟩)) from R7)
    replace R2 := Lib.hid (R2.out.only K7.out (by omega))
    replace I7 := Lib.hid (I7.out.only K7.out (by omega))
    replace B2 := Lib.hid (K7.out.to B2.out (Nat.le_refl _))
    replace hz3 : w0.heap.size ≤ w7.heap.size := by rw [K7.out.size]; exact hz3
    clear K7 R_2 I2 I5 RS
    have t2 : w7.cell? ⟨w.heap.size, 2, none⟩ = some (.int .i64 g.l.l) := R7.out.cells 2
    have t31 : w7.cell? ⟨w.heap.size, 31, none⟩ = some (.int .i64 g.tk) := R7.out.cell (agL_tk HC5.out)
    have f2 := R7.out.frozen 2
    have lt7 := R7.out.lt
    go_upto_region 13 with fail
    obtain ⟨w8, hw8⟩ : ∃ w_q_, w_q_ = w7.setCell ⟨w.heap.size, 2, none⟩ (.int .i64 g.tk) := ⟨_, rfl⟩
    rw [← hw8]
    have k8 : Only w.heap.size w7 w8 := by rw [hw8]; exact (Only.refl _ _).set _
    have R8 : Hid (RowAt w8 w.heap.size 35 (agC A1 c1 s5 ⟨g.bank, ⟨g.l.o, g.tk⟩, g.ph, g.tx, g.la, g.stx, g.S.set n.toNat (some x.pr), g.tk⟩)) := Lib.hid (by rw [hw8]; exact R7.out.set 2 _)
    replace R2 := Lib.hid (R2.out.only k8 (by omega))
    have I8 := Lib.hid ((I7.out.only k8 (by omega)).with ⟨g.l.o, g.tk⟩ g.ph g.tx g.la ⟨I7.out.o, I7.out.tk.1, I7.out.tk.2⟩ I7.out.ph I7.out.tx I7.out.la)
    have B8 := Lib.hid (k8.to B2.out (Nat.le_refl _))
    have HC8 := Lib.hid I8.out.C32
    clear hw8 k8 I7 B2 R7 t2 t31 f2 lt7
    go_wp2_with (first | (refine wpList_load_var rfl 35 (.tmp 5) rfl (w.heap.size) rfl _ _ 32 R8.out Try.underlying35 rfl size_32 HC8.out ?_) | (refine wpList_store_var rfl 35 (.tmp 10) (.tmp 63) rfl (w.heap.size + 2) _ (agC A1 c1 s5 ⟨g.bank, ⟨g.l.o, g.tk⟩, g.ph, g.tx, g.la, g.stx, g.S.set n.toNat (some x.pr), g.tk⟩) 32 rfl rfl R2.out size_32 (by first | rfl | exact HCO.out) HC8.out (agC_one _) ?_; intro w_9 r_9 k_9; have R_9 := Lib.hid r_9; have K_9 := Lib.hid k_9; clear r_9 k_9))
    exact bodyPost_ret (results_cell_tmp rfl _ _ (w.heap.size + 2) 35 _ (0, 0) _ rfl R_9.out Try.underlying35 rfl (by rw [size_32, List.size_toArray, HC8.out])) rfl ⟨A1, c1, s5, rfl, (I8.out.only K_9.out (by omega)).more (by omega), K_9.out.to B8.out (by omega)⟩
  · have hS : XX = (g, E') := by
      by_cases y : n < 0 ∨ 7 < n
      · rw [if_pos y] at hpp hput
        injection hpp with z1 z2
        injection z2 with z2 z3
        rw [← HX.out, hput, z3]
      · by_cases z : Bk.fits x.pr.1 x.pr.2.length = true
        · rw [if_neg y, if_pos z] at hpp
          injection hpp with z1 z2
          injection z2 with z2 z3
          omega
        · rw [if_neg y, if_neg z] at hpp hput
          injection hpp with z1 z2
          injection z2 with z2 z3
          rw [← HX.out, hput, z3]
    subst hS
    have g11 : (E' != 0) = true := bne_iff_ne.2 h11
    clear hpp hput h7 h8 HP HX H9 h11
    go_upto_region 10 with fail
    go_wp2_with (first | (refine wpList_load_var rfl 35 (.tmp 5) rfl (w.heap.size) rfl _ _ 32 R_2.out Try.underlying35 rfl size_32 HC.out ?_) | (refine wpList_store_var rfl 35 (.tmp 10) (.tmp 55) rfl (w.heap.size + 2) _ (agC A1 c1 s1 g) 32 rfl rfl R2.out size_32 (by first | rfl | exact HCO.out) HC.out (agC_one _) ?_; intro w_9 r_9 k_9; have R_9 := Lib.hid r_9; have K_9 := Lib.hid k_9; clear r_9 k_9))
    exact bodyPost_ret (results_cell_tmp rfl _ _ (w.heap.size + 2) 35 _ (0, 0) _ rfl R_9.out Try.underlying35 rfl (by rw [size_32, List.size_toArray, HC.out])) rfl ⟨A1, c1, s1, rfl, (I2.out.only K_9.out (by omega)).more (by omega), K_9.out.to B2.out (by omega)⟩
end
end Go.Proofs.Ytajbghjjpebndaa
