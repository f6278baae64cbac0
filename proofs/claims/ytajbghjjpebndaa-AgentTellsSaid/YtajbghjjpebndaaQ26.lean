/- The walk of agent.Do (commit, abort). The walk of agent.Put. -/
import Derived.Test.YtajbghjjpebndaaQ25
import Derived.Test.YtajbghjjpebndaaQ24
namespace Go.Proofs.Ytajbghjjpebndaa
set_option maxRecDepth 100000
open Go.RowKit
set_option linter.unusedVariables false
set_option linter.unusedSimpArgs false
attribute [local go_sem] Later.cell Later.frozen setCell_twice
section
variable {A : Option Addr} {c base : Nat} {s : Stv} {g : Ag}
set_option maxHeartbeats 1000000 in
theorem agdo_3 (w : World) (h : AgIs A c s g w base) (q : Cmd) (hq : q.Fit) (hr : g.right) (hv : q.v = 3) :
    Calls Try.prog 35 #[.agg (agC A c s g).toArray, .agg (cmdL q).toArray] w (AgEE w (g.doit q)) := by
  obtain ⟨XX, hX⟩ : ∃ XX, g.doit q = XX := ⟨_, rfl⟩
  rw [hX]
  have HX := Lib.hid hX
  clear hX
  have HR := Lib.hid hr
  clear hr
  have HV := Lib.hid hv
  clear hv
  have ko := Lib.hid (fun W (hW : Below w.heap.size w W) => agown_any W (h.to hW))
  have HCO := Lib.hid h.C32
  clear h
  go_enter Try.func35, Try.ntmps35
  go_upto_region 1 with fail
  obtain ⟨w0, hw0⟩ : ∃ w_q_, w_q_ = ((w.alloc (.cells (agC A c s g).toArray 35)).alloc (.cells (cmdL q).toArray 41)).alloc (.cells z32 35) := ⟨_, rfl⟩
  rw [← hw0]
  have hin := in_acr w (agC A c s g) (cmdL q)
  rw [← hw0] at hin
  obtain ⟨r1, rq, r2, b0, z0⟩ := hin
  have R1 := Lib.hid r1
  have RQ := Lib.hid rq
  have R2 := Lib.hid r2
  have B0 := Lib.hid b0
  clear hw0 r1 r2 b0 rq
  go_wp2_with (refine wpList_load_var rfl 35 (.tmp 2) rfl (w.heap.size) rfl _ _ 32 R1.out Try.underlying35 rfl size_32 HCO.out ?_)
  with_reducible refine (ko.out _ B0.out).mono ?_
  rintro e1 w1 ⟨A1, c1, s1, rfl, i1, hb1⟩
  have I1 := Lib.hid i1
  have HC := Lib.hid i1.C32
  replace R1 := Lib.hid (R1.out.to hb1)
  replace RQ := Lib.hid (RQ.out.to hb1)
  replace R2 := Lib.hid (R2.out.to hb1)
  have B1 := Lib.hid (B0.out.trans (hb1.mono B0.out.size))
  have hz1 := hb1.size
  clear hb1 i1 ko
  go_upto_region 2 with (refine wpList_store_var rfl 35 (.tmp 2) (.tmp 9) rfl (w.heap.size) _ (agC A1 c1 s1 g) 32 rfl rfl R1.out size_32 (by first | rfl | exact HCO.out) HC.out (agC_one _) ?_; intro w_2 r_2 k_2; have R_2 := Lib.hid r_2; have K_2 := Lib.hid k_2; clear r_2 k_2)
  replace R2 := Lib.hid (R2.out.only K_2.out (by omega))
  replace RQ := Lib.hid (RQ.out.only K_2.out (by omega))
  have I2 := Lib.hid (I1.out.only K_2.out (by omega))
  have B2 := Lib.hid (K_2.out.to B1.out (Nat.le_refl _))
  have hz2 : w0.heap.size ≤ w_2.heap.size := by rw [K_2.out.size]; exact hz1
  clear B1 I1 K_2 R1 B0 hz1
  have q1 : w_2.cell? ⟨w.heap.size + 1, 1, none⟩ = some (.int .u8 3) := (RQ.out.cells 1).trans (by show some (Value.int .u8 (q.v : Int)) = _; rw [HV.out]; rfl)
  have hz2' : w.heap.size + 1 < w_2.heap.size := by omega
  simp only [Act.put]
  go_cut [6, 7] (fun p v wx => ∃ X : Nat, p = .pointer (some ⟨X, 0, none⟩) ∧ v = .bool true ∧ Hid (RowAt wx X 91 [fnV 91, fnV 92] ∧ Below w_2.heap.size w_2 wx))
  case first =>
    refine wp_region_held_drew (S := (fun w' => w'.cell? ⟨w.heap.size + 1, 1, none⟩ = some (.int .u8 3))) (by kernel_rfl) ?_ (fun hHeld => ?_)
    · exact q1
    refine takeD (i := 1) (oi := _) (v := ?vv200) (d := some 12) rfl (by kernel_rfl) (by kernel_rfl) (by kernel_rfl) (by kernel_rfl) (fun _ _ _ h => h) (Or.inl ⟨by kernel_rfl, ?_⟩) (by assumption) ?_
    rotate_left 1
    · intro W_ hSw; (try dsimp only at hSw); go_simp; (first | done | with_reducible rfl)
    try simp only [Act.put, List.setIfInBounds_toArray, List.set_cons_zero, List.set_cons_succ]
    refine takeD (i := 2) (oi := _) (v := ?vv201) (d := some 13) rfl (by kernel_rfl) (by kernel_rfl) (by kernel_rfl) (by kernel_rfl) (fun _ _ _ h => h) (Or.inl ⟨by kernel_rfl, ?_⟩) (by assumption) ?_
    rotate_left 1
    · intro W_ hSw; (try dsimp only at hSw); go_simp; (first | done | with_reducible rfl)
    try simp only [Act.put, List.setIfInBounds_toArray, List.set_cons_zero, List.set_cons_succ]
    refine wpAnyH_ready (rs := [0, 7]) (by kernel_rfl) (by simp) ?_
    refine AllReadyH.cons (o := _) rfl (fun K hK => ?_) (AllReadyH.cons (o := _) rfl (fun K hK => ?_) AllReadyH.nil)
    · go_simp
      (go_at_call 66; (with_reducible refine (effects_any _).mono ?_); rintro e2 w3 ⟨rfl, m3, hb3⟩; have hb3a : Below w_2.heap.size w_2 w3 := (Below.refl _ _).drew.trans (hb3.mono (Nat.le_refl _)); have m3' : MapIs w3 w_2.heap.size effL 4 := m3; have hlk := look_3 m3'; have hlk4 := look_3 (m3'.to (bel_alloc (Below.refl _ _) (.cells #[.nilFunc, .nilFunc] 91))); have q13 := (hb3a.cell (p := ⟨w.heap.size + 1, 1, none⟩) hz2').trans q1; clear m3)
      go_wp2_with fail
      refine hK.out _ _ ?_ (fun hHeld => ?_)
      · exact q13
      clear hK K
      try simp only [Act.put, List.setIfInBounds_toArray, List.set_cons_zero, List.set_cons_succ]
      have hqX := cell_al' (.cells #[.nilFunc, .nilFunc] 91) q13
      have RX := RowAt.new w3 91 [.nilFunc, .nilFunc]
      have hbX : Below w_2.heap.size w_2 (w3.alloc (.cells #[.nilFunc, .nilFunc] 91)) := bel_alloc hb3a _
      have hXle := hb3a.size
      have hXne : w.heap.size + 1 ≠ w3.heap.size := by omega
      refine wpAnyH_ready (rs := [3, 7]) (by kernel_rfl) (by simp) ?_
      refine AllReadyH.cons (o := _) rfl (fun K hK => ?_) (AllReadyH.cons (o := _) rfl (fun K hK => ?_) AllReadyH.nil)
      · go_simp
        refine hK.out _ _ ?_ (fun hHeld => ?_)
        · exact q13
        clear hK K
        try simp only [Act.put]
        try simp only [List.setIfInBounds_toArray]
        try simp only [List.set_cons_succ]
        try simp only [List.set_cons_zero]
        refine takeD (i := 4) (oi := _) (v := ?vv202) (d := some 10) rfl (by kernel_rfl) (by kernel_rfl) (by kernel_rfl) (by kernel_rfl) (fun _ _ _ h => h) (Or.inl ⟨by kernel_rfl, ?_⟩) (by assumption) ?_
        rotate_left 1
        · intro W_ hSw; (try dsimp only at hSw); go_simp; (first | done | with_reducible rfl)
        try simp only [Act.put, List.setIfInBounds_toArray, List.set_cons_zero, List.set_cons_succ]
        refine takeD (i := 5) (oi := _) (v := ?vv203) (d := some 15) rfl (by kernel_rfl) (by kernel_rfl) (by kernel_rfl) (by kernel_rfl) (fun _ _ _ h => h) (Or.inl ⟨by kernel_rfl, ?_⟩) (by assumption) ?_
        rotate_left 1
        · intro W_ hSw; (try dsimp only at hSw); go_simp; (first | done | with_reducible rfl)
        try simp only [Act.put, List.setIfInBounds_toArray, List.set_cons_zero, List.set_cons_succ]
        refine takeD (i := 6) (oi := _) (v := ?vv204) (d := some 16) rfl (by kernel_rfl) (by kernel_rfl) (by kernel_rfl) (by kernel_rfl) (fun _ _ _ h => h) (Or.inl ⟨by kernel_rfl, ?_⟩) (by assumption) ?_
        rotate_left 1
        · intro W_ hSw; (try dsimp only at hSw); go_simp; (first | done | with_reducible rfl)
        try simp only [Act.put, List.setIfInBounds_toArray, List.set_cons_zero, List.set_cons_succ]
        refine wpAnyH_ready (rs := [7]) (by kernel_rfl) (by simp) ?_
        refine AllReadyH.cons (o := _) rfl (fun K hK => ?_) AllReadyH.nil
        go_simp
        refine hK.out _ _ ?_ (fun hHeld => ?_)
        · exact hqX
        clear hK K
        try simp only [Act.put]
        try simp only [List.setIfInBounds_toArray]
        try simp only [List.set_cons_succ]
        try simp only [List.set_cons_zero]
        refine wpAnyH_ready (rs := [8]) (by kernel_rfl) (by simp) ?_
        refine AllReadyH.cons (o := _) rfl (fun K hK => ?_) AllReadyH.nil
        (refine step_store_var rfl 91 (.tmp 6) (.tmp 15) rfl _ [.nilFunc, .nilFunc] [fnV 91, fnV 92] 2 rfl rfl RX size_effect rfl rfl (one_ab rfl rfl) ?_)
        intro w5 r5 k5
        go_simp
        refine hK.out _ _ ?_ (fun hHeld => ?_)
        · exact (k5.cell (p := ⟨w.heap.size + 1, 1, none⟩) hXne).trans hqX
        clear hK K
        try simp only [Act.put, List.setIfInBounds_toArray, List.set_cons_zero, List.set_cons_succ]
        refine takeD (i := 9) (oi := _) (v := ?vv205) (d := some 7) rfl (by kernel_rfl) (by kernel_rfl) (by kernel_rfl) (by kernel_rfl) (fun _ _ _ h => h) (Or.inl ⟨by kernel_rfl, ?_⟩) (by assumption) ?_
        rotate_left 1
        · intro W_ hSw; (try dsimp only at hSw); go_simp; (first | done | with_reducible rfl)
        try simp only [Act.put, List.setIfInBounds_toArray, List.set_cons_zero, List.set_cons_succ]
        refine wpAnyH_done (by kernel_rfl) ?_ _
        go_wp2
        go_meet
        case rel => exact ⟨_, rfl, rfl, Lib.hid ⟨r5, hbX.trans (k5.below hXle)⟩⟩
      · go_simp
        refine hK.out _ _ ?_ (fun hHeld => ?_)
        · exact hqX
        clear hK K
        try simp only [Act.put]
        try simp only [List.setIfInBounds_toArray]
        try simp only [List.set_cons_succ]
        try simp only [List.set_cons_zero]
        refine wpAnyH_ready (rs := [3]) (by kernel_rfl) (by simp) ?_
        refine AllReadyH.cons (o := _) rfl (fun K hK => ?_) AllReadyH.nil
        go_simp
        refine hK.out _ _ ?_ (fun hHeld => ?_)
        · exact hqX
        clear hK K
        try simp only [Act.put]
        try simp only [List.setIfInBounds_toArray]
        try simp only [List.set_cons_succ]
        try simp only [List.set_cons_zero]
        refine takeD (i := 4) (oi := _) (v := ?vv206) (d := some 10) rfl (by kernel_rfl) (by kernel_rfl) (by kernel_rfl) (by kernel_rfl) (fun _ _ _ h => h) (Or.inl ⟨by kernel_rfl, ?_⟩) (by assumption) ?_
        rotate_left 1
        · intro W_ hSw; (try dsimp only at hSw); go_simp; (first | done | with_reducible rfl)
        try simp only [Act.put, List.setIfInBounds_toArray, List.set_cons_zero, List.set_cons_succ]
        refine takeD (i := 5) (oi := _) (v := ?vv207) (d := some 15) rfl (by kernel_rfl) (by kernel_rfl) (by kernel_rfl) (by kernel_rfl) (fun _ _ _ h => h) (Or.inl ⟨by kernel_rfl, ?_⟩) (by assumption) ?_
        rotate_left 1
        · intro W_ hSw; (try dsimp only at hSw); go_simp; (first | done | with_reducible rfl)
        try simp only [Act.put, List.setIfInBounds_toArray, List.set_cons_zero, List.set_cons_succ]
        refine takeD (i := 6) (oi := _) (v := ?vv208) (d := some 16) rfl (by kernel_rfl) (by kernel_rfl) (by kernel_rfl) (by kernel_rfl) (fun _ _ _ h => h) (Or.inl ⟨by kernel_rfl, ?_⟩) (by assumption) ?_
        rotate_left 1
        · intro W_ hSw; (try dsimp only at hSw); go_simp; (first | done | with_reducible rfl)
        try simp only [Act.put, List.setIfInBounds_toArray, List.set_cons_zero, List.set_cons_succ]
        refine wpAnyH_ready (rs := [8]) (by kernel_rfl) (by simp) ?_
        refine AllReadyH.cons (o := _) rfl (fun K hK => ?_) AllReadyH.nil
        (refine step_store_var rfl 91 (.tmp 6) (.tmp 15) rfl _ [.nilFunc, .nilFunc] [fnV 91, fnV 92] 2 rfl rfl RX size_effect rfl rfl (one_ab rfl rfl) ?_)
        intro w5 r5 k5
        go_simp
        refine hK.out _ _ ?_ (fun hHeld => ?_)
        · exact (k5.cell (p := ⟨w.heap.size + 1, 1, none⟩) hXne).trans hqX
        clear hK K
        try simp only [Act.put, List.setIfInBounds_toArray, List.set_cons_zero, List.set_cons_succ]
        refine takeD (i := 9) (oi := _) (v := ?vv209) (d := some 7) rfl (by kernel_rfl) (by kernel_rfl) (by kernel_rfl) (by kernel_rfl) (fun _ _ _ h => h) (Or.inl ⟨by kernel_rfl, ?_⟩) (by assumption) ?_
        rotate_left 1
        · intro W_ hSw; (try dsimp only at hSw); go_simp; (first | done | with_reducible rfl)
        try simp only [Act.put, List.setIfInBounds_toArray, List.set_cons_zero, List.set_cons_succ]
        refine wpAnyH_done (by kernel_rfl) ?_ _
        go_wp2
        go_meet
        case rel => exact ⟨_, rfl, rfl, Lib.hid ⟨r5, hbX.trans (k5.below hXle)⟩⟩
    · go_simp
      refine hK.out _ _ ?_ (fun hHeld => ?_)
      · exact cell_al' _ q1
      clear hK K
      try simp only [Act.put]
      try simp only [List.setIfInBounds_toArray]
      try simp only [List.set_cons_succ]
      try simp only [List.set_cons_zero]
      have hba : Below w_2.heap.size w_2 (w_2.alloc (.cells #[.nilFunc, .nilFunc] 91)) := bel_alloc (Below.refl _ _) _
      have RA := RowAt.new w_2 91 [.nilFunc, .nilFunc]
      refine wpAnyH_ready (rs := [0]) (by kernel_rfl) (by simp) ?_
      refine AllReadyH.cons (o := _) rfl (fun K hK => ?_) AllReadyH.nil
      go_simp
      (go_at_call 66; (with_reducible refine (effects_any _).mono ?_); rintro e2 w3 ⟨rfl, m3, hb3⟩; have hb3a : Below (w_2.alloc (.cells #[.nilFunc, .nilFunc] 91)).heap.size (w_2.alloc (.cells #[.nilFunc, .nilFunc] 91)) w3 := (Below.refl _ _).drew.trans (hb3.mono (Nat.le_refl _)); have RX := RA.to hb3a; have hbX : Below w_2.heap.size w_2 w3 := hba.trans (hb3a.mono hba.size); have m3' : MapIs w3 (w_2.heap.size + 1) effL 4 := (by simpa using m3); have hlk := look_3 m3'; have hqX := (hbX.cell (p := ⟨w.heap.size + 1, 1, none⟩) hz2').trans q1; clear m3)
      go_wp2_with fail
      refine hK.out _ _ ?_ (fun hHeld => ?_)
      · exact hqX
      clear hK K
      try simp only [Act.put, List.setIfInBounds_toArray, List.set_cons_zero, List.set_cons_succ]
      have hXle : w_2.heap.size ≤ w_2.heap.size := Nat.le_refl _
      have hXne : w.heap.size + 1 ≠ w_2.heap.size := by omega
      refine wpAnyH_ready (rs := [3]) (by kernel_rfl) (by simp) ?_
      refine AllReadyH.cons (o := _) rfl (fun K hK => ?_) AllReadyH.nil
      go_simp
      refine hK.out _ _ ?_ (fun hHeld => ?_)
      · exact hqX
      clear hK K
      try simp only [Act.put]
      try simp only [List.setIfInBounds_toArray]
      try simp only [List.set_cons_succ]
      try simp only [List.set_cons_zero]
      refine takeD (i := 4) (oi := _) (v := ?vv210) (d := some 10) rfl (by kernel_rfl) (by kernel_rfl) (by kernel_rfl) (by kernel_rfl) (fun _ _ _ h => h) (Or.inl ⟨by kernel_rfl, ?_⟩) (by assumption) ?_
      rotate_left 1
      · intro W_ hSw; (try dsimp only at hSw); go_simp; (first | done | with_reducible rfl)
      try simp only [Act.put, List.setIfInBounds_toArray, List.set_cons_zero, List.set_cons_succ]
      refine takeD (i := 5) (oi := _) (v := ?vv211) (d := some 15) rfl (by kernel_rfl) (by kernel_rfl) (by kernel_rfl) (by kernel_rfl) (fun _ _ _ h => h) (Or.inl ⟨by kernel_rfl, ?_⟩) (by assumption) ?_
      rotate_left 1
      · intro W_ hSw; (try dsimp only at hSw); go_simp; (first | done | with_reducible rfl)
      try simp only [Act.put, List.setIfInBounds_toArray, List.set_cons_zero, List.set_cons_succ]
      refine takeD (i := 6) (oi := _) (v := ?vv212) (d := some 16) rfl (by kernel_rfl) (by kernel_rfl) (by kernel_rfl) (by kernel_rfl) (fun _ _ _ h => h) (Or.inl ⟨by kernel_rfl, ?_⟩) (by assumption) ?_
      rotate_left 1
      · intro W_ hSw; (try dsimp only at hSw); go_simp; (first | done | with_reducible rfl)
      try simp only [Act.put, List.setIfInBounds_toArray, List.set_cons_zero, List.set_cons_succ]
      refine wpAnyH_ready (rs := [8]) (by kernel_rfl) (by simp) ?_
      refine AllReadyH.cons (o := _) rfl (fun K hK => ?_) AllReadyH.nil
      (refine step_store_var rfl 91 (.tmp 6) (.tmp 15) rfl _ [.nilFunc, .nilFunc] [fnV 91, fnV 92] 2 rfl rfl RX size_effect rfl rfl (one_ab rfl rfl) ?_)
      intro w5 r5 k5
      go_simp
      refine hK.out _ _ ?_ (fun hHeld => ?_)
      · exact (k5.cell (p := ⟨w.heap.size + 1, 1, none⟩) hXne).trans hqX
      clear hK K
      try simp only [Act.put, List.setIfInBounds_toArray, List.set_cons_zero, List.set_cons_succ]
      refine takeD (i := 9) (oi := _) (v := ?vv213) (d := some 7) rfl (by kernel_rfl) (by kernel_rfl) (by kernel_rfl) (by kernel_rfl) (fun _ _ _ h => h) (Or.inl ⟨by kernel_rfl, ?_⟩) (by assumption) ?_
      rotate_left 1
      · intro W_ hSw; (try dsimp only at hSw); go_simp; (first | done | with_reducible rfl)
      try simp only [Act.put, List.setIfInBounds_toArray, List.set_cons_zero, List.set_cons_succ]
      refine wpAnyH_done (by kernel_rfl) ?_ _
      go_wp2
      go_meet
      case rel => exact ⟨_, rfl, rfl, Lib.hid ⟨r5, hbX.trans (k5.below hXle)⟩⟩
  case rest =>
    obtain ⟨X, rfl, rfl, HE⟩ := hcut
    have RE := Lib.hid HE.out.1
    replace R_2 := Lib.hid (R_2.out.to HE.out.2)
    replace RQ := Lib.hid (RQ.out.to HE.out.2)
    replace R2 := Lib.hid (R2.out.to HE.out.2)
    replace I2 := Lib.hid (I2.out.to HE.out.2)
    replace B2 := Lib.hid (B2.out.trans (HE.out.2.mono B2.out.size))
    have hz3 : w0.heap.size ≤ wc.heap.size := Nat.le_trans hz2 HE.out.2.size
    clear HE q1 hz2 hz2'
    rename World => wz
    have q0 : wz.cell? ⟨w.heap.size + 1, 0, none⟩ = some (.int .u16 (q.ow : Int)) := RQ.out.cells 0
    have q2 : wz.cell? ⟨w.heap.size + 1, 2, none⟩ = some (.int .u32 (q.tx : Int)) := RQ.out.cells 2
    by_cases h5 : q.ow = 0
    · have g5 : ((q.ow : Int) == 0) = true := by simp [h5]
      obtain rfl : (g, 2) = XX := by rw [← HX.out]; exact (doit_arg (.inl h5)).symm
      clear h5
      go_upto_region 4 with fail
      clear q0 q2
      go_wp2_with (first | (refine wpList_load_var rfl 35 (.tmp 2) rfl (w.heap.size) rfl _ _ 32 R_2.out Try.underlying35 rfl size_32 HC.out ?_) | (refine wpList_store_var rfl 35 (.tmp 4) (.tmp 29) rfl (w.heap.size + 2) _ (agC A1 c1 s1 g) 32 rfl rfl R2.out size_32 (by first | rfl | exact HCO.out) HC.out (agC_one _) ?_; intro w_5 r_5 k_5; have R_5 := Lib.hid r_5; have K_5 := Lib.hid k_5; clear r_5 k_5))
      exact bodyPost_ret (results_cell_tmp rfl _ _ (w.heap.size + 2) 35 _ (0, 0) _ rfl R_5.out Try.underlying35 rfl (by rw [size_32, List.size_toArray, HC.out])) rfl ⟨A1, c1, s1, rfl, (I2.out.only K_5.out (by omega)).more (by omega), K_5.out.to B2.out (by omega)⟩
    have g5 : ((q.ow : Int) == 0) = false := beq_eq_false_iff_ne.2 (by omega)
    by_cases h6 : q.tx = 0
    · have g6 : ((q.tx : Int) == 0) = true := by simp [h6]
      obtain rfl : (g, 2) = XX := by rw [← HX.out]; exact (doit_arg (.inr (.inl h6))).symm
      clear h5 h6
      go_upto_region 4 with fail
      clear q0 q2
      go_wp2_with (first | (refine wpList_load_var rfl 35 (.tmp 2) rfl (w.heap.size) rfl _ _ 32 R_2.out Try.underlying35 rfl size_32 HC.out ?_) | (refine wpList_store_var rfl 35 (.tmp 4) (.tmp 29) rfl (w.heap.size + 2) _ (agC A1 c1 s1 g) 32 rfl rfl R2.out size_32 (by first | rfl | exact HCO.out) HC.out (agC_one _) ?_; intro w_5 r_5 k_5; have R_5 := Lib.hid r_5; have K_5 := Lib.hid k_5; clear r_5 k_5))
      exact bodyPost_ret (results_cell_tmp rfl _ _ (w.heap.size + 2) 35 _ (0, 0) _ rfl R_5.out Try.underlying35 rfl (by rw [size_32, List.size_toArray, HC.out])) rfl ⟨A1, c1, s1, rfl, (I2.out.only K_5.out (by omega)).more (by omega), K_5.out.to B2.out (by omega)⟩
    have g6 : ((q.tx : Int) == 0) = false := beq_eq_false_iff_ne.2 (by omega)
    have h7 : ¬ (q.ow = 0 ∨ q.tx = 0 ∨ q.v < 1 ∨ 4 < q.v) := by have := HV.out; omega
    go_upto_region 5 with fail
    obtain ⟨o, ho⟩ : ∃ o, decide (Ls.free g.l = false ∧ g.l.o ≠ q.ow) = o := ⟨_, rfl⟩
    have ka := Lib.hid (agothers_any wz I2.out q.ow o ho)
    have HO := Lib.hid ho
    clear ho
    go_wp2_with (refine wpList_load_var rfl 35 (.tmp 2) rfl (w.heap.size) rfl _ _ 32 R_2.out Try.underlying35 rfl size_32 HC.out ?_)
    with_reducible refine (ka.out).mono ?_
    rintro e4 w4 ⟨rfl, hb4⟩
    replace RE := Lib.hid (RE.out.to hb4)
    replace R_2 := Lib.hid (R_2.out.to hb4)
    replace RQ := Lib.hid (RQ.out.to hb4)
    replace R2 := Lib.hid (R2.out.to hb4)
    replace I2 := Lib.hid (I2.out.to hb4)
    replace B2 := Lib.hid (B2.out.trans (hb4.mono B2.out.size))
    replace hz3 := Nat.le_trans hz3 hb4.size
    clear hb4 q0 q2 ka wz
    rename World => wz
    cases o
    rotate_left
    · obtain rfl : (g, 22) = XX := by
        rw [← HX.out]
        refine (doit_owned h7 ?_).symm
        have := of_decide_eq_true HO.out
        rw [HR.out.free_is] at this
        exact ⟨of_decide_eq_false this.1, this.2⟩
      clear h5 h6 h7
      go_upto_region 6 with fail
      go_wp2_with (first | (refine wpList_load_var rfl 35 (.tmp 2) rfl (w.heap.size) rfl _ _ 32 R_2.out Try.underlying35 rfl size_32 HC.out ?_) | (refine wpList_store_var rfl 35 (.tmp 4) (.tmp 34) rfl (w.heap.size + 2) _ (agC A1 c1 s1 g) 32 rfl rfl R2.out size_32 (by first | rfl | exact HCO.out) HC.out (agC_one _) ?_; intro w_5 r_5 k_5; have R_5 := Lib.hid r_5; have K_5 := Lib.hid k_5; clear r_5 k_5))
      exact bodyPost_ret (results_cell_tmp rfl _ _ (w.heap.size + 2) 35 _ (0, 0) _ rfl R_5.out Try.underlying35 rfl (by rw [size_32, List.size_toArray, HC.out])) rfl ⟨A1, c1, s1, rfl, (I2.out.only K_5.out (by omega)).more (by omega), K_5.out.to B2.out (by omega)⟩
    have h8 : ¬ (g.l.o ≠ 0 ∧ g.l.o ≠ q.ow) := fun hh => by
      have := of_decide_eq_false HO.out
      rw [HR.out.free_is] at this
      exact this ⟨decide_eq_false hh.1, hh.2⟩
    obtain ⟨r, hrr⟩ : ∃ r, decide (g.la ≠ q.tx ∧ ¬ (g.ph = 2 ∧ g.tx = q.tx)) = r := ⟨_, rfl⟩
    have kn : Hid (∀ W, AgIs A1 c1 s1 g W w0.heap.size → Calls Try.prog 91 #[.agg (agC A1 c1 s1 g).toArray, .agg (cmdL q).toArray] W fun e w' => e = .returned (.bool r) ∧ Below W.heap.size W w') := Lib.hid (fun W hW => agnoCommit_any W q r hW hrr)
    have HN := Lib.hid hrr
    clear hrr
    have x0 : wz.cell? ⟨X, 0, none⟩ = some (fnV 91) := RE.out.cells 0
    have qlt : w.heap.size + 1 < (wz).heap.size := RQ.out.lt
    have qlu : w.heap.size + 1 < (wz).heap.size + 1 := Nat.lt_succ_of_lt RQ.out.lt
    have q0 : (wz).cell? ⟨w.heap.size + 1, 0, none⟩ = some (.int .u16 (q.ow : Int)) := RQ.out.cells 0
    have qz0 : (wz).frozen? ⟨w.heap.size + 1, 0, none⟩ = false := RQ.out.frozen 0
    have q1 : (wz).cell? ⟨w.heap.size + 1, 1, none⟩ = some (.int .u8 (q.v : Int)) := RQ.out.cells 1
    have qz1 : (wz).frozen? ⟨w.heap.size + 1, 1, none⟩ = false := RQ.out.frozen 1
    have q2 : (wz).cell? ⟨w.heap.size + 1, 2, none⟩ = some (.int .u32 (q.tx : Int)) := RQ.out.cells 2
    have qz2 : (wz).frozen? ⟨w.heap.size + 1, 2, none⟩ = false := RQ.out.frozen 2
    have q3 : (wz).cell? ⟨w.heap.size + 1, 3, none⟩ = some (.int .u16 (q.n : Int)) := RQ.out.cells 3
    have qz3 : (wz).frozen? ⟨w.heap.size + 1, 3, none⟩ = false := RQ.out.frozen 3
    have q4 : (wz).cell? ⟨w.heap.size + 1, 4, none⟩ = some (.int .u32 (q.ck : Int)) := RQ.out.cells 4
    have qz4 : (wz).frozen? ⟨w.heap.size + 1, 4, none⟩ = false := RQ.out.frozen 4
    clear h5 h6
    go_wp2_with (refine wpList_load_var rfl 35 (.tmp 2) rfl (w.heap.size) rfl _ _ 32 R_2.out Try.underlying35 rfl size_32 HC.out ?_)
    with_reducible refine (kn.out _ I2.out).mono ?_
    rintro e5 w5 ⟨rfl, hb5⟩
    replace RE := Lib.hid (RE.out.to hb5)
    replace R_2 := Lib.hid (R_2.out.to hb5)
    replace RQ := Lib.hid (RQ.out.to hb5)
    replace R2 := Lib.hid (R2.out.to hb5)
    replace I2 := Lib.hid (I2.out.to hb5)
    replace B2 := Lib.hid (B2.out.trans (hb5.mono B2.out.size))
    replace hz3 := Nat.le_trans hz3 hb5.size
    clear hb5 q0 q1 q2 q3 q4 qz0 qz1 qz2 qz3 qz4 qlt qlu x0 wz kn
    rename World => wz
    cases r
    rotate_left
    · obtain rfl : (g, 23) = XX := by
        rw [← HX.out, doit_3 h7 h8 HV.out]
        have := of_decide_eq_true HN.out
        rw [if_neg this.1, if_pos (by omega)]
      clear h7 h8
      go_upto_region 8 with fail
      go_wp2_with (first | (refine wpList_load_var rfl 35 (.tmp 2) rfl (w.heap.size) rfl _ _ 32 R_2.out Try.underlying35 rfl size_32 HC.out ?_) | (refine wpList_store_var rfl 35 (.tmp 4) (.tmp 40) rfl (w.heap.size + 2) _ (agC A1 c1 s1 g) 32 rfl rfl R2.out size_32 (by first | rfl | exact HCO.out) HC.out (agC_one _) ?_; intro w_5 r_5 k_5; have R_5 := Lib.hid r_5; have K_5 := Lib.hid k_5; clear r_5 k_5))
      exact bodyPost_ret (results_cell_tmp rfl _ _ (w.heap.size + 2) 35 _ (0, 0) _ rfl R_5.out Try.underlying35 rfl (by rw [size_32, List.size_toArray, HC.out])) rfl ⟨A1, c1, s1, rfl, (I2.out.only K_5.out (by omega)).more (by omega), K_5.out.to B2.out (by omega)⟩
    have h9 : ¬ (g.la ≠ q.tx ∧ ¬ (g.ph = 2 ∧ g.tx = q.tx)) := of_decide_eq_false HN.out
    have h10 : XX.2 = 0 := by
      rw [← HX.out, doit_3 h7 h8 HV.out]; by_cases x : g.la = q.tx
      · rw [if_pos x]
      · rw [if_neg x, if_neg ?_]
        intro hh
        exact h9 ⟨x, fun y => by omega⟩
    obtain ⟨X1, X2⟩ := XX
    simp only at h10
    subst h10
    have hx1 : (g.doit q).1 = X1 := by rw [HX.out]
    have kd := Lib.hid (fun W (hW : AgIs A1 c1 s1 g W w0.heap.size) (hB : w0.heap.size ≤ W.heap.size) => do_3 hW hB HR.out hq HV.out h7 h8 h9)
    rw [hx1] at kd
    clear hx1 h7 h8 h9 HX
    have x1 : wz.cell? ⟨X, 1, none⟩ = some (fnV 92) := RE.out.cells 1
    have qlt : w.heap.size + 1 < (wz).heap.size := RQ.out.lt
    have qlu : w.heap.size + 1 < (wz).heap.size + 1 := Nat.lt_succ_of_lt RQ.out.lt
    have q0 : (wz).cell? ⟨w.heap.size + 1, 0, none⟩ = some (.int .u16 (q.ow : Int)) := RQ.out.cells 0
    have qz0 : (wz).frozen? ⟨w.heap.size + 1, 0, none⟩ = false := RQ.out.frozen 0
    have q1 : (wz).cell? ⟨w.heap.size + 1, 1, none⟩ = some (.int .u8 (q.v : Int)) := RQ.out.cells 1
    have qz1 : (wz).frozen? ⟨w.heap.size + 1, 1, none⟩ = false := RQ.out.frozen 1
    have q2 : (wz).cell? ⟨w.heap.size + 1, 2, none⟩ = some (.int .u32 (q.tx : Int)) := RQ.out.cells 2
    have qz2 : (wz).frozen? ⟨w.heap.size + 1, 2, none⟩ = false := RQ.out.frozen 2
    have q3 : (wz).cell? ⟨w.heap.size + 1, 3, none⟩ = some (.int .u16 (q.n : Int)) := RQ.out.cells 3
    have qz3 : (wz).frozen? ⟨w.heap.size + 1, 3, none⟩ = false := RQ.out.frozen 3
    have q4 : (wz).cell? ⟨w.heap.size + 1, 4, none⟩ = some (.int .u32 (q.ck : Int)) := RQ.out.cells 4
    have qz4 : (wz).frozen? ⟨w.heap.size + 1, 4, none⟩ = false := RQ.out.frozen 4
    go_wp2_with (refine wpList_load_var rfl 35 (.tmp 2) rfl (w.heap.size) rfl _ _ 32 R_2.out Try.underlying35 rfl size_32 HC.out ?_)
    with_reducible refine (kd.out _ I2.out hz3).mono ?_
    rintro e6 w6 ⟨A6, c6, s6, rfl, i6, hb6⟩
    replace R2 := Lib.hid (R2.out.to hb6)
    have I6 := Lib.hid i6
    have HC6 := Lib.hid i6.C32
    have B6 := Lib.hid (B2.out.trans (hb6.mono B2.out.size))
    clear hb6 i6 q0 q1 q2 q3 q4 qz0 qz1 qz2 qz3 qz4 qlt qlu x1 kd B2 I2 RE RQ R_2
    go_wp2_with (refine wpList_store_var rfl 35 (.tmp 4) (.tmp 45) rfl (w.heap.size + 2) _ (agC A6 c6 s6 X1) 32 rfl rfl R2.out size_32 (by first | rfl | exact HCO.out) HC6.out (agC_one _) ?_; intro w_5 r_5 k_5; have R_5 := Lib.hid r_5; have K_5 := Lib.hid k_5; clear r_5 k_5)
    exact bodyPost_ret (results_cell_tmp rfl _ _ (w.heap.size + 2) 35 _ (0, 0) _ rfl R_5.out Try.underlying35 rfl (by rw [size_32, List.size_toArray, HC6.out])) rfl ⟨A6, c6, s6, rfl, (I6.out.only K_5.out (by omega)).more (by omega), K_5.out.to B6.out (by omega)⟩
set_option maxHeartbeats 1000000 in
theorem agdo_4 (w : World) (h : AgIs A c s g w base) (q : Cmd) (hq : q.Fit) (hr : g.right) (hv : q.v = 4) :
    Calls Try.prog 35 #[.agg (agC A c s g).toArray, .agg (cmdL q).toArray] w (AgEE w (g.doit q)) := by
  obtain ⟨XX, hX⟩ : ∃ XX, g.doit q = XX := ⟨_, rfl⟩
  rw [hX]
  have HX := Lib.hid hX
  clear hX
  have HR := Lib.hid hr
  clear hr
  have HV := Lib.hid hv
  clear hv
  have ko := Lib.hid (fun W (hW : Below w.heap.size w W) => agown_any W (h.to hW))
  have HCO := Lib.hid h.C32
  clear h
  go_enter Try.func35, Try.ntmps35
  go_upto_region 1 with fail
  obtain ⟨w0, hw0⟩ : ∃ w_q_, w_q_ = ((w.alloc (.cells (agC A c s g).toArray 35)).alloc (.cells (cmdL q).toArray 41)).alloc (.cells z32 35) := ⟨_, rfl⟩
  rw [← hw0]
  have hin := in_acr w (agC A c s g) (cmdL q)
  rw [← hw0] at hin
  obtain ⟨r1, rq, r2, b0, z0⟩ := hin
  have R1 := Lib.hid r1
  have RQ := Lib.hid rq
  have R2 := Lib.hid r2
  have B0 := Lib.hid b0
  clear hw0 r1 r2 b0 rq
  go_wp2_with (refine wpList_load_var rfl 35 (.tmp 2) rfl (w.heap.size) rfl _ _ 32 R1.out Try.underlying35 rfl size_32 HCO.out ?_)
  with_reducible refine (ko.out _ B0.out).mono ?_
  rintro e1 w1 ⟨A1, c1, s1, rfl, i1, hb1⟩
  have I1 := Lib.hid i1
  have HC := Lib.hid i1.C32
  replace R1 := Lib.hid (R1.out.to hb1)
  replace RQ := Lib.hid (RQ.out.to hb1)
  replace R2 := Lib.hid (R2.out.to hb1)
  have B1 := Lib.hid (B0.out.trans (hb1.mono B0.out.size))
  have hz1 := hb1.size
  clear hb1 i1 ko
  go_upto_region 2 with (refine wpList_store_var rfl 35 (.tmp 2) (.tmp 9) rfl (w.heap.size) _ (agC A1 c1 s1 g) 32 rfl rfl R1.out size_32 (by first | rfl | exact HCO.out) HC.out (agC_one _) ?_; intro w_2 r_2 k_2; have R_2 := Lib.hid r_2; have K_2 := Lib.hid k_2; clear r_2 k_2)
  replace R2 := Lib.hid (R2.out.only K_2.out (by omega))
  replace RQ := Lib.hid (RQ.out.only K_2.out (by omega))
  have I2 := Lib.hid (I1.out.only K_2.out (by omega))
  have B2 := Lib.hid (K_2.out.to B1.out (Nat.le_refl _))
  have hz2 : w0.heap.size ≤ w_2.heap.size := by rw [K_2.out.size]; exact hz1
  clear B1 I1 K_2 R1 B0 hz1
  have q1 : w_2.cell? ⟨w.heap.size + 1, 1, none⟩ = some (.int .u8 4) := (RQ.out.cells 1).trans (by show some (Value.int .u8 (q.v : Int)) = _; rw [HV.out]; rfl)
  have hz2' : w.heap.size + 1 < w_2.heap.size := by omega
  simp only [Act.put]
  go_cut [6, 7] (fun p v wx => ∃ X : Nat, p = .pointer (some ⟨X, 0, none⟩) ∧ v = .bool true ∧ Hid (RowAt wx X 91 [fnV 93, fnV 94] ∧ Below w_2.heap.size w_2 wx))
  case first =>
    refine wp_region_held_drew (S := (fun w' => w'.cell? ⟨w.heap.size + 1, 1, none⟩ = some (.int .u8 4))) (by kernel_rfl) ?_ (fun hHeld => ?_)
    · exact q1
    refine takeD (i := 1) (oi := _) (v := ?vv214) (d := some 12) rfl (by kernel_rfl) (by kernel_rfl) (by kernel_rfl) (by kernel_rfl) (fun _ _ _ h => h) (Or.inl ⟨by kernel_rfl, ?_⟩) (by assumption) ?_
    rotate_left 1
    · intro W_ hSw; (try dsimp only at hSw); go_simp; (first | done | with_reducible rfl)
    try simp only [Act.put, List.setIfInBounds_toArray, List.set_cons_zero, List.set_cons_succ]
    refine takeD (i := 2) (oi := _) (v := ?vv215) (d := some 13) rfl (by kernel_rfl) (by kernel_rfl) (by kernel_rfl) (by kernel_rfl) (fun _ _ _ h => h) (Or.inl ⟨by kernel_rfl, ?_⟩) (by assumption) ?_
    rotate_left 1
    · intro W_ hSw; (try dsimp only at hSw); go_simp; (first | done | with_reducible rfl)
    try simp only [Act.put, List.setIfInBounds_toArray, List.set_cons_zero, List.set_cons_succ]
    refine wpAnyH_ready (rs := [0, 7]) (by kernel_rfl) (by simp) ?_
    refine AllReadyH.cons (o := _) rfl (fun K hK => ?_) (AllReadyH.cons (o := _) rfl (fun K hK => ?_) AllReadyH.nil)
    · go_simp
      (go_at_call 66; (with_reducible refine (effects_any _).mono ?_); rintro e2 w3 ⟨rfl, m3, hb3⟩; have hb3a : Below w_2.heap.size w_2 w3 := (Below.refl _ _).drew.trans (hb3.mono (Nat.le_refl _)); have m3' : MapIs w3 w_2.heap.size effL 4 := m3; have hlk := look_4 m3'; have hlk4 := look_4 (m3'.to (bel_alloc (Below.refl _ _) (.cells #[.nilFunc, .nilFunc] 91))); have q13 := (hb3a.cell (p := ⟨w.heap.size + 1, 1, none⟩) hz2').trans q1; clear m3)
      go_wp2_with fail
      refine hK.out _ _ ?_ (fun hHeld => ?_)
      · exact q13
      clear hK K
      try simp only [Act.put, List.setIfInBounds_toArray, List.set_cons_zero, List.set_cons_succ]
      have hqX := cell_al' (.cells #[.nilFunc, .nilFunc] 91) q13
      have RX := RowAt.new w3 91 [.nilFunc, .nilFunc]
      have hbX : Below w_2.heap.size w_2 (w3.alloc (.cells #[.nilFunc, .nilFunc] 91)) := bel_alloc hb3a _
      have hXle := hb3a.size
      have hXne : w.heap.size + 1 ≠ w3.heap.size := by omega
      refine wpAnyH_ready (rs := [3, 7]) (by kernel_rfl) (by simp) ?_
      refine AllReadyH.cons (o := _) rfl (fun K hK => ?_) (AllReadyH.cons (o := _) rfl (fun K hK => ?_) AllReadyH.nil)
      · go_simp
        refine hK.out _ _ ?_ (fun hHeld => ?_)
        · exact q13
        clear hK K
        try simp only [Act.put]
        try simp only [List.setIfInBounds_toArray]
        try simp only [List.set_cons_succ]
        try simp only [List.set_cons_zero]
        refine takeD (i := 4) (oi := _) (v := ?vv216) (d := some 10) rfl (by kernel_rfl) (by kernel_rfl) (by kernel_rfl) (by kernel_rfl) (fun _ _ _ h => h) (Or.inl ⟨by kernel_rfl, ?_⟩) (by assumption) ?_
        rotate_left 1
        · intro W_ hSw; (try dsimp only at hSw); go_simp; (first | done | with_reducible rfl)
        try simp only [Act.put, List.setIfInBounds_toArray, List.set_cons_zero, List.set_cons_succ]
        refine takeD (i := 5) (oi := _) (v := ?vv217) (d := some 15) rfl (by kernel_rfl) (by kernel_rfl) (by kernel_rfl) (by kernel_rfl) (fun _ _ _ h => h) (Or.inl ⟨by kernel_rfl, ?_⟩) (by assumption) ?_
        rotate_left 1
        · intro W_ hSw; (try dsimp only at hSw); go_simp; (first | done | with_reducible rfl)
        try simp only [Act.put, List.setIfInBounds_toArray, List.set_cons_zero, List.set_cons_succ]
        refine takeD (i := 6) (oi := _) (v := ?vv218) (d := some 16) rfl (by kernel_rfl) (by kernel_rfl) (by kernel_rfl) (by kernel_rfl) (fun _ _ _ h => h) (Or.inl ⟨by kernel_rfl, ?_⟩) (by assumption) ?_
        rotate_left 1
        · intro W_ hSw; (try dsimp only at hSw); go_simp; (first | done | with_reducible rfl)
        try simp only [Act.put, List.setIfInBounds_toArray, List.set_cons_zero, List.set_cons_succ]
        refine wpAnyH_ready (rs := [7]) (by kernel_rfl) (by simp) ?_
        refine AllReadyH.cons (o := _) rfl (fun K hK => ?_) AllReadyH.nil
        go_simp
        refine hK.out _ _ ?_ (fun hHeld => ?_)
        · exact hqX
        clear hK K
        try simp only [Act.put]
        try simp only [List.setIfInBounds_toArray]
        try simp only [List.set_cons_succ]
        try simp only [List.set_cons_zero]
        refine wpAnyH_ready (rs := [8]) (by kernel_rfl) (by simp) ?_
        refine AllReadyH.cons (o := _) rfl (fun K hK => ?_) AllReadyH.nil
        (refine step_store_var rfl 91 (.tmp 6) (.tmp 15) rfl _ [.nilFunc, .nilFunc] [fnV 93, fnV 94] 2 rfl rfl RX size_effect rfl rfl (one_ab rfl rfl) ?_)
        intro w5 r5 k5
        go_simp
        refine hK.out _ _ ?_ (fun hHeld => ?_)
        · exact (k5.cell (p := ⟨w.heap.size + 1, 1, none⟩) hXne).trans hqX
        clear hK K
        try simp only [Act.put, List.setIfInBounds_toArray, List.set_cons_zero, List.set_cons_succ]
        refine takeD (i := 9) (oi := _) (v := ?vv219) (d := some 7) rfl (by kernel_rfl) (by kernel_rfl) (by kernel_rfl) (by kernel_rfl) (fun _ _ _ h => h) (Or.inl ⟨by kernel_rfl, ?_⟩) (by assumption) ?_
        rotate_left 1
        · intro W_ hSw; (try dsimp only at hSw); go_simp; (first | done | with_reducible rfl)
        try simp only [Act.put, List.setIfInBounds_toArray, List.set_cons_zero, List.set_cons_succ]
        refine wpAnyH_done (by kernel_rfl) ?_ _
        go_wp2
        go_meet
        case rel => exact ⟨_, rfl, rfl, Lib.hid ⟨r5, hbX.trans (k5.below hXle)⟩⟩
      · go_simp
        refine hK.out _ _ ?_ (fun hHeld => ?_)
        · exact hqX
        clear hK K
        try simp only [Act.put]
        try simp only [List.setIfInBounds_toArray]
        try simp only [List.set_cons_succ]
        try simp only [List.set_cons_zero]
        refine wpAnyH_ready (rs := [3]) (by kernel_rfl) (by simp) ?_
        refine AllReadyH.cons (o := _) rfl (fun K hK => ?_) AllReadyH.nil
        go_simp
        refine hK.out _ _ ?_ (fun hHeld => ?_)
        · exact hqX
        clear hK K
        try simp only [Act.put]
        try simp only [List.setIfInBounds_toArray]
        try simp only [List.set_cons_succ]
        try simp only [List.set_cons_zero]
        refine takeD (i := 4) (oi := _) (v := ?vv220) (d := some 10) rfl (by kernel_rfl) (by kernel_rfl) (by kernel_rfl) (by kernel_rfl) (fun _ _ _ h => h) (Or.inl ⟨by kernel_rfl, ?_⟩) (by assumption) ?_
        rotate_left 1
        · intro W_ hSw; (try dsimp only at hSw); go_simp; (first | done | with_reducible rfl)
        try simp only [Act.put, List.setIfInBounds_toArray, List.set_cons_zero, List.set_cons_succ]
        refine takeD (i := 5) (oi := _) (v := ?vv221) (d := some 15) rfl (by kernel_rfl) (by kernel_rfl) (by kernel_rfl) (by kernel_rfl) (fun _ _ _ h => h) (Or.inl ⟨by kernel_rfl, ?_⟩) (by assumption) ?_
        rotate_left 1
        · intro W_ hSw; (try dsimp only at hSw); go_simp; (first | done | with_reducible rfl)
        try simp only [Act.put, List.setIfInBounds_toArray, List.set_cons_zero, List.set_cons_succ]
        refine takeD (i := 6) (oi := _) (v := ?vv222) (d := some 16) rfl (by kernel_rfl) (by kernel_rfl) (by kernel_rfl) (by kernel_rfl) (fun _ _ _ h => h) (Or.inl ⟨by kernel_rfl, ?_⟩) (by assumption) ?_
        rotate_left 1
        · intro W_ hSw; (try dsimp only at hSw); go_simp; (first | done | with_reducible rfl)
        try simp only [Act.put, List.setIfInBounds_toArray, List.set_cons_zero, List.set_cons_succ]
        refine wpAnyH_ready (rs := [8]) (by kernel_rfl) (by simp) ?_
        refine AllReadyH.cons (o := _) rfl (fun K hK => ?_) AllReadyH.nil
        (refine step_store_var rfl 91 (.tmp 6) (.tmp 15) rfl _ [.nilFunc, .nilFunc] [fnV 93, fnV 94] 2 rfl rfl RX size_effect rfl rfl (one_ab rfl rfl) ?_)
        intro w5 r5 k5
        go_simp
        refine hK.out _ _ ?_ (fun hHeld => ?_)
        · exact (k5.cell (p := ⟨w.heap.size + 1, 1, none⟩) hXne).trans hqX
        clear hK K
        try simp only [Act.put, List.setIfInBounds_toArray, List.set_cons_zero, List.set_cons_succ]
        refine takeD (i := 9) (oi := _) (v := ?vv223) (d := some 7) rfl (by kernel_rfl) (by kernel_rfl) (by kernel_rfl) (by kernel_rfl) (fun _ _ _ h => h) (Or.inl ⟨by kernel_rfl, ?_⟩) (by assumption) ?_
        rotate_left 1
        · intro W_ hSw; (try dsimp only at hSw); go_simp; (first | done | with_reducible rfl)
        try simp only [Act.put, List.setIfInBounds_toArray, List.set_cons_zero, List.set_cons_succ]
        refine wpAnyH_done (by kernel_rfl) ?_ _
        go_wp2
        go_meet
        case rel => exact ⟨_, rfl, rfl, Lib.hid ⟨r5, hbX.trans (k5.below hXle)⟩⟩
    · go_simp
      refine hK.out _ _ ?_ (fun hHeld => ?_)
      · exact cell_al' _ q1
      clear hK K
      try simp only [Act.put]
      try simp only [List.setIfInBounds_toArray]
      try simp only [List.set_cons_succ]
      try simp only [List.set_cons_zero]
      have hba : Below w_2.heap.size w_2 (w_2.alloc (.cells #[.nilFunc, .nilFunc] 91)) := bel_alloc (Below.refl _ _) _
      have RA := RowAt.new w_2 91 [.nilFunc, .nilFunc]
      refine wpAnyH_ready (rs := [0]) (by kernel_rfl) (by simp) ?_
      refine AllReadyH.cons (o := _) rfl (fun K hK => ?_) AllReadyH.nil
      go_simp
      (go_at_call 66; (with_reducible refine (effects_any _).mono ?_); rintro e2 w3 ⟨rfl, m3, hb3⟩; have hb3a : Below (w_2.alloc (.cells #[.nilFunc, .nilFunc] 91)).heap.size (w_2.alloc (.cells #[.nilFunc, .nilFunc] 91)) w3 := (Below.refl _ _).drew.trans (hb3.mono (Nat.le_refl _)); have RX := RA.to hb3a; have hbX : Below w_2.heap.size w_2 w3 := hba.trans (hb3a.mono hba.size); have m3' : MapIs w3 (w_2.heap.size + 1) effL 4 := (by simpa using m3); have hlk := look_4 m3'; have hqX := (hbX.cell (p := ⟨w.heap.size + 1, 1, none⟩) hz2').trans q1; clear m3)
      go_wp2_with fail
      refine hK.out _ _ ?_ (fun hHeld => ?_)
      · exact hqX
      clear hK K
      try simp only [Act.put, List.setIfInBounds_toArray, List.set_cons_zero, List.set_cons_succ]
      have hXle : w_2.heap.size ≤ w_2.heap.size := Nat.le_refl _
      have hXne : w.heap.size + 1 ≠ w_2.heap.size := by omega
      refine wpAnyH_ready (rs := [3]) (by kernel_rfl) (by simp) ?_
      refine AllReadyH.cons (o := _) rfl (fun K hK => ?_) AllReadyH.nil
      go_simp
      refine hK.out _ _ ?_ (fun hHeld => ?_)
      · exact hqX
      clear hK K
      try simp only [Act.put]
      try simp only [List.setIfInBounds_toArray]
      try simp only [List.set_cons_succ]
      try simp only [List.set_cons_zero]
      refine takeD (i := 4) (oi := _) (v := ?vv224) (d := some 10) rfl (by kernel_rfl) (by kernel_rfl) (by kernel_rfl) (by kernel_rfl) (fun _ _ _ h => h) (Or.inl ⟨by kernel_rfl, ?_⟩) (by assumption) ?_
      rotate_left 1
      · intro W_ hSw; (try dsimp only at hSw); go_simp; (first | done | with_reducible rfl)
      try simp only [Act.put, List.setIfInBounds_toArray, List.set_cons_zero, List.set_cons_succ]
      refine takeD (i := 5) (oi := _) (v := ?vv225) (d := some 15) rfl (by kernel_rfl) (by kernel_rfl) (by kernel_rfl) (by kernel_rfl) (fun _ _ _ h => h) (Or.inl ⟨by kernel_rfl, ?_⟩) (by assumption) ?_
      rotate_left 1
      · intro W_ hSw; (try dsimp only at hSw); go_simp; (first | done | with_reducible rfl)
      try simp only [Act.put, List.setIfInBounds_toArray, List.set_cons_zero, List.set_cons_succ]
      refine takeD (i := 6) (oi := _) (v := ?vv226) (d := some 16) rfl (by kernel_rfl) (by kernel_rfl) (by kernel_rfl) (by kernel_rfl) (fun _ _ _ h => h) (Or.inl ⟨by kernel_rfl, ?_⟩) (by assumption) ?_
      rotate_left 1
      · intro W_ hSw; (try dsimp only at hSw); go_simp; (first | done | with_reducible rfl)
      try simp only [Act.put, List.setIfInBounds_toArray, List.set_cons_zero, List.set_cons_succ]
      refine wpAnyH_ready (rs := [8]) (by kernel_rfl) (by simp) ?_
      refine AllReadyH.cons (o := _) rfl (fun K hK => ?_) AllReadyH.nil
      (refine step_store_var rfl 91 (.tmp 6) (.tmp 15) rfl _ [.nilFunc, .nilFunc] [fnV 93, fnV 94] 2 rfl rfl RX size_effect rfl rfl (one_ab rfl rfl) ?_)
      intro w5 r5 k5
      go_simp
      refine hK.out _ _ ?_ (fun hHeld => ?_)
      · exact (k5.cell (p := ⟨w.heap.size + 1, 1, none⟩) hXne).trans hqX
      clear hK K
      try simp only [Act.put, List.setIfInBounds_toArray, List.set_cons_zero, List.set_cons_succ]
      refine takeD (i := 9) (oi := _) (v := ?vv227) (d := some 7) rfl (by kernel_rfl) (by kernel_rfl) (by kernel_rfl) (by kernel_rfl) (fun _ _ _ h => h) (Or.inl ⟨by kernel_rfl, ?_⟩) (by assumption) ?_
      rotate_left 1
      · intro W_ hSw; (try dsimp only at hSw); go_simp; (first | done | with_reducible rfl)
      try simp only [Act.put, List.setIfInBounds_toArray, List.set_cons_zero, List.set_cons_succ]
      refine wpAnyH_done (by kernel_rfl) ?_ _
      go_wp2
      go_meet
      case rel => exact ⟨_, rfl, rfl, Lib.hid ⟨r5, hbX.trans (k5.below hXle)⟩⟩
  case rest =>
    obtain ⟨X, rfl, rfl, HE⟩ := hcut
    have RE := Lib.hid HE.out.1
    replace R_2 := Lib.hid (R_2.out.to HE.out.2)
    replace RQ := Lib.hid (RQ.out.to HE.out.2)
    replace R2 := Lib.hid (R2.out.to HE.out.2)
    replace I2 := Lib.hid (I2.out.to HE.out.2)
    replace B2 := Lib.hid (B2.out.trans (HE.out.2.mono B2.out.size))
    have hz3 : w0.heap.size ≤ wc.heap.size := Nat.le_trans hz2 HE.out.2.size
    clear HE q1 hz2 hz2'
    rename World => wz
    have q0 : wz.cell? ⟨w.heap.size + 1, 0, none⟩ = some (.int .u16 (q.ow : Int)) := RQ.out.cells 0
    have q2 : wz.cell? ⟨w.heap.size + 1, 2, none⟩ = some (.int .u32 (q.tx : Int)) := RQ.out.cells 2
    by_cases h5 : q.ow = 0
    · have g5 : ((q.ow : Int) == 0) = true := by simp [h5]
      obtain rfl : (g, 2) = XX := by rw [← HX.out]; exact (doit_arg (.inl h5)).symm
      clear h5
      go_upto_region 4 with fail
      clear q0 q2
      go_wp2_with (first | (refine wpList_load_var rfl 35 (.tmp 2) rfl (w.heap.size) rfl _ _ 32 R_2.out Try.underlying35 rfl size_32 HC.out ?_) | (refine wpList_store_var rfl 35 (.tmp 4) (.tmp 29) rfl (w.heap.size + 2) _ (agC A1 c1 s1 g) 32 rfl rfl R2.out size_32 (by first | rfl | exact HCO.out) HC.out (agC_one _) ?_; intro w_5 r_5 k_5; have R_5 := Lib.hid r_5; have K_5 := Lib.hid k_5; clear r_5 k_5))
      exact bodyPost_ret (results_cell_tmp rfl _ _ (w.heap.size + 2) 35 _ (0, 0) _ rfl R_5.out Try.underlying35 rfl (by rw [size_32, List.size_toArray, HC.out])) rfl ⟨A1, c1, s1, rfl, (I2.out.only K_5.out (by omega)).more (by omega), K_5.out.to B2.out (by omega)⟩
    have g5 : ((q.ow : Int) == 0) = false := beq_eq_false_iff_ne.2 (by omega)
    by_cases h6 : q.tx = 0
    · have g6 : ((q.tx : Int) == 0) = true := by simp [h6]
      obtain rfl : (g, 2) = XX := by rw [← HX.out]; exact (doit_arg (.inr (.inl h6))).symm
      clear h5 h6
      go_upto_region 4 with fail
      clear q0 q2
      go_wp2_with (first | (refine wpList_load_var rfl 35 (.tmp 2) rfl (w.heap.size) rfl _ _ 32 R_2.out Try.underlying35 rfl size_32 HC.out ?_) | (refine wpList_store_var rfl 35 (.tmp 4) (.tmp 29) rfl (w.heap.size + 2) _ (agC A1 c1 s1 g) 32 rfl rfl R2.out size_32 (by first | rfl | exact HCO.out) HC.out (agC_one _) ?_; intro w_5 r_5 k_5; have R_5 := Lib.hid r_5; have K_5 := Lib.hid k_5; clear r_5 k_5))
      exact bodyPost_ret (results_cell_tmp rfl _ _ (w.heap.size + 2) 35 _ (0, 0) _ rfl R_5.out Try.underlying35 rfl (by rw [size_32, List.size_toArray, HC.out])) rfl ⟨A1, c1, s1, rfl, (I2.out.only K_5.out (by omega)).more (by omega), K_5.out.to B2.out (by omega)⟩
    have g6 : ((q.tx : Int) == 0) = false := beq_eq_false_iff_ne.2 (by omega)
    have h7 : ¬ (q.ow = 0 ∨ q.tx = 0 ∨ q.v < 1 ∨ 4 < q.v) := by have := HV.out; omega
    go_upto_region 5 with fail
    obtain ⟨o, ho⟩ : ∃ o, decide (Ls.free g.l = false ∧ g.l.o ≠ q.ow) = o := ⟨_, rfl⟩
    have ka := Lib.hid (agothers_any wz I2.out q.ow o ho)
    have HO := Lib.hid ho
    clear ho
    go_wp2_with (refine wpList_load_var rfl 35 (.tmp 2) rfl (w.heap.size) rfl _ _ 32 R_2.out Try.underlying35 rfl size_32 HC.out ?_)
    with_reducible refine (ka.out).mono ?_
    rintro e4 w4 ⟨rfl, hb4⟩
    replace RE := Lib.hid (RE.out.to hb4)
    replace R_2 := Lib.hid (R_2.out.to hb4)
    replace RQ := Lib.hid (RQ.out.to hb4)
    replace R2 := Lib.hid (R2.out.to hb4)
    replace I2 := Lib.hid (I2.out.to hb4)
    replace B2 := Lib.hid (B2.out.trans (hb4.mono B2.out.size))
    replace hz3 := Nat.le_trans hz3 hb4.size
    clear hb4 q0 q2 ka wz
    rename World => wz
    cases o
    rotate_left
    · obtain rfl : (g, 22) = XX := by
        rw [← HX.out]
        refine (doit_owned h7 ?_).symm
        have := of_decide_eq_true HO.out
        rw [HR.out.free_is] at this
        exact ⟨of_decide_eq_false this.1, this.2⟩
      clear h5 h6 h7
      go_upto_region 6 with fail
      go_wp2_with (first | (refine wpList_load_var rfl 35 (.tmp 2) rfl (w.heap.size) rfl _ _ 32 R_2.out Try.underlying35 rfl size_32 HC.out ?_) | (refine wpList_store_var rfl 35 (.tmp 4) (.tmp 34) rfl (w.heap.size + 2) _ (agC A1 c1 s1 g) 32 rfl rfl R2.out size_32 (by first | rfl | exact HCO.out) HC.out (agC_one _) ?_; intro w_5 r_5 k_5; have R_5 := Lib.hid r_5; have K_5 := Lib.hid k_5; clear r_5 k_5))
      exact bodyPost_ret (results_cell_tmp rfl _ _ (w.heap.size + 2) 35 _ (0, 0) _ rfl R_5.out Try.underlying35 rfl (by rw [size_32, List.size_toArray, HC.out])) rfl ⟨A1, c1, s1, rfl, (I2.out.only K_5.out (by omega)).more (by omega), K_5.out.to B2.out (by omega)⟩
    have h8 : ¬ (g.l.o ≠ 0 ∧ g.l.o ≠ q.ow) := fun hh => by
      have := of_decide_eq_false HO.out
      rw [HR.out.free_is] at this
      exact this ⟨decide_eq_false hh.1, hh.2⟩
    obtain ⟨r, hrr⟩ : ∃ r, decide (q.tx ≤ g.la) = r := ⟨_, rfl⟩
    have kn : Hid (∀ W, AgIs A1 c1 s1 g W w0.heap.size → Calls Try.prog 93 #[.agg (agC A1 c1 s1 g).toArray, .agg (cmdL q).toArray] W fun e w' => e = .returned (.bool r) ∧ Below W.heap.size W w') := Lib.hid (fun W hW => agnoAbort_any W q r hrr)
    have HN := Lib.hid hrr
    clear hrr
    have x0 : wz.cell? ⟨X, 0, none⟩ = some (fnV 93) := RE.out.cells 0
    have qlt : w.heap.size + 1 < (wz).heap.size := RQ.out.lt
    have qlu : w.heap.size + 1 < (wz).heap.size + 1 := Nat.lt_succ_of_lt RQ.out.lt
    have q0 : (wz).cell? ⟨w.heap.size + 1, 0, none⟩ = some (.int .u16 (q.ow : Int)) := RQ.out.cells 0
    have qz0 : (wz).frozen? ⟨w.heap.size + 1, 0, none⟩ = false := RQ.out.frozen 0
    have q1 : (wz).cell? ⟨w.heap.size + 1, 1, none⟩ = some (.int .u8 (q.v : Int)) := RQ.out.cells 1
    have qz1 : (wz).frozen? ⟨w.heap.size + 1, 1, none⟩ = false := RQ.out.frozen 1
    have q2 : (wz).cell? ⟨w.heap.size + 1, 2, none⟩ = some (.int .u32 (q.tx : Int)) := RQ.out.cells 2
    have qz2 : (wz).frozen? ⟨w.heap.size + 1, 2, none⟩ = false := RQ.out.frozen 2
    have q3 : (wz).cell? ⟨w.heap.size + 1, 3, none⟩ = some (.int .u16 (q.n : Int)) := RQ.out.cells 3
    have qz3 : (wz).frozen? ⟨w.heap.size + 1, 3, none⟩ = false := RQ.out.frozen 3
    have q4 : (wz).cell? ⟨w.heap.size + 1, 4, none⟩ = some (.int .u32 (q.ck : Int)) := RQ.out.cells 4
    have qz4 : (wz).frozen? ⟨w.heap.size + 1, 4, none⟩ = false := RQ.out.frozen 4
    clear h5 h6
    go_wp2_with (refine wpList_load_var rfl 35 (.tmp 2) rfl (w.heap.size) rfl _ _ 32 R_2.out Try.underlying35 rfl size_32 HC.out ?_)
    with_reducible refine (kn.out _ I2.out).mono ?_
    rintro e5 w5 ⟨rfl, hb5⟩
    replace RE := Lib.hid (RE.out.to hb5)
    replace R_2 := Lib.hid (R_2.out.to hb5)
    replace RQ := Lib.hid (RQ.out.to hb5)
    replace R2 := Lib.hid (R2.out.to hb5)
    replace I2 := Lib.hid (I2.out.to hb5)
    replace B2 := Lib.hid (B2.out.trans (hb5.mono B2.out.size))
    replace hz3 := Nat.le_trans hz3 hb5.size
    clear hb5 q0 q1 q2 q3 q4 qz0 qz1 qz2 qz3 qz4 qlt qlu x0 wz kn
    rename World => wz
    cases r
    rotate_left
    · obtain rfl : (g, 23) = XX := by
        rw [← HX.out, doit_4 h7 h8 HV.out]
        have := of_decide_eq_true HN.out
        rw [if_pos this]
      clear h7 h8
      go_upto_region 8 with fail
      go_wp2_with (first | (refine wpList_load_var rfl 35 (.tmp 2) rfl (w.heap.size) rfl _ _ 32 R_2.out Try.underlying35 rfl size_32 HC.out ?_) | (refine wpList_store_var rfl 35 (.tmp 4) (.tmp 40) rfl (w.heap.size + 2) _ (agC A1 c1 s1 g) 32 rfl rfl R2.out size_32 (by first | rfl | exact HCO.out) HC.out (agC_one _) ?_; intro w_5 r_5 k_5; have R_5 := Lib.hid r_5; have K_5 := Lib.hid k_5; clear r_5 k_5))
      exact bodyPost_ret (results_cell_tmp rfl _ _ (w.heap.size + 2) 35 _ (0, 0) _ rfl R_5.out Try.underlying35 rfl (by rw [size_32, List.size_toArray, HC.out])) rfl ⟨A1, c1, s1, rfl, (I2.out.only K_5.out (by omega)).more (by omega), K_5.out.to B2.out (by omega)⟩
    have h9 : ¬ (q.tx ≤ g.la) := of_decide_eq_false HN.out
    have h10 : XX.2 = 0 := by
      rw [← HX.out, doit_4 h7 h8 HV.out, if_neg h9]; split <;> rfl
    obtain ⟨X1, X2⟩ := XX
    simp only at h10
    subst h10
    have hx1 : (g.doit q).1 = X1 := by rw [HX.out]
    have kd := Lib.hid (fun W (hW : AgIs A1 c1 s1 g W w0.heap.size) (hB : w0.heap.size ≤ W.heap.size) => do_4 hW hB HR.out hq HV.out h7 h8 h9)
    rw [hx1] at kd
    clear hx1 h7 h8 h9 HX
    have x1 : wz.cell? ⟨X, 1, none⟩ = some (fnV 94) := RE.out.cells 1
    have qlt : w.heap.size + 1 < (wz).heap.size := RQ.out.lt
    have qlu : w.heap.size + 1 < (wz).heap.size + 1 := Nat.lt_succ_of_lt RQ.out.lt
    have q0 : (wz).cell? ⟨w.heap.size + 1, 0, none⟩ = some (.int .u16 (q.ow : Int)) := RQ.out.cells 0
    have qz0 : (wz).frozen? ⟨w.heap.size + 1, 0, none⟩ = false := RQ.out.frozen 0
    have q1 : (wz).cell? ⟨w.heap.size + 1, 1, none⟩ = some (.int .u8 (q.v : Int)) := RQ.out.cells 1
    have qz1 : (wz).frozen? ⟨w.heap.size + 1, 1, none⟩ = false := RQ.out.frozen 1
    have q2 : (wz).cell? ⟨w.heap.size + 1, 2, none⟩ = some (.int .u32 (q.tx : Int)) := RQ.out.cells 2
    have qz2 : (wz).frozen? ⟨w.heap.size + 1, 2, none⟩ = false := RQ.out.frozen 2
    have q3 : (wz).cell? ⟨w.heap.size + 1, 3, none⟩ = some (.int .u16 (q.n : Int)) := RQ.out.cells 3
    have qz3 : (wz).frozen? ⟨w.heap.size + 1, 3, none⟩ = false := RQ.out.frozen 3
    have q4 : (wz).cell? ⟨w.heap.size + 1, 4, none⟩ = some (.int .u32 (q.ck : Int)) := RQ.out.cells 4
    have qz4 : (wz).frozen? ⟨w.heap.size + 1, 4, none⟩ = false := RQ.out.frozen 4
    go_wp2_with (refine wpList_load_var rfl 35 (.tmp 2) rfl (w.heap.size) rfl _ _ 32 R_2.out Try.underlying35 rfl size_32 HC.out ?_)
    with_reducible refine (kd.out _ I2.out hz3).mono ?_
    rintro e6 w6 ⟨A6, c6, s6, rfl, i6, hb6⟩
    replace R2 := Lib.hid (R2.out.to hb6)
    have I6 := Lib.hid i6
    have HC6 := Lib.hid i6.C32
    have B6 := Lib.hid (B2.out.trans (hb6.mono B2.out.size))
    clear hb6 i6 q0 q1 q2 q3 q4 qz0 qz1 qz2 qz3 qz4 qlt qlu x1 kd B2 I2 RE RQ R_2
    go_wp2_with (refine wpList_store_var rfl 35 (.tmp 4) (.tmp 45) rfl (w.heap.size + 2) _ (agC A6 c6 s6 X1) 32 rfl rfl R2.out size_32 (by first | rfl | exact HCO.out) HC6.out (agC_one _) ?_; intro w_5 r_5 k_5; have R_5 := Lib.hid r_5; have K_5 := Lib.hid k_5; clear r_5 k_5)
    exact bodyPost_ret (results_cell_tmp rfl _ _ (w.heap.size + 2) 35 _ (0, 0) _ rfl R_5.out Try.underlying35 rfl (by rw [size_32, List.size_toArray, HC6.out])) rfl ⟨A6, c6, s6, rfl, (I6.out.only K_5.out (by omega)).more (by omega), K_5.out.to B6.out (by omega)⟩
/-- agent.Do, of a right agent -/
theorem agdo_any (w : World) (h : AgIs A c s g w base) (hr : g.right) (q : Cmd) (hq : q.Fit) :
    Calls Try.prog 35 #[.agg (agC A c s g).toArray, .agg (cmdL q).toArray] w (AgEE w (g.doit q)) := by
  by_cases hv : q.v < 1 ∨ 4 < q.v
  · rw [doit_arg (.inr (.inr hv))]
    exact agdo_bad w h q hq hv
  · by_cases h1 : q.v = 1
    · exact agdo_1 w h q hq hr h1
    by_cases h2 : q.v = 2
    · exact agdo_2 w h q hq hr h2
    by_cases h3 : q.v = 3
    · exact agdo_3 w h q hq hr h3
    · exact agdo_4 w h q hq hr (by omega)
end
end Go.Proofs.Ytajbghjjpebndaa
namespace Go.Proofs.Ytajbghjjpebndaa
set_option maxRecDepth 100000
open Go.RowKit
set_option linter.unusedVariables false
set_option linter.unusedSimpArgs false
attribute [local go_sem] Later.cell Later.frozen setCell_twice
theorem putE_P (tx : Nat) (S : SS) (n : Int) (x : Blk) : putE tx S n x = putP tx S n x.pr := rfl
/-- variables at Put's beginning -/
theorem in_axr (w : World) (C D : List Value) : RowAt (((w.alloc (.cells C.toArray 35)).alloc (.cells D.toArray 30)).alloc (.cells z32 35)) w.heap.size 35 C ∧ RowAt (((w.alloc (.cells C.toArray 35)).alloc (.cells D.toArray 30)).alloc (.cells z32 35)) (w.heap.size + 1) 30 D ∧ RowAt (((w.alloc (.cells C.toArray 35)).alloc (.cells D.toArray 30)).alloc (.cells z32 35)) (w.heap.size + 2) 35 (agC none 0 Stv.zero Ag0) ∧ Below w.heap.size w (((w.alloc (.cells C.toArray 35)).alloc (.cells D.toArray 30)).alloc (.cells z32 35)) ∧ w.heap.size + 3 ≤ (((w.alloc (.cells C.toArray 35)).alloc (.cells D.toArray 30)).alloc (.cells z32 35)).heap.size :=
  ⟨((RowAt.new w _ _).alloc _).alloc _, (new2 _ _ _ _).alloc _, by have h := new3 w (.cells C.toArray 35) (.cells D.toArray 30) 35 (agC none 0 Stv.zero Ag0); rw [z32_eq] at h; exact h, bel_alloc (bel_alloc (bel_alloc (Below.refl _ _) _) _) _, by rw [World.size_alloc, World.size_alloc, World.size_alloc]; exact Nat.le_refl _⟩
section
variable {A : Option Addr} {c base : Nat} {s : Stv} {g : Ag}
set_option maxHeartbeats 1000000 in
theorem agput_any (w : World) (h : AgIs A c s g w base) (hr : g.right) (ow tx : Nat) (n : Int) (x : Blk) (how : ow < 65536) (htx : tx < 4294967296) (hx : x.Ok w w.heap.size) :
    Calls Try.prog 38 #[.agg (agC A c s g).toArray, .int .u16 (ow : Int), .int .u32 (tx : Int), .int .i64 n, .agg #[.int .i64 x.a, .slice x.A x.ws.length x.c]] w (AgEE w (g.put ow tx n x.pr)) := by
  obtain ⟨XX, hX⟩ : ∃ XX, g.put ow tx n x.pr = XX := ⟨_, rfl⟩
  rw [hX]
  have HX := Lib.hid hX
  clear hX
  have HR := Lib.hid hr
  clear hr
  have ko := Lib.hid (fun W (hW : Below w.heap.size w W) => agown_any W (h.to hW))
  have HCO := Lib.hid h.C32
  have HXB := Lib.hid hx
  clear h hx
  go_enter Try.func38, Try.ntmps38
  go_upto_region 1 with fail
  obtain ⟨w0, hw0⟩ : ∃ w_q_, w_q_ = ((w.alloc (.cells (agC A c s g).toArray 35)).alloc (.cells [.int .i64 x.a, .slice x.A x.ws.length x.c].toArray 30)).alloc (.cells z32 35) := ⟨_, rfl⟩
  rw [← hw0]
  have hin := in_axr w (agC A c s g) [.int .i64 x.a, .slice x.A x.ws.length x.c]
  rw [← hw0] at hin
  obtain ⟨r1, rq, r2, b0, z0⟩ := hin
  have R1 := Lib.hid r1
  have RQ := Lib.hid rq
  have R2 := Lib.hid r2
  have B0 := Lib.hid b0
  clear hw0 r1 r2 b0 rq
  go_wp2_with (refine wpList_load_var rfl 35 (.tmp 5) rfl (w.heap.size) rfl _ _ 32 R1.out Try.underlying35 rfl size_32 HCO.out ?_)
  with_reducible refine (ko.out _ B0.out).mono ?_
  rintro e1 w1 ⟨A1, c1, s1, rfl, i1, hb1⟩
  have I1 := Lib.hid i1
  have HC := Lib.hid i1.C32
  have H25 := i1.C25
  replace R1 := Lib.hid (R1.out.to hb1)
  replace RQ := Lib.hid (RQ.out.to hb1)
  replace R2 := Lib.hid (R2.out.to hb1)
  have B1 := Lib.hid (B0.out.trans (hb1.mono B0.out.size))
  have hz1 := hb1.size
  clear hb1 i1 ko
  go_upto_region 2 with (refine wpList_store_var rfl 35 (.tmp 5) (.tmp 15) rfl (w.heap.size) _ (agC A1 c1 s1 g) 32 rfl rfl R1.out size_32 (by first | rfl | exact HCO.out) HC.out (agC_one _) ?_; intro w_2 r_2 k_2; have R_2 := Lib.hid r_2; have K_2 := Lib.hid k_2; clear r_2 k_2)
  replace R2 := Lib.hid (R2.out.only K_2.out (by omega))
  replace RQ := Lib.hid (RQ.out.only K_2.out (by omega))
  have I2 := Lib.hid (I1.out.only K_2.out (by omega))
  have B2 := Lib.hid (K_2.out.to B1.out (Nat.le_refl _))
  have hz3 : w0.heap.size ≤ w_2.heap.size := by rw [K_2.out.size]; exact hz1
  clear B1 I1 K_2 R1 B0 hz1 w1
  rename World => wz
  simp only [Act.put]
  by_cases h5 : ow = 0
  · have g5 : ((ow : Int) == 0) = true := by simp [h5]
    obtain rfl : (g, 2) = XX := by rw [← HX.out]; unfold Ag.put; rw [if_pos (.inl h5)]
    clear h5
    go_upto_region 3 with fail
    go_wp2_with (first | (refine wpList_load_var rfl 35 (.tmp 5) rfl (w.heap.size) rfl _ _ 32 R_2.out Try.underlying35 rfl size_32 HC.out ?_) | (refine wpList_store_var rfl 35 (.tmp 10) (.tmp 22) rfl (w.heap.size + 2) _ (agC A1 c1 s1 g) 32 rfl rfl R2.out size_32 (by first | rfl | exact HCO.out) HC.out (agC_one _) ?_; intro w_5 r_5 k_5; have R_5 := Lib.hid r_5; have K_5 := Lib.hid k_5; clear r_5 k_5))
    exact bodyPost_ret (results_cell_tmp rfl _ _ (w.heap.size + 2) 35 _ (0, 0) _ rfl R_5.out Try.underlying35 rfl (by rw [size_32, List.size_toArray, HC.out])) rfl ⟨A1, c1, s1, rfl, (I2.out.only K_5.out (by omega)).more (by omega), K_5.out.to B2.out (by omega)⟩
  have g5 : ((ow : Int) == 0) = false := beq_eq_false_iff_ne.2 (by omega)
  by_cases h6 : tx = 0
  · have g6 : ((tx : Int) == 0) = true := by simp [h6]
    obtain rfl : (g, 2) = XX := by rw [← HX.out]; unfold Ag.put; rw [if_pos (.inr h6)]
    clear h5 h6
    go_upto_region 3 with fail
    go_wp2_with (first | (refine wpList_load_var rfl 35 (.tmp 5) rfl (w.heap.size) rfl _ _ 32 R_2.out Try.underlying35 rfl size_32 HC.out ?_) | (refine wpList_store_var rfl 35 (.tmp 10) (.tmp 22) rfl (w.heap.size + 2) _ (agC A1 c1 s1 g) 32 rfl rfl R2.out size_32 (by first | rfl | exact HCO.out) HC.out (agC_one _) ?_; intro w_5 r_5 k_5; have R_5 := Lib.hid r_5; have K_5 := Lib.hid k_5; clear r_5 k_5))
    exact bodyPost_ret (results_cell_tmp rfl _ _ (w.heap.size + 2) 35 _ (0, 0) _ rfl R_5.out Try.underlying35 rfl (by rw [size_32, List.size_toArray, HC.out])) rfl ⟨A1, c1, s1, rfl, (I2.out.only K_5.out (by omega)).more (by omega), K_5.out.to B2.out (by omega)⟩
  have g6 : ((tx : Int) == 0) = false := beq_eq_false_iff_ne.2 (by omega)
  obtain ⟨o, ho⟩ : ∃ o, decide (Ls.free g.l = false ∧ g.l.o ≠ ow) = o := ⟨_, rfl⟩
  have ka := Lib.hid (agothers_any wz I2.out ow o ho)
  have HO := Lib.hid ho
  clear ho
  go_upto_region 4 with fail
  go_wp2_with (refine wpList_load_var rfl 35 (.tmp 5) rfl (w.heap.size) rfl _ _ 32 R_2.out Try.underlying35 rfl size_32 HC.out ?_)
  with_reducible refine (ka.out).mono ?_
  rintro e4 w4 ⟨rfl, hb4⟩
  replace R_2 := Lib.hid (R_2.out.to hb4)
  replace RQ := Lib.hid (RQ.out.to hb4)
  replace R2 := Lib.hid (R2.out.to hb4)
  replace I2 := Lib.hid (I2.out.to hb4)
  replace B2 := Lib.hid (B2.out.trans (hb4.mono B2.out.size))
  replace hz3 := Nat.le_trans hz3 hb4.size
  clear hb4 ka wz
  rename World => wz
  have h7 : ¬ (ow = 0 ∨ tx = 0) := by omega
  cases o
  rotate_left
  · obtain rfl : (g, 22) = XX := by
      rw [← HX.out]
      have := of_decide_eq_true HO.out
      rw [HR.out.free_is] at this
      unfold Ag.put
      rw [if_neg h7, if_pos ⟨of_decide_eq_false this.1, this.2⟩]
    clear h5 h6 h7
    go_upto_region 5 with fail
    go_wp2_with (first | (refine wpList_load_var rfl 35 (.tmp 5) rfl (w.heap.size) rfl _ _ 32 R_2.out Try.underlying35 rfl size_32 HC.out ?_) | (refine wpList_store_var rfl 35 (.tmp 10) (.tmp 26) rfl (w.heap.size + 2) _ (agC A1 c1 s1 g) 32 rfl rfl R2.out size_32 (by first | rfl | exact HCO.out) HC.out (agC_one _) ?_; intro w_5 r_5 k_5; have R_5 := Lib.hid r_5; have K_5 := Lib.hid k_5; clear r_5 k_5))
    exact bodyPost_ret (results_cell_tmp rfl _ _ (w.heap.size + 2) 35 _ (0, 0) _ rfl R_5.out Try.underlying35 rfl (by rw [size_32, List.size_toArray, HC.out])) rfl ⟨A1, c1, s1, rfl, (I2.out.only K_5.out (by omega)).more (by omega), K_5.out.to B2.out (by omega)⟩
  have h8 : ¬ (g.l.o ≠ 0 ∧ g.l.o ≠ ow) := fun hh => by
    have := of_decide_eq_false HO.out
    rw [HR.out.free_is] at this
    exact this ⟨decide_eq_false hh.1, hh.2⟩
  obtain ⟨b1, hb1⟩ : ∃ b, decide (g.ph = 1 ∧ g.tx = tx) = b := ⟨_, rfl⟩
  have ki := Lib.hid (fun W => agin1_any (A := A1) (c := c1) (s := s1) (g := g) W tx b1 hb1)
  have HB1 := Lib.hid hb1
  clear h5 h6 hb1
  go_wp2_with (refine wpList_load_var rfl 35 (.tmp 5) rfl (w.heap.size) rfl _ _ 32 R_2.out Try.underlying35 rfl size_32 HC.out ?_)
  with_reducible refine (ki.out _).mono ?_
  rintro e4 w4 ⟨rfl, hb4⟩
  replace R_2 := Lib.hid (R_2.out.to hb4)
  replace RQ := Lib.hid (RQ.out.to hb4)
  replace R2 := Lib.hid (R2.out.to hb4)
  replace I2 := Lib.hid (I2.out.to hb4)
  replace B2 := Lib.hid (B2.out.trans (hb4.mono B2.out.size))
  replace hz3 := Nat.le_trans hz3 hb4.size
  clear hb4 ki wz
  rename World => wz
  cases b1
  · obtain rfl : (g, 23) = XX := by
      rw [← HX.out]
      have := of_decide_eq_false HB1.out
      unfold Ag.put
      rw [if_neg h7, if_neg h8, if_pos (by omega)]
    clear h7 h8
    go_upto_region 7 with fail
    go_wp2_with (first | (refine wpList_load_var rfl 35 (.tmp 5) rfl (w.heap.size) rfl _ _ 32 R_2.out Try.underlying35 rfl size_32 HC.out ?_) | (refine wpList_store_var rfl 35 (.tmp 10) (.tmp 31) rfl (w.heap.size + 2) _ (agC A1 c1 s1 g) 32 rfl rfl R2.out size_32 (by first | rfl | exact HCO.out) HC.out (agC_one _) ?_; intro w_5 r_5 k_5; have R_5 := Lib.hid r_5; have K_5 := Lib.hid k_5; clear r_5 k_5))
    exact bodyPost_ret (results_cell_tmp rfl _ _ (w.heap.size + 2) 35 _ (0, 0) _ rfl R_5.out Try.underlying35 rfl (by rw [size_32, List.size_toArray, HC.out])) rfl ⟨A1, c1, s1, rfl, (I2.out.only K_5.out (by omega)).more (by omega), K_5.out.to B2.out (by omega)⟩
  have h9 := of_decide_eq_true HB1.out
  obtain ⟨⟨t', S', E'⟩, hP⟩ : ∃ r, putP g.stx g.S n x.pr = r := ⟨_, rfl⟩
  have hbx : Below w.heap.size w wz := B2.out
  have kp : Hid (∀ W, Below wz.heap.size wz W → Calls Try.prog 71 #[.agg s1.C.toArray, .int .i64 n, .agg #[.int .i64 x.a, .slice x.A x.ws.length x.c]] W fun e w' => ∃ s' : Stv, e = .returned (.tuple #[.agg s'.C.toArray, .int .i64 E']) ∧ s'.Is w' W.heap.size t' S' ∧ Below W.heap.size W w') := Lib.hid (fun W hW => by
    have := put_all n x W (I2.out.st.to hW) (HXB.out.to (hbx.trans (hW.mono hbx.size)))
    rw [putE_P, hP] at this
    exact this)
  have HP := Lib.hid hP
  clear hP hbx
  have HG := Lib.hid (R_2.out.stage H25)
  have HZ : Hid ((Try.prog.info? 33).map (·.size) = some s1.C.length) := Lib.hid (by rw [H25]; exact size_25)
  have x0 : wz.cell? ⟨w.heap.size + 1, 0, none⟩ = some (.int .i64 x.a) := RQ.out.cells 0
  have x1 : wz.cell? ⟨w.heap.size + 1, 1, none⟩ = some (.slice x.A x.ws.length x.c) := RQ.out.cells 1
  go_wp2_with (refine wpList_load_mid rfl 33 (.tmp 33) rfl w.heap.size 6 rfl s1.C _ HG.out Try.underlying33 rfl HZ.out ?_)
  with_reducible refine (kp.out _ (Below.refl _ _)).mono ?_
  rintro e5 w5 ⟨s5, rfl, i5, hb5⟩
  replace R_2 := Lib.hid (R_2.out.to hb5)
  replace R2 := Lib.hid (R2.out.to hb5)
  replace I2 := Lib.hid (I2.out.to hb5)
  replace B2 := Lib.hid (B2.out.trans (hb5.mono B2.out.size))
  have I5 := Lib.hid (i5.more hz3)
  replace hz3 := Nat.le_trans hz3 hb5.size
  have HC5 := Lib.hid i5.C25
  clear hb5 i5 kp x0 x1 HG HZ RQ wz HXB
  rename World => wz
  go_upto_region 9 with (refine wpList_store_var rfl 33 (.tmp 12) (.tmp 38) rfl wz.heap.size Stv.zero.C s5.C 25 rfl rfl (heap_alloc_new wz _) size_25 rfl HC5.out (Stv.C_one s5) ?_; intro w6 r6 k6; have RS := Lib.hid r6; have HB6 : Hid (Below wz.heap.size wz w6) := Lib.hid (k6.to (bel_alloc (Below.refl _ _) (.cells z25 33)) (Nat.le_refl _)); clear r6 k6)
  replace R_2 := Lib.hid (R_2.out.to HB6.out)
  replace R2 := Lib.hid (R2.out.to HB6.out)
  replace I2 := Lib.hid (I2.out.to HB6.out)
  replace I5 := Lib.hid (I5.out.to HB6.out)
  replace B2 := Lib.hid (B2.out.trans (HB6.out.mono B2.out.size))
  have hzs : wz.heap.size ≠ w.heap.size := by omega
  replace hz3 := Nat.le_trans hz3 HB6.out.size
  clear HB6
  have h10 : (g.l.o = ow ∧ 0 < g.l.l) := by
    rcases HR.out.phases with ⟨a, _⟩ | ⟨a, b, b2, _⟩ | ⟨a, _⟩
    · omega
    · exact ⟨by omega, b2⟩
    · omega
  have hput : g.put ow tx n x.pr = if n < 0 ∨ 7 < n then (g, 2) else if Bk.fits x.pr.1 x.pr.2.length = true then (⟨g.bank, ⟨g.l.o, g.tk⟩, g.ph, g.tx, g.la, g.stx, g.S.set n.toNat (some x.pr), g.tk⟩, 0) else (g, 20) := by
    unfold Ag.put
    rw [if_neg h7, if_neg h8, if_neg (by omega)]
  have hpp := HP.out
  unfold putP at hpp
  by_cases h11 : E' = 0
  · have hS : t' = g.stx ∧ S' = g.S.set n.toNat (some x.pr) ∧ XX = (⟨g.bank, ⟨ow, g.tk⟩, g.ph, g.tx, g.la, g.stx, g.S.set n.toNat (some x.pr), g.tk⟩, 0) := by
      by_cases y : n < 0 ∨ 7 < n
      · rw [if_pos y] at hpp
        injection hpp with z1 z2
        injection z2 with z2 z3
        omega
      · by_cases z : Bk.fits x.pr.1 x.pr.2.length = true
        · rw [if_neg y, if_pos z] at hpp hput
          injection hpp with z1 z2
          injection z2 with z2 z3
          exact ⟨z1.symm, z2.symm, by rw [← HX.out, hput, h10.1]⟩
        · rw [if_neg y, if_neg z] at hpp
          injection hpp with z1 z2
          injection z2 with z2 z3
          omega
    obtain ⟨rfl, rfl, rfl⟩ := hS
    subst h11
    have hL : (Ls.take g.l ow g.tk).1 = ⟨ow, g.tk⟩ := by rw [take_own HR.out.2.2.2.2.1 (by omega) h10.1 HR.out.2.1, if_neg (by omega)]
    have I7 := Lib.hid (I2.out.staged s5 I5.out)
    have hL7 : (Ls.take (⟨g.bank, g.l, g.ph, g.tx, g.la, g.stx, g.S.set n.toNat (some x.pr), g.tk⟩ : Ag).l ow g.tk).1 = ⟨ow, g.tk⟩ := hL
    have HL7 := Lib.hid hL7
    have HC7 := Lib.hid I7.out.C32
    have h25s := Lib.hid H25
    clear hpp hput h7 h8 h9 h10 hL hL7 HP HX HO HB1 H25
    go_upto_region 12 with (first | (refine wpList_load_var rfl 33 (.tmp 12) rfl wz.heap.size rfl s5.C _ 25 RS.out Try.underlying33 rfl size_25 HC5.out ?_) | (refine wpList_store_part rfl 33 (.tmp 45) (.tmp 44) rfl w.heap.size 6 35 (agP A1 c1 g) s1.C [.int .i64 g.tk] s5.C 25 rfl rfl R_2.out size_25 rfl h25s.out HC5.out (Stv.C_one _) ?_; intro w7 r7 k7; have R7 := Lib.hid r7; have K7 := Lib.hid k7; clear r7 k7))
    replace R7 := (show Hid (RowAt w7 w.heap.size 35 (agC A1 c1 s5 ⟨g.bank, g.l, g.ph, g.tx, g.la, g.stx, g.S.set n.toNat (some x.pr), g.tk⟩)) from R7)
    replace R2 := Lib.hid (R2.out.only K7.out (by omega))
    replace I7 := Lib.hid (I7.out.only K7.out (by omega))
    replace B2 := Lib.hid (K7.out.to B2.out (Nat.le_refl _))
    replace hz3 : w0.heap.size ≤ w7.heap.size := by rw [K7.out.size]; exact hz3
    have kt := Lib.hid (agtaken_any w7 I7.out ow _ how HL7.out)
    clear K7 R_2 I2 I5 RS
    go_wp2_with (refine wpList_load_var rfl 35 (.tmp 5) rfl (w.heap.size) rfl _ _ 32 R7.out Try.underlying35 rfl size_32 HC7.out ?_)
    with_reducible refine (kt.out).mono ?_
    rintro e8 w8 ⟨rfl, hb8⟩
    replace R2 := Lib.hid (R2.out.to hb8)
    have I8 := Lib.hid ((I7.out.with ⟨ow, g.tk⟩ g.ph g.tx g.la ⟨how, I7.out.tk.1, I7.out.tk.2⟩ I7.out.ph I7.out.tx I7.out.la).to hb8)
    have B8 := Lib.hid (B2.out.trans (hb8.mono B2.out.size))
    have HC8 := Lib.hid I8.out.C32
    clear hb8 kt I7 B2 R7
    go_wp2_with (refine wpList_store_var rfl 35 (.tmp 10) (.tmp 48) rfl (w.heap.size + 2) _ (agC A1 c1 s5 ⟨g.bank, ⟨ow, g.tk⟩, g.ph, g.tx, g.la, g.stx, g.S.set n.toNat (some x.pr), g.tk⟩) 32 rfl rfl R2.out size_32 (by first | rfl | exact HCO.out) HC8.out (agC_one _) ?_; intro w_9 r_9 k_9; have R_9 := Lib.hid r_9; have K_9 := Lib.hid k_9; clear r_9 k_9)
    exact bodyPost_ret (results_cell_tmp rfl _ _ (w.heap.size + 2) 35 _ (0, 0) _ rfl R_9.out Try.underlying35 rfl (by rw [size_32, List.size_toArray, HC8.out])) rfl ⟨A1, c1, s5, rfl, (I8.out.only K_9.out (by omega)).more (by omega), K_9.out.to B8.out (by omega)⟩
  · have hS : XX = (g, E') := by
      by_cases y : n < 0 ∨ 7 < n
      · rw [if_pos y] at hpp hput
        injection hpp with z1 z2
        injection z2 with z2 z3
        rw [← HX.out, hput, z3]
      · by_cases z : Bk.fits x.pr.1 x.pr.2.length = true
        · rw [if_neg y, if_pos z] at hpp
          injection hpp with z1 z2
          injection z2 with z2 z3
          omega
        · rw [if_neg y, if_neg z] at hpp hput
          injection hpp with z1 z2
          injection z2 with z2 z3
          rw [← HX.out, hput, z3]
    subst hS
    have g11 : (E' != 0) = true := bne_iff_ne.2 h11
    clear hpp hput h7 h8 h9 h10 HP HX HO HB1 h11
    go_upto_region 10 with fail
    go_wp2_with (first | (refine wpList_load_var rfl 35 (.tmp 5) rfl (w.heap.size) rfl _ _ 32 R_2.out Try.underlying35 rfl size_32 HC.out ?_) | (refine wpList_store_var rfl 35 (.tmp 10) (.tmp 42) rfl (w.heap.size + 2) _ (agC A1 c1 s1 g) 32 rfl rfl R2.out size_32 (by first | rfl | exact HCO.out) HC.out (agC_one _) ?_; intro w_9 r_9 k_9; have R_9 := Lib.hid r_9; have K_9 := Lib.hid k_9; clear r_9 k_9))
    exact bodyPost_ret (results_cell_tmp rfl _ _ (w.heap.size + 2) 35 _ (0, 0) _ rfl R_9.out Try.underlying35 rfl (by rw [size_32, List.size_toArray, HC.out])) rfl ⟨A1, c1, s1, rfl, (I2.out.only K_9.out (by omega)).more (by omega), K_9.out.to B2.out (by omega)⟩
end
end Go.Proofs.Ytajbghjjpebndaa
