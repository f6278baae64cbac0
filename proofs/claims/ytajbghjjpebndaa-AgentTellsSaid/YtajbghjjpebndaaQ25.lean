/- The walk of agent.Do. -/
import Derived.Test.YtajbghjjpebndaaQ24
namespace Go.Proofs.Ytajbghjjpebndaa
set_option maxRecDepth 100000
open Go.RowKit
set_option linter.unusedVariables false
set_option linter.unusedSimpArgs false
attribute [local go_sem] Later.cell Later.frozen setCell_twice
theorem zero_effect (w : World) : (zeroValue 91).run Try.prog w = .ok (.agg #[.nilFunc, .nilFunc]) w := by kernel_rfl
theorem size_effect : (Try.prog.info? 91).map (·.size) = some 2 := by kernel_rfl
theorem look_none {v : Nat} (hv : v < 1 ∨ 4 < v) {w : World} {m : Nat} (h : MapIs w m effL 4) : (Instr.lookup 93 (.map (some m)) (.int .u8 (v : Int)) true).run Try.prog w = .ok (.tuple #[.agg #[.nilFunc, .nilFunc], .bool false]) w := by
  refine run_look_ok 93 5 91 (.int .u8) (.int .u8 (v : Int)) Try.underlying93 Try.underlying5 rfl h _ _ (.inr ⟨?_, zero_effect w, rfl⟩)
  rcases MapKept.findNow_spec (d := .int .u8) (k := .int .u8 (v : Int)) rfl effL.toList 0 (fun e he => by
    have : e ∈ effL.toList := he
    simp at this
    rcases this with rfl | rfl | rfl | rfl <;> rfl) with ⟨h1, _⟩ | ⟨j, e, h1, h2, h3⟩
  · exact h1
  · have hm : e ∈ effL.toList := List.mem_of_getElem? h2
    simp at hm
    rcases hm with rfl | rfl | rfl | rfl <;> (simp at h3; omega)
theorem look_1 {w : World} {m : Nat} (h : MapIs w m effL 4) : (Instr.lookup 93 (.map (some m)) (.int .u8 1) true).run Try.prog w = .ok (.tuple #[ef1, .bool true]) w :=
  run_look_ok 93 5 91 (.int .u8) (.int .u8 1) Try.underlying93 Try.underlying5 rfl h _ _ (.inl ⟨0, rfl, rfl⟩)
theorem look_2 {w : World} {m : Nat} (h : MapIs w m effL 4) : (Instr.lookup 93 (.map (some m)) (.int .u8 2) true).run Try.prog w = .ok (.tuple #[ef2, .bool true]) w :=
  run_look_ok 93 5 91 (.int .u8) (.int .u8 2) Try.underlying93 Try.underlying5 rfl h _ _ (.inl ⟨1, rfl, rfl⟩)
theorem look_3 {w : World} {m : Nat} (h : MapIs w m effL 4) : (Instr.lookup 93 (.map (some m)) (.int .u8 3) true).run Try.prog w = .ok (.tuple #[ef3, .bool true]) w :=
  run_look_ok 93 5 91 (.int .u8) (.int .u8 3) Try.underlying93 Try.underlying5 rfl h _ _ (.inl ⟨2, rfl, rfl⟩)
theorem look_4 {w : World} {m : Nat} (h : MapIs w m effL 4) : (Instr.lookup 93 (.map (some m)) (.int .u8 4) true).run Try.prog w = .ok (.tuple #[ef4, .bool true]) w :=
  run_look_ok 93 5 91 (.int .u8) (.int .u8 4) Try.underlying93 Try.underlying5 rfl h _ _ (.inl ⟨3, rfl, rfl⟩)
theorem one_ab {a b : Value} (h1 : a.oneCell' = true) (h2 : b.oneCell' = true) : ∀ v ∈ [a, b], v.oneCell' = true := by
  intro v hv
  simp only [List.mem_cons, List.not_mem_nil, or_false] at hv
  rcases hv with rfl | rfl
  · exact h1
  · exact h2
theorem cell_al' {W : World} {p : Addr} {v : Value} (o : Obj) (h : W.cell? p = some v) : (W.alloc o).cell? p = some v := keep_alloc h
section
variable {A : Option Addr} {c base : Nat} {s : Stv} {g : Ag}
set_option maxHeartbeats 1000000 in
theorem agdo_bad (w : World) (h : AgIs A c s g w base) (q : Cmd) (hq : q.Fit) (hv : q.v < 1 ∨ 4 < q.v) :
    Calls Try.prog 35 #[.agg (agC A c s g).toArray, .agg (cmdL q).toArray] w (AgEE w (g, 2)) := by
  have ko := Lib.hid (fun W (hW : Below w.heap.size w W) => agown_any W (h.to hW))
  have HCO := Lib.hid h.C32
  clear h
  go_enter Try.func35, Try.ntmps35
  go_upto_region 1 with fail
  obtain ⟨w0, hw0⟩ : ∃ w_q_, w_q_ = ((w.alloc (.cells (agC A c s g).toArray 35)).alloc (.cells (cmdL q).toArray 41)).alloc (.cells z32 35) := ⟨_, rfl⟩
  rw [← hw0]
  have hin := in_acr w (agC A c s g) (cmdL q)
  rw [← hw0] at hin
  obtain ⟨r1, rq, r2, b0, z0⟩ := hin
  have R1 := Lib.hid r1
  have RQ := Lib.hid rq
  have R2 := Lib.hid r2
  have B0 := Lib.hid b0
  clear hw0 r1 r2 b0 rq
  go_wp2_with (refine wpList_load_var rfl 35 (.tmp 2) rfl (w.heap.size) rfl _ _ 32 R1.out Try.underlying35 rfl size_32 HCO.out ?_)
  with_reducible refine (ko.out _ B0.out).mono ?_
  rintro e1 w1 ⟨A1, c1, s1, rfl, i1, hb1⟩
  have I1 := Lib.hid i1
  have HC := Lib.hid i1.C32
  replace R1 := Lib.hid (R1.out.to hb1)
  replace RQ := Lib.hid (RQ.out.to hb1)
  replace R2 := Lib.hid (R2.out.to hb1)
  have B1 := Lib.hid (B0.out.trans (hb1.mono B0.out.size))
  have hz1 := hb1.size
  clear hb1 i1 ko
  go_upto_region 2 with (refine wpList_store_var rfl 35 (.tmp 2) (.tmp 9) rfl (w.heap.size) _ (agC A1 c1 s1 g) 32 rfl rfl R1.out size_32 (by first | rfl | exact HCO.out) HC.out (agC_one _) ?_; intro w_2 r_2 k_2; have R_2 := Lib.hid r_2; have K_2 := Lib.hid k_2; clear r_2 k_2)
  replace R2 := Lib.hid (R2.out.only K_2.out (by omega))
  replace RQ := Lib.hid (RQ.out.only K_2.out (by omega))
  have I2 := Lib.hid (I1.out.only K_2.out (by omega))
  have B2 := Lib.hid (K_2.out.to B1.out (Nat.le_refl _))
  have hz2 : w0.heap.size ≤ w_2.heap.size := by rw [K_2.out.size]; exact hz1
  clear B1 I1 K_2 R1 B0 hz1
  have q1 : w_2.cell? ⟨w.heap.size + 1, 1, none⟩ = some (.int .u8 (q.v : Int)) := RQ.out.cells 1
  have hz2' : w.heap.size + 1 < w_2.heap.size := by omega
  simp only [Act.put]
  go_cut [6, 7] (fun p v wx => ∃ X : Nat, p = .pointer (some ⟨X, 0, none⟩) ∧ v = .bool false ∧ Hid (RowAt wx X 91 [.nilFunc, .nilFunc] ∧ Below w_2.heap.size w_2 wx))
  case first =>
    refine wp_region_held_drew (S := (fun w' => w'.cell? ⟨w.heap.size + 1, 1, none⟩ = some (.int .u8 (q.v : Int)))) (by kernel_rfl) ?_ (fun hHeld => ?_)
    · exact q1
    refine takeD (i := 1) (oi := _) (v := ?vv158) (d := some 12) rfl (by kernel_rfl) (by kernel_rfl) (by kernel_rfl) (by kernel_rfl) (fun _ _ _ h => h) (Or.inl ⟨by kernel_rfl, ?_⟩) (by assumption) ?_
    rotate_left 1
    · intro W_ hSw; (try dsimp only at hSw); go_simp; (first | done | with_reducible rfl)
    try simp only [Act.put, List.setIfInBounds_toArray, List.set_cons_zero, List.set_cons_succ]
    refine takeD (i := 2) (oi := _) (v := ?vv159) (d := some 13) rfl (by kernel_rfl) (by kernel_rfl) (by kernel_rfl) (by kernel_rfl) (fun _ _ _ h => h) (Or.inl ⟨by kernel_rfl, ?_⟩) (by assumption) ?_
    rotate_left 1
    · intro W_ hSw; (try dsimp only at hSw); go_simp; (first | done | with_reducible rfl)
    try simp only [Act.put, List.setIfInBounds_toArray, List.set_cons_zero, List.set_cons_succ]
    refine wpAnyH_ready (rs := [0, 7]) (by kernel_rfl) (by simp) ?_
    refine AllReadyH.cons (o := _) rfl (fun K hK => ?_) (AllReadyH.cons (o := _) rfl (fun K hK => ?_) AllReadyH.nil)
    · go_simp
      (go_at_call 66; (with_reducible refine (effects_any _).mono ?_); rintro e2 w3 ⟨rfl, m3, hb3⟩; have hb3a : Below w_2.heap.size w_2 w3 := (Below.refl _ _).drew.trans (hb3.mono (Nat.le_refl _)); have m3' : MapIs w3 w_2.heap.size effL 4 := m3; have hlk := look_none hv m3'; have hlk4 := look_none hv (m3'.to (bel_alloc (Below.refl _ _) (.cells #[.nilFunc, .nilFunc] 91))); have q13 := (hb3a.cell (p := ⟨w.heap.size + 1, 1, none⟩) hz2').trans q1; clear m3)
      go_wp2_with fail
      refine hK.out _ _ ?_ (fun hHeld => ?_)
      · exact q13
      clear hK K
      try simp only [Act.put, List.setIfInBounds_toArray, List.set_cons_zero, List.set_cons_succ]
      have hqX := cell_al' (.cells #[.nilFunc, .nilFunc] 91) q13
      have RX := RowAt.new w3 91 [.nilFunc, .nilFunc]
      have hbX : Below w_2.heap.size w_2 (w3.alloc (.cells #[.nilFunc, .nilFunc] 91)) := bel_alloc hb3a _
      have hXle := hb3a.size
      have hXne : w.heap.size + 1 ≠ w3.heap.size := by omega
      refine wpAnyH_ready (rs := [3, 7]) (by kernel_rfl) (by simp) ?_
      refine AllReadyH.cons (o := _) rfl (fun K hK => ?_) (AllReadyH.cons (o := _) rfl (fun K hK => ?_) AllReadyH.nil)
      · go_simp
        refine hK.out _ _ ?_ (fun hHeld => ?_)
        · exact q13
        clear hK K
        try simp only [Act.put]
        try simp only [List.setIfInBounds_toArray]
        try simp only [List.set_cons_succ]
        try simp only [List.set_cons_zero]
        refine takeD (i := 4) (oi := _) (v := ?vv160) (d := some 10) rfl (by kernel_rfl) (by kernel_rfl) (by kernel_rfl) (by kernel_rfl) (fun _ _ _ h => h) (Or.inl ⟨by kernel_rfl, ?_⟩) (by assumption) ?_
        rotate_left 1
        · intro W_ hSw; (try dsimp only at hSw); go_simp; (first | done | with_reducible rfl)
        try simp only [Act.put, List.setIfInBounds_toArray, List.set_cons_zero, List.set_cons_succ]
        refine takeD (i := 5) (oi := _) (v := ?vv161) (d := some 15) rfl (by kernel_rfl) (by kernel_rfl) (by kernel_rfl) (by kernel_rfl) (fun _ _ _ h => h) (Or.inl ⟨by kernel_rfl, ?_⟩) (by assumption) ?_
        rotate_left 1
        · intro W_ hSw; (try dsimp only at hSw); go_simp; (first | done | with_reducible rfl)
        try simp only [Act.put, List.setIfInBounds_toArray, List.set_cons_zero, List.set_cons_succ]
        refine takeD (i := 6) (oi := _) (v := ?vv162) (d := some 16) rfl (by kernel_rfl) (by kernel_rfl) (by kernel_rfl) (by kernel_rfl) (fun _ _ _ h => h) (Or.inl ⟨by kernel_rfl, ?_⟩) (by assumption) ?_
        rotate_left 1
        · intro W_ hSw; (try dsimp only at hSw); go_simp; (first | done | with_reducible rfl)
        try simp only [Act.put, List.setIfInBounds_toArray, List.set_cons_zero, List.set_cons_succ]
        refine wpAnyH_ready (rs := [7]) (by kernel_rfl) (by simp) ?_
        refine AllReadyH.cons (o := _) rfl (fun K hK => ?_) AllReadyH.nil
        go_simp
        refine hK.out _ _ ?_ (fun hHeld => ?_)
        · exact hqX
        clear hK K
        try simp only [Act.put]
        try simp only [List.setIfInBounds_toArray]
        try simp only [List.set_cons_succ]
        try simp only [List.set_cons_zero]
        refine wpAnyH_ready (rs := [8]) (by kernel_rfl) (by simp) ?_
        refine AllReadyH.cons (o := _) rfl (fun K hK => ?_) AllReadyH.nil
        (refine step_store_var rfl 91 (.tmp 6) (.tmp 15) rfl _ [.nilFunc, .nilFunc] [.nilFunc, .nilFunc] 2 rfl rfl RX size_effect rfl rfl (one_ab rfl rfl) ?_)
        intro w5 r5 k5
        go_simp
        refine hK.out _ _ ?_ (fun hHeld => ?_)
        · exact (k5.cell (p := ⟨w.heap.size + 1, 1, none⟩) hXne).trans hqX
        clear hK K
        try simp only [Act.put, List.setIfInBounds_toArray, List.set_cons_zero, List.set_cons_succ]
        refine takeD (i := 9) (oi := _) (v := ?vv163) (d := some 7) rfl (by kernel_rfl) (by kernel_rfl) (by kernel_rfl) (by kernel_rfl) (fun _ _ _ h => h) (Or.inl ⟨by kernel_rfl, ?_⟩) (by assumption) ?_
        rotate_left 1
        · intro W_ hSw; (try dsimp only at hSw); go_simp; (first | done | with_reducible rfl)
        try simp only [Act.put, List.setIfInBounds_toArray, List.set_cons_zero, List.set_cons_succ]
        refine wpAnyH_done (by kernel_rfl) ?_ _
        go_wp2
        go_meet
        case rel => exact ⟨_, rfl, rfl, Lib.hid ⟨r5, hbX.trans (k5.below hXle)⟩⟩
      · go_simp
        refine hK.out _ _ ?_ (fun hHeld => ?_)
        · exact hqX
        clear hK K
        try simp only [Act.put]
        try simp only [List.setIfInBounds_toArray]
        try simp only [List.set_cons_succ]
        try simp only [List.set_cons_zero]
        refine wpAnyH_ready (rs := [3]) (by kernel_rfl) (by simp) ?_
        refine AllReadyH.cons (o := _) rfl (fun K hK => ?_) AllReadyH.nil
        go_simp
        refine hK.out _ _ ?_ (fun hHeld => ?_)
        · exact hqX
        clear hK K
        try simp only [Act.put]
        try simp only [List.setIfInBounds_toArray]
        try simp only [List.set_cons_succ]
        try simp only [List.set_cons_zero]
        refine takeD (i := 4) (oi := _) (v := ?vv164) (d := some 10) rfl (by kernel_rfl) (by kernel_rfl) (by kernel_rfl) (by kernel_rfl) (fun _ _ _ h => h) (Or.inl ⟨by kernel_rfl, ?_⟩) (by assumption) ?_
        rotate_left 1
        · intro W_ hSw; (try dsimp only at hSw); go_simp; (first | done | with_reducible rfl)
        try simp only [Act.put, List.setIfInBounds_toArray, List.set_cons_zero, List.set_cons_succ]
        refine takeD (i := 5) (oi := _) (v := ?vv165) (d := some 15) rfl (by kernel_rfl) (by kernel_rfl) (by kernel_rfl) (by kernel_rfl) (fun _ _ _ h => h) (Or.inl ⟨by kernel_rfl, ?_⟩) (by assumption) ?_
        rotate_left 1
        · intro W_ hSw; (try dsimp only at hSw); go_simp; (first | done | with_reducible rfl)
        try simp only [Act.put, List.setIfInBounds_toArray, List.set_cons_zero, List.set_cons_succ]
        refine takeD (i := 6) (oi := _) (v := ?vv166) (d := some 16) rfl (by kernel_rfl) (by kernel_rfl) (by kernel_rfl) (by kernel_rfl) (fun _ _ _ h => h) (Or.inl ⟨by kernel_rfl, ?_⟩) (by assumption) ?_
        rotate_left 1
        · intro W_ hSw; (try dsimp only at hSw); go_simp; (first | done | with_reducible rfl)
        try simp only [Act.put, List.setIfInBounds_toArray, List.set_cons_zero, List.set_cons_succ]
        refine wpAnyH_ready (rs := [8]) (by kernel_rfl) (by simp) ?_
        refine AllReadyH.cons (o := _) rfl (fun K hK => ?_) AllReadyH.nil
        (refine step_store_var rfl 91 (.tmp 6) (.tmp 15) rfl _ [.nilFunc, .nilFunc] [.nilFunc, .nilFunc] 2 rfl rfl RX size_effect rfl rfl (one_ab rfl rfl) ?_)
        intro w5 r5 k5
        go_simp
        refine hK.out _ _ ?_ (fun hHeld => ?_)
        · exact (k5.cell (p := ⟨w.heap.size + 1, 1, none⟩) hXne).trans hqX
        clear hK K
        try simp only [Act.put, List.setIfInBounds_toArray, List.set_cons_zero, List.set_cons_succ]
        refine takeD (i := 9) (oi := _) (v := ?vv167) (d := some 7) rfl (by kernel_rfl) (by kernel_rfl) (by kernel_rfl) (by kernel_rfl) (fun _ _ _ h => h) (Or.inl ⟨by kernel_rfl, ?_⟩) (by assumption) ?_
        rotate_left 1
        · intro W_ hSw; (try dsimp only at hSw); go_simp; (first | done | with_reducible rfl)
        try simp only [Act.put, List.setIfInBounds_toArray, List.set_cons_zero, List.set_cons_succ]
        refine wpAnyH_done (by kernel_rfl) ?_ _
        go_wp2
        go_meet
        case rel => exact ⟨_, rfl, rfl, Lib.hid ⟨r5, hbX.trans (k5.below hXle)⟩⟩
    · go_simp
      refine hK.out _ _ ?_ (fun hHeld => ?_)
      · exact cell_al' _ q1
      clear hK K
      try simp only [Act.put]
      try simp only [List.setIfInBounds_toArray]
      try simp only [List.set_cons_succ]
      try simp only [List.set_cons_zero]
      have hba : Below w_2.heap.size w_2 (w_2.alloc (.cells #[.nilFunc, .nilFunc] 91)) := bel_alloc (Below.refl _ _) _
      have RA := RowAt.new w_2 91 [.nilFunc, .nilFunc]
      refine wpAnyH_ready (rs := [0]) (by kernel_rfl) (by simp) ?_
      refine AllReadyH.cons (o := _) rfl (fun K hK => ?_) AllReadyH.nil
      go_simp
      (go_at_call 66; (with_reducible refine (effects_any _).mono ?_); rintro e2 w3 ⟨rfl, m3, hb3⟩; have hb3a : Below (w_2.alloc (.cells #[.nilFunc, .nilFunc] 91)).heap.size (w_2.alloc (.cells #[.nilFunc, .nilFunc] 91)) w3 := (Below.refl _ _).drew.trans (hb3.mono (Nat.le_refl _)); have RX := RA.to hb3a; have hbX : Below w_2.heap.size w_2 w3 := hba.trans (hb3a.mono hba.size); have m3' : MapIs w3 (w_2.heap.size + 1) effL 4 := (by simpa using m3); have hlk := look_none hv m3'; have hqX := (hbX.cell (p := ⟨w.heap.size + 1, 1, none⟩) hz2').trans q1; clear m3)
      go_wp2_with fail
      refine hK.out _ _ ?_ (fun hHeld => ?_)
      · exact hqX
      clear hK K
      try simp only [Act.put, List.setIfInBounds_toArray, List.set_cons_zero, List.set_cons_succ]
      have hXle : w_2.heap.size ≤ w_2.heap.size := Nat.le_refl _
      have hXne : w.heap.size + 1 ≠ w_2.heap.size := by omega
      refine wpAnyH_ready (rs := [3]) (by kernel_rfl) (by simp) ?_
      refine AllReadyH.cons (o := _) rfl (fun K hK => ?_) AllReadyH.nil
      go_simp
      refine hK.out _ _ ?_ (fun hHeld => ?_)
      · exact hqX
      clear hK K
      try simp only [Act.put]
      try simp only [List.setIfInBounds_toArray]
      try simp only [List.set_cons_succ]
      try simp only [List.set_cons_zero]
      refine takeD (i := 4) (oi := _) (v := ?vv168) (d := some 10) rfl (by kernel_rfl) (by kernel_rfl) (by kernel_rfl) (by kernel_rfl) (fun _ _ _ h => h) (Or.inl ⟨by kernel_rfl, ?_⟩) (by assumption) ?_
      rotate_left 1
      · intro W_ hSw; (try dsimp only at hSw); go_simp; (first | done | with_reducible rfl)
      try simp only [Act.put, List.setIfInBounds_toArray, List.set_cons_zero, List.set_cons_succ]
      refine takeD (i := 5) (oi := _) (v := ?vv169) (d := some 15) rfl (by kernel_rfl) (by kernel_rfl) (by kernel_rfl) (by kernel_rfl) (fun _ _ _ h => h) (Or.inl ⟨by kernel_rfl, ?_⟩) (by assumption) ?_
      rotate_left 1
      · intro W_ hSw; (try dsimp only at hSw); go_simp; (first | done | with_reducible rfl)
      try simp only [Act.put, List.setIfInBounds_toArray, List.set_cons_zero, List.set_cons_succ]
      refine takeD (i := 6) (oi := _) (v := ?vv170) (d := some 16) rfl (by kernel_rfl) (by kernel_rfl) (by kernel_rfl) (by kernel_rfl) (fun _ _ _ h => h) (Or.inl ⟨by kernel_rfl, ?_⟩) (by assumption) ?_
      rotate_left 1
      · intro W_ hSw; (try dsimp only at hSw); go_simp; (first | done | with_reducible rfl)
      try simp only [Act.put, List.setIfInBounds_toArray, List.set_cons_zero, List.set_cons_succ]
      refine wpAnyH_ready (rs := [8]) (by kernel_rfl) (by simp) ?_
      refine AllReadyH.cons (o := _) rfl (fun K hK => ?_) AllReadyH.nil
      (refine step_store_var rfl 91 (.tmp 6) (.tmp 15) rfl _ [.nilFunc, .nilFunc] [.nilFunc, .nilFunc] 2 rfl rfl RX size_effect rfl rfl (one_ab rfl rfl) ?_)
      intro w5 r5 k5
      go_simp
      refine hK.out _ _ ?_ (fun hHeld => ?_)
      · exact (k5.cell (p := ⟨w.heap.size + 1, 1, none⟩) hXne).trans hqX
      clear hK K
      try simp only [Act.put, List.setIfInBounds_toArray, List.set_cons_zero, List.set_cons_succ]
      refine takeD (i := 9) (oi := _) (v := ?vv171) (d := some 7) rfl (by kernel_rfl) (by kernel_rfl) (by kernel_rfl) (by kernel_rfl) (fun _ _ _ h => h) (Or.inl ⟨by kernel_rfl, ?_⟩) (by assumption) ?_
      rotate_left 1
      · intro W_ hSw; (try dsimp only at hSw); go_simp; (first | done | with_reducible rfl)
      try simp only [Act.put, List.setIfInBounds_toArray, List.set_cons_zero, List.set_cons_succ]
      refine wpAnyH_done (by kernel_rfl) ?_ _
      go_wp2
      go_meet
      case rel => exact ⟨_, rfl, rfl, Lib.hid ⟨r5, hbX.trans (k5.below hXle)⟩⟩
  case rest =>
    obtain ⟨X, rfl, rfl, HE⟩ := hcut
    have RE := Lib.hid HE.out.1
    replace R_2 := Lib.hid (R_2.out.to HE.out.2)
    replace RQ := Lib.hid (RQ.out.to HE.out.2)
    replace R2 := Lib.hid (R2.out.to HE.out.2)
    replace I2 := Lib.hid (I2.out.to HE.out.2)
    replace B2 := Lib.hid (B2.out.trans (HE.out.2.mono B2.out.size))
    have hz3 : w0.heap.size ≤ wc.heap.size := Nat.le_trans hz2 HE.out.2.size
    clear HE q1 hz2 hz2'
    rename World => wz
    have q0 : wz.cell? ⟨w.heap.size + 1, 0, none⟩ = some (.int .u16 (q.ow : Int)) := RQ.out.cells 0
    have q2 : wz.cell? ⟨w.heap.size + 1, 2, none⟩ = some (.int .u32 (q.tx : Int)) := RQ.out.cells 2
    by_cases h5 : q.ow = 0
    · have g5 : ((q.ow : Int) == 0) = true := by simp [h5]
      clear h5
      go_upto_region 4 with fail
      clear q0 q2
      go_wp2_with (first | (refine wpList_load_var rfl 35 (.tmp 2) rfl (w.heap.size) rfl _ _ 32 R_2.out Try.underlying35 rfl size_32 HC.out ?_) | (refine wpList_store_var rfl 35 (.tmp 4) (.tmp 29) rfl (w.heap.size + 2) _ (agC A1 c1 s1 g) 32 rfl rfl R2.out size_32 (by first | rfl | exact HCO.out) HC.out (agC_one _) ?_; intro w_5 r_5 k_5; have R_5 := Lib.hid r_5; have K_5 := Lib.hid k_5; clear r_5 k_5))
      exact bodyPost_ret (results_cell_tmp rfl _ _ (w.heap.size + 2) 35 _ (0, 0) _ rfl R_5.out Try.underlying35 rfl (by rw [size_32, List.size_toArray, HC.out])) rfl ⟨A1, c1, s1, rfl, (I2.out.only K_5.out (by omega)).more (by omega), K_5.out.to B2.out (by omega)⟩
    have g5 : ((q.ow : Int) == 0) = false := beq_eq_false_iff_ne.2 (by omega)
    by_cases h6 : q.tx = 0
    · have g6 : ((q.tx : Int) == 0) = true := by simp [h6]
      clear h5 h6
      go_upto_region 4 with fail
      clear q0 q2
      go_wp2_with (first | (refine wpList_load_var rfl 35 (.tmp 2) rfl (w.heap.size) rfl _ _ 32 R_2.out Try.underlying35 rfl size_32 HC.out ?_) | (refine wpList_store_var rfl 35 (.tmp 4) (.tmp 29) rfl (w.heap.size + 2) _ (agC A1 c1 s1 g) 32 rfl rfl R2.out size_32 (by first | rfl | exact HCO.out) HC.out (agC_one _) ?_; intro w_5 r_5 k_5; have R_5 := Lib.hid r_5; have K_5 := Lib.hid k_5; clear r_5 k_5))
      exact bodyPost_ret (results_cell_tmp rfl _ _ (w.heap.size + 2) 35 _ (0, 0) _ rfl R_5.out Try.underlying35 rfl (by rw [size_32, List.size_toArray, HC.out])) rfl ⟨A1, c1, s1, rfl, (I2.out.only K_5.out (by omega)).more (by omega), K_5.out.to B2.out (by omega)⟩
    have g6 : ((q.tx : Int) == 0) = false := beq_eq_false_iff_ne.2 (by omega)
    clear h5 h6
    go_upto_region 4 with fail
    clear q0 q2
    go_wp2_with (first | (refine wpList_load_var rfl 35 (.tmp 2) rfl (w.heap.size) rfl _ _ 32 R_2.out Try.underlying35 rfl size_32 HC.out ?_) | (refine wpList_store_var rfl 35 (.tmp 4) (.tmp 29) rfl (w.heap.size + 2) _ (agC A1 c1 s1 g) 32 rfl rfl R2.out size_32 (by first | rfl | exact HCO.out) HC.out (agC_one _) ?_; intro w_5 r_5 k_5; have R_5 := Lib.hid r_5; have K_5 := Lib.hid k_5; clear r_5 k_5))
    exact bodyPost_ret (results_cell_tmp rfl _ _ (w.heap.size + 2) 35 _ (0, 0) _ rfl R_5.out Try.underlying35 rfl (by rw [size_32, List.size_toArray, HC.out])) rfl ⟨A1, c1, s1, rfl, (I2.out.only K_5.out (by omega)).more (by omega), K_5.out.to B2.out (by omega)⟩
set_option maxHeartbeats 1000000 in
theorem agdo_1 (w : World) (h : AgIs A c s g w base) (q : Cmd) (hq : q.Fit) (hr : g.right) (hv : q.v = 1) :
    Calls Try.prog 35 #[.agg (agC A c s g).toArray, .agg (cmdL q).toArray] w (AgEE w (g.doit q)) := by
  obtain ⟨XX, hX⟩ : ∃ XX, g.doit q = XX := ⟨_, rfl⟩
  rw [hX]
  have HX := Lib.hid hX
  clear hX
  have HR := Lib.hid hr
  clear hr
  have HV := Lib.hid hv
  clear hv
  have ko := Lib.hid (fun W (hW : Below w.heap.size w W) => agown_any W (h.to hW))
  have HCO := Lib.hid h.C32
  clear h
  go_enter Try.func35, Try.ntmps35
  go_upto_region 1 with fail
  obtain ⟨w0, hw0⟩ : ∃ w_q_, w_q_ = ((w.alloc (.cells (agC A c s g).toArray 35)).alloc (.cells (cmdL q).toArray 41)).alloc (.cells z32 35) := ⟨_, rfl⟩
  rw [← hw0]
  have hin := in_acr w (agC A c s g) (cmdL q)
  rw [← hw0] at hin
  obtain ⟨r1, rq, r2, b0, z0⟩ := hin
  have R1 := Lib.hid r1
  have RQ := Lib.hid rq
  have R2 := Lib.hid r2
  have B0 := Lib.hid b0
  clear hw0 r1 r2 b0 rq
  go_wp2_with (refine wpList_load_var rfl 35 (.tmp 2) rfl (w.heap.size) rfl _ _ 32 R1.out Try.underlying35 rfl size_32 HCO.out ?_)
  with_reducible refine (ko.out _ B0.out).mono ?_
  rintro e1 w1 ⟨A1, c1, s1, rfl, i1, hb1⟩
  have I1 := Lib.hid i1
  have HC := Lib.hid i1.C32
  replace R1 := Lib.hid (R1.out.to hb1)
  replace RQ := Lib.hid (RQ.out.to hb1)
  replace R2 := Lib.hid (R2.out.to hb1)
  have B1 := Lib.hid (B0.out.trans (hb1.mono B0.out.size))
  have hz1 := hb1.size
  clear hb1 i1 ko
  go_upto_region 2 with (refine wpList_store_var rfl 35 (.tmp 2) (.tmp 9) rfl (w.heap.size) _ (agC A1 c1 s1 g) 32 rfl rfl R1.out size_32 (by first | rfl | exact HCO.out) HC.out (agC_one _) ?_; intro w_2 r_2 k_2; have R_2 := Lib.hid r_2; have K_2 := Lib.hid k_2; clear r_2 k_2)
  replace R2 := Lib.hid (R2.out.only K_2.out (by omega))
  replace RQ := Lib.hid (RQ.out.only K_2.out (by omega))
  have I2 := Lib.hid (I1.out.only K_2.out (by omega))
  have B2 := Lib.hid (K_2.out.to B1.out (Nat.le_refl _))
  have hz2 : w0.heap.size ≤ w_2.heap.size := by rw [K_2.out.size]; exact hz1
  clear B1 I1 K_2 R1 B0 hz1
  have q1 : w_2.cell? ⟨w.heap.size + 1, 1, none⟩ = some (.int .u8 1) := (RQ.out.cells 1).trans (by show some (Value.int .u8 (q.v : Int)) = _; rw [HV.out]; rfl)
  have hz2' : w.heap.size + 1 < w_2.heap.size := by omega
  simp only [Act.put]
  go_cut [6, 7] (fun p v wx => ∃ X : Nat, p = .pointer (some ⟨X, 0, none⟩) ∧ v = .bool true ∧ Hid (RowAt wx X 91 [fnV 87, fnV 88] ∧ Below w_2.heap.size w_2 wx))
  case first =>
    refine wp_region_held_drew (S := (fun w' => w'.cell? ⟨w.heap.size + 1, 1, none⟩ = some (.int .u8 1))) (by kernel_rfl) ?_ (fun hHeld => ?_)
    · exact q1
    refine takeD (i := 1) (oi := _) (v := ?vv172) (d := some 12) rfl (by kernel_rfl) (by kernel_rfl) (by kernel_rfl) (by kernel_rfl) (fun _ _ _ h => h) (Or.inl ⟨by kernel_rfl, ?_⟩) (by assumption) ?_
    rotate_left 1
    · intro W_ hSw; (try dsimp only at hSw); go_simp; (first | done | with_reducible rfl)
    try simp only [Act.put, List.setIfInBounds_toArray, List.set_cons_zero, List.set_cons_succ]
    refine takeD (i := 2) (oi := _) (v := ?vv173) (d := some 13) rfl (by kernel_rfl) (by kernel_rfl) (by kernel_rfl) (by kernel_rfl) (fun _ _ _ h => h) (Or.inl ⟨by kernel_rfl, ?_⟩) (by assumption) ?_
    rotate_left 1
    · intro W_ hSw; (try dsimp only at hSw); go_simp; (first | done | with_reducible rfl)
    try simp only [Act.put, List.setIfInBounds_toArray, List.set_cons_zero, List.set_cons_succ]
    refine wpAnyH_ready (rs := [0, 7]) (by kernel_rfl) (by simp) ?_
    refine AllReadyH.cons (o := _) rfl (fun K hK => ?_) (AllReadyH.cons (o := _) rfl (fun K hK => ?_) AllReadyH.nil)
    · go_simp
      (go_at_call 66; (with_reducible refine (effects_any _).mono ?_); rintro e2 w3 ⟨rfl, m3, hb3⟩; have hb3a : Below w_2.heap.size w_2 w3 := (Below.refl _ _).drew.trans (hb3.mono (Nat.le_refl _)); have m3' : MapIs w3 w_2.heap.size effL 4 := m3; have hlk := look_1 m3'; have hlk4 := look_1 (m3'.to (bel_alloc (Below.refl _ _) (.cells #[.nilFunc, .nilFunc] 91))); have q13 := (hb3a.cell (p := ⟨w.heap.size + 1, 1, none⟩) hz2').trans q1; clear m3)
      go_wp2_with fail
      refine hK.out _ _ ?_ (fun hHeld => ?_)
      · exact q13
      clear hK K
      try simp only [Act.put, List.setIfInBounds_toArray, List.set_cons_zero, List.set_cons_succ]
      have hqX := cell_al' (.cells #[.nilFunc, .nilFunc] 91) q13
      have RX := RowAt.new w3 91 [.nilFunc, .nilFunc]
      have hbX : Below w_2.heap.size w_2 (w3.alloc (.cells #[.nilFunc, .nilFunc] 91)) := bel_alloc hb3a _
      have hXle := hb3a.size
      have hXne : w.heap.size + 1 ≠ w3.heap.size := by omega
      refine wpAnyH_ready (rs := [3, 7]) (by kernel_rfl) (by simp) ?_
      refine AllReadyH.cons (o := _) rfl (fun K hK => ?_) (AllReadyH.cons (o := _) rfl (fun K hK => ?_) AllReadyH.nil)
      · go_simp
        refine hK.out _ _ ?_ (fun hHeld => ?_)
        · exact q13
        clear hK K
        try simp only [Act.put]
        try simp only [List.setIfInBounds_toArray]
        try simp only [List.set_cons_succ]
        try simp only [List.set_cons_zero]
        refine takeD (i := 4) (oi := _) (v := ?vv174) (d := some 10) rfl (by kernel_rfl) (by kernel_rfl) (by kernel_rfl) (by kernel_rfl) (fun _ _ _ h => h) (Or.inl ⟨by kernel_rfl, ?_⟩) (by assumption) ?_
        rotate_left 1
        · intro W_ hSw; (try dsimp only at hSw); go_simp; (first | done | with_reducible rfl)
        try simp only [Act.put, List.setIfInBounds_toArray, List.set_cons_zero, List.set_cons_succ]
        refine takeD (i := 5) (oi := _) (v := ?vv175) (d := some 15) rfl (by kernel_rfl) (by kernel_rfl) (by kernel_rfl) (by kernel_rfl) (fun _ _ _ h => h) (Or.inl ⟨by kernel_rfl, ?_⟩) (by assumption) ?_
        rotate_left 1
        · intro W_ hSw; (try dsimp only at hSw); go_simp; (first | done | with_reducible rfl)
        try simp only [Act.put, List.setIfInBounds_toArray, List.set_cons_zero, List.set_cons_succ]
        refine takeD (i := 6) (oi := _) (v := ?vv176) (d := some 16) rfl (by kernel_rfl) (by kernel_rfl) (by kernel_rfl) (by kernel_rfl) (fun _ _ _ h => h) (Or.inl ⟨by kernel_rfl, ?_⟩) (by assumption) ?_
        rotate_left 1
        · intro W_ hSw; (try dsimp only at hSw); go_simp; (first | done | with_reducible rfl)
        try simp only [Act.put, List.setIfInBounds_toArray, List.set_cons_zero, List.set_cons_succ]
        refine wpAnyH_ready (rs := [7]) (by kernel_rfl) (by simp) ?_
        refine AllReadyH.cons (o := _) rfl (fun K hK => ?_) AllReadyH.nil
        go_simp
        refine hK.out _ _ ?_ (fun hHeld => ?_)
        · exact hqX
        clear hK K
        try simp only [Act.put]
        try simp only [List.setIfInBounds_toArray]
        try simp only [List.set_cons_succ]
        try simp only [List.set_cons_zero]
        refine wpAnyH_ready (rs := [8]) (by kernel_rfl) (by simp) ?_
        refine AllReadyH.cons (o := _) rfl (fun K hK => ?_) AllReadyH.nil
        (refine step_store_var rfl 91 (.tmp 6) (.tmp 15) rfl _ [.nilFunc, .nilFunc] [fnV 87, fnV 88] 2 rfl rfl RX size_effect rfl rfl (one_ab rfl rfl) ?_)
        intro w5 r5 k5
        go_simp
        refine hK.out _ _ ?_ (fun hHeld => ?_)
        · exact (k5.cell (p := ⟨w.heap.size + 1, 1, none⟩) hXne).trans hqX
        clear hK K
        try simp only [Act.put, List.setIfInBounds_toArray, List.set_cons_zero, List.set_cons_succ]
        refine takeD (i := 9) (oi := _) (v := ?vv177) (d := some 7) rfl (by kernel_rfl) (by kernel_rfl) (by kernel_rfl) (by kernel_rfl) (fun _ _ _ h => h) (Or.inl ⟨by kernel_rfl, ?_⟩) (by assumption) ?_
        rotate_left 1
        · intro W_ hSw; (try dsimp only at hSw); go_simp; (first | done | with_reducible rfl)
        try simp only [Act.put, List.setIfInBounds_toArray, List.set_cons_zero, List.set_cons_succ]
        refine wpAnyH_done (by kernel_rfl) ?_ _
        go_wp2
        go_meet
        case rel => exact ⟨_, rfl, rfl, Lib.hid ⟨r5, hbX.trans (k5.below hXle)⟩⟩
      · go_simp
        refine hK.out _ _ ?_ (fun hHeld => ?_)
        · exact hqX
        clear hK K
        try simp only [Act.put]
        try simp only [List.setIfInBounds_toArray]
        try simp only [List.set_cons_succ]
        try simp only [List.set_cons_zero]
        refine wpAnyH_ready (rs := [3]) (by kernel_rfl) (by simp) ?_
        refine AllReadyH.cons (o := _) rfl (fun K hK => ?_) AllReadyH.nil
        go_simp
        refine hK.out _ _ ?_ (fun hHeld => ?_)
        · exact hqX
        clear hK K
        try simp only [Act.put]
        try simp only [List.setIfInBounds_toArray]
        try simp only [List.set_cons_succ]
        try simp only [List.set_cons_zero]
        refine takeD (i := 4) (oi := _) (v := ?vv178) (d := some 10) rfl (by kernel_rfl) (by kernel_rfl) (by kernel_rfl) (by kernel_rfl) (fun _ _ _ h => h) (Or.inl ⟨by kernel_rfl, ?_⟩) (by assumption) ?_
        rotate_left 1
        · intro W_ hSw; (try dsimp only at hSw); go_simp; (first | done | with_reducible rfl)
        try simp only [Act.put, List.setIfInBounds_toArray, List.set_cons_zero, List.set_cons_succ]
        refine takeD (i := 5) (oi := _) (v := ?vv179) (d := some 15) rfl (by kernel_rfl) (by kernel_rfl) (by kernel_rfl) (by kernel_rfl) (fun _ _ _ h => h) (Or.inl ⟨by kernel_rfl, ?_⟩) (by assumption) ?_
        rotate_left 1
        · intro W_ hSw; (try dsimp only at hSw); go_simp; (first | done | with_reducible rfl)
        try simp only [Act.put, List.setIfInBounds_toArray, List.set_cons_zero, List.set_cons_succ]
        refine takeD (i := 6) (oi := _) (v := ?vv180) (d := some 16) rfl (by kernel_rfl) (by kernel_rfl) (by kernel_rfl) (by kernel_rfl) (fun _ _ _ h => h) (Or.inl ⟨by kernel_rfl, ?_⟩) (by assumption) ?_
        rotate_left 1
        · intro W_ hSw; (try dsimp only at hSw); go_simp; (first | done | with_reducible rfl)
        try simp only [Act.put, List.setIfInBounds_toArray, List.set_cons_zero, List.set_cons_succ]
        refine wpAnyH_ready (rs := [8]) (by kernel_rfl) (by simp) ?_
        refine AllReadyH.cons (o := _) rfl (fun K hK => ?_) AllReadyH.nil
        (refine step_store_var rfl 91 (.tmp 6) (.tmp 15) rfl _ [.nilFunc, .nilFunc] [fnV 87, fnV 88] 2 rfl rfl RX size_effect rfl rfl (one_ab rfl rfl) ?_)
        intro w5 r5 k5
        go_simp
        refine hK.out _ _ ?_ (fun hHeld => ?_)
        · exact (k5.cell (p := ⟨w.heap.size + 1, 1, none⟩) hXne).trans hqX
        clear hK K
        try simp only [Act.put, List.setIfInBounds_toArray, List.set_cons_zero, List.set_cons_succ]
        refine takeD (i := 9) (oi := _) (v := ?vv181) (d := some 7) rfl (by kernel_rfl) (by kernel_rfl) (by kernel_rfl) (by kernel_rfl) (fun _ _ _ h => h) (Or.inl ⟨by kernel_rfl, ?_⟩) (by assumption) ?_
        rotate_left 1
        · intro W_ hSw; (try dsimp only at hSw); go_simp; (first | done | with_reducible rfl)
        try simp only [Act.put, List.setIfInBounds_toArray, List.set_cons_zero, List.set_cons_succ]
        refine wpAnyH_done (by kernel_rfl) ?_ _
        go_wp2
        go_meet
        case rel => exact ⟨_, rfl, rfl, Lib.hid ⟨r5, hbX.trans (k5.below hXle)⟩⟩
    · go_simp
      refine hK.out _ _ ?_ (fun hHeld => ?_)
      · exact cell_al' _ q1
      clear hK K
      try simp only [Act.put]
      try simp only [List.setIfInBounds_toArray]
      try simp only [List.set_cons_succ]
      try simp only [List.set_cons_zero]
      have hba : Below w_2.heap.size w_2 (w_2.alloc (.cells #[.nilFunc, .nilFunc] 91)) := bel_alloc (Below.refl _ _) _
      have RA := RowAt.new w_2 91 [.nilFunc, .nilFunc]
      refine wpAnyH_ready (rs := [0]) (by kernel_rfl) (by simp) ?_
      refine AllReadyH.cons (o := _) rfl (fun K hK => ?_) AllReadyH.nil
      go_simp
      (go_at_call 66; (with_reducible refine (effects_any _).mono ?_); rintro e2 w3 ⟨rfl, m3, hb3⟩; have hb3a : Below (w_2.alloc (.cells #[.nilFunc, .nilFunc] 91)).heap.size (w_2.alloc (.cells #[.nilFunc, .nilFunc] 91)) w3 := (Below.refl _ _).drew.trans (hb3.mono (Nat.le_refl _)); have RX := RA.to hb3a; have hbX : Below w_2.heap.size w_2 w3 := hba.trans (hb3a.mono hba.size); have m3' : MapIs w3 (w_2.heap.size + 1) effL 4 := (by simpa using m3); have hlk := look_1 m3'; have hqX := (hbX.cell (p := ⟨w.heap.size + 1, 1, none⟩) hz2').trans q1; clear m3)
      go_wp2_with fail
      refine hK.out _ _ ?_ (fun hHeld => ?_)
      · exact hqX
      clear hK K
      try simp only [Act.put, List.setIfInBounds_toArray, List.set_cons_zero, List.set_cons_succ]
      have hXle : w_2.heap.size ≤ w_2.heap.size := Nat.le_refl _
      have hXne : w.heap.size + 1 ≠ w_2.heap.size := by omega
      refine wpAnyH_ready (rs := [3]) (by kernel_rfl) (by simp) ?_
      refine AllReadyH.cons (o := _) rfl (fun K hK => ?_) AllReadyH.nil
      go_simp
      refine hK.out _ _ ?_ (fun hHeld => ?_)
      · exact hqX
      clear hK K
      try simp only [Act.put]
      try simp only [List.setIfInBounds_toArray]
      try simp only [List.set_cons_succ]
      try simp only [List.set_cons_zero]
      refine takeD (i := 4) (oi := _) (v := ?vv182) (d := some 10) rfl (by kernel_rfl) (by kernel_rfl) (by kernel_rfl) (by kernel_rfl) (fun _ _ _ h => h) (Or.inl ⟨by kernel_rfl, ?_⟩) (by assumption) ?_
      rotate_left 1
      · intro W_ hSw; (try dsimp only at hSw); go_simp; (first | done | with_reducible rfl)
      try simp only [Act.put, List.setIfInBounds_toArray, List.set_cons_zero, List.set_cons_succ]
      refine takeD (i := 5) (oi := _) (v := ?vv183) (d := some 15) rfl (by kernel_rfl) (by kernel_rfl) (by kernel_rfl) (by kernel_rfl) (fun _ _ _ h => h) (Or.inl ⟨by kernel_rfl, ?_⟩) (by assumption) ?_
      rotate_left 1
      · intro W_ hSw; (try dsimp only at hSw); go_simp; (first | done | with_reducible rfl)
      try simp only [Act.put, List.setIfInBounds_toArray, List.set_cons_zero, List.set_cons_succ]
      refine takeD (i := 6) (oi := _) (v := ?vv184) (d := some 16) rfl (by kernel_rfl) (by kernel_rfl) (by kernel_rfl) (by kernel_rfl) (fun _ _ _ h => h) (Or.inl ⟨by kernel_rfl, ?_⟩) (by assumption) ?_
      rotate_left 1
      · intro W_ hSw; (try dsimp only at hSw); go_simp; (first | done | with_reducible rfl)
      try simp only [Act.put, List.setIfInBounds_toArray, List.set_cons_zero, List.set_cons_succ]
      refine wpAnyH_ready (rs := [8]) (by kernel_rfl) (by simp) ?_
      refine AllReadyH.cons (o := _) rfl (fun K hK => ?_) AllReadyH.nil
      (refine step_store_var rfl 91 (.tmp 6) (.tmp 15) rfl _ [.nilFunc, .nilFunc] [fnV 87, fnV 88] 2 rfl rfl RX size_effect rfl rfl (one_ab rfl rfl) ?_)
      intro w5 r5 k5
      go_simp
      refine hK.out _ _ ?_ (fun hHeld => ?_)
      · exact (k5.cell (p := ⟨w.heap.size + 1, 1, none⟩) hXne).trans hqX
      clear hK K
      try simp only [Act.put, List.setIfInBounds_toArray, List.set_cons_zero, List.set_cons_succ]
      refine takeD (i := 9) (oi := _) (v := ?vv185) (d := some 7) rfl (by kernel_rfl) (by kernel_rfl) (by kernel_rfl) (by kernel_rfl) (fun _ _ _ h => h) (Or.inl ⟨by kernel_rfl, ?_⟩) (by assumption) ?_
      rotate_left 1
      · intro W_ hSw; (try dsimp only at hSw); go_simp; (first | done | with_reducible rfl)
      try simp only [Act.put, List.setIfInBounds_toArray, List.set_cons_zero, List.set_cons_succ]
      refine wpAnyH_done (by kernel_rfl) ?_ _
      go_wp2
      go_meet
      case rel => exact ⟨_, rfl, rfl, Lib.hid ⟨r5, hbX.trans (k5.below hXle)⟩⟩
  case rest =>
    obtain ⟨X, rfl, rfl, HE⟩ := hcut
    have RE := Lib.hid HE.out.1
    replace R_2 := Lib.hid (R_2.out.to HE.out.2)
    replace RQ := Lib.hid (RQ.out.to HE.out.2)
    replace R2 := Lib.hid (R2.out.to HE.out.2)
    replace I2 := Lib.hid (I2.out.to HE.out.2)
    replace B2 := Lib.hid (B2.out.trans (HE.out.2.mono B2.out.size))
    have hz3 : w0.heap.size ≤ wc.heap.size := Nat.le_trans hz2 HE.out.2.size
    clear HE q1 hz2 hz2'
    rename World => wz
    have q0 : wz.cell? ⟨w.heap.size + 1, 0, none⟩ = some (.int .u16 (q.ow : Int)) := RQ.out.cells 0
    have q2 : wz.cell? ⟨w.heap.size + 1, 2, none⟩ = some (.int .u32 (q.tx : Int)) := RQ.out.cells 2
    by_cases h5 : q.ow = 0
    · have g5 : ((q.ow : Int) == 0) = true := by simp [h5]
      obtain rfl : (g, 2) = XX := by rw [← HX.out]; exact (doit_arg (.inl h5)).symm
      clear h5
      go_upto_region 4 with fail
      clear q0 q2
      go_wp2_with (first | (refine wpList_load_var rfl 35 (.tmp 2) rfl (w.heap.size) rfl _ _ 32 R_2.out Try.underlying35 rfl size_32 HC.out ?_) | (refine wpList_store_var rfl 35 (.tmp 4) (.tmp 29) rfl (w.heap.size + 2) _ (agC A1 c1 s1 g) 32 rfl rfl R2.out size_32 (by first | rfl | exact HCO.out) HC.out (agC_one _) ?_; intro w_5 r_5 k_5; have R_5 := Lib.hid r_5; have K_5 := Lib.hid k_5; clear r_5 k_5))
      exact bodyPost_ret (results_cell_tmp rfl _ _ (w.heap.size + 2) 35 _ (0, 0) _ rfl R_5.out Try.underlying35 rfl (by rw [size_32, List.size_toArray, HC.out])) rfl ⟨A1, c1, s1, rfl, (I2.out.only K_5.out (by omega)).more (by omega), K_5.out.to B2.out (by omega)⟩
    have g5 : ((q.ow : Int) == 0) = false := beq_eq_false_iff_ne.2 (by omega)
    by_cases h6 : q.tx = 0
    · have g6 : ((q.tx : Int) == 0) = true := by simp [h6]
      obtain rfl : (g, 2) = XX := by rw [← HX.out]; exact (doit_arg (.inr (.inl h6))).symm
      clear h5 h6
      go_upto_region 4 with fail
      clear q0 q2
      go_wp2_with (first | (refine wpList_load_var rfl 35 (.tmp 2) rfl (w.heap.size) rfl _ _ 32 R_2.out Try.underlying35 rfl size_32 HC.out ?_) | (refine wpList_store_var rfl 35 (.tmp 4) (.tmp 29) rfl (w.heap.size + 2) _ (agC A1 c1 s1 g) 32 rfl rfl R2.out size_32 (by first | rfl | exact HCO.out) HC.out (agC_one _) ?_; intro w_5 r_5 k_5; have R_5 := Lib.hid r_5; have K_5 := Lib.hid k_5; clear r_5 k_5))
      exact bodyPost_ret (results_cell_tmp rfl _ _ (w.heap.size + 2) 35 _ (0, 0) _ rfl R_5.out Try.underlying35 rfl (by rw [size_32, List.size_toArray, HC.out])) rfl ⟨A1, c1, s1, rfl, (I2.out.only K_5.out (by omega)).more (by omega), K_5.out.to B2.out (by omega)⟩
    have g6 : ((q.tx : Int) == 0) = false := beq_eq_false_iff_ne.2 (by omega)
    have h7 : ¬ (q.ow = 0 ∨ q.tx = 0 ∨ q.v < 1 ∨ 4 < q.v) := by have := HV.out; omega
    go_upto_region 5 with fail
    obtain ⟨o, ho⟩ : ∃ o, decide (Ls.free g.l = false ∧ g.l.o ≠ q.ow) = o := ⟨_, rfl⟩
    have ka := Lib.hid (agothers_any wz I2.out q.ow o ho)
    have HO := Lib.hid ho
    clear ho
    go_wp2_with (refine wpList_load_var rfl 35 (.tmp 2) rfl (w.heap.size) rfl _ _ 32 R_2.out Try.underlying35 rfl size_32 HC.out ?_)
    with_reducible refine (ka.out).mono ?_
    rintro e4 w4 ⟨rfl, hb4⟩
    replace RE := Lib.hid (RE.out.to hb4)
    replace R_2 := Lib.hid (R_2.out.to hb4)
    replace RQ := Lib.hid (RQ.out.to hb4)
    replace R2 := Lib.hid (R2.out.to hb4)
    replace I2 := Lib.hid (I2.out.to hb4)
    replace B2 := Lib.hid (B2.out.trans (hb4.mono B2.out.size))
    replace hz3 := Nat.le_trans hz3 hb4.size
    clear hb4 q0 q2 ka wz
    rename World => wz
    cases o
    rotate_left
    · obtain rfl : (g, 22) = XX := by
        rw [← HX.out]
        refine (doit_owned h7 ?_).symm
        have := of_decide_eq_true HO.out
        rw [HR.out.free_is] at this
        exact ⟨of_decide_eq_false this.1, this.2⟩
      clear h5 h6 h7
      go_upto_region 6 with fail
      go_wp2_with (first | (refine wpList_load_var rfl 35 (.tmp 2) rfl (w.heap.size) rfl _ _ 32 R_2.out Try.underlying35 rfl size_32 HC.out ?_) | (refine wpList_store_var rfl 35 (.tmp 4) (.tmp 34) rfl (w.heap.size + 2) _ (agC A1 c1 s1 g) 32 rfl rfl R2.out size_32 (by first | rfl | exact HCO.out) HC.out (agC_one _) ?_; intro w_5 r_5 k_5; have R_5 := Lib.hid r_5; have K_5 := Lib.hid k_5; clear r_5 k_5))
      exact bodyPost_ret (results_cell_tmp rfl _ _ (w.heap.size + 2) 35 _ (0, 0) _ rfl R_5.out Try.underlying35 rfl (by rw [size_32, List.size_toArray, HC.out])) rfl ⟨A1, c1, s1, rfl, (I2.out.only K_5.out (by omega)).more (by omega), K_5.out.to B2.out (by omega)⟩
    have h8 : ¬ (g.l.o ≠ 0 ∧ g.l.o ≠ q.ow) := fun hh => by
      have := of_decide_eq_false HO.out
      rw [HR.out.free_is] at this
      exact this ⟨decide_eq_false hh.1, hh.2⟩
    obtain ⟨r, hrr⟩ : ∃ r, decide (q.tx ≤ g.la ∨ (g.ph ≠ 0 ∧ q.tx < g.tx)) = r := ⟨_, rfl⟩
    have kn : Hid (∀ W, AgIs A1 c1 s1 g W w0.heap.size → Calls Try.prog 87 #[.agg (agC A1 c1 s1 g).toArray, .agg (cmdL q).toArray] W fun e w' => e = .returned (.bool r) ∧ Below W.heap.size W w') := Lib.hid (fun W hW => agnoClaim_any W q r hrr)
    have HN := Lib.hid hrr
    clear hrr
    have x0 : wz.cell? ⟨X, 0, none⟩ = some (fnV 87) := RE.out.cells 0
    have qlt : w.heap.size + 1 < (wz).heap.size := RQ.out.lt
    have qlu : w.heap.size + 1 < (wz).heap.size + 1 := Nat.lt_succ_of_lt RQ.out.lt
    have q0 : (wz).cell? ⟨w.heap.size + 1, 0, none⟩ = some (.int .u16 (q.ow : Int)) := RQ.out.cells 0
    have qz0 : (wz).frozen? ⟨w.heap.size + 1, 0, none⟩ = false := RQ.out.frozen 0
    have q1 : (wz).cell? ⟨w.heap.size + 1, 1, none⟩ = some (.int .u8 (q.v : Int)) := RQ.out.cells 1
    have qz1 : (wz).frozen? ⟨w.heap.size + 1, 1, none⟩ = false := RQ.out.frozen 1
    have q2 : (wz).cell? ⟨w.heap.size + 1, 2, none⟩ = some (.int .u32 (q.tx : Int)) := RQ.out.cells 2
    have qz2 : (wz).frozen? ⟨w.heap.size + 1, 2, none⟩ = false := RQ.out.frozen 2
    have q3 : (wz).cell? ⟨w.heap.size + 1, 3, none⟩ = some (.int .u16 (q.n : Int)) := RQ.out.cells 3
    have qz3 : (wz).frozen? ⟨w.heap.size + 1, 3, none⟩ = false := RQ.out.frozen 3
    have q4 : (wz).cell? ⟨w.heap.size + 1, 4, none⟩ = some (.int .u32 (q.ck : Int)) := RQ.out.cells 4
    have qz4 : (wz).frozen? ⟨w.heap.size + 1, 4, none⟩ = false := RQ.out.frozen 4
    clear h5 h6
    go_wp2_with (refine wpList_load_var rfl 35 (.tmp 2) rfl (w.heap.size) rfl _ _ 32 R_2.out Try.underlying35 rfl size_32 HC.out ?_)
    with_reducible refine (kn.out _ I2.out).mono ?_
    rintro e5 w5 ⟨rfl, hb5⟩
    replace RE := Lib.hid (RE.out.to hb5)
    replace R_2 := Lib.hid (R_2.out.to hb5)
    replace RQ := Lib.hid (RQ.out.to hb5)
    replace R2 := Lib.hid (R2.out.to hb5)
    replace I2 := Lib.hid (I2.out.to hb5)
    replace B2 := Lib.hid (B2.out.trans (hb5.mono B2.out.size))
    replace hz3 := Nat.le_trans hz3 hb5.size
    clear hb5 q0 q1 q2 q3 q4 qz0 qz1 qz2 qz3 qz4 qlt qlu x0 wz kn
    rename World => wz
    cases r
    rotate_left
    · obtain rfl : (g, 23) = XX := by
        rw [← HX.out, doit_1 h7 h8 HV.out]
        have := of_decide_eq_true HN.out
        rw [if_pos this]
      clear h7 h8
      go_upto_region 8 with fail
      go_wp2_with (first | (refine wpList_load_var rfl 35 (.tmp 2) rfl (w.heap.size) rfl _ _ 32 R_2.out Try.underlying35 rfl size_32 HC.out ?_) | (refine wpList_store_var rfl 35 (.tmp 4) (.tmp 40) rfl (w.heap.size + 2) _ (agC A1 c1 s1 g) 32 rfl rfl R2.out size_32 (by first | rfl | exact HCO.out) HC.out (agC_one _) ?_; intro w_5 r_5 k_5; have R_5 := Lib.hid r_5; have K_5 := Lib.hid k_5; clear r_5 k_5))
      exact bodyPost_ret (results_cell_tmp rfl _ _ (w.heap.size + 2) 35 _ (0, 0) _ rfl R_5.out Try.underlying35 rfl (by rw [size_32, List.size_toArray, HC.out])) rfl ⟨A1, c1, s1, rfl, (I2.out.only K_5.out (by omega)).more (by omega), K_5.out.to B2.out (by omega)⟩
    have h9 : ¬ (q.tx ≤ g.la ∨ (g.ph ≠ 0 ∧ q.tx < g.tx)) := of_decide_eq_false HN.out
    have h10 : XX.2 = 0 := by
      rw [← HX.out, doit_1 h7 h8 HV.out, if_neg h9]; split <;> rfl
    obtain ⟨X1, X2⟩ := XX
    simp only at h10
    subst h10
    have hx1 : (g.doit q).1 = X1 := by rw [HX.out]
    have kd := Lib.hid (fun W (hW : AgIs A1 c1 s1 g W w0.heap.size) (hB : w0.heap.size ≤ W.heap.size) => do_1 hW hB HR.out hq HV.out h7 h8 h9)
    rw [hx1] at kd
    clear hx1 h7 h8 h9 HX
    have x1 : wz.cell? ⟨X, 1, none⟩ = some (fnV 88) := RE.out.cells 1
    have qlt : w.heap.size + 1 < (wz).heap.size := RQ.out.lt
    have qlu : w.heap.size + 1 < (wz).heap.size + 1 := Nat.lt_succ_of_lt RQ.out.lt
    have q0 : (wz).cell? ⟨w.heap.size + 1, 0, none⟩ = some (.int .u16 (q.ow : Int)) := RQ.out.cells 0
    have qz0 : (wz).frozen? ⟨w.heap.size + 1, 0, none⟩ = false := RQ.out.frozen 0
    have q1 : (wz).cell? ⟨w.heap.size + 1, 1, none⟩ = some (.int .u8 (q.v : Int)) := RQ.out.cells 1
    have qz1 : (wz).frozen? ⟨w.heap.size + 1, 1, none⟩ = false := RQ.out.frozen 1
    have q2 : (wz).cell? ⟨w.heap.size + 1, 2, none⟩ = some (.int .u32 (q.tx : Int)) := RQ.out.cells 2
    have qz2 : (wz).frozen? ⟨w.heap.size + 1, 2, none⟩ = false := RQ.out.frozen 2
    have q3 : (wz).cell? ⟨w.heap.size + 1, 3, none⟩ = some (.int .u16 (q.n : Int)) := RQ.out.cells 3
    have qz3 : (wz).frozen? ⟨w.heap.size + 1, 3, none⟩ = false := RQ.out.frozen 3
    have q4 : (wz).cell? ⟨w.heap.size + 1, 4, none⟩ = some (.int .u32 (q.ck : Int)) := RQ.out.cells 4
    have qz4 : (wz).frozen? ⟨w.heap.size + 1, 4, none⟩ = false := RQ.out.frozen 4
    go_wp2_with (refine wpList_load_var rfl 35 (.tmp 2) rfl (w.heap.size) rfl _ _ 32 R_2.out Try.underlying35 rfl size_32 HC.out ?_)
    with_reducible refine (kd.out _ I2.out hz3).mono ?_
    rintro e6 w6 ⟨A6, c6, s6, rfl, i6, hb6⟩
    replace R2 := Lib.hid (R2.out.to hb6)
    have I6 := Lib.hid i6
    have HC6 := Lib.hid i6.C32
    have B6 := Lib.hid (B2.out.trans (hb6.mono B2.out.size))
    clear hb6 i6 q0 q1 q2 q3 q4 qz0 qz1 qz2 qz3 qz4 qlt qlu x1 kd B2 I2 RE RQ R_2
    go_wp2_with (refine wpList_store_var rfl 35 (.tmp 4) (.tmp 45) rfl (w.heap.size + 2) _ (agC A6 c6 s6 X1) 32 rfl rfl R2.out size_32 (by first | rfl | exact HCO.out) HC6.out (agC_one _) ?_; intro w_5 r_5 k_5; have R_5 := Lib.hid r_5; have K_5 := Lib.hid k_5; clear r_5 k_5)
    exact bodyPost_ret (results_cell_tmp rfl _ _ (w.heap.size + 2) 35 _ (0, 0) _ rfl R_5.out Try.underlying35 rfl (by rw [size_32, List.size_toArray, HC6.out])) rfl ⟨A6, c6, s6, rfl, (I6.out.only K_5.out (by omega)).more (by omega), K_5.out.to B6.out (by omega)⟩
set_option maxHeartbeats 1000000 in
theorem agdo_2 (w : World) (h : AgIs A c s g w base) (q : Cmd) (hq : q.Fit) (hr : g.right) (hv : q.v = 2) :
    Calls Try.prog 35 #[.agg (agC A c s g).toArray, .agg (cmdL q).toArray] w (AgEE w (g.doit q)) := by
  obtain ⟨XX, hX⟩ : ∃ XX, g.doit q = XX := ⟨_, rfl⟩
  rw [hX]
  have HX := Lib.hid hX
  clear hX
  have HR := Lib.hid hr
  clear hr
  have HV := Lib.hid hv
  clear hv
  have ko := Lib.hid (fun W (hW : Below w.heap.size w W) => agown_any W (h.to hW))
  have HCO := Lib.hid h.C32
  clear h
  go_enter Try.func35, Try.ntmps35
  go_upto_region 1 with fail
  obtain ⟨w0, hw0⟩ : ∃ w_q_, w_q_ = ((w.alloc (.cells (agC A c s g).toArray 35)).alloc (.cells (cmdL q).toArray 41)).alloc (.cells z32 35) := ⟨_, rfl⟩
  rw [← hw0]
  have hin := in_acr w (agC A c s g) (cmdL q)
  rw [← hw0] at hin
  obtain ⟨r1, rq, r2, b0, z0⟩ := hin
  have R1 := Lib.hid r1
  have RQ := Lib.hid rq
  have R2 := Lib.hid r2
  have B0 := Lib.hid b0
  clear hw0 r1 r2 b0 rq
  go_wp2_with (refine wpList_load_var rfl 35 (.tmp 2) rfl (w.heap.size) rfl _ _ 32 R1.out Try.underlying35 rfl size_32 HCO.out ?_)
  with_reducible refine (ko.out _ B0.out).mono ?_
  rintro e1 w1 ⟨A1, c1, s1, rfl, i1, hb1⟩
  have I1 := Lib.hid i1
  have HC := Lib.hid i1.C32
  replace R1 := Lib.hid (R1.out.to hb1)
  replace RQ := Lib.hid (RQ.out.to hb1)
  replace R2 := Lib.hid (R2.out.to hb1)
  have B1 := Lib.hid (B0.out.trans (hb1.mono B0.out.size))
  have hz1 := hb1.size
  clear hb1 i1 ko
  go_upto_region 2 with (refine wpList_store_var rfl 35 (.tmp 2) (.tmp 9) rfl (w.heap.size) _ (agC A1 c1 s1 g) 32 rfl rfl R1.out size_32 (by first | rfl | exact HCO.out) HC.out (agC_one _) ?_; intro w_2 r_2 k_2; have R_2 := Lib.hid r_2; have K_2 := Lib.hid k_2; clear r_2 k_2)
  replace R2 := Lib.hid (R2.out.only K_2.out (by omega))
  replace RQ := Lib.hid (RQ.out.only K_2.out (by omega))
  have I2 := Lib.hid (I1.out.only K_2.out (by omega))
  have B2 := Lib.hid (K_2.out.to B1.out (Nat.le_refl _))
  have hz2 : w0.heap.size ≤ w_2.heap.size := by rw [K_2.out.size]; exact hz1
  clear B1 I1 K_2 R1 B0 hz1
  have q1 : w_2.cell? ⟨w.heap.size + 1, 1, none⟩ = some (.int .u8 2) := (RQ.out.cells 1).trans (by show some (Value.int .u8 (q.v : Int)) = _; rw [HV.out]; rfl)
  have hz2' : w.heap.size + 1 < w_2.heap.size := by omega
  simp only [Act.put]
  go_cut [6, 7] (fun p v wx => ∃ X : Nat, p = .pointer (some ⟨X, 0, none⟩) ∧ v = .bool true ∧ Hid (RowAt wx X 91 [fnV 89, fnV 90] ∧ Below w_2.heap.size w_2 wx))
  case first =>
    refine wp_region_held_drew (S := (fun w' => w'.cell? ⟨w.heap.size + 1, 1, none⟩ = some (.int .u8 2))) (by kernel_rfl) ?_ (fun hHeld => ?_)
    · exact q1
    refine takeD (i := 1) (oi := _) (v := ?vv186) (d := some 12) rfl (by kernel_rfl) (by kernel_rfl) (by kernel_rfl) (by kernel_rfl) (fun _ _ _ h => h) (Or.inl ⟨by kernel_rfl, ?_⟩) (by assumption) ?_
    rotate_left 1
    · intro W_ hSw; (try dsimp only at hSw); go_simp; (first | done | with_reducible rfl)
    try simp only [Act.put, List.setIfInBounds_toArray, List.set_cons_zero, List.set_cons_succ]
    refine takeD (i := 2) (oi := _) (v := ?vv187) (d := some 13) rfl (by kernel_rfl) (by kernel_rfl) (by kernel_rfl) (by kernel_rfl) (fun _ _ _ h => h) (Or.inl ⟨by kernel_rfl, ?_⟩) (by assumption) ?_
    rotate_left 1
    · intro W_ hSw; (try dsimp only at hSw); go_simp; (first | done | with_reducible rfl)
    try simp only [Act.put, List.setIfInBounds_toArray, List.set_cons_zero, List.set_cons_succ]
    refine wpAnyH_ready (rs := [0, 7]) (by kernel_rfl) (by simp) ?_
    refine AllReadyH.cons (o := _) rfl (fun K hK => ?_) (AllReadyH.cons (o := _) rfl (fun K hK => ?_) AllReadyH.nil)
    · go_simp
      (go_at_call 66; (with_reducible refine (effects_any _).mono ?_); rintro e2 w3 ⟨rfl, m3, hb3⟩; have hb3a : Below w_2.heap.size w_2 w3 := (Below.refl _ _).drew.trans (hb3.mono (Nat.le_refl _)); have m3' : MapIs w3 w_2.heap.size effL 4 := m3; have hlk := look_2 m3'; have hlk4 := look_2 (m3'.to (bel_alloc (Below.refl _ _) (.cells #[.nilFunc, .nilFunc] 91))); have q13 := (hb3a.cell (p := ⟨w.heap.size + 1, 1, none⟩) hz2').trans q1; clear m3)
      go_wp2_with fail
      refine hK.out _ _ ?_ (fun hHeld => ?_)
      · exact q13
      clear hK K
      try simp only [Act.put, List.setIfInBounds_toArray, List.set_cons_zero, List.set_cons_succ]
      have hqX := cell_al' (.cells #[.nilFunc, .nilFunc] 91) q13
      have RX := RowAt.new w3 91 [.nilFunc, .nilFunc]
      have hbX : Below w_2.heap.size w_2 (w3.alloc (.cells #[.nilFunc, .nilFunc] 91)) := bel_alloc hb3a _
      have hXle := hb3a.size
      have hXne : w.heap.size + 1 ≠ w3.heap.size := by omega
      refine wpAnyH_ready (rs := [3, 7]) (by kernel_rfl) (by simp) ?_
      refine AllReadyH.cons (o := _) rfl (fun K hK => ?_) (AllReadyH.cons (o := _) rfl (fun K hK => ?_) AllReadyH.nil)
      · go_simp
        refine hK.out _ _ ?_ (fun hHeld => ?_)
        · exact q13
        clear hK K
        try simp only [Act.put]
        try simp only [List.setIfInBounds_toArray]
        try simp only [List.set_cons_succ]
        try simp only [List.set_cons_zero]
        refine takeD (i := 4) (oi := _) (v := ?vv188) (d := some 10) rfl (by kernel_rfl) (by kernel_rfl) (by kernel_rfl) (by kernel_rfl) (fun _ _ _ h => h) (Or.inl ⟨by kernel_rfl, ?_⟩) (by assumption) ?_
        rotate_left 1
        · intro W_ hSw; (try dsimp only at hSw); go_simp; (first | done | with_reducible rfl)
        try simp only [Act.put, List.setIfInBounds_toArray, List.set_cons_zero, List.set_cons_succ]
        refine takeD (i := 5) (oi := _) (v := ?vv189) (d := some 15) rfl (by kernel_rfl) (by kernel_rfl) (by kernel_rfl) (by kernel_rfl) (fun _ _ _ h => h) (Or.inl ⟨by kernel_rfl, ?_⟩) (by assumption) ?_
        rotate_left 1
        · intro W_ hSw; (try dsimp only at hSw); go_simp; (first | done | with_reducible rfl)
        try simp only [Act.put, List.setIfInBounds_toArray, List.set_cons_zero, List.set_cons_succ]
        refine takeD (i := 6) (oi := _) (v := ?vv190) (d := some 16) rfl (by kernel_rfl) (by kernel_rfl) (by kernel_rfl) (by kernel_rfl) (fun _ _ _ h => h) (Or.inl ⟨by kernel_rfl, ?_⟩) (by assumption) ?_
        rotate_left 1
        · intro W_ hSw; (try dsimp only at hSw); go_simp; (first | done | with_reducible rfl)
        try simp only [Act.put, List.setIfInBounds_toArray, List.set_cons_zero, List.set_cons_succ]
        refine wpAnyH_ready (rs := [7]) (by kernel_rfl) (by simp) ?_
        refine AllReadyH.cons (o := _) rfl (fun K hK => ?_) AllReadyH.nil
        go_simp
        refine hK.out _ _ ?_ (fun hHeld => ?_)
        · exact hqX
        clear hK K
        try simp only [Act.put]
        try simp only [List.setIfInBounds_toArray]
        try simp only [List.set_cons_succ]
        try simp only [List.set_cons_zero]
        refine wpAnyH_ready (rs := [8]) (by kernel_rfl) (by simp) ?_
        refine AllReadyH.cons (o := _) rfl (fun K hK => ?_) AllReadyH.nil
        (refine step_store_var rfl 91 (.tmp 6) (.tmp 15) rfl _ [.nilFunc, .nilFunc] [fnV 89, fnV 90] 2 rfl rfl RX size_effect rfl rfl (one_ab rfl rfl) ?_)
        intro w5 r5 k5
        go_simp
        refine hK.out _ _ ?_ (fun hHeld => ?_)
        · exact (k5.cell (p := ⟨w.heap.size + 1, 1, none⟩) hXne).trans hqX
        clear hK K
        try simp only [Act.put, List.setIfInBounds_toArray, List.set_cons_zero, List.set_cons_succ]
        refine takeD (i := 9) (oi := _) (v := ?vv191) (d := some 7) rfl (by kernel_rfl) (by kernel_rfl) (by kernel_rfl) (by kernel_rfl) (fun _ _ _ h => h) (Or.inl ⟨by kernel_rfl, ?_⟩) (by assumption) ?_
        rotate_left 1
        · intro W_ hSw; (try dsimp only at hSw); go_simp; (first | done | with_reducible rfl)
        try simp only [Act.put, List.setIfInBounds_toArray, List.set_cons_zero, List.set_cons_succ]
        refine wpAnyH_done (by kernel_rfl) ?_ _
        go_wp2
        go_meet
        case rel => exact ⟨_, rfl, rfl, Lib.hid ⟨r5, hbX.trans (k5.below hXle)⟩⟩
      · go_simp
        refine hK.out _ _ ?_ (fun hHeld => ?_)
        · exact hqX
        clear hK K
        try simp only [Act.put]
        try simp only [List.setIfInBounds_toArray]
        try simp only [List.set_cons_succ]
        try simp only [List.set_cons_zero]
        refine wpAnyH_ready (rs := [3]) (by kernel_rfl) (by simp) ?_
        refine AllReadyH.cons (o := _) rfl (fun K hK => ?_) AllReadyH.nil
        go_simp
        refine hK.out _ _ ?_ (fun hHeld => ?_)
        · exact hqX
        clear hK K
        try simp only [Act.put]
        try simp only [List.setIfInBounds_toArray]
        try simp only [List.set_cons_succ]
        try simp only [List.set_cons_zero]
        refine takeD (i := 4) (oi := _) (v := ?vv192) (d := some 10) rfl (by kernel_rfl) (by kernel_rfl) (by kernel_rfl) (by kernel_rfl) (fun _ _ _ h => h) (Or.inl ⟨by kernel_rfl, ?_⟩) (by assumption) ?_
        rotate_left 1
        · intro W_ hSw; (try dsimp only at hSw); go_simp; (first | done | with_reducible rfl)
        try simp only [Act.put, List.setIfInBounds_toArray, List.set_cons_zero, List.set_cons_succ]
        refine takeD (i := 5) (oi := _) (v := ?vv193) (d := some 15) rfl (by kernel_rfl) (by kernel_rfl) (by kernel_rfl) (by kernel_rfl) (fun _ _ _ h => h) (Or.inl ⟨by kernel_rfl, ?_⟩) (by assumption) ?_
        rotate_left 1
        · intro W_ hSw; (try dsimp only at hSw); go_simp; (first | done | with_reducible rfl)
        try simp only [Act.put, List.setIfInBounds_toArray, List.set_cons_zero, List.set_cons_succ]
        refine takeD (i := 6) (oi := _) (v := ?vv194) (d := some 16) rfl (by kernel_rfl) (by kernel_rfl) (by kernel_rfl) (by kernel_rfl) (fun _ _ _ h => h) (Or.inl ⟨by kernel_rfl, ?_⟩) (by assumption) ?_
        rotate_left 1
        · intro W_ hSw; (try dsimp only at hSw); go_simp; (first | done | with_reducible rfl)
        try simp only [Act.put, List.setIfInBounds_toArray, List.set_cons_zero, List.set_cons_succ]
        refine wpAnyH_ready (rs := [8]) (by kernel_rfl) (by simp) ?_
        refine AllReadyH.cons (o := _) rfl (fun K hK => ?_) AllReadyH.nil
        (refine step_store_var rfl 91 (.tmp 6) (.tmp 15) rfl _ [.nilFunc, .nilFunc] [fnV 89, fnV 90] 2 rfl rfl RX size_effect rfl rfl (one_ab rfl rfl) ?_)
        intro w5 r5 k5
        go_simp
        refine hK.out _ _ ?_ (fun hHeld => ?_)
        · exact (k5.cell (p := ⟨w.heap.size + 1, 1, none⟩) hXne).trans hqX
        clear hK K
        try simp only [Act.put, List.setIfInBounds_toArray, List.set_cons_zero, List.set_cons_succ]
        refine takeD (i := 9) (oi := _) (v := ?vv195) (d := some 7) rfl (by kernel_rfl) (by kernel_rfl) (by kernel_rfl) (by kernel_rfl) (fun _ _ _ h => h) (Or.inl ⟨by kernel_rfl, ?_⟩) (by assumption) ?_
        rotate_left 1
        · intro W_ hSw; (try dsimp only at hSw); go_simp; (first | done | with_reducible rfl)
        try simp only [Act.put, List.setIfInBounds_toArray, List.set_cons_zero, List.set_cons_succ]
        refine wpAnyH_done (by kernel_rfl) ?_ _
        go_wp2
        go_meet
        case rel => exact ⟨_, rfl, rfl, Lib.hid ⟨r5, hbX.trans (k5.below hXle)⟩⟩
    · go_simp
      refine hK.out _ _ ?_ (fun hHeld => ?_)
      · exact cell_al' _ q1
      clear hK K
      try simp only [Act.put]
      try simp only [List.setIfInBounds_toArray]
      try simp only [List.set_cons_succ]
      try simp only [List.set_cons_zero]
      have hba : Below w_2.heap.size w_2 (w_2.alloc (.cells #[.nilFunc, .nilFunc] 91)) := bel_alloc (Below.refl _ _) _
      have RA := RowAt.new w_2 91 [.nilFunc, .nilFunc]
      refine wpAnyH_ready (rs := [0]) (by kernel_rfl) (by simp) ?_
      refine AllReadyH.cons (o := _) rfl (fun K hK => ?_) AllReadyH.nil
      go_simp
      (go_at_call 66; (with_reducible refine (effects_any _).mono ?_); rintro e2 w3 ⟨rfl, m3, hb3⟩; have hb3a : Below (w_2.alloc (.cells #[.nilFunc, .nilFunc] 91)).heap.size (w_2.alloc (.cells #[.nilFunc, .nilFunc] 91)) w3 := (Below.refl _ _).drew.trans (hb3.mono (Nat.le_refl _)); have RX := RA.to hb3a; have hbX : Below w_2.heap.size w_2 w3 := hba.trans (hb3a.mono hba.size); have m3' : MapIs w3 (w_2.heap.size + 1) effL 4 := (by simpa using m3); have hlk := look_2 m3'; have hqX := (hbX.cell (p := ⟨w.heap.size + 1, 1, none⟩) hz2').trans q1; clear m3)
      go_wp2_with fail
      refine hK.out _ _ ?_ (fun hHeld => ?_)
      · exact hqX
      clear hK K
      try simp only [Act.put, List.setIfInBounds_toArray, List.set_cons_zero, List.set_cons_succ]
      have hXle : w_2.heap.size ≤ w_2.heap.size := Nat.le_refl _
      have hXne : w.heap.size + 1 ≠ w_2.heap.size := by omega
      refine wpAnyH_ready (rs := [3]) (by kernel_rfl) (by simp) ?_
      refine AllReadyH.cons (o := _) rfl (fun K hK => ?_) AllReadyH.nil
      go_simp
      refine hK.out _ _ ?_ (fun hHeld => ?_)
      · exact hqX
      clear hK K
      try simp only [Act.put]
      try simp only [List.setIfInBounds_toArray]
      try simp only [List.set_cons_succ]
      try simp only [List.set_cons_zero]
      refine takeD (i := 4) (oi := _) (v := ?vv196) (d := some 10) rfl (by kernel_rfl) (by kernel_rfl) (by kernel_rfl) (by kernel_rfl) (fun _ _ _ h => h) (Or.inl ⟨by kernel_rfl, ?_⟩) (by assumption) ?_
      rotate_left 1
      · intro W_ hSw; (try dsimp only at hSw); go_simp; (first | done | with_reducible rfl)
      try simp only [Act.put, List.setIfInBounds_toArray, List.set_cons_zero, List.set_cons_succ]
      refine takeD (i := 5) (oi := _) (v := ?vv197) (d := some 15) rfl (by kernel_rfl) (by kernel_rfl) (by kernel_rfl) (by kernel_rfl) (fun _ _ _ h => h) (Or.inl ⟨by kernel_rfl, ?_⟩) (by assumption) ?_
      rotate_left 1
      · intro W_ hSw; (try dsimp only at hSw); go_simp; (first | done | with_reducible rfl)
      try simp only [Act.put, List.setIfInBounds_toArray, List.set_cons_zero, List.set_cons_succ]
      refine takeD (i := 6) (oi := _) (v := ?vv198) (d := some 16) rfl (by kernel_rfl) (by kernel_rfl) (by kernel_rfl) (by kernel_rfl) (fun _ _ _ h => h) (Or.inl ⟨by kernel_rfl, ?_⟩) (by assumption) ?_
      rotate_left 1
      · intro W_ hSw; (try dsimp only at hSw); go_simp; (first | done | with_reducible rfl)
      try simp only [Act.put, List.setIfInBounds_toArray, List.set_cons_zero, List.set_cons_succ]
      refine wpAnyH_ready (rs := [8]) (by kernel_rfl) (by simp) ?_
      refine AllReadyH.cons (o := _) rfl (fun K hK => ?_) AllReadyH.nil
      (refine step_store_var rfl 91 (.tmp 6) (.tmp 15) rfl _ [.nilFunc, .nilFunc] [fnV 89, fnV 90] 2 rfl rfl RX size_effect rfl rfl (one_ab rfl rfl) ?_)
      intro w5 r5 k5
      go_simp
      refine hK.out _ _ ?_ (fun hHeld => ?_)
      · exact (k5.cell (p := ⟨w.heap.size + 1, 1, none⟩) hXne).trans hqX
      clear hK K
      try simp only [Act.put, List.setIfInBounds_toArray, List.set_cons_zero, List.set_cons_succ]
      refine takeD (i := 9) (oi := _) (v := ?vv199) (d := some 7) rfl (by kernel_rfl) (by kernel_rfl) (by kernel_rfl) (by kernel_rfl) (fun _ _ _ h => h) (Or.inl ⟨by kernel_rfl, ?_⟩) (by assumption) ?_
      rotate_left 1
      · intro W_ hSw; (try dsimp only at hSw); go_simp; (first | done | with_reducible rfl)
      try simp only [Act.put, List.setIfInBounds_toArray, List.set_cons_zero, List.set_cons_succ]
      refine wpAnyH_done (by kernel_rfl) ?_ _
      go_wp2
      go_meet
      case rel => exact ⟨_, rfl, rfl, Lib.hid ⟨r5, hbX.trans (k5.below hXle)⟩⟩
  case rest =>
    obtain ⟨X, rfl, rfl, HE⟩ := hcut
    have RE := Lib.hid HE.out.1
    replace R_2 := Lib.hid (R_2.out.to HE.out.2)
    replace RQ := Lib.hid (RQ.out.to HE.out.2)
    replace R2 := Lib.hid (R2.out.to HE.out.2)
    replace I2 := Lib.hid (I2.out.to HE.out.2)
    replace B2 := Lib.hid (B2.out.trans (HE.out.2.mono B2.out.size))
    have hz3 : w0.heap.size ≤ wc.heap.size := Nat.le_trans hz2 HE.out.2.size
    clear HE q1 hz2 hz2'
    rename World => wz
    have q0 : wz.cell? ⟨w.heap.size + 1, 0, none⟩ = some (.int .u16 (q.ow : Int)) := RQ.out.cells 0
    have q2 : wz.cell? ⟨w.heap.size + 1, 2, none⟩ = some (.int .u32 (q.tx : Int)) := RQ.out.cells 2
    by_cases h5 : q.ow = 0
    · have g5 : ((q.ow : Int) == 0) = true := by simp [h5]
      obtain rfl : (g, 2) = XX := by rw [← HX.out]; exact (doit_arg (.inl h5)).symm
      clear h5
      go_upto_region 4 with fail
      clear q0 q2
      go_wp2_with (first | (refine wpList_load_var rfl 35 (.tmp 2) rfl (w.heap.size) rfl _ _ 32 R_2.out Try.underlying35 rfl size_32 HC.out ?_) | (refine wpList_store_var rfl 35 (.tmp 4) (.tmp 29) rfl (w.heap.size + 2) _ (agC A1 c1 s1 g) 32 rfl rfl R2.out size_32 (by first | rfl | exact HCO.out) HC.out (agC_one _) ?_; intro w_5 r_5 k_5; have R_5 := Lib.hid r_5; have K_5 := Lib.hid k_5; clear r_5 k_5))
      exact bodyPost_ret (results_cell_tmp rfl _ _ (w.heap.size + 2) 35 _ (0, 0) _ rfl R_5.out Try.underlying35 rfl (by rw [size_32, List.size_toArray, HC.out])) rfl ⟨A1, c1, s1, rfl, (I2.out.only K_5.out (by omega)).more (by omega), K_5.out.to B2.out (by omega)⟩
    have g5 : ((q.ow : Int) == 0) = false := beq_eq_false_iff_ne.2 (by omega)
    by_cases h6 : q.tx = 0
    · have g6 : ((q.tx : Int) == 0) = true := by simp [h6]
      obtain rfl : (g, 2) = XX := by rw [← HX.out]; exact (doit_arg (.inr (.inl h6))).symm
      clear h5 h6
      go_upto_region 4 with fail
      clear q0 q2
      go_wp2_with (first | (refine wpList_load_var rfl 35 (.tmp 2) rfl (w.heap.size) rfl _ _ 32 R_2.out Try.underlying35 rfl size_32 HC.out ?_) | (refine wpList_store_var rfl 35 (.tmp 4) (.tmp 29) rfl (w.heap.size + 2) _ (agC A1 c1 s1 g) 32 rfl rfl R2.out size_32 (by first | rfl | exact HCO.out) HC.out (agC_one _) ?_; intro w_5 r_5 k_5; have R_5 := Lib.hid r_5; have K_5 := Lib.hid k_5; clear r_5 k_5))
      exact bodyPost_ret (results_cell_tmp rfl _ _ (w.heap.size + 2) 35 _ (0, 0) _ rfl R_5.out Try.underlying35 rfl (by rw [size_32, List.size_toArray, HC.out])) rfl ⟨A1, c1, s1, rfl, (I2.out.only K_5.out (by omega)).more (by omega), K_5.out.to B2.out (by omega)⟩
    have g6 : ((q.tx : Int) == 0) = false := beq_eq_false_iff_ne.2 (by omega)
    have h7 : ¬ (q.ow = 0 ∨ q.tx = 0 ∨ q.v < 1 ∨ 4 < q.v) := by have := HV.out; omega
    go_upto_region 5 with fail
    obtain ⟨o, ho⟩ : ∃ o, decide (Ls.free g.l = false ∧ g.l.o ≠ q.ow) = o := ⟨_, rfl⟩
    have ka := Lib.hid (agothers_any wz I2.out q.ow o ho)
    have HO := Lib.hid ho
    clear ho
    go_wp2_with (refine wpList_load_var rfl 35 (.tmp 2) rfl (w.heap.size) rfl _ _ 32 R_2.out Try.underlying35 rfl size_32 HC.out ?_)
    with_reducible refine (ka.out).mono ?_
    rintro e4 w4 ⟨rfl, hb4⟩
    replace RE := Lib.hid (RE.out.to hb4)
    replace R_2 := Lib.hid (R_2.out.to hb4)
    replace RQ := Lib.hid (RQ.out.to hb4)
    replace R2 := Lib.hid (R2.out.to hb4)
    replace I2 := Lib.hid (I2.out.to hb4)
    replace B2 := Lib.hid (B2.out.trans (hb4.mono B2.out.size))
    replace hz3 := Nat.le_trans hz3 hb4.size
    clear hb4 q0 q2 ka wz
    rename World => wz
    cases o
    rotate_left
    · obtain rfl : (g, 22) = XX := by
        rw [← HX.out]
        refine (doit_owned h7 ?_).symm
        have := of_decide_eq_true HO.out
        rw [HR.out.free_is] at this
        exact ⟨of_decide_eq_false this.1, this.2⟩
      clear h5 h6 h7
      go_upto_region 6 with fail
      go_wp2_with (first | (refine wpList_load_var rfl 35 (.tmp 2) rfl (w.heap.size) rfl _ _ 32 R_2.out Try.underlying35 rfl size_32 HC.out ?_) | (refine wpList_store_var rfl 35 (.tmp 4) (.tmp 34) rfl (w.heap.size + 2) _ (agC A1 c1 s1 g) 32 rfl rfl R2.out size_32 (by first | rfl | exact HCO.out) HC.out (agC_one _) ?_; intro w_5 r_5 k_5; have R_5 := Lib.hid r_5; have K_5 := Lib.hid k_5; clear r_5 k_5))
      exact bodyPost_ret (results_cell_tmp rfl _ _ (w.heap.size + 2) 35 _ (0, 0) _ rfl R_5.out Try.underlying35 rfl (by rw [size_32, List.size_toArray, HC.out])) rfl ⟨A1, c1, s1, rfl, (I2.out.only K_5.out (by omega)).more (by omega), K_5.out.to B2.out (by omega)⟩
    have h8 : ¬ (g.l.o ≠ 0 ∧ g.l.o ≠ q.ow) := fun hh => by
      have := of_decide_eq_false HO.out
      rw [HR.out.free_is] at this
      exact this ⟨decide_eq_false hh.1, hh.2⟩
    obtain ⟨r, hrr⟩ : ∃ r, decide (¬ (g.ph = 2 ∧ g.tx = q.tx) ∧ (¬ (g.ph = 1 ∧ g.tx = q.tx) ∨ ¬ SSW g.S q.n q.ck)) = r := ⟨_, rfl⟩
    have kn : Hid (∀ W, AgIs A1 c1 s1 g W w0.heap.size → Calls Try.prog 89 #[.agg (agC A1 c1 s1 g).toArray, .agg (cmdL q).toArray] W fun e w' => e = .returned (.bool r) ∧ Below W.heap.size W w') := Lib.hid (fun W hW => agnoPrepare_any W hW q r hq hrr)
    have HN := Lib.hid hrr
    clear hrr
    have x0 : wz.cell? ⟨X, 0, none⟩ = some (fnV 89) := RE.out.cells 0
    have qlt : w.heap.size + 1 < (wz).heap.size := RQ.out.lt
    have qlu : w.heap.size + 1 < (wz).heap.size + 1 := Nat.lt_succ_of_lt RQ.out.lt
    have q0 : (wz).cell? ⟨w.heap.size + 1, 0, none⟩ = some (.int .u16 (q.ow : Int)) := RQ.out.cells 0
    have qz0 : (wz).frozen? ⟨w.heap.size + 1, 0, none⟩ = false := RQ.out.frozen 0
    have q1 : (wz).cell? ⟨w.heap.size + 1, 1, none⟩ = some (.int .u8 (q.v : Int)) := RQ.out.cells 1
    have qz1 : (wz).frozen? ⟨w.heap.size + 1, 1, none⟩ = false := RQ.out.frozen 1
    have q2 : (wz).cell? ⟨w.heap.size + 1, 2, none⟩ = some (.int .u32 (q.tx : Int)) := RQ.out.cells 2
    have qz2 : (wz).frozen? ⟨w.heap.size + 1, 2, none⟩ = false := RQ.out.frozen 2
    have q3 : (wz).cell? ⟨w.heap.size + 1, 3, none⟩ = some (.int .u16 (q.n : Int)) := RQ.out.cells 3
    have qz3 : (wz).frozen? ⟨w.heap.size + 1, 3, none⟩ = false := RQ.out.frozen 3
    have q4 : (wz).cell? ⟨w.heap.size + 1, 4, none⟩ = some (.int .u32 (q.ck : Int)) := RQ.out.cells 4
    have qz4 : (wz).frozen? ⟨w.heap.size + 1, 4, none⟩ = false := RQ.out.frozen 4
    clear h5 h6
    go_wp2_with (refine wpList_load_var rfl 35 (.tmp 2) rfl (w.heap.size) rfl _ _ 32 R_2.out Try.underlying35 rfl size_32 HC.out ?_)
    with_reducible refine (kn.out _ I2.out).mono ?_
    rintro e5 w5 ⟨rfl, hb5⟩
    replace RE := Lib.hid (RE.out.to hb5)
    replace R_2 := Lib.hid (R_2.out.to hb5)
    replace RQ := Lib.hid (RQ.out.to hb5)
    replace R2 := Lib.hid (R2.out.to hb5)
    replace I2 := Lib.hid (I2.out.to hb5)
    replace B2 := Lib.hid (B2.out.trans (hb5.mono B2.out.size))
    replace hz3 := Nat.le_trans hz3 hb5.size
    clear hb5 q0 q1 q2 q3 q4 qz0 qz1 qz2 qz3 qz4 qlt qlu x0 wz kn
    rename World => wz
    cases r
    rotate_left
    · obtain rfl : (g, 23) = XX := by
        rw [← HX.out, doit_2 h7 h8 HV.out]
        have := of_decide_eq_true HN.out
        rw [if_neg this.1, if_pos ?_]
        by_cases y : g.ph = 1 ∧ g.tx = q.tx
        · rcases this.2 with z | z
          · exact absurd y z
          · exact .inr (.inr z)
        · omega
      clear h7 h8
      go_upto_region 8 with fail
      go_wp2_with (first | (refine wpList_load_var rfl 35 (.tmp 2) rfl (w.heap.size) rfl _ _ 32 R_2.out Try.underlying35 rfl size_32 HC.out ?_) | (refine wpList_store_var rfl 35 (.tmp 4) (.tmp 40) rfl (w.heap.size + 2) _ (agC A1 c1 s1 g) 32 rfl rfl R2.out size_32 (by first | rfl | exact HCO.out) HC.out (agC_one _) ?_; intro w_5 r_5 k_5; have R_5 := Lib.hid r_5; have K_5 := Lib.hid k_5; clear r_5 k_5))
      exact bodyPost_ret (results_cell_tmp rfl _ _ (w.heap.size + 2) 35 _ (0, 0) _ rfl R_5.out Try.underlying35 rfl (by rw [size_32, List.size_toArray, HC.out])) rfl ⟨A1, c1, s1, rfl, (I2.out.only K_5.out (by omega)).more (by omega), K_5.out.to B2.out (by omega)⟩
    have h9 : ¬ (¬ (g.ph = 2 ∧ g.tx = q.tx) ∧ (¬ (g.ph = 1 ∧ g.tx = q.tx) ∨ ¬ SSW g.S q.n q.ck)) := of_decide_eq_false HN.out
    have h10 : XX.2 = 0 := by
      rw [← HX.out, doit_2 h7 h8 HV.out]; by_cases x : g.ph = 2 ∧ g.tx = q.tx
      · rw [if_pos x]
      · rw [if_neg x, if_neg ?_]
        intro hh
        refine h9 ⟨x, ?_⟩
        by_cases y : g.ph = 1 ∧ g.tx = q.tx
        · refine .inr ?_
          rcases hh with hh | hh | hh
          · omega
          · omega
          · exact hh
        · exact .inl y
    obtain ⟨X1, X2⟩ := XX
    simp only at h10
    subst h10
    have hx1 : (g.doit q).1 = X1 := by rw [HX.out]
    have kd := Lib.hid (fun W (hW : AgIs A1 c1 s1 g W w0.heap.size) (hB : w0.heap.size ≤ W.heap.size) => do_2 hW hB HR.out hq HV.out h7 h8 h9)
    rw [hx1] at kd
    clear hx1 h7 h8 h9 HX
    have x1 : wz.cell? ⟨X, 1, none⟩ = some (fnV 90) := RE.out.cells 1
    have qlt : w.heap.size + 1 < (wz).heap.size := RQ.out.lt
    have qlu : w.heap.size + 1 < (wz).heap.size + 1 := Nat.lt_succ_of_lt RQ.out.lt
    have q0 : (wz).cell? ⟨w.heap.size + 1, 0, none⟩ = some (.int .u16 (q.ow : Int)) := RQ.out.cells 0
    have qz0 : (wz).frozen? ⟨w.heap.size + 1, 0, none⟩ = false := RQ.out.frozen 0
    have q1 : (wz).cell? ⟨w.heap.size + 1, 1, none⟩ = some (.int .u8 (q.v : Int)) := RQ.out.cells 1
    have qz1 : (wz).frozen? ⟨w.heap.size + 1, 1, none⟩ = false := RQ.out.frozen 1
    have q2 : (wz).cell? ⟨w.heap.size + 1, 2, none⟩ = some (.int .u32 (q.tx : Int)) := RQ.out.cells 2
    have qz2 : (wz).frozen? ⟨w.heap.size + 1, 2, none⟩ = false := RQ.out.frozen 2
    have q3 : (wz).cell? ⟨w.heap.size + 1, 3, none⟩ = some (.int .u16 (q.n : Int)) := RQ.out.cells 3
    have qz3 : (wz).frozen? ⟨w.heap.size + 1, 3, none⟩ = false := RQ.out.frozen 3
    have q4 : (wz).cell? ⟨w.heap.size + 1, 4, none⟩ = some (.int .u32 (q.ck : Int)) := RQ.out.cells 4
    have qz4 : (wz).frozen? ⟨w.heap.size + 1, 4, none⟩ = false := RQ.out.frozen 4
    go_wp2_with (refine wpList_load_var rfl 35 (.tmp 2) rfl (w.heap.size) rfl _ _ 32 R_2.out Try.underlying35 rfl size_32 HC.out ?_)
    with_reducible refine (kd.out _ I2.out hz3).mono ?_
    rintro e6 w6 ⟨A6, c6, s6, rfl, i6, hb6⟩
    replace R2 := Lib.hid (R2.out.to hb6)
    have I6 := Lib.hid i6
    have HC6 := Lib.hid i6.C32
    have B6 := Lib.hid (B2.out.trans (hb6.mono B2.out.size))
    clear hb6 i6 q0 q1 q2 q3 q4 qz0 qz1 qz2 qz3 qz4 qlt qlu x1 kd B2 I2 RE RQ R_2
    go_wp2_with (refine wpList_store_var rfl 35 (.tmp 4) (.tmp 45) rfl (w.heap.size + 2) _ (agC A6 c6 s6 X1) 32 rfl rfl R2.out size_32 (by first | rfl | exact HCO.out) HC6.out (agC_one _) ?_; intro w_5 r_5 k_5; have R_5 := Lib.hid r_5; have K_5 := Lib.hid k_5; clear r_5 k_5)
    exact bodyPost_ret (results_cell_tmp rfl _ _ (w.heap.size + 2) 35 _ (0, 0) _ rfl R_5.out Try.underlying35 rfl (by rw [size_32, List.size_toArray, HC6.out])) rfl ⟨A6, c6, s6, rfl, (I6.out.only K_5.out (by omega)).more (by omega), K_5.out.to B6.out (by omega)⟩
end
end Go.Proofs.Ytajbghjjpebndaa
