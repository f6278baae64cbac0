/- saucierref20.many, Status. -/
import Derived.Test.YtajbghjjpebndaaKRf20a
import Derived.Test.YtajbghjjpebndaaKLeaseR
namespace Go.Proofs.Ytajbghjjpebndaa
set_option maxRecDepth 100000
open Go.RowKit
set_option linter.unusedVariables false
set_option linter.unusedSimpArgs false
attribute [local go_sem] Later.cell Later.frozen
theorem rmany_any {s : Stv} {base tx : Nat} {S : SS} (w : World) (hs : s.Is w base tx S) :
    Calls Try.prog 57 #[.agg s.C.toArray] w fun e w' => e = .returned (.int .i64 ((ssThere S).length : Int)) ∧ Below w.heap.size w w' := by
  have kb := Lib.hid (fun W (hW : Below w.heap.size w W) => rblocks_S W (hs.to hW))
  obtain ⟨m, hm⟩ : ∃ m, (ssThere S).length = m := ⟨_, rfl⟩
  rw [hm]
  have HM := Lib.hid hm
  have H25 : s.C.length = 25 := Stv.C_length hs.ok.lh hs.ok.lb
  have HZ : Hid (s.C.length = 25) := Lib.hid H25
  clear hs hm H25
  go_enter Try.func57, Try.ntmps57
  go_upto_region 1 with fail
  obtain ⟨w0, hw0⟩ : ∃ w_q_, w_q_ = w.alloc (.cells s.C.toArray 33) := ⟨_, rfl⟩
  rw [← hw0]
  have hin := in_s w s.C
  rw [← hw0] at hin
  obtain ⟨r1, b0, z0⟩ := hin
  have R1 := Lib.hid r1
  clear hw0 r1
  go_wp2_with (refine wpList_load_var rfl 33 (.tmp 1) rfl w.heap.size rfl _ _ 25 R1.out Try.underlying33 rfl size_25 HZ.out ?_)
  with_reducible refine (kb.out _ b0).mono ?_
  rintro e2 w2 ⟨A2, c2, bl, rfl, hp, hB, hl, hc, hn, hb2⟩
  have hbm : bl.length = m := by have := congrArg List.length hp; rw [← HM.out, ← this]; simp
  rw [hbm]
  go_wp2
  go_ret
  exact ⟨rfl, b0.trans (hb2.mono b0.size)⟩
set_option maxHeartbeats 1000000 in
theorem rstatus_any {A : Option Addr} {c base : Nat} {s : Stv} {g : Ag} (w : World) (h : AgIs A c s g w base) :
    Calls Try.prog 21 #[.agg (agC A c s g).toArray] w (AwdP (st8 g) w) := by
  obtain ⟨t1, ht1⟩ : ∃ x, g.tx / 65536 = x := ⟨_, rfl⟩
  obtain ⟨t2, ht2⟩ : ∃ x, g.tx % 65536 = x := ⟨_, rfl⟩
  obtain ⟨c1, hc1⟩ : ∃ x, g.la / 65536 = x := ⟨_, rfl⟩
  obtain ⟨c2, hc2⟩ : ∃ x, g.la % 65536 = x := ⟨_, rfl⟩
  obtain ⟨m, hm⟩ : ∃ m, (ssThere g.S).length = m := ⟨_, rfl⟩
  obtain ⟨fr, hfr⟩ : ∃ b, Ls.free g.l = b := ⟨_, rfl⟩
  obtain ⟨ow, how⟩ : ∃ x, (if fr = true then 0 else g.l.o) = x := ⟨_, rfl⟩
  have kf := Lib.hid (fun W => ref_free_any g.l W h.fit)
  rw [hfr] at kf
  have kt := Lib.hid (fun W (hW : Below w.heap.size w W) => rmany_any W (h.st.to hW))
  rw [hm] at kt
  have HST : Hid (st8 g = [ow, g.ph, t1, t2, c1, c2, m, 0]) := Lib.hid (by rw [← ht1, ← ht2, ← hc1, ← hc2, ← how, ← hm, ← hfr]; rfl)
  have hm8 : m ≤ 8 := by have := ssThere_length g.S; rw [h.S8] at this; omega
  have H25 := h.C25
  have HZ : Hid ((Try.prog.info? 33).map (·.size) = some s.C.length) := Lib.hid (by rw [H25]; exact size_25)
  have e1 : (g.tx : Int) / 65536 = (t1 : Int) := by omega
  have e2 : (g.tx : Int) % 65536 = (t2 : Int) := by omega
  have e3 : (g.la : Int) / 65536 = (c1 : Int) := by omega
  have e4 : (g.la : Int) % 65536 = (c2 : Int) := by omega
  have m1 : (g.tx : Int).tmod 65536 = (t2 : Int) := by rw [Int.tmod_eq_emod_of_nonneg (by omega)]; exact e2
  have m2 : (g.la : Int).tmod 65536 = (c2 : Int) := by rw [Int.tmod_eq_emod_of_nonneg (by omega)]; exact e4
  have htx := h.tx
  have hla := h.la
  have b1 := wrap16_in t1 (by omega)
  have b2 := wrap16_in t2 (by omega)
  have b3 := wrap16_in c1 (by omega)
  have b4 := wrap16_in c2 (by omega)
  have b5 := wrap16_in g.ph (by have := h.ph; omega)
  have b6 := wrap16_in m (by omega)
  have v1 := wrap32_in t1 (by omega)
  have v2 := wrap32_in t2 (by omega)
  have v3 := wrap32_in c1 (by omega)
  have v4 := wrap32_in c2 (by omega)
  clear h ht1 ht2 hc1 hc2 hm hfr
  go_enter Try.func21, Try.ntmps21
  go_upto_region 1 with fail
  obtain ⟨w0, hw0⟩ : ∃ w_q_, w_q_ = w.alloc (.cells (agC A c s g).toArray 35) := ⟨_, rfl⟩
  rw [← hw0]
  have r0 : RowAt w0 w.heap.size 35 (agC A c s g) := by rw [hw0]; exact RowAt.new w _ _
  have b0 : Below w.heap.size w w0 := by rw [hw0]; exact bel_alloc (Below.refl _ _) _
  have R0 := Lib.hid r0
  have B0 := Lib.hid b0
  clear hw0 r0 b0
  have alt : w.heap.size < (w0).heap.size := R0.out.lt
  have alu : w.heap.size < (w0).heap.size + 1 := Nat.lt_succ_of_lt R0.out.lt
  have a0 : (w0).cell? ⟨w.heap.size, 0, none⟩ = some (.slice A g.bank.length c) := R0.out.cells 0
  have az0 : (w0).frozen? ⟨w.heap.size, 0, none⟩ = false := R0.out.frozen 0
  have a1 : (w0).cell? ⟨w.heap.size, 1, none⟩ = some (.int .u16 (g.l.o : Int)) := R0.out.cells 1
  have az1 : (w0).frozen? ⟨w.heap.size, 1, none⟩ = false := R0.out.frozen 1
  have a2 : (w0).cell? ⟨w.heap.size, 2, none⟩ = some (.int .i64 g.l.l) := R0.out.cells 2
  have az2 : (w0).frozen? ⟨w.heap.size, 2, none⟩ = false := R0.out.frozen 2
  go_wp2_with fail
  with_reducible refine (kf.out _).mono ?_
  rintro e1 w1 ⟨rfl, hb1⟩
  replace R0 := Lib.hid (R0.out.to hb1)
  replace B0 := Lib.hid (B0.out.trans (hb1.mono B0.out.size))
  clear hb1 kf a0 a1 a2 az0 az1 az2 alt alu
  have a2 : w1.cell? ⟨w.heap.size, 3, none⟩ = some (.int .u8 (g.ph : Int)) := R0.out.cells 3
  have a3 : w1.cell? ⟨w.heap.size, 4, none⟩ = some (.int .u32 (g.tx : Int)) := R0.out.cells 4
  have a4 : w1.cell? ⟨w.heap.size, 5, none⟩ = some (.int .u32 (g.la : Int)) := R0.out.cells 5
  have alt := R0.out.lt
  cases fr
  · obtain rfl : g.l.o = ow := how
    go_upto_region 4 with fail
    refine wp_region_held_drew (S := (fun w' => RowAt w' w.heap.size 35 (agC A c s g) ∧ w'.cell? ⟨w.heap.size, 3, none⟩ = some (.int .u8 (g.ph : Int)) ∧ w'.cell? ⟨w.heap.size, 4, none⟩ = some (.int .u32 (g.tx : Int)) ∧ w'.cell? ⟨w.heap.size, 5, none⟩ = some (.int .u32 (g.la : Int)))) (by kernel_rfl) ?_ (fun hHeld => ?_)
    · exact ⟨R0.out, a2, a3, a4⟩
    refine takeD (i := 0) (oi := _) (v := ?vv1) (d := some 10) rfl (by kernel_rfl) (by kernel_rfl) (by kernel_rfl) (by kernel_rfl) (fun _ _ _ h => h) (Or.inl ⟨by kernel_rfl, ?_⟩) (by assumption) ?_
    rotate_left 1
    · intro W_ hSw; (try dsimp only at hSw); go_simp; (first | done | with_reducible rfl)
    try simp only [Act.put, List.setIfInBounds_toArray, List.set_cons_zero, List.set_cons_succ]
    refine takeD (i := 1) (oi := _) (v := ?vv2) (d := some 11) rfl (by kernel_rfl) (by kernel_rfl) (by kernel_rfl) (by kernel_rfl) (fun _ _ _ h => h) (Or.inl ⟨by kernel_rfl, ?_⟩) (by assumption) ?_
    rotate_left 1
    · intro W_ hSw; (try dsimp only at hSw); go_simp; (first | done | with_reducible rfl)
    try simp only [Act.put, List.setIfInBounds_toArray, List.set_cons_zero, List.set_cons_succ]
    refine takeD (i := 2) (oi := _) (v := ?vv3) (d := some 12) rfl (by kernel_rfl) (by kernel_rfl) (by kernel_rfl) (by kernel_rfl) (fun _ _ _ h => h) (Or.inl ⟨by kernel_rfl, ?_⟩) (by assumption) ?_
    rotate_left 1
    · intro W_ hSw; (try dsimp only at hSw); go_simp; (first | done | with_reducible rfl)
    try simp only [Act.put, List.setIfInBounds_toArray, List.set_cons_zero, List.set_cons_succ]
    refine takeD (i := 3) (oi := _) (v := ?vv4) (d := some 13) rfl (by kernel_rfl) (by kernel_rfl) (by kernel_rfl) (by kernel_rfl) (fun _ _ _ h => h) (Or.inl ⟨by kernel_rfl, ?_⟩) (by assumption) ?_
    rotate_left 1
    · intro W_ hSw; (try dsimp only at hSw); go_simp; (first | done | with_reducible rfl)
    try simp only [Act.put, List.setIfInBounds_toArray, List.set_cons_zero, List.set_cons_succ]
    refine takeD (i := 4) (oi := _) (v := ?vv5) (d := some 14) rfl (by kernel_rfl) (by kernel_rfl) (by kernel_rfl) (by kernel_rfl) (fun _ _ _ h => h) (Or.inl ⟨by kernel_rfl, ?_⟩) (by assumption) ?_
    rotate_left 1
    · intro W_ hSw; (try dsimp only at hSw); go_simp; (first | done | with_reducible rfl)
    try simp only [Act.put, List.setIfInBounds_toArray, List.set_cons_zero, List.set_cons_succ]
    refine takeD (i := 5) (oi := _) (v := ?vv6) (d := some 15) rfl (by kernel_rfl) (by kernel_rfl) (by kernel_rfl) (by kernel_rfl) (fun _ _ _ h => h) (Or.inl ⟨by kernel_rfl, ?_⟩) (by assumption) ?_
    rotate_left 1
    · intro W_ hSw; (try dsimp only at hSw); go_simp; (first | done | with_reducible rfl)
    try simp only [Act.put, List.setIfInBounds_toArray, List.set_cons_zero, List.set_cons_succ]
    refine takeD (i := 6) (oi := _) (v := ?vv7) (d := some 16) rfl (by kernel_rfl) (by kernel_rfl) (by kernel_rfl) (by kernel_rfl) (fun _ _ _ h => h) (Or.inl ⟨by kernel_rfl, ?_⟩) (by assumption) ?_
    rotate_left 1
    · intro W_ hSw; (try dsimp only at hSw); go_simp; (first | done | with_reducible rfl)
    try simp only [Act.put, List.setIfInBounds_toArray, List.set_cons_zero, List.set_cons_succ]
    refine takeD (i := 7) (oi := _) (v := ?vv8) (d := some 17) rfl (by kernel_rfl) (by kernel_rfl) (by kernel_rfl) (by kernel_rfl) (fun _ _ _ h => h) (Or.inl ⟨by kernel_rfl, ?_⟩) (by assumption) ?_
    rotate_left 1
    · intro W_ hSw; (try dsimp only at hSw); go_simp; (first | done | with_reducible rfl)
    try simp only [Act.put, List.setIfInBounds_toArray, List.set_cons_zero, List.set_cons_succ]
    refine takeD (i := 8) (oi := _) (v := ?vv9) (d := some 18) rfl (by kernel_rfl) (by kernel_rfl) (by kernel_rfl) (by kernel_rfl) (fun _ _ _ h => h) (Or.inl ⟨by kernel_rfl, ?_⟩) (by assumption) ?_
    rotate_left 1
    · intro W_ hSw; (try dsimp only at hSw); go_simp; (first | done | with_reducible rfl)
    try simp only [Act.put, List.setIfInBounds_toArray, List.set_cons_zero, List.set_cons_succ]
    refine takeD (i := 9) (oi := _) (v := ?vv10) (d := some 19) rfl (by kernel_rfl) (by kernel_rfl) (by kernel_rfl) (by kernel_rfl) (fun _ _ _ h => h) (Or.inl ⟨by kernel_rfl, ?_⟩) (by assumption) ?_
    rotate_left 1
    · intro W_ hSw; (try dsimp only at hSw); go_simp; (first | done | with_reducible rfl)
    try simp only [Act.put, List.setIfInBounds_toArray, List.set_cons_zero, List.set_cons_succ]
    refine takeD (i := 10) (oi := _) (v := ?vv11) (d := some 20) rfl (by kernel_rfl) (by kernel_rfl) (by kernel_rfl) (by kernel_rfl) (fun _ _ _ h => h) (Or.inl ⟨by kernel_rfl, ?_⟩) (by assumption) ?_
    rotate_left 1
    · intro W_ hSw; (try dsimp only at hSw); go_simp; (first | done | with_reducible rfl)
    try simp only [Act.put, List.setIfInBounds_toArray, List.set_cons_zero, List.set_cons_succ]
    refine takeD (i := 11) (oi := _) (v := ?vv12) (d := some 21) rfl (by kernel_rfl) (by kernel_rfl) (by kernel_rfl) (by kernel_rfl) (fun _ _ _ h => h) (Or.inl ⟨by kernel_rfl, ?_⟩) (by assumption) ?_
    rotate_left 1
    · intro W_ hSw; (try dsimp only at hSw); go_simp; (first | done | with_reducible rfl)
    try simp only [Act.put, List.setIfInBounds_toArray, List.set_cons_zero, List.set_cons_succ]
    refine takeD (i := 12) (oi := _) (v := ?vv13) (d := some 22) rfl (by kernel_rfl) (by kernel_rfl) (by kernel_rfl) (by kernel_rfl) (fun _ _ _ h => h) (Or.inl ⟨by kernel_rfl, ?_⟩) (by assumption) ?_
    rotate_left 1
    · intro W_ hSw; (try dsimp only at hSw); go_simp; (first | done | with_reducible rfl)
    try simp only [Act.put, List.setIfInBounds_toArray, List.set_cons_zero, List.set_cons_succ]
    refine takeD (i := 13) (oi := _) (v := ?vv14) (d := some 23) rfl (by kernel_rfl) (by kernel_rfl) (by kernel_rfl) (by kernel_rfl) (fun _ _ _ h => h) (Or.inl ⟨by kernel_rfl, ?_⟩) (by assumption) ?_
    rotate_left 1
    · intro W_ hSw; (try dsimp only at hSw); go_simp; (first | done | with_reducible rfl)
    try simp only [Act.put, List.setIfInBounds_toArray, List.set_cons_zero, List.set_cons_succ]
    refine takeD (i := 14) (oi := _) (v := ?vv15) (d := some 24) rfl (by kernel_rfl) (by kernel_rfl) (by kernel_rfl) (by kernel_rfl) (fun _ _ _ h => h) (Or.inl ⟨by kernel_rfl, ?_⟩) (by assumption) ?_
    rotate_left 1
    · intro W_ hSw; (try dsimp only at hSw); go_simp; (first | done | with_reducible rfl)
    try simp only [Act.put, List.setIfInBounds_toArray, List.set_cons_zero, List.set_cons_succ]
    refine takeD (i := 15) (oi := _) (v := ?vv16) (d := some 25) rfl (by kernel_rfl) (by kernel_rfl) (by kernel_rfl) (by kernel_rfl) (fun _ _ _ h => h) (Or.inl ⟨by kernel_rfl, ?_⟩) (by assumption) ?_
    rotate_left 1
    · intro W_ hSw; (try dsimp only at hSw); go_simp; (first | done | with_reducible rfl)
    try simp only [Act.put, List.setIfInBounds_toArray, List.set_cons_zero, List.set_cons_succ]
    refine takeD (i := 16) (oi := _) (v := ?vv17) (d := some 26) rfl (by kernel_rfl) (by kernel_rfl) (by kernel_rfl) (by kernel_rfl) (fun _ _ _ h => h) (Or.inl ⟨by kernel_rfl, ?_⟩) (by assumption) ?_
    rotate_left 1
    · intro W_ hSw; (try dsimp only at hSw); go_simp; (first | done | with_reducible rfl)
    try simp only [Act.put, List.setIfInBounds_toArray, List.set_cons_zero, List.set_cons_succ]
    refine takeD (i := 17) (oi := _) (v := ?vv18) (d := some 27) rfl (by kernel_rfl) (by kernel_rfl) (by kernel_rfl) (by kernel_rfl) (fun _ _ _ h => h) (Or.inl ⟨by kernel_rfl, ?_⟩) (by assumption) ?_
    rotate_left 1
    · intro W_ hSw; (try dsimp only at hSw); go_simp; (first | done | with_reducible rfl)
    try simp only [Act.put, List.setIfInBounds_toArray, List.set_cons_zero, List.set_cons_succ]
    refine takeD (i := 18) (oi := _) (v := ?vv19) (d := some 28) rfl (by kernel_rfl) (by kernel_rfl) (by kernel_rfl) (by kernel_rfl) (fun _ _ _ h => h) (Or.inl ⟨by kernel_rfl, ?_⟩) (by assumption) ?_
    rotate_left 1
    · intro W_ hSw; (try dsimp only at hSw); go_simp; (first | done | with_reducible rfl)
    try simp only [Act.put, List.setIfInBounds_toArray, List.set_cons_zero, List.set_cons_succ]
    refine takeD (i := 19) (oi := _) (v := ?vv20) (d := some 29) rfl (by kernel_rfl) (by kernel_rfl) (by kernel_rfl) (by kernel_rfl) (fun _ _ _ h => h) (Or.inl ⟨by kernel_rfl, ?_⟩) (by assumption) ?_
    rotate_left 1
    · intro W_ hSw; (try dsimp only at hSw); go_simp; (first | done | with_reducible rfl)
    try simp only [Act.put, List.setIfInBounds_toArray, List.set_cons_zero, List.set_cons_succ]
    refine takeD (i := 20) (oi := _) (v := ?vv21) (d := some 30) rfl (by kernel_rfl) (by kernel_rfl) (by kernel_rfl) (by kernel_rfl) (fun _ _ _ h => h) (Or.inl ⟨by kernel_rfl, ?_⟩) (by assumption) ?_
    rotate_left 1
    · intro W_ hSw; (try dsimp only at hSw); go_simp; (first | done | with_reducible rfl)
    try simp only [Act.put, List.setIfInBounds_toArray, List.set_cons_zero, List.set_cons_succ]
    refine takeD (i := 21) (oi := _) (v := _) (d := some 31) rfl (by kernel_rfl) (by kernel_rfl) (by kernel_rfl) (by kernel_rfl) (fun _ _ _ h => h) (yieldsIf_load_mid (by kernel_rfl) 33 (.tmp 30) (by kernel_rfl) w.heap.size 6 (by kernel_rfl) s.C _ (fun W h => h.1.stage H25) Try.underlying33 rfl HZ.out) (by assumption) ?_
    try simp only [Act.put, List.setIfInBounds_toArray, List.set_cons_zero, List.set_cons_succ]
    refine wpAnyH_ready (rs := [22]) (by kernel_rfl) (by simp) ?_
    refine AllReadyH.cons (o := _) rfl (fun K hK => ?_) AllReadyH.nil
    go_simp
    (go_at_call 57; (with_reducible refine (kt.out _ B0.out.drew).mono ?_); rintro e4 w4 ⟨rfl, hb4⟩; have hb4a : Below w.heap.size w w4 := B0.out.drew.trans (hb4.mono B0.out.drew.size))
    go_wp2_with fail
    refine hK.out _ _ ?_ (fun hHeld => ?_)
    · exact ⟨R0.out.drew.to hb4, (R0.out.drew.to hb4).cells 3, (R0.out.drew.to hb4).cells 4, (R0.out.drew.to hb4).cells 5⟩
    clear hK K
    try simp only [Act.put, List.setIfInBounds_toArray, List.set_cons_zero, List.set_cons_succ]
    have RA4 := R0.out.drew.to hb4
    refine takeD (i := 23) (oi := _) (v := ?vv22) (d := some 33) rfl (by kernel_rfl) (by kernel_rfl) (by kernel_rfl) (by kernel_rfl) (fun _ _ _ h => h) (Or.inl ⟨by kernel_rfl, ?_⟩) (by assumption) ?_
    rotate_left 1
    · intro W_ hSw; (try dsimp only at hSw); go_simp; (first | done | with_reducible rfl)
    try simp only [Act.put, List.setIfInBounds_toArray, List.set_cons_zero, List.set_cons_succ]
    refine wpAnyH_ready (rs := [24]) (by kernel_rfl) (by simp) ?_
    refine AllReadyH.cons (o := _) rfl (fun K hK => ?_) AllReadyH.nil
    go_simp
    refine hK.out _ _ ?_ (fun hHeld => ?_)
    · exact ⟨RA4.alloc _, (RA4.alloc _).cells 3, (RA4.alloc _).cells 4, (RA4.alloc _).cells 5⟩
    clear hK K
    try simp only [Act.put]
    try simp only [List.setIfInBounds_toArray]
    try simp only [List.set_cons_succ]
    try simp only [List.set_cons_zero]
    refine takeD (i := 25) (oi := _) (v := ?vv23) (d := some 2) rfl (by kernel_rfl) (by kernel_rfl) (by kernel_rfl) (by kernel_rfl) (fun _ _ _ h => h) (Or.inl ⟨by kernel_rfl, ?_⟩) (by assumption) ?_
    rotate_left 1
    · intro W_ hSw; (try dsimp only at hSw); go_simp; (first | done | with_reducible rfl)
    try simp only [Act.put, List.setIfInBounds_toArray, List.set_cons_zero, List.set_cons_succ]
    refine wpAnyH_done (by kernel_rfl) ?_ _
    go_wp2
    go_ret
    refine ⟨bel_alloc hb4a _, w4.heap.size, hb4a.size, rfl, ?_⟩
    rw [HST.out]
    exact Sq.lits _ _ _ _ _ _ _ rfl rfl (by rw [World.size_alloc]; exact Nat.lt_succ_self _)
  · obtain rfl : 0 = ow := how
    go_upto_region 4 with fail
    refine wp_region_held_drew (S := (fun w' => RowAt w' w.heap.size 35 (agC A c s g) ∧ w'.cell? ⟨w.heap.size, 3, none⟩ = some (.int .u8 (g.ph : Int)) ∧ w'.cell? ⟨w.heap.size, 4, none⟩ = some (.int .u32 (g.tx : Int)) ∧ w'.cell? ⟨w.heap.size, 5, none⟩ = some (.int .u32 (g.la : Int)))) (by kernel_rfl) ?_ (fun hHeld => ?_)
    · exact ⟨R0.out, a2, a3, a4⟩
    refine takeD (i := 0) (oi := _) (v := ?vv24) (d := some 10) rfl (by kernel_rfl) (by kernel_rfl) (by kernel_rfl) (by kernel_rfl) (fun _ _ _ h => h) (Or.inl ⟨by kernel_rfl, ?_⟩) (by assumption) ?_
    rotate_left 1
    · intro W_ hSw; (try dsimp only at hSw); go_simp; (first | done | with_reducible rfl)
    try simp only [Act.put, List.setIfInBounds_toArray, List.set_cons_zero, List.set_cons_succ]
    refine takeD (i := 1) (oi := _) (v := ?vv25) (d := some 11) rfl (by kernel_rfl) (by kernel_rfl) (by kernel_rfl) (by kernel_rfl) (fun _ _ _ h => h) (Or.inl ⟨by kernel_rfl, ?_⟩) (by assumption) ?_
    rotate_left 1
    · intro W_ hSw; (try dsimp only at hSw); go_simp; (first | done | with_reducible rfl)
    try simp only [Act.put, List.setIfInBounds_toArray, List.set_cons_zero, List.set_cons_succ]
    refine takeD (i := 2) (oi := _) (v := ?vv26) (d := some 12) rfl (by kernel_rfl) (by kernel_rfl) (by kernel_rfl) (by kernel_rfl) (fun _ _ _ h => h) (Or.inl ⟨by kernel_rfl, ?_⟩) (by assumption) ?_
    rotate_left 1
    · intro W_ hSw; (try dsimp only at hSw); go_simp; (first | done | with_reducible rfl)
    try simp only [Act.put, List.setIfInBounds_toArray, List.set_cons_zero, List.set_cons_succ]
    refine takeD (i := 3) (oi := _) (v := ?vv27) (d := some 13) rfl (by kernel_rfl) (by kernel_rfl) (by kernel_rfl) (by kernel_rfl) (fun _ _ _ h => h) (Or.inl ⟨by kernel_rfl, ?_⟩) (by assumption) ?_
    rotate_left 1
    · intro W_ hSw; (try dsimp only at hSw); go_simp; (first | done | with_reducible rfl)
    try simp only [Act.put, List.setIfInBounds_toArray, List.set_cons_zero, List.set_cons_succ]
    refine takeD (i := 4) (oi := _) (v := ?vv28) (d := some 14) rfl (by kernel_rfl) (by kernel_rfl) (by kernel_rfl) (by kernel_rfl) (fun _ _ _ h => h) (Or.inl ⟨by kernel_rfl, ?_⟩) (by assumption) ?_
    rotate_left 1
    · intro W_ hSw; (try dsimp only at hSw); go_simp; (first | done | with_reducible rfl)
    try simp only [Act.put, List.setIfInBounds_toArray, List.set_cons_zero, List.set_cons_succ]
    refine takeD (i := 5) (oi := _) (v := ?vv29) (d := some 15) rfl (by kernel_rfl) (by kernel_rfl) (by kernel_rfl) (by kernel_rfl) (fun _ _ _ h => h) (Or.inl ⟨by kernel_rfl, ?_⟩) (by assumption) ?_
    rotate_left 1
    · intro W_ hSw; (try dsimp only at hSw); go_simp; (first | done | with_reducible rfl)
    try simp only [Act.put, List.setIfInBounds_toArray, List.set_cons_zero, List.set_cons_succ]
    refine takeD (i := 6) (oi := _) (v := ?vv30) (d := some 16) rfl (by kernel_rfl) (by kernel_rfl) (by kernel_rfl) (by kernel_rfl) (fun _ _ _ h => h) (Or.inl ⟨by kernel_rfl, ?_⟩) (by assumption) ?_
    rotate_left 1
    · intro W_ hSw; (try dsimp only at hSw); go_simp; (first | done | with_reducible rfl)
    try simp only [Act.put, List.setIfInBounds_toArray, List.set_cons_zero, List.set_cons_succ]
    refine takeD (i := 7) (oi := _) (v := ?vv31) (d := some 17) rfl (by kernel_rfl) (by kernel_rfl) (by kernel_rfl) (by kernel_rfl) (fun _ _ _ h => h) (Or.inl ⟨by kernel_rfl, ?_⟩) (by assumption) ?_
    rotate_left 1
    · intro W_ hSw; (try dsimp only at hSw); go_simp; (first | done | with_reducible rfl)
    try simp only [Act.put, List.setIfInBounds_toArray, List.set_cons_zero, List.set_cons_succ]
    refine takeD (i := 8) (oi := _) (v := ?vv32) (d := some 18) rfl (by kernel_rfl) (by kernel_rfl) (by kernel_rfl) (by kernel_rfl) (fun _ _ _ h => h) (Or.inl ⟨by kernel_rfl, ?_⟩) (by assumption) ?_
    rotate_left 1
    · intro W_ hSw; (try dsimp only at hSw); go_simp; (first | done | with_reducible rfl)
    try simp only [Act.put, List.setIfInBounds_toArray, List.set_cons_zero, List.set_cons_succ]
    refine takeD (i := 9) (oi := _) (v := ?vv33) (d := some 19) rfl (by kernel_rfl) (by kernel_rfl) (by kernel_rfl) (by kernel_rfl) (fun _ _ _ h => h) (Or.inl ⟨by kernel_rfl, ?_⟩) (by assumption) ?_
    rotate_left 1
    · intro W_ hSw; (try dsimp only at hSw); go_simp; (first | done | with_reducible rfl)
    try simp only [Act.put, List.setIfInBounds_toArray, List.set_cons_zero, List.set_cons_succ]
    refine takeD (i := 10) (oi := _) (v := ?vv34) (d := some 20) rfl (by kernel_rfl) (by kernel_rfl) (by kernel_rfl) (by kernel_rfl) (fun _ _ _ h => h) (Or.inl ⟨by kernel_rfl, ?_⟩) (by assumption) ?_
    rotate_left 1
    · intro W_ hSw; (try dsimp only at hSw); go_simp; (first | done | with_reducible rfl)
    try simp only [Act.put, List.setIfInBounds_toArray, List.set_cons_zero, List.set_cons_succ]
    refine takeD (i := 11) (oi := _) (v := ?vv35) (d := some 21) rfl (by kernel_rfl) (by kernel_rfl) (by kernel_rfl) (by kernel_rfl) (fun _ _ _ h => h) (Or.inl ⟨by kernel_rfl, ?_⟩) (by assumption) ?_
    rotate_left 1
    · intro W_ hSw; (try dsimp only at hSw); go_simp; (first | done | with_reducible rfl)
    try simp only [Act.put, List.setIfInBounds_toArray, List.set_cons_zero, List.set_cons_succ]
    refine takeD (i := 12) (oi := _) (v := ?vv36) (d := some 22) rfl (by kernel_rfl) (by kernel_rfl) (by kernel_rfl) (by kernel_rfl) (fun _ _ _ h => h) (Or.inl ⟨by kernel_rfl, ?_⟩) (by assumption) ?_
    rotate_left 1
    · intro W_ hSw; (try dsimp only at hSw); go_simp; (first | done | with_reducible rfl)
    try simp only [Act.put, List.setIfInBounds_toArray, List.set_cons_zero, List.set_cons_succ]
    refine takeD (i := 13) (oi := _) (v := ?vv37) (d := some 23) rfl (by kernel_rfl) (by kernel_rfl) (by kernel_rfl) (by kernel_rfl) (fun _ _ _ h => h) (Or.inl ⟨by kernel_rfl, ?_⟩) (by assumption) ?_
    rotate_left 1
    · intro W_ hSw; (try dsimp only at hSw); go_simp; (first | done | with_reducible rfl)
    try simp only [Act.put, List.setIfInBounds_toArray, List.set_cons_zero, List.set_cons_succ]
    refine takeD (i := 14) (oi := _) (v := ?vv38) (d := some 24) rfl (by kernel_rfl) (by kernel_rfl) (by kernel_rfl) (by kernel_rfl) (fun _ _ _ h => h) (Or.inl ⟨by kernel_rfl, ?_⟩) (by assumption) ?_
    rotate_left 1
    · intro W_ hSw; (try dsimp only at hSw); go_simp; (first | done | with_reducible rfl)
    try simp only [Act.put, List.setIfInBounds_toArray, List.set_cons_zero, List.set_cons_succ]
    refine takeD (i := 15) (oi := _) (v := ?vv39) (d := some 25) rfl (by kernel_rfl) (by kernel_rfl) (by kernel_rfl) (by kernel_rfl) (fun _ _ _ h => h) (Or.inl ⟨by kernel_rfl, ?_⟩) (by assumption) ?_
    rotate_left 1
    · intro W_ hSw; (try dsimp only at hSw); go_simp; (first | done | with_reducible rfl)
    try simp only [Act.put, List.setIfInBounds_toArray, List.set_cons_zero, List.set_cons_succ]
    refine takeD (i := 16) (oi := _) (v := ?vv40) (d := some 26) rfl (by kernel_rfl) (by kernel_rfl) (by kernel_rfl) (by kernel_rfl) (fun _ _ _ h => h) (Or.inl ⟨by kernel_rfl, ?_⟩) (by assumption) ?_
    rotate_left 1
    · intro W_ hSw; (try dsimp only at hSw); go_simp; (first | done | with_reducible rfl)
    try simp only [Act.put, List.setIfInBounds_toArray, List.set_cons_zero, List.set_cons_succ]
    refine takeD (i := 17) (oi := _) (v := ?vv41) (d := some 27) rfl (by kernel_rfl) (by kernel_rfl) (by kernel_rfl) (by kernel_rfl) (fun _ _ _ h => h) (Or.inl ⟨by kernel_rfl, ?_⟩) (by assumption) ?_
    rotate_left 1
    · intro W_ hSw; (try dsimp only at hSw); go_simp; (first | done | with_reducible rfl)
    try simp only [Act.put, List.setIfInBounds_toArray, List.set_cons_zero, List.set_cons_succ]
    refine takeD (i := 18) (oi := _) (v := ?vv42) (d := some 28) rfl (by kernel_rfl) (by kernel_rfl) (by kernel_rfl) (by kernel_rfl) (fun _ _ _ h => h) (Or.inl ⟨by kernel_rfl, ?_⟩) (by assumption) ?_
    rotate_left 1
    · intro W_ hSw; (try dsimp only at hSw); go_simp; (first | done | with_reducible rfl)
    try simp only [Act.put, List.setIfInBounds_toArray, List.set_cons_zero, List.set_cons_succ]
    refine takeD (i := 19) (oi := _) (v := ?vv43) (d := some 29) rfl (by kernel_rfl) (by kernel_rfl) (by kernel_rfl) (by kernel_rfl) (fun _ _ _ h => h) (Or.inl ⟨by kernel_rfl, ?_⟩) (by assumption) ?_
    rotate_left 1
    · intro W_ hSw; (try dsimp only at hSw); go_simp; (first | done | with_reducible rfl)
    try simp only [Act.put, List.setIfInBounds_toArray, List.set_cons_zero, List.set_cons_succ]
    refine takeD (i := 20) (oi := _) (v := ?vv44) (d := some 30) rfl (by kernel_rfl) (by kernel_rfl) (by kernel_rfl) (by kernel_rfl) (fun _ _ _ h => h) (Or.inl ⟨by kernel_rfl, ?_⟩) (by assumption) ?_
    rotate_left 1
    · intro W_ hSw; (try dsimp only at hSw); go_simp; (first | done | with_reducible rfl)
    try simp only [Act.put, List.setIfInBounds_toArray, List.set_cons_zero, List.set_cons_succ]
    refine takeD (i := 21) (oi := _) (v := _) (d := some 31) rfl (by kernel_rfl) (by kernel_rfl) (by kernel_rfl) (by kernel_rfl) (fun _ _ _ h => h) (yieldsIf_load_mid (by kernel_rfl) 33 (.tmp 30) (by kernel_rfl) w.heap.size 6 (by kernel_rfl) s.C _ (fun W h => h.1.stage H25) Try.underlying33 rfl HZ.out) (by assumption) ?_
    try simp only [Act.put, List.setIfInBounds_toArray, List.set_cons_zero, List.set_cons_succ]
    refine wpAnyH_ready (rs := [22]) (by kernel_rfl) (by simp) ?_
    refine AllReadyH.cons (o := _) rfl (fun K hK => ?_) AllReadyH.nil
    go_simp
    (go_at_call 57; (with_reducible refine (kt.out _ B0.out.drew).mono ?_); rintro e4 w4 ⟨rfl, hb4⟩; have hb4a : Below w.heap.size w w4 := B0.out.drew.trans (hb4.mono B0.out.drew.size))
    go_wp2_with fail
    refine hK.out _ _ ?_ (fun hHeld => ?_)
    · exact ⟨R0.out.drew.to hb4, (R0.out.drew.to hb4).cells 3, (R0.out.drew.to hb4).cells 4, (R0.out.drew.to hb4).cells 5⟩
    clear hK K
    try simp only [Act.put, List.setIfInBounds_toArray, List.set_cons_zero, List.set_cons_succ]
    have RA4 := R0.out.drew.to hb4
    refine takeD (i := 23) (oi := _) (v := ?vv45) (d := some 33) rfl (by kernel_rfl) (by kernel_rfl) (by kernel_rfl) (by kernel_rfl) (fun _ _ _ h => h) (Or.inl ⟨by kernel_rfl, ?_⟩) (by assumption) ?_
    rotate_left 1
    · intro W_ hSw; (try dsimp only at hSw); go_simp; (first | done | with_reducible rfl)
    try simp only [Act.put, List.setIfInBounds_toArray, List.set_cons_zero, List.set_cons_succ]
    refine wpAnyH_ready (rs := [24]) (by kernel_rfl) (by simp) ?_
    refine AllReadyH.cons (o := _) rfl (fun K hK => ?_) AllReadyH.nil
    go_simp
    refine hK.out _ _ ?_ (fun hHeld => ?_)
    · exact ⟨RA4.alloc _, (RA4.alloc _).cells 3, (RA4.alloc _).cells 4, (RA4.alloc _).cells 5⟩
    clear hK K
    try simp only [Act.put]
    try simp only [List.setIfInBounds_toArray]
    try simp only [List.set_cons_succ]
    try simp only [List.set_cons_zero]
    refine takeD (i := 25) (oi := _) (v := ?vv46) (d := some 2) rfl (by kernel_rfl) (by kernel_rfl) (by kernel_rfl) (by kernel_rfl) (fun _ _ _ h => h) (Or.inl ⟨by kernel_rfl, ?_⟩) (by assumption) ?_
    rotate_left 1
    · intro W_ hSw; (try dsimp only at hSw); go_simp; (first | done | with_reducible rfl)
    try simp only [Act.put, List.setIfInBounds_toArray, List.set_cons_zero, List.set_cons_succ]
    refine wpAnyH_done (by kernel_rfl) ?_ _
    go_wp2
    go_ret
    refine ⟨bel_alloc hb4a _, w4.heap.size, hb4a.size, rfl, ?_⟩
    rw [HST.out]
    exact Sq.lits _ _ _ _ _ _ _ rfl rfl (by rw [World.size_alloc]; exact Nat.lt_succ_self _)
end Go.Proofs.Ytajbghjjpebndaa
