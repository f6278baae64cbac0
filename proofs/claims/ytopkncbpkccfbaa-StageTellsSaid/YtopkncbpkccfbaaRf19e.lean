/- The walks of the reference of layer 19: Same, Whole. -/
import Derived.Test.YtopkncbpkccfbaaRf19d
import Derived.Test.YtopkncbpkccfbaaRf17s
import Derived.Test.YtopkncbpkccfbaaSameS
namespace Go.Proofs.Ytopkncbpkccfbaa
open Go.RowKit
set_option linter.unusedVariables false
set_option linter.unusedSimpArgs false
attribute [local go_sem] Later.cell Later.frozen setCell_twice
set_option maxRecDepth 100000 in
set_option maxHeartbeats 1000000 in
theorem rsameS_S {s s' : Stv} {B B' tx tx' : Nat} {S S' : SS} (r : Bool) (w : World) (hs : s.Is w B tx S) (hs' : s'.Is w B' tx' S') (hr : decide (tx = tx' ∧ S = S') = r) :
    Calls Try.prog 30 #[.agg s.C.toArray, .agg s'.C.toArray] w fun e w' => e = .returned (.bool r) ∧ Below w.heap.size w w' := by
  have hiff := same_iff hs hs'
  have hR2 : RowAt ((w.alloc (.cells s.C.toArray 42)).alloc (.cells s'.C.toArray 42)) w.heap.size 42 s.C := RowAt.alloc (RowAt.new w 42 s.C) _
  have hR3 : RowAt ((w.alloc (.cells s.C.toArray 42)).alloc (.cells s'.C.toArray 42)) (w.heap.size + 1) 42 s'.C := by
    have := RowAt.new (w.alloc (.cells s.C.toArray 42)) 42 s'.C
    simpa using this
  have hC2 := hs.C25
  have hC3 := hs'.C25
  have c20 : ∀ W, RowAt W w.heap.size 42 s.C → W.cell? ⟨w.heap.size, 0, none⟩ = some (.int .u32 (s.tx : Int)) := fun W h => h.cell (Stv.C_tx s)
  have c30 : ∀ W, RowAt W (w.heap.size + 1) 42 s'.C → W.cell? ⟨w.heap.size + 1, 0, none⟩ = some (.int .u32 (s'.tx : Int)) := fun W h => h.cell (Stv.C_tx s')
  have htx : s.tx = tx := hs.tx
  have htx' : s'.tx = tx' := hs'.tx
  rw [htx] at c20
  rw [htx'] at c30
  by_cases h1 : tx = tx'
  · subst h1
    have g1 : ((tx : Int) == (tx : Int)) = true := by simp
    have hlen2 : (s.hs.map Value.bool).length = 8 := by simp [hs.ok.lh]
    have hlen3 : (s'.hs.map Value.bool).length = 8 := by simp [hs'.ok.lh]
    have q2 : ∀ W, RowAt W w.heap.size 42 s.C → W.rangeAt w.heap.size 1 (s.hs.map Value.bool) := fun W h => by
      have := h.range 1 8
      rwa [Stv.C_haves hs.ok.lh] at this
    have q3 : ∀ W, RowAt W (w.heap.size + 1) 42 s'.C → W.rangeAt (w.heap.size + 1) 1 (s'.hs.map Value.bool) := fun W h => by
      have := h.range 1 8
      rwa [Stv.C_haves hs'.ok.lh] at this
    by_cases h2 : s.hs = s'.hs
    · have hrt : decide (ssThere S = ssThere S') = r := by
        rw [← hr, decide_eq_decide]
        exact ⟨fun h => ⟨rfl, hiff.1 ⟨h2, h⟩⟩, fun h => (hiff.2 h.2).2⟩
      have keq := fun W => run_eql_bools (P := Try.prog) W 39 4 8 Try.underlying39 Try.underlying4 (fun _ => by kernel_rfl) s.hs s'.hs hs.ok.lh hs'.ok.lh true (by simpa using h2)
      have kA := Lib.hid (fun W (h : Below w.heap.size w W) => rblocks_S W (hs.to h))
      have kB := Lib.hid (fun W (h : Below w.heap.size w W) => rblocks_S W (hs'.to h))
      have ks := Lib.hid (fun W (A A' : Option Addr) (l l' : List Blk) (c c' : Nat) (hp : prs l = ssThere S) (hp' : prs l' = ssThere S') (h : Blks W W.heap.size A l) (h' : Blks W W.heap.size A' l') (hc : l.length ≤ c) (hc' : l'.length ≤ c') (hcc : c ≤ 9223372036854775807) =>
        rsameB_any A A' l l' c c' _ _ r W rfl rfl h h' (by omega) hc hc' (by rw [hp, hp']; exact hrt))
      have HTX := Lib.hid htx
      have HTX' := Lib.hid htx'
      clear hr hiff h2 htx htx' hrt
      have r2 := hR2
      have r3 := hR3
      go_enter Try.func30, Try.ntmps30
      go_wp2
      refine wp_region_held_drew (S := (fun w' => RowAt w' w.heap.size 42 s.C ∧ RowAt w' (w.heap.size + 1) 42 s'.C)) (by kernel_rfl) ?_ (fun hHeld => ?_)
      · exact ⟨hR2, hR3⟩
      refine takeD (i := 0) (oi := _) (v := ?vv1) (d := some 5) rfl (by kernel_rfl) (by kernel_rfl) (by kernel_rfl) (by kernel_rfl) (fun _ _ _ h => h) (Or.inl ⟨by kernel_rfl, ?_⟩) (by assumption) ?_
      rotate_left 1
      · intro W_ hSw; (try dsimp only at hSw); go_simp; (first | done | with_reducible rfl)
      try simp only [Act.put, List.setIfInBounds_toArray, List.set_cons_zero, List.set_cons_succ]
      refine takeD (i := 1) (oi := _) (v := ?vv2) (d := some 6) rfl (by kernel_rfl) (by kernel_rfl) (by kernel_rfl) (by kernel_rfl) (fun _ _ _ h => h) (Or.inl ⟨by kernel_rfl, ?_⟩) (by assumption) ?_
      rotate_left 1
      · intro W_ hSw; (try dsimp only at hSw); go_simp; (first | done | with_reducible rfl)
      try simp only [Act.put, List.setIfInBounds_toArray, List.set_cons_zero, List.set_cons_succ]
      refine takeD (i := 2) (oi := _) (v := ?vv3) (d := some 7) rfl (by kernel_rfl) (by kernel_rfl) (by kernel_rfl) (by kernel_rfl) (fun _ _ _ h => h) (Or.inl ⟨by kernel_rfl, ?_⟩) (by assumption) ?_
      rotate_left 1
      · intro W_ hSw; (try dsimp only at hSw); go_simp; (first | done | with_reducible rfl)
      try simp only [Act.put, List.setIfInBounds_toArray, List.set_cons_zero, List.set_cons_succ]
      refine takeD (i := 3) (oi := _) (v := ?vv4) (d := some 8) rfl (by kernel_rfl) (by kernel_rfl) (by kernel_rfl) (by kernel_rfl) (fun _ _ _ h => h) (Or.inl ⟨by kernel_rfl, ?_⟩) (by assumption) ?_
      rotate_left 1
      · intro W_ hSw; (try dsimp only at hSw); go_simp; (first | done | with_reducible rfl)
      try simp only [Act.put, List.setIfInBounds_toArray, List.set_cons_zero, List.set_cons_succ]
      refine takeD (i := 4) (oi := _) (v := ?vv5) (d := some 9) rfl (by kernel_rfl) (by kernel_rfl) (by kernel_rfl) (by kernel_rfl) (fun _ _ _ h => h) (Or.inl ⟨by kernel_rfl, ?_⟩) (by assumption) ?_
      rotate_left 1
      · intro W_ hSw; (try dsimp only at hSw); go_simp; (first | done | with_reducible rfl)
      try simp only [Act.put, List.setIfInBounds_toArray, List.set_cons_zero, List.set_cons_succ]
      refine takeD (i := 5) (oi := _) (v := ?vv6) (d := some 10) rfl (by kernel_rfl) (by kernel_rfl) (by kernel_rfl) (by kernel_rfl) (fun _ _ _ h => h) (Or.inl ⟨by kernel_rfl, ?_⟩) (by assumption) ?_
      rotate_left 1
      · intro W_ hSw; (try dsimp only at hSw); go_simp; (first | done | with_reducible rfl)
      try simp only [Act.put, List.setIfInBounds_toArray, List.set_cons_zero, List.set_cons_succ]
      refine takeD (i := 6) (oi := _) (v := ?vv7) (d := some 11) rfl (by kernel_rfl) (by kernel_rfl) (by kernel_rfl) (by kernel_rfl) (fun _ _ _ h => h) (Or.inl ⟨by kernel_rfl, ?_⟩) (by assumption) ?_
      rotate_left 1
      · intro W_ hSw; (try dsimp only at hSw); go_simp; (first | done | with_reducible rfl)
      try simp only [Act.put, List.setIfInBounds_toArray, List.set_cons_zero, List.set_cons_succ]
      refine takeD (i := 7) (oi := _) (v := _) (d := some 12) rfl (by kernel_rfl) (by kernel_rfl) (by kernel_rfl) (by kernel_rfl) (fun _ _ _ h => h) (yieldsIf_load_mid (by kernel_rfl) 39 (.tmp 11) (by kernel_rfl) w.heap.size 1 (by kernel_rfl) (s.hs.map Value.bool) _ (fun W h => q2 W h.1) Try.underlying39 rfl (by rw [hlen2]; exact size_haves)) (by assumption) ?_
      try simp only [Act.put, List.setIfInBounds_toArray, List.set_cons_zero, List.set_cons_succ]
      refine takeD (i := 8) (oi := _) (v := ?vv8) (d := some 13) rfl (by kernel_rfl) (by kernel_rfl) (by kernel_rfl) (by kernel_rfl) (fun _ _ _ h => h) (Or.inl ⟨by kernel_rfl, ?_⟩) (by assumption) ?_
      rotate_left 1
      · intro W_ hSw; (try dsimp only at hSw); go_simp; (first | done | with_reducible rfl)
      try simp only [Act.put, List.setIfInBounds_toArray, List.set_cons_zero, List.set_cons_succ]
      refine takeD (i := 9) (oi := _) (v := _) (d := some 14) rfl (by kernel_rfl) (by kernel_rfl) (by kernel_rfl) (by kernel_rfl) (fun _ _ _ h => h) (yieldsIf_load_mid (by kernel_rfl) 39 (.tmp 13) (by kernel_rfl) (w.heap.size + 1) 1 (by kernel_rfl) (s'.hs.map Value.bool) _ (fun W h => q3 W h.2) Try.underlying39 rfl (by rw [hlen3]; exact size_haves)) (by assumption) ?_
      try simp only [Act.put, List.setIfInBounds_toArray, List.set_cons_zero, List.set_cons_succ]
      refine takeD (i := 10) (oi := _) (v := ?vv9) (d := some 15) rfl (by kernel_rfl) (by kernel_rfl) (by kernel_rfl) (by kernel_rfl) (fun _ _ _ h => h) (Or.inl ⟨by kernel_rfl, ?_⟩) (by assumption) ?_
      rotate_left 1
      · intro W_ hSw; (try dsimp only at hSw); go_simp; (first | done | with_reducible rfl)
      try simp only [Act.put, List.setIfInBounds_toArray, List.set_cons_zero, List.set_cons_succ]
      refine takeD (i := 11) (oi := _) (v := ?vv10) (d := some 16) rfl (by kernel_rfl) (by kernel_rfl) (by kernel_rfl) (by kernel_rfl) (fun _ _ _ h => h) (Or.inl ⟨by kernel_rfl, ?_⟩) (by assumption) ?_
      rotate_left 1
      · intro W_ hSw; (try dsimp only at hSw); go_simp; (first | done | with_reducible rfl)
      try simp only [Act.put, List.setIfInBounds_toArray, List.set_cons_zero, List.set_cons_succ]
      refine takeD (i := 12) (oi := _) (v := ?vv11) (d := some 17) rfl (by kernel_rfl) (by kernel_rfl) (by kernel_rfl) (by kernel_rfl) (fun _ _ _ h => h) (Or.inl ⟨by kernel_rfl, ?_⟩) (by assumption) ?_
      rotate_left 1
      · intro W_ hSw; (try dsimp only at hSw); go_simp; (first | done | with_reducible rfl)
      try simp only [Act.put, List.setIfInBounds_toArray, List.set_cons_zero, List.set_cons_succ]
      refine takeD (i := 13) (oi := _) (v := _) (d := some 18) rfl (by kernel_rfl) (by kernel_rfl) (by kernel_rfl) (by kernel_rfl) (fun _ _ _ h => h) (yieldsIf_load_mid (by kernel_rfl) 42 (.tmp 2) (by kernel_rfl) w.heap.size 0 (by kernel_rfl) s.C _ (fun W h => h.1.all) Try.underlying42 rfl (by rw [size_25, hC2])) (by assumption) ?_
      try simp only [Act.put, List.setIfInBounds_toArray, List.set_cons_zero, List.set_cons_succ]
      refine takeD (i := 15) (oi := _) (v := _) (d := some 20) rfl (by kernel_rfl) (by kernel_rfl) (by kernel_rfl) (by kernel_rfl) (fun _ _ _ h => h) (yieldsIf_load_mid (by kernel_rfl) 42 (.tmp 3) (by kernel_rfl) (w.heap.size + 1) 0 (by kernel_rfl) s'.C _ (fun W h => h.2.all) Try.underlying42 rfl (by rw [size_25, hC3])) (by assumption) ?_
      try simp only [Act.put, List.setIfInBounds_toArray, List.set_cons_zero, List.set_cons_succ]
      refine wpAnyH_ready (rs := [14]) (by kernel_rfl) (by simp) ?_
      refine AllReadyH.cons (o := _) rfl (fun K hK => ?_) AllReadyH.nil
      go_simp
      (go_at_call 32; (with_reducible refine (kA.out _ (bel_alloc (bel_alloc (Below.refl _ _) _) _).drew).mono ?_); rintro e w3 ⟨A3, c3, bl3, rfl, hp3, hB3, hl3, hc3, hn3, hb3⟩; have r23 := hR2.drew.to hb3; have r33 := hR3.drew.to hb3; have hbw3 : Below w.heap.size w w3 := (bel_alloc (bel_alloc (Below.refl _ _) _) _).drew.trans (hb3.mono (by simp; omega)))
      go_wp2_with fail
      refine hK.out _ _ ?_ (fun hHeld => ?_)
      · exact ⟨r23, r33⟩
      clear hK K
      try simp only [Act.put, List.setIfInBounds_toArray, List.set_cons_zero, List.set_cons_succ]
      refine wpAnyH_ready (rs := [16]) (by kernel_rfl) (by simp) ?_
      refine AllReadyH.cons (o := _) rfl (fun K hK => ?_) AllReadyH.nil
      go_simp
      (go_at_call 32; (with_reducible refine (kB.out _ hbw3).mono ?_); rintro e w4 ⟨A4, c4, bl4, rfl, hp4, hB4, hl4, hc4, hn4, hb4⟩; have r24 := r23.to hb4; have r34 := r33.to hb4; have hB34 := hB3.to hb4; have hbw4 : Below w.heap.size w w4 := hbw3.trans (hb4.mono hbw3.size))
      go_wp2_with fail
      refine hK.out _ _ ?_ (fun hHeld => ?_)
      · exact ⟨r24, r34⟩
      clear hK K
      try simp only [Act.put, List.setIfInBounds_toArray, List.set_cons_zero, List.set_cons_succ]
      refine wpAnyH_ready (rs := [17]) (by kernel_rfl) (by simp) ?_
      refine AllReadyH.cons (o := _) rfl (fun K hK => ?_) AllReadyH.nil
      go_simp
      (go_at_call 27; (with_reducible refine (ks.out _ _ _ _ _ _ _ hp3 hp4 hB34 hB4 hl3 hl4 hc3).mono ?_); rintro e w5 ⟨rfl, hb5⟩; have r25 := r24.to hb5; have r35 := r34.to hb5; have hbw5 : Below w.heap.size w w5 := hbw4.trans (hb5.mono hbw4.size))
      go_wp2_with fail
      refine hK.out _ _ ?_ (fun hHeld => ?_)
      · exact ⟨r25, r35⟩
      clear hK K
      try simp only [Act.put, List.setIfInBounds_toArray, List.set_cons_zero, List.set_cons_succ]
      refine takeD (i := 18) (oi := _) (v := ?vv12) (d := some 23) rfl (by kernel_rfl) (by kernel_rfl) (by kernel_rfl) (by kernel_rfl) (fun _ _ _ h => h) (Or.inl ⟨by kernel_rfl, ?_⟩) (by assumption) ?_
      rotate_left 1
      · intro W_ hSw; (try dsimp only at hSw); go_simp; (first | done | with_reducible rfl)
      try simp only [Act.put, List.setIfInBounds_toArray, List.set_cons_zero, List.set_cons_succ]
      refine takeD (i := 19) (oi := _) (v := ?vv13) (d := some 4) rfl (by kernel_rfl) (by kernel_rfl) (by kernel_rfl) (by kernel_rfl) (fun _ _ _ h => h) (Or.inl ⟨by kernel_rfl, ?_⟩) (by assumption) ?_
      rotate_left 1
      · intro W_ hSw; (try dsimp only at hSw); go_simp; (first | done | with_reducible rfl)
      try simp only [Act.put, List.setIfInBounds_toArray, List.set_cons_zero, List.set_cons_succ]
      refine wpAnyH_done (by kernel_rfl) ?_ _
      go_wp2
      go_ret
      exact ⟨rfl, hbw5⟩
    · obtain rfl : r = false := by rw [← hr]; simp; exact fun e => h2 (hiff.2 e).1
      have keq := fun W => run_eql_bools (P := Try.prog) W 39 4 8 Try.underlying39 Try.underlying4 (fun _ => by kernel_rfl) s.hs s'.hs hs.ok.lh hs'.ok.lh false (by simpa using h2)
      clear hr hiff h2 htx htx'
      go_enter Try.func30, Try.ntmps30
      go_wp2
      refine wp_region_held_drew (S := (fun w' => RowAt w' w.heap.size 42 s.C ∧ RowAt w' (w.heap.size + 1) 42 s'.C)) (by kernel_rfl) ?_ (fun hHeld => ?_)
      · exact ⟨hR2, hR3⟩
      refine takeD (i := 0) (oi := _) (v := ?vv14) (d := some 5) rfl (by kernel_rfl) (by kernel_rfl) (by kernel_rfl) (by kernel_rfl) (fun _ _ _ h => h) (Or.inl ⟨by kernel_rfl, ?_⟩) (by assumption) ?_
      rotate_left 1
      · intro W_ hSw; (try dsimp only at hSw); go_simp; (first | done | with_reducible rfl)
      try simp only [Act.put, List.setIfInBounds_toArray, List.set_cons_zero, List.set_cons_succ]
      refine takeD (i := 1) (oi := _) (v := ?vv15) (d := some 6) rfl (by kernel_rfl) (by kernel_rfl) (by kernel_rfl) (by kernel_rfl) (fun _ _ _ h => h) (Or.inl ⟨by kernel_rfl, ?_⟩) (by assumption) ?_
      rotate_left 1
      · intro W_ hSw; (try dsimp only at hSw); go_simp; (first | done | with_reducible rfl)
      try simp only [Act.put, List.setIfInBounds_toArray, List.set_cons_zero, List.set_cons_succ]
      refine takeD (i := 2) (oi := _) (v := ?vv16) (d := some 7) rfl (by kernel_rfl) (by kernel_rfl) (by kernel_rfl) (by kernel_rfl) (fun _ _ _ h => h) (Or.inl ⟨by kernel_rfl, ?_⟩) (by assumption) ?_
      rotate_left 1
      · intro W_ hSw; (try dsimp only at hSw); go_simp; (first | done | with_reducible rfl)
      try simp only [Act.put, List.setIfInBounds_toArray, List.set_cons_zero, List.set_cons_succ]
      refine takeD (i := 3) (oi := _) (v := ?vv17) (d := some 8) rfl (by kernel_rfl) (by kernel_rfl) (by kernel_rfl) (by kernel_rfl) (fun _ _ _ h => h) (Or.inl ⟨by kernel_rfl, ?_⟩) (by assumption) ?_
      rotate_left 1
      · intro W_ hSw; (try dsimp only at hSw); go_simp; (first | done | with_reducible rfl)
      try simp only [Act.put, List.setIfInBounds_toArray, List.set_cons_zero, List.set_cons_succ]
      refine takeD (i := 4) (oi := _) (v := ?vv18) (d := some 9) rfl (by kernel_rfl) (by kernel_rfl) (by kernel_rfl) (by kernel_rfl) (fun _ _ _ h => h) (Or.inl ⟨by kernel_rfl, ?_⟩) (by assumption) ?_
      rotate_left 1
      · intro W_ hSw; (try dsimp only at hSw); go_simp; (first | done | with_reducible rfl)
      try simp only [Act.put, List.setIfInBounds_toArray, List.set_cons_zero, List.set_cons_succ]
      refine takeD (i := 5) (oi := _) (v := ?vv19) (d := some 10) rfl (by kernel_rfl) (by kernel_rfl) (by kernel_rfl) (by kernel_rfl) (fun _ _ _ h => h) (Or.inl ⟨by kernel_rfl, ?_⟩) (by assumption) ?_
      rotate_left 1
      · intro W_ hSw; (try dsimp only at hSw); go_simp; (first | done | with_reducible rfl)
      try simp only [Act.put, List.setIfInBounds_toArray, List.set_cons_zero, List.set_cons_succ]
      refine takeD (i := 6) (oi := _) (v := ?vv20) (d := some 11) rfl (by kernel_rfl) (by kernel_rfl) (by kernel_rfl) (by kernel_rfl) (fun _ _ _ h => h) (Or.inl ⟨by kernel_rfl, ?_⟩) (by assumption) ?_
      rotate_left 1
      · intro W_ hSw; (try dsimp only at hSw); go_simp; (first | done | with_reducible rfl)
      try simp only [Act.put, List.setIfInBounds_toArray, List.set_cons_zero, List.set_cons_succ]
      refine takeD (i := 7) (oi := _) (v := _) (d := some 12) rfl (by kernel_rfl) (by kernel_rfl) (by kernel_rfl) (by kernel_rfl) (fun _ _ _ h => h) (yieldsIf_load_mid (by kernel_rfl) 39 (.tmp 11) (by kernel_rfl) w.heap.size 1 (by kernel_rfl) (s.hs.map Value.bool) _ (fun W h => q2 W h.1) Try.underlying39 rfl (by rw [hlen2]; exact size_haves)) (by assumption) ?_
      try simp only [Act.put, List.setIfInBounds_toArray, List.set_cons_zero, List.set_cons_succ]
      refine takeD (i := 8) (oi := _) (v := ?vv21) (d := some 13) rfl (by kernel_rfl) (by kernel_rfl) (by kernel_rfl) (by kernel_rfl) (fun _ _ _ h => h) (Or.inl ⟨by kernel_rfl, ?_⟩) (by assumption) ?_
      rotate_left 1
      · intro W_ hSw; (try dsimp only at hSw); go_simp; (first | done | with_reducible rfl)
      try simp only [Act.put, List.setIfInBounds_toArray, List.set_cons_zero, List.set_cons_succ]
      refine takeD (i := 9) (oi := _) (v := _) (d := some 14) rfl (by kernel_rfl) (by kernel_rfl) (by kernel_rfl) (by kernel_rfl) (fun _ _ _ h => h) (yieldsIf_load_mid (by kernel_rfl) 39 (.tmp 13) (by kernel_rfl) (w.heap.size + 1) 1 (by kernel_rfl) (s'.hs.map Value.bool) _ (fun W h => q3 W h.2) Try.underlying39 rfl (by rw [hlen3]; exact size_haves)) (by assumption) ?_
      try simp only [Act.put, List.setIfInBounds_toArray, List.set_cons_zero, List.set_cons_succ]
      refine takeD (i := 10) (oi := _) (v := ?vv22) (d := some 15) rfl (by kernel_rfl) (by kernel_rfl) (by kernel_rfl) (by kernel_rfl) (fun _ _ _ h => h) (Or.inl ⟨by kernel_rfl, ?_⟩) (by assumption) ?_
      rotate_left 1
      · intro W_ hSw; (try dsimp only at hSw); go_simp; (first | done | with_reducible rfl)
      try simp only [Act.put, List.setIfInBounds_toArray, List.set_cons_zero, List.set_cons_succ]
      refine takeD (i := 11) (oi := _) (v := ?vv23) (d := some 16) rfl (by kernel_rfl) (by kernel_rfl) (by kernel_rfl) (by kernel_rfl) (fun _ _ _ h => h) (Or.inl ⟨by kernel_rfl, ?_⟩) (by assumption) ?_
      rotate_left 1
      · intro W_ hSw; (try dsimp only at hSw); go_simp; (first | done | with_reducible rfl)
      try simp only [Act.put, List.setIfInBounds_toArray, List.set_cons_zero, List.set_cons_succ]
      refine takeD (i := 12) (oi := _) (v := ?vv24) (d := some 17) rfl (by kernel_rfl) (by kernel_rfl) (by kernel_rfl) (by kernel_rfl) (fun _ _ _ h => h) (Or.inl ⟨by kernel_rfl, ?_⟩) (by assumption) ?_
      rotate_left 1
      · intro W_ hSw; (try dsimp only at hSw); go_simp; (first | done | with_reducible rfl)
      try simp only [Act.put, List.setIfInBounds_toArray, List.set_cons_zero, List.set_cons_succ]
      refine takeD (i := 13) (oi := _) (v := undef) (d := some 18) rfl (by kernel_rfl) (by kernel_rfl) (by kernel_rfl) (by kernel_rfl) (fun _ _ _ h => h) (Or.inr ⟨by kernel_rfl, rfl⟩) (by assumption) ?_
      try simp only [Act.put, List.setIfInBounds_toArray, List.set_cons_zero, List.set_cons_succ]
      refine takeD (i := 14) (oi := _) (v := undef) (d := some 19) rfl (by kernel_rfl) (by kernel_rfl) (by kernel_rfl) (by kernel_rfl) (fun _ _ _ h => h) (Or.inr ⟨by kernel_rfl, rfl⟩) (by assumption) ?_
      try simp only [Act.put, List.setIfInBounds_toArray, List.set_cons_zero, List.set_cons_succ]
      refine takeD (i := 15) (oi := _) (v := undef) (d := some 20) rfl (by kernel_rfl) (by kernel_rfl) (by kernel_rfl) (by kernel_rfl) (fun _ _ _ h => h) (Or.inr ⟨by kernel_rfl, rfl⟩) (by assumption) ?_
      try simp only [Act.put, List.setIfInBounds_toArray, List.set_cons_zero, List.set_cons_succ]
      refine takeD (i := 16) (oi := _) (v := undef) (d := some 21) rfl (by kernel_rfl) (by kernel_rfl) (by kernel_rfl) (by kernel_rfl) (fun _ _ _ h => h) (Or.inr ⟨by kernel_rfl, rfl⟩) (by assumption) ?_
      try simp only [Act.put, List.setIfInBounds_toArray, List.set_cons_zero, List.set_cons_succ]
      refine takeD (i := 17) (oi := _) (v := undef) (d := some 22) rfl (by kernel_rfl) (by kernel_rfl) (by kernel_rfl) (by kernel_rfl) (fun _ _ _ h => h) (Or.inr ⟨by kernel_rfl, rfl⟩) (by assumption) ?_
      try simp only [Act.put, List.setIfInBounds_toArray, List.set_cons_zero, List.set_cons_succ]
      refine takeD (i := 18) (oi := _) (v := ?vv25) (d := some 23) rfl (by kernel_rfl) (by kernel_rfl) (by kernel_rfl) (by kernel_rfl) (fun _ _ _ h => h) (Or.inl ⟨by kernel_rfl, ?_⟩) (by assumption) ?_
      rotate_left 1
      · intro W_ hSw; (try dsimp only at hSw); go_simp; (first | done | with_reducible rfl)
      try simp only [Act.put, List.setIfInBounds_toArray, List.set_cons_zero, List.set_cons_succ]
      refine takeD (i := 19) (oi := _) (v := ?vv26) (d := some 4) rfl (by kernel_rfl) (by kernel_rfl) (by kernel_rfl) (by kernel_rfl) (fun _ _ _ h => h) (Or.inl ⟨by kernel_rfl, ?_⟩) (by assumption) ?_
      rotate_left 1
      · intro W_ hSw; (try dsimp only at hSw); go_simp; (first | done | with_reducible rfl)
      try simp only [Act.put, List.setIfInBounds_toArray, List.set_cons_zero, List.set_cons_succ]
      refine wpAnyH_done (by kernel_rfl) ?_ _
      go_wp2
      go_ret
      exact ⟨rfl, (by repeat (first | exact Below.refl _ _ | refine bel_later _ ?_ | refine bel_alloc ?_ _ | refine bel_set ?_ (by first | omega | (simp; done) | (simp; omega)) _ | refine Below.drew ?_ | refine bel_drewN ?_ _ | assumption))⟩
  · obtain rfl : r = false := by rw [← hr]; simp [h1]
    have g1 : ((tx : Int) == (tx' : Int)) = false := beq_eq_false_iff_ne.2 (by omega)
    have c20' := c20 _ hR2
    have c30' := c30 _ hR3
    clear hr hiff c20 c30 h1
    go_enter Try.func30, Try.ntmps30
    go_wp2
    go_quiet (fail)
    go_wp2
    go_ret
    exact ⟨rfl, (by repeat (first | exact Below.refl _ _ | refine bel_later _ ?_ | refine bel_alloc ?_ _ | refine bel_set ?_ (by first | omega | (simp; done) | (simp; omega)) _ | refine Below.drew ?_ | refine bel_drewN ?_ _ | assumption))⟩
set_option maxRecDepth 100000 in
set_option maxHeartbeats 1000000 in
theorem rwhole_S {s : Stv} {B tx : Nat} {S : SS} (count : Int) (ch : Nat) (r : Bool) (w : World) (hs : s.Is w B tx S) (hr : r = true ↔ SSW S count ch) :
    Calls Try.prog 34 #[.agg s.C.toArray, .int .i64 count, .int .u32 (ch : Int)] w fun e w' => e = .returned (.bool r) ∧ Below w.heap.size w w' := by
  by_cases h1 : count < 0
  · obtain rfl : r = false := no_of hr (fun h => by unfold SSW at h; omega)
    clear hr
    go_enter Try.func34, Try.ntmps34
    go_wp2
    go_ret
    exact ⟨rfl, (by repeat (first | exact Below.refl _ _ | refine bel_later _ ?_ | refine bel_alloc ?_ _ | refine bel_set ?_ (by first | omega | (simp; done) | (simp; omega)) _ | refine Below.drew ?_ | refine bel_drewN ?_ _ | assumption))⟩
  by_cases h2 : 8 < count
  · obtain rfl : r = false := no_of hr (fun h => by unfold SSW at h; omega)
    clear hr
    go_enter Try.func34, Try.ntmps34
    go_wp2
    go_ret
    exact ⟨rfl, (by repeat (first | exact Below.refl _ _ | refine bel_later _ ?_ | refine bel_alloc ?_ _ | refine bel_set ?_ (by first | omega | (simp; done) | (simp; omega)) _ | refine Below.drew ?_ | refine bel_drewN ?_ _ | assumption))⟩
  have g1 : decide (count < 0) = false := by simpa using h1
  have g2 : decide (8 < count) = false := by simpa using h2
  have hlo : 0 ≤ count := by omega
  have hhi : count ≤ 8 := by omega
  clear h1 h2
  have HR := Lib.hid (RowAt.new w 42 s.C)
  have HC := Lib.hid hs.C25
  have HRR := Lib.hid hr
  have IS := Lib.hid hs
  clear hr hs
  go_enter Try.func34, Try.ntmps34
  go_wp2
  go_loop [7] (fun i => ∃ k : Nat, k ≤ 8 ∧ i = .int .i64 k ∧ Hid (∀ j, j < k → (S.getD j none).isSome = decide ((j : Int) < count))) (fun i => 8 - (intOf i).toNat)
  case atStart => exact ⟨0, by omega, rfl, Lib.hid (fun j hj => absurd hj (by omega))⟩
  case round =>
    obtain ⟨k, hk, rfl, hall⟩ := hrel
    by_cases hlt : k < 8
    · have hxs : (S.getD k none).isSome = s.hs.getD k false := by rw [← IS.out.S]; exact s.S_isSome hlt
      obtain ⟨x, hxx⟩ : ∃ x, s.hs.getD k false = x := ⟨_, rfl⟩
      have d1 := (HR.out.cells (1 + k)).trans (by rw [Stv.C_have (getD_hs (by rw [IS.out.ok.lh]; exact hlt)), hxx])
      rw [hxx] at hxs
      have hltI : (k : Int) < 8 := by omega
      have h0I : (0 : Int) ≤ (k : Int) := by omega
      obtain ⟨d, hd⟩ : ∃ d, decide ((k : Int) < count) = d := ⟨_, rfl⟩
      by_cases hxd : x = d
      · have HN : Hid (∀ j, j < k + 1 → (S.getD j none).isSome = decide ((j : Int) < count)) := Lib.hid (fun j hj => by
          rcases Nat.lt_or_ge j k with h1 | h1
          · exact hall.out j h1
          · obtain rfl : j = k := by omega
            rw [hxs, hd, hxd])
        subst hxd
        clear hxs hxx
        go_wp2
        go_round
        case rel => exact ⟨k + 1, by omega, by go_num, HN⟩
        case measure => simp [intOf]; omega
      · obtain rfl : r = false := by
          refine no_of HRR.out ?_
          rintro ⟨_, _, h, _⟩
          have := h k hlt
          rw [hxs, hd] at this
          exact hxd this
        have hxd' : (x != d) = true := by simpa using hxd
        have hxd2 : (x == d) = false := by simpa using hxd
        clear hxs hxx hxd
        go_wp2
        go_ret
        exact ⟨rfl, (by repeat (first | exact Below.refl _ _ | refine bel_later _ ?_ | refine bel_alloc ?_ _ | refine bel_set ?_ (by first | omega | (simp; done) | (simp; omega)) _ | refine Below.drew ?_ | refine bel_drewN ?_ _ | assumption))⟩
    · obtain rfl : k = 8 := by omega
      have HQ := Lib.hid (show decide ((chk (ssThere S) : Int) = (ch : Int)) = r by
        by_cases h : chk (ssThere S) = ch
        · rw [HRR.out.2 ⟨hlo, hhi, hall.out, h⟩, decide_eq_true (by omega)]
        · rw [no_of HRR.out (fun q => h q.2.2.2), decide_eq_false (by omega)])
      have kbl := Lib.hid (rblocks_S _ (IS.out.to (bel_alloc (Below.refl _ _) (.cells s.C.toArray 42))))
      have HTL : (ssThere S).length ≤ 8 := by have := ssThere_length S; rw [IS.out.len] at this; exact this
      clear hall
      go_wp2_with (refine wpList_load_var rfl 42 (.tmp 3) rfl w.heap.size rfl s.C _ 25 HR.out Try.underlying42 rfl size_25 HC.out ?_)
      (with_reducible refine (kbl.out).mono ?_)
      rintro e_ w1 ⟨A1, c1, bl, rfl, hp, hB, hc1, hc2, hn, hb1⟩
      have hl8 : bl.length ≤ 8 := by have := congrArg List.length hp; simp at this; omega
      have ksm := Lib.hid (rsum_any A1 bl c1 bl.length (ssThere S) w1 hB rfl (by omega) hc1 hc2 hp)
      have hbw1 : Below w.heap.size w w1 := (bel_alloc (Below.refl _ _) _).trans (hb1.mono (by simp))
      clear kbl hp hB hb1
      go_wp2_with fail
      (with_reducible refine (ksm.out).mono ?_)
      rintro e_ w2 ⟨rfl, hb2⟩
      have hbw2 : Below w.heap.size w w2 := hbw1.trans (hb2.mono hbw1.size)
      obtain ⟨v, hv⟩ : ∃ v, chk (ssThere S) = v := ⟨_, rfl⟩
      have hq := HQ.out
      rw [hv] at hq ⊢
      have hq2 : ((v : Int) == (ch : Int)) = r := by rw [← hq]; exact Bool.beq_eq_decide_eq _ _
      clear hv hq ksm hb2
      go_wp2
      go_ret
      exact ⟨by first | rfl | (rw [← hq2]) | skip, hbw2⟩
end Go.Proofs.Ytopkncbpkccfbaa
