/- saucierref20.Same, Right: of any agents. -/
import Derived.Test.YtajbghjjpebndaaKRf20c
import Derived.Test.YtajbghjjpebndaaQ17
import Derived.Test.YtajbghjjpebndaaKRf17o
namespace Go.Proofs.Ytajbghjjpebndaa
set_option maxRecDepth 100000
open Go.RowKit
set_option linter.unusedVariables false
set_option linter.unusedSimpArgs false
attribute [local go_sem] Later.cell Later.frozen setCell_twice
theorem lease_neq (a b c d : Int) (r : Bool) (hr : (!((a == c) && (b == d))) = r) (w : World) : (binOp .neq 26 (.agg #[.int .u16 a, .int .i64 b]) (.agg #[.int .u16 c, .int .i64 d])).run Try.prog w = .ok (.bool r) w := by
  subst hr
  go_simp
  by_cases h1 : a = c <;> by_cases h2 : b = d <;> simp [h1, h2]
section
variable {A A' : Option Addr} {c c' base base' : Nat} {s s' : Stv} {g g' : Ag}
set_option maxHeartbeats 1000000 in
theorem ragsame_any (r : Bool) (w : World) (h : AgIs A c s g w base) (h' : AgIs A' c' s' g' w base') (hr : r = true ↔ g = g') :
    Calls Try.prog 34 #[.agg (agC A c s g).toArray, .agg (agC A' c' s' g').toArray] w fun e w' => e = .returned (.bool r) ∧ Below w.heap.size w w' := by
  obtain ⟨b2, hb2⟩ : ∃ b, (!(((g.l.o : Int) == (g'.l.o : Int)) && (g.l.l == g'.l.l))) = b := ⟨_, rfl⟩
  obtain ⟨b6, hb6⟩ : ∃ b, decide (g.stx = g'.stx ∧ g.S = g'.S) = b := ⟨_, rfl⟩
  rw [Ag.ext_iff'] at hr
  have HR := Lib.hid hr
  have kl := fun W => lease_neq (g.l.o : Int) g.l.l (g'.l.o : Int) g'.l.l b2 hb2 W
  have ks := Lib.hid (fun W (hW : Below w.heap.size w W) => rsameS_S b6 W (h.st.to hW) (h'.st.to hW) hb6)
  have H25 := h.C25
  have H25' := h'.C25
  have HZ : Hid ((Try.prog.info? 33).map (·.size) = some s.C.length) := Lib.hid (by rw [H25]; exact size_25)
  have HZ' : Hid ((Try.prog.info? 33).map (·.size) = some s'.C.length) := Lib.hid (by rw [H25']; exact size_25)
  have IS := Lib.hid h
  have IS' := Lib.hid h'
  have hsm := h.small
  clear h h' hr
  go_enter Try.func34, Try.ntmps34
  go_upto_region 1 with fail
  obtain ⟨w0, hw0⟩ : ∃ w_q_, w_q_ = (w.alloc (.cells (agC A c s g).toArray 35)).alloc (.cells (agC A' c' s' g').toArray 35) := ⟨_, rfl⟩
  rw [← hw0]
  have hin := in_aa w (agC A c s g) (agC A' c' s' g')
  rw [← hw0] at hin
  obtain ⟨r1, r2, b0, z0⟩ := hin
  have R1 := Lib.hid r1
  have R2 := Lib.hid r2
  have B0 := Lib.hid b0
  clear hw0 r1 r2 b0
  have alt : w.heap.size < (w0).heap.size := R1.out.lt
  have alu : w.heap.size < (w0).heap.size + 1 := Nat.lt_succ_of_lt R1.out.lt
  have a0 : (w0).cell? ⟨w.heap.size, 0, none⟩ = some (.slice A g.bank.length c) := R1.out.cells 0
  have az0 : (w0).frozen? ⟨w.heap.size, 0, none⟩ = false := R1.out.frozen 0
  have a1 : (w0).cell? ⟨w.heap.size, 1, none⟩ = some (.int .u16 (g.l.o : Int)) := R1.out.cells 1
  have az1 : (w0).frozen? ⟨w.heap.size, 1, none⟩ = false := R1.out.frozen 1
  have a2 : (w0).cell? ⟨w.heap.size, 2, none⟩ = some (.int .i64 g.l.l) := R1.out.cells 2
  have az2 : (w0).frozen? ⟨w.heap.size, 2, none⟩ = false := R1.out.frozen 2
  have a3 : (w0).cell? ⟨w.heap.size, 3, none⟩ = some (.int .u8 (g.ph : Int)) := R1.out.cells 3
  have az3 : (w0).frozen? ⟨w.heap.size, 3, none⟩ = false := R1.out.frozen 3
  have a4 : (w0).cell? ⟨w.heap.size, 4, none⟩ = some (.int .u32 (g.tx : Int)) := R1.out.cells 4
  have az4 : (w0).frozen? ⟨w.heap.size, 4, none⟩ = false := R1.out.frozen 4
  have a5 : (w0).cell? ⟨w.heap.size, 5, none⟩ = some (.int .u32 (g.la : Int)) := R1.out.cells 5
  have az5 : (w0).frozen? ⟨w.heap.size, 5, none⟩ = false := R1.out.frozen 5
  have dlt : w.heap.size + 1 < (w0).heap.size := R2.out.lt
  have dlu : w.heap.size + 1 < (w0).heap.size + 1 := Nat.lt_succ_of_lt R2.out.lt
  have d0 : (w0).cell? ⟨w.heap.size + 1, 0, none⟩ = some (.slice A' g'.bank.length c') := R2.out.cells 0
  have dz0 : (w0).frozen? ⟨w.heap.size + 1, 0, none⟩ = false := R2.out.frozen 0
  have d1 : (w0).cell? ⟨w.heap.size + 1, 1, none⟩ = some (.int .u16 (g'.l.o : Int)) := R2.out.cells 1
  have dz1 : (w0).frozen? ⟨w.heap.size + 1, 1, none⟩ = false := R2.out.frozen 1
  have d2 : (w0).cell? ⟨w.heap.size + 1, 2, none⟩ = some (.int .i64 g'.l.l) := R2.out.cells 2
  have dz2 : (w0).frozen? ⟨w.heap.size + 1, 2, none⟩ = false := R2.out.frozen 2
  have d3 : (w0).cell? ⟨w.heap.size + 1, 3, none⟩ = some (.int .u8 (g'.ph : Int)) := R2.out.cells 3
  have dz3 : (w0).frozen? ⟨w.heap.size + 1, 3, none⟩ = false := R2.out.frozen 3
  have d4 : (w0).cell? ⟨w.heap.size + 1, 4, none⟩ = some (.int .u32 (g'.tx : Int)) := R2.out.cells 4
  have dz4 : (w0).frozen? ⟨w.heap.size + 1, 4, none⟩ = false := R2.out.frozen 4
  have d5 : (w0).cell? ⟨w.heap.size + 1, 5, none⟩ = some (.int .u32 (g'.la : Int)) := R2.out.cells 5
  have dz5 : (w0).frozen? ⟨w.heap.size + 1, 5, none⟩ = false := R2.out.frozen 5
  have a31 : w0.cell? ⟨w.heap.size, 31, none⟩ = some (.int .i64 g.tk) := R1.out.cell (agL_tk H25)
  have d31 : w0.cell? ⟨w.heap.size + 1, 31, none⟩ = some (.int .i64 g'.tk) := R2.out.cell (agL_tk H25')
  by_cases h1 : g.bank.length = g'.bank.length
  rotate_left
  · have g1 : ((g.bank.length : Int) != (g'.bank.length : Int)) = true := bne_iff_ne.2 (by omega)
    obtain rfl : r = false := no_of HR.out (fun q => h1 (by rw [q.1]))
    clear h1 hb2 hb6
    go_wp2
    go_ret
    exact ⟨rfl, B0.out⟩
  obtain ⟨n, hn⟩ : ∃ n, g.bank.length = n := ⟨_, rfl⟩
  have hn' : g'.bank.length = n := by omega
  have HN := Lib.hid hn
  have HN' := Lib.hid hn'
  rw [hn] at a0 hsm
  rw [hn'] at d0
  clear hn hn' h1
  have g1 : ((n : Int) != (n : Int)) = false := by simp
  cases b2
  rotate_left
  · obtain rfl : r = false := no_of HR.out (fun q => by rw [q.2.1.1, q.2.1.2] at hb2; simp at hb2)
    clear hb2 hb6
    go_wp2
    go_ret
    exact ⟨rfl, B0.out⟩
  have hl : g.l.o = g'.l.o ∧ g.l.l = g'.l.l := by
    simp only [Bool.not_eq_false', Bool.and_eq_true, beq_iff_eq] at hb2
    exact ⟨by omega, hb2.2⟩
  have HL := Lib.hid hl
  clear hl hb2
  by_cases h3 : g.ph = g'.ph
  rotate_left
  · have g3 : ((g.ph : Int) != (g'.ph : Int)) = true := bne_iff_ne.2 (by omega)
    obtain rfl : r = false := no_of HR.out (fun q => h3 q.2.2.1)
    clear h3 hb6
    go_wp2
    go_ret
    exact ⟨rfl, B0.out⟩
  have g3 : ((g.ph : Int) != (g'.ph : Int)) = false := by simp [h3]
  have H3 := Lib.hid h3
  clear h3
  by_cases h4 : g.tx = g'.tx
  rotate_left
  · have g4 : ((g.tx : Int) != (g'.tx : Int)) = true := bne_iff_ne.2 (by omega)
    obtain rfl : r = false := no_of HR.out (fun q => h4 q.2.2.2.1)
    clear h4 hb6
    go_wp2
    go_ret
    exact ⟨rfl, B0.out⟩
  have g4 : ((g.tx : Int) != (g'.tx : Int)) = false := by simp [h4]
  have H4 := Lib.hid h4
  clear h4
  by_cases h5 : g.la = g'.la
  rotate_left
  · have g5 : ((g.la : Int) != (g'.la : Int)) = true := bne_iff_ne.2 (by omega)
    obtain rfl : r = false := no_of HR.out (fun q => h5 q.2.2.2.2.1)
    clear h5 hb6
    go_wp2
    go_ret
    exact ⟨rfl, B0.out⟩
  have g5 : ((g.la : Int) != (g'.la : Int)) = false := by simp [h5]
  have H5 := Lib.hid h5
  clear h5
  by_cases h7 : g.tk = g'.tk
  rotate_left
  · have g7 : (g.tk != g'.tk) = true := bne_iff_ne.2 h7
    obtain rfl : r = false := no_of HR.out (fun q => h7 q.2.2.2.2.2.2)
    clear h7 hb6
    go_wp2
    go_ret
    exact ⟨rfl, B0.out⟩
  have g7 : (g.tk != g'.tk) = false := by simp [h7]
  have H7 := Lib.hid h7
  have H6 := Lib.hid hb6
  clear h7 hb6
  have HG := Lib.hid (R1.out.stage H25)
  have HG' := Lib.hid (R2.out.stage H25')
  go_wp2_with (first | (refine wpList_load_mid_g (by kernel_rfl) 33 (.tmp 49) rfl w.heap.size 6 rfl s.C _ HG.out Try.underlying33 rfl HZ.out ?_) | (refine wpList_load_mid_g (by kernel_rfl) 33 (.tmp 51) rfl (w.heap.size + 1) 6 rfl s'.C _ HG'.out Try.underlying33 rfl HZ'.out ?_))
  with_reducible refine (ks.out _ B0.out).mono ?_
  rintro e2 w2 ⟨rfl, hq2⟩
  replace R1 := Lib.hid (R1.out.to hq2)
  replace R2 := Lib.hid (R2.out.to hq2)
  replace B0 := Lib.hid (B0.out.trans (hq2.mono B0.out.size))
  clear hq2 ks HG HG' HZ HZ' kl g1 g3 g4 g5 g7 a31 d31 a0 a1 a2 a3 a4 a5 az0 az1 az2 az3 az4 az5 d0 d1 d2 d3 d4 d5 dz0 dz1 dz2 dz3 dz4 dz5 alt alu dlt dlu
  cases b6
  · obtain rfl : r = false := no_of HR.out (fun q => of_decide_eq_false H6.out q.2.2.2.2.2.1)
    go_wp2
    go_ret
    exact ⟨rfl, B0.out⟩
  go_wp2
  go_loopw [5] (fun i wr => ∃ k : Nat, k ≤ n ∧ i = .int .i64 (k : Int) ∧ Hid (g.bank.take k = g'.bank.take k) ∧ Hid (Below w2.heap.size w2 wr)) (fun i _ => n - (intOf i).toNat)
  case atStart => exact ⟨0, by omega, rfl, Lib.hid (by simp), Lib.hid (Below.refl _ _)⟩
  case round =>
    rename World => wr
    obtain ⟨k, hk, rfl, HT, BW⟩ := hrel
    replace R1 := Lib.hid (R1.out.to BW.out)
    replace R2 := Lib.hid (R2.out.to BW.out)
    replace B0 := Lib.hid (B0.out.trans (BW.out.mono B0.out.size))
    by_cases hlt : k < n
    · obtain ⟨ba, oa, x, hA, hba, hx, hcx⟩ := (IS.out.to B0.out).sq.at_ (j := k) (by rw [HN.out]; exact hlt)
      obtain ⟨bb, ob, y, hA', hbb, hy, hcy⟩ := (IS'.out.to B0.out).sq.at_ (j := k) (by rw [HN'.out]; exact hlt)
      have a0 : wr.cell? ⟨w.heap.size, 0, none⟩ = some (.slice (some ⟨ba, oa, none⟩) n c) := by
        have h9 := R1.out.cells 0
        rw [← HN.out, ← hA]; exact h9
      have d0 : wr.cell? ⟨w.heap.size + 1, 0, none⟩ = some (.slice (some ⟨bb, ob, none⟩) n c') := by
        have h9 := R2.out.cells 0
        rw [← HN'.out, ← hA']; exact h9
      have hltI : (k : Int) < (n : Int) := by omega
      have h0I : (0 : Int) ≤ (k : Int) := by omega
      have HX := Lib.hid hx
      have HY := Lib.hid hy
      clear hx hy hA hA' hba hbb
      go_upto_region 6 with fail
      by_cases hxy : x = y
      rotate_left
      · have gx : ((x : Int) != (y : Int)) = true := bne_iff_ne.2 (by omega)
        obtain rfl : r = false := no_of HR.out (fun q => hxy (by
          have h9 := HX.out
          rw [q.1, HY.out] at h9
          exact (Option.some.inj h9).symm))
        clear hxy
        go_quiet (fail)
        go_wp2
        go_ret
        exact ⟨rfl, by first | exact B0.out | exact bel_drewN B0.out _⟩
      have gx : ((x : Int) != (y : Int)) = false := by simp [hxy]
      have HXY := Lib.hid hxy
      clear hxy
      go_quiet (fail)
      go_wp2
      go_roundw
      case rel => exact ⟨k + 1, by omega, by go_num, Lib.hid (take_next HT.out HX.out HY.out HXY.out), Lib.hid (by first | exact bel_drewN BW.out _ | exact BW.out)⟩
      case measure => simp [intOf]; omega
    · obtain rfl : k = n := by omega
      have hb : g.bank = g'.bank := by
        have := HT.out
        rwa [List.take_of_length_le (by rw [HN.out]; exact Nat.le_refl _), List.take_of_length_le (by rw [HN'.out]; exact Nat.le_refl _)] at this
      obtain rfl : r = true := HR.out.2 ⟨hb, HL.out, H3.out, H4.out, H5.out, of_decide_eq_true H6.out, H7.out⟩
      have a0 : wr.cell? ⟨w.heap.size, 0, none⟩ = some (.slice A k c) := by
        have h9 := R1.out.cells 0
        rw [← HN.out]; exact h9
      clear hb
      go_wp2
      go_ret
      exact ⟨rfl, B0.out⟩
set_option maxHeartbeats 1000000 in
theorem ragright_any (r : Bool) (w : World) (h : AgIs A c s g w base) (hr : r = true ↔ g.right) :
    Calls Try.prog 19 #[.agg (agC A c s g).toArray] w fun e w' => e = .returned (.bool r) ∧ Below w.heap.size w w' := by
  unfold Ag.right at hr
  obtain ⟨rb, hrb⟩ : ∃ b, Ls.right g.l = b := ⟨_, rfl⟩
  have krt := Lib.hid (fun W => ref_right_any g.l W h.fit)
  have kb := Lib.hid (fun W (hW : Below w.heap.size w W) => rblocks_S W (h.st.to hW))
  rw [hrb] at krt hr
  have HR := Lib.hid hr
  have IS := Lib.hid h
  have H25 := h.C25
  have HZ : Hid ((Try.prog.info? 33).map (·.size) = some s.C.length) := Lib.hid (by rw [H25]; exact size_25)
  clear hr h hrb
  go_enter Try.func19, Try.ntmps19
  go_upto_region 1 with fail
  obtain ⟨w0, hw0⟩ : ∃ w_q_, w_q_ = w.alloc (.cells (agC A c s g).toArray 35) := ⟨_, rfl⟩
  rw [← hw0]
  have hin := in_a w (agC A c s g)
  rw [← hw0] at hin
  obtain ⟨r1, b0, z0⟩ := hin
  have R1 := Lib.hid r1
  have B0 := Lib.hid b0
  clear hw0 r1 b0
  have a0 : w0.cell? ⟨w.heap.size, 0, none⟩ = some (.slice A g.bank.length c) := R1.out.cells 0
  have a4 : w0.cell? ⟨w.heap.size, 4, none⟩ = some (.int .u32 (g.tx : Int)) := R1.out.cells 4
  have a6 : w0.cell? ⟨w.heap.size, 6, none⟩ = some (.int .u32 (g.stx : Int)) := (R1.out.cell (agL_st (Stv.C_tx s))).trans (by rw [IS.out.st.tx])
  have a31 : w0.cell? ⟨w.heap.size, 31, none⟩ = some (.int .i64 g.tk) := R1.out.cell (agL_tk H25)
  by_cases h1 : g.bank.length = 64
  rotate_left
  · have g1 : ((g.bank.length : Int) != 64) = true := bne_iff_ne.2 (by omega)
    obtain rfl : r = false := no_of HR.out (fun q => h1 q.1)
    clear h1
    go_wp2
    go_ret
    exact ⟨rfl, B0.out⟩
  have g1 : ((g.bank.length : Int) != 64) = false := by simp [h1]
  have H64 := Lib.hid h1
  clear h1
  by_cases h2 : g.tk < 1
  · have g2 : decide (g.tk < 1) = true := decide_eq_true h2
    obtain rfl : r = false := no_of HR.out (fun q => by have := q.2.1; omega)
    clear h2
    go_wp2
    go_ret
    exact ⟨rfl, B0.out⟩
  have g2 : decide (g.tk < 1) = false := decide_eq_false h2
  by_cases h3 : g.tx = g.stx
  rotate_left
  · have g3 : ((g.tx : Int) != (g.stx : Int)) = true := bne_iff_ne.2 (by omega)
    obtain rfl : r = false := no_of HR.out (fun q => h3 q.2.2.1)
    clear h3 h2
    go_wp2
    go_ret
    exact ⟨rfl, B0.out⟩
  have g3 : ((g.tx : Int) != (g.stx : Int)) = false := by simp [h3]
  have H3 := Lib.hid h3
  have H2 := Lib.hid h2
  clear h3 h2
  have HG := Lib.hid (R1.out.stage H25)
  go_wp2_with (refine wpList_load_mid rfl 33 (.tmp 23) rfl w.heap.size 6 rfl s.C _ HG.out Try.underlying33 rfl HZ.out ?_)
  with_reducible refine (kb.out _ B0.out).mono ?_
  rintro e2 w2 ⟨A2, c2, bl, rfl, hp, hB, hl, hc, hnl, hb2⟩
  obtain ⟨n, hn⟩ : ∃ n, bl.length = n := ⟨_, rfl⟩
  have hn8 : n ≤ 8 := by
    have h9 := ssThere_length g.S
    rw [← hp, IS.out.S8] at h9
    simp at h9
    omega
  have HTN : Hid ((ssThere g.S).length = n) := Lib.hid (by rw [← hp]; simp [hn])
  have HN := Lib.hid hn
  have HP := Lib.hid hp
  have HB := Lib.hid hB
  replace R1 := Lib.hid (R1.out.to hb2)
  replace B0 := Lib.hid (B0.out.trans (hb2.mono B0.out.size))
  rw [hn]
  clear hb2 kb hp hB hl hc hnl hn HG g1 g2 g3 a0 a4 a6 a31 HZ
  go_wp2
  go_loopw [4] (fun i wr => ∃ k : Nat, k ≤ n ∧ i = .int .i64 (k : Int) ∧ Hid (∀ j, j < k → ∀ b, bl[j]? = some b → Bk.fits b.a b.ws.length = true) ∧ Hid (Below w2.heap.size w2 wr)) (fun i _ => n - (intOf i).toNat)
  case atStart => exact ⟨0, by omega, rfl, Lib.hid (fun j hj => absurd hj (Nat.not_lt_zero _)), Lib.hid (Below.refl _ _)⟩
  case round =>
    rename World => wr
    obtain ⟨k, hk, rfl, HA, BW⟩ := hrel
    replace R1 := Lib.hid (R1.out.to BW.out)
    replace B0 := Lib.hid (B0.out.trans (BW.out.mono B0.out.size))
    by_cases hlt : k < n
    · obtain ⟨g1, o1, x, rfl, hg1, hx, hxo, hx0, hx1⟩ := (HB.out.to BW.out).at_ (k := k) (by rw [HN.out]; exact hlt)
      have e1 : (k : Int) < (n : Int) := by omega
      have HX := Lib.hid hxo
      have HGX := Lib.hid hx
      obtain ⟨f, hf⟩ : ∃ f, Bk.fits x.a x.ws.length = f := ⟨_, rfl⟩
      have HF := Lib.hid hf
      have kfx := Lib.hid (fun W => rfits_any x.a x.ws.length x.c x.A f W hxo.lo hxo.hi (by have := hxo.ln; have := hxo.cap; omega) hf)
      clear hx hxo hf
      go_wp2_with fail
      with_reducible refine (kfx.out _).mono ?_
      rintro e3 w3 ⟨rfl, hb3⟩
      replace B0 := Lib.hid (B0.out.trans (hb3.mono B0.out.size))
      replace BW := Lib.hid (BW.out.trans (hb3.mono BW.out.size))
      clear hb3 hx0 hx1 kfx
      cases f
      · obtain rfl : r = false := no_of HR.out (fun q => by
          have h9 := q.2.2.2.1
          rw [← HP.out, Bk.fit_take_bad (prs_get HGX.out) HF.out] at h9
          cases h9)
        go_wp2
        go_ret
        exact ⟨rfl, B0.out⟩
      · go_wp2
        go_roundw
        case rel =>
          refine ⟨k + 1, by omega, by go_num, Lib.hid (fun j hj b hb => ?_), BW⟩
          by_cases hjk : j < k
          · exact HA.out j hjk b hb
          · obtain rfl : j = k := by omega
            rw [HGX.out] at hb
            obtain rfl := Option.some.inj hb
            exact HF.out
        case measure => simp [intOf]; omega
    · obtain rfl : k = n := by omega
      have hft : Bk.fit (ssThere g.S) = true := by
        rw [← HP.out, Bk.fit_iff]
        intro p hp
        obtain ⟨b, hb, rfl⟩ := List.mem_map.1 hp
        obtain ⟨j, hj⟩ := List.getElem?_of_mem hb
        exact HA.out j (by have := (List.getElem?_eq_some_iff.1 hj).1; rw [HN.out] at this; exact this) b hj
      have hrr : r = true ↔ (rb = true ∧ ((g.ph = 0 ∧ g.l.o = 0 ∧ g.tx = 0 ∧ k = 0) ∨ (g.ph = 1 ∧ g.l.o ≠ 0 ∧ 0 < g.l.l ∧ g.la < g.tx) ∨ (g.ph = 2 ∧ g.l.o ≠ 0 ∧ g.l.l = -1 ∧ g.la < g.tx ∧ firsts g.S))) := by
        rw [HR.out, ← HTN.out, List.length_eq_zero_iff]
        exact ⟨fun q => q.2.2.2.2, fun q => ⟨H64.out, by have := H2.out; omega, H3.out, hft, q⟩⟩
      replace HR := Lib.hid hrr
      clear hrr hft HA HB HP BW H64 H2 H3
      have a1 : wr.cell? ⟨w.heap.size, 1, none⟩ = some (.int .u16 (g.l.o : Int)) := R1.out.cells 1
      have a2 : wr.cell? ⟨w.heap.size, 2, none⟩ = some (.int .i64 g.l.l) := R1.out.cells 2
      have alt := R1.out.lt
      go_wp2_with fail
      with_reducible refine (krt.out _).mono ?_
      rintro e4 w4 ⟨rfl, hb4⟩
      replace R1 := Lib.hid (R1.out.to hb4)
      replace B0 := Lib.hid (B0.out.trans (hb4.mono B0.out.size))
      clear hb4 krt a1 a2 alt wr
      rename World => wr
      cases rb
      · obtain rfl : r = false := no_of HR.out (fun q => by cases q.1)
        go_wp2
        go_ret
        exact ⟨rfl, B0.out⟩
      have a1 : wr.cell? ⟨w.heap.size, 1, none⟩ = some (.int .u16 (g.l.o : Int)) := R1.out.cells 1
      have a2 : wr.cell? ⟨w.heap.size, 2, none⟩ = some (.int .i64 g.l.l) := R1.out.cells 2
      have a3 : wr.cell? ⟨w.heap.size, 3, none⟩ = some (.int .u8 (g.ph : Int)) := R1.out.cells 3
      have a4 : wr.cell? ⟨w.heap.size, 4, none⟩ = some (.int .u32 (g.tx : Int)) := R1.out.cells 4
      have a5 : wr.cell? ⟨w.heap.size, 5, none⟩ = some (.int .u32 (g.la : Int)) := R1.out.cells 5
      have alt := R1.out.lt
      by_cases h0 : g.ph = 0
      · have q0 : ((g.ph : Int) == 0) = true := by simp [h0]
        by_cases h4 : g.l.o = 0
        rotate_left
        · have q4 : ((g.l.o : Int) == 0) = false := beq_eq_false_iff_ne.2 (by omega)
          obtain rfl : r = false := no_of HR.out (fun q => by omega)
          clear h0 h4
          go_wp2
          go_ret
          exact ⟨rfl, B0.out⟩
        have q4 : ((g.l.o : Int) == 0) = true := by simp [h4]
        by_cases h5 : g.tx = 0
        rotate_left
        · have q5 : ((g.tx : Int) == 0) = false := beq_eq_false_iff_ne.2 (by omega)
          obtain rfl : r = false := no_of HR.out (fun q => by omega)
          clear h0 h4 h5
          go_wp2
          go_ret
          exact ⟨rfl, B0.out⟩
        have q5 : ((g.tx : Int) == 0) = true := by simp [h5]
        by_cases h6 : k = 0
        rotate_left
        · have q6 : ((k : Int) == 0) = false := beq_eq_false_iff_ne.2 (by omega)
          obtain rfl : r = false := no_of HR.out (fun q => by omega)
          clear h0 h4 h5 h6
          go_wp2
          go_ret
          exact ⟨rfl, B0.out⟩
        have q6 : ((k : Int) == 0) = true := by simp [h6]
        obtain rfl : r = true := HR.out.2 ⟨rfl, .inl ⟨h0, h4, h5, h6⟩⟩
        clear h0 h4 h5 h6
        go_wp2
        go_ret
        exact ⟨rfl, B0.out⟩
      have q0 : ((g.ph : Int) == 0) = false := beq_eq_false_iff_ne.2 (by omega)
      by_cases h1 : g.ph = 1
      · have q1 : ((g.ph : Int) == 1) = true := by simp [h1]
        by_cases h4 : g.l.o = 0
        · have q4 : ((g.l.o : Int) != 0) = false := by simp [h4]
          obtain rfl : r = false := no_of HR.out (fun q => by omega)
          clear h0 h1 h4
          go_wp2
          go_ret
          exact ⟨rfl, B0.out⟩
        have q4 : ((g.l.o : Int) != 0) = true := bne_iff_ne.2 (by omega)
        by_cases h5 : 0 < g.l.l
        rotate_left
        · have q5 : decide (0 < g.l.l) = false := decide_eq_false h5
          obtain rfl : r = false := no_of HR.out (fun q => by omega)
          clear h0 h1 h4 h5
          go_wp2
          go_ret
          exact ⟨rfl, B0.out⟩
        have q5 : decide (0 < g.l.l) = true := decide_eq_true h5
        by_cases h6 : g.la < g.tx
        rotate_left
        · have q6 : decide (g.la < g.tx) = false := decide_eq_false h6
          obtain rfl : r = false := no_of HR.out (fun q => by omega)
          clear h0 h1 h4 h5 h6
          go_wp2
          go_ret
          exact ⟨rfl, B0.out⟩
        have q6 : decide (g.la < g.tx) = true := decide_eq_true h6
        obtain rfl : r = true := HR.out.2 ⟨rfl, .inr (.inl ⟨h1, h4, h5, h6⟩)⟩
        clear h0 h1 h4 h5 h6
        go_wp2
        go_ret
        exact ⟨rfl, B0.out⟩
      have q1 : ((g.ph : Int) == 1) = false := beq_eq_false_iff_ne.2 (by omega)
      by_cases h2 : g.ph = 2
      rotate_left
      · have q2 : ((g.ph : Int) == 2) = false := beq_eq_false_iff_ne.2 (by omega)
        obtain rfl : r = false := no_of HR.out (fun q => by omega)
        clear h0 h1 h2
        go_wp2
        go_ret
        exact ⟨rfl, B0.out⟩
      have q2 : ((g.ph : Int) == 2) = true := by simp [h2]
      replace HR : Hid (r = true ↔ (g.l.o ≠ 0 ∧ g.l.l = -1 ∧ g.la < g.tx ∧ firsts g.S)) := Lib.hid (by
        rw [HR.out]
        constructor
        · rintro ⟨_, z | z | z⟩
          · omega
          · omega
          · exact z.2
        · exact fun z => ⟨rfl, .inr (.inr ⟨h2, z⟩)⟩)
      clear h0 h1 h2
      have HFR : Hid ((∀ j, j < k → s.hs.getD j false = true) ↔ firsts g.S) := Lib.hid (by
        unfold firsts
        rw [HTN.out]
        constructor
        · intro z i hi
          rw [← IS.out.st.S, Stv.S_isSome s (by omega)]
          exact z i hi
        · intro z i hi
          have := z i hi
          rwa [← IS.out.st.S, Stv.S_isSome s (by omega)] at this)
      have hlh := IS.out.st.ok.lh
      clear a1 a2 a4 a5
      go_wp2
      clear a3
      go_loopw [5] (fun i wx => ∃ j : Nat, j ≤ k ∧ i = .int .i64 (j : Int) ∧ Hid (∀ i, i < j → s.hs.getD i false = true) ∧ wx = wr) (fun i _ => k - (intOf i).toNat)
      case atStart => exact ⟨0, by omega, rfl, Lib.hid (fun j hj => absurd hj (Nat.not_lt_zero _)), rfl⟩
      case round =>
        rename World => wx
        obtain ⟨j, hj, rfl, HJ, rfl⟩ := hrel
        by_cases hlj : j < k
        · obtain ⟨y, hy⟩ : ∃ y, s.hs.getD j false = y := ⟨_, rfl⟩
          have d0 : wx.cell? ⟨w.heap.size, 7 + j, none⟩ = some (.bool y) := by
            rw [show 7 + j = 6 + (1 + j) by omega]
            exact R1.out.cell (agL_st (Stv.C_have (by rw [← hy]; exact getD_hs (by omega))))
          have hj8 : (j : Int) < 8 := by omega
          have h0I : (0 : Int) ≤ (j : Int) := by omega
          have hltI : (j : Int) < (k : Int) := by omega
          have HY := Lib.hid hy
          clear hy
          cases y
          · obtain rfl : r = false := no_of HR.out (fun q => by
              have := HFR.out.2 q.2.2.2 j hlj
              rw [HY.out] at this
              cases this)
            go_wp2
            go_ret
            exact ⟨rfl, B0.out⟩
          · go_wp2
            go_roundw
            case rel =>
              refine ⟨j + 1, by omega, by go_num, Lib.hid (fun i hi => ?_), by first | rfl | trivial⟩
              by_cases hij : i < j
              · exact HJ.out i hij
              · obtain rfl : i = j := by omega
                exact HY.out
            case measure => simp [intOf]; omega
        · obtain rfl : j = k := by omega
          have hfs := HFR.out.1 HJ.out
          have hrr : r = true ↔ (g.l.o ≠ 0 ∧ g.l.l = -1 ∧ g.la < g.tx) := by
            rw [HR.out]
            exact ⟨fun q => ⟨q.1, q.2.1, q.2.2.1⟩, fun q => ⟨q.1, q.2.1, q.2.2, hfs⟩⟩
          have a1 : wx.cell? ⟨w.heap.size, 1, none⟩ = some (.int .u16 (g.l.o : Int)) := R1.out.cells 1
          have a2 : wx.cell? ⟨w.heap.size, 2, none⟩ = some (.int .i64 g.l.l) := R1.out.cells 2
          have a4 : wx.cell? ⟨w.heap.size, 4, none⟩ = some (.int .u32 (g.tx : Int)) := R1.out.cells 4
          have a5 : wx.cell? ⟨w.heap.size, 5, none⟩ = some (.int .u32 (g.la : Int)) := R1.out.cells 5
          clear hfs
          by_cases h4 : g.l.o = 0
          · have q4 : ((g.l.o : Int) != 0) = false := by simp [h4]
            obtain rfl : r = false := no_of hrr (fun q => q.1 h4)
            clear h4 hrr
            go_wp2
            go_ret
            exact ⟨rfl, B0.out⟩
          have q4 : ((g.l.o : Int) != 0) = true := bne_iff_ne.2 (by omega)
          by_cases h5 : g.l.l = -1
          rotate_left
          · have q5 : (g.l.l == -1) = false := beq_eq_false_iff_ne.2 h5
            obtain rfl : r = false := no_of hrr (fun q => h5 q.2.1)
            clear h4 h5 hrr
            go_wp2
            go_ret
            exact ⟨rfl, B0.out⟩
          have q5 : (g.l.l == -1) = true := by simp [h5]
          by_cases h6 : g.la < g.tx
          rotate_left
          · have q6 : decide (g.la < g.tx) = false := decide_eq_false h6
            obtain rfl : r = false := no_of hrr (fun q => h6 q.2.2)
            clear h4 h5 h6 hrr
            go_wp2
            go_ret
            exact ⟨rfl, B0.out⟩
          have q6 : decide (g.la < g.tx) = true := decide_eq_true h6
          obtain rfl : r = true := hrr.2 ⟨h4, h5, h6⟩
          clear h4 h5 h6 hrr
          go_wp2
          go_ret
          exact ⟨rfl, B0.out⟩
end
end Go.Proofs.Ytajbghjjpebndaa
