/- The walk of StageRefuses, where nothing is put. -/
import Derived.Test.YtopkncbpkccfbaaStgRf0
namespace Go.Proofs.Ytopkncbpkccfbaa
open Go.RowKit
set_option linter.unusedVariables false
attribute [local go_sem] Later.cell Later.frozen setCell_twice
set_option maxRecDepth 100000 in
set_option maxHeartbeats 2000000 in
theorem stageRefuses_no (n : Int) (x : Blk) (o t ai to : Nat) (w : World) (hx : x.Ok w w.heap.size) (ho : o < 65536) (ht : t < 4294967296) (hai : ai < 256) (hto : to < 65536) (hxl : x.ws.length ≤ 100) (fx : Bool) (hfx : Bk.fits x.a x.ws.length = fx) (hno : fx = false ∨ n < 0 ∨ 7 < n) :
    Calls Try.prog 5 #[.int .i64 n, .agg #[.int .i64 x.a, .slice x.A x.ws.length x.c], .int .u16 (o : Int), .int .u32 (t : Int), .int .u8 (ai : Int), .int .u16 (to : Int)] w fun e w' => e = .returned (.bool true) ∧ Below w.heap.size w w' := by
  obtain ⟨i0, hif, hz0, hz1, hz2⟩ := info_parts info_w16
  have g1 : decide ((100 : Int) < (x.ws.length : Int)) = false := by simp; omega
  have hx100 : x.ws.length ≤ 100 := hxl
  have kx := Lib.hid (fun W (h : Below w.heap.size w W) => hx.to h)
  obtain ⟨k, hk⟩ : ∃ k : Nat, ai % 20 = k := ⟨_, rfl⟩
  have hk20 : k < 20 := by omega
  have hkI : (ai : Int) % 20 = (k : Int) := by omega
  have hfy := Bk.fitP_fits x.pr
  obtain ⟨p, hP⟩ : ∃ p, Bk.fitP x.pr = p := ⟨_, rfl⟩
  rw [hP] at hfy
  obtain ⟨ya, yws⟩ := p
  simp only at hfy
  have HPP := Lib.hid hP
  have HFY := Lib.hid hfy
  clear hk hP hfy
  have kf := fun (W : World) (b : Bool) (hb : Bk.fits x.a x.ws.length = b) => fits_any x.a x.ws.length x.c x.A b W hx.lo hx.hi (Nat.le_trans hx.ln hx.cap) hb
  obtain ⟨E, hE0, kp0⟩ : ∃ E : Int, E ≠ 0 ∧ ∀ W, Calls Try.prog 15 #[.agg (zt t), .int .i64 n, .agg #[.int .i64 x.a, .slice x.A x.ws.length x.c]] W fun e w' => e = .returned (.tuple #[.agg z25, .int .i64 E]) ∧ Below W.heap.size W w' := by
    by_cases h : n < 0 ∨ 7 < n
    · exact ⟨2, by decide, fun W => put_bad0 (St0 t).C n x.a x.A x.c _ W h⟩
    · exact ⟨20, by decide, fun W => put_nofit0 (St0 t).C n x.a x.A x.c _ W (by omega) hx.lo hx.hi (Nat.le_trans hx.ln hx.cap) (by rw [hfx]; rcases hno with h1 | h1; exact h1; exact absurd h1 h)⟩
  have gE : (E == 0) = false := beq_eq_false_iff_ne.2 hE0
  have kp := Lib.hid kp0
  have kfx := Lib.hid (fun W => kf W fx hfx)
  have kbl : Hid (∀ W, Calls Try.prog 16 #[.agg z25] W (BlocksP W Stv.zero.there)) := Lib.hid (fun W => blocks_any Stv.zero W (Stv.zero_ok _ _) (by decide))
  have kbk : Hid (∀ W, Calls Try.prog 17 #[.agg z25, .int .u16 (o : Int), .int .i64 n] W (Makes u16w 22 W (backL o 0 (List.replicate 8 false) (prs (List.replicate 8 Blk.zero)) n))) := Lib.hid (fun W => back_any Stv.zero o n W (Stv.zero_ok _ _) ho)
  have HB := Lib.hid (show backL o 0 (List.replicate 8 false) (prs (List.replicate 8 Blk.zero)) n = List.replicate 20 0 by
    unfold backL
    rw [if_neg]
    · rfl
    · rintro ⟨_, h2, h3⟩
      have : ∀ j, (List.replicate 8 false).getD j false = false := fun j => by
        rw [List.getD_eq_getElem?_getD]
        cases hg : (List.replicate 8 false)[j]? with
        | none => rfl
        | some x => rw [List.eq_of_mem_replicate (List.mem_of_getElem? hg)]; rfl
      rw [this] at h3
      cases h3)
  clear kf kp0 hE0 hfx
  cases fx
  · clear hno
    go_enter Try.func5, Try.ntmps5
    go_wp2_with fail
    (with_reducible refine (kp.out _).mono ?_)
    rintro e_ w1 ⟨rfl, hb1⟩
    have d0 : w1.cell? ⟨w.heap.size, 0, none⟩ = some (.int .i64 x.a) := (hb1.cell (p := ⟨w.heap.size, 0, none⟩) (by simp)).trans (by simp)
    have d1 : w1.cell? ⟨w.heap.size, 1, none⟩ = some (.slice x.A x.ws.length x.c) := (hb1.cell (p := ⟨w.heap.size, 1, none⟩) (by simp)).trans (by simp)
    have hbw1 : Below w.heap.size w w1 := (bel_alloc (Below.refl _ _) _).trans (hb1.mono (by simp))
    have hs1 : w.heap.size < w1.heap.size := by have := hb1.size; simp at this; omega
    clear hb1
    go_wp2_with (refine wpList_store_row rfl 42 (.tmp 13) (.tmp 37) rfl w1.heap.size z25 rfl rfl 42 z25 (heap_alloc_new w1 _) size_z25 rfl one_z25 ?_; obtain ⟨w2, hw2⟩ : ∃ w2, w2 = (w1.alloc (.cells z25 42)).setRow w1.heap.size z25 := ⟨_, rfl⟩; rw [← hw2]; have hb2 : Below w1.heap.size w1 w2 := (by rw [hw2]; exact below_setRow (bel_alloc (Below.refl _ _) _) (Nat.le_refl _) _); have R2 : RowAt w2 w1.heap.size 42 Stv.zero.C := (by rw [hw2]; exact RowAt.row (C := Stv.zero.C) (heap_alloc_new w1 _) Stv.zero.C); replace d0 := (hb2.cell (p := ⟨w.heap.size, 0, none⟩) hs1).trans d0; replace d1 := (hb2.cell (p := ⟨w.heap.size, 1, none⟩) hs1).trans d1; have HR2 := Lib.hid R2; clear hw2 R2)
    have hbw2 : Below w.heap.size w w2 := hbw1.trans (hb2.mono hbw1.size)
    have hs2 : w.heap.size < w2.heap.size := by have := hb2.size; omega
    clear hb2 hbw1
    with_reducible refine (kfx.out _).mono ?_
    rintro e_ w3 ⟨rfl, hb3⟩
    have d2 := (hb3.cell (p := ⟨w.heap.size, 0, none⟩) hs2).trans d0
    have d3 := (hb3.cell (p := ⟨w.heap.size, 1, none⟩) hs2).trans d1
    have HR3 := Lib.hid (HR2.out.to hb3)
    have t0 : w3.cell? ⟨w1.heap.size, 0, none⟩ = some (.int .u32 0) := HR3.out.cell rfl
    have hbw3 : Below w.heap.size w w3 := hbw2.trans (hb3.mono hbw2.size)
    have hs3 : w.heap.size < w3.heap.size := by have := hb3.size; omega
    have hs13 : w1.heap.size < w3.heap.size := HR3.out.lt
    clear d0 d1 hb3 hbw2
    go_wp2_with (refine wpList_load_row_g rfl 42 (.tmp 13) rfl w1.heap.size rfl 42 z25 (0, 0) _ HR3.out Try.underlying42 rfl size_z25 ?_)
    (with_reducible refine (kbl.out _).mono ?_)
    rintro e_ w4 ⟨A4, c4, bl, rfl, hp4, _, _, _, _, hb4⟩
    have hbl : bl = [] := by
      have : prs bl = [] := hp4
      simpa [prs] using this
    subst hbl
    have d4 := (hb4.cell (p := ⟨w.heap.size, 0, none⟩) hs3).trans d2
    have d5 := (hb4.cell (p := ⟨w.heap.size, 1, none⟩) hs3).trans d3
    have HR4 := Lib.hid (HR3.out.to hb4)
    have hbw4 : Below w.heap.size w w4 := hbw3.trans (hb4.mono hbw3.size)
    have hs4 : w.heap.size < w4.heap.size := by have := hb4.size; omega
    clear d2 d3 hb4 hbw3 hp4
    go_wp2_with (first | (at_make; refine wpList_make_full _ rfl _ _ 24 rfl w4.heap.size 22 i0 (.int .u16 0) 1 Try.underlying24 hif hz0 hz1 _ _ _ _ 20 rfl rfl rfl rfl (by rw [hz2]; decide) (by decide) (Nat.le_refl _) ?_; intro w6 o6 hg6; have hb6 : Below w4.heap.size w4 w6 := (Below.refl _ _).grown hg6 (Nat.le_refl _) (by simp); have d6 := (hb6.cell (p := ⟨w.heap.size, 0, none⟩) hs4).trans d4; have d7 := (hb6.cell (p := ⟨w.heap.size, 1, none⟩) hs4).trans d5; have HR6 := Lib.hid (HR4.out.to hb6); have o6' : w6.ownsRow w4.heap.size 22 1 (.slice (some ⟨w4.heap.size, 0, none⟩) 20 20) 20 ((List.replicate 20 0).map u16w) := (by rw [← vals]; rw [← made_vals]; exact o6); clear hg6 o6) | (refine wpList_load_row_g rfl 42 (.tmp 13) rfl w1.heap.size rfl 42 z25 (0, 0) _ HR6.out Try.underlying42 rfl size_z25 ?_))
    have hbw6 : Below w.heap.size w w6 := hbw4.trans (hb6.mono hbw4.size)
    have hs6 : w.heap.size < w6.heap.size := by have := hb6.size; omega
    (with_reducible refine (kbk.out _).mono ?_)
    rintro e_ w7 ⟨A7, c7, rfl, o7, hb7⟩
    have HL20 := Lib.hid (show (backL o 0 (List.replicate 8 false) (prs (List.replicate 8 Blk.zero)) n).length = 20 from backL_length _ _ _ _ _)
    rw [HL20.out, HB.out] at o7
    rw [HL20.out]
    have d8 := (hb7.cell (p := ⟨w.heap.size, 0, none⟩) hs6).trans d6
    have d9 := (hb7.cell (p := ⟨w.heap.size, 1, none⟩) hs6).trans d7
    have hbw7 : Below w.heap.size w w7 := hbw6.trans (hb7.mono hbw6.size)
    have hs7 : w.heap.size < w7.heap.size := by have := hb7.size; omega
    have o67 := own_below o6' hb7
    clear d4 d5 d6 d7 hb6 hb7 hbw6 hbw4 o6'
    go_wp2_with fail
    refine (lowWords_any A7 _ (List.replicate 20 0) (List.replicate 20 0) _ _ 20 20 true w7 (by simp) (by simp) (Sq.of_own o7) (Sq.of_own o67) (by simp) (by simp)).mono ?_
    rintro e_x8 w_x8 ⟨rfl, hb_x8⟩
    obtain ⟨x8, rfl⟩ := later_is hb_x8
    clear hb_x8
    have hz_x8 := x8.bel.size
    try simp at hz_x8
    have d10 := (x8.bel.cell (p := ⟨w.heap.size, 0, none⟩) hs7).trans d8
    have d11 := (x8.bel.cell (p := ⟨w.heap.size, 1, none⟩) hs7).trans d9
    have HBM := Lib.hid (bel_later x8 hbw7)
    clear d8 d9 o67 o7
    have kfit := Lib.hid (fun W (h : Below w.heap.size w W) => fit_one (some ⟨W.heap.size, 0, none⟩) x (W.alloc (.cells #[.int .i64 x.a, .slice x.A x.ws.length x.c] 26)) (Blks.one rfl (hx.to h)))
    go_wp2_with fail
    (with_reducible refine (kfit.out _ HBM.out).mono ?_)
    rintro e_ w5 ⟨g, oo, c, y, rfl, hyp, hyo, hg, hc0, hc1, hc, hcc, hb5⟩
    have hb5w : Below w.heap.size w w5 := (bel_alloc HBM.out _).trans (hb5.mono (by have := HBM.out.size; simp; omega))
    rw [HPP.out] at hyp
    obtain ⟨ya', yws', yA, yc⟩ := y
    obtain ⟨rfl, rfl⟩ : ya' = ya ∧ yws' = yws := by simpa using hyp
    simp only at hc0 hc1
    have kw := Lib.hid (fun W (h : Below w5.heap.size w5 W) => words_lit o t 0 ya' yws' yA yc _ (Stg.tagged o t 0 ya' yws') 20 0 W ho ht rfl (hyo.to h).sq hyo.lo hyo.hi (Nat.le_trans hyo.ln hyo.cap) hyo.nl (by unfold Stg.words; rw [if_neg (by omega), if_pos HFY.out]; rfl) (Stg.tagged_length _ _ _ _ _))
    clear hyp hb5
    go_wp2_with fail
    with_reducible refine (kw.out _ (by repeat (first | exact Below.refl _ _ | refine bel_later _ ?_ | refine bel_alloc ?_ _ | refine bel_set ?_ (by first | omega | (simp; done) | (simp; omega)) _ | refine Below.drew ?_ | assumption))).mono ?_
    rintro e_z1 w_z1 ⟨Az1, cz1, rfl, oz1, hb_z1⟩
    obtain ⟨z1, rfl⟩ := later_is hb_z1
    clear hb_z1
    have hz_z1 := z1.bel.size
    try simp at hz_z1
    have l_z1_0 : w5.heap.size < z1.val.heap.size := by omega
    have m_z1_0 : w5.heap.size < z1.val.heap.size + 1 := by omega
    have q_ := z1.bel.cell (p := ⟨w5.heap.size, 0, none⟩) (by first | omega | (simp; done) | (simp; omega))
    generalize c_z1_0_0 : z1.val.cell? ⟨w5.heap.size, 0, none⟩ = q at q_
    first | (have q2_ : q = some _ := q_; subst q2_) | (simp [go_sem] at q_; have q2_ : q = some _ := q_; subst q2_) | (simp [go_sem, *] at q_; have q2_ : q = some _ := q_; subst q2_)
    have q_ := z1.bel.frozen (p := ⟨w5.heap.size, 0, none⟩) (by first | omega | (simp; done) | (simp; omega))
    generalize z_z1_0_0 : z1.val.frozen? ⟨w5.heap.size, 0, none⟩ = q at q_
    first | (have q2_ : q = false := q_; subst q2_) | (simp [go_sem] at q_; have q2_ : q = false := q_; subst q2_) | (simp [go_sem, *] at q_; have q2_ : q = false := q_; subst q2_)
    have q_ := z1.bel.cell (p := ⟨w5.heap.size, 1, none⟩) (by first | omega | (simp; done) | (simp; omega))
    generalize c_z1_0_1 : z1.val.cell? ⟨w5.heap.size, 1, none⟩ = q at q_
    first | (have q2_ : q = some _ := q_; subst q2_) | (simp [go_sem] at q_; have q2_ : q = some _ := q_; subst q2_) | (simp [go_sem, *] at q_; have q2_ : q = some _ := q_; subst q2_)
    have q_ := z1.bel.frozen (p := ⟨w5.heap.size, 1, none⟩) (by first | omega | (simp; done) | (simp; omega))
    generalize z_z1_0_1 : z1.val.frozen? ⟨w5.heap.size, 1, none⟩ = q at q_
    first | (have q2_ : q = false := q_; subst q2_) | (simp [go_sem] at q_; have q2_ : q = false := q_; subst q2_) | (simp [go_sem, *] at q_; have q2_ : q = false := q_; subst q2_)
    obtain ⟨gw, rfl, hgb, hgl⟩ := own_some oz1 (by omega)
    have hgw : w5.heap.size < gw := by simp at hgb; omega
    obtain ⟨old, hold⟩ : ∃ old, (Stg.tagged o t 0 ya' yws')[k]? = some old := ⟨_, List.getElem?_eq_getElem (by rw [Stg.tagged_length]; exact hk20)⟩
    have k0 : z1.val.cell? ⟨gw, k, none⟩ = some (.int .u16 (old : Int)) := (oz1.cellAt k (by omega)).trans (map_get hold)
    have f0 := oz1.frozenAt k
    have hk20I : (k : Int) < 20 := by omega
    have os := own_set (i := k) (x := to) oz1
    have HU := Lib.hid (Stg.mem_set_u16 (k := k) (Stg.tagged_u16 (n := 0) (a := ya') ho ht (by omega) hyo.u) hto)
    have hLs : ((Stg.tagged o t 0 ya' yws').set k to).length = 20 := by rw [List.length_set, Stg.tagged_length]
    obtain ⟨v, hv⟩ : ∃ v, (Stg.tagged o t 0 ya' yws').set k to = v := ⟨_, rfl⟩
    rw [hv] at os hLs HU
    obtain ⟨r, hr⟩ : ∃ r, Stg.read v = r := ⟨_, rfl⟩
    have hrb := Stg.read_back (w := v) HU.out
    have hrn := Stg.read_bounds (v := v) HU.out
    rw [hr] at hrb hrn
    have HV := Lib.hid hv
    have HR := Lib.hid hr
    have HLS := Lib.hid hLs
    have HRB := Lib.hid hrb
    have hbz1 : Below w.heap.size w z1.val := bel_later z1 (bel_alloc hb5w _)
    have hgw0 : w.heap.size ≤ gw := by have := hb5w.size; omega
    have hne : gw ≠ w5.heap.size := by omega
    have e0 := keep_block (b := gw) (i := k) (u := .int .u16 (to : Int)) hne c_z1_0_0
    have e1 := keep_block (b := gw) (i := k) (u := .int .u16 (to : Int)) hne c_z1_0_1
    clear hv hr hold hLs hrb hgb
    obtain ⟨ro, rt, rn, ra, rws, re⟩ := r
    simp only at hrn
    have hru := hrn.2.2
    go_wp2_with fail
    with_reducible refine (read_lit v (some ⟨gw, 0, none⟩) cz1 20 ⟨ro, rt, rn, ra, rws, re⟩ (ro : Int) (rt : Int) (rn : Int) (ra : Int) re rws.length _ HLS.out (Sq.of_own os) HU.out (own_nil_c os).2 (own_cap os) HR.out rfl rfl rfl rfl rfl rfl).mono ?_
    rintro e_z2 w_z2 ⟨Az2, cz2, rfl, oz2, hb_z2⟩
    obtain ⟨z2, rfl⟩ := later_is hb_z2
    clear hb_z2
    have hz_z2 := z2.bel.size
    try simp at hz_z2
    have e2 := z2.keep e0
    have e3 := z2.keep e1
    have hbz2 : Below w.heap.size w z2.val := bel_later z2 (bel_set hbz1 hgw0 _)
    clear e0 e1 k0 f0 os hrn kw
    have he : re = (Stg.read ((Stg.tagged o t 0 ya' yws').set k to)).e := by rw [HV.out, HR.out]
    have hff := HFY.out
    have kz := Lib.hid (fun (W : World) (h0 : re = 0) => fits_any (ra : Int) rws.length cz2 Az2 true W (by omega) (by have := Bk.fits_iff.1 (HRB.out h0).1; omega) (by have := Bk.fits_iff.1 (HRB.out h0).1; omega) (HRB.out h0).1)
    have hzz : w5.heap.size < z2.val.heap.size := by omega
    have hyl : yws'.length ≤ 14 := (Bk.fits_iff.1 HFY.out).1
    have HE := Lib.hid he
    have HFF := Lib.hid hff
    clear he hff
    by_cases c3 : k = 3
    · subst c3
      have hl := Stg.set_num (o := o) (t := t) (n := 0) (to := to) HFF.out
      rw [← HE.out] at hl
      by_cases c8 : to < 8
      · obtain rfl : re = 0 := hl.1.2 c8
        have g8 : decide ((to : Int) < 8) = true := by simp; omega
        clear hl c8
        go_wp2_with fail
        refine (awake_any _).mono ?_
        rintro e_z9 w_z9 ⟨rfl, hb_z9⟩
        obtain ⟨z9, rfl⟩ := later_is hb_z9
        clear hb_z9
        have hz_z9 := z9.bel.size
        try simp at hz_z9
        go_wp2
        go_ret
        exact ⟨rfl, (by repeat (first | exact Below.refl _ _ | refine bel_later _ ?_ | refine bel_alloc ?_ _ | refine bel_set ?_ (by first | omega | (simp; done) | (simp; omega)) _ | refine Below.drew ?_ | assumption))⟩
      · obtain rfl : re = 2 := hl.2 (by omega)
        have g8 : decide ((to : Int) < 8) = false := by simp; omega
        clear hl c8
        go_wp2_with fail
        refine (awake_any _).mono ?_
        rintro e_z9 w_z9 ⟨rfl, hb_z9⟩
        obtain ⟨z9, rfl⟩ := later_is hb_z9
        clear hb_z9
        have hz_z9 := z9.bel.size
        try simp at hz_z9
        go_wp2
        go_ret
        exact ⟨rfl, (by repeat (first | exact Below.refl _ _ | refine bel_later _ ?_ | refine bel_alloc ?_ _ | refine bel_set ?_ (by first | omega | (simp; done) | (simp; omega)) _ | refine Below.drew ?_ | assumption))⟩
    have g3 : ((k : Int) == 3) = false := beq_eq_false_iff_ne.2 (by omega)
    by_cases c6 : 6 + yws'.length ≤ k
    · have g6 : decide (6 + (yws'.length : Int) ≤ (k : Int)) = true := by simp; omega
      have hl := Stg.set_high (o := o) (t := t) (n := 0) (to := to) HFF.out (by omega) c6 hk20
      rw [← HE.out] at hl
      by_cases c0 : to = 0
      · obtain rfl : re = 0 := hl.2 c0
        have g7 : (to : Int) = 0 := by omega
        clear hl c3
        go_wp2_with fail
        refine (awake_any _).mono ?_
        rintro e_z9 w_z9 ⟨rfl, hb_z9⟩
        obtain ⟨z9, rfl⟩ := later_is hb_z9
        clear hb_z9
        have hz_z9 := z9.bel.size
        try simp at hz_z9
        go_wp2
        go_ret
        exact ⟨rfl, (by repeat (first | exact Below.refl _ _ | refine bel_later _ ?_ | refine bel_alloc ?_ _ | refine bel_set ?_ (by first | omega | (simp; done) | (simp; omega)) _ | refine Below.drew ?_ | assumption))⟩
      · have g7 : ((to : Int) == 0) = false := beq_eq_false_iff_ne.2 (by omega)
        have g9 : (re == 0) = false := beq_eq_false_iff_ne.2 (fun h => c0 (hl.1 h))
        clear hl c3
        go_wp2_with fail
        refine (awake_any _).mono ?_
        rintro e_z9 w_z9 ⟨rfl, hb_z9⟩
        obtain ⟨z9, rfl⟩ := later_is hb_z9
        clear hb_z9
        have hz_z9 := z9.bel.size
        try simp at hz_z9
        go_wp2
        go_ret
        exact ⟨rfl, (by repeat (first | exact Below.refl _ _ | refine bel_later _ ?_ | refine bel_alloc ?_ _ | refine bel_set ?_ (by first | omega | (simp; done) | (simp; omega)) _ | refine Below.drew ?_ | assumption))⟩
    have g6 : decide (6 + (yws'.length : Int) ≤ (k : Int)) = false := by simp; omega
    by_cases c2 : k ≤ 2
    · obtain rfl : re = 0 := by rw [HE.out]; exact Stg.set_low HFF.out (by omega) c2
      have g2 : decide ((2 : Int) < (k : Int)) = false := by simp; omega
      clear c3
      go_wp2_with fail
      refine (kz.out _ (by first | trivial | simp)).mono ?_
      rintro e_z8 w_z8 ⟨rfl, hb_z8⟩
      obtain ⟨z8, rfl⟩ := later_is hb_z8
      clear hb_z8
      have hz_z8 := z8.bel.size
      try simp at hz_z8
      go_wp2_with fail
      refine (awake_any _).mono ?_
      rintro e_z9 w_z9 ⟨rfl, hb_z9⟩
      obtain ⟨z9, rfl⟩ := later_is hb_z9
      clear hb_z9
      have hz_z9 := z9.bel.size
      try simp at hz_z9
      go_wp2
      go_ret
      exact ⟨rfl, (by repeat (first | exact Below.refl _ _ | refine bel_later _ ?_ | refine bel_alloc ?_ _ | refine bel_set ?_ (by first | omega | (simp; done) | (simp; omega)) _ | refine Below.drew ?_ | assumption))⟩
    · have g2 : decide ((2 : Int) < (k : Int)) = true := by simp; omega
      by_cases ce : re = 0
      · subst ce
        clear c3
        go_wp2_with fail
        refine (kz.out _ (by first | trivial | simp)).mono ?_
        rintro e_z8 w_z8 ⟨rfl, hb_z8⟩
        obtain ⟨z8, rfl⟩ := later_is hb_z8
        clear hb_z8
        have hz_z8 := z8.bel.size
        try simp at hz_z8
        go_wp2_with fail
        refine (awake_any _).mono ?_
        rintro e_z9 w_z9 ⟨rfl, hb_z9⟩
        obtain ⟨z9, rfl⟩ := later_is hb_z9
        clear hb_z9
        have hz_z9 := z9.bel.size
        try simp at hz_z9
        go_wp2
        go_ret
        exact ⟨rfl, (by repeat (first | exact Below.refl _ _ | refine bel_later _ ?_ | refine bel_alloc ?_ _ | refine bel_set ?_ (by first | omega | (simp; done) | (simp; omega)) _ | refine Below.drew ?_ | assumption))⟩
      · have g9 : (re == 0) = false := beq_eq_false_iff_ne.2 ce
        have g10 : (re != 0) = true := by rw [bne_iff_ne]; exact ce
        clear c3
        go_wp2_with fail
        refine (awake_any _).mono ?_
        rintro e_z9 w_z9 ⟨rfl, hb_z9⟩
        obtain ⟨z9, rfl⟩ := later_is hb_z9
        clear hb_z9
        have hz_z9 := z9.bel.size
        try simp at hz_z9
        go_wp2
        go_ret
        exact ⟨rfl, (by repeat (first | exact Below.refl _ _ | refine bel_later _ ?_ | refine bel_alloc ?_ _ | refine bel_set ?_ (by first | omega | (simp; done) | (simp; omega)) _ | refine Below.drew ?_ | assumption))⟩
  · rcases hno with h | h
    · cases h
    by_cases hn : n < 0
    · have q1 : decide (0 ≤ n) = false := by simp; omega
      clear h
      go_enter Try.func5, Try.ntmps5
      go_wp2_with fail
      (with_reducible refine (kp.out _).mono ?_)
      rintro e_ w1 ⟨rfl, hb1⟩
      have d0 : w1.cell? ⟨w.heap.size, 0, none⟩ = some (.int .i64 x.a) := (hb1.cell (p := ⟨w.heap.size, 0, none⟩) (by simp)).trans (by simp)
      have d1 : w1.cell? ⟨w.heap.size, 1, none⟩ = some (.slice x.A x.ws.length x.c) := (hb1.cell (p := ⟨w.heap.size, 1, none⟩) (by simp)).trans (by simp)
      have hbw1 : Below w.heap.size w w1 := (bel_alloc (Below.refl _ _) _).trans (hb1.mono (by simp))
      have hs1 : w.heap.size < w1.heap.size := by have := hb1.size; simp at this; omega
      clear hb1
      go_wp2_with (refine wpList_store_row rfl 42 (.tmp 13) (.tmp 37) rfl w1.heap.size z25 rfl rfl 42 z25 (heap_alloc_new w1 _) size_z25 rfl one_z25 ?_; obtain ⟨w2, hw2⟩ : ∃ w2, w2 = (w1.alloc (.cells z25 42)).setRow w1.heap.size z25 := ⟨_, rfl⟩; rw [← hw2]; have hb2 : Below w1.heap.size w1 w2 := (by rw [hw2]; exact below_setRow (bel_alloc (Below.refl _ _) _) (Nat.le_refl _) _); have R2 : RowAt w2 w1.heap.size 42 Stv.zero.C := (by rw [hw2]; exact RowAt.row (C := Stv.zero.C) (heap_alloc_new w1 _) Stv.zero.C); replace d0 := (hb2.cell (p := ⟨w.heap.size, 0, none⟩) hs1).trans d0; replace d1 := (hb2.cell (p := ⟨w.heap.size, 1, none⟩) hs1).trans d1; have HR2 := Lib.hid R2; clear hw2 R2)
      have hbw2 : Below w.heap.size w w2 := hbw1.trans (hb2.mono hbw1.size)
      have hs2 : w.heap.size < w2.heap.size := by have := hb2.size; omega
      clear hb2 hbw1
      with_reducible refine (kfx.out _).mono ?_
      rintro e_ w3 ⟨rfl, hb3⟩
      have d2 := (hb3.cell (p := ⟨w.heap.size, 0, none⟩) hs2).trans d0
      have d3 := (hb3.cell (p := ⟨w.heap.size, 1, none⟩) hs2).trans d1
      have HR3 := Lib.hid (HR2.out.to hb3)
      have t0 : w3.cell? ⟨w1.heap.size, 0, none⟩ = some (.int .u32 0) := HR3.out.cell rfl
      have hbw3 : Below w.heap.size w w3 := hbw2.trans (hb3.mono hbw2.size)
      have hs3 : w.heap.size < w3.heap.size := by have := hb3.size; omega
      have hs13 : w1.heap.size < w3.heap.size := HR3.out.lt
      clear d0 d1 hb3 hbw2
      go_wp2_with (refine wpList_load_row_g rfl 42 (.tmp 13) rfl w1.heap.size rfl 42 z25 (0, 0) _ HR3.out Try.underlying42 rfl size_z25 ?_)
      (with_reducible refine (kbl.out _).mono ?_)
      rintro e_ w4 ⟨A4, c4, bl, rfl, hp4, _, _, _, _, hb4⟩
      have hbl : bl = [] := by
        have : prs bl = [] := hp4
        simpa [prs] using this
      subst hbl
      have d4 := (hb4.cell (p := ⟨w.heap.size, 0, none⟩) hs3).trans d2
      have d5 := (hb4.cell (p := ⟨w.heap.size, 1, none⟩) hs3).trans d3
      have HR4 := Lib.hid (HR3.out.to hb4)
      have hbw4 : Below w.heap.size w w4 := hbw3.trans (hb4.mono hbw3.size)
      have hs4 : w.heap.size < w4.heap.size := by have := hb4.size; omega
      clear d2 d3 hb4 hbw3 hp4
      go_wp2_with (first | (at_make; refine wpList_make_full _ rfl _ _ 24 rfl w4.heap.size 22 i0 (.int .u16 0) 1 Try.underlying24 hif hz0 hz1 _ _ _ _ 20 rfl rfl rfl rfl (by rw [hz2]; decide) (by decide) (Nat.le_refl _) ?_; intro w6 o6 hg6; have hb6 : Below w4.heap.size w4 w6 := (Below.refl _ _).grown hg6 (Nat.le_refl _) (by simp); have d6 := (hb6.cell (p := ⟨w.heap.size, 0, none⟩) hs4).trans d4; have d7 := (hb6.cell (p := ⟨w.heap.size, 1, none⟩) hs4).trans d5; have HR6 := Lib.hid (HR4.out.to hb6); have o6' : w6.ownsRow w4.heap.size 22 1 (.slice (some ⟨w4.heap.size, 0, none⟩) 20 20) 20 ((List.replicate 20 0).map u16w) := (by rw [← vals]; rw [← made_vals]; exact o6); clear hg6 o6) | (refine wpList_load_row_g rfl 42 (.tmp 13) rfl w1.heap.size rfl 42 z25 (0, 0) _ HR6.out Try.underlying42 rfl size_z25 ?_))
      have hbw6 : Below w.heap.size w w6 := hbw4.trans (hb6.mono hbw4.size)
      have hs6 : w.heap.size < w6.heap.size := by have := hb6.size; omega
      (with_reducible refine (kbk.out _).mono ?_)
      rintro e_ w7 ⟨A7, c7, rfl, o7, hb7⟩
      have HL20 := Lib.hid (show (backL o 0 (List.replicate 8 false) (prs (List.replicate 8 Blk.zero)) n).length = 20 from backL_length _ _ _ _ _)
      rw [HL20.out, HB.out] at o7
      rw [HL20.out]
      have d8 := (hb7.cell (p := ⟨w.heap.size, 0, none⟩) hs6).trans d6
      have d9 := (hb7.cell (p := ⟨w.heap.size, 1, none⟩) hs6).trans d7
      have hbw7 : Below w.heap.size w w7 := hbw6.trans (hb7.mono hbw6.size)
      have hs7 : w.heap.size < w7.heap.size := by have := hb7.size; omega
      have o67 := own_below o6' hb7
      clear d4 d5 d6 d7 hb6 hb7 hbw6 hbw4 o6'
      go_wp2_with fail
      refine (lowWords_any A7 _ (List.replicate 20 0) (List.replicate 20 0) _ _ 20 20 true w7 (by simp) (by simp) (Sq.of_own o7) (Sq.of_own o67) (by simp) (by simp)).mono ?_
      rintro e_x8 w_x8 ⟨rfl, hb_x8⟩
      obtain ⟨x8, rfl⟩ := later_is hb_x8
      clear hb_x8
      have hz_x8 := x8.bel.size
      try simp at hz_x8
      have d10 := (x8.bel.cell (p := ⟨w.heap.size, 0, none⟩) hs7).trans d8
      have d11 := (x8.bel.cell (p := ⟨w.heap.size, 1, none⟩) hs7).trans d9
      have HBM := Lib.hid (bel_later x8 hbw7)
      clear d8 d9 o67 o7
      have kfit := Lib.hid (fun W (h : Below w.heap.size w W) => fit_one (some ⟨W.heap.size, 0, none⟩) x (W.alloc (.cells #[.int .i64 x.a, .slice x.A x.ws.length x.c] 26)) (Blks.one rfl (hx.to h)))
      go_wp2_with fail
      (with_reducible refine (kfit.out _ HBM.out).mono ?_)
      rintro e_ w5 ⟨g, oo, c, y, rfl, hyp, hyo, hg, hc0, hc1, hc, hcc, hb5⟩
      have hb5w : Below w.heap.size w w5 := (bel_alloc HBM.out _).trans (hb5.mono (by have := HBM.out.size; simp; omega))
      rw [HPP.out] at hyp
      obtain ⟨ya', yws', yA, yc⟩ := y
      obtain ⟨rfl, rfl⟩ : ya' = ya ∧ yws' = yws := by simpa using hyp
      simp only at hc0 hc1
      have kw := Lib.hid (fun W (h : Below w5.heap.size w5 W) => words_lit o t 0 ya' yws' yA yc _ (Stg.tagged o t 0 ya' yws') 20 0 W ho ht rfl (hyo.to h).sq hyo.lo hyo.hi (Nat.le_trans hyo.ln hyo.cap) hyo.nl (by unfold Stg.words; rw [if_neg (by omega), if_pos HFY.out]; rfl) (Stg.tagged_length _ _ _ _ _))
      clear hyp hb5
      go_wp2_with fail
      with_reducible refine (kw.out _ (by repeat (first | exact Below.refl _ _ | refine bel_later _ ?_ | refine bel_alloc ?_ _ | refine bel_set ?_ (by first | omega | (simp; done) | (simp; omega)) _ | refine Below.drew ?_ | assumption))).mono ?_
      rintro e_z1 w_z1 ⟨Az1, cz1, rfl, oz1, hb_z1⟩
      obtain ⟨z1, rfl⟩ := later_is hb_z1
      clear hb_z1
      have hz_z1 := z1.bel.size
      try simp at hz_z1
      have l_z1_0 : w5.heap.size < z1.val.heap.size := by omega
      have m_z1_0 : w5.heap.size < z1.val.heap.size + 1 := by omega
      have q_ := z1.bel.cell (p := ⟨w5.heap.size, 0, none⟩) (by first | omega | (simp; done) | (simp; omega))
      generalize c_z1_0_0 : z1.val.cell? ⟨w5.heap.size, 0, none⟩ = q at q_
      first | (have q2_ : q = some _ := q_; subst q2_) | (simp [go_sem] at q_; have q2_ : q = some _ := q_; subst q2_) | (simp [go_sem, *] at q_; have q2_ : q = some _ := q_; subst q2_)
      have q_ := z1.bel.frozen (p := ⟨w5.heap.size, 0, none⟩) (by first | omega | (simp; done) | (simp; omega))
      generalize z_z1_0_0 : z1.val.frozen? ⟨w5.heap.size, 0, none⟩ = q at q_
      first | (have q2_ : q = false := q_; subst q2_) | (simp [go_sem] at q_; have q2_ : q = false := q_; subst q2_) | (simp [go_sem, *] at q_; have q2_ : q = false := q_; subst q2_)
      have q_ := z1.bel.cell (p := ⟨w5.heap.size, 1, none⟩) (by first | omega | (simp; done) | (simp; omega))
      generalize c_z1_0_1 : z1.val.cell? ⟨w5.heap.size, 1, none⟩ = q at q_
      first | (have q2_ : q = some _ := q_; subst q2_) | (simp [go_sem] at q_; have q2_ : q = some _ := q_; subst q2_) | (simp [go_sem, *] at q_; have q2_ : q = some _ := q_; subst q2_)
      have q_ := z1.bel.frozen (p := ⟨w5.heap.size, 1, none⟩) (by first | omega | (simp; done) | (simp; omega))
      generalize z_z1_0_1 : z1.val.frozen? ⟨w5.heap.size, 1, none⟩ = q at q_
      first | (have q2_ : q = false := q_; subst q2_) | (simp [go_sem] at q_; have q2_ : q = false := q_; subst q2_) | (simp [go_sem, *] at q_; have q2_ : q = false := q_; subst q2_)
      obtain ⟨gw, rfl, hgb, hgl⟩ := own_some oz1 (by omega)
      have hgw : w5.heap.size < gw := by simp at hgb; omega
      obtain ⟨old, hold⟩ : ∃ old, (Stg.tagged o t 0 ya' yws')[k]? = some old := ⟨_, List.getElem?_eq_getElem (by rw [Stg.tagged_length]; exact hk20)⟩
      have k0 : z1.val.cell? ⟨gw, k, none⟩ = some (.int .u16 (old : Int)) := (oz1.cellAt k (by omega)).trans (map_get hold)
      have f0 := oz1.frozenAt k
      have hk20I : (k : Int) < 20 := by omega
      have os := own_set (i := k) (x := to) oz1
      have HU := Lib.hid (Stg.mem_set_u16 (k := k) (Stg.tagged_u16 (n := 0) (a := ya') ho ht (by omega) hyo.u) hto)
      have hLs : ((Stg.tagged o t 0 ya' yws').set k to).length = 20 := by rw [List.length_set, Stg.tagged_length]
      obtain ⟨v, hv⟩ : ∃ v, (Stg.tagged o t 0 ya' yws').set k to = v := ⟨_, rfl⟩
      rw [hv] at os hLs HU
      obtain ⟨r, hr⟩ : ∃ r, Stg.read v = r := ⟨_, rfl⟩
      have hrb := Stg.read_back (w := v) HU.out
      have hrn := Stg.read_bounds (v := v) HU.out
      rw [hr] at hrb hrn
      have HV := Lib.hid hv
      have HR := Lib.hid hr
      have HLS := Lib.hid hLs
      have HRB := Lib.hid hrb
      have hbz1 : Below w.heap.size w z1.val := bel_later z1 (bel_alloc hb5w _)
      have hgw0 : w.heap.size ≤ gw := by have := hb5w.size; omega
      have hne : gw ≠ w5.heap.size := by omega
      have e0 := keep_block (b := gw) (i := k) (u := .int .u16 (to : Int)) hne c_z1_0_0
      have e1 := keep_block (b := gw) (i := k) (u := .int .u16 (to : Int)) hne c_z1_0_1
      clear hv hr hold hLs hrb hgb
      obtain ⟨ro, rt, rn, ra, rws, re⟩ := r
      simp only at hrn
      have hru := hrn.2.2
      go_wp2_with fail
      with_reducible refine (read_lit v (some ⟨gw, 0, none⟩) cz1 20 ⟨ro, rt, rn, ra, rws, re⟩ (ro : Int) (rt : Int) (rn : Int) (ra : Int) re rws.length _ HLS.out (Sq.of_own os) HU.out (own_nil_c os).2 (own_cap os) HR.out rfl rfl rfl rfl rfl rfl).mono ?_
      rintro e_z2 w_z2 ⟨Az2, cz2, rfl, oz2, hb_z2⟩
      obtain ⟨z2, rfl⟩ := later_is hb_z2
      clear hb_z2
      have hz_z2 := z2.bel.size
      try simp at hz_z2
      have e2 := z2.keep e0
      have e3 := z2.keep e1
      have hbz2 : Below w.heap.size w z2.val := bel_later z2 (bel_set hbz1 hgw0 _)
      clear e0 e1 k0 f0 os hrn kw
      have he : re = (Stg.read ((Stg.tagged o t 0 ya' yws').set k to)).e := by rw [HV.out, HR.out]
      have hff := HFY.out
      have kz := Lib.hid (fun (W : World) (h0 : re = 0) => fits_any (ra : Int) rws.length cz2 Az2 true W (by omega) (by have := Bk.fits_iff.1 (HRB.out h0).1; omega) (by have := Bk.fits_iff.1 (HRB.out h0).1; omega) (HRB.out h0).1)
      have hzz : w5.heap.size < z2.val.heap.size := by omega
      have hyl : yws'.length ≤ 14 := (Bk.fits_iff.1 HFY.out).1
      have HE := Lib.hid he
      have HFF := Lib.hid hff
      clear he hff
      by_cases c3 : k = 3
      · subst c3
        have hl := Stg.set_num (o := o) (t := t) (n := 0) (to := to) HFF.out
        rw [← HE.out] at hl
        by_cases c8 : to < 8
        · obtain rfl : re = 0 := hl.1.2 c8
          have g8 : decide ((to : Int) < 8) = true := by simp; omega
          clear hl c8
          go_wp2_with fail
          refine (awake_any _).mono ?_
          rintro e_z9 w_z9 ⟨rfl, hb_z9⟩
          obtain ⟨z9, rfl⟩ := later_is hb_z9
          clear hb_z9
          have hz_z9 := z9.bel.size
          try simp at hz_z9
          go_wp2
          go_ret
          exact ⟨rfl, (by repeat (first | exact Below.refl _ _ | refine bel_later _ ?_ | refine bel_alloc ?_ _ | refine bel_set ?_ (by first | omega | (simp; done) | (simp; omega)) _ | refine Below.drew ?_ | assumption))⟩
        · obtain rfl : re = 2 := hl.2 (by omega)
          have g8 : decide ((to : Int) < 8) = false := by simp; omega
          clear hl c8
          go_wp2_with fail
          refine (awake_any _).mono ?_
          rintro e_z9 w_z9 ⟨rfl, hb_z9⟩
          obtain ⟨z9, rfl⟩ := later_is hb_z9
          clear hb_z9
          have hz_z9 := z9.bel.size
          try simp at hz_z9
          go_wp2
          go_ret
          exact ⟨rfl, (by repeat (first | exact Below.refl _ _ | refine bel_later _ ?_ | refine bel_alloc ?_ _ | refine bel_set ?_ (by first | omega | (simp; done) | (simp; omega)) _ | refine Below.drew ?_ | assumption))⟩
      have g3 : ((k : Int) == 3) = false := beq_eq_false_iff_ne.2 (by omega)
      by_cases c6 : 6 + yws'.length ≤ k
      · have g6 : decide (6 + (yws'.length : Int) ≤ (k : Int)) = true := by simp; omega
        have hl := Stg.set_high (o := o) (t := t) (n := 0) (to := to) HFF.out (by omega) c6 hk20
        rw [← HE.out] at hl
        by_cases c0 : to = 0
        · obtain rfl : re = 0 := hl.2 c0
          have g7 : (to : Int) = 0 := by omega
          clear hl c3
          go_wp2_with fail
          refine (awake_any _).mono ?_
          rintro e_z9 w_z9 ⟨rfl, hb_z9⟩
          obtain ⟨z9, rfl⟩ := later_is hb_z9
          clear hb_z9
          have hz_z9 := z9.bel.size
          try simp at hz_z9
          go_wp2
          go_ret
          exact ⟨rfl, (by repeat (first | exact Below.refl _ _ | refine bel_later _ ?_ | refine bel_alloc ?_ _ | refine bel_set ?_ (by first | omega | (simp; done) | (simp; omega)) _ | refine Below.drew ?_ | assumption))⟩
        · have g7 : ((to : Int) == 0) = false := beq_eq_false_iff_ne.2 (by omega)
          have g9 : (re == 0) = false := beq_eq_false_iff_ne.2 (fun h => c0 (hl.1 h))
          clear hl c3
          go_wp2_with fail
          refine (awake_any _).mono ?_
          rintro e_z9 w_z9 ⟨rfl, hb_z9⟩
          obtain ⟨z9, rfl⟩ := later_is hb_z9
          clear hb_z9
          have hz_z9 := z9.bel.size
          try simp at hz_z9
          go_wp2
          go_ret
          exact ⟨rfl, (by repeat (first | exact Below.refl _ _ | refine bel_later _ ?_ | refine bel_alloc ?_ _ | refine bel_set ?_ (by first | omega | (simp; done) | (simp; omega)) _ | refine Below.drew ?_ | assumption))⟩
      have g6 : decide (6 + (yws'.length : Int) ≤ (k : Int)) = false := by simp; omega
      by_cases c2 : k ≤ 2
      · obtain rfl : re = 0 := by rw [HE.out]; exact Stg.set_low HFF.out (by omega) c2
        have g2 : decide ((2 : Int) < (k : Int)) = false := by simp; omega
        clear c3
        go_wp2_with fail
        refine (kz.out _ (by first | trivial | simp)).mono ?_
        rintro e_z8 w_z8 ⟨rfl, hb_z8⟩
        obtain ⟨z8, rfl⟩ := later_is hb_z8
        clear hb_z8
        have hz_z8 := z8.bel.size
        try simp at hz_z8
        go_wp2_with fail
        refine (awake_any _).mono ?_
        rintro e_z9 w_z9 ⟨rfl, hb_z9⟩
        obtain ⟨z9, rfl⟩ := later_is hb_z9
        clear hb_z9
        have hz_z9 := z9.bel.size
        try simp at hz_z9
        go_wp2
        go_ret
        exact ⟨rfl, (by repeat (first | exact Below.refl _ _ | refine bel_later _ ?_ | refine bel_alloc ?_ _ | refine bel_set ?_ (by first | omega | (simp; done) | (simp; omega)) _ | refine Below.drew ?_ | assumption))⟩
      · have g2 : decide ((2 : Int) < (k : Int)) = true := by simp; omega
        by_cases ce : re = 0
        · subst ce
          clear c3
          go_wp2_with fail
          refine (kz.out _ (by first | trivial | simp)).mono ?_
          rintro e_z8 w_z8 ⟨rfl, hb_z8⟩
          obtain ⟨z8, rfl⟩ := later_is hb_z8
          clear hb_z8
          have hz_z8 := z8.bel.size
          try simp at hz_z8
          go_wp2_with fail
          refine (awake_any _).mono ?_
          rintro e_z9 w_z9 ⟨rfl, hb_z9⟩
          obtain ⟨z9, rfl⟩ := later_is hb_z9
          clear hb_z9
          have hz_z9 := z9.bel.size
          try simp at hz_z9
          go_wp2
          go_ret
          exact ⟨rfl, (by repeat (first | exact Below.refl _ _ | refine bel_later _ ?_ | refine bel_alloc ?_ _ | refine bel_set ?_ (by first | omega | (simp; done) | (simp; omega)) _ | refine Below.drew ?_ | assumption))⟩
        · have g9 : (re == 0) = false := beq_eq_false_iff_ne.2 ce
          have g10 : (re != 0) = true := by rw [bne_iff_ne]; exact ce
          clear c3
          go_wp2_with fail
          refine (awake_any _).mono ?_
          rintro e_z9 w_z9 ⟨rfl, hb_z9⟩
          obtain ⟨z9, rfl⟩ := later_is hb_z9
          clear hb_z9
          have hz_z9 := z9.bel.size
          try simp at hz_z9
          go_wp2
          go_ret
          exact ⟨rfl, (by repeat (first | exact Below.refl _ _ | refine bel_later _ ?_ | refine bel_alloc ?_ _ | refine bel_set ?_ (by first | omega | (simp; done) | (simp; omega)) _ | refine Below.drew ?_ | assumption))⟩
    · have q1 : decide (0 ≤ n) = true := by simp; omega
      have q2 : decide (n < 8) = false := by simp; omega
      clear h hn
      go_enter Try.func5, Try.ntmps5
      go_wp2_with fail
      (with_reducible refine (kp.out _).mono ?_)
      rintro e_ w1 ⟨rfl, hb1⟩
      have d0 : w1.cell? ⟨w.heap.size, 0, none⟩ = some (.int .i64 x.a) := (hb1.cell (p := ⟨w.heap.size, 0, none⟩) (by simp)).trans (by simp)
      have d1 : w1.cell? ⟨w.heap.size, 1, none⟩ = some (.slice x.A x.ws.length x.c) := (hb1.cell (p := ⟨w.heap.size, 1, none⟩) (by simp)).trans (by simp)
      have hbw1 : Below w.heap.size w w1 := (bel_alloc (Below.refl _ _) _).trans (hb1.mono (by simp))
      have hs1 : w.heap.size < w1.heap.size := by have := hb1.size; simp at this; omega
      clear hb1
      go_wp2_with (refine wpList_store_row rfl 42 (.tmp 13) (.tmp 37) rfl w1.heap.size z25 rfl rfl 42 z25 (heap_alloc_new w1 _) size_z25 rfl one_z25 ?_; obtain ⟨w2, hw2⟩ : ∃ w2, w2 = (w1.alloc (.cells z25 42)).setRow w1.heap.size z25 := ⟨_, rfl⟩; rw [← hw2]; have hb2 : Below w1.heap.size w1 w2 := (by rw [hw2]; exact below_setRow (bel_alloc (Below.refl _ _) _) (Nat.le_refl _) _); have R2 : RowAt w2 w1.heap.size 42 Stv.zero.C := (by rw [hw2]; exact RowAt.row (C := Stv.zero.C) (heap_alloc_new w1 _) Stv.zero.C); replace d0 := (hb2.cell (p := ⟨w.heap.size, 0, none⟩) hs1).trans d0; replace d1 := (hb2.cell (p := ⟨w.heap.size, 1, none⟩) hs1).trans d1; have HR2 := Lib.hid R2; clear hw2 R2)
      have hbw2 : Below w.heap.size w w2 := hbw1.trans (hb2.mono hbw1.size)
      have hs2 : w.heap.size < w2.heap.size := by have := hb2.size; omega
      clear hb2 hbw1
      with_reducible refine (kfx.out _).mono ?_
      rintro e_ w3 ⟨rfl, hb3⟩
      have d2 := (hb3.cell (p := ⟨w.heap.size, 0, none⟩) hs2).trans d0
      have d3 := (hb3.cell (p := ⟨w.heap.size, 1, none⟩) hs2).trans d1
      have HR3 := Lib.hid (HR2.out.to hb3)
      have t0 : w3.cell? ⟨w1.heap.size, 0, none⟩ = some (.int .u32 0) := HR3.out.cell rfl
      have hbw3 : Below w.heap.size w w3 := hbw2.trans (hb3.mono hbw2.size)
      have hs3 : w.heap.size < w3.heap.size := by have := hb3.size; omega
      have hs13 : w1.heap.size < w3.heap.size := HR3.out.lt
      clear d0 d1 hb3 hbw2
      go_wp2_with (refine wpList_load_row_g rfl 42 (.tmp 13) rfl w1.heap.size rfl 42 z25 (0, 0) _ HR3.out Try.underlying42 rfl size_z25 ?_)
      (with_reducible refine (kbl.out _).mono ?_)
      rintro e_ w4 ⟨A4, c4, bl, rfl, hp4, _, _, _, _, hb4⟩
      have hbl : bl = [] := by
        have : prs bl = [] := hp4
        simpa [prs] using this
      subst hbl
      have d4 := (hb4.cell (p := ⟨w.heap.size, 0, none⟩) hs3).trans d2
      have d5 := (hb4.cell (p := ⟨w.heap.size, 1, none⟩) hs3).trans d3
      have HR4 := Lib.hid (HR3.out.to hb4)
      have hbw4 : Below w.heap.size w w4 := hbw3.trans (hb4.mono hbw3.size)
      have hs4 : w.heap.size < w4.heap.size := by have := hb4.size; omega
      clear d2 d3 hb4 hbw3 hp4
      go_wp2_with (first | (at_make; refine wpList_make_full _ rfl _ _ 24 rfl w4.heap.size 22 i0 (.int .u16 0) 1 Try.underlying24 hif hz0 hz1 _ _ _ _ 20 rfl rfl rfl rfl (by rw [hz2]; decide) (by decide) (Nat.le_refl _) ?_; intro w6 o6 hg6; have hb6 : Below w4.heap.size w4 w6 := (Below.refl _ _).grown hg6 (Nat.le_refl _) (by simp); have d6 := (hb6.cell (p := ⟨w.heap.size, 0, none⟩) hs4).trans d4; have d7 := (hb6.cell (p := ⟨w.heap.size, 1, none⟩) hs4).trans d5; have HR6 := Lib.hid (HR4.out.to hb6); have o6' : w6.ownsRow w4.heap.size 22 1 (.slice (some ⟨w4.heap.size, 0, none⟩) 20 20) 20 ((List.replicate 20 0).map u16w) := (by rw [← vals]; rw [← made_vals]; exact o6); clear hg6 o6) | (refine wpList_load_row_g rfl 42 (.tmp 13) rfl w1.heap.size rfl 42 z25 (0, 0) _ HR6.out Try.underlying42 rfl size_z25 ?_))
      have hbw6 : Below w.heap.size w w6 := hbw4.trans (hb6.mono hbw4.size)
      have hs6 : w.heap.size < w6.heap.size := by have := hb6.size; omega
      (with_reducible refine (kbk.out _).mono ?_)
      rintro e_ w7 ⟨A7, c7, rfl, o7, hb7⟩
      have HL20 := Lib.hid (show (backL o 0 (List.replicate 8 false) (prs (List.replicate 8 Blk.zero)) n).length = 20 from backL_length _ _ _ _ _)
      rw [HL20.out, HB.out] at o7
      rw [HL20.out]
      have d8 := (hb7.cell (p := ⟨w.heap.size, 0, none⟩) hs6).trans d6
      have d9 := (hb7.cell (p := ⟨w.heap.size, 1, none⟩) hs6).trans d7
      have hbw7 : Below w.heap.size w w7 := hbw6.trans (hb7.mono hbw6.size)
      have hs7 : w.heap.size < w7.heap.size := by have := hb7.size; omega
      have o67 := own_below o6' hb7
      clear d4 d5 d6 d7 hb6 hb7 hbw6 hbw4 o6'
      go_wp2_with fail
      refine (lowWords_any A7 _ (List.replicate 20 0) (List.replicate 20 0) _ _ 20 20 true w7 (by simp) (by simp) (Sq.of_own o7) (Sq.of_own o67) (by simp) (by simp)).mono ?_
      rintro e_x8 w_x8 ⟨rfl, hb_x8⟩
      obtain ⟨x8, rfl⟩ := later_is hb_x8
      clear hb_x8
      have hz_x8 := x8.bel.size
      try simp at hz_x8
      have d10 := (x8.bel.cell (p := ⟨w.heap.size, 0, none⟩) hs7).trans d8
      have d11 := (x8.bel.cell (p := ⟨w.heap.size, 1, none⟩) hs7).trans d9
      have HBM := Lib.hid (bel_later x8 hbw7)
      clear d8 d9 o67 o7
      have kfit := Lib.hid (fun W (h : Below w.heap.size w W) => fit_one (some ⟨W.heap.size, 0, none⟩) x (W.alloc (.cells #[.int .i64 x.a, .slice x.A x.ws.length x.c] 26)) (Blks.one rfl (hx.to h)))
      go_wp2_with fail
      (with_reducible refine (kfit.out _ HBM.out).mono ?_)
      rintro e_ w5 ⟨g, oo, c, y, rfl, hyp, hyo, hg, hc0, hc1, hc, hcc, hb5⟩
      have hb5w : Below w.heap.size w w5 := (bel_alloc HBM.out _).trans (hb5.mono (by have := HBM.out.size; simp; omega))
      rw [HPP.out] at hyp
      obtain ⟨ya', yws', yA, yc⟩ := y
      obtain ⟨rfl, rfl⟩ : ya' = ya ∧ yws' = yws := by simpa using hyp
      simp only at hc0 hc1
      have kw := Lib.hid (fun W (h : Below w5.heap.size w5 W) => words_lit o t 0 ya' yws' yA yc _ (Stg.tagged o t 0 ya' yws') 20 0 W ho ht rfl (hyo.to h).sq hyo.lo hyo.hi (Nat.le_trans hyo.ln hyo.cap) hyo.nl (by unfold Stg.words; rw [if_neg (by omega), if_pos HFY.out]; rfl) (Stg.tagged_length _ _ _ _ _))
      clear hyp hb5
      go_wp2_with fail
      with_reducible refine (kw.out _ (by repeat (first | exact Below.refl _ _ | refine bel_later _ ?_ | refine bel_alloc ?_ _ | refine bel_set ?_ (by first | omega | (simp; done) | (simp; omega)) _ | refine Below.drew ?_ | assumption))).mono ?_
      rintro e_z1 w_z1 ⟨Az1, cz1, rfl, oz1, hb_z1⟩
      obtain ⟨z1, rfl⟩ := later_is hb_z1
      clear hb_z1
      have hz_z1 := z1.bel.size
      try simp at hz_z1
      have l_z1_0 : w5.heap.size < z1.val.heap.size := by omega
      have m_z1_0 : w5.heap.size < z1.val.heap.size + 1 := by omega
      have q_ := z1.bel.cell (p := ⟨w5.heap.size, 0, none⟩) (by first | omega | (simp; done) | (simp; omega))
      generalize c_z1_0_0 : z1.val.cell? ⟨w5.heap.size, 0, none⟩ = q at q_
      first | (have q2_ : q = some _ := q_; subst q2_) | (simp [go_sem] at q_; have q2_ : q = some _ := q_; subst q2_) | (simp [go_sem, *] at q_; have q2_ : q = some _ := q_; subst q2_)
      have q_ := z1.bel.frozen (p := ⟨w5.heap.size, 0, none⟩) (by first | omega | (simp; done) | (simp; omega))
      generalize z_z1_0_0 : z1.val.frozen? ⟨w5.heap.size, 0, none⟩ = q at q_
      first | (have q2_ : q = false := q_; subst q2_) | (simp [go_sem] at q_; have q2_ : q = false := q_; subst q2_) | (simp [go_sem, *] at q_; have q2_ : q = false := q_; subst q2_)
      have q_ := z1.bel.cell (p := ⟨w5.heap.size, 1, none⟩) (by first | omega | (simp; done) | (simp; omega))
      generalize c_z1_0_1 : z1.val.cell? ⟨w5.heap.size, 1, none⟩ = q at q_
      first | (have q2_ : q = some _ := q_; subst q2_) | (simp [go_sem] at q_; have q2_ : q = some _ := q_; subst q2_) | (simp [go_sem, *] at q_; have q2_ : q = some _ := q_; subst q2_)
      have q_ := z1.bel.frozen (p := ⟨w5.heap.size, 1, none⟩) (by first | omega | (simp; done) | (simp; omega))
      generalize z_z1_0_1 : z1.val.frozen? ⟨w5.heap.size, 1, none⟩ = q at q_
      first | (have q2_ : q = false := q_; subst q2_) | (simp [go_sem] at q_; have q2_ : q = false := q_; subst q2_) | (simp [go_sem, *] at q_; have q2_ : q = false := q_; subst q2_)
      obtain ⟨gw, rfl, hgb, hgl⟩ := own_some oz1 (by omega)
      have hgw : w5.heap.size < gw := by simp at hgb; omega
      obtain ⟨old, hold⟩ : ∃ old, (Stg.tagged o t 0 ya' yws')[k]? = some old := ⟨_, List.getElem?_eq_getElem (by rw [Stg.tagged_length]; exact hk20)⟩
      have k0 : z1.val.cell? ⟨gw, k, none⟩ = some (.int .u16 (old : Int)) := (oz1.cellAt k (by omega)).trans (map_get hold)
      have f0 := oz1.frozenAt k
      have hk20I : (k : Int) < 20 := by omega
      have os := own_set (i := k) (x := to) oz1
      have HU := Lib.hid (Stg.mem_set_u16 (k := k) (Stg.tagged_u16 (n := 0) (a := ya') ho ht (by omega) hyo.u) hto)
      have hLs : ((Stg.tagged o t 0 ya' yws').set k to).length = 20 := by rw [List.length_set, Stg.tagged_length]
      obtain ⟨v, hv⟩ : ∃ v, (Stg.tagged o t 0 ya' yws').set k to = v := ⟨_, rfl⟩
      rw [hv] at os hLs HU
      obtain ⟨r, hr⟩ : ∃ r, Stg.read v = r := ⟨_, rfl⟩
      have hrb := Stg.read_back (w := v) HU.out
      have hrn := Stg.read_bounds (v := v) HU.out
      rw [hr] at hrb hrn
      have HV := Lib.hid hv
      have HR := Lib.hid hr
      have HLS := Lib.hid hLs
      have HRB := Lib.hid hrb
      have hbz1 : Below w.heap.size w z1.val := bel_later z1 (bel_alloc hb5w _)
      have hgw0 : w.heap.size ≤ gw := by have := hb5w.size; omega
      have hne : gw ≠ w5.heap.size := by omega
      have e0 := keep_block (b := gw) (i := k) (u := .int .u16 (to : Int)) hne c_z1_0_0
      have e1 := keep_block (b := gw) (i := k) (u := .int .u16 (to : Int)) hne c_z1_0_1
      clear hv hr hold hLs hrb hgb
      obtain ⟨ro, rt, rn, ra, rws, re⟩ := r
      simp only at hrn
      have hru := hrn.2.2
      go_wp2_with fail
      with_reducible refine (read_lit v (some ⟨gw, 0, none⟩) cz1 20 ⟨ro, rt, rn, ra, rws, re⟩ (ro : Int) (rt : Int) (rn : Int) (ra : Int) re rws.length _ HLS.out (Sq.of_own os) HU.out (own_nil_c os).2 (own_cap os) HR.out rfl rfl rfl rfl rfl rfl).mono ?_
      rintro e_z2 w_z2 ⟨Az2, cz2, rfl, oz2, hb_z2⟩
      obtain ⟨z2, rfl⟩ := later_is hb_z2
      clear hb_z2
      have hz_z2 := z2.bel.size
      try simp at hz_z2
      have e2 := z2.keep e0
      have e3 := z2.keep e1
      have hbz2 : Below w.heap.size w z2.val := bel_later z2 (bel_set hbz1 hgw0 _)
      clear e0 e1 k0 f0 os hrn kw
      have he : re = (Stg.read ((Stg.tagged o t 0 ya' yws').set k to)).e := by rw [HV.out, HR.out]
      have hff := HFY.out
      have kz := Lib.hid (fun (W : World) (h0 : re = 0) => fits_any (ra : Int) rws.length cz2 Az2 true W (by omega) (by have := Bk.fits_iff.1 (HRB.out h0).1; omega) (by have := Bk.fits_iff.1 (HRB.out h0).1; omega) (HRB.out h0).1)
      have hzz : w5.heap.size < z2.val.heap.size := by omega
      have hyl : yws'.length ≤ 14 := (Bk.fits_iff.1 HFY.out).1
      have HE := Lib.hid he
      have HFF := Lib.hid hff
      clear he hff
      by_cases c3 : k = 3
      · subst c3
        have hl := Stg.set_num (o := o) (t := t) (n := 0) (to := to) HFF.out
        rw [← HE.out] at hl
        by_cases c8 : to < 8
        · obtain rfl : re = 0 := hl.1.2 c8
          have g8 : decide ((to : Int) < 8) = true := by simp; omega
          clear hl c8
          go_wp2_with fail
          refine (awake_any _).mono ?_
          rintro e_z9 w_z9 ⟨rfl, hb_z9⟩
          obtain ⟨z9, rfl⟩ := later_is hb_z9
          clear hb_z9
          have hz_z9 := z9.bel.size
          try simp at hz_z9
          go_wp2
          go_ret
          exact ⟨rfl, (by repeat (first | exact Below.refl _ _ | refine bel_later _ ?_ | refine bel_alloc ?_ _ | refine bel_set ?_ (by first | omega | (simp; done) | (simp; omega)) _ | refine Below.drew ?_ | assumption))⟩
        · obtain rfl : re = 2 := hl.2 (by omega)
          have g8 : decide ((to : Int) < 8) = false := by simp; omega
          clear hl c8
          go_wp2_with fail
          refine (awake_any _).mono ?_
          rintro e_z9 w_z9 ⟨rfl, hb_z9⟩
          obtain ⟨z9, rfl⟩ := later_is hb_z9
          clear hb_z9
          have hz_z9 := z9.bel.size
          try simp at hz_z9
          go_wp2
          go_ret
          exact ⟨rfl, (by repeat (first | exact Below.refl _ _ | refine bel_later _ ?_ | refine bel_alloc ?_ _ | refine bel_set ?_ (by first | omega | (simp; done) | (simp; omega)) _ | refine Below.drew ?_ | assumption))⟩
      have g3 : ((k : Int) == 3) = false := beq_eq_false_iff_ne.2 (by omega)
      by_cases c6 : 6 + yws'.length ≤ k
      · have g6 : decide (6 + (yws'.length : Int) ≤ (k : Int)) = true := by simp; omega
        have hl := Stg.set_high (o := o) (t := t) (n := 0) (to := to) HFF.out (by omega) c6 hk20
        rw [← HE.out] at hl
        by_cases c0 : to = 0
        · obtain rfl : re = 0 := hl.2 c0
          have g7 : (to : Int) = 0 := by omega
          clear hl c3
          go_wp2_with fail
          refine (awake_any _).mono ?_
          rintro e_z9 w_z9 ⟨rfl, hb_z9⟩
          obtain ⟨z9, rfl⟩ := later_is hb_z9
          clear hb_z9
          have hz_z9 := z9.bel.size
          try simp at hz_z9
          go_wp2
          go_ret
          exact ⟨rfl, (by repeat (first | exact Below.refl _ _ | refine bel_later _ ?_ | refine bel_alloc ?_ _ | refine bel_set ?_ (by first | omega | (simp; done) | (simp; omega)) _ | refine Below.drew ?_ | assumption))⟩
        · have g7 : ((to : Int) == 0) = false := beq_eq_false_iff_ne.2 (by omega)
          have g9 : (re == 0) = false := beq_eq_false_iff_ne.2 (fun h => c0 (hl.1 h))
          clear hl c3
          go_wp2_with fail
          refine (awake_any _).mono ?_
          rintro e_z9 w_z9 ⟨rfl, hb_z9⟩
          obtain ⟨z9, rfl⟩ := later_is hb_z9
          clear hb_z9
          have hz_z9 := z9.bel.size
          try simp at hz_z9
          go_wp2
          go_ret
          exact ⟨rfl, (by repeat (first | exact Below.refl _ _ | refine bel_later _ ?_ | refine bel_alloc ?_ _ | refine bel_set ?_ (by first | omega | (simp; done) | (simp; omega)) _ | refine Below.drew ?_ | assumption))⟩
      have g6 : decide (6 + (yws'.length : Int) ≤ (k : Int)) = false := by simp; omega
      by_cases c2 : k ≤ 2
      · obtain rfl : re = 0 := by rw [HE.out]; exact Stg.set_low HFF.out (by omega) c2
        have g2 : decide ((2 : Int) < (k : Int)) = false := by simp; omega
        clear c3
        go_wp2_with fail
        refine (kz.out _ (by first | trivial | simp)).mono ?_
        rintro e_z8 w_z8 ⟨rfl, hb_z8⟩
        obtain ⟨z8, rfl⟩ := later_is hb_z8
        clear hb_z8
        have hz_z8 := z8.bel.size
        try simp at hz_z8
        go_wp2_with fail
        refine (awake_any _).mono ?_
        rintro e_z9 w_z9 ⟨rfl, hb_z9⟩
        obtain ⟨z9, rfl⟩ := later_is hb_z9
        clear hb_z9
        have hz_z9 := z9.bel.size
        try simp at hz_z9
        go_wp2
        go_ret
        exact ⟨rfl, (by repeat (first | exact Below.refl _ _ | refine bel_later _ ?_ | refine bel_alloc ?_ _ | refine bel_set ?_ (by first | omega | (simp; done) | (simp; omega)) _ | refine Below.drew ?_ | assumption))⟩
      · have g2 : decide ((2 : Int) < (k : Int)) = true := by simp; omega
        by_cases ce : re = 0
        · subst ce
          clear c3
          go_wp2_with fail
          refine (kz.out _ (by first | trivial | simp)).mono ?_
          rintro e_z8 w_z8 ⟨rfl, hb_z8⟩
          obtain ⟨z8, rfl⟩ := later_is hb_z8
          clear hb_z8
          have hz_z8 := z8.bel.size
          try simp at hz_z8
          go_wp2_with fail
          refine (awake_any _).mono ?_
          rintro e_z9 w_z9 ⟨rfl, hb_z9⟩
          obtain ⟨z9, rfl⟩ := later_is hb_z9
          clear hb_z9
          have hz_z9 := z9.bel.size
          try simp at hz_z9
          go_wp2
          go_ret
          exact ⟨rfl, (by repeat (first | exact Below.refl _ _ | refine bel_later _ ?_ | refine bel_alloc ?_ _ | refine bel_set ?_ (by first | omega | (simp; done) | (simp; omega)) _ | refine Below.drew ?_ | assumption))⟩
        · have g9 : (re == 0) = false := beq_eq_false_iff_ne.2 ce
          have g10 : (re != 0) = true := by rw [bne_iff_ne]; exact ce
          clear c3
          go_wp2_with fail
          refine (awake_any _).mono ?_
          rintro e_z9 w_z9 ⟨rfl, hb_z9⟩
          obtain ⟨z9, rfl⟩ := later_is hb_z9
          clear hb_z9
          have hz_z9 := z9.bel.size
          try simp at hz_z9
          go_wp2
          go_ret
          exact ⟨rfl, (by repeat (first | exact Below.refl _ _ | refine bel_later _ ?_ | refine bel_alloc ?_ _ | refine bel_set ?_ (by first | omega | (simp; done) | (simp; omega)) _ | refine Below.drew ?_ | assumption))⟩
end Go.Proofs.Ytopkncbpkccfbaa
