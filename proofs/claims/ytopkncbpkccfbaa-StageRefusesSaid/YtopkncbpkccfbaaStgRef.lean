/- The walk of StageRefuses, where the block is put. -/
import Derived.Test.YtopkncbpkccfbaaStgRf0
namespace Go.Proofs.Ytopkncbpkccfbaa
open Go.RowKit
set_option linter.unusedVariables false
attribute [local go_sem] Later.cell Later.frozen setCell_twice
set_option maxRecDepth 100000 in
set_option maxHeartbeats 2000000 in
theorem stageRefuses_ok (n : Int) (x : Blk) (o t ai to : Nat) (w : World) (hx : x.Ok w w.heap.size) (ho : o < 65536) (ht : t < 4294967296) (hai : ai < 256) (hto : to < 65536) (hxl : x.ws.length ≤ 100) (hok : Bk.fits x.a x.ws.length = true ∧ 0 ≤ n ∧ n < 8) :
    Calls Try.prog 5 #[.int .i64 n, .agg #[.int .i64 x.a, .slice x.A x.ws.length x.c], .int .u16 (o : Int), .int .u32 (t : Int), .int .u8 (ai : Int), .int .u16 (to : Int)] w fun e w' => e = .returned (.bool true) ∧ Below w.heap.size w w' := by
  obtain ⟨i0, hif, hz0, hz1, hz2⟩ := info_parts info_w16
  have g1 : decide ((100 : Int) < (x.ws.length : Int)) = false := by simp; omega
  have hx100 : x.ws.length ≤ 100 := hxl
  have kx := Lib.hid (fun W (h : Below w.heap.size w W) => hx.to h)
  obtain ⟨k, hk⟩ : ∃ k : Nat, ai % 20 = k := ⟨_, rfl⟩
  have hk20 : k < 20 := by omega
  have hkI : (ai : Int) % 20 = (k : Int) := by omega
  have hfy := Bk.fitP_fits x.pr
  obtain ⟨p, hP⟩ : ∃ p, Bk.fitP x.pr = p := ⟨_, rfl⟩
  rw [hP] at hfy
  obtain ⟨ya, yws⟩ := p
  simp only at hfy
  have HPP := Lib.hid hP
  have HFY := Lib.hid hfy
  clear hk hP hfy
  have kf := fun (W : World) (b : Bool) (hb : Bk.fits x.a x.ws.length = b) => fits_any x.a x.ws.length x.c x.A b W hx.lo hx.hi (Nat.le_trans hx.ln hx.cap) hb
  obtain ⟨hf, hn0, hn8⟩ := hok
  obtain ⟨m, rfl, hm⟩ : ∃ m : Nat, n = (m : Int) ∧ m ≤ 7 := ⟨n.toNat, by omega, by omega⟩
  have kfx := Lib.hid (fun W => kf W true hf)
  have kp : Hid (∀ W, Below w.heap.size w W → Calls Try.prog 15 #[.agg (zt t), .int .i64 (m : Int), .agg #[.int .i64 x.a, .slice x.A x.ws.length x.c]] W (PutP W t ((List.replicate 8 false).set m true) ((prs (List.replicate 8 Blk.zero)).set m x.pr) 0)) := Lib.hid (fun W h => put_ok (St0 t) m x W (St0_ok t _ _ ht) (hx.to h) hm hf (St0_len t) (by omega))
  have q1 : (0 : Int) ≤ (m : Int) := by omega
  have q2 : (m : Int) < 8 := by omega
  clear kf hf hn0 hn8
  go_enter Try.func5, Try.ntmps5
  go_wp2_with fail
  (with_reducible refine (kp.out _ (bel_alloc (Below.refl _ _) _)).mono ?_)
  rintro e_ w1 ⟨s', rfl, hso, _, _, _, hb1⟩
  have d0 : w1.cell? ⟨w.heap.size, 0, none⟩ = some (.int .i64 x.a) := (hb1.cell (p := ⟨w.heap.size, 0, none⟩) (by simp)).trans (by simp)
  have d1 : w1.cell? ⟨w.heap.size, 1, none⟩ = some (.slice x.A x.ws.length x.c) := (hb1.cell (p := ⟨w.heap.size, 1, none⟩) (by simp)).trans (by simp)
  have hbw1 : Below w.heap.size w w1 := (bel_alloc (Below.refl _ _) _).trans (hb1.mono (by simp))
  have hs1 : w.heap.size < w1.heap.size := by have := hb1.size; simp at this; omega
  have hC : s'.C.length = 25 := Stv.C_length hso.lh hso.lb
  have HS1 : Hid ((Try.prog.info? 42).map (·.size) = some s'.C.toArray.size) := Lib.hid (by rw [List.size_toArray, hC]; exact size_25)
  have HO : Hid (z25.size = s'.C.toArray.size) := Lib.hid (by show 25 = _; rw [List.size_toArray, hC])
  have HO1 := Lib.hid (all_oneCell_toArray (Stv.C_one s'))
  clear hb1 hC hso
  go_wp2_with (refine wpList_store_row rfl 42 (.tmp 13) (.tmp 37) rfl w1.heap.size s'.C.toArray rfl rfl 42 z25 (heap_alloc_new w1 _) HS1.out HO.out HO1.out ?_; obtain ⟨w2, hw2⟩ : ∃ w2, w2 = (w1.alloc (.cells z25 42)).setRow w1.heap.size s'.C.toArray := ⟨_, rfl⟩; rw [← hw2]; have hb2 : Below w1.heap.size w1 w2 := (by rw [hw2]; exact below_setRow (bel_alloc (Below.refl _ _) _) (Nat.le_refl _) _); replace d0 := (hb2.cell (p := ⟨w.heap.size, 0, none⟩) hs1).trans d0; replace d1 := (hb2.cell (p := ⟨w.heap.size, 1, none⟩) hs1).trans d1; clear hw2)
  have hbw2 : Below w.heap.size w w2 := hbw1.trans (hb2.mono hbw1.size)
  have hs2 : w.heap.size < w2.heap.size := by have := hb2.size; omega
  clear hb2 hbw1
  with_reducible refine (kfx.out _).mono ?_
  rintro e_ w3 ⟨rfl, hb3⟩
  have d2 := (hb3.cell (p := ⟨w.heap.size, 0, none⟩) hs2).trans d0
  have d3 := (hb3.cell (p := ⟨w.heap.size, 1, none⟩) hs2).trans d1
  have hbw3 : Below w.heap.size w w3 := hbw2.trans (hb3.mono hbw2.size)
  have hs3 : w.heap.size < w3.heap.size := by have := hb3.size; omega
  clear d0 d1 hb3 hbw2
  go_wp2_with (at_make; refine wpList_make_full _ rfl _ _ 24 rfl w3.heap.size 22 i0 (.int .u16 0) 1 Try.underlying24 hif hz0 hz1 _ _ _ _ 20 rfl rfl rfl rfl (by rw [hz2]; decide) (by decide) (Nat.le_refl _) ?_; intro w4 o4 hg4; have hb4 : Below w3.heap.size w3 w4 := (Below.refl _ _).grown hg4 (Nat.le_refl _) (by simp); have d4 := (hb4.cell (p := ⟨w.heap.size, 0, none⟩) hs3).trans d2; have d5 := (hb4.cell (p := ⟨w.heap.size, 1, none⟩) hs3).trans d3; clear hg4 o4)
  have HBM := Lib.hid (hbw3.trans (hb4.mono hbw3.size))
  have kfit := Lib.hid (fun W (h : Below w.heap.size w W) => fit_one (some ⟨W.heap.size, 0, none⟩) x (W.alloc (.cells #[.int .i64 x.a, .slice x.A x.ws.length x.c] 26)) (Blks.one rfl (hx.to h)))
  go_wp2_with fail
  (with_reducible refine (kfit.out _ HBM.out).mono ?_)
  rintro e_ w5 ⟨g, oo, c, y, rfl, hyp, hyo, hg, hc0, hc1, hc, hcc, hb5⟩
  have hb5w : Below w.heap.size w w5 := (bel_alloc HBM.out _).trans (hb5.mono (by have := HBM.out.size; simp; omega))
  rw [HPP.out] at hyp
  obtain ⟨ya', yws', yA, yc⟩ := y
  obtain ⟨rfl, rfl⟩ : ya' = ya ∧ yws' = yws := by simpa using hyp
  simp only at hc0 hc1
  have kw := Lib.hid (fun W (h : Below w5.heap.size w5 W) => words_lit o t 0 ya' yws' yA yc _ (Stg.tagged o t 0 ya' yws') 20 0 W ho ht rfl (hyo.to h).sq hyo.lo hyo.hi (Nat.le_trans hyo.ln hyo.cap) hyo.nl (by unfold Stg.words; rw [if_neg (by omega), if_pos HFY.out]; rfl) (Stg.tagged_length _ _ _ _ _))
  clear hyp hb5
  go_wp2_with fail
  with_reducible refine (kw.out _ (by repeat (first | exact Below.refl _ _ | refine bel_later _ ?_ | refine bel_alloc ?_ _ | refine bel_set ?_ (by first | omega | (simp; done) | (simp; omega)) _ | refine Below.drew ?_ | assumption))).mono ?_
  rintro e_z1 w_z1 ⟨Az1, cz1, rfl, oz1, hb_z1⟩
  obtain ⟨z1, rfl⟩ := later_is hb_z1
  clear hb_z1
  have hz_z1 := z1.bel.size
  try simp at hz_z1
  have l_z1_0 : w5.heap.size < z1.val.heap.size := by omega
  have m_z1_0 : w5.heap.size < z1.val.heap.size + 1 := by omega
  have q_ := z1.bel.cell (p := ⟨w5.heap.size, 0, none⟩) (by first | omega | (simp; done) | (simp; omega))
  generalize c_z1_0_0 : z1.val.cell? ⟨w5.heap.size, 0, none⟩ = q at q_
  first | (have q2_ : q = some _ := q_; subst q2_) | (simp [go_sem] at q_; have q2_ : q = some _ := q_; subst q2_) | (simp [go_sem, *] at q_; have q2_ : q = some _ := q_; subst q2_)
  have q_ := z1.bel.frozen (p := ⟨w5.heap.size, 0, none⟩) (by first | omega | (simp; done) | (simp; omega))
  generalize z_z1_0_0 : z1.val.frozen? ⟨w5.heap.size, 0, none⟩ = q at q_
  first | (have q2_ : q = false := q_; subst q2_) | (simp [go_sem] at q_; have q2_ : q = false := q_; subst q2_) | (simp [go_sem, *] at q_; have q2_ : q = false := q_; subst q2_)
  have q_ := z1.bel.cell (p := ⟨w5.heap.size, 1, none⟩) (by first | omega | (simp; done) | (simp; omega))
  generalize c_z1_0_1 : z1.val.cell? ⟨w5.heap.size, 1, none⟩ = q at q_
  first | (have q2_ : q = some _ := q_; subst q2_) | (simp [go_sem] at q_; have q2_ : q = some _ := q_; subst q2_) | (simp [go_sem, *] at q_; have q2_ : q = some _ := q_; subst q2_)
  have q_ := z1.bel.frozen (p := ⟨w5.heap.size, 1, none⟩) (by first | omega | (simp; done) | (simp; omega))
  generalize z_z1_0_1 : z1.val.frozen? ⟨w5.heap.size, 1, none⟩ = q at q_
  first | (have q2_ : q = false := q_; subst q2_) | (simp [go_sem] at q_; have q2_ : q = false := q_; subst q2_) | (simp [go_sem, *] at q_; have q2_ : q = false := q_; subst q2_)
  obtain ⟨gw, rfl, hgb, hgl⟩ := own_some oz1 (by omega)
  have hgw : w5.heap.size < gw := by simp at hgb; omega
  obtain ⟨old, hold⟩ : ∃ old, (Stg.tagged o t 0 ya' yws')[k]? = some old := ⟨_, List.getElem?_eq_getElem (by rw [Stg.tagged_length]; exact hk20)⟩
  have k0 : z1.val.cell? ⟨gw, k, none⟩ = some (.int .u16 (old : Int)) := (oz1.cellAt k (by omega)).trans (map_get hold)
  have f0 := oz1.frozenAt k
  have hk20I : (k : Int) < 20 := by omega
  have os := own_set (i := k) (x := to) oz1
  have HU := Lib.hid (Stg.mem_set_u16 (k := k) (Stg.tagged_u16 (n := 0) (a := ya') ho ht (by omega) hyo.u) hto)
  have hLs : ((Stg.tagged o t 0 ya' yws').set k to).length = 20 := by rw [List.length_set, Stg.tagged_length]
  obtain ⟨v, hv⟩ : ∃ v, (Stg.tagged o t 0 ya' yws').set k to = v := ⟨_, rfl⟩
  rw [hv] at os hLs HU
  obtain ⟨r, hr⟩ : ∃ r, Stg.read v = r := ⟨_, rfl⟩
  have hrb := Stg.read_back (w := v) HU.out
  have hrn := Stg.read_bounds (v := v) HU.out
  rw [hr] at hrb hrn
  have HV := Lib.hid hv
  have HR := Lib.hid hr
  have HLS := Lib.hid hLs
  have HRB := Lib.hid hrb
  have hbz1 : Below w.heap.size w z1.val := bel_later z1 (bel_alloc hb5w _)
  have hgw0 : w.heap.size ≤ gw := by have := hb5w.size; omega
  have hne : gw ≠ w5.heap.size := by omega
  have e0 := keep_block (b := gw) (i := k) (u := .int .u16 (to : Int)) hne c_z1_0_0
  have e1 := keep_block (b := gw) (i := k) (u := .int .u16 (to : Int)) hne c_z1_0_1
  clear hv hr hold hLs hrb hgb
  obtain ⟨ro, rt, rn, ra, rws, re⟩ := r
  simp only at hrn
  have hru := hrn.2.2
  go_wp2_with fail
  with_reducible refine (read_lit v (some ⟨gw, 0, none⟩) cz1 20 ⟨ro, rt, rn, ra, rws, re⟩ (ro : Int) (rt : Int) (rn : Int) (ra : Int) re rws.length _ HLS.out (Sq.of_own os) HU.out (own_nil_c os).2 (own_cap os) HR.out rfl rfl rfl rfl rfl rfl).mono ?_
  rintro e_z2 w_z2 ⟨Az2, cz2, rfl, oz2, hb_z2⟩
  obtain ⟨z2, rfl⟩ := later_is hb_z2
  clear hb_z2
  have hz_z2 := z2.bel.size
  try simp at hz_z2
  have e2 := z2.keep e0
  have e3 := z2.keep e1
  have hbz2 : Below w.heap.size w z2.val := bel_later z2 (bel_set hbz1 hgw0 _)
  clear e0 e1 k0 f0 os hrn kw
  have he : re = (Stg.read ((Stg.tagged o t 0 ya' yws').set k to)).e := by rw [HV.out, HR.out]
  have hff := HFY.out
  have kz := Lib.hid (fun (W : World) (h0 : re = 0) => fits_any (ra : Int) rws.length cz2 Az2 true W (by omega) (by have := Bk.fits_iff.1 (HRB.out h0).1; omega) (by have := Bk.fits_iff.1 (HRB.out h0).1; omega) (HRB.out h0).1)
  have hzz : w5.heap.size < z2.val.heap.size := by omega
  have hyl : yws'.length ≤ 14 := (Bk.fits_iff.1 HFY.out).1
  have HE := Lib.hid he
  have HFF := Lib.hid hff
  clear he hff
  by_cases c3 : k = 3
  · subst c3
    have hl := Stg.set_num (o := o) (t := t) (n := 0) (to := to) HFF.out
    rw [← HE.out] at hl
    by_cases c8 : to < 8
    · obtain rfl : re = 0 := hl.1.2 c8
      have g8 : decide ((to : Int) < 8) = true := by simp; omega
      clear hl c8
      go_wp2_with fail
      refine (awake_any _).mono ?_
      rintro e_z9 w_z9 ⟨rfl, hb_z9⟩
      obtain ⟨z9, rfl⟩ := later_is hb_z9
      clear hb_z9
      have hz_z9 := z9.bel.size
      try simp at hz_z9
      go_wp2
      go_ret
      exact ⟨rfl, (by repeat (first | exact Below.refl _ _ | refine bel_later _ ?_ | refine bel_alloc ?_ _ | refine bel_set ?_ (by first | omega | (simp; done) | (simp; omega)) _ | refine Below.drew ?_ | assumption))⟩
    · obtain rfl : re = 2 := hl.2 (by omega)
      have g8 : decide ((to : Int) < 8) = false := by simp; omega
      clear hl c8
      go_wp2_with fail
      refine (awake_any _).mono ?_
      rintro e_z9 w_z9 ⟨rfl, hb_z9⟩
      obtain ⟨z9, rfl⟩ := later_is hb_z9
      clear hb_z9
      have hz_z9 := z9.bel.size
      try simp at hz_z9
      go_wp2
      go_ret
      exact ⟨rfl, (by repeat (first | exact Below.refl _ _ | refine bel_later _ ?_ | refine bel_alloc ?_ _ | refine bel_set ?_ (by first | omega | (simp; done) | (simp; omega)) _ | refine Below.drew ?_ | assumption))⟩
  have g3 : ((k : Int) == 3) = false := beq_eq_false_iff_ne.2 (by omega)
  by_cases c6 : 6 + yws'.length ≤ k
  · have g6 : decide (6 + (yws'.length : Int) ≤ (k : Int)) = true := by simp; omega
    have hl := Stg.set_high (o := o) (t := t) (n := 0) (to := to) HFF.out (by omega) c6 hk20
    rw [← HE.out] at hl
    by_cases c0 : to = 0
    · obtain rfl : re = 0 := hl.2 c0
      have g7 : (to : Int) = 0 := by omega
      clear hl c3
      go_wp2_with fail
      refine (awake_any _).mono ?_
      rintro e_z9 w_z9 ⟨rfl, hb_z9⟩
      obtain ⟨z9, rfl⟩ := later_is hb_z9
      clear hb_z9
      have hz_z9 := z9.bel.size
      try simp at hz_z9
      go_wp2
      go_ret
      exact ⟨rfl, (by repeat (first | exact Below.refl _ _ | refine bel_later _ ?_ | refine bel_alloc ?_ _ | refine bel_set ?_ (by first | omega | (simp; done) | (simp; omega)) _ | refine Below.drew ?_ | assumption))⟩
    · have g7 : ((to : Int) == 0) = false := beq_eq_false_iff_ne.2 (by omega)
      have g9 : (re == 0) = false := beq_eq_false_iff_ne.2 (fun h => c0 (hl.1 h))
      clear hl c3
      go_wp2_with fail
      refine (awake_any _).mono ?_
      rintro e_z9 w_z9 ⟨rfl, hb_z9⟩
      obtain ⟨z9, rfl⟩ := later_is hb_z9
      clear hb_z9
      have hz_z9 := z9.bel.size
      try simp at hz_z9
      go_wp2
      go_ret
      exact ⟨rfl, (by repeat (first | exact Below.refl _ _ | refine bel_later _ ?_ | refine bel_alloc ?_ _ | refine bel_set ?_ (by first | omega | (simp; done) | (simp; omega)) _ | refine Below.drew ?_ | assumption))⟩
  have g6 : decide (6 + (yws'.length : Int) ≤ (k : Int)) = false := by simp; omega
  by_cases c2 : k ≤ 2
  · obtain rfl : re = 0 := by rw [HE.out]; exact Stg.set_low HFF.out (by omega) c2
    have g2 : decide ((2 : Int) < (k : Int)) = false := by simp; omega
    clear c3
    go_wp2_with fail
    refine (kz.out _ (by first | trivial | simp)).mono ?_
    rintro e_z8 w_z8 ⟨rfl, hb_z8⟩
    obtain ⟨z8, rfl⟩ := later_is hb_z8
    clear hb_z8
    have hz_z8 := z8.bel.size
    try simp at hz_z8
    go_wp2_with fail
    refine (awake_any _).mono ?_
    rintro e_z9 w_z9 ⟨rfl, hb_z9⟩
    obtain ⟨z9, rfl⟩ := later_is hb_z9
    clear hb_z9
    have hz_z9 := z9.bel.size
    try simp at hz_z9
    go_wp2
    go_ret
    exact ⟨rfl, (by repeat (first | exact Below.refl _ _ | refine bel_later _ ?_ | refine bel_alloc ?_ _ | refine bel_set ?_ (by first | omega | (simp; done) | (simp; omega)) _ | refine Below.drew ?_ | assumption))⟩
  · have g2 : decide ((2 : Int) < (k : Int)) = true := by simp; omega
    by_cases ce : re = 0
    · subst ce
      clear c3
      go_wp2_with fail
      refine (kz.out _ (by first | trivial | simp)).mono ?_
      rintro e_z8 w_z8 ⟨rfl, hb_z8⟩
      obtain ⟨z8, rfl⟩ := later_is hb_z8
      clear hb_z8
      have hz_z8 := z8.bel.size
      try simp at hz_z8
      go_wp2_with fail
      refine (awake_any _).mono ?_
      rintro e_z9 w_z9 ⟨rfl, hb_z9⟩
      obtain ⟨z9, rfl⟩ := later_is hb_z9
      clear hb_z9
      have hz_z9 := z9.bel.size
      try simp at hz_z9
      go_wp2
      go_ret
      exact ⟨rfl, (by repeat (first | exact Below.refl _ _ | refine bel_later _ ?_ | refine bel_alloc ?_ _ | refine bel_set ?_ (by first | omega | (simp; done) | (simp; omega)) _ | refine Below.drew ?_ | assumption))⟩
    · have g9 : (re == 0) = false := beq_eq_false_iff_ne.2 ce
      have g10 : (re != 0) = true := by rw [bne_iff_ne]; exact ce
      clear c3
      go_wp2_with fail
      refine (awake_any _).mono ?_
      rintro e_z9 w_z9 ⟨rfl, hb_z9⟩
      obtain ⟨z9, rfl⟩ := later_is hb_z9
      clear hb_z9
      have hz_z9 := z9.bel.size
      try simp at hz_z9
      go_wp2
      go_ret
      exact ⟨rfl, (by repeat (first | exact Below.refl _ _ | refine bel_later _ ?_ | refine bel_alloc ?_ _ | refine bel_set ?_ (by first | omega | (simp; done) | (simp; omega)) _ | refine Below.drew ?_ | assumption))⟩
end Go.Proofs.Ytopkncbpkccfbaa
