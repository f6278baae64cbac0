/- Layer 15, the document's answer: Right of a recipe (layer 14). -/
import Derived.Test.YthhokpaidekmnaaVdRcp
import Derived.Test.YthhokpaidekmnaaVrWd
namespace Go.Proofs.Ythhokpaidekmnaa
open Go.RowKit
set_option linter.unusedVariables false
set_option linter.unusedSimpArgs false
set_option maxRecDepth 100000
attribute [local go_sem] Later.cell Later.frozen setCell_twice
set_option maxHeartbeats 4000000 in
theorem rrcp_any (nm : ByteArray) (A : Option Addr) (l : List Pa) (n c : Nat) (w : World) (hn : l.length = n) (h : Pas w w.heap.size A l) (hs : Shp A n c) (hu8 : ∀ p ∈ l, ∀ st ∈ p.sets, st.unit.size ≤ 8192) :
  Calls Try.prog 33 #[.agg #[.string nm, .slice A n c]] w fun e w' => e = .returned (.bool (Vd.rightR nm l)) ∧ Below w.heap.size w w' := by
 have HN := Lib.hid hn
 have HH := Lib.hid h
 have HS := Lib.hid hs
 have HU8 := Lib.hid hu8
 have hcap : n ≤ 9223372036854775807 := Nat.le_trans hs.le hs.cap
 unfold Vd.rightR
 rw [hn]
 have NM := Lib.hid (fun w => rname_any nm w)
 clear hn h hs hu8
 cases q0 : Vd.name nm
 ·rw [q0] at NM
  rw [Bool.false_and, Bool.false_and]
  clear q0
  go_enter Try.func33, Try.ntmps33
  go_wp2_with fail
  with_reducible refine (NM.out _).mono ?_
  rintro e_ w_ ⟨rfl, rfl⟩
  go_wp2
  go_ret
  exact ⟨rfl, belo⟩
 rw [q0] at NM
 rw [Bool.true_and]
 clear q0
 by_cases h8 : 8 < n
 ·have g1 : decide ((8 : Int) < (n : Int)) = true := decide_eq_true (by omega)
  rw [decide_eq_false (show ¬ n ≤ 8 by omega), Bool.false_and]
  clear h8
  go_enter Try.func33, Try.ntmps33
  go_wp2_with fail
  with_reducible refine (NM.out _).mono ?_
  rintro e_ w_ ⟨rfl, rfl⟩
  go_wp2
  go_ret
  exact ⟨rfl, belo⟩
 have g1 : decide ((8 : Int) < (n : Int)) = false := decide_eq_false (by omega)
 rw [decide_eq_true (show n ≤ 8 by omega), Bool.true_and]
 obtain ⟨rv, hrv⟩ : ∃ rv, l.all Vd.rightPa = rv := ⟨_, rfl⟩
 rw [hrv]
 have RV := Lib.hid hrv
 clear hrv
 go_enter Try.func33, Try.ntmps33
 go_wp2_with fail
 with_reducible refine (NM.out _).mono ?_
 rintro e_ w_ ⟨rfl, rfl⟩
 go_upto_region 3 with fail
 obtain ⟨w0, hw0⟩ : ∃ w_q_, w_q_ = w.alloc (.cells #[.string nm, .slice A n c] 26) := ⟨_, rfl⟩
 rw [← hw0]
 have hb0 : Below w.heap.size w w0 := by rw [hw0]; exact bel_alloc (Below.refl _ _) _
 have hz0 : w0.heap.size = w.heap.size + 1 := by rw [hw0]; simp
 have c0 : w0.cell? ⟨w.heap.size, 0, none⟩ = some (.string nm) := by rw [hw0]; simp [go_sem]
 have c1 : w0.cell? ⟨w.heap.size, 1, none⟩ = some (.slice A n c) := by rw [hw0]; simp [go_sem]
 have z0 : w0.frozen? ⟨w.heap.size, 0, none⟩ = false := by rw [hw0]; simp [go_sem]
 have z1 : w0.frozen? ⟨w.heap.size, 1, none⟩ = false := by rw [hw0]; simp [go_sem]
 have hz0' : w.heap.size + 1 ≤ w0.heap.size := by omega
 clear hw0 hz0
 go_wp2
 go_loopw [3] (fun x wr => ∃ j : Nat, j ≤ n ∧ Hid ((l.take j).all Vd.rightPa = true) ∧ x = .int .i64 (j : Int) ∧ Below (w.heap.size + 1) w0 wr) (fun i _ => n - (RowKit.intOf i).toNat)
 case atStart => exact ⟨0, by omega, Lib.hid rfl, rfl, Below.refl _ _⟩
 case round =>
  rename World => wr0
  obtain ⟨j, hj, HA, rfl, hbr⟩ := hrel
  obtain ⟨xr, hxr⟩ := later_is hbr
  have hz_xr := xr.bel.size
  obtain rfl := hxr
  have hz_xr := xr.bel.size
  try simp at hz_xr
  have l_xr_0 : w.heap.size < xr.val.heap.size := by omega
  have m_xr_0 : w.heap.size < xr.val.heap.size + 1 := by omega
  have q_ := xr.cq (w.heap.size) 0
  generalize c_xr_0_0 : xr.val.cell? ⟨w.heap.size, 0, none⟩ = q at q_
  first | (have q2_ : q = some _ := q_; subst q2_) | (simp [go_sem] at q_; have q2_ : q = some _ := q_; subst q2_) | (simp [go_sem, *] at q_; have q2_ : q = some _ := q_; subst q2_)
  have q_ := xr.zq (w.heap.size) 0
  generalize z_xr_0_0 : xr.val.frozen? ⟨w.heap.size, 0, none⟩ = q at q_
  first | (have q2_ : q = false := q_; subst q2_) | (simp [go_sem] at q_; have q2_ : q = false := q_; subst q2_) | (simp [go_sem, *] at q_; have q2_ : q = false := q_; subst q2_)
  have q_ := xr.cq (w.heap.size) 1
  generalize c_xr_0_1 : xr.val.cell? ⟨w.heap.size, 1, none⟩ = q at q_
  first | (have q2_ : q = some _ := q_; subst q2_) | (simp [go_sem] at q_; have q2_ : q = some _ := q_; subst q2_) | (simp [go_sem, *] at q_; have q2_ : q = some _ := q_; subst q2_)
  have q_ := xr.zq (w.heap.size) 1
  generalize z_xr_0_1 : xr.val.frozen? ⟨w.heap.size, 1, none⟩ = q at q_
  first | (have q2_ : q = false := q_; subst q2_) | (simp [go_sem] at q_; have q2_ : q = false := q_; subst q2_) | (simp [go_sem, *] at q_; have q2_ : q = false := q_; subst q2_)
  have hbe : Below w.heap.size w xr.val := hb0.trans (hbr.mono (by omega))
  have BE := Lib.hid hbe
  by_cases hlt : j < n
  rotate_left
  ·obtain rfl : j = n := by omega
   obtain rfl : true = rv := by rw [← RV.out, allL_end HN.out HA.out]
   clear hlt hj
   go_wp2
   go_ret
   exact ⟨rfl, BE.out⟩
  have hltI : (j : Int) < (n : Int) := by omega
  obtain ⟨g1', o1, p, rfl, hg, hp, hok, p0, p1, p2⟩ := (HH.out.to hbe).at_ (k := j) (by rw [HN.out]; exact hlt)
  have hgl : g1' < xr.val.heap.size := hg
  obtain ⟨slave, line, sets, PA, pc⟩ := p
  obtain ⟨m, hm⟩ : ∃ m, sets.length = m := ⟨_, rfl⟩
  have HM := Lib.hid hm
  have HP := Lib.hid hp
  have HO := Lib.hid hok
  have hmc : m ≤ 9223372036854775807 := by have := hok.shp.le; have := hok.shp.cap; dsimp only at *; omega
  dsimp only at p0 p1 p2
  rw [hm] at p2
  have SN := Lib.hid (fun w => rname_any slave w)
  have hpa : Vd.rightPa ⟨slave, line, sets, PA, pc⟩ = (Vd.name slave && decide (m ≤ 64) && sets.all Vd.rightSt) := by rw [← hm]; rfl
  have HPA := Lib.hid hpa
  clear hm hp hok hpa hg
  cases q1 : Vd.name slave
  ·obtain rfl : false = rv := by rw [← RV.out, allL_no HP.out (by rw [HPA.out, q1]; rfl)]
   rw [q1] at SN
   clear RV q1 HPA
   go_wp2_with fail
   with_reducible refine (SN.out _).mono ?_
   rintro e_ w_ ⟨rfl, rfl⟩
   go_wp2
   go_ret
   exact ⟨rfl, belo⟩
  rw [q1] at SN HPA
  rw [Bool.true_and] at HPA
  clear q1
  by_cases h64 : 64 < m
  ·have g2 : decide ((64 : Int) < (m : Int)) = true := decide_eq_true (by omega)
   obtain rfl : false = rv := by rw [← RV.out, allL_no HP.out (by rw [HPA.out, decide_eq_false (show ¬ m ≤ 64 by omega)]; rfl)]
   clear RV HPA h64
   go_wp2_with fail
   with_reducible refine (SN.out _).mono ?_
   rintro e_ w_ ⟨rfl, rfl⟩
   go_wp2
   go_ret
   exact ⟨rfl, belo⟩
  have g2 : decide ((64 : Int) < (m : Int)) = false := decide_eq_false (by omega)
  rw [decide_eq_true (show m ≤ 64 by omega), Bool.true_and] at HPA
  go_wp2_with fail
  with_reducible refine (SN.out _).mono ?_
  rintro e_ w_ ⟨rfl, rfl⟩
  go_upto_region 9 with fail
  obtain ⟨w1, hw1⟩ : ∃ w_q_, w_q_ = xr.val.alloc (.cells #[.string slave, .int .i64 line, .slice PA m pc] 46) := ⟨_, rfl⟩
  rw [← hw1]
  have hb1 : Below xr.val.heap.size xr.val w1 := by rw [hw1]; exact bel_alloc (Below.refl _ _) _
  have hz1 : w1.heap.size = xr.val.heap.size + 1 := by rw [hw1]; simp
  have u0 : w1.cell? ⟨xr.val.heap.size, 0, none⟩ = some (.string slave) := by rw [hw1]; simp [go_sem]
  have u1 : w1.cell? ⟨xr.val.heap.size, 1, none⟩ = some (.int .i64 line) := by rw [hw1]; simp [go_sem]
  have u2 : w1.cell? ⟨xr.val.heap.size, 2, none⟩ = some (.slice PA m pc) := by rw [hw1]; simp [go_sem]
  have v0 : w1.frozen? ⟨xr.val.heap.size, 0, none⟩ = false := by rw [hw1]; simp [go_sem]
  have v1 : w1.frozen? ⟨xr.val.heap.size, 1, none⟩ = false := by rw [hw1]; simp [go_sem]
  have v2 : w1.frozen? ⟨xr.val.heap.size, 2, none⟩ = false := by rw [hw1]; simp [go_sem]
  have hz1' : xr.val.heap.size + 1 ≤ w1.heap.size := by omega
  clear hw1 hz1
  go_wp2
  go_loopw [5] (fun x wv => ∃ k : Nat, k ≤ m ∧ Hid ((sets.take k).all Vd.rightSt = true) ∧ x = .int .i64 (k : Int) ∧ Below (xr.val.heap.size + 1) w1 wv) (fun i _ => m - (RowKit.intOf i).toNat)
  case atStart => exact ⟨0, by omega, Lib.hid rfl, rfl, Below.refl _ _⟩
  case round =>
   rename World => wv0
   obtain ⟨k, hk, HB, rfl, hbv⟩ := hrel
   obtain ⟨xv, hxv⟩ := later_is hbv
   have hz_xv := xv.bel.size
   obtain rfl := hxv
   have hz_xv := xv.bel.size
   try simp at hz_xv
   have l_xv_0 : xr.val.heap.size < xv.val.heap.size := by omega
   have m_xv_0 : xr.val.heap.size < xv.val.heap.size + 1 := by omega
   have q_ := xv.cq (xr.val.heap.size) 0
   generalize c_xv_0_0 : xv.val.cell? ⟨xr.val.heap.size, 0, none⟩ = q at q_
   first | (have q2_ : q = some _ := q_; subst q2_) | (simp [go_sem] at q_; have q2_ : q = some _ := q_; subst q2_) | (simp [go_sem, *] at q_; have q2_ : q = some _ := q_; subst q2_)
   have q_ := xv.zq (xr.val.heap.size) 0
   generalize z_xv_0_0 : xv.val.frozen? ⟨xr.val.heap.size, 0, none⟩ = q at q_
   first | (have q2_ : q = false := q_; subst q2_) | (simp [go_sem] at q_; have q2_ : q = false := q_; subst q2_) | (simp [go_sem, *] at q_; have q2_ : q = false := q_; subst q2_)
   have q_ := xv.cq (xr.val.heap.size) 1
   generalize c_xv_0_1 : xv.val.cell? ⟨xr.val.heap.size, 1, none⟩ = q at q_
   first | (have q2_ : q = some _ := q_; subst q2_) | (simp [go_sem] at q_; have q2_ : q = some _ := q_; subst q2_) | (simp [go_sem, *] at q_; have q2_ : q = some _ := q_; subst q2_)
   have q_ := xv.zq (xr.val.heap.size) 1
   generalize z_xv_0_1 : xv.val.frozen? ⟨xr.val.heap.size, 1, none⟩ = q at q_
   first | (have q2_ : q = false := q_; subst q2_) | (simp [go_sem] at q_; have q2_ : q = false := q_; subst q2_) | (simp [go_sem, *] at q_; have q2_ : q = false := q_; subst q2_)
   have q_ := xv.cq (xr.val.heap.size) 2
   generalize c_xv_0_2 : xv.val.cell? ⟨xr.val.heap.size, 2, none⟩ = q at q_
   first | (have q2_ : q = some _ := q_; subst q2_) | (simp [go_sem] at q_; have q2_ : q = some _ := q_; subst q2_) | (simp [go_sem, *] at q_; have q2_ : q = some _ := q_; subst q2_)
   have q_ := xv.zq (xr.val.heap.size) 2
   generalize z_xv_0_2 : xv.val.frozen? ⟨xr.val.heap.size, 2, none⟩ = q at q_
   first | (have q2_ : q = false := q_; subst q2_) | (simp [go_sem] at q_; have q2_ : q = false := q_; subst q2_) | (simp [go_sem, *] at q_; have q2_ : q = false := q_; subst q2_)
   have hbi : Below xr.val.heap.size xr.val xv.val := hb1.trans (hbv.mono (by omega))
   have hbw : Below w.heap.size w xv.val := hbe.trans (hbi.mono hbe.size)
   have HBV : Hid (Below (w.heap.size + 1) w0 xv.val) := Lib.hid (hbr.trans (hbi.mono (by have := hbr.size; omega)))
   by_cases hlk : k < m
   rotate_left
   ·obtain rfl : k = m := by omega
    have HA2 : Hid ((l.take (j + 1)).all Vd.rightPa = true) := Lib.hid (allL_step HA.out HP.out (by rw [HPA.out, allL_end HM.out HB.out]))
    clear hlk hk
    go_wp2
    go_roundw
    case rel => exact ⟨j + 1, by omega, HA2, by go_num, HBV.out⟩
    case measure => simp [RowKit.intOf]; omega
   have hlkI : (k : Int) < (m : Int) := by omega
   obtain ⟨g3, o3, s, hA3, hg3, hs3, d0, d1, d2, d3, d4⟩ := St.at_ (HO.out.to hbi).rc (k := k) (by rw [HM.out]; exact hlk)
   have hS3 := Lib.hid hs3
   have HF := Lib.hid (HO.out.fit s (List.mem_of_getElem? hs3))
   dsimp only at hA3
   subst hA3
   obtain ⟨pt, ⟨vn, vd⟩, un, ln⟩ := s
   dsimp only at d0 d1 d2 d3 d4
   have hgl3 : g3 < xv.val.heap.size := hg3
   have PN := Lib.hid (fun w => rname_any pt w)
   have VR := Lib.hid (fun w => rrightD_any vn vd w HF.out.1.1 HF.out.1.2.1)
   have HU9 := Lib.hid (HU8.out _ (List.mem_of_getElem? HP.out) _ (List.mem_of_getElem? hs3))
   have HST := Lib.hid (show Vd.rightSt ⟨pt, ⟨vn, vd⟩, un, ln⟩ = (Vd.name pt && Vd.rightD ⟨vn, vd⟩ && Vd.unit un) from rfl)
   clear hs3 hg3
   cases q2 : Vd.name pt
   ·obtain rfl : false = rv := by rw [← RV.out, allL_no HP.out (by rw [HPA.out, allL_no hS3.out (by rw [HST.out, q2]; rfl)])]
    rw [q2] at PN
    clear RV q2 HST
    go_wp2_with fail
    with_reducible refine (PN.out _).mono ?_
    rintro e_ w_ ⟨rfl, rfl⟩
    go_wp2
    go_ret
    exact ⟨rfl, belo⟩
   rw [q2] at PN HST
   clear q2
   cases q3 : Vd.rightD ⟨vn, vd⟩
   ·obtain rfl : false = rv := by rw [← RV.out, allL_no HP.out (by rw [HPA.out, allL_no hS3.out (by rw [HST.out, q3]; rfl)])]
    rw [q3] at VR
    clear RV q3 HST
    go_wp2_with fail
    with_reducible refine (PN.out _).mono ?_
    rintro e_ w_ ⟨rfl, rfl⟩
    go_wp2_with fail
    with_reducible refine (VR.out _).mono ?_
    rintro e_x3 w_x3 ⟨rfl, hb_x3⟩
    obtain ⟨x3, rfl⟩ := later_is hb_x3
    clear hb_x3
    have hz_x3 := x3.bel.size
    try simp at hz_x3
    have l_x3_0 : xv.val.heap.size < x3.val.heap.size := by omega
    have m_x3_0 : xv.val.heap.size < x3.val.heap.size + 1 := by omega
    have q_ := x3.cq (xv.val.heap.size) 0
    generalize c_x3_0_0 : x3.val.cell? ⟨xv.val.heap.size, 0, none⟩ = q at q_
    first | (have q2_ : q = some _ := q_; subst q2_) | (simp [go_sem] at q_; have q2_ : q = some _ := q_; subst q2_) | (simp [go_sem, *] at q_; have q2_ : q = some _ := q_; subst q2_)
    have q_ := x3.zq (xv.val.heap.size) 0
    generalize z_x3_0_0 : x3.val.frozen? ⟨xv.val.heap.size, 0, none⟩ = q at q_
    first | (have q2_ : q = false := q_; subst q2_) | (simp [go_sem] at q_; have q2_ : q = false := q_; subst q2_) | (simp [go_sem, *] at q_; have q2_ : q = false := q_; subst q2_)
    have q_ := x3.cq (xv.val.heap.size) 1
    generalize c_x3_0_1 : x3.val.cell? ⟨xv.val.heap.size, 1, none⟩ = q at q_
    first | (have q2_ : q = some _ := q_; subst q2_) | (simp [go_sem] at q_; have q2_ : q = some _ := q_; subst q2_) | (simp [go_sem, *] at q_; have q2_ : q = some _ := q_; subst q2_)
    have q_ := x3.zq (xv.val.heap.size) 1
    generalize z_x3_0_1 : x3.val.frozen? ⟨xv.val.heap.size, 1, none⟩ = q at q_
    first | (have q2_ : q = false := q_; subst q2_) | (simp [go_sem] at q_; have q2_ : q = false := q_; subst q2_) | (simp [go_sem, *] at q_; have q2_ : q = false := q_; subst q2_)
    have q_ := x3.cq (xv.val.heap.size) 2
    generalize c_x3_0_2 : x3.val.cell? ⟨xv.val.heap.size, 2, none⟩ = q at q_
    first | (have q2_ : q = some _ := q_; subst q2_) | (simp [go_sem] at q_; have q2_ : q = some _ := q_; subst q2_) | (simp [go_sem, *] at q_; have q2_ : q = some _ := q_; subst q2_)
    have q_ := x3.zq (xv.val.heap.size) 2
    generalize z_x3_0_2 : x3.val.frozen? ⟨xv.val.heap.size, 2, none⟩ = q at q_
    first | (have q2_ : q = false := q_; subst q2_) | (simp [go_sem] at q_; have q2_ : q = false := q_; subst q2_) | (simp [go_sem, *] at q_; have q2_ : q = false := q_; subst q2_)
    have q_ := x3.cq (xv.val.heap.size) 3
    generalize c_x3_0_3 : x3.val.cell? ⟨xv.val.heap.size, 3, none⟩ = q at q_
    first | (have q2_ : q = some _ := q_; subst q2_) | (simp [go_sem] at q_; have q2_ : q = some _ := q_; subst q2_) | (simp [go_sem, *] at q_; have q2_ : q = some _ := q_; subst q2_)
    have q_ := x3.zq (xv.val.heap.size) 3
    generalize z_x3_0_3 : x3.val.frozen? ⟨xv.val.heap.size, 3, none⟩ = q at q_
    first | (have q2_ : q = false := q_; subst q2_) | (simp [go_sem] at q_; have q2_ : q = false := q_; subst q2_) | (simp [go_sem, *] at q_; have q2_ : q = false := q_; subst q2_)
    have q_ := x3.cq (xv.val.heap.size) 4
    generalize c_x3_0_4 : x3.val.cell? ⟨xv.val.heap.size, 4, none⟩ = q at q_
    first | (have q2_ : q = some _ := q_; subst q2_) | (simp [go_sem] at q_; have q2_ : q = some _ := q_; subst q2_) | (simp [go_sem, *] at q_; have q2_ : q = some _ := q_; subst q2_)
    have q_ := x3.zq (xv.val.heap.size) 4
    generalize z_x3_0_4 : x3.val.frozen? ⟨xv.val.heap.size, 4, none⟩ = q at q_
    first | (have q2_ : q = false := q_; subst q2_) | (simp [go_sem] at q_; have q2_ : q = false := q_; subst q2_) | (simp [go_sem, *] at q_; have q2_ : q = false := q_; subst q2_)
    go_wp2
    go_ret
    exact ⟨rfl, belo⟩
   rw [q3] at VR HST
   clear q3
   by_cases q0 : un = ⟨#[]⟩
   ·have hut : Vd.unit un = true := by rw [q0]; rfl
    have hE : un.toList.isEmpty = true := by rw [q0, ByteArray.toList_eq]; rfl
    have HB2 : Hid ((sets.take (k + 1)).all Vd.rightSt = true) := Lib.hid (allL_step HB.out hS3.out (by rw [HST.out, hut]; rfl))
    clear q0 HST hut
    go_wp2_with fail
    with_reducible refine (PN.out _).mono ?_
    rintro e_ w_ ⟨rfl, rfl⟩
    go_wp2_with fail
    with_reducible refine (VR.out _).mono ?_
    rintro e_x3 w_x3 ⟨rfl, hb_x3⟩
    obtain ⟨x3, rfl⟩ := later_is hb_x3
    clear hb_x3
    have hz_x3 := x3.bel.size
    try simp at hz_x3
    have l_x3_0 : xv.val.heap.size < x3.val.heap.size := by omega
    have m_x3_0 : xv.val.heap.size < x3.val.heap.size + 1 := by omega
    have q_ := x3.cq (xv.val.heap.size) 0
    generalize c_x3_0_0 : x3.val.cell? ⟨xv.val.heap.size, 0, none⟩ = q at q_
    first | (have q2_ : q = some _ := q_; subst q2_) | (simp [go_sem] at q_; have q2_ : q = some _ := q_; subst q2_) | (simp [go_sem, *] at q_; have q2_ : q = some _ := q_; subst q2_)
    have q_ := x3.zq (xv.val.heap.size) 0
    generalize z_x3_0_0 : x3.val.frozen? ⟨xv.val.heap.size, 0, none⟩ = q at q_
    first | (have q2_ : q = false := q_; subst q2_) | (simp [go_sem] at q_; have q2_ : q = false := q_; subst q2_) | (simp [go_sem, *] at q_; have q2_ : q = false := q_; subst q2_)
    have q_ := x3.cq (xv.val.heap.size) 1
    generalize c_x3_0_1 : x3.val.cell? ⟨xv.val.heap.size, 1, none⟩ = q at q_
    first | (have q2_ : q = some _ := q_; subst q2_) | (simp [go_sem] at q_; have q2_ : q = some _ := q_; subst q2_) | (simp [go_sem, *] at q_; have q2_ : q = some _ := q_; subst q2_)
    have q_ := x3.zq (xv.val.heap.size) 1
    generalize z_x3_0_1 : x3.val.frozen? ⟨xv.val.heap.size, 1, none⟩ = q at q_
    first | (have q2_ : q = false := q_; subst q2_) | (simp [go_sem] at q_; have q2_ : q = false := q_; subst q2_) | (simp [go_sem, *] at q_; have q2_ : q = false := q_; subst q2_)
    have q_ := x3.cq (xv.val.heap.size) 2
    generalize c_x3_0_2 : x3.val.cell? ⟨xv.val.heap.size, 2, none⟩ = q at q_
    first | (have q2_ : q = some _ := q_; subst q2_) | (simp [go_sem] at q_; have q2_ : q = some _ := q_; subst q2_) | (simp [go_sem, *] at q_; have q2_ : q = some _ := q_; subst q2_)
    have q_ := x3.zq (xv.val.heap.size) 2
    generalize z_x3_0_2 : x3.val.frozen? ⟨xv.val.heap.size, 2, none⟩ = q at q_
    first | (have q2_ : q = false := q_; subst q2_) | (simp [go_sem] at q_; have q2_ : q = false := q_; subst q2_) | (simp [go_sem, *] at q_; have q2_ : q = false := q_; subst q2_)
    have q_ := x3.cq (xv.val.heap.size) 3
    generalize c_x3_0_3 : x3.val.cell? ⟨xv.val.heap.size, 3, none⟩ = q at q_
    first | (have q2_ : q = some _ := q_; subst q2_) | (simp [go_sem] at q_; have q2_ : q = some _ := q_; subst q2_) | (simp [go_sem, *] at q_; have q2_ : q = some _ := q_; subst q2_)
    have q_ := x3.zq (xv.val.heap.size) 3
    generalize z_x3_0_3 : x3.val.frozen? ⟨xv.val.heap.size, 3, none⟩ = q at q_
    first | (have q2_ : q = false := q_; subst q2_) | (simp [go_sem] at q_; have q2_ : q = false := q_; subst q2_) | (simp [go_sem, *] at q_; have q2_ : q = false := q_; subst q2_)
    have q_ := x3.cq (xv.val.heap.size) 4
    generalize c_x3_0_4 : x3.val.cell? ⟨xv.val.heap.size, 4, none⟩ = q at q_
    first | (have q2_ : q = some _ := q_; subst q2_) | (simp [go_sem] at q_; have q2_ : q = some _ := q_; subst q2_) | (simp [go_sem, *] at q_; have q2_ : q = some _ := q_; subst q2_)
    have q_ := x3.zq (xv.val.heap.size) 4
    generalize z_x3_0_4 : x3.val.frozen? ⟨xv.val.heap.size, 4, none⟩ = q at q_
    first | (have q2_ : q = false := q_; subst q2_) | (simp [go_sem] at q_; have q2_ : q = false := q_; subst q2_) | (simp [go_sem, *] at q_; have q2_ : q = false := q_; subst q2_)
    have hb3 : Below xv.val.heap.size xv.val x3.val := belo
    have hbf : Below (xr.val.heap.size + 1) w1 x3.val := hbv.trans (hb3.mono (by have := hbv.size; omega))
    go_wp2
    go_roundw
    case rel => exact ⟨k + 1, by omega, HB2, by go_num, hbf⟩
    case measure => simp [RowKit.intOf]; omega
   have hpos : 0 < un.size := by
    rcases Nat.eq_zero_or_pos un.size with h | h
    ·exact absurd (by obtain ⟨⟨l⟩⟩ := un; cases l with | nil => rfl | cons a b => exact absurd h (by simp [ByteArray.size])) q0
    ·exact h
   have hE : un.toList.isEmpty = false := by rw [ByteArray.toList_eq, List.isEmpty_eq_false_iff, ← List.length_pos_iff, ← size_list]; exact hpos
   have UN := Lib.hid (fun w => rwd_any un w hpos HU9.out)
   clear q0 hpos
   cases q4 : Vd.unit un
   ·obtain rfl : false = rv := by rw [← RV.out, allL_no HP.out (by rw [HPA.out, allL_no hS3.out (by rw [HST.out, q4]; rfl)])]
    rw [q4] at UN
    clear RV q4 HST
    go_wp2_with fail
    with_reducible refine (PN.out _).mono ?_
    rintro e_ w_ ⟨rfl, rfl⟩
    go_wp2_with fail
    with_reducible refine (VR.out _).mono ?_
    rintro e_x3 w_x3 ⟨rfl, hb_x3⟩
    obtain ⟨x3, rfl⟩ := later_is hb_x3
    clear hb_x3
    have hz_x3 := x3.bel.size
    try simp at hz_x3
    have l_x3_0 : xv.val.heap.size < x3.val.heap.size := by omega
    have m_x3_0 : xv.val.heap.size < x3.val.heap.size + 1 := by omega
    have q_ := x3.cq (xv.val.heap.size) 0
    generalize c_x3_0_0 : x3.val.cell? ⟨xv.val.heap.size, 0, none⟩ = q at q_
    first | (have q2_ : q = some _ := q_; subst q2_) | (simp [go_sem] at q_; have q2_ : q = some _ := q_; subst q2_) | (simp [go_sem, *] at q_; have q2_ : q = some _ := q_; subst q2_)
    have q_ := x3.zq (xv.val.heap.size) 0
    generalize z_x3_0_0 : x3.val.frozen? ⟨xv.val.heap.size, 0, none⟩ = q at q_
    first | (have q2_ : q = false := q_; subst q2_) | (simp [go_sem] at q_; have q2_ : q = false := q_; subst q2_) | (simp [go_sem, *] at q_; have q2_ : q = false := q_; subst q2_)
    have q_ := x3.cq (xv.val.heap.size) 1
    generalize c_x3_0_1 : x3.val.cell? ⟨xv.val.heap.size, 1, none⟩ = q at q_
    first | (have q2_ : q = some _ := q_; subst q2_) | (simp [go_sem] at q_; have q2_ : q = some _ := q_; subst q2_) | (simp [go_sem, *] at q_; have q2_ : q = some _ := q_; subst q2_)
    have q_ := x3.zq (xv.val.heap.size) 1
    generalize z_x3_0_1 : x3.val.frozen? ⟨xv.val.heap.size, 1, none⟩ = q at q_
    first | (have q2_ : q = false := q_; subst q2_) | (simp [go_sem] at q_; have q2_ : q = false := q_; subst q2_) | (simp [go_sem, *] at q_; have q2_ : q = false := q_; subst q2_)
    have q_ := x3.cq (xv.val.heap.size) 2
    generalize c_x3_0_2 : x3.val.cell? ⟨xv.val.heap.size, 2, none⟩ = q at q_
    first | (have q2_ : q = some _ := q_; subst q2_) | (simp [go_sem] at q_; have q2_ : q = some _ := q_; subst q2_) | (simp [go_sem, *] at q_; have q2_ : q = some _ := q_; subst q2_)
    have q_ := x3.zq (xv.val.heap.size) 2
    generalize z_x3_0_2 : x3.val.frozen? ⟨xv.val.heap.size, 2, none⟩ = q at q_
    first | (have q2_ : q = false := q_; subst q2_) | (simp [go_sem] at q_; have q2_ : q = false := q_; subst q2_) | (simp [go_sem, *] at q_; have q2_ : q = false := q_; subst q2_)
    have q_ := x3.cq (xv.val.heap.size) 3
    generalize c_x3_0_3 : x3.val.cell? ⟨xv.val.heap.size, 3, none⟩ = q at q_
    first | (have q2_ : q = some _ := q_; subst q2_) | (simp [go_sem] at q_; have q2_ : q = some _ := q_; subst q2_) | (simp [go_sem, *] at q_; have q2_ : q = some _ := q_; subst q2_)
    have q_ := x3.zq (xv.val.heap.size) 3
    generalize z_x3_0_3 : x3.val.frozen? ⟨xv.val.heap.size, 3, none⟩ = q at q_
    first | (have q2_ : q = false := q_; subst q2_) | (simp [go_sem] at q_; have q2_ : q = false := q_; subst q2_) | (simp [go_sem, *] at q_; have q2_ : q = false := q_; subst q2_)
    have q_ := x3.cq (xv.val.heap.size) 4
    generalize c_x3_0_4 : x3.val.cell? ⟨xv.val.heap.size, 4, none⟩ = q at q_
    first | (have q2_ : q = some _ := q_; subst q2_) | (simp [go_sem] at q_; have q2_ : q = some _ := q_; subst q2_) | (simp [go_sem, *] at q_; have q2_ : q = some _ := q_; subst q2_)
    have q_ := x3.zq (xv.val.heap.size) 4
    generalize z_x3_0_4 : x3.val.frozen? ⟨xv.val.heap.size, 4, none⟩ = q at q_
    first | (have q2_ : q = false := q_; subst q2_) | (simp [go_sem] at q_; have q2_ : q = false := q_; subst q2_) | (simp [go_sem, *] at q_; have q2_ : q = false := q_; subst q2_)
    go_wp2_with fail
    with_reducible refine (UN.out _).mono ?_
    rintro e_x4 w_x4 ⟨rfl, hb_x4⟩
    obtain ⟨x4, rfl⟩ := later_is hb_x4
    clear hb_x4
    have hz_x4 := x4.bel.size
    try simp at hz_x4
    have l_x4_0 : xv.val.heap.size < x4.val.heap.size := by omega
    have m_x4_0 : xv.val.heap.size < x4.val.heap.size + 1 := by omega
    have q_ := x4.cq (xv.val.heap.size) 0
    generalize c_x4_0_0 : x4.val.cell? ⟨xv.val.heap.size, 0, none⟩ = q at q_
    first | (have q2_ : q = some _ := q_; subst q2_) | (simp [go_sem] at q_; have q2_ : q = some _ := q_; subst q2_) | (simp [go_sem, *] at q_; have q2_ : q = some _ := q_; subst q2_)
    have q_ := x4.zq (xv.val.heap.size) 0
    generalize z_x4_0_0 : x4.val.frozen? ⟨xv.val.heap.size, 0, none⟩ = q at q_
    first | (have q2_ : q = false := q_; subst q2_) | (simp [go_sem] at q_; have q2_ : q = false := q_; subst q2_) | (simp [go_sem, *] at q_; have q2_ : q = false := q_; subst q2_)
    have q_ := x4.cq (xv.val.heap.size) 1
    generalize c_x4_0_1 : x4.val.cell? ⟨xv.val.heap.size, 1, none⟩ = q at q_
    first | (have q2_ : q = some _ := q_; subst q2_) | (simp [go_sem] at q_; have q2_ : q = some _ := q_; subst q2_) | (simp [go_sem, *] at q_; have q2_ : q = some _ := q_; subst q2_)
    have q_ := x4.zq (xv.val.heap.size) 1
    generalize z_x4_0_1 : x4.val.frozen? ⟨xv.val.heap.size, 1, none⟩ = q at q_
    first | (have q2_ : q = false := q_; subst q2_) | (simp [go_sem] at q_; have q2_ : q = false := q_; subst q2_) | (simp [go_sem, *] at q_; have q2_ : q = false := q_; subst q2_)
    have q_ := x4.cq (xv.val.heap.size) 2
    generalize c_x4_0_2 : x4.val.cell? ⟨xv.val.heap.size, 2, none⟩ = q at q_
    first | (have q2_ : q = some _ := q_; subst q2_) | (simp [go_sem] at q_; have q2_ : q = some _ := q_; subst q2_) | (simp [go_sem, *] at q_; have q2_ : q = some _ := q_; subst q2_)
    have q_ := x4.zq (xv.val.heap.size) 2
    generalize z_x4_0_2 : x4.val.frozen? ⟨xv.val.heap.size, 2, none⟩ = q at q_
    first | (have q2_ : q = false := q_; subst q2_) | (simp [go_sem] at q_; have q2_ : q = false := q_; subst q2_) | (simp [go_sem, *] at q_; have q2_ : q = false := q_; subst q2_)
    have q_ := x4.cq (xv.val.heap.size) 3
    generalize c_x4_0_3 : x4.val.cell? ⟨xv.val.heap.size, 3, none⟩ = q at q_
    first | (have q2_ : q = some _ := q_; subst q2_) | (simp [go_sem] at q_; have q2_ : q = some _ := q_; subst q2_) | (simp [go_sem, *] at q_; have q2_ : q = some _ := q_; subst q2_)
    have q_ := x4.zq (xv.val.heap.size) 3
    generalize z_x4_0_3 : x4.val.frozen? ⟨xv.val.heap.size, 3, none⟩ = q at q_
    first | (have q2_ : q = false := q_; subst q2_) | (simp [go_sem] at q_; have q2_ : q = false := q_; subst q2_) | (simp [go_sem, *] at q_; have q2_ : q = false := q_; subst q2_)
    have q_ := x4.cq (xv.val.heap.size) 4
    generalize c_x4_0_4 : x4.val.cell? ⟨xv.val.heap.size, 4, none⟩ = q at q_
    first | (have q2_ : q = some _ := q_; subst q2_) | (simp [go_sem] at q_; have q2_ : q = some _ := q_; subst q2_) | (simp [go_sem, *] at q_; have q2_ : q = some _ := q_; subst q2_)
    have q_ := x4.zq (xv.val.heap.size) 4
    generalize z_x4_0_4 : x4.val.frozen? ⟨xv.val.heap.size, 4, none⟩ = q at q_
    first | (have q2_ : q = false := q_; subst q2_) | (simp [go_sem] at q_; have q2_ : q = false := q_; subst q2_) | (simp [go_sem, *] at q_; have q2_ : q = false := q_; subst q2_)
    go_wp2
    go_ret
    exact ⟨rfl, belo⟩
   rw [q4] at UN HST
   have HB2 : Hid ((sets.take (k + 1)).all Vd.rightSt = true) := Lib.hid (allL_step HB.out hS3.out HST.out)
   clear q4 HST
   go_wp2_with fail
   with_reducible refine (PN.out _).mono ?_
   rintro e_ w_ ⟨rfl, rfl⟩
   go_wp2_with fail
   with_reducible refine (VR.out _).mono ?_
   rintro e_x3 w_x3 ⟨rfl, hb_x3⟩
   obtain ⟨x3, rfl⟩ := later_is hb_x3
   clear hb_x3
   have hz_x3 := x3.bel.size
   try simp at hz_x3
   have l_x3_0 : xv.val.heap.size < x3.val.heap.size := by omega
   have m_x3_0 : xv.val.heap.size < x3.val.heap.size + 1 := by omega
   have q_ := x3.cq (xv.val.heap.size) 0
   generalize c_x3_0_0 : x3.val.cell? ⟨xv.val.heap.size, 0, none⟩ = q at q_
   first | (have q2_ : q = some _ := q_; subst q2_) | (simp [go_sem] at q_; have q2_ : q = some _ := q_; subst q2_) | (simp [go_sem, *] at q_; have q2_ : q = some _ := q_; subst q2_)
   have q_ := x3.zq (xv.val.heap.size) 0
   generalize z_x3_0_0 : x3.val.frozen? ⟨xv.val.heap.size, 0, none⟩ = q at q_
   first | (have q2_ : q = false := q_; subst q2_) | (simp [go_sem] at q_; have q2_ : q = false := q_; subst q2_) | (simp [go_sem, *] at q_; have q2_ : q = false := q_; subst q2_)
   have q_ := x3.cq (xv.val.heap.size) 1
   generalize c_x3_0_1 : x3.val.cell? ⟨xv.val.heap.size, 1, none⟩ = q at q_
   first | (have q2_ : q = some _ := q_; subst q2_) | (simp [go_sem] at q_; have q2_ : q = some _ := q_; subst q2_) | (simp [go_sem, *] at q_; have q2_ : q = some _ := q_; subst q2_)
   have q_ := x3.zq (xv.val.heap.size) 1
   generalize z_x3_0_1 : x3.val.frozen? ⟨xv.val.heap.size, 1, none⟩ = q at q_
   first | (have q2_ : q = false := q_; subst q2_) | (simp [go_sem] at q_; have q2_ : q = false := q_; subst q2_) | (simp [go_sem, *] at q_; have q2_ : q = false := q_; subst q2_)
   have q_ := x3.cq (xv.val.heap.size) 2
   generalize c_x3_0_2 : x3.val.cell? ⟨xv.val.heap.size, 2, none⟩ = q at q_
   first | (have q2_ : q = some _ := q_; subst q2_) | (simp [go_sem] at q_; have q2_ : q = some _ := q_; subst q2_) | (simp [go_sem, *] at q_; have q2_ : q = some _ := q_; subst q2_)
   have q_ := x3.zq (xv.val.heap.size) 2
   generalize z_x3_0_2 : x3.val.frozen? ⟨xv.val.heap.size, 2, none⟩ = q at q_
   first | (have q2_ : q = false := q_; subst q2_) | (simp [go_sem] at q_; have q2_ : q = false := q_; subst q2_) | (simp [go_sem, *] at q_; have q2_ : q = false := q_; subst q2_)
   have q_ := x3.cq (xv.val.heap.size) 3
   generalize c_x3_0_3 : x3.val.cell? ⟨xv.val.heap.size, 3, none⟩ = q at q_
   first | (have q2_ : q = some _ := q_; subst q2_) | (simp [go_sem] at q_; have q2_ : q = some _ := q_; subst q2_) | (simp [go_sem, *] at q_; have q2_ : q = some _ := q_; subst q2_)
   have q_ := x3.zq (xv.val.heap.size) 3
   generalize z_x3_0_3 : x3.val.frozen? ⟨xv.val.heap.size, 3, none⟩ = q at q_
   first | (have q2_ : q = false := q_; subst q2_) | (simp [go_sem] at q_; have q2_ : q = false := q_; subst q2_) | (simp [go_sem, *] at q_; have q2_ : q = false := q_; subst q2_)
   have q_ := x3.cq (xv.val.heap.size) 4
   generalize c_x3_0_4 : x3.val.cell? ⟨xv.val.heap.size, 4, none⟩ = q at q_
   first | (have q2_ : q = some _ := q_; subst q2_) | (simp [go_sem] at q_; have q2_ : q = some _ := q_; subst q2_) | (simp [go_sem, *] at q_; have q2_ : q = some _ := q_; subst q2_)
   have q_ := x3.zq (xv.val.heap.size) 4
   generalize z_x3_0_4 : x3.val.frozen? ⟨xv.val.heap.size, 4, none⟩ = q at q_
   first | (have q2_ : q = false := q_; subst q2_) | (simp [go_sem] at q_; have q2_ : q = false := q_; subst q2_) | (simp [go_sem, *] at q_; have q2_ : q = false := q_; subst q2_)
   go_wp2_with fail
   with_reducible refine (UN.out _).mono ?_
   rintro e_x4 w_x4 ⟨rfl, hb_x4⟩
   obtain ⟨x4, rfl⟩ := later_is hb_x4
   clear hb_x4
   have hz_x4 := x4.bel.size
   try simp at hz_x4
   have l_x4_0 : xv.val.heap.size < x4.val.heap.size := by omega
   have m_x4_0 : xv.val.heap.size < x4.val.heap.size + 1 := by omega
   have q_ := x4.cq (xv.val.heap.size) 0
   generalize c_x4_0_0 : x4.val.cell? ⟨xv.val.heap.size, 0, none⟩ = q at q_
   first | (have q2_ : q = some _ := q_; subst q2_) | (simp [go_sem] at q_; have q2_ : q = some _ := q_; subst q2_) | (simp [go_sem, *] at q_; have q2_ : q = some _ := q_; subst q2_)
   have q_ := x4.zq (xv.val.heap.size) 0
   generalize z_x4_0_0 : x4.val.frozen? ⟨xv.val.heap.size, 0, none⟩ = q at q_
   first | (have q2_ : q = false := q_; subst q2_) | (simp [go_sem] at q_; have q2_ : q = false := q_; subst q2_) | (simp [go_sem, *] at q_; have q2_ : q = false := q_; subst q2_)
   have q_ := x4.cq (xv.val.heap.size) 1
   generalize c_x4_0_1 : x4.val.cell? ⟨xv.val.heap.size, 1, none⟩ = q at q_
   first | (have q2_ : q = some _ := q_; subst q2_) | (simp [go_sem] at q_; have q2_ : q = some _ := q_; subst q2_) | (simp [go_sem, *] at q_; have q2_ : q = some _ := q_; subst q2_)
   have q_ := x4.zq (xv.val.heap.size) 1
   generalize z_x4_0_1 : x4.val.frozen? ⟨xv.val.heap.size, 1, none⟩ = q at q_
   first | (have q2_ : q = false := q_; subst q2_) | (simp [go_sem] at q_; have q2_ : q = false := q_; subst q2_) | (simp [go_sem, *] at q_; have q2_ : q = false := q_; subst q2_)
   have q_ := x4.cq (xv.val.heap.size) 2
   generalize c_x4_0_2 : x4.val.cell? ⟨xv.val.heap.size, 2, none⟩ = q at q_
   first | (have q2_ : q = some _ := q_; subst q2_) | (simp [go_sem] at q_; have q2_ : q = some _ := q_; subst q2_) | (simp [go_sem, *] at q_; have q2_ : q = some _ := q_; subst q2_)
   have q_ := x4.zq (xv.val.heap.size) 2
   generalize z_x4_0_2 : x4.val.frozen? ⟨xv.val.heap.size, 2, none⟩ = q at q_
   first | (have q2_ : q = false := q_; subst q2_) | (simp [go_sem] at q_; have q2_ : q = false := q_; subst q2_) | (simp [go_sem, *] at q_; have q2_ : q = false := q_; subst q2_)
   have q_ := x4.cq (xv.val.heap.size) 3
   generalize c_x4_0_3 : x4.val.cell? ⟨xv.val.heap.size, 3, none⟩ = q at q_
   first | (have q2_ : q = some _ := q_; subst q2_) | (simp [go_sem] at q_; have q2_ : q = some _ := q_; subst q2_) | (simp [go_sem, *] at q_; have q2_ : q = some _ := q_; subst q2_)
   have q_ := x4.zq (xv.val.heap.size) 3
   generalize z_x4_0_3 : x4.val.frozen? ⟨xv.val.heap.size, 3, none⟩ = q at q_
   first | (have q2_ : q = false := q_; subst q2_) | (simp [go_sem] at q_; have q2_ : q = false := q_; subst q2_) | (simp [go_sem, *] at q_; have q2_ : q = false := q_; subst q2_)
   have q_ := x4.cq (xv.val.heap.size) 4
   generalize c_x4_0_4 : x4.val.cell? ⟨xv.val.heap.size, 4, none⟩ = q at q_
   first | (have q2_ : q = some _ := q_; subst q2_) | (simp [go_sem] at q_; have q2_ : q = some _ := q_; subst q2_) | (simp [go_sem, *] at q_; have q2_ : q = some _ := q_; subst q2_)
   have q_ := x4.zq (xv.val.heap.size) 4
   generalize z_x4_0_4 : x4.val.frozen? ⟨xv.val.heap.size, 4, none⟩ = q at q_
   first | (have q2_ : q = false := q_; subst q2_) | (simp [go_sem] at q_; have q2_ : q = false := q_; subst q2_) | (simp [go_sem, *] at q_; have q2_ : q = false := q_; subst q2_)
   have hb4 : Below xv.val.heap.size xv.val x4.val := belo
   have hbf : Below (xr.val.heap.size + 1) w1 x4.val := hbv.trans (hb4.mono (by have := hbv.size; omega))
   go_wp2
   go_roundw
   case rel => exact ⟨k + 1, by omega, HB2, by go_num, hbf⟩
   case measure => simp [RowKit.intOf]; omega
end Go.Proofs.Ythhokpaidekmnaa
