/- Layer 15: recipe.Right. -/
import Derived.Test.YthhokpaidekmnaaVdMem
namespace Go.Proofs.Ythhokpaidekmnaa
open Go.RowKit
set_option linter.unusedVariables false
set_option linter.unusedSimpArgs false
set_option maxRecDepth 100000
attribute [local go_sem] Later.cell Later.frozen setCell_twice
namespace Vd
def rightPa (p : Pa) : Bool := name p.slave && decide (p.sets.length ≤ 64) && p.sets.all rightSt
def rightR (nm : ByteArray) (l : List Pa) : Bool := name nm && decide (l.length ≤ 8) && l.all rightPa
end Vd
theorem allL_step {α : Type} {l : List α} {p : α → Bool} {j : Nat} {c : α} (h : (l.take j).all p = true) (hc : l[j]? = some c) (hp : p c = true) : (l.take (j + 1)).all p = true := by
 rw [List.take_add_one, hc, List.all_append, h]
 simp [hp]
theorem allL_no {α : Type} {l : List α} {p : α → Bool} {j : Nat} {c : α} (hc : l[j]? = some c) (hp : p c = false) : l.all p = false := by
 rw [List.all_eq_false]
 exact ⟨c, List.mem_of_getElem? hc, by simp [hp]⟩
theorem allL_end {α : Type} {l : List α} {p : α → Bool} {n : Nat} (hn : l.length = n) (h : (l.take n).all p = true) : l.all p = true := by
 rwa [← hn, List.take_length] at h
set_option maxHeartbeats 4000000 in
theorem rcpright_any (nm : ByteArray) (A : Option Addr) (l : List Pa) (n c : Nat) (w : World) (hn : l.length = n) (h : Pas w w.heap.size A l) (hs : Shp A n c) :
  Calls Try.prog 18 #[.agg #[.string nm, .slice A n c]] w fun e w' => e = .returned (.bool (Vd.rightR nm l)) ∧ Below w.heap.size w w' := by
 have HN := Lib.hid hn
 have HH := Lib.hid h
 have HS := Lib.hid hs
 have hcap : n ≤ 9223372036854775807 := Nat.le_trans hs.le hs.cap
 unfold Vd.rightR
 rw [hn]
 have NM := Lib.hid (fun w => name_any nm w)
 clear hn h hs
 cases q0 : Vd.name nm
 ·rw [q0] at NM
  rw [Bool.false_and, Bool.false_and]
  clear q0
  go_enter Try.func18, Try.ntmps18
  go_wp2_with fail
  with_reducible refine (NM.out _).mono ?_
  rintro e_ w_ ⟨rfl, rfl⟩
  go_wp2
  go_ret
  exact ⟨rfl, belo⟩
 rw [q0] at NM
 rw [Bool.true_and]
 clear q0
 by_cases h8 : 8 < n
 ·have g1 : decide ((8 : Int) < (n : Int)) = true := decide_eq_true (by omega)
  rw [decide_eq_false (show ¬ n ≤ 8 by omega), Bool.false_and]
  clear h8
  go_enter Try.func18, Try.ntmps18
  go_wp2_with fail
  with_reducible refine (NM.out _).mono ?_
  rintro e_ w_ ⟨rfl, rfl⟩
  go_wp2
  go_ret
  exact ⟨rfl, belo⟩
 have g1 : decide ((8 : Int) < (n : Int)) = false := decide_eq_false (by omega)
 rw [decide_eq_true (show n ≤ 8 by omega), Bool.true_and]
 obtain ⟨rv, hrv⟩ : ∃ rv, l.all Vd.rightPa = rv := ⟨_, rfl⟩
 rw [hrv]
 have RV := Lib.hid hrv
 clear hrv
 go_enter Try.func18, Try.ntmps18
 go_wp2_with fail
 with_reducible refine (NM.out _).mono ?_
 rintro e_ w_ ⟨rfl, rfl⟩
 go_wp2
 go_loopw [20] (fun x wr => ∃ j : Nat, j ≤ n ∧ Hid ((l.take j).all Vd.rightPa = true) ∧ x = .int .i64 (j : Int) ∧ Below w.heap.size w wr) (fun i _ => n - (RowKit.intOf i).toNat)
 case atStart => exact ⟨0, by omega, Lib.hid rfl, rfl, belo⟩
 case round =>
  rename World => wr
  obtain ⟨j, hj, HA, rfl, hbe⟩ := hrel
  have BE := Lib.hid hbe
  by_cases hlt : j < n
  rotate_left
  ·obtain rfl : j = n := by omega
   obtain rfl : true = rv := by rw [← RV.out, allL_end HN.out HA.out]
   clear hlt hj hbe
   go_wp2
   go_ret
   exact ⟨rfl, BE.out⟩
  have hltI : (j : Int) < (n : Int) := by omega
  obtain ⟨g1', o1, p, rfl, hg, hp, hok, c0, c1, c2⟩ := (HH.out.to hbe).at_ (k := j) (by rw [HN.out]; exact hlt)
  have hgl : g1' < wr.heap.size := hg
  obtain ⟨slave, line, sets, PA, pc⟩ := p
  obtain ⟨m, hm⟩ : ∃ m, sets.length = m := ⟨_, rfl⟩
  have HM := Lib.hid hm
  have HP := Lib.hid hp
  have HO := Lib.hid hok
  have hmc : m ≤ 9223372036854775807 := by have := hok.shp.le; have := hok.shp.cap; dsimp only at *; omega
  dsimp only at c0 c1 c2
  rw [hm] at c2
  have SN := Lib.hid (fun w => name_any slave w)
  have hpa : Vd.rightPa ⟨slave, line, sets, PA, pc⟩ = (Vd.name slave && decide (m ≤ 64) && sets.all Vd.rightSt) := by rw [← hm]; rfl
  have HPA := Lib.hid hpa
  clear hm hp hok hpa hg
  cases q1 : Vd.name slave
  ·obtain rfl : false = rv := by rw [← RV.out, allL_no HP.out (by rw [HPA.out, q1]; rfl)]
   rw [q1] at SN
   clear RV q1 HPA
   go_wp2_with fail
   with_reducible refine (SN.out _).mono ?_
   rintro e_ w_ ⟨rfl, rfl⟩
   go_wp2
   go_ret
   exact ⟨rfl, belo⟩
  rw [q1] at SN HPA
  rw [Bool.true_and] at HPA
  clear q1
  by_cases h64 : 64 < m
  ·have g2 : decide ((64 : Int) < (m : Int)) = true := decide_eq_true (by omega)
   obtain rfl : false = rv := by rw [← RV.out, allL_no HP.out (by rw [HPA.out, decide_eq_false (show ¬ m ≤ 64 by omega)]; rfl)]
   clear RV HPA h64
   go_wp2_with fail
   with_reducible refine (SN.out _).mono ?_
   rintro e_ w_ ⟨rfl, rfl⟩
   go_wp2
   go_ret
   exact ⟨rfl, belo⟩
  have g2 : decide ((64 : Int) < (m : Int)) = false := decide_eq_false (by omega)
  rw [decide_eq_true (show m ≤ 64 by omega), Bool.true_and] at HPA
  go_wp2_with fail
  with_reducible refine (SN.out _).mono ?_
  rintro e_ w_ ⟨rfl, rfl⟩
  go_wp2
  go_loopw [37] (fun x wv => ∃ k : Nat, k ≤ m ∧ Hid ((sets.take k).all Vd.rightSt = true) ∧ x = .int .i64 (k : Int) ∧ Below wr.heap.size wr wv) (fun i _ => m - (RowKit.intOf i).toNat)
  case atStart => exact ⟨0, by omega, Lib.hid rfl, rfl, belo⟩
  case round =>
   rename World => wv
   obtain ⟨k, hk, HB, rfl, hbi⟩ := hrel
   have hbw : Below w.heap.size w wv := hbe.trans (hbi.mono hbe.size)
   by_cases hlk : k < m
   rotate_left
   ·obtain rfl : k = m := by omega
    have HA2 : Hid ((l.take (j + 1)).all Vd.rightPa = true) := Lib.hid (allL_step HA.out HP.out (by rw [HPA.out, allL_end HM.out HB.out]))
    clear hlk hk hbi c0 c1 c2
    go_wp2
    go_roundw
    case rel => exact ⟨j + 1, by omega, HA2, by go_num, by first | assumption | trivial⟩
    case measure => simp [RowKit.intOf]; omega
   have hlkI : (k : Int) < (m : Int) := by omega
   obtain ⟨g3, o3, s, hA3, hg3, hs3, d0, d1, d2, d3, d4⟩ := St.at_ (HO.out.to hbi).rc (k := k) (by rw [HM.out]; exact hlk)
   have hS3 := Lib.hid hs3
   have HF := Lib.hid (HO.out.fit s (List.mem_of_getElem? hs3))
   dsimp only at hA3
   subst hA3
   obtain ⟨pt, ⟨vn, vd⟩, un, ln⟩ := s
   dsimp only at d0 d1 d2 d3 d4
   have hgl3 : g3 < wv.heap.size := hg3
   have PN := Lib.hid (fun w => name_any pt w)
   have VR := Lib.hid (fun w => rightD_any vn vd w HF.out.1.1 HF.out.1.2.1)
   have UN := Lib.hid (fun w => unit_any un w)
   have HST := Lib.hid (show Vd.rightSt ⟨pt, ⟨vn, vd⟩, un, ln⟩ = (Vd.name pt && Vd.rightD ⟨vn, vd⟩ && Vd.unit un) from rfl)
   clear hs3 hg3 c0 c1 c2
   cases q2 : Vd.name pt
   ·obtain rfl : false = rv := by rw [← RV.out, allL_no HP.out (by rw [HPA.out, allL_no hS3.out (by rw [HST.out, q2]; rfl)])]
    rw [q2] at PN
    clear RV q2 HST
    go_wp2_with fail
    with_reducible refine (PN.out _).mono ?_
    rintro e_ w_ ⟨rfl, rfl⟩
    go_wp2
    go_ret
    exact ⟨rfl, belo⟩
   rw [q2] at PN HST
   clear q2
   cases q3 : Vd.rightD ⟨vn, vd⟩
   ·obtain rfl : false = rv := by rw [← RV.out, allL_no HP.out (by rw [HPA.out, allL_no hS3.out (by rw [HST.out, q3]; rfl)])]
    rw [q3] at VR
    clear RV q3 HST
    go_wp2_with fail
    with_reducible refine (PN.out _).mono ?_
    rintro e_ w_ ⟨rfl, rfl⟩
    go_wp2_with fail
    with_reducible refine (VR.out _).mono ?_
    rintro e_x3 w_x3 ⟨rfl, hb_x3⟩
    obtain ⟨x3, rfl⟩ := later_is hb_x3
    clear hb_x3
    have hz_x3 := x3.bel.size
    try simp at hz_x3
    have l_x3_0 : wv.heap.size < x3.val.heap.size := by omega
    have m_x3_0 : wv.heap.size < x3.val.heap.size + 1 := by omega
    have q_ := x3.cq (wv.heap.size) 0
    generalize c_x3_0_0 : x3.val.cell? ⟨wv.heap.size, 0, none⟩ = q at q_
    first | (have q2_ : q = some _ := q_; subst q2_) | (simp [go_sem] at q_; have q2_ : q = some _ := q_; subst q2_) | (simp [go_sem, *] at q_; have q2_ : q = some _ := q_; subst q2_)
    have q_ := x3.zq (wv.heap.size) 0
    generalize z_x3_0_0 : x3.val.frozen? ⟨wv.heap.size, 0, none⟩ = q at q_
    first | (have q2_ : q = false := q_; subst q2_) | (simp [go_sem] at q_; have q2_ : q = false := q_; subst q2_) | (simp [go_sem, *] at q_; have q2_ : q = false := q_; subst q2_)
    have q_ := x3.cq (wv.heap.size) 1
    generalize c_x3_0_1 : x3.val.cell? ⟨wv.heap.size, 1, none⟩ = q at q_
    first | (have q2_ : q = some _ := q_; subst q2_) | (simp [go_sem] at q_; have q2_ : q = some _ := q_; subst q2_) | (simp [go_sem, *] at q_; have q2_ : q = some _ := q_; subst q2_)
    have q_ := x3.zq (wv.heap.size) 1
    generalize z_x3_0_1 : x3.val.frozen? ⟨wv.heap.size, 1, none⟩ = q at q_
    first | (have q2_ : q = false := q_; subst q2_) | (simp [go_sem] at q_; have q2_ : q = false := q_; subst q2_) | (simp [go_sem, *] at q_; have q2_ : q = false := q_; subst q2_)
    have q_ := x3.cq (wv.heap.size) 2
    generalize c_x3_0_2 : x3.val.cell? ⟨wv.heap.size, 2, none⟩ = q at q_
    first | (have q2_ : q = some _ := q_; subst q2_) | (simp [go_sem] at q_; have q2_ : q = some _ := q_; subst q2_) | (simp [go_sem, *] at q_; have q2_ : q = some _ := q_; subst q2_)
    have q_ := x3.zq (wv.heap.size) 2
    generalize z_x3_0_2 : x3.val.frozen? ⟨wv.heap.size, 2, none⟩ = q at q_
    first | (have q2_ : q = false := q_; subst q2_) | (simp [go_sem] at q_; have q2_ : q = false := q_; subst q2_) | (simp [go_sem, *] at q_; have q2_ : q = false := q_; subst q2_)
    have q_ := x3.cq (wv.heap.size) 3
    generalize c_x3_0_3 : x3.val.cell? ⟨wv.heap.size, 3, none⟩ = q at q_
    first | (have q2_ : q = some _ := q_; subst q2_) | (simp [go_sem] at q_; have q2_ : q = some _ := q_; subst q2_) | (simp [go_sem, *] at q_; have q2_ : q = some _ := q_; subst q2_)
    have q_ := x3.zq (wv.heap.size) 3
    generalize z_x3_0_3 : x3.val.frozen? ⟨wv.heap.size, 3, none⟩ = q at q_
    first | (have q2_ : q = false := q_; subst q2_) | (simp [go_sem] at q_; have q2_ : q = false := q_; subst q2_) | (simp [go_sem, *] at q_; have q2_ : q = false := q_; subst q2_)
    have q_ := x3.cq (wv.heap.size) 4
    generalize c_x3_0_4 : x3.val.cell? ⟨wv.heap.size, 4, none⟩ = q at q_
    first | (have q2_ : q = some _ := q_; subst q2_) | (simp [go_sem] at q_; have q2_ : q = some _ := q_; subst q2_) | (simp [go_sem, *] at q_; have q2_ : q = some _ := q_; subst q2_)
    have q_ := x3.zq (wv.heap.size) 4
    generalize z_x3_0_4 : x3.val.frozen? ⟨wv.heap.size, 4, none⟩ = q at q_
    first | (have q2_ : q = false := q_; subst q2_) | (simp [go_sem] at q_; have q2_ : q = false := q_; subst q2_) | (simp [go_sem, *] at q_; have q2_ : q = false := q_; subst q2_)
    go_wp2
    go_ret
    exact ⟨rfl, belo⟩
   rw [q3] at VR HST
   clear q3
   cases q4 : Vd.unit un
   ·obtain rfl : false = rv := by rw [← RV.out, allL_no HP.out (by rw [HPA.out, allL_no hS3.out (by rw [HST.out, q4]; rfl)])]
    rw [q4] at UN
    clear RV q4 HST
    go_wp2_with fail
    with_reducible refine (PN.out _).mono ?_
    rintro e_ w_ ⟨rfl, rfl⟩
    go_wp2_with fail
    with_reducible refine (VR.out _).mono ?_
    rintro e_x3 w_x3 ⟨rfl, hb_x3⟩
    obtain ⟨x3, rfl⟩ := later_is hb_x3
    clear hb_x3
    have hz_x3 := x3.bel.size
    try simp at hz_x3
    have l_x3_0 : wv.heap.size < x3.val.heap.size := by omega
    have m_x3_0 : wv.heap.size < x3.val.heap.size + 1 := by omega
    have q_ := x3.cq (wv.heap.size) 0
    generalize c_x3_0_0 : x3.val.cell? ⟨wv.heap.size, 0, none⟩ = q at q_
    first | (have q2_ : q = some _ := q_; subst q2_) | (simp [go_sem] at q_; have q2_ : q = some _ := q_; subst q2_) | (simp [go_sem, *] at q_; have q2_ : q = some _ := q_; subst q2_)
    have q_ := x3.zq (wv.heap.size) 0
    generalize z_x3_0_0 : x3.val.frozen? ⟨wv.heap.size, 0, none⟩ = q at q_
    first | (have q2_ : q = false := q_; subst q2_) | (simp [go_sem] at q_; have q2_ : q = false := q_; subst q2_) | (simp [go_sem, *] at q_; have q2_ : q = false := q_; subst q2_)
    have q_ := x3.cq (wv.heap.size) 1
    generalize c_x3_0_1 : x3.val.cell? ⟨wv.heap.size, 1, none⟩ = q at q_
    first | (have q2_ : q = some _ := q_; subst q2_) | (simp [go_sem] at q_; have q2_ : q = some _ := q_; subst q2_) | (simp [go_sem, *] at q_; have q2_ : q = some _ := q_; subst q2_)
    have q_ := x3.zq (wv.heap.size) 1
    generalize z_x3_0_1 : x3.val.frozen? ⟨wv.heap.size, 1, none⟩ = q at q_
    first | (have q2_ : q = false := q_; subst q2_) | (simp [go_sem] at q_; have q2_ : q = false := q_; subst q2_) | (simp [go_sem, *] at q_; have q2_ : q = false := q_; subst q2_)
    have q_ := x3.cq (wv.heap.size) 2
    generalize c_x3_0_2 : x3.val.cell? ⟨wv.heap.size, 2, none⟩ = q at q_
    first | (have q2_ : q = some _ := q_; subst q2_) | (simp [go_sem] at q_; have q2_ : q = some _ := q_; subst q2_) | (simp [go_sem, *] at q_; have q2_ : q = some _ := q_; subst q2_)
    have q_ := x3.zq (wv.heap.size) 2
    generalize z_x3_0_2 : x3.val.frozen? ⟨wv.heap.size, 2, none⟩ = q at q_
    first | (have q2_ : q = false := q_; subst q2_) | (simp [go_sem] at q_; have q2_ : q = false := q_; subst q2_) | (simp [go_sem, *] at q_; have q2_ : q = false := q_; subst q2_)
    have q_ := x3.cq (wv.heap.size) 3
    generalize c_x3_0_3 : x3.val.cell? ⟨wv.heap.size, 3, none⟩ = q at q_
    first | (have q2_ : q = some _ := q_; subst q2_) | (simp [go_sem] at q_; have q2_ : q = some _ := q_; subst q2_) | (simp [go_sem, *] at q_; have q2_ : q = some _ := q_; subst q2_)
    have q_ := x3.zq (wv.heap.size) 3
    generalize z_x3_0_3 : x3.val.frozen? ⟨wv.heap.size, 3, none⟩ = q at q_
    first | (have q2_ : q = false := q_; subst q2_) | (simp [go_sem] at q_; have q2_ : q = false := q_; subst q2_) | (simp [go_sem, *] at q_; have q2_ : q = false := q_; subst q2_)
    have q_ := x3.cq (wv.heap.size) 4
    generalize c_x3_0_4 : x3.val.cell? ⟨wv.heap.size, 4, none⟩ = q at q_
    first | (have q2_ : q = some _ := q_; subst q2_) | (simp [go_sem] at q_; have q2_ : q = some _ := q_; subst q2_) | (simp [go_sem, *] at q_; have q2_ : q = some _ := q_; subst q2_)
    have q_ := x3.zq (wv.heap.size) 4
    generalize z_x3_0_4 : x3.val.frozen? ⟨wv.heap.size, 4, none⟩ = q at q_
    first | (have q2_ : q = false := q_; subst q2_) | (simp [go_sem] at q_; have q2_ : q = false := q_; subst q2_) | (simp [go_sem, *] at q_; have q2_ : q = false := q_; subst q2_)
    go_wp2_with fail
    with_reducible refine (UN.out _).mono ?_
    rintro e_ w_ ⟨rfl, rfl⟩
    go_wp2
    go_ret
    exact ⟨rfl, belo⟩
   rw [q4] at UN HST
   have HB2 : Hid ((sets.take (k + 1)).all Vd.rightSt = true) := Lib.hid (allL_step HB.out hS3.out HST.out)
   clear q4 HST
   go_wp2_with fail
   with_reducible refine (PN.out _).mono ?_
   rintro e_ w_ ⟨rfl, rfl⟩
   go_wp2_with fail
   with_reducible refine (VR.out _).mono ?_
   rintro e_x3 w_x3 ⟨rfl, hb_x3⟩
   obtain ⟨x3, rfl⟩ := later_is hb_x3
   clear hb_x3
   have hz_x3 := x3.bel.size
   try simp at hz_x3
   have l_x3_0 : wv.heap.size < x3.val.heap.size := by omega
   have m_x3_0 : wv.heap.size < x3.val.heap.size + 1 := by omega
   have q_ := x3.cq (wv.heap.size) 0
   generalize c_x3_0_0 : x3.val.cell? ⟨wv.heap.size, 0, none⟩ = q at q_
   first | (have q2_ : q = some _ := q_; subst q2_) | (simp [go_sem] at q_; have q2_ : q = some _ := q_; subst q2_) | (simp [go_sem, *] at q_; have q2_ : q = some _ := q_; subst q2_)
   have q_ := x3.zq (wv.heap.size) 0
   generalize z_x3_0_0 : x3.val.frozen? ⟨wv.heap.size, 0, none⟩ = q at q_
   first | (have q2_ : q = false := q_; subst q2_) | (simp [go_sem] at q_; have q2_ : q = false := q_; subst q2_) | (simp [go_sem, *] at q_; have q2_ : q = false := q_; subst q2_)
   have q_ := x3.cq (wv.heap.size) 1
   generalize c_x3_0_1 : x3.val.cell? ⟨wv.heap.size, 1, none⟩ = q at q_
   first | (have q2_ : q = some _ := q_; subst q2_) | (simp [go_sem] at q_; have q2_ : q = some _ := q_; subst q2_) | (simp [go_sem, *] at q_; have q2_ : q = some _ := q_; subst q2_)
   have q_ := x3.zq (wv.heap.size) 1
   generalize z_x3_0_1 : x3.val.frozen? ⟨wv.heap.size, 1, none⟩ = q at q_
   first | (have q2_ : q = false := q_; subst q2_) | (simp [go_sem] at q_; have q2_ : q = false := q_; subst q2_) | (simp [go_sem, *] at q_; have q2_ : q = false := q_; subst q2_)
   have q_ := x3.cq (wv.heap.size) 2
   generalize c_x3_0_2 : x3.val.cell? ⟨wv.heap.size, 2, none⟩ = q at q_
   first | (have q2_ : q = some _ := q_; subst q2_) | (simp [go_sem] at q_; have q2_ : q = some _ := q_; subst q2_) | (simp [go_sem, *] at q_; have q2_ : q = some _ := q_; subst q2_)
   have q_ := x3.zq (wv.heap.size) 2
   generalize z_x3_0_2 : x3.val.frozen? ⟨wv.heap.size, 2, none⟩ = q at q_
   first | (have q2_ : q = false := q_; subst q2_) | (simp [go_sem] at q_; have q2_ : q = false := q_; subst q2_) | (simp [go_sem, *] at q_; have q2_ : q = false := q_; subst q2_)
   have q_ := x3.cq (wv.heap.size) 3
   generalize c_x3_0_3 : x3.val.cell? ⟨wv.heap.size, 3, none⟩ = q at q_
   first | (have q2_ : q = some _ := q_; subst q2_) | (simp [go_sem] at q_; have q2_ : q = some _ := q_; subst q2_) | (simp [go_sem, *] at q_; have q2_ : q = some _ := q_; subst q2_)
   have q_ := x3.zq (wv.heap.size) 3
   generalize z_x3_0_3 : x3.val.frozen? ⟨wv.heap.size, 3, none⟩ = q at q_
   first | (have q2_ : q = false := q_; subst q2_) | (simp [go_sem] at q_; have q2_ : q = false := q_; subst q2_) | (simp [go_sem, *] at q_; have q2_ : q = false := q_; subst q2_)
   have q_ := x3.cq (wv.heap.size) 4
   generalize c_x3_0_4 : x3.val.cell? ⟨wv.heap.size, 4, none⟩ = q at q_
   first | (have q2_ : q = some _ := q_; subst q2_) | (simp [go_sem] at q_; have q2_ : q = some _ := q_; subst q2_) | (simp [go_sem, *] at q_; have q2_ : q = some _ := q_; subst q2_)
   have q_ := x3.zq (wv.heap.size) 4
   generalize z_x3_0_4 : x3.val.frozen? ⟨wv.heap.size, 4, none⟩ = q at q_
   first | (have q2_ : q = false := q_; subst q2_) | (simp [go_sem] at q_; have q2_ : q = false := q_; subst q2_) | (simp [go_sem, *] at q_; have q2_ : q = false := q_; subst q2_)
   go_wp2_with fail
   with_reducible refine (UN.out _).mono ?_
   rintro e_ w_ ⟨rfl, rfl⟩
   go_wp2
   go_roundw
   case rel => exact ⟨k + 1, by omega, HB2, by go_num, belo⟩
   case measure => simp [RowKit.intOf]; omega
end Go.Proofs.Ythhokpaidekmnaa
