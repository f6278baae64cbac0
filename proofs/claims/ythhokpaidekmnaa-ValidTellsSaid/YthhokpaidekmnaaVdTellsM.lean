/- Layer 15: Small. Layer 15: Few. Layer 15: the walk of ValidTells. -/
import Derived.Test.YthhokpaidekmnaaVdAwk
import Derived.Test.YthhokpaidekmnaaVrChk
namespace Go.Proofs.Ythhokpaidekmnaa
open Go.RowKit
set_option linter.unusedVariables false
set_option linter.unusedSimpArgs false
set_option maxRecDepth 100000
attribute [local go_sem] Later.cell Later.frozen setCell_twice
namespace Vd
def smallPt (p : Pt) : Bool := decide (p.name.size ≤ 40 ∧ p.unit.size ≤ 40)
def smallDv (d : Dv) : Bool := decide (d.pts.length ≤ 40 ∧ d.name.size ≤ 40) && d.pts.all smallPt
def small (t : List Dv) : Bool := decide (t.length ≤ 10) && t.all smallDv
end Vd
set_option maxHeartbeats 4000000 in
theorem small_any (A : Option Addr) (l : List Dv) (n c : Nat) (w : World) (hn : l.length = n) (h : Tab w w.heap.size A l) (hs : Shp A n c) :
  Calls Try.prog 7 #[.slice A n c] w fun e w' => e = .returned (.bool (Vd.small l)) ∧ Below w.heap.size w w' := by
 have HN := Lib.hid hn
 have HH := Lib.hid h
 have hcap : n ≤ 9223372036854775807 := Nat.le_trans hs.le hs.cap
 obtain ⟨rv, hrv⟩ : ∃ rv, Vd.small l = rv := ⟨_, rfl⟩
 rw [hrv]
 unfold Vd.small at hrv
 rw [hn] at hrv
 have RV := Lib.hid hrv
 clear hn h hs hrv
 by_cases c1 : 10 < n
 ·have g1 : decide ((10 : Int) < (n : Int)) = true := decide_eq_true (by omega)
  obtain rfl : false = rv := by rw [← RV.out, decide_eq_false (by omega)]; rfl
  clear RV c1
  go_enter Try.func7, Try.ntmps7
  go_wp2
  go_ret
  exact ⟨rfl, belo⟩
 have g1 : decide ((10 : Int) < (n : Int)) = false := decide_eq_false (by omega)
 rw [decide_eq_true (show n ≤ 10 by omega), Bool.true_and] at RV
 go_enter Try.func7, Try.ntmps7
 go_wp2
 go_loopw [12] (fun x wr => ∃ j : Nat, j ≤ n ∧ Hid ((l.take j).all Vd.smallDv = true) ∧ x = .int .i64 (j : Int) ∧ Below w.heap.size w wr) (fun i _ => n - (RowKit.intOf i).toNat)
 case atStart => exact ⟨0, by omega, Lib.hid rfl, rfl, belo⟩
 case round =>
  rename World => wr
  obtain ⟨j, hj, HA, rfl, hbe⟩ := hrel
  by_cases hlt : j < n
  rotate_left
  ·obtain rfl : j = n := by omega
   obtain rfl : true = rv := by rw [← RV.out, allL_end HN.out HA.out]
   clear hlt hj
   go_wp2
   go_ret
   exact ⟨rfl, hbe⟩
  have hltI : (j : Int) < (n : Int) := by omega
  obtain ⟨g1', o1', d, rfl, hg, hd, hok, d0, d1⟩ := (HH.out.to hbe).at_ (k := j) (by rw [HN.out]; exact hlt)
  have hgl : g1' < wr.heap.size := hg
  obtain ⟨dn, pts, PA, pc⟩ := d
  obtain ⟨m, hm⟩ : ∃ m, pts.length = m := ⟨_, rfl⟩
  have HM := Lib.hid hm
  have HOK := Lib.hid hok
  have hmc : m ≤ 9223372036854775807 := by have := hok.shp.le; have := hok.shp.cap; dsimp only at *; omega
  have HP := Lib.hid hd
  dsimp only at d0 d1
  rw [hm] at d1
  have hsm : Vd.smallDv ⟨dn, pts, PA, pc⟩ = (decide (m ≤ 40 ∧ dn.size ≤ 40) && pts.all Vd.smallPt) := by unfold Vd.smallDv; dsimp only; rw [hm]
  have HSM := Lib.hid hsm
  clear hd hg hok hm hsm
  by_cases c2 : 40 < m
  ·have g2 : decide ((40 : Int) < (m : Int)) = true := decide_eq_true (by omega)
   obtain rfl : false = rv := by rw [← RV.out, allL_no HP.out (by rw [HSM.out, decide_eq_false (by omega)]; rfl)]
   clear RV c2
   go_wp2
   go_ret
   exact ⟨rfl, belo⟩
  have g2 : decide ((40 : Int) < (m : Int)) = false := decide_eq_false (by omega)
  by_cases c3 : 40 < dn.size
  ·have g3 : decide ((40 : Int) < (dn.size : Int)) = true := decide_eq_true (by omega)
   obtain rfl : false = rv := by rw [← RV.out, allL_no HP.out (by rw [HSM.out, decide_eq_false (by omega)]; rfl)]
   clear RV c2 c3
   go_wp2
   go_ret
   exact ⟨rfl, belo⟩
  have g3 : decide ((40 : Int) < (dn.size : Int)) = false := decide_eq_false (by omega)
  rw [decide_eq_true (show m ≤ 40 ∧ dn.size ≤ 40 by omega), Bool.true_and] at HSM
  clear c2 c3
  go_wp2
  go_loopw [29] (fun x wv => ∃ k : Nat, k ≤ m ∧ Hid ((pts.take k).all Vd.smallPt = true) ∧ x = .int .i64 (k : Int) ∧ Below wr.heap.size wr wv) (fun i _ => m - (RowKit.intOf i).toNat)
  case atStart => exact ⟨0, by omega, Lib.hid rfl, rfl, belo⟩
  case round =>
   rename World => wv
   obtain ⟨k, hk, HB, rfl, hbi⟩ := hrel
   have hbw : Below w.heap.size w wv := hbe.trans (hbi.mono hbe.size)
   by_cases hlk : k < m
   rotate_left
   ·obtain rfl : k = m := by omega
    have HA2 : Hid ((l.take (j + 1)).all Vd.smallDv = true) := Lib.hid (allL_step HA.out HP.out (by rw [HSM.out, allL_end HM.out HB.out]))
    clear hlk hk hbi d0 d1
    go_wp2
    go_roundw
    case rel => exact ⟨j + 1, by omega, HA2, by go_num, by first | assumption | trivial⟩
    case measure => simp [RowKit.intOf]; omega
   have hlkI : (k : Int) < (m : Int) := by omega
   obtain ⟨g3', o3, p, hA3, hg3, hp3, e0, e1, e2, e3, e4, e5, e6, e7, e8⟩ := Pt.at_cells (HOK.out.to hbi).rc (k := k) (by rw [HM.out]; exact hlk)
   have hgl3 : g3' < wv.heap.size := hg3
   dsimp only at hA3
   subst hA3
   obtain ⟨pn, at_, dg, sg, ⟨ln, ld⟩, ⟨hn, hd⟩, un⟩ := p
   have HP3 := Lib.hid hp3
   dsimp only at e0 e1 e2 e3 e4 e5 e6 e7 e8
   clear hp3 hg3 d0 d1
   by_cases c4 : 40 < pn.size
   ·have g4 : decide ((40 : Int) < (pn.size : Int)) = true := decide_eq_true (by omega)
    obtain rfl : false = rv := by rw [← RV.out, allL_no HP.out (by rw [HSM.out, allL_no HP3.out (by unfold Vd.smallPt; exact decide_eq_false (by dsimp only; omega))])]
    clear RV c4
    go_wp2
    go_ret
    exact ⟨rfl, belo⟩
   have g4 : decide ((40 : Int) < (pn.size : Int)) = false := decide_eq_false (by omega)
   by_cases c5 : 40 < un.size
   ·have g5 : decide ((40 : Int) < (un.size : Int)) = true := decide_eq_true (by omega)
    obtain rfl : false = rv := by rw [← RV.out, allL_no HP.out (by rw [HSM.out, allL_no HP3.out (by unfold Vd.smallPt; exact decide_eq_false (by dsimp only; omega))])]
    clear RV c4 c5
    go_wp2
    go_ret
    exact ⟨rfl, belo⟩
   have g5 : decide ((40 : Int) < (un.size : Int)) = false := decide_eq_false (by omega)
   have HB2 : Hid ((pts.take (k + 1)).all Vd.smallPt = true) := Lib.hid (allL_step HB.out HP3.out (by unfold Vd.smallPt; exact decide_eq_true (by dsimp only; omega)))
   clear c4 c5
   go_wp2
   go_roundw
   case rel => exact ⟨k + 1, by omega, HB2, by go_num, belo⟩
   case measure => simp [RowKit.intOf]; omega
end Go.Proofs.Ythhokpaidekmnaa
namespace Go.Proofs.Ythhokpaidekmnaa
open Go.RowKit
set_option linter.unusedVariables false
set_option linter.unusedSimpArgs false
set_option maxRecDepth 100000
attribute [local go_sem] Later.cell Later.frozen setCell_twice
namespace Vd
def fewSt (s : St) : Bool := decide (s.point.size ≤ 40 ∧ s.unit.size ≤ 40)
def fewPa (p : Pa) : Bool := decide (p.sets.length ≤ 70 ∧ p.slave.size ≤ 40) && p.sets.all fewSt
def few (nm : ByteArray) (l : List Pa) : Bool := decide (l.length ≤ 12 ∧ nm.size ≤ 40) && l.all fewPa
end Vd
set_option maxHeartbeats 4000000 in
theorem few_any (nm : ByteArray) (A : Option Addr) (l : List Pa) (n c : Nat) (w : World) (hn : l.length = n) (h : Pas w w.heap.size A l) (hs : Shp A n c) :
  Calls Try.prog 8 #[.agg #[.string nm, .slice A n c]] w fun e w' => e = .returned (.bool (Vd.few nm l)) ∧ Below w.heap.size w w' := by
 have HN := Lib.hid hn
 have HH := Lib.hid h
 have hcap : n ≤ 9223372036854775807 := Nat.le_trans hs.le hs.cap
 obtain ⟨rv, hrv⟩ : ∃ rv, Vd.few nm l = rv := ⟨_, rfl⟩
 rw [hrv]
 unfold Vd.few at hrv
 rw [hn] at hrv
 have RV := Lib.hid hrv
 clear hn h hs hrv
 by_cases c1 : 12 < n
 ·have g1 : decide ((12 : Int) < (n : Int)) = true := decide_eq_true (by omega)
  obtain rfl : false = rv := by rw [← RV.out, decide_eq_false (by omega)]; rfl
  clear RV c1
  go_enter Try.func8, Try.ntmps8
  go_wp2
  go_ret
  exact ⟨rfl, belo⟩
 have g1 : decide ((12 : Int) < (n : Int)) = false := decide_eq_false (by omega)
 by_cases c2 : 40 < nm.size
 ·have g2 : decide ((40 : Int) < (nm.size : Int)) = true := decide_eq_true (by omega)
  obtain rfl : false = rv := by rw [← RV.out, decide_eq_false (by omega)]; rfl
  clear RV c1 c2
  go_enter Try.func8, Try.ntmps8
  go_wp2
  go_ret
  exact ⟨rfl, belo⟩
 have g2 : decide ((40 : Int) < (nm.size : Int)) = false := decide_eq_false (by omega)
 rw [decide_eq_true (show n ≤ 12 ∧ nm.size ≤ 40 by omega), Bool.true_and] at RV
 clear c2
 go_enter Try.func8, Try.ntmps8
 go_wp2
 go_loopw [20] (fun x wr => ∃ j : Nat, j ≤ n ∧ Hid ((l.take j).all Vd.fewPa = true) ∧ x = .int .i64 (j : Int) ∧ Below w.heap.size w wr) (fun i _ => n - (RowKit.intOf i).toNat)
 case atStart => exact ⟨0, by omega, Lib.hid rfl, rfl, belo⟩
 case round =>
  rename World => wr
  obtain ⟨j, hj, HA, rfl, hbe⟩ := hrel
  by_cases hlt : j < n
  rotate_left
  ·obtain rfl : j = n := by omega
   obtain rfl : true = rv := by rw [← RV.out, allL_end HN.out HA.out]
   clear hlt hj
   go_wp2
   go_ret
   exact ⟨rfl, hbe⟩
  have hltI : (j : Int) < (n : Int) := by omega
  obtain ⟨g1', o1', p, rfl, hg, hp, hok, d0, d1, d2⟩ := (HH.out.to hbe).at_ (k := j) (by rw [HN.out]; exact hlt)
  have hgl : g1' < wr.heap.size := hg
  have HOK := Lib.hid hok
  have HP := Lib.hid hp
  obtain ⟨slave, line, sets, PA, pc⟩ := p
  obtain ⟨m, hm⟩ : ∃ m, sets.length = m := ⟨_, rfl⟩
  have HM := Lib.hid hm
  have hmc : m ≤ 9223372036854775807 := by have := hok.shp.le; have := hok.shp.cap; dsimp only at *; omega
  dsimp only at d0 d1 d2
  rw [hm] at d2
  have HSM := Lib.hid (show Vd.fewPa ⟨slave, line, sets, PA, pc⟩ = (decide (m ≤ 70 ∧ slave.size ≤ 40) && sets.all Vd.fewSt) by unfold Vd.fewPa; dsimp only; rw [hm])
  clear hp hg hok hm
  by_cases c2 : 70 < m
  ·have g2 : decide ((70 : Int) < (m : Int)) = true := decide_eq_true (by omega)
   obtain rfl : false = rv := by rw [← RV.out, allL_no HP.out (by rw [HSM.out, decide_eq_false (by omega)]; rfl)]
   clear RV c2
   go_wp2
   go_ret
   exact ⟨rfl, belo⟩
  have g2 : decide ((70 : Int) < (m : Int)) = false := decide_eq_false (by omega)
  by_cases c3 : 40 < slave.size
  ·have g3 : decide ((40 : Int) < (slave.size : Int)) = true := decide_eq_true (by omega)
   obtain rfl : false = rv := by rw [← RV.out, allL_no HP.out (by rw [HSM.out, decide_eq_false (by omega)]; rfl)]
   clear RV c2 c3
   go_wp2
   go_ret
   exact ⟨rfl, belo⟩
  have g3 : decide ((40 : Int) < (slave.size : Int)) = false := decide_eq_false (by omega)
  rw [decide_eq_true (show m ≤ 70 ∧ slave.size ≤ 40 by omega), Bool.true_and] at HSM
  clear c2 c3
  go_wp2
  go_loopw [37] (fun x wv => ∃ k : Nat, k ≤ m ∧ Hid ((sets.take k).all Vd.fewSt = true) ∧ x = .int .i64 (k : Int) ∧ Below wr.heap.size wr wv) (fun i _ => m - (RowKit.intOf i).toNat)
  case atStart => exact ⟨0, by omega, Lib.hid rfl, rfl, belo⟩
  case round =>
   rename World => wv
   obtain ⟨k, hk, HB, rfl, hbi⟩ := hrel
   have hbw : Below w.heap.size w wv := hbe.trans (hbi.mono hbe.size)
   by_cases hlk : k < m
   rotate_left
   ·obtain rfl : k = m := by omega
    have HA2 : Hid ((l.take (j + 1)).all Vd.fewPa = true) := Lib.hid (allL_step HA.out HP.out (by rw [HSM.out, allL_end HM.out HB.out]))
    clear hlk hk hbi d0 d1 d2
    go_wp2
    go_roundw
    case rel => exact ⟨j + 1, by omega, HA2, by go_num, by first | assumption | trivial⟩
    case measure => simp [RowKit.intOf]; omega
   have hlkI : (k : Int) < (m : Int) := by omega
   obtain ⟨g3', o3, s, hA3, hg3, hs3, e0, e1, e2, e3, e4⟩ := St.at_ (HOK.out.to hbi).rc (k := k) (by rw [HM.out]; exact hlk)
   have hgl3 : g3' < wv.heap.size := hg3
   dsimp only at hA3
   subst hA3
   obtain ⟨sp, ⟨vn, vd⟩, su, sl⟩ := s
   have HP3 := Lib.hid hs3
   dsimp only at e0 e1 e2 e3 e4
   clear hs3 hg3 d0 d1 d2
   by_cases c4 : 40 < sp.size
   ·have g4 : decide ((40 : Int) < (sp.size : Int)) = true := decide_eq_true (by omega)
    obtain rfl : false = rv := by rw [← RV.out, allL_no HP.out (by rw [HSM.out, allL_no HP3.out (by unfold Vd.fewSt; exact decide_eq_false (by dsimp only; omega))])]
    clear RV c4
    go_wp2
    go_ret
    exact ⟨rfl, belo⟩
   have g4 : decide ((40 : Int) < (sp.size : Int)) = false := decide_eq_false (by omega)
   by_cases c5 : 40 < su.size
   ·have g5 : decide ((40 : Int) < (su.size : Int)) = true := decide_eq_true (by omega)
    obtain rfl : false = rv := by rw [← RV.out, allL_no HP.out (by rw [HSM.out, allL_no HP3.out (by unfold Vd.fewSt; exact decide_eq_false (by dsimp only; omega))])]
    clear RV c4 c5
    go_wp2
    go_ret
    exact ⟨rfl, belo⟩
   have g5 : decide ((40 : Int) < (su.size : Int)) = false := decide_eq_false (by omega)
   have HB2 : Hid ((sets.take (k + 1)).all Vd.fewSt = true) := Lib.hid (allL_step HB.out HP3.out (by unfold Vd.fewSt; exact decide_eq_true (by dsimp only; omega)))
   clear c4 c5
   go_wp2
   go_roundw
   case rel => exact ⟨k + 1, by omega, HB2, by go_num, belo⟩
   case measure => simp [RowKit.intOf]; omega
end Go.Proofs.Ythhokpaidekmnaa
namespace Go.Proofs.Ythhokpaidekmnaa
open Go.RowKit
set_option linter.unusedVariables false
set_option linter.unusedSimpArgs false
set_option maxRecDepth 100000
attribute [local go_sem] Later.cell Later.frozen setCell_twice
theorem few_units {nm : ByteArray} {l : List Pa} (h : Vd.few nm l = true) : ∀ p ∈ l, ∀ st ∈ p.sets, st.unit.size ≤ 8192 := fun p hp st hs => by
 unfold Vd.few at h
 simp only [Bool.and_eq_true, List.all_eq_true] at h
 have h2 := h.2 p hp
 unfold Vd.fewPa at h2
 simp only [Bool.and_eq_true, List.all_eq_true] at h2
 have h3 := h2.2 st hs
 unfold Vd.fewSt at h3
 rw [decide_eq_true_iff] at h3
 omega
theorem small_pts {l : List Dv} (h : Vd.small l = true) : ∀ d ∈ l, d.pts.length ≤ 64 := fun d hd => by
 unfold Vd.small at h
 simp only [Bool.and_eq_true, List.all_eq_true] at h
 have h2 := h.2 d hd
 unfold Vd.smallDv at h2
 simp only [Bool.and_eq_true, decide_eq_true_iff] at h2
 omega
set_option maxHeartbeats 16000000 in
theorem tells_walk (A : Option Addr) (l : List Dv) (n c : Nat) (nm : ByteArray) (B : Option Addr) (lp : List Pa) (np cp : Nat) (s : ByteArray) (w : World) (hn : l.length = n) (h : Tab w w.heap.size A l) (hs : Shp A n c)
  (hnp : lp.length = np) (hP : Pas w w.heap.size B lp) (hsp : Shp B np cp) :
  Calls Try.prog 3 #[.slice A n c, .agg #[.string nm, .slice B np cp], .string s] w fun e w' => e = .returned (.bool true) ∧ Below w.heap.size w w' := by
 have HN := Lib.hid hn
 have HH := Lib.hid h
 have HNP := Lib.hid hnp
 have HPP := Lib.hid hP
 have hcap : n ≤ 9223372036854775807 := Nat.le_trans hs.le hs.cap
 have hcapp : np ≤ 9223372036854775807 := Nat.le_trans hsp.le hsp.cap
 have hlep : np ≤ cp := hsp.le
 have SM := Lib.hid (fun (x : World) (hx : Below w.heap.size w x) => small_any A l n c x hn (h.to hx) hs)
 have FW := Lib.hid (fun (x : World) (hx : Below w.heap.size w x) => few_any nm B lp np cp x hnp (hP.to hx) hsp)
 have AW := Lib.hid awake_any
 cases q1 : Vd.small l
 ·rw [q1] at SM
  clear q1 hn h hs hnp hP hsp
  go_enter Try.func3, Try.ntmps3
  go_wp2_with fail
  with_reducible refine (SM.out _ belo).mono ?_
  rintro e_x1 w_x1 ⟨rfl, hb_x1⟩
  obtain ⟨x1, rfl⟩ := later_is hb_x1
  clear hb_x1
  have hz_x1 := x1.bel.size
  try simp at hz_x1
  have l_x1_0 : w.heap.size < x1.val.heap.size := by omega
  have m_x1_0 : w.heap.size < x1.val.heap.size + 1 := by omega
  have q_ := x1.cq (w.heap.size) 0
  generalize c_x1_0_0 : x1.val.cell? ⟨w.heap.size, 0, none⟩ = q at q_
  first | (have q2_ : q = some _ := q_; subst q2_) | (simp [go_sem] at q_; have q2_ : q = some _ := q_; subst q2_) | (simp [go_sem, *] at q_; have q2_ : q = some _ := q_; subst q2_)
  have q_ := x1.zq (w.heap.size) 0
  generalize z_x1_0_0 : x1.val.frozen? ⟨w.heap.size, 0, none⟩ = q at q_
  first | (have q2_ : q = false := q_; subst q2_) | (simp [go_sem] at q_; have q2_ : q = false := q_; subst q2_) | (simp [go_sem, *] at q_; have q2_ : q = false := q_; subst q2_)
  have q_ := x1.cq (w.heap.size) 1
  generalize c_x1_0_1 : x1.val.cell? ⟨w.heap.size, 1, none⟩ = q at q_
  first | (have q2_ : q = some _ := q_; subst q2_) | (simp [go_sem] at q_; have q2_ : q = some _ := q_; subst q2_) | (simp [go_sem, *] at q_; have q2_ : q = some _ := q_; subst q2_)
  have q_ := x1.zq (w.heap.size) 1
  generalize z_x1_0_1 : x1.val.frozen? ⟨w.heap.size, 1, none⟩ = q at q_
  first | (have q2_ : q = false := q_; subst q2_) | (simp [go_sem] at q_; have q2_ : q = false := q_; subst q2_) | (simp [go_sem, *] at q_; have q2_ : q = false := q_; subst q2_)
  go_wp2_with fail
  with_reducible refine (AW.out _).mono ?_
  rintro e_xa w_xa ⟨rfl, hb_xa⟩
  obtain ⟨xa, rfl⟩ := later_is hb_xa
  clear hb_xa
  have hz_xa := xa.bel.size
  try simp at hz_xa
  go_wp2
  go_ret
  exact ⟨rfl, belo⟩
 have hsm := small_pts q1
 rw [q1] at SM
 clear q1
 cases q2 : Vd.few nm lp
 ·rw [q2] at FW
  clear q2 hn h hs hnp hP hsp
  go_enter Try.func3, Try.ntmps3
  go_wp2_with fail
  with_reducible refine (SM.out _ belo).mono ?_
  rintro e_x1 w_x1 ⟨rfl, hb_x1⟩
  obtain ⟨x1, rfl⟩ := later_is hb_x1
  clear hb_x1
  have hz_x1 := x1.bel.size
  try simp at hz_x1
  have l_x1_0 : w.heap.size < x1.val.heap.size := by omega
  have m_x1_0 : w.heap.size < x1.val.heap.size + 1 := by omega
  have q_ := x1.cq (w.heap.size) 0
  generalize c_x1_0_0 : x1.val.cell? ⟨w.heap.size, 0, none⟩ = q at q_
  first | (have q2_ : q = some _ := q_; subst q2_) | (simp [go_sem] at q_; have q2_ : q = some _ := q_; subst q2_) | (simp [go_sem, *] at q_; have q2_ : q = some _ := q_; subst q2_)
  have q_ := x1.zq (w.heap.size) 0
  generalize z_x1_0_0 : x1.val.frozen? ⟨w.heap.size, 0, none⟩ = q at q_
  first | (have q2_ : q = false := q_; subst q2_) | (simp [go_sem] at q_; have q2_ : q = false := q_; subst q2_) | (simp [go_sem, *] at q_; have q2_ : q = false := q_; subst q2_)
  have q_ := x1.cq (w.heap.size) 1
  generalize c_x1_0_1 : x1.val.cell? ⟨w.heap.size, 1, none⟩ = q at q_
  first | (have q2_ : q = some _ := q_; subst q2_) | (simp [go_sem] at q_; have q2_ : q = some _ := q_; subst q2_) | (simp [go_sem, *] at q_; have q2_ : q = some _ := q_; subst q2_)
  have q_ := x1.zq (w.heap.size) 1
  generalize z_x1_0_1 : x1.val.frozen? ⟨w.heap.size, 1, none⟩ = q at q_
  first | (have q2_ : q = false := q_; subst q2_) | (simp [go_sem] at q_; have q2_ : q = false := q_; subst q2_) | (simp [go_sem, *] at q_; have q2_ : q = false := q_; subst q2_)
  go_wp2_with fail
  with_reducible refine (FW.out _ belo).mono ?_
  rintro e_x2 w_x2 ⟨rfl, hb_x2⟩
  obtain ⟨x2, rfl⟩ := later_is hb_x2
  clear hb_x2
  have hz_x2 := x2.bel.size
  try simp at hz_x2
  have l_x2_0 : w.heap.size < x2.val.heap.size := by omega
  have m_x2_0 : w.heap.size < x2.val.heap.size + 1 := by omega
  have q_ := x2.cq (w.heap.size) 0
  generalize c_x2_0_0 : x2.val.cell? ⟨w.heap.size, 0, none⟩ = q at q_
  first | (have q2_ : q = some _ := q_; subst q2_) | (simp [go_sem] at q_; have q2_ : q = some _ := q_; subst q2_) | (simp [go_sem, *] at q_; have q2_ : q = some _ := q_; subst q2_)
  have q_ := x2.zq (w.heap.size) 0
  generalize z_x2_0_0 : x2.val.frozen? ⟨w.heap.size, 0, none⟩ = q at q_
  first | (have q2_ : q = false := q_; subst q2_) | (simp [go_sem] at q_; have q2_ : q = false := q_; subst q2_) | (simp [go_sem, *] at q_; have q2_ : q = false := q_; subst q2_)
  have q_ := x2.cq (w.heap.size) 1
  generalize c_x2_0_1 : x2.val.cell? ⟨w.heap.size, 1, none⟩ = q at q_
  first | (have q2_ : q = some _ := q_; subst q2_) | (simp [go_sem] at q_; have q2_ : q = some _ := q_; subst q2_) | (simp [go_sem, *] at q_; have q2_ : q = some _ := q_; subst q2_)
  have q_ := x2.zq (w.heap.size) 1
  generalize z_x2_0_1 : x2.val.frozen? ⟨w.heap.size, 1, none⟩ = q at q_
  first | (have q2_ : q = false := q_; subst q2_) | (simp [go_sem] at q_; have q2_ : q = false := q_; subst q2_) | (simp [go_sem, *] at q_; have q2_ : q = false := q_; subst q2_)
  go_wp2_with fail
  with_reducible refine (AW.out _).mono ?_
  rintro e_xa w_xa ⟨rfl, hb_xa⟩
  obtain ⟨xa, rfl⟩ := later_is hb_xa
  clear hb_xa
  have hz_xa := xa.bel.size
  try simp at hz_xa
  go_wp2
  go_ret
  exact ⟨rfl, belo⟩
 have hfw := few_units q2
 rw [q2] at FW
 clear q2
 by_cases c1 : 40 < s.size
 ·have g1 : decide ((40 : Int) < (s.size : Int)) = true := decide_eq_true (by omega)
  clear c1 hn h hs hnp hP hsp
  go_enter Try.func3, Try.ntmps3
  go_wp2_with fail
  with_reducible refine (SM.out _ belo).mono ?_
  rintro e_x1 w_x1 ⟨rfl, hb_x1⟩
  obtain ⟨x1, rfl⟩ := later_is hb_x1
  clear hb_x1
  have hz_x1 := x1.bel.size
  try simp at hz_x1
  have l_x1_0 : w.heap.size < x1.val.heap.size := by omega
  have m_x1_0 : w.heap.size < x1.val.heap.size + 1 := by omega
  have q_ := x1.cq (w.heap.size) 0
  generalize c_x1_0_0 : x1.val.cell? ⟨w.heap.size, 0, none⟩ = q at q_
  first | (have q2_ : q = some _ := q_; subst q2_) | (simp [go_sem] at q_; have q2_ : q = some _ := q_; subst q2_) | (simp [go_sem, *] at q_; have q2_ : q = some _ := q_; subst q2_)
  have q_ := x1.zq (w.heap.size) 0
  generalize z_x1_0_0 : x1.val.frozen? ⟨w.heap.size, 0, none⟩ = q at q_
  first | (have q2_ : q = false := q_; subst q2_) | (simp [go_sem] at q_; have q2_ : q = false := q_; subst q2_) | (simp [go_sem, *] at q_; have q2_ : q = false := q_; subst q2_)
  have q_ := x1.cq (w.heap.size) 1
  generalize c_x1_0_1 : x1.val.cell? ⟨w.heap.size, 1, none⟩ = q at q_
  first | (have q2_ : q = some _ := q_; subst q2_) | (simp [go_sem] at q_; have q2_ : q = some _ := q_; subst q2_) | (simp [go_sem, *] at q_; have q2_ : q = some _ := q_; subst q2_)
  have q_ := x1.zq (w.heap.size) 1
  generalize z_x1_0_1 : x1.val.frozen? ⟨w.heap.size, 1, none⟩ = q at q_
  first | (have q2_ : q = false := q_; subst q2_) | (simp [go_sem] at q_; have q2_ : q = false := q_; subst q2_) | (simp [go_sem, *] at q_; have q2_ : q = false := q_; subst q2_)
  go_wp2_with fail
  with_reducible refine (FW.out _ belo).mono ?_
  rintro e_x2 w_x2 ⟨rfl, hb_x2⟩
  obtain ⟨x2, rfl⟩ := later_is hb_x2
  clear hb_x2
  have hz_x2 := x2.bel.size
  try simp at hz_x2
  have l_x2_0 : w.heap.size < x2.val.heap.size := by omega
  have m_x2_0 : w.heap.size < x2.val.heap.size + 1 := by omega
  have q_ := x2.cq (w.heap.size) 0
  generalize c_x2_0_0 : x2.val.cell? ⟨w.heap.size, 0, none⟩ = q at q_
  first | (have q2_ : q = some _ := q_; subst q2_) | (simp [go_sem] at q_; have q2_ : q = some _ := q_; subst q2_) | (simp [go_sem, *] at q_; have q2_ : q = some _ := q_; subst q2_)
  have q_ := x2.zq (w.heap.size) 0
  generalize z_x2_0_0 : x2.val.frozen? ⟨w.heap.size, 0, none⟩ = q at q_
  first | (have q2_ : q = false := q_; subst q2_) | (simp [go_sem] at q_; have q2_ : q = false := q_; subst q2_) | (simp [go_sem, *] at q_; have q2_ : q = false := q_; subst q2_)
  have q_ := x2.cq (w.heap.size) 1
  generalize c_x2_0_1 : x2.val.cell? ⟨w.heap.size, 1, none⟩ = q at q_
  first | (have q2_ : q = some _ := q_; subst q2_) | (simp [go_sem] at q_; have q2_ : q = some _ := q_; subst q2_) | (simp [go_sem, *] at q_; have q2_ : q = some _ := q_; subst q2_)
  have q_ := x2.zq (w.heap.size) 1
  generalize z_x2_0_1 : x2.val.frozen? ⟨w.heap.size, 1, none⟩ = q at q_
  first | (have q2_ : q = false := q_; subst q2_) | (simp [go_sem] at q_; have q2_ : q = false := q_; subst q2_) | (simp [go_sem, *] at q_; have q2_ : q = false := q_; subst q2_)
  go_wp2_with fail
  with_reducible refine (AW.out _).mono ?_
  rintro e_xa w_xa ⟨rfl, hb_xa⟩
  obtain ⟨xa, rfl⟩ := later_is hb_xa
  clear hb_xa
  have hz_xa := xa.bel.size
  try simp at hz_xa
  go_wp2
  go_ret
  exact ⟨rfl, belo⟩
 have g1 : decide ((40 : Int) < (s.size : Int)) = false := decide_eq_false (by omega)
 clear c1
 have TR := Lib.hid (fun (x : World) (hx : Below w.heap.size w x) => tabright_any A l n c x hn (h.to hx) hs)
 have TF := Lib.hid (fun (x : World) (hx : Below w.heap.size w x) => rtab_any A l n c x hn (h.to hx) hs hsm)
 have CK := Lib.hid (fun (x : World) (hx : Below w.heap.size w x) => check_any A l n c nm B lp np cp x hn (h.to hx) hs hnp (hP.to hx) hsp)
 have CF := Lib.hid (fun (x : World) (hx : Below w.heap.size w x) => rcheck_any A l n c nm B lp np cp x hn (h.to hx) hs hnp (hP.to hx) hsp hsm hfw)
 have FD := Lib.hid (fun (x : World) (hx : Below w.heap.size w x) => find_any s A l n c x hn (h.to hx) hs)
 have FF := Lib.hid (fun (x : World) (hx : Below w.heap.size w x) => rfind_any s A l n c x hn (h.to hx) hs)
 obtain ⟨⟨r1, r2⟩, hck⟩ : ∃ r, Vd.check l nm lp = r := ⟨_, rfl⟩
 rw [hck] at CK CF
 clear hn h hs hnp hP hsp hck hsm hfw
 cases q3 : Vd.rightTab l
 ·rw [q3] at TR TF
  clear q3
  go_enter Try.func3, Try.ntmps3
  go_wp2_with fail
  with_reducible refine (SM.out _ belo).mono ?_
  rintro e_x1 w_x1 ⟨rfl, hb_x1⟩
  obtain ⟨x1, rfl⟩ := later_is hb_x1
  clear hb_x1
  have hz_x1 := x1.bel.size
  try simp at hz_x1
  have l_x1_0 : w.heap.size < x1.val.heap.size := by omega
  have m_x1_0 : w.heap.size < x1.val.heap.size + 1 := by omega
  have q_ := x1.cq (w.heap.size) 0
  generalize c_x1_0_0 : x1.val.cell? ⟨w.heap.size, 0, none⟩ = q at q_
  first | (have q2_ : q = some _ := q_; subst q2_) | (simp [go_sem] at q_; have q2_ : q = some _ := q_; subst q2_) | (simp [go_sem, *] at q_; have q2_ : q = some _ := q_; subst q2_)
  have q_ := x1.zq (w.heap.size) 0
  generalize z_x1_0_0 : x1.val.frozen? ⟨w.heap.size, 0, none⟩ = q at q_
  first | (have q2_ : q = false := q_; subst q2_) | (simp [go_sem] at q_; have q2_ : q = false := q_; subst q2_) | (simp [go_sem, *] at q_; have q2_ : q = false := q_; subst q2_)
  have q_ := x1.cq (w.heap.size) 1
  generalize c_x1_0_1 : x1.val.cell? ⟨w.heap.size, 1, none⟩ = q at q_
  first | (have q2_ : q = some _ := q_; subst q2_) | (simp [go_sem] at q_; have q2_ : q = some _ := q_; subst q2_) | (simp [go_sem, *] at q_; have q2_ : q = some _ := q_; subst q2_)
  have q_ := x1.zq (w.heap.size) 1
  generalize z_x1_0_1 : x1.val.frozen? ⟨w.heap.size, 1, none⟩ = q at q_
  first | (have q2_ : q = false := q_; subst q2_) | (simp [go_sem] at q_; have q2_ : q = false := q_; subst q2_) | (simp [go_sem, *] at q_; have q2_ : q = false := q_; subst q2_)
  go_wp2_with fail
  with_reducible refine (FW.out _ belo).mono ?_
  rintro e_x2 w_x2 ⟨rfl, hb_x2⟩
  obtain ⟨x2, rfl⟩ := later_is hb_x2
  clear hb_x2
  have hz_x2 := x2.bel.size
  try simp at hz_x2
  have l_x2_0 : w.heap.size < x2.val.heap.size := by omega
  have m_x2_0 : w.heap.size < x2.val.heap.size + 1 := by omega
  have q_ := x2.cq (w.heap.size) 0
  generalize c_x2_0_0 : x2.val.cell? ⟨w.heap.size, 0, none⟩ = q at q_
  first | (have q2_ : q = some _ := q_; subst q2_) | (simp [go_sem] at q_; have q2_ : q = some _ := q_; subst q2_) | (simp [go_sem, *] at q_; have q2_ : q = some _ := q_; subst q2_)
  have q_ := x2.zq (w.heap.size) 0
  generalize z_x2_0_0 : x2.val.frozen? ⟨w.heap.size, 0, none⟩ = q at q_
  first | (have q2_ : q = false := q_; subst q2_) | (simp [go_sem] at q_; have q2_ : q = false := q_; subst q2_) | (simp [go_sem, *] at q_; have q2_ : q = false := q_; subst q2_)
  have q_ := x2.cq (w.heap.size) 1
  generalize c_x2_0_1 : x2.val.cell? ⟨w.heap.size, 1, none⟩ = q at q_
  first | (have q2_ : q = some _ := q_; subst q2_) | (simp [go_sem] at q_; have q2_ : q = some _ := q_; subst q2_) | (simp [go_sem, *] at q_; have q2_ : q = some _ := q_; subst q2_)
  have q_ := x2.zq (w.heap.size) 1
  generalize z_x2_0_1 : x2.val.frozen? ⟨w.heap.size, 1, none⟩ = q at q_
  first | (have q2_ : q = false := q_; subst q2_) | (simp [go_sem] at q_; have q2_ : q = false := q_; subst q2_) | (simp [go_sem, *] at q_; have q2_ : q = false := q_; subst q2_)
  go_wp2_with fail
  with_reducible refine (TF.out _ belo).mono ?_
  rintro e_x3 w_x3 ⟨rfl, hb_x3⟩
  obtain ⟨x3, rfl⟩ := later_is hb_x3
  clear hb_x3
  have hz_x3 := x3.bel.size
  try simp at hz_x3
  have l_x3_0 : w.heap.size < x3.val.heap.size := by omega
  have m_x3_0 : w.heap.size < x3.val.heap.size + 1 := by omega
  have q_ := x3.cq (w.heap.size) 0
  generalize c_x3_0_0 : x3.val.cell? ⟨w.heap.size, 0, none⟩ = q at q_
  first | (have q2_ : q = some _ := q_; subst q2_) | (simp [go_sem] at q_; have q2_ : q = some _ := q_; subst q2_) | (simp [go_sem, *] at q_; have q2_ : q = some _ := q_; subst q2_)
  have q_ := x3.zq (w.heap.size) 0
  generalize z_x3_0_0 : x3.val.frozen? ⟨w.heap.size, 0, none⟩ = q at q_
  first | (have q2_ : q = false := q_; subst q2_) | (simp [go_sem] at q_; have q2_ : q = false := q_; subst q2_) | (simp [go_sem, *] at q_; have q2_ : q = false := q_; subst q2_)
  have q_ := x3.cq (w.heap.size) 1
  generalize c_x3_0_1 : x3.val.cell? ⟨w.heap.size, 1, none⟩ = q at q_
  first | (have q2_ : q = some _ := q_; subst q2_) | (simp [go_sem] at q_; have q2_ : q = some _ := q_; subst q2_) | (simp [go_sem, *] at q_; have q2_ : q = some _ := q_; subst q2_)
  have q_ := x3.zq (w.heap.size) 1
  generalize z_x3_0_1 : x3.val.frozen? ⟨w.heap.size, 1, none⟩ = q at q_
  first | (have q2_ : q = false := q_; subst q2_) | (simp [go_sem] at q_; have q2_ : q = false := q_; subst q2_) | (simp [go_sem, *] at q_; have q2_ : q = false := q_; subst q2_)
  have b3 : Below w.heap.size w x3.val := belo
  go_upto_region 4 with fail
  refine wp_region_lat (by kernel_rfl) (by kernel_rfl) ?_
  repeat (go_big_quiet_step (fail))
  go_big_quiet_step (exact later_new (TR.out _ belo))
  repeat (go_big_quiet_step (fail))
  go_big_quiet_step (exact later_new (CK.out _ belo))
  repeat (go_big_quiet_step (fail))
  go_big_quiet_step (exact later_new (CF.out _ belo))
  repeat (go_big_quiet_step (fail))
  refine wpQuiet_nil ?_
  rintro _ ⟨x4, rfl⟩
  have hz_x4 := x4.bel.size
  try simp at hz_x4
  have l_x4_0 : w.heap.size < x4.val.heap.size := by omega
  have m_x4_0 : w.heap.size < x4.val.heap.size + 1 := by omega
  have q_ := x4.cq (w.heap.size) 0
  generalize c_x4_0_0 : x4.val.cell? ⟨w.heap.size, 0, none⟩ = q at q_
  first | (have q2_ : q = some _ := q_; subst q2_) | (simp [go_sem] at q_; have q2_ : q = some _ := q_; subst q2_) | (simp [go_sem, *] at q_; have q2_ : q = some _ := q_; subst q2_)
  have q_ := x4.zq (w.heap.size) 0
  generalize z_x4_0_0 : x4.val.frozen? ⟨w.heap.size, 0, none⟩ = q at q_
  first | (have q2_ : q = false := q_; subst q2_) | (simp [go_sem] at q_; have q2_ : q = false := q_; subst q2_) | (simp [go_sem, *] at q_; have q2_ : q = false := q_; subst q2_)
  have q_ := x4.cq (w.heap.size) 1
  generalize c_x4_0_1 : x4.val.cell? ⟨w.heap.size, 1, none⟩ = q at q_
  first | (have q2_ : q = some _ := q_; subst q2_) | (simp [go_sem] at q_; have q2_ : q = some _ := q_; subst q2_) | (simp [go_sem, *] at q_; have q2_ : q = some _ := q_; subst q2_)
  have q_ := x4.zq (w.heap.size) 1
  generalize z_x4_0_1 : x4.val.frozen? ⟨w.heap.size, 1, none⟩ = q at q_
  first | (have q2_ : q = false := q_; subst q2_) | (simp [go_sem] at q_; have q2_ : q = false := q_; subst q2_) | (simp [go_sem, *] at q_; have q2_ : q = false := q_; subst q2_)
  go_wp2_with fail
  with_reducible refine (AW.out _).mono ?_
  rintro e_xa w_xa ⟨rfl, hb_xa⟩
  obtain ⟨xa, rfl⟩ := later_is hb_xa
  clear hb_xa
  have hz_xa := xa.bel.size
  try simp at hz_xa
  go_wp2
  go_ret
  exact ⟨rfl, belo⟩
 rw [q3] at TR TF
 have HRT := Lib.hid q3
 clear q3
 have DR := Lib.hid (fun (d : Dv) (hd : d ∈ l) (p : Pt) (hp : p ∈ d.pts) => tab_pt HRT.out hd hp)
 obtain ⟨np2, hnp2⟩ : ∃ q, min np 2 = q := ⟨_, rfl⟩
 have hmn : min (np : Int) 2 = (np2 : Int) := by omega
 have hnle : np2 ≤ np ∧ np2 ≤ 2 := by omega
 have hncp : np2 ≤ cp := by omega
 clear hnp2
 obtain ⟨k0, ok, f0, hV, hI, hjx, hjx2⟩ : ∃ (k : Int) (ok : Bool) (f : Int), atV (firstAt Dv.name s l) = .tuple #[.int .i64 k, .bool ok] ∧ atI (firstAt Dv.name s l) = .int .i64 f ∧ max f 0 = k ∧ decide (0 ≤ f) = ok := by
  cases firstAt Dv.name s l with
  | none => exact ⟨0, false, -1, rfl, rfl, by decide, by decide⟩
  | some j => exact ⟨(j : Int), true, (j : Int), rfl, rfl, by omega, decide_eq_true (by omega)⟩
 rw [hV] at FD
 rw [hI] at FF
 clear hV hI
 go_enter Try.func3, Try.ntmps3
 go_wp2_with fail
 with_reducible refine (SM.out _ belo).mono ?_
 rintro e_x1 w_x1 ⟨rfl, hb_x1⟩
 obtain ⟨x1, rfl⟩ := later_is hb_x1
 clear hb_x1
 have hz_x1 := x1.bel.size
 try simp at hz_x1
 have l_x1_0 : w.heap.size < x1.val.heap.size := by omega
 have m_x1_0 : w.heap.size < x1.val.heap.size + 1 := by omega
 have q_ := x1.cq (w.heap.size) 0
 generalize c_x1_0_0 : x1.val.cell? ⟨w.heap.size, 0, none⟩ = q at q_
 first | (have q2_ : q = some _ := q_; subst q2_) | (simp [go_sem] at q_; have q2_ : q = some _ := q_; subst q2_) | (simp [go_sem, *] at q_; have q2_ : q = some _ := q_; subst q2_)
 have q_ := x1.zq (w.heap.size) 0
 generalize z_x1_0_0 : x1.val.frozen? ⟨w.heap.size, 0, none⟩ = q at q_
 first | (have q2_ : q = false := q_; subst q2_) | (simp [go_sem] at q_; have q2_ : q = false := q_; subst q2_) | (simp [go_sem, *] at q_; have q2_ : q = false := q_; subst q2_)
 have q_ := x1.cq (w.heap.size) 1
 generalize c_x1_0_1 : x1.val.cell? ⟨w.heap.size, 1, none⟩ = q at q_
 first | (have q2_ : q = some _ := q_; subst q2_) | (simp [go_sem] at q_; have q2_ : q = some _ := q_; subst q2_) | (simp [go_sem, *] at q_; have q2_ : q = some _ := q_; subst q2_)
 have q_ := x1.zq (w.heap.size) 1
 generalize z_x1_0_1 : x1.val.frozen? ⟨w.heap.size, 1, none⟩ = q at q_
 first | (have q2_ : q = false := q_; subst q2_) | (simp [go_sem] at q_; have q2_ : q = false := q_; subst q2_) | (simp [go_sem, *] at q_; have q2_ : q = false := q_; subst q2_)
 go_wp2_with fail
 with_reducible refine (FW.out _ belo).mono ?_
 rintro e_x2 w_x2 ⟨rfl, hb_x2⟩
 obtain ⟨x2, rfl⟩ := later_is hb_x2
 clear hb_x2
 have hz_x2 := x2.bel.size
 try simp at hz_x2
 have l_x2_0 : w.heap.size < x2.val.heap.size := by omega
 have m_x2_0 : w.heap.size < x2.val.heap.size + 1 := by omega
 have q_ := x2.cq (w.heap.size) 0
 generalize c_x2_0_0 : x2.val.cell? ⟨w.heap.size, 0, none⟩ = q at q_
 first | (have q2_ : q = some _ := q_; subst q2_) | (simp [go_sem] at q_; have q2_ : q = some _ := q_; subst q2_) | (simp [go_sem, *] at q_; have q2_ : q = some _ := q_; subst q2_)
 have q_ := x2.zq (w.heap.size) 0
 generalize z_x2_0_0 : x2.val.frozen? ⟨w.heap.size, 0, none⟩ = q at q_
 first | (have q2_ : q = false := q_; subst q2_) | (simp [go_sem] at q_; have q2_ : q = false := q_; subst q2_) | (simp [go_sem, *] at q_; have q2_ : q = false := q_; subst q2_)
 have q_ := x2.cq (w.heap.size) 1
 generalize c_x2_0_1 : x2.val.cell? ⟨w.heap.size, 1, none⟩ = q at q_
 first | (have q2_ : q = some _ := q_; subst q2_) | (simp [go_sem] at q_; have q2_ : q = some _ := q_; subst q2_) | (simp [go_sem, *] at q_; have q2_ : q = some _ := q_; subst q2_)
 have q_ := x2.zq (w.heap.size) 1
 generalize z_x2_0_1 : x2.val.frozen? ⟨w.heap.size, 1, none⟩ = q at q_
 first | (have q2_ : q = false := q_; subst q2_) | (simp [go_sem] at q_; have q2_ : q = false := q_; subst q2_) | (simp [go_sem, *] at q_; have q2_ : q = false := q_; subst q2_)
 go_wp2_with fail
 with_reducible refine (TF.out _ belo).mono ?_
 rintro e_x3 w_x3 ⟨rfl, hb_x3⟩
 obtain ⟨x3, rfl⟩ := later_is hb_x3
 clear hb_x3
 have hz_x3 := x3.bel.size
 try simp at hz_x3
 have l_x3_0 : w.heap.size < x3.val.heap.size := by omega
 have m_x3_0 : w.heap.size < x3.val.heap.size + 1 := by omega
 have q_ := x3.cq (w.heap.size) 0
 generalize c_x3_0_0 : x3.val.cell? ⟨w.heap.size, 0, none⟩ = q at q_
 first | (have q2_ : q = some _ := q_; subst q2_) | (simp [go_sem] at q_; have q2_ : q = some _ := q_; subst q2_) | (simp [go_sem, *] at q_; have q2_ : q = some _ := q_; subst q2_)
 have q_ := x3.zq (w.heap.size) 0
 generalize z_x3_0_0 : x3.val.frozen? ⟨w.heap.size, 0, none⟩ = q at q_
 first | (have q2_ : q = false := q_; subst q2_) | (simp [go_sem] at q_; have q2_ : q = false := q_; subst q2_) | (simp [go_sem, *] at q_; have q2_ : q = false := q_; subst q2_)
 have q_ := x3.cq (w.heap.size) 1
 generalize c_x3_0_1 : x3.val.cell? ⟨w.heap.size, 1, none⟩ = q at q_
 first | (have q2_ : q = some _ := q_; subst q2_) | (simp [go_sem] at q_; have q2_ : q = some _ := q_; subst q2_) | (simp [go_sem, *] at q_; have q2_ : q = some _ := q_; subst q2_)
 have q_ := x3.zq (w.heap.size) 1
 generalize z_x3_0_1 : x3.val.frozen? ⟨w.heap.size, 1, none⟩ = q at q_
 first | (have q2_ : q = false := q_; subst q2_) | (simp [go_sem] at q_; have q2_ : q = false := q_; subst q2_) | (simp [go_sem, *] at q_; have q2_ : q = false := q_; subst q2_)
 go_upto_region 4 with fail
 refine wp_region_lat (by kernel_rfl) (by kernel_rfl) ?_
 repeat (go_big_quiet_step (fail))
 go_big_quiet_step (exact later_new (TR.out _ belo))
 repeat (go_big_quiet_step (fail))
 go_big_quiet_step (exact later_new (CK.out _ belo))
 repeat (go_big_quiet_step (fail))
 go_big_quiet_step (exact later_new (CF.out _ belo))
 repeat (go_big_quiet_step (fail))
 refine wpQuiet_nil ?_
 rintro _ ⟨x4, rfl⟩
 have hz_x4 := x4.bel.size
 try simp at hz_x4
 have l_x4_0 : w.heap.size < x4.val.heap.size := by omega
 have m_x4_0 : w.heap.size < x4.val.heap.size + 1 := by omega
 have q_ := x4.cq (w.heap.size) 0
 generalize c_x4_0_0 : x4.val.cell? ⟨w.heap.size, 0, none⟩ = q at q_
 first | (have q2_ : q = some _ := q_; subst q2_) | (simp [go_sem] at q_; have q2_ : q = some _ := q_; subst q2_) | (simp [go_sem, *] at q_; have q2_ : q = some _ := q_; subst q2_)
 have q_ := x4.zq (w.heap.size) 0
 generalize z_x4_0_0 : x4.val.frozen? ⟨w.heap.size, 0, none⟩ = q at q_
 first | (have q2_ : q = false := q_; subst q2_) | (simp [go_sem] at q_; have q2_ : q = false := q_; subst q2_) | (simp [go_sem, *] at q_; have q2_ : q = false := q_; subst q2_)
 have q_ := x4.cq (w.heap.size) 1
 generalize c_x4_0_1 : x4.val.cell? ⟨w.heap.size, 1, none⟩ = q at q_
 first | (have q2_ : q = some _ := q_; subst q2_) | (simp [go_sem] at q_; have q2_ : q = some _ := q_; subst q2_) | (simp [go_sem, *] at q_; have q2_ : q = some _ := q_; subst q2_)
 have q_ := x4.zq (w.heap.size) 1
 generalize z_x4_0_1 : x4.val.frozen? ⟨w.heap.size, 1, none⟩ = q at q_
 first | (have q2_ : q = false := q_; subst q2_) | (simp [go_sem] at q_; have q2_ : q = false := q_; subst q2_) | (simp [go_sem, *] at q_; have q2_ : q = false := q_; subst q2_)
 go_wp2_with fail
 with_reducible refine (FD.out _ belo).mono ?_
 rintro e_x5 w_x5 ⟨rfl, hb_x5⟩
 obtain ⟨x5, rfl⟩ := later_is hb_x5
 clear hb_x5
 have hz_x5 := x5.bel.size
 try simp at hz_x5
 have l_x5_0 : w.heap.size < x5.val.heap.size := by omega
 have m_x5_0 : w.heap.size < x5.val.heap.size + 1 := by omega
 have q_ := x5.cq (w.heap.size) 0
 generalize c_x5_0_0 : x5.val.cell? ⟨w.heap.size, 0, none⟩ = q at q_
 first | (have q2_ : q = some _ := q_; subst q2_) | (simp [go_sem] at q_; have q2_ : q = some _ := q_; subst q2_) | (simp [go_sem, *] at q_; have q2_ : q = some _ := q_; subst q2_)
 have q_ := x5.zq (w.heap.size) 0
 generalize z_x5_0_0 : x5.val.frozen? ⟨w.heap.size, 0, none⟩ = q at q_
 first | (have q2_ : q = false := q_; subst q2_) | (simp [go_sem] at q_; have q2_ : q = false := q_; subst q2_) | (simp [go_sem, *] at q_; have q2_ : q = false := q_; subst q2_)
 have q_ := x5.cq (w.heap.size) 1
 generalize c_x5_0_1 : x5.val.cell? ⟨w.heap.size, 1, none⟩ = q at q_
 first | (have q2_ : q = some _ := q_; subst q2_) | (simp [go_sem] at q_; have q2_ : q = some _ := q_; subst q2_) | (simp [go_sem, *] at q_; have q2_ : q = some _ := q_; subst q2_)
 have q_ := x5.zq (w.heap.size) 1
 generalize z_x5_0_1 : x5.val.frozen? ⟨w.heap.size, 1, none⟩ = q at q_
 first | (have q2_ : q = false := q_; subst q2_) | (simp [go_sem] at q_; have q2_ : q = false := q_; subst q2_) | (simp [go_sem, *] at q_; have q2_ : q = false := q_; subst q2_)
 go_wp2_with fail
 with_reducible refine (FF.out _ belo).mono ?_
 rintro e_x6 w_x6 ⟨rfl, hb_x6⟩
 obtain ⟨x6, rfl⟩ := later_is hb_x6
 clear hb_x6
 have hz_x6 := x6.bel.size
 try simp at hz_x6
 have l_x6_0 : w.heap.size < x6.val.heap.size := by omega
 have m_x6_0 : w.heap.size < x6.val.heap.size + 1 := by omega
 have q_ := x6.cq (w.heap.size) 0
 generalize c_x6_0_0 : x6.val.cell? ⟨w.heap.size, 0, none⟩ = q at q_
 first | (have q2_ : q = some _ := q_; subst q2_) | (simp [go_sem] at q_; have q2_ : q = some _ := q_; subst q2_) | (simp [go_sem, *] at q_; have q2_ : q = some _ := q_; subst q2_)
 have q_ := x6.zq (w.heap.size) 0
 generalize z_x6_0_0 : x6.val.frozen? ⟨w.heap.size, 0, none⟩ = q at q_
 first | (have q2_ : q = false := q_; subst q2_) | (simp [go_sem] at q_; have q2_ : q = false := q_; subst q2_) | (simp [go_sem, *] at q_; have q2_ : q = false := q_; subst q2_)
 have q_ := x6.cq (w.heap.size) 1
 generalize c_x6_0_1 : x6.val.cell? ⟨w.heap.size, 1, none⟩ = q at q_
 first | (have q2_ : q = some _ := q_; subst q2_) | (simp [go_sem] at q_; have q2_ : q = some _ := q_; subst q2_) | (simp [go_sem, *] at q_; have q2_ : q = some _ := q_; subst q2_)
 have q_ := x6.zq (w.heap.size) 1
 generalize z_x6_0_1 : x6.val.frozen? ⟨w.heap.size, 1, none⟩ = q at q_
 first | (have q2_ : q = false := q_; subst q2_) | (simp [go_sem] at q_; have q2_ : q = false := q_; subst q2_) | (simp [go_sem, *] at q_; have q2_ : q = false := q_; subst q2_)
 have b6 : Below w.heap.size w x6.val := belo
 have hz6 : w.heap.size < x6.val.heap.size := by omega
 go_wp2
 go_loopw [76] (fun x wr => ∃ j : Nat, j ≤ n ∧ x = .int .i64 (j : Int) ∧ Below (w.heap.size + 1) x6.val wr) (fun i _ => n - (RowKit.intOf i).toNat)
 case atStart => exact ⟨0, by omega, rfl, Below.refl _ _⟩
 case round =>
  rename World => wr
  obtain ⟨j, hj, rfl, hbr⟩ := hrel
  have hbe : Below w.heap.size w wr := b6.trans (hbr.mono (by omega))
  have hzr := hbr.size
  by_cases hlt : j < n
  rotate_left
  ·obtain rfl : j = n := by omega
   clear hlt hj
   go_wp2_with fail
   with_reducible refine (AW.out _).mono ?_
   rintro e_xa w_xa ⟨rfl, hb_xa⟩
   obtain ⟨xa, rfl⟩ := later_is hb_xa
   clear hb_xa
   have hz_xa := xa.bel.size
   try simp at hz_xa
   go_wp2
   go_ret
   exact ⟨rfl, belo⟩
  have hltI : (j : Int) < (n : Int) := by omega
  obtain ⟨g1', o1', d, rfl, hg, hd, hok, d0, d1⟩ := (HH.out.to hbe).at_ (k := j) (by rw [HN.out]; exact hlt)
  have hgl : g1' < wr.heap.size := hg
  have HOK := Lib.hid (HH.out.ok d (List.mem_of_getElem? hd))
  have HPR := Lib.hid (DR.out d (List.mem_of_getElem? hd))
  obtain ⟨dvn, pts, PA, pc⟩ := d
  obtain ⟨m, hm⟩ : ∃ m, pts.length = m := ⟨_, rfl⟩
  have HM := Lib.hid hm
  have hmc : m ≤ 9223372036854775807 := by have := hok.shp.le; have := hok.shp.cap; dsimp only at *; omega
  dsimp only at d0 d1
  rw [hm] at d1
  clear hd hg hok hm
  go_wp2
  go_loopw [83] (fun x wv => ∃ k : Nat, k ≤ m ∧ x = .int .i64 (k : Int) ∧ Below (w.heap.size + 1) x6.val wv) (fun i _ => m - (RowKit.intOf i).toNat)
  case atStart => exact ⟨0, by omega, rfl, hbr.trans ((bel_alloc (Below.refl _ _) _).mono (by omega))⟩
  case round =>
   clear d0 d1
   rename World => wv
   obtain ⟨k, hk, rfl, hbv⟩ := hrel
   obtain ⟨xv, hxv⟩ := later_is hbv
   have hz_xv := xv.bel.size
   obtain rfl := hxv
   have hz_xv := xv.bel.size
   try simp at hz_xv
   have l_xv_0 : w.heap.size < xv.val.heap.size := by omega
   have m_xv_0 : w.heap.size < xv.val.heap.size + 1 := by omega
   have q_ := xv.cq (w.heap.size) 0
   generalize c_xv_0_0 : xv.val.cell? ⟨w.heap.size, 0, none⟩ = q at q_
   first | (have q2_ : q = some _ := q_; subst q2_) | (simp [go_sem] at q_; have q2_ : q = some _ := q_; subst q2_) | (simp [go_sem, *] at q_; have q2_ : q = some _ := q_; subst q2_)
   have q_ := xv.cq (w.heap.size) 1
   generalize c_xv_0_1 : xv.val.cell? ⟨w.heap.size, 1, none⟩ = q at q_
   first | (have q2_ : q = some _ := q_; subst q2_) | (simp [go_sem] at q_; have q2_ : q = some _ := q_; subst q2_) | (simp [go_sem, *] at q_; have q2_ : q = some _ := q_; subst q2_)
   have hbw : Below w.heap.size w xv.val := b6.trans (hbv.mono (by omega))
   by_cases hlk : k < m
   rotate_left
   ·obtain rfl : k = m := by omega
    clear hlk hk
    go_wp2
    go_roundw
    case rel => exact ⟨j + 1, by omega, by go_num, hbv⟩
    case measure => simp [RowKit.intOf]; omega
   have hlkI : (k : Int) < (m : Int) := by omega
   obtain ⟨g3', o3, p, hA3, hg3, hp3, e0, e1, e2, e3, e4, e5, e6, e7, e8⟩ := Pt.at_cells (HOK.out.to hbw).rc (k := k) (by rw [HM.out]; exact hlk)
   have hgl3 : g3' < xv.val.heap.size := hg3
   dsimp only at hA3
   subst hA3
   have HPF := Lib.hid (HOK.out.fit p (List.mem_of_getElem? hp3))
   have HR3 := Lib.hid (HPR.out p (List.mem_of_getElem? hp3))
   have VWS := Lib.hid (fun (st : St) (hst : st.value.Fit) (x : World) => vword_any p st x HPF.out hst)
   have VFS := Lib.hid (fun (st : St) (hst : st.value.Fit) (x : World) => rvword_any p st x HPF.out hst HR3.out.1 HR3.out.2.1 HR3.out.2.2)
   obtain ⟨pp, hpp⟩ : ∃ q, p = q := ⟨_, rfl⟩
   have HQP := Lib.hid hpp
   clear hpp
   obtain ⟨pn, pat, pdg, psg, ⟨pln, pld⟩, ⟨phn, phd⟩, pun⟩ := p
   dsimp only at e0 e1 e2 e3 e4 e5 e6 e7 e8
   clear hp3 hg3
   go_upto_region 18 with fail
   obtain ⟨wp, hwp⟩ : ∃ w_q_, w_q_ = xv.val.alloc (.cells #[.string pn, .int .i64 pat, .int .i64 pdg, .bool psg, .int .i64 pln, .int .u8 (pld : Int), .int .i64 phn, .int .u8 (phd : Int), .string pun] 43) := ⟨_, rfl⟩
   rw [← hwp]
   have bp0 : Below xv.val.heap.size xv.val wp := by rw [hwp]; exact bel_alloc (Below.refl _ _) _
   have hzp : wp.heap.size = xv.val.heap.size + 1 := by rw [hwp]; simp
   have RP : Hid (RowAt wp xv.val.heap.size 43 [.string pn, .int .i64 pat, .int .i64 pdg, .bool psg, .int .i64 pln, .int .u8 (pld : Int), .int .i64 phn, .int .u8 (phd : Int), .string pun]) := Lib.hid (by rw [hwp]; exact RowAt.new' _ _ _ _ rfl)
   have u0 : wp.cell? ⟨xv.val.heap.size, 0, none⟩ = some (.string pn) := RP.out.cells 0
   have u1 : wp.cell? ⟨xv.val.heap.size, 1, none⟩ = some (.int .i64 pat) := RP.out.cells 1
   have u2 : wp.cell? ⟨xv.val.heap.size, 2, none⟩ = some (.int .i64 pdg) := RP.out.cells 2
   have u3 : wp.cell? ⟨xv.val.heap.size, 3, none⟩ = some (.bool psg) := RP.out.cells 3
   have u4 : wp.cell? ⟨xv.val.heap.size, 4, none⟩ = some (.int .i64 pln) := RP.out.cells 4
   have u5 : wp.cell? ⟨xv.val.heap.size, 5, none⟩ = some (.int .u8 (pld : Int)) := RP.out.cells 5
   have u6 : wp.cell? ⟨xv.val.heap.size, 6, none⟩ = some (.int .i64 phn) := RP.out.cells 6
   have u7 : wp.cell? ⟨xv.val.heap.size, 7, none⟩ = some (.int .u8 (phd : Int)) := RP.out.cells 7
   have u8 : wp.cell? ⟨xv.val.heap.size, 8, none⟩ = some (.string pun) := RP.out.cells 8
   have lwx : w.heap.size < xv.val.heap.size := by omega
   have r0 : wp.cell? ⟨w.heap.size, 0, none⟩ = some (.string nm) := (bp0.cell (p := ⟨w.heap.size, 0, none⟩) lwx).trans c_xv_0_0
   have r1' : wp.cell? ⟨w.heap.size, 1, none⟩ = some (.slice B np cp) := (bp0.cell (p := ⟨w.heap.size, 1, none⟩) lwx).trans c_xv_0_1
   have lwp : w.heap.size < wp.heap.size := by omega
   have hzp' : xv.val.heap.size + 1 ≤ wp.heap.size := by omega
   clear hwp hzp
   go_wp2
   go_loopw [95] (fun x wq => ∃ a : Nat, a ≤ np2 ∧ x = .int .i64 (a : Int) ∧ Below (xv.val.heap.size + 1) wp wq) (fun i _ => np2 - (RowKit.intOf i).toNat)
   case atStart => exact ⟨0, by omega, rfl, Below.refl _ _⟩
   case round =>
    rename World => wq0
    obtain ⟨a, ha, rfl, hbq⟩ := hrel
    obtain ⟨xq, hxq⟩ := later_is hbq
    have hz_xq := xq.bel.size
    obtain rfl := hxq
    have h0q : Below xv.val.heap.size xv.val xq.val := bp0.trans (hbq.mono (by omega))
    have hbqw : Below w.heap.size w xq.val := hbw.trans (h0q.mono hbw.size)
    by_cases hla : a < np2
    rotate_left
    ·obtain rfl : a = np2 := by omega
     have bfin : Below (w.heap.size + 1) x6.val xq.val := hbv.trans (h0q.mono (by have := hbv.size; omega))
     clear hla ha
     go_wp2
     go_roundw
     case rel => exact ⟨k + 1, by omega, by go_num, bfin⟩
     case measure => simp [RowKit.intOf]; omega
    have hlaI : (a : Int) < (np2 : Int) := by omega
    obtain ⟨g4, o4, q, hB4, hg4, hq4, hok4, f0, f1, f2⟩ := (HPP.out.to hbqw).at_ (k := a) (by rw [HNP.out]; omega)
    have hgl4 : g4 < xq.val.heap.size := hg4
    subst hB4
    have HOK4 := Lib.hid (HPP.out.ok q (List.mem_of_getElem? hq4))
    obtain ⟨slave, line, sets, PA4, pc4⟩ := q
    obtain ⟨ms, hms⟩ : ∃ m, sets.length = m := ⟨_, rfl⟩
    have HMS := Lib.hid hms
    have hsh4 := hok4.shp
    dsimp only at f0 f1 f2 hsh4
    rw [hms] at f2 hsh4
    have hmsc : ms ≤ 9223372036854775807 := Nat.le_trans hsh4.le hsh4.cap
    obtain ⟨ms2, hms2⟩ : ∃ q, min ms 3 = q := ⟨_, rfl⟩
    have hmm : min (ms : Int) 3 = (ms2 : Int) := by omega
    have hmle : ms2 ≤ ms ∧ ms2 ≤ 3 := by omega
    have hmcp : ms2 ≤ pc4 := by have := hsh4.le; omega
    clear hq4 hg4 hok4 hms hms2 hsh4
    go_wp2
    go_loopw [107] (fun x wy => ∃ b : Nat, b ≤ ms2 ∧ x = .int .i64 (b : Int) ∧ Below (xv.val.heap.size + 1) wp wy) (fun i _ => ms2 - (RowKit.intOf i).toNat)
    case atStart => exact ⟨0, by omega, rfl, hbq.trans ((bel_alloc (Below.refl _ _) _).mono (by omega))⟩
    case round =>
     clear f0 f1 f2
     rename World => wy0
     obtain ⟨b, hb, rfl, hby⟩ := hrel
     obtain ⟨xy, hxy⟩ := later_is hby
     have hz_xy := xy.bel.size
     obtain rfl := hxy
     have hz_xy := xy.bel.size
     try simp at hz_xy
     have l_xy_0 : xv.val.heap.size < xy.val.heap.size := by omega
     have m_xy_0 : xv.val.heap.size < xy.val.heap.size + 1 := by omega
     have q_ := xy.cq (xv.val.heap.size) 0
     generalize c_xy_0_0 : xy.val.cell? ⟨xv.val.heap.size, 0, none⟩ = q at q_
     first | (have q2_ : q = some _ := q_; subst q2_) | (simp [go_sem] at q_; have q2_ : q = some _ := q_; subst q2_) | (simp [go_sem, *] at q_; have q2_ : q = some _ := q_; subst q2_)
     have q_ := xy.cq (xv.val.heap.size) 1
     generalize c_xy_0_1 : xy.val.cell? ⟨xv.val.heap.size, 1, none⟩ = q at q_
     first | (have q2_ : q = some _ := q_; subst q2_) | (simp [go_sem] at q_; have q2_ : q = some _ := q_; subst q2_) | (simp [go_sem, *] at q_; have q2_ : q = some _ := q_; subst q2_)
     have q_ := xy.cq (xv.val.heap.size) 2
     generalize c_xy_0_2 : xy.val.cell? ⟨xv.val.heap.size, 2, none⟩ = q at q_
     first | (have q2_ : q = some _ := q_; subst q2_) | (simp [go_sem] at q_; have q2_ : q = some _ := q_; subst q2_) | (simp [go_sem, *] at q_; have q2_ : q = some _ := q_; subst q2_)
     have q_ := xy.cq (xv.val.heap.size) 3
     generalize c_xy_0_3 : xy.val.cell? ⟨xv.val.heap.size, 3, none⟩ = q at q_
     first | (have q2_ : q = some _ := q_; subst q2_) | (simp [go_sem] at q_; have q2_ : q = some _ := q_; subst q2_) | (simp [go_sem, *] at q_; have q2_ : q = some _ := q_; subst q2_)
     have q_ := xy.cq (xv.val.heap.size) 4
     generalize c_xy_0_4 : xy.val.cell? ⟨xv.val.heap.size, 4, none⟩ = q at q_
     first | (have q2_ : q = some _ := q_; subst q2_) | (simp [go_sem] at q_; have q2_ : q = some _ := q_; subst q2_) | (simp [go_sem, *] at q_; have q2_ : q = some _ := q_; subst q2_)
     have q_ := xy.cq (xv.val.heap.size) 5
     generalize c_xy_0_5 : xy.val.cell? ⟨xv.val.heap.size, 5, none⟩ = q at q_
     first | (have q2_ : q = some _ := q_; subst q2_) | (simp [go_sem] at q_; have q2_ : q = some _ := q_; subst q2_) | (simp [go_sem, *] at q_; have q2_ : q = some _ := q_; subst q2_)
     have q_ := xy.cq (xv.val.heap.size) 6
     generalize c_xy_0_6 : xy.val.cell? ⟨xv.val.heap.size, 6, none⟩ = q at q_
     first | (have q2_ : q = some _ := q_; subst q2_) | (simp [go_sem] at q_; have q2_ : q = some _ := q_; subst q2_) | (simp [go_sem, *] at q_; have q2_ : q = some _ := q_; subst q2_)
     have q_ := xy.cq (xv.val.heap.size) 7
     generalize c_xy_0_7 : xy.val.cell? ⟨xv.val.heap.size, 7, none⟩ = q at q_
     first | (have q2_ : q = some _ := q_; subst q2_) | (simp [go_sem] at q_; have q2_ : q = some _ := q_; subst q2_) | (simp [go_sem, *] at q_; have q2_ : q = some _ := q_; subst q2_)
     have q_ := xy.cq (xv.val.heap.size) 8
     generalize c_xy_0_8 : xy.val.cell? ⟨xv.val.heap.size, 8, none⟩ = q at q_
     first | (have q2_ : q = some _ := q_; subst q2_) | (simp [go_sem] at q_; have q2_ : q = some _ := q_; subst q2_) | (simp [go_sem, *] at q_; have q2_ : q = some _ := q_; subst q2_)
     have h0y : Below xv.val.heap.size xv.val xy.val := bp0.trans (hby.mono (by omega))
     have hbyw : Below w.heap.size w xy.val := hbw.trans (h0y.mono hbw.size)
     by_cases hlb : b < ms2
     rotate_left
     ·obtain rfl : b = ms2 := by omega
      clear hlb hb
      go_wp2
      go_roundw
      case rel => exact ⟨a + 1, by omega, by go_num, hby⟩
      case measure => simp [RowKit.intOf]; omega
     have hlbI : (b : Int) < (ms2 : Int) := by omega
     obtain ⟨g5, o5, st, hA5, hg5, hs5, s0, s1, s2, s3, s4⟩ := St.at_ (HOK4.out.to hbyw).rc (k := b) (by dsimp only; rw [HMS.out]; omega)
     have hgl5 : g5 < xy.val.heap.size := hg5
     dsimp only at hA5
     subst hA5
     have VW := Lib.hid (fun (x : World) => VWS.out st (HOK4.out.fit st (List.mem_of_getElem? hs5)).1 x)
     have VF := Lib.hid (fun (x : World) => VFS.out st (HOK4.out.fit st (List.mem_of_getElem? hs5)).1 x)
     obtain ⟨⟨vr, ve⟩, hvw⟩ : ∃ v, Vd.vword ⟨pn, pat, pdg, psg, ⟨pln, pld⟩, ⟨phn, phd⟩, pun⟩ st = v := ⟨_, rfl⟩
     rw [hvw] at VW VF
     obtain ⟨sp, ⟨vn, vd⟩, su, sl⟩ := st
     dsimp only at s0 s1 s2 s3 s4 VW VF
     clear hs5 hg5 hvw
     go_wp2_with fail
     with_reducible refine (VW.out _).mono ?_
     rintro e_x7 w_x7 ⟨rfl, hb_x7⟩
     obtain ⟨x7, rfl⟩ := later_is hb_x7
     clear hb_x7
     have hz_x7 := x7.bel.size
     try simp at hz_x7
     have l_x7_0 : xy.val.heap.size < x7.val.heap.size := by omega
     have m_x7_0 : xy.val.heap.size < x7.val.heap.size + 1 := by omega
     have q_ := x7.cq (xy.val.heap.size) 0
     generalize c_x7_0_0 : x7.val.cell? ⟨xy.val.heap.size, 0, none⟩ = q at q_
     first | (have q2_ : q = some _ := q_; subst q2_) | (simp [go_sem] at q_; have q2_ : q = some _ := q_; subst q2_) | (simp [go_sem, *] at q_; have q2_ : q = some _ := q_; subst q2_)
     have q_ := x7.cq (xy.val.heap.size) 1
     generalize c_x7_0_1 : x7.val.cell? ⟨xy.val.heap.size, 1, none⟩ = q at q_
     first | (have q2_ : q = some _ := q_; subst q2_) | (simp [go_sem] at q_; have q2_ : q = some _ := q_; subst q2_) | (simp [go_sem, *] at q_; have q2_ : q = some _ := q_; subst q2_)
     have q_ := x7.cq (xy.val.heap.size) 2
     generalize c_x7_0_2 : x7.val.cell? ⟨xy.val.heap.size, 2, none⟩ = q at q_
     first | (have q2_ : q = some _ := q_; subst q2_) | (simp [go_sem] at q_; have q2_ : q = some _ := q_; subst q2_) | (simp [go_sem, *] at q_; have q2_ : q = some _ := q_; subst q2_)
     have q_ := x7.cq (xy.val.heap.size) 3
     generalize c_x7_0_3 : x7.val.cell? ⟨xy.val.heap.size, 3, none⟩ = q at q_
     first | (have q2_ : q = some _ := q_; subst q2_) | (simp [go_sem] at q_; have q2_ : q = some _ := q_; subst q2_) | (simp [go_sem, *] at q_; have q2_ : q = some _ := q_; subst q2_)
     have q_ := x7.cq (xy.val.heap.size) 4
     generalize c_x7_0_4 : x7.val.cell? ⟨xy.val.heap.size, 4, none⟩ = q at q_
     first | (have q2_ : q = some _ := q_; subst q2_) | (simp [go_sem] at q_; have q2_ : q = some _ := q_; subst q2_) | (simp [go_sem, *] at q_; have q2_ : q = some _ := q_; subst q2_)
     have l_x7_1 : xv.val.heap.size < x7.val.heap.size := by omega
     have m_x7_1 : xv.val.heap.size < x7.val.heap.size + 1 := by omega
     have q_ := x7.cq (xv.val.heap.size) 0
     generalize c_x7_1_0 : x7.val.cell? ⟨xv.val.heap.size, 0, none⟩ = q at q_
     first | (have q2_ : q = some _ := q_; subst q2_) | (simp [go_sem] at q_; have q2_ : q = some _ := q_; subst q2_) | (simp [go_sem, *] at q_; have q2_ : q = some _ := q_; subst q2_)
     have q_ := x7.cq (xv.val.heap.size) 1
     generalize c_x7_1_1 : x7.val.cell? ⟨xv.val.heap.size, 1, none⟩ = q at q_
     first | (have q2_ : q = some _ := q_; subst q2_) | (simp [go_sem] at q_; have q2_ : q = some _ := q_; subst q2_) | (simp [go_sem, *] at q_; have q2_ : q = some _ := q_; subst q2_)
     have q_ := x7.cq (xv.val.heap.size) 2
     generalize c_x7_1_2 : x7.val.cell? ⟨xv.val.heap.size, 2, none⟩ = q at q_
     first | (have q2_ : q = some _ := q_; subst q2_) | (simp [go_sem] at q_; have q2_ : q = some _ := q_; subst q2_) | (simp [go_sem, *] at q_; have q2_ : q = some _ := q_; subst q2_)
     have q_ := x7.cq (xv.val.heap.size) 3
     generalize c_x7_1_3 : x7.val.cell? ⟨xv.val.heap.size, 3, none⟩ = q at q_
     first | (have q2_ : q = some _ := q_; subst q2_) | (simp [go_sem] at q_; have q2_ : q = some _ := q_; subst q2_) | (simp [go_sem, *] at q_; have q2_ : q = some _ := q_; subst q2_)
     have q_ := x7.cq (xv.val.heap.size) 4
     generalize c_x7_1_4 : x7.val.cell? ⟨xv.val.heap.size, 4, none⟩ = q at q_
     first | (have q2_ : q = some _ := q_; subst q2_) | (simp [go_sem] at q_; have q2_ : q = some _ := q_; subst q2_) | (simp [go_sem, *] at q_; have q2_ : q = some _ := q_; subst q2_)
     have q_ := x7.cq (xv.val.heap.size) 5
     generalize c_x7_1_5 : x7.val.cell? ⟨xv.val.heap.size, 5, none⟩ = q at q_
     first | (have q2_ : q = some _ := q_; subst q2_) | (simp [go_sem] at q_; have q2_ : q = some _ := q_; subst q2_) | (simp [go_sem, *] at q_; have q2_ : q = some _ := q_; subst q2_)
     have q_ := x7.cq (xv.val.heap.size) 6
     generalize c_x7_1_6 : x7.val.cell? ⟨xv.val.heap.size, 6, none⟩ = q at q_
     first | (have q2_ : q = some _ := q_; subst q2_) | (simp [go_sem] at q_; have q2_ : q = some _ := q_; subst q2_) | (simp [go_sem, *] at q_; have q2_ : q = some _ := q_; subst q2_)
     have q_ := x7.cq (xv.val.heap.size) 7
     generalize c_x7_1_7 : x7.val.cell? ⟨xv.val.heap.size, 7, none⟩ = q at q_
     first | (have q2_ : q = some _ := q_; subst q2_) | (simp [go_sem] at q_; have q2_ : q = some _ := q_; subst q2_) | (simp [go_sem, *] at q_; have q2_ : q = some _ := q_; subst q2_)
     have q_ := x7.cq (xv.val.heap.size) 8
     generalize c_x7_1_8 : x7.val.cell? ⟨xv.val.heap.size, 8, none⟩ = q at q_
     first | (have q2_ : q = some _ := q_; subst q2_) | (simp [go_sem] at q_; have q2_ : q = some _ := q_; subst q2_) | (simp [go_sem, *] at q_; have q2_ : q = some _ := q_; subst q2_)
     go_wp2_with fail
     with_reducible refine (VF.out _).mono ?_
     rintro e_x8 w_x8 ⟨rfl, hb_x8⟩
     obtain ⟨x8, rfl⟩ := later_is hb_x8
     clear hb_x8
     have hz_x8 := x8.bel.size
     try simp at hz_x8
     have hb8 : Below xy.val.heap.size xy.val x8.val := belo
     have bfin : Below (xv.val.heap.size + 1) wp x8.val := hby.trans (hb8.mono (by have := hby.size; omega))
     go_wp2
     go_roundw
     case rel => exact ⟨b + 1, by omega, by go_num, bfin⟩
     case measure => simp [RowKit.intOf]; omega
end Go.Proofs.Ythhokpaidekmnaa
