/- Layer 15: Small. -/
import Derived.Test.YthhokpaidekmnaaVdAwk
namespace Go.Proofs.Ythhokpaidekmnaa
open Go.RowKit
set_option linter.unusedVariables false
set_option linter.unusedSimpArgs false
set_option maxRecDepth 100000
attribute [local go_sem] Later.cell Later.frozen setCell_twice
namespace Vd
def smallPt (p : Pt) : Bool := decide (p.name.size ≤ 40 ∧ p.unit.size ≤ 40)
def smallDv (d : Dv) : Bool := decide (d.pts.length ≤ 40 ∧ d.name.size ≤ 40) && d.pts.all smallPt
def small (t : List Dv) : Bool := decide (t.length ≤ 10) && t.all smallDv
end Vd
set_option maxHeartbeats 4000000 in
theorem small_any (A : Option Addr) (l : List Dv) (n c : Nat) (w : World) (hn : l.length = n) (h : Tab w w.heap.size A l) (hs : Shp A n c) :
  Calls Try.prog 7 #[.slice A n c] w fun e w' => e = .returned (.bool (Vd.small l)) ∧ Below w.heap.size w w' := by
 have HN := Lib.hid hn
 have HH := Lib.hid h
 have hcap : n ≤ 9223372036854775807 := Nat.le_trans hs.le hs.cap
 obtain ⟨rv, hrv⟩ : ∃ rv, Vd.small l = rv := ⟨_, rfl⟩
 rw [hrv]
 unfold Vd.small at hrv
 rw [hn] at hrv
 have RV := Lib.hid hrv
 clear hn h hs hrv
 by_cases c1 : 10 < n
 ·have g1 : decide ((10 : Int) < (n : Int)) = true := decide_eq_true (by omega)
  obtain rfl : false = rv := by rw [← RV.out, decide_eq_false (by omega)]; rfl
  clear RV c1
  go_enter Try.func7, Try.ntmps7
  go_wp2
  go_ret
  exact ⟨rfl, belo⟩
 have g1 : decide ((10 : Int) < (n : Int)) = false := decide_eq_false (by omega)
 rw [decide_eq_true (show n ≤ 10 by omega), Bool.true_and] at RV
 go_enter Try.func7, Try.ntmps7
 go_wp2
 go_loopw [12] (fun x wr => ∃ j : Nat, j ≤ n ∧ Hid ((l.take j).all Vd.smallDv = true) ∧ x = .int .i64 (j : Int) ∧ Below w.heap.size w wr) (fun i _ => n - (RowKit.intOf i).toNat)
 case atStart => exact ⟨0, by omega, Lib.hid rfl, rfl, belo⟩
 case round =>
  rename World => wr
  obtain ⟨j, hj, HA, rfl, hbe⟩ := hrel
  by_cases hlt : j < n
  rotate_left
  ·obtain rfl : j = n := by omega
   obtain rfl : true = rv := by rw [← RV.out, allL_end HN.out HA.out]
   clear hlt hj
   go_wp2
   go_ret
   exact ⟨rfl, hbe⟩
  have hltI : (j : Int) < (n : Int) := by omega
  obtain ⟨g1', o1', d, rfl, hg, hd, hok, d0, d1⟩ := (HH.out.to hbe).at_ (k := j) (by rw [HN.out]; exact hlt)
  have hgl : g1' < wr.heap.size := hg
  obtain ⟨dn, pts, PA, pc⟩ := d
  obtain ⟨m, hm⟩ : ∃ m, pts.length = m := ⟨_, rfl⟩
  have HM := Lib.hid hm
  have HOK := Lib.hid hok
  have hmc : m ≤ 9223372036854775807 := by have := hok.shp.le; have := hok.shp.cap; dsimp only at *; omega
  have HP := Lib.hid hd
  dsimp only at d0 d1
  rw [hm] at d1
  have hsm : Vd.smallDv ⟨dn, pts, PA, pc⟩ = (decide (m ≤ 40 ∧ dn.size ≤ 40) && pts.all Vd.smallPt) := by unfold Vd.smallDv; dsimp only; rw [hm]
  have HSM := Lib.hid hsm
  clear hd hg hok hm hsm
  by_cases c2 : 40 < m
  ·have g2 : decide ((40 : Int) < (m : Int)) = true := decide_eq_true (by omega)
   obtain rfl : false = rv := by rw [← RV.out, allL_no HP.out (by rw [HSM.out, decide_eq_false (by omega)]; rfl)]
   clear RV c2
   go_wp2
   go_ret
   exact ⟨rfl, belo⟩
  have g2 : decide ((40 : Int) < (m : Int)) = false := decide_eq_false (by omega)
  by_cases c3 : 40 < dn.size
  ·have g3 : decide ((40 : Int) < (dn.size : Int)) = true := decide_eq_true (by omega)
   obtain rfl : false = rv := by rw [← RV.out, allL_no HP.out (by rw [HSM.out, decide_eq_false (by omega)]; rfl)]
   clear RV c2 c3
   go_wp2
   go_ret
   exact ⟨rfl, belo⟩
  have g3 : decide ((40 : Int) < (dn.size : Int)) = false := decide_eq_false (by omega)
  rw [decide_eq_true (show m ≤ 40 ∧ dn.size ≤ 40 by omega), Bool.true_and] at HSM
  clear c2 c3
  go_wp2
  go_loopw [29] (fun x wv => ∃ k : Nat, k ≤ m ∧ Hid ((pts.take k).all Vd.smallPt = true) ∧ x = .int .i64 (k : Int) ∧ Below wr.heap.size wr wv) (fun i _ => m - (RowKit.intOf i).toNat)
  case atStart => exact ⟨0, by omega, Lib.hid rfl, rfl, belo⟩
  case round =>
   rename World => wv
   obtain ⟨k, hk, HB, rfl, hbi⟩ := hrel
   have hbw : Below w.heap.size w wv := hbe.trans (hbi.mono hbe.size)
   by_cases hlk : k < m
   rotate_left
   ·obtain rfl : k = m := by omega
    have HA2 : Hid ((l.take (j + 1)).all Vd.smallDv = true) := Lib.hid (allL_step HA.out HP.out (by rw [HSM.out, allL_end HM.out HB.out]))
    clear hlk hk hbi d0 d1
    go_wp2
    go_roundw
    case rel => exact ⟨j + 1, by omega, HA2, by go_num, by first | assumption | trivial⟩
    case measure => simp [RowKit.intOf]; omega
   have hlkI : (k : Int) < (m : Int) := by omega
   obtain ⟨g3', o3, p, hA3, hg3, hp3, e0, e1, e2, e3, e4, e5, e6, e7, e8⟩ := Pt.at_cells (HOK.out.to hbi).rc (k := k) (by rw [HM.out]; exact hlk)
   have hgl3 : g3' < wv.heap.size := hg3
   dsimp only at hA3
   subst hA3
   obtain ⟨pn, at_, dg, sg, ⟨ln, ld⟩, ⟨hn, hd⟩, un⟩ := p
   have HP3 := Lib.hid hp3
   dsimp only at e0 e1 e2 e3 e4 e5 e6 e7 e8
   clear hp3 hg3 d0 d1
   by_cases c4 : 40 < pn.size
   ·have g4 : decide ((40 : Int) < (pn.size : Int)) = true := decide_eq_true (by omega)
    obtain rfl : false = rv := by rw [← RV.out, allL_no HP.out (by rw [HSM.out, allL_no HP3.out (by unfold Vd.smallPt; exact decide_eq_false (by dsimp only; omega))])]
    clear RV c4
    go_wp2
    go_ret
    exact ⟨rfl, belo⟩
   have g4 : decide ((40 : Int) < (pn.size : Int)) = false := decide_eq_false (by omega)
   by_cases c5 : 40 < un.size
   ·have g5 : decide ((40 : Int) < (un.size : Int)) = true := decide_eq_true (by omega)
    obtain rfl : false = rv := by rw [← RV.out, allL_no HP.out (by rw [HSM.out, allL_no HP3.out (by unfold Vd.smallPt; exact decide_eq_false (by dsimp only; omega))])]
    clear RV c4 c5
    go_wp2
    go_ret
    exact ⟨rfl, belo⟩
   have g5 : decide ((40 : Int) < (un.size : Int)) = false := decide_eq_false (by omega)
   have HB2 : Hid ((pts.take (k + 1)).all Vd.smallPt = true) := Lib.hid (allL_step HB.out HP3.out (by unfold Vd.smallPt; exact decide_eq_true (by dsimp only; omega)))
   clear c4 c5
   go_wp2
   go_roundw
   case rel => exact ⟨k + 1, by omega, HB2, by go_num, belo⟩
   case measure => simp [RowKit.intOf]; omega
end Go.Proofs.Ythhokpaidekmnaa
