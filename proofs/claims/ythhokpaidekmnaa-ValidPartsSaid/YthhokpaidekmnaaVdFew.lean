/- Layer 15: Few. -/
import Derived.Test.YthhokpaidekmnaaVdAwk
namespace Go.Proofs.Ythhokpaidekmnaa
open Go.RowKit
set_option linter.unusedVariables false
set_option linter.unusedSimpArgs false
set_option maxRecDepth 100000
attribute [local go_sem] Later.cell Later.frozen setCell_twice
namespace Vd
def fewSt (s : St) : Bool := decide (s.point.size ≤ 40 ∧ s.unit.size ≤ 40)
def fewPa (p : Pa) : Bool := decide (p.sets.length ≤ 70 ∧ p.slave.size ≤ 40) && p.sets.all fewSt
def few (nm : ByteArray) (l : List Pa) : Bool := decide (l.length ≤ 12 ∧ nm.size ≤ 40) && l.all fewPa
end Vd
set_option maxHeartbeats 4000000 in
theorem few_any (nm : ByteArray) (A : Option Addr) (l : List Pa) (n c : Nat) (w : World) (hn : l.length = n) (h : Pas w w.heap.size A l) (hs : Shp A n c) :
  Calls Try.prog 8 #[.agg #[.string nm, .slice A n c]] w fun e w' => e = .returned (.bool (Vd.few nm l)) ∧ Below w.heap.size w w' := by
 have HN := Lib.hid hn
 have HH := Lib.hid h
 have hcap : n ≤ 9223372036854775807 := Nat.le_trans hs.le hs.cap
 obtain ⟨rv, hrv⟩ : ∃ rv, Vd.few nm l = rv := ⟨_, rfl⟩
 rw [hrv]
 unfold Vd.few at hrv
 rw [hn] at hrv
 have RV := Lib.hid hrv
 clear hn h hs hrv
 by_cases c1 : 12 < n
 ·have g1 : decide ((12 : Int) < (n : Int)) = true := decide_eq_true (by omega)
  obtain rfl : false = rv := by rw [← RV.out, decide_eq_false (by omega)]; rfl
  clear RV c1
  go_enter Try.func8, Try.ntmps8
  go_wp2
  go_ret
  exact ⟨rfl, belo⟩
 have g1 : decide ((12 : Int) < (n : Int)) = false := decide_eq_false (by omega)
 by_cases c2 : 40 < nm.size
 ·have g2 : decide ((40 : Int) < (nm.size : Int)) = true := decide_eq_true (by omega)
  obtain rfl : false = rv := by rw [← RV.out, decide_eq_false (by omega)]; rfl
  clear RV c1 c2
  go_enter Try.func8, Try.ntmps8
  go_wp2
  go_ret
  exact ⟨rfl, belo⟩
 have g2 : decide ((40 : Int) < (nm.size : Int)) = false := decide_eq_false (by omega)
 rw [decide_eq_true (show n ≤ 12 ∧ nm.size ≤ 40 by omega), Bool.true_and] at RV
 clear c2
 go_enter Try.func8, Try.ntmps8
 go_wp2
 go_loopw [20] (fun x wr => ∃ j : Nat, j ≤ n ∧ Hid ((l.take j).all Vd.fewPa = true) ∧ x = .int .i64 (j : Int) ∧ Below w.heap.size w wr) (fun i _ => n - (RowKit.intOf i).toNat)
 case atStart => exact ⟨0, by omega, Lib.hid rfl, rfl, belo⟩
 case round =>
  rename World => wr
  obtain ⟨j, hj, HA, rfl, hbe⟩ := hrel
  by_cases hlt : j < n
  rotate_left
  ·obtain rfl : j = n := by omega
   obtain rfl : true = rv := by rw [← RV.out, allL_end HN.out HA.out]
   clear hlt hj
   go_wp2
   go_ret
   exact ⟨rfl, hbe⟩
  have hltI : (j : Int) < (n : Int) := by omega
  obtain ⟨g1', o1', p, rfl, hg, hp, hok, d0, d1, d2⟩ := (HH.out.to hbe).at_ (k := j) (by rw [HN.out]; exact hlt)
  have hgl : g1' < wr.heap.size := hg
  have HOK := Lib.hid hok
  have HP := Lib.hid hp
  obtain ⟨slave, line, sets, PA, pc⟩ := p
  obtain ⟨m, hm⟩ : ∃ m, sets.length = m := ⟨_, rfl⟩
  have HM := Lib.hid hm
  have hmc : m ≤ 9223372036854775807 := by have := hok.shp.le; have := hok.shp.cap; dsimp only at *; omega
  dsimp only at d0 d1 d2
  rw [hm] at d2
  have HSM := Lib.hid (show Vd.fewPa ⟨slave, line, sets, PA, pc⟩ = (decide (m ≤ 70 ∧ slave.size ≤ 40) && sets.all Vd.fewSt) by unfold Vd.fewPa; dsimp only; rw [hm])
  clear hp hg hok hm
  by_cases c2 : 70 < m
  ·have g2 : decide ((70 : Int) < (m : Int)) = true := decide_eq_true (by omega)
   obtain rfl : false = rv := by rw [← RV.out, allL_no HP.out (by rw [HSM.out, decide_eq_false (by omega)]; rfl)]
   clear RV c2
   go_wp2
   go_ret
   exact ⟨rfl, belo⟩
  have g2 : decide ((70 : Int) < (m : Int)) = false := decide_eq_false (by omega)
  by_cases c3 : 40 < slave.size
  ·have g3 : decide ((40 : Int) < (slave.size : Int)) = true := decide_eq_true (by omega)
   obtain rfl : false = rv := by rw [← RV.out, allL_no HP.out (by rw [HSM.out, decide_eq_false (by omega)]; rfl)]
   clear RV c2 c3
   go_wp2
   go_ret
   exact ⟨rfl, belo⟩
  have g3 : decide ((40 : Int) < (slave.size : Int)) = false := decide_eq_false (by omega)
  rw [decide_eq_true (show m ≤ 70 ∧ slave.size ≤ 40 by omega), Bool.true_and] at HSM
  clear c2 c3
  go_wp2
  go_loopw [37] (fun x wv => ∃ k : Nat, k ≤ m ∧ Hid ((sets.take k).all Vd.fewSt = true) ∧ x = .int .i64 (k : Int) ∧ Below wr.heap.size wr wv) (fun i _ => m - (RowKit.intOf i).toNat)
  case atStart => exact ⟨0, by omega, Lib.hid rfl, rfl, belo⟩
  case round =>
   rename World => wv
   obtain ⟨k, hk, HB, rfl, hbi⟩ := hrel
   have hbw : Below w.heap.size w wv := hbe.trans (hbi.mono hbe.size)
   by_cases hlk : k < m
   rotate_left
   ·obtain rfl : k = m := by omega
    have HA2 : Hid ((l.take (j + 1)).all Vd.fewPa = true) := Lib.hid (allL_step HA.out HP.out (by rw [HSM.out, allL_end HM.out HB.out]))
    clear hlk hk hbi d0 d1 d2
    go_wp2
    go_roundw
    case rel => exact ⟨j + 1, by omega, HA2, by go_num, by first | assumption | trivial⟩
    case measure => simp [RowKit.intOf]; omega
   have hlkI : (k : Int) < (m : Int) := by omega
   obtain ⟨g3', o3, s, hA3, hg3, hs3, e0, e1, e2, e3, e4⟩ := St.at_ (HOK.out.to hbi).rc (k := k) (by rw [HM.out]; exact hlk)
   have hgl3 : g3' < wv.heap.size := hg3
   dsimp only at hA3
   subst hA3
   obtain ⟨sp, ⟨vn, vd⟩, su, sl⟩ := s
   have HP3 := Lib.hid hs3
   dsimp only at e0 e1 e2 e3 e4
   clear hs3 hg3 d0 d1 d2
   by_cases c4 : 40 < sp.size
   ·have g4 : decide ((40 : Int) < (sp.size : Int)) = true := decide_eq_true (by omega)
    obtain rfl : false = rv := by rw [← RV.out, allL_no HP.out (by rw [HSM.out, allL_no HP3.out (by unfold Vd.fewSt; exact decide_eq_false (by dsimp only; omega))])]
    clear RV c4
    go_wp2
    go_ret
    exact ⟨rfl, belo⟩
   have g4 : decide ((40 : Int) < (sp.size : Int)) = false := decide_eq_false (by omega)
   by_cases c5 : 40 < su.size
   ·have g5 : decide ((40 : Int) < (su.size : Int)) = true := decide_eq_true (by omega)
    obtain rfl : false = rv := by rw [← RV.out, allL_no HP.out (by rw [HSM.out, allL_no HP3.out (by unfold Vd.fewSt; exact decide_eq_false (by dsimp only; omega))])]
    clear RV c4 c5
    go_wp2
    go_ret
    exact ⟨rfl, belo⟩
   have g5 : decide ((40 : Int) < (su.size : Int)) = false := decide_eq_false (by omega)
   have HB2 : Hid ((sets.take (k + 1)).all Vd.fewSt = true) := Lib.hid (allL_step HB.out HP3.out (by unfold Vd.fewSt; exact decide_eq_true (by dsimp only; omega)))
   clear c4 c5
   go_wp2
   go_roundw
   case rel => exact ⟨k + 1, by omega, HB2, by go_num, belo⟩
   case measure => simp [RowKit.intOf]; omega
end Go.Proofs.Ythhokpaidekmnaa
