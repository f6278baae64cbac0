/- Layer 15: valid.Right. -/
import Derived.Test.YthhokpaidekmnaaVdDev
namespace Go.Proofs.Ythhokpaidekmnaa
open Go.RowKit
set_option linter.unusedVariables false
set_option linter.unusedSimpArgs false
set_option maxRecDepth 100000
attribute [local go_sem] Later.cell Later.frozen setCell_twice
set_option maxHeartbeats 4000000 in
theorem tabright_any (A : Option Addr) (l : List Dv) (n c : Nat) (w : World) (hn : l.length = n) (h : Tab w w.heap.size A l) (hs : Shp A n c) :
  Calls Try.prog 11 #[.slice A n c] w fun e w' => e = .returned (.bool (Vd.rightTab l)) ∧ Below w.heap.size w w' := by
 have HN := Lib.hid hn
 have HH := Lib.hid h
 have hcap : n ≤ 9223372036854775807 := Nat.le_trans hs.le hs.cap
 obtain ⟨rv, hrv⟩ : ∃ rv, Vd.rightTab l = rv := ⟨_, rfl⟩
 rw [hrv]
 unfold Vd.rightTab at hrv
 rw [hn] at hrv
 have RV := Lib.hid hrv
 clear hn h hs hrv
 by_cases c0 : n < 1
 ·have g1 : decide ((n : Int) < 1) = true := decide_eq_true (by omega)
  obtain rfl : false = rv := by rw [← RV.out, decide_eq_false (by omega)]; rfl
  clear RV c0
  go_enter Try.func11, Try.ntmps11
  go_wp2
  go_ret
  exact ⟨rfl, belo⟩
 have g0 : decide ((n : Int) < 1) = false := decide_eq_false (by omega)
 by_cases c1 : 8 < n
 ·have g1 : decide ((8 : Int) < (n : Int)) = true := decide_eq_true (by omega)
  obtain rfl : false = rv := by rw [← RV.out, decide_eq_false (by omega)]; rfl
  clear RV c1 c0
  go_enter Try.func11, Try.ntmps11
  go_wp2
  go_ret
  exact ⟨rfl, belo⟩
 have g1 : decide ((8 : Int) < (n : Int)) = false := decide_eq_false (by omega)
 rw [decide_eq_true (show 1 ≤ n ∧ n ≤ 8 by omega), Bool.true_and] at RV
 clear c0
 go_enter Try.func11, Try.ntmps11
 go_wp2_with fail
 (with_reducible refine (fresh_s _).mono ?_)
 rintro e_ w_ ⟨ga, gb, rfl, M1, hga, hgb, hb2⟩
 have MS := Lib.hid M1
 obtain ⟨x2, rfl⟩ := later_is hb2
 have hz_x2 := x2.bel.size
 have o1 : w.heap.size ≤ ga := by omega
 have o2 : w.heap.size ≤ gb := by omega
 have bx2 : Below w.heap.size w x2.val := belo
 clear M1 hb2 hga hgb
 go_wp2
 go_loopw [17] (fun x wr => ∃ j : Nat, j ≤ n ∧ Hid ((l.take j).all (fun d => Vd.rightDv d.name d.pts) = true ∧ ((l.take j).map Dv.name).Nodup) ∧ x = .int .i64 (j : Int) ∧ Hid (MetV skf wr ga gb ((l.take j).map Dv.name)) ∧ Below w.heap.size w wr) (fun i _ => n - (RowKit.intOf i).toNat)
 case atStart => exact ⟨0, by omega, Lib.hid ⟨rfl, List.nodup_nil⟩, rfl, MS, bx2⟩
 case round =>
  clear MS bx2
  rename World => wr
  obtain ⟨j, hj, HA, rfl, MS, hbe⟩ := hrel
  by_cases hlt : j < n
  rotate_left
  ·obtain rfl : j = n := by omega
   obtain rfl : true = rv := by
    have h3 := HA.out
    rw [← HN.out, List.take_length] at h3
    rw [← RV.out, h3.1, decide_eq_true h3.2]
    rfl
   clear hlt hj
   go_wp2
   go_ret
   exact ⟨rfl, hbe⟩
  have hltI : (j : Int) < (n : Int) := by omega
  obtain ⟨g1, o1', d, rfl, hg, hd, hok, d0, d1⟩ := (HH.out.to hbe).at_ (k := j) (by rw [HN.out]; exact hlt)
  have hgl : g1 < wr.heap.size := hg
  have kw1 := MS.out.lt
  have kw2 := MS.out.m.lt
  obtain ⟨dn, pts, PA, pc⟩ := d
  obtain ⟨m, hm⟩ : ∃ m, pts.length = m := ⟨_, rfl⟩
  have hsh := hok.shp
  dsimp only at hsh
  rw [hm] at hsh
  have RD := Lib.hid (fun (x : World) (hx : Below wr.heap.size wr x) => rightDv_any dn PA pts m pc x hm (hok.to hx).rc hok.fit hsh)
  have HP := Lib.hid hd
  dsimp only at d0 d1
  rw [hm] at d1
  clear hd hg hok hsh hm
  cases q2 : Vd.rightDv dn pts
  ·obtain rfl : false = rv := by rw [← RV.out, allL_no HP.out q2]; rfl
   rw [q2] at RD
   clear RV q2
   go_wp2_with fail
   with_reducible refine (RD.out _ belo).mono ?_
   rintro e_x4 w_x4 ⟨rfl, hb_x4⟩
   obtain ⟨x4, rfl⟩ := later_is hb_x4
   clear hb_x4
   have hz_x4 := x4.bel.size
   try simp at hz_x4
   go_wp2
   go_ret
   exact ⟨rfl, belo⟩
  rw [q2] at RD
  have HQ := Lib.hid q2
  clear q2
  go_wp2_with fail
  with_reducible refine (RD.out _ belo).mono ?_
  rintro e_x4 w_x4 ⟨rfl, hb_x4⟩
  obtain ⟨x4, rfl⟩ := later_is hb_x4
  clear hb_x4
  have hz_x4 := x4.bel.size
  try simp at hz_x4
  have l_x4_0 : wr.heap.size < x4.val.heap.size := by omega
  have m_x4_0 : wr.heap.size < x4.val.heap.size + 1 := by omega
  have q_ := x4.cq (wr.heap.size) 0
  generalize c_x4_0_0 : x4.val.cell? ⟨wr.heap.size, 0, none⟩ = q at q_
  first | (have q2_ : q = some _ := q_; subst q2_) | (simp [go_sem] at q_; have q2_ : q = some _ := q_; subst q2_) | (simp [go_sem, *] at q_; have q2_ : q = some _ := q_; subst q2_)
  have q_ := x4.zq (wr.heap.size) 0
  generalize z_x4_0_0 : x4.val.frozen? ⟨wr.heap.size, 0, none⟩ = q at q_
  first | (have q2_ : q = false := q_; subst q2_) | (simp [go_sem] at q_; have q2_ : q = false := q_; subst q2_) | (simp [go_sem, *] at q_; have q2_ : q = false := q_; subst q2_)
  have q_ := x4.cq (wr.heap.size) 1
  generalize c_x4_0_1 : x4.val.cell? ⟨wr.heap.size, 1, none⟩ = q at q_
  first | (have q2_ : q = some _ := q_; subst q2_) | (simp [go_sem] at q_; have q2_ : q = some _ := q_; subst q2_) | (simp [go_sem, *] at q_; have q2_ : q = some _ := q_; subst q2_)
  have q_ := x4.zq (wr.heap.size) 1
  generalize z_x4_0_1 : x4.val.frozen? ⟨wr.heap.size, 1, none⟩ = q at q_
  first | (have q2_ : q = false := q_; subst q2_) | (simp [go_sem] at q_; have q2_ : q = false := q_; subst q2_) | (simp [go_sem, *] at q_; have q2_ : q = false := q_; subst q2_)
  have hb4 : Below wr.heap.size wr x4.val := belo
  replace MS := Lib.hid (MS.out.to hb4)
  have hbx4 : Below w.heap.size w x4.val := belo
  have hs4 := hbx4.size
  by_cases hm : dn ∈ (l.take j).map Dv.name
  ·obtain rfl : false = rv := by rw [← RV.out, decide_eq_false (fun h => nodup_no HP.out hm h), Bool.and_false]
   have AS := Lib.hid (ask_s dn _ ga gb _ false ⟨fun h => (Bool.false_ne_true h).elim, fun h => absurd hm h⟩ MS.out)
   clear RV hm
   go_wp2_with fail
   (with_reducible refine AS.out.mono ?_)
   rintro e_ w5 ⟨rfl, _, f5⟩
   have hb5 : Below w.heap.size w w5 := hbx4.trans (f5.below o2 hs4)
   go_wp2
   go_ret
   exact ⟨rfl, hb5⟩
  have AS := Lib.hid (ask_s dn _ ga gb _ true ⟨fun _ => hm, fun _ => rfl⟩ MS.out)
  go_wp2_with fail
  (with_reducible refine AS.out.mono ?_)
  rintro e_ w5 ⟨rfl, m5, f5⟩
  have hb5 : Below w.heap.size w w5 := hbx4.trans (f5.below o2 hs4)
  have MS5 := Lib.hid (m5.congr (map_take_mem (f := Dv.name) HP.out))
  have HA2 := Lib.hid (show (l.take (j + 1)).all (fun d => Vd.rightDv d.name d.pts) = true ∧ ((l.take (j + 1)).map Dv.name).Nodup from ⟨allL_step HA.out.1 HP.out HQ.out, nodup_step HA.out.2 HP.out hm⟩)
  clear m5 hm
  go_wp2
  go_roundw
  case rel => exact ⟨j + 1, by omega, HA2, by go_num, MS5, hb5⟩
  case measure => simp [RowKit.intOf]; omega
end Go.Proofs.Ythhokpaidekmnaa
