/- Layer 15, the document's answer: Find, Point, Word. -/
import Derived.Test.YthhokpaidekmnaaVdFind
import Derived.Test.YthhokpaidekmnaaVrTo
namespace Go.Proofs.Ythhokpaidekmnaa
open Go.RowKit
set_option linter.unusedVariables false
set_option linter.unusedSimpArgs false
set_option maxRecDepth 100000
attribute [local go_sem] Later.cell Later.frozen setCell_twice
/-- a place, or -1 -/
def atI : Option Nat → Value
 | some j => .int .i64 (j : Int)
 | none => .int .i64 (-1)
set_option maxHeartbeats 1000000 in
theorem rfind_any (s : ByteArray) (A : Option Addr) (l : List Dv) (n c : Nat) (w : World) (hn : l.length = n) (h : Tab w w.heap.size A l) (hs : Shp A n c) :
  Calls Try.prog 15 #[.slice A n c, .string s] w fun e w' => e = .returned (atI (firstAt Dv.name s l)) ∧ Below w.heap.size w w' := by
 have HN := Lib.hid hn
 have HH := Lib.hid h
 have hcap : n ≤ 9223372036854775807 := Nat.le_trans hs.le hs.cap
 obtain ⟨rv, hrv⟩ : ∃ rv, firstAt Dv.name s l = rv := ⟨_, rfl⟩
 rw [hrv]
 have RV := Lib.hid hrv
 clear hn h hs hrv
 go_enter Try.func15, Try.ntmps15
 go_wp2
 go_loopw [5] (fun x wr => ∃ j : Nat, j ≤ n ∧ Hid (∀ b ∈ l.take j, b.name ≠ s) ∧ x = .int .i64 (j : Int) ∧ Below w.heap.size w wr) (fun i _ => n - (RowKit.intOf i).toNat)
 case atStart => exact ⟨0, by omega, Lib.hid (by simp), rfl, belo⟩
 case round =>
  rename World => wr
  obtain ⟨j, hj, HA, rfl, hbe⟩ := hrel
  by_cases hlt : j < n
  rotate_left
  ·obtain rfl : j = n := by omega
   obtain rfl : none = rv := by
    rw [← RV.out, firstAt_none]
    have := HA.out
    rwa [← HN.out, List.take_length] at this
   clear hlt hj
   go_wp2
   go_ret
   exact ⟨rfl, belo⟩
  have hltI : (j : Int) < (n : Int) := by omega
  obtain ⟨g1, o1, d, rfl, hg, hd, hok, c0, c1⟩ := (HH.out.to hbe).at_ (k := j) (by rw [HN.out]; exact hlt)
  have hgl : g1 < wr.heap.size := hg
  obtain ⟨dn, pts, PA, pc⟩ := d
  have HD := Lib.hid hd
  dsimp only at c0 c1
  obtain ⟨m, hm⟩ : ∃ m, pts.length = m := ⟨_, rfl⟩
  rw [hm] at c1
  clear hd hok hg hm
  by_cases he : dn = s
  ·have e1 : (dn.toList == s.toList) = true := str_eq he
   obtain rfl : some j = rv := by rw [← RV.out, firstAt_some HD.out he HA.out]
   clear he RV
   go_wp2
   go_ret
   exact ⟨rfl, belo⟩
  ·have e1 : (dn.toList == s.toList) = false := str_ne he
   have HA2 := Lib.hid (take_not HA.out HD.out he)
   clear he
   go_wp2
   go_roundw
   case rel => exact ⟨j + 1, by omega, HA2, by go_num, belo⟩
   case measure => simp [RowKit.intOf]; omega
set_option maxHeartbeats 2000000 in
theorem rpoint_any (s nm : ByteArray) (A : Option Addr) (l : List Pt) (n c : Nat) (w : World) (hn : l.length = n) (h : Recs ptF 9 w w.heap.size A l) (hs : Shp A n c) :
  Calls Try.prog 34 #[.agg #[.string nm, .slice A n c], .string s] w fun e w' => e = .returned (atI (firstAt Pt.name s l)) ∧ Below w.heap.size w w' := by
 have HN := Lib.hid hn
 have HH := Lib.hid h
 have hcap : n ≤ 9223372036854775807 := Nat.le_trans hs.le hs.cap
 obtain ⟨rv, hrv⟩ : ∃ rv, firstAt Pt.name s l = rv := ⟨_, rfl⟩
 rw [hrv]
 have RV := Lib.hid hrv
 clear hn h hs hrv
 go_enter Try.func34, Try.ntmps34
 go_upto_region 1 with fail
 obtain ⟨w0, hw0⟩ : ∃ w_q_, w_q_ = w.alloc (.cells #[.string nm, .slice A n c] 39) := ⟨_, rfl⟩
 rw [← hw0]
 have hb0 : Below w.heap.size w w0 := by rw [hw0]; exact bel_alloc (Below.refl _ _) _
 have hz0 : w0.heap.size = w.heap.size + 1 := by rw [hw0]; simp
 have c0 : w0.cell? ⟨w.heap.size, 0, none⟩ = some (.string nm) := by rw [hw0]; simp [go_sem]
 have c1 : w0.cell? ⟨w.heap.size, 1, none⟩ = some (.slice A n c) := by rw [hw0]; simp [go_sem]
 have z0 : w0.frozen? ⟨w.heap.size, 0, none⟩ = false := by rw [hw0]; simp [go_sem]
 have z1 : w0.frozen? ⟨w.heap.size, 1, none⟩ = false := by rw [hw0]; simp [go_sem]
 have hz0' : w.heap.size + 1 ≤ w0.heap.size := by omega
 clear hw0 hz0
 go_wp2
 go_loopw [5] (fun x wr => ∃ j : Nat, j ≤ n ∧ Hid (∀ b ∈ l.take j, b.name ≠ s) ∧ x = .int .i64 (j : Int) ∧ Below (w.heap.size + 1) w0 wr) (fun i _ => n - (RowKit.intOf i).toNat)
 case atStart => exact ⟨0, by omega, Lib.hid (by simp), rfl, Below.refl _ _⟩
 case round =>
  rename World => wr0
  obtain ⟨j, hj, HA, rfl, hbr⟩ := hrel
  obtain ⟨xr, hxr⟩ := later_is hbr
  have hz_xr := xr.bel.size
  obtain rfl := hxr
  have hz_xr := xr.bel.size
  try simp at hz_xr
  have l_xr_0 : w.heap.size < xr.val.heap.size := by omega
  have m_xr_0 : w.heap.size < xr.val.heap.size + 1 := by omega
  have q_ := xr.cq (w.heap.size) 0
  generalize c_xr_0_0 : xr.val.cell? ⟨w.heap.size, 0, none⟩ = q at q_
  first | (have q2_ : q = some _ := q_; subst q2_) | (simp [go_sem] at q_; have q2_ : q = some _ := q_; subst q2_) | (simp [go_sem, *] at q_; have q2_ : q = some _ := q_; subst q2_)
  have q_ := xr.zq (w.heap.size) 0
  generalize z_xr_0_0 : xr.val.frozen? ⟨w.heap.size, 0, none⟩ = q at q_
  first | (have q2_ : q = false := q_; subst q2_) | (simp [go_sem] at q_; have q2_ : q = false := q_; subst q2_) | (simp [go_sem, *] at q_; have q2_ : q = false := q_; subst q2_)
  have q_ := xr.cq (w.heap.size) 1
  generalize c_xr_0_1 : xr.val.cell? ⟨w.heap.size, 1, none⟩ = q at q_
  first | (have q2_ : q = some _ := q_; subst q2_) | (simp [go_sem] at q_; have q2_ : q = some _ := q_; subst q2_) | (simp [go_sem, *] at q_; have q2_ : q = some _ := q_; subst q2_)
  have q_ := xr.zq (w.heap.size) 1
  generalize z_xr_0_1 : xr.val.frozen? ⟨w.heap.size, 1, none⟩ = q at q_
  first | (have q2_ : q = false := q_; subst q2_) | (simp [go_sem] at q_; have q2_ : q = false := q_; subst q2_) | (simp [go_sem, *] at q_; have q2_ : q = false := q_; subst q2_)
  have hbe : Below w.heap.size w xr.val := hb0.trans (hbr.mono (by omega))
  by_cases hlt : j < n
  rotate_left
  ·obtain rfl : j = n := by omega
   obtain rfl : none = rv := by
    rw [← RV.out, firstAt_none]
    have := HA.out
    rwa [← HN.out, List.take_length] at this
   clear hlt hj
   go_wp2
   go_ret
   exact ⟨rfl, belo⟩
  have hltI : (j : Int) < (n : Int) := by omega
  obtain ⟨g1, o1, p, rfl, hg, hp, d0, d1, d2, d3, d4, d5, d6, d7, d8⟩ := Pt.at_cells ((HH.out.below hbe).more hbe.size) (k := j) (by rw [HN.out]; exact hlt)
  have hgl : g1 < xr.val.heap.size := hg
  obtain ⟨pn, at_, dg, sg, ⟨ln, ld⟩, ⟨hn, hd⟩, un⟩ := p
  have HP := Lib.hid hp
  dsimp only at d0
  clear hp hg d1 d2 d3 d4 d5 d6 d7 d8
  by_cases he : pn = s
  ·have e1 : (pn.toList == s.toList) = true := str_eq he
   obtain rfl : some j = rv := by rw [← RV.out, firstAt_some HP.out he HA.out]
   clear he RV
   go_wp2
   go_ret
   exact ⟨rfl, belo⟩
  ·have e1 : (pn.toList == s.toList) = false := str_ne he
   have HA2 := Lib.hid (take_not HA.out HP.out he)
   clear he
   go_wp2
   go_roundw
   case rel => exact ⟨j + 1, by omega, HA2, by go_num, by first | assumption | exact hbr.drew | exact hbr⟩
   case measure => simp [RowKit.intOf]; omega
end Go.Proofs.Ythhokpaidekmnaa
