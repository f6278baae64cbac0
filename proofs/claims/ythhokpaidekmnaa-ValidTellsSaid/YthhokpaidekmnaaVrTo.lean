/- Layer 15, the document's answer: To, Word (layer 12). -/
import Derived.Test.YthhokpaidekmnaaVrTm
import Derived.Test.YthhokpaidekmnaaVrKn
namespace Go.Proofs.Ythhokpaidekmnaa
open Go.RowKit
set_option linter.unusedVariables false
set_option linter.unusedSimpArgs false
set_option maxRecDepth 100000
attribute [local go_sem] Later.cell Later.frozen setCell_twice
set_option maxHeartbeats 2000000 in
theorem rto_walk (n : Int) (d : Nat) (a b : ByteArray) (w : World) (h1 : Dc.Fit ⟨n, d⟩) (ba : ByteArray) (na da : Nat) (oka : Bool) (bb : ByteArray) (nb db : Nat) (okb : Bool) (ha : unF a oka ba na da) (hb : unF b okb bb nb db)
  (num den : Nat) (hnum : na * db = num) (hden : da * nb = den) (hm : num < 9223372036854775808) (hd : den < 9223372036854775808) (rv : Value)
  (hrv : decV (if (oka && okb && decide (ba = bb)) = true then Vd.times ⟨n, d⟩ num den else none) = rv) :
  Calls Try.prog 36 #[dcV n d, .string a, .string b] w fun e w' => e = .returned rv ∧ Below w.heap.size w w' := by
 have KA := Lib.hid (fun w => rknown_any a w)
 have KB := Lib.hid (fun w => rknown_any b w)
 unfold unV2 at KA KB
 rw [ha.1, ha.2] at KA
 rw [hb.1, hb.2] at KB
 have TM := Lib.hid (fun w => rtimes_any n d num den w h1 hm hd)
 have RV := Lib.hid hrv
 have m1 : (na : Int) * (db : Int) = (num : Int) := by rw [← hnum]; simp
 have m2 : (da : Int) * (nb : Int) = (den : Int) := by rw [← hden]; simp
 have m3 : IntKind.i64.wrap (num : Int) = (num : Int) := IntWalk.i64_in _ (by omega)
 have m4 : IntKind.i64.wrap (den : Int) = (den : Int) := IntWalk.i64_in _ (by omega)
 clear ha hb hrv hnum hden h1
 unfold dcV
 cases oka
 ·obtain rfl : decV none = rv := RV.out
  go_enter Try.func36, Try.ntmps36
  go_wp2_with fail
  with_reducible refine (KA.out _).mono ?_
  rintro e_x1 w_x1 ⟨rfl, hb_x1⟩
  obtain ⟨x1, rfl⟩ := later_is hb_x1
  clear hb_x1
  have hz_x1 := x1.bel.size
  try simp at hz_x1
  have l_x1_0 : w.heap.size < x1.val.heap.size := by omega
  have m_x1_0 : w.heap.size < x1.val.heap.size + 1 := by omega
  have q_ := x1.cq (w.heap.size) 0
  generalize c_x1_0_0 : x1.val.cell? ⟨w.heap.size, 0, none⟩ = q at q_
  first | (have q2_ : q = some _ := q_; subst q2_) | (simp [go_sem] at q_; have q2_ : q = some _ := q_; subst q2_) | (simp [go_sem, *] at q_; have q2_ : q = some _ := q_; subst q2_)
  have q_ := x1.zq (w.heap.size) 0
  generalize z_x1_0_0 : x1.val.frozen? ⟨w.heap.size, 0, none⟩ = q at q_
  first | (have q2_ : q = false := q_; subst q2_) | (simp [go_sem] at q_; have q2_ : q = false := q_; subst q2_) | (simp [go_sem, *] at q_; have q2_ : q = false := q_; subst q2_)
  have q_ := x1.cq (w.heap.size) 1
  generalize c_x1_0_1 : x1.val.cell? ⟨w.heap.size, 1, none⟩ = q at q_
  first | (have q2_ : q = some _ := q_; subst q2_) | (simp [go_sem] at q_; have q2_ : q = some _ := q_; subst q2_) | (simp [go_sem, *] at q_; have q2_ : q = some _ := q_; subst q2_)
  have q_ := x1.zq (w.heap.size) 1
  generalize z_x1_0_1 : x1.val.frozen? ⟨w.heap.size, 1, none⟩ = q at q_
  first | (have q2_ : q = false := q_; subst q2_) | (simp [go_sem] at q_; have q2_ : q = false := q_; subst q2_) | (simp [go_sem, *] at q_; have q2_ : q = false := q_; subst q2_)
  have l_x1_1 : (w.heap.size+1) < x1.val.heap.size := by omega
  have m_x1_1 : (w.heap.size+1) < x1.val.heap.size + 1 := by omega
  have q_ := x1.cq ((w.heap.size+1)) 0
  generalize c_x1_1_0 : x1.val.cell? ⟨(w.heap.size+1), 0, none⟩ = q at q_
  first | (have q2_ : q = some _ := q_; subst q2_) | (simp [go_sem] at q_; have q2_ : q = some _ := q_; subst q2_) | (simp [go_sem, *] at q_; have q2_ : q = some _ := q_; subst q2_)
  have q_ := x1.zq ((w.heap.size+1)) 0
  generalize z_x1_1_0 : x1.val.frozen? ⟨(w.heap.size+1), 0, none⟩ = q at q_
  first | (have q2_ : q = false := q_; subst q2_) | (simp [go_sem] at q_; have q2_ : q = false := q_; subst q2_) | (simp [go_sem, *] at q_; have q2_ : q = false := q_; subst q2_)
  have q_ := x1.cq ((w.heap.size+1)) 1
  generalize c_x1_1_1 : x1.val.cell? ⟨(w.heap.size+1), 1, none⟩ = q at q_
  first | (have q2_ : q = some _ := q_; subst q2_) | (simp [go_sem] at q_; have q2_ : q = some _ := q_; subst q2_) | (simp [go_sem, *] at q_; have q2_ : q = some _ := q_; subst q2_)
  have q_ := x1.zq ((w.heap.size+1)) 1
  generalize z_x1_1_1 : x1.val.frozen? ⟨(w.heap.size+1), 1, none⟩ = q at q_
  first | (have q2_ : q = false := q_; subst q2_) | (simp [go_sem] at q_; have q2_ : q = false := q_; subst q2_) | (simp [go_sem, *] at q_; have q2_ : q = false := q_; subst q2_)
  go_wp2_with fail
  with_reducible refine (KB.out _).mono ?_
  rintro e_x2 w_x2 ⟨rfl, hb_x2⟩
  obtain ⟨x2, rfl⟩ := later_is hb_x2
  clear hb_x2
  have hz_x2 := x2.bel.size
  try simp at hz_x2
  replace c_x1_0_0 := x2.carry c_x1_0_0
  replace c_x1_0_1 := x2.carry c_x1_0_1
  replace c_x1_1_0 := x2.carry c_x1_1_0
  replace c_x1_1_1 := x2.carry c_x1_1_1
  have lc_x2_0 : w.heap.size < x2.val.heap.size := by omega
  have mc_x2_0 : w.heap.size < x2.val.heap.size + 1 := by omega
  have lc_x2_1 : (w.heap.size+1) < x2.val.heap.size := by omega
  have mc_x2_1 : (w.heap.size+1) < x2.val.heap.size + 1 := by omega
  have l_x2_0 : x1.val.heap.size < x2.val.heap.size := by omega
  have m_x2_0 : x1.val.heap.size < x2.val.heap.size + 1 := by omega
  have q_ := x2.cq (x1.val.heap.size) 0
  generalize c_x2_0_0 : x2.val.cell? ⟨x1.val.heap.size, 0, none⟩ = q at q_
  first | (have q2_ : q = some _ := q_; subst q2_) | (simp [go_sem] at q_; have q2_ : q = some _ := q_; subst q2_) | (simp [go_sem, *] at q_; have q2_ : q = some _ := q_; subst q2_)
  have q_ := x2.zq (x1.val.heap.size) 0
  generalize z_x2_0_0 : x2.val.frozen? ⟨x1.val.heap.size, 0, none⟩ = q at q_
  first | (have q2_ : q = false := q_; subst q2_) | (simp [go_sem] at q_; have q2_ : q = false := q_; subst q2_) | (simp [go_sem, *] at q_; have q2_ : q = false := q_; subst q2_)
  have q_ := x2.cq (x1.val.heap.size) 1
  generalize c_x2_0_1 : x2.val.cell? ⟨x1.val.heap.size, 1, none⟩ = q at q_
  first | (have q2_ : q = some _ := q_; subst q2_) | (simp [go_sem] at q_; have q2_ : q = some _ := q_; subst q2_) | (simp [go_sem, *] at q_; have q2_ : q = some _ := q_; subst q2_)
  have q_ := x2.zq (x1.val.heap.size) 1
  generalize z_x2_0_1 : x2.val.frozen? ⟨x1.val.heap.size, 1, none⟩ = q at q_
  first | (have q2_ : q = false := q_; subst q2_) | (simp [go_sem] at q_; have q2_ : q = false := q_; subst q2_) | (simp [go_sem, *] at q_; have q2_ : q = false := q_; subst q2_)
  have q_ := x2.cq (x1.val.heap.size) 2
  generalize c_x2_0_2 : x2.val.cell? ⟨x1.val.heap.size, 2, none⟩ = q at q_
  first | (have q2_ : q = some _ := q_; subst q2_) | (simp [go_sem] at q_; have q2_ : q = some _ := q_; subst q2_) | (simp [go_sem, *] at q_; have q2_ : q = some _ := q_; subst q2_)
  have q_ := x2.zq (x1.val.heap.size) 2
  generalize z_x2_0_2 : x2.val.frozen? ⟨x1.val.heap.size, 2, none⟩ = q at q_
  first | (have q2_ : q = false := q_; subst q2_) | (simp [go_sem] at q_; have q2_ : q = false := q_; subst q2_) | (simp [go_sem, *] at q_; have q2_ : q = false := q_; subst q2_)
  go_wp2
  refine bodyPost_ret (v := .tuple #[dcV 0 0, .bool false]) (by simp [results, Try.results36, go_sem, *]) rfl ⟨rfl, belo⟩
 cases okb
 ·obtain rfl : decV none = rv := RV.out
  go_enter Try.func36, Try.ntmps36
  go_wp2_with fail
  with_reducible refine (KA.out _).mono ?_
  rintro e_x1 w_x1 ⟨rfl, hb_x1⟩
  obtain ⟨x1, rfl⟩ := later_is hb_x1
  clear hb_x1
  have hz_x1 := x1.bel.size
  try simp at hz_x1
  have l_x1_0 : w.heap.size < x1.val.heap.size := by omega
  have m_x1_0 : w.heap.size < x1.val.heap.size + 1 := by omega
  have q_ := x1.cq (w.heap.size) 0
  generalize c_x1_0_0 : x1.val.cell? ⟨w.heap.size, 0, none⟩ = q at q_
  first | (have q2_ : q = some _ := q_; subst q2_) | (simp [go_sem] at q_; have q2_ : q = some _ := q_; subst q2_) | (simp [go_sem, *] at q_; have q2_ : q = some _ := q_; subst q2_)
  have q_ := x1.zq (w.heap.size) 0
  generalize z_x1_0_0 : x1.val.frozen? ⟨w.heap.size, 0, none⟩ = q at q_
  first | (have q2_ : q = false := q_; subst q2_) | (simp [go_sem] at q_; have q2_ : q = false := q_; subst q2_) | (simp [go_sem, *] at q_; have q2_ : q = false := q_; subst q2_)
  have q_ := x1.cq (w.heap.size) 1
  generalize c_x1_0_1 : x1.val.cell? ⟨w.heap.size, 1, none⟩ = q at q_
  first | (have q2_ : q = some _ := q_; subst q2_) | (simp [go_sem] at q_; have q2_ : q = some _ := q_; subst q2_) | (simp [go_sem, *] at q_; have q2_ : q = some _ := q_; subst q2_)
  have q_ := x1.zq (w.heap.size) 1
  generalize z_x1_0_1 : x1.val.frozen? ⟨w.heap.size, 1, none⟩ = q at q_
  first | (have q2_ : q = false := q_; subst q2_) | (simp [go_sem] at q_; have q2_ : q = false := q_; subst q2_) | (simp [go_sem, *] at q_; have q2_ : q = false := q_; subst q2_)
  have l_x1_1 : (w.heap.size+1) < x1.val.heap.size := by omega
  have m_x1_1 : (w.heap.size+1) < x1.val.heap.size + 1 := by omega
  have q_ := x1.cq ((w.heap.size+1)) 0
  generalize c_x1_1_0 : x1.val.cell? ⟨(w.heap.size+1), 0, none⟩ = q at q_
  first | (have q2_ : q = some _ := q_; subst q2_) | (simp [go_sem] at q_; have q2_ : q = some _ := q_; subst q2_) | (simp [go_sem, *] at q_; have q2_ : q = some _ := q_; subst q2_)
  have q_ := x1.zq ((w.heap.size+1)) 0
  generalize z_x1_1_0 : x1.val.frozen? ⟨(w.heap.size+1), 0, none⟩ = q at q_
  first | (have q2_ : q = false := q_; subst q2_) | (simp [go_sem] at q_; have q2_ : q = false := q_; subst q2_) | (simp [go_sem, *] at q_; have q2_ : q = false := q_; subst q2_)
  have q_ := x1.cq ((w.heap.size+1)) 1
  generalize c_x1_1_1 : x1.val.cell? ⟨(w.heap.size+1), 1, none⟩ = q at q_
  first | (have q2_ : q = some _ := q_; subst q2_) | (simp [go_sem] at q_; have q2_ : q = some _ := q_; subst q2_) | (simp [go_sem, *] at q_; have q2_ : q = some _ := q_; subst q2_)
  have q_ := x1.zq ((w.heap.size+1)) 1
  generalize z_x1_1_1 : x1.val.frozen? ⟨(w.heap.size+1), 1, none⟩ = q at q_
  first | (have q2_ : q = false := q_; subst q2_) | (simp [go_sem] at q_; have q2_ : q = false := q_; subst q2_) | (simp [go_sem, *] at q_; have q2_ : q = false := q_; subst q2_)
  go_wp2_with fail
  with_reducible refine (KB.out _).mono ?_
  rintro e_x2 w_x2 ⟨rfl, hb_x2⟩
  obtain ⟨x2, rfl⟩ := later_is hb_x2
  clear hb_x2
  have hz_x2 := x2.bel.size
  try simp at hz_x2
  replace c_x1_0_0 := x2.carry c_x1_0_0
  replace c_x1_0_1 := x2.carry c_x1_0_1
  replace c_x1_1_0 := x2.carry c_x1_1_0
  replace c_x1_1_1 := x2.carry c_x1_1_1
  have lc_x2_0 : w.heap.size < x2.val.heap.size := by omega
  have mc_x2_0 : w.heap.size < x2.val.heap.size + 1 := by omega
  have lc_x2_1 : (w.heap.size+1) < x2.val.heap.size := by omega
  have mc_x2_1 : (w.heap.size+1) < x2.val.heap.size + 1 := by omega
  have l_x2_0 : x1.val.heap.size < x2.val.heap.size := by omega
  have m_x2_0 : x1.val.heap.size < x2.val.heap.size + 1 := by omega
  have q_ := x2.cq (x1.val.heap.size) 0
  generalize c_x2_0_0 : x2.val.cell? ⟨x1.val.heap.size, 0, none⟩ = q at q_
  first | (have q2_ : q = some _ := q_; subst q2_) | (simp [go_sem] at q_; have q2_ : q = some _ := q_; subst q2_) | (simp [go_sem, *] at q_; have q2_ : q = some _ := q_; subst q2_)
  have q_ := x2.zq (x1.val.heap.size) 0
  generalize z_x2_0_0 : x2.val.frozen? ⟨x1.val.heap.size, 0, none⟩ = q at q_
  first | (have q2_ : q = false := q_; subst q2_) | (simp [go_sem] at q_; have q2_ : q = false := q_; subst q2_) | (simp [go_sem, *] at q_; have q2_ : q = false := q_; subst q2_)
  have q_ := x2.cq (x1.val.heap.size) 1
  generalize c_x2_0_1 : x2.val.cell? ⟨x1.val.heap.size, 1, none⟩ = q at q_
  first | (have q2_ : q = some _ := q_; subst q2_) | (simp [go_sem] at q_; have q2_ : q = some _ := q_; subst q2_) | (simp [go_sem, *] at q_; have q2_ : q = some _ := q_; subst q2_)
  have q_ := x2.zq (x1.val.heap.size) 1
  generalize z_x2_0_1 : x2.val.frozen? ⟨x1.val.heap.size, 1, none⟩ = q at q_
  first | (have q2_ : q = false := q_; subst q2_) | (simp [go_sem] at q_; have q2_ : q = false := q_; subst q2_) | (simp [go_sem, *] at q_; have q2_ : q = false := q_; subst q2_)
  have q_ := x2.cq (x1.val.heap.size) 2
  generalize c_x2_0_2 : x2.val.cell? ⟨x1.val.heap.size, 2, none⟩ = q at q_
  first | (have q2_ : q = some _ := q_; subst q2_) | (simp [go_sem] at q_; have q2_ : q = some _ := q_; subst q2_) | (simp [go_sem, *] at q_; have q2_ : q = some _ := q_; subst q2_)
  have q_ := x2.zq (x1.val.heap.size) 2
  generalize z_x2_0_2 : x2.val.frozen? ⟨x1.val.heap.size, 2, none⟩ = q at q_
  first | (have q2_ : q = false := q_; subst q2_) | (simp [go_sem] at q_; have q2_ : q = false := q_; subst q2_) | (simp [go_sem, *] at q_; have q2_ : q = false := q_; subst q2_)
  go_wp2
  refine bodyPost_ret (v := .tuple #[dcV 0 0, .bool false]) (by simp [results, Try.results36, go_sem, *]) rfl ⟨rfl, belo⟩
 by_cases c : ba = bb
 ·have e1 : decV (Vd.times ⟨n, d⟩ num den) = rv := by rw [← RV.out, if_pos (by simp [c])]
  have hS : (ba.toList == bb.toList) = true := str_eq c
  clear RV c
  cases hT : Vd.times ⟨n, d⟩ num den with
  | none =>
   rw [hT] at TM e1
   subst e1
   unfold decV at TM
   clear hT
   go_enter Try.func36, Try.ntmps36
   go_wp2_with fail
   with_reducible refine (KA.out _).mono ?_
   rintro e_x1 w_x1 ⟨rfl, hb_x1⟩
   obtain ⟨x1, rfl⟩ := later_is hb_x1
   clear hb_x1
   have hz_x1 := x1.bel.size
   try simp at hz_x1
   have l_x1_0 : w.heap.size < x1.val.heap.size := by omega
   have m_x1_0 : w.heap.size < x1.val.heap.size + 1 := by omega
   have q_ := x1.cq (w.heap.size) 0
   generalize c_x1_0_0 : x1.val.cell? ⟨w.heap.size, 0, none⟩ = q at q_
   first | (have q2_ : q = some _ := q_; subst q2_) | (simp [go_sem] at q_; have q2_ : q = some _ := q_; subst q2_) | (simp [go_sem, *] at q_; have q2_ : q = some _ := q_; subst q2_)
   have q_ := x1.zq (w.heap.size) 0
   generalize z_x1_0_0 : x1.val.frozen? ⟨w.heap.size, 0, none⟩ = q at q_
   first | (have q2_ : q = false := q_; subst q2_) | (simp [go_sem] at q_; have q2_ : q = false := q_; subst q2_) | (simp [go_sem, *] at q_; have q2_ : q = false := q_; subst q2_)
   have q_ := x1.cq (w.heap.size) 1
   generalize c_x1_0_1 : x1.val.cell? ⟨w.heap.size, 1, none⟩ = q at q_
   first | (have q2_ : q = some _ := q_; subst q2_) | (simp [go_sem] at q_; have q2_ : q = some _ := q_; subst q2_) | (simp [go_sem, *] at q_; have q2_ : q = some _ := q_; subst q2_)
   have q_ := x1.zq (w.heap.size) 1
   generalize z_x1_0_1 : x1.val.frozen? ⟨w.heap.size, 1, none⟩ = q at q_
   first | (have q2_ : q = false := q_; subst q2_) | (simp [go_sem] at q_; have q2_ : q = false := q_; subst q2_) | (simp [go_sem, *] at q_; have q2_ : q = false := q_; subst q2_)
   have l_x1_1 : (w.heap.size+1) < x1.val.heap.size := by omega
   have m_x1_1 : (w.heap.size+1) < x1.val.heap.size + 1 := by omega
   have q_ := x1.cq ((w.heap.size+1)) 0
   generalize c_x1_1_0 : x1.val.cell? ⟨(w.heap.size+1), 0, none⟩ = q at q_
   first | (have q2_ : q = some _ := q_; subst q2_) | (simp [go_sem] at q_; have q2_ : q = some _ := q_; subst q2_) | (simp [go_sem, *] at q_; have q2_ : q = some _ := q_; subst q2_)
   have q_ := x1.zq ((w.heap.size+1)) 0
   generalize z_x1_1_0 : x1.val.frozen? ⟨(w.heap.size+1), 0, none⟩ = q at q_
   first | (have q2_ : q = false := q_; subst q2_) | (simp [go_sem] at q_; have q2_ : q = false := q_; subst q2_) | (simp [go_sem, *] at q_; have q2_ : q = false := q_; subst q2_)
   have q_ := x1.cq ((w.heap.size+1)) 1
   generalize c_x1_1_1 : x1.val.cell? ⟨(w.heap.size+1), 1, none⟩ = q at q_
   first | (have q2_ : q = some _ := q_; subst q2_) | (simp [go_sem] at q_; have q2_ : q = some _ := q_; subst q2_) | (simp [go_sem, *] at q_; have q2_ : q = some _ := q_; subst q2_)
   have q_ := x1.zq ((w.heap.size+1)) 1
   generalize z_x1_1_1 : x1.val.frozen? ⟨(w.heap.size+1), 1, none⟩ = q at q_
   first | (have q2_ : q = false := q_; subst q2_) | (simp [go_sem] at q_; have q2_ : q = false := q_; subst q2_) | (simp [go_sem, *] at q_; have q2_ : q = false := q_; subst q2_)
   go_wp2_with fail
   with_reducible refine (KB.out _).mono ?_
   rintro e_x2 w_x2 ⟨rfl, hb_x2⟩
   obtain ⟨x2, rfl⟩ := later_is hb_x2
   clear hb_x2
   have hz_x2 := x2.bel.size
   try simp at hz_x2
   replace c_x1_0_0 := x2.carry c_x1_0_0
   replace c_x1_0_1 := x2.carry c_x1_0_1
   replace c_x1_1_0 := x2.carry c_x1_1_0
   replace c_x1_1_1 := x2.carry c_x1_1_1
   have lc_x2_0 : w.heap.size < x2.val.heap.size := by omega
   have mc_x2_0 : w.heap.size < x2.val.heap.size + 1 := by omega
   have lc_x2_1 : (w.heap.size+1) < x2.val.heap.size := by omega
   have mc_x2_1 : (w.heap.size+1) < x2.val.heap.size + 1 := by omega
   have l_x2_0 : x1.val.heap.size < x2.val.heap.size := by omega
   have m_x2_0 : x1.val.heap.size < x2.val.heap.size + 1 := by omega
   have q_ := x2.cq (x1.val.heap.size) 0
   generalize c_x2_0_0 : x2.val.cell? ⟨x1.val.heap.size, 0, none⟩ = q at q_
   first | (have q2_ : q = some _ := q_; subst q2_) | (simp [go_sem] at q_; have q2_ : q = some _ := q_; subst q2_) | (simp [go_sem, *] at q_; have q2_ : q = some _ := q_; subst q2_)
   have q_ := x2.zq (x1.val.heap.size) 0
   generalize z_x2_0_0 : x2.val.frozen? ⟨x1.val.heap.size, 0, none⟩ = q at q_
   first | (have q2_ : q = false := q_; subst q2_) | (simp [go_sem] at q_; have q2_ : q = false := q_; subst q2_) | (simp [go_sem, *] at q_; have q2_ : q = false := q_; subst q2_)
   have q_ := x2.cq (x1.val.heap.size) 1
   generalize c_x2_0_1 : x2.val.cell? ⟨x1.val.heap.size, 1, none⟩ = q at q_
   first | (have q2_ : q = some _ := q_; subst q2_) | (simp [go_sem] at q_; have q2_ : q = some _ := q_; subst q2_) | (simp [go_sem, *] at q_; have q2_ : q = some _ := q_; subst q2_)
   have q_ := x2.zq (x1.val.heap.size) 1
   generalize z_x2_0_1 : x2.val.frozen? ⟨x1.val.heap.size, 1, none⟩ = q at q_
   first | (have q2_ : q = false := q_; subst q2_) | (simp [go_sem] at q_; have q2_ : q = false := q_; subst q2_) | (simp [go_sem, *] at q_; have q2_ : q = false := q_; subst q2_)
   have q_ := x2.cq (x1.val.heap.size) 2
   generalize c_x2_0_2 : x2.val.cell? ⟨x1.val.heap.size, 2, none⟩ = q at q_
   first | (have q2_ : q = some _ := q_; subst q2_) | (simp [go_sem] at q_; have q2_ : q = some _ := q_; subst q2_) | (simp [go_sem, *] at q_; have q2_ : q = some _ := q_; subst q2_)
   have q_ := x2.zq (x1.val.heap.size) 2
   generalize z_x2_0_2 : x2.val.frozen? ⟨x1.val.heap.size, 2, none⟩ = q at q_
   first | (have q2_ : q = false := q_; subst q2_) | (simp [go_sem] at q_; have q2_ : q = false := q_; subst q2_) | (simp [go_sem, *] at q_; have q2_ : q = false := q_; subst q2_)
   go_wp2_with fail
   with_reducible refine (TM.out _).mono ?_
   rintro e_x3 w_x3 ⟨rfl, hb_x3⟩
   obtain ⟨x3, rfl⟩ := later_is hb_x3
   clear hb_x3
   have hz_x3 := x3.bel.size
   try simp at hz_x3
   replace c_x1_0_0 := x3.carry c_x1_0_0
   replace c_x1_0_1 := x3.carry c_x1_0_1
   replace c_x1_1_0 := x3.carry c_x1_1_0
   replace c_x1_1_1 := x3.carry c_x1_1_1
   replace c_x2_0_0 := x3.carry c_x2_0_0
   replace c_x2_0_1 := x3.carry c_x2_0_1
   replace c_x2_0_2 := x3.carry c_x2_0_2
   have lc_x3_0 : w.heap.size < x3.val.heap.size := by omega
   have mc_x3_0 : w.heap.size < x3.val.heap.size + 1 := by omega
   have lc_x3_1 : (w.heap.size+1) < x3.val.heap.size := by omega
   have mc_x3_1 : (w.heap.size+1) < x3.val.heap.size + 1 := by omega
   have lc_x3_2 : x1.val.heap.size < x3.val.heap.size := by omega
   have mc_x3_2 : x1.val.heap.size < x3.val.heap.size + 1 := by omega
   go_wp2
   refine bodyPost_ret (v := .tuple #[dcV 0 0, .bool false]) (by simp [results, Try.results36, go_sem, *]) rfl ⟨rfl, belo⟩
  | some r =>
   obtain ⟨n', d'⟩ := r
   rw [hT] at TM e1
   subst e1
   unfold decV at TM
   try dsimp only at TM
   clear hT
   go_enter Try.func36, Try.ntmps36
   go_wp2_with fail
   with_reducible refine (KA.out _).mono ?_
   rintro e_x1 w_x1 ⟨rfl, hb_x1⟩
   obtain ⟨x1, rfl⟩ := later_is hb_x1
   clear hb_x1
   have hz_x1 := x1.bel.size
   try simp at hz_x1
   have l_x1_0 : w.heap.size < x1.val.heap.size := by omega
   have m_x1_0 : w.heap.size < x1.val.heap.size + 1 := by omega
   have q_ := x1.cq (w.heap.size) 0
   generalize c_x1_0_0 : x1.val.cell? ⟨w.heap.size, 0, none⟩ = q at q_
   first | (have q2_ : q = some _ := q_; subst q2_) | (simp [go_sem] at q_; have q2_ : q = some _ := q_; subst q2_) | (simp [go_sem, *] at q_; have q2_ : q = some _ := q_; subst q2_)
   have q_ := x1.zq (w.heap.size) 0
   generalize z_x1_0_0 : x1.val.frozen? ⟨w.heap.size, 0, none⟩ = q at q_
   first | (have q2_ : q = false := q_; subst q2_) | (simp [go_sem] at q_; have q2_ : q = false := q_; subst q2_) | (simp [go_sem, *] at q_; have q2_ : q = false := q_; subst q2_)
   have q_ := x1.cq (w.heap.size) 1
   generalize c_x1_0_1 : x1.val.cell? ⟨w.heap.size, 1, none⟩ = q at q_
   first | (have q2_ : q = some _ := q_; subst q2_) | (simp [go_sem] at q_; have q2_ : q = some _ := q_; subst q2_) | (simp [go_sem, *] at q_; have q2_ : q = some _ := q_; subst q2_)
   have q_ := x1.zq (w.heap.size) 1
   generalize z_x1_0_1 : x1.val.frozen? ⟨w.heap.size, 1, none⟩ = q at q_
   first | (have q2_ : q = false := q_; subst q2_) | (simp [go_sem] at q_; have q2_ : q = false := q_; subst q2_) | (simp [go_sem, *] at q_; have q2_ : q = false := q_; subst q2_)
   have l_x1_1 : (w.heap.size+1) < x1.val.heap.size := by omega
   have m_x1_1 : (w.heap.size+1) < x1.val.heap.size + 1 := by omega
   have q_ := x1.cq ((w.heap.size+1)) 0
   generalize c_x1_1_0 : x1.val.cell? ⟨(w.heap.size+1), 0, none⟩ = q at q_
   first | (have q2_ : q = some _ := q_; subst q2_) | (simp [go_sem] at q_; have q2_ : q = some _ := q_; subst q2_) | (simp [go_sem, *] at q_; have q2_ : q = some _ := q_; subst q2_)
   have q_ := x1.zq ((w.heap.size+1)) 0
   generalize z_x1_1_0 : x1.val.frozen? ⟨(w.heap.size+1), 0, none⟩ = q at q_
   first | (have q2_ : q = false := q_; subst q2_) | (simp [go_sem] at q_; have q2_ : q = false := q_; subst q2_) | (simp [go_sem, *] at q_; have q2_ : q = false := q_; subst q2_)
   have q_ := x1.cq ((w.heap.size+1)) 1
   generalize c_x1_1_1 : x1.val.cell? ⟨(w.heap.size+1), 1, none⟩ = q at q_
   first | (have q2_ : q = some _ := q_; subst q2_) | (simp [go_sem] at q_; have q2_ : q = some _ := q_; subst q2_) | (simp [go_sem, *] at q_; have q2_ : q = some _ := q_; subst q2_)
   have q_ := x1.zq ((w.heap.size+1)) 1
   generalize z_x1_1_1 : x1.val.frozen? ⟨(w.heap.size+1), 1, none⟩ = q at q_
   first | (have q2_ : q = false := q_; subst q2_) | (simp [go_sem] at q_; have q2_ : q = false := q_; subst q2_) | (simp [go_sem, *] at q_; have q2_ : q = false := q_; subst q2_)
   go_wp2_with fail
   with_reducible refine (KB.out _).mono ?_
   rintro e_x2 w_x2 ⟨rfl, hb_x2⟩
   obtain ⟨x2, rfl⟩ := later_is hb_x2
   clear hb_x2
   have hz_x2 := x2.bel.size
   try simp at hz_x2
   replace c_x1_0_0 := x2.carry c_x1_0_0
   replace c_x1_0_1 := x2.carry c_x1_0_1
   replace c_x1_1_0 := x2.carry c_x1_1_0
   replace c_x1_1_1 := x2.carry c_x1_1_1
   have lc_x2_0 : w.heap.size < x2.val.heap.size := by omega
   have mc_x2_0 : w.heap.size < x2.val.heap.size + 1 := by omega
   have lc_x2_1 : (w.heap.size+1) < x2.val.heap.size := by omega
   have mc_x2_1 : (w.heap.size+1) < x2.val.heap.size + 1 := by omega
   have l_x2_0 : x1.val.heap.size < x2.val.heap.size := by omega
   have m_x2_0 : x1.val.heap.size < x2.val.heap.size + 1 := by omega
   have q_ := x2.cq (x1.val.heap.size) 0
   generalize c_x2_0_0 : x2.val.cell? ⟨x1.val.heap.size, 0, none⟩ = q at q_
   first | (have q2_ : q = some _ := q_; subst q2_) | (simp [go_sem] at q_; have q2_ : q = some _ := q_; subst q2_) | (simp [go_sem, *] at q_; have q2_ : q = some _ := q_; subst q2_)
   have q_ := x2.zq (x1.val.heap.size) 0
   generalize z_x2_0_0 : x2.val.frozen? ⟨x1.val.heap.size, 0, none⟩ = q at q_
   first | (have q2_ : q = false := q_; subst q2_) | (simp [go_sem] at q_; have q2_ : q = false := q_; subst q2_) | (simp [go_sem, *] at q_; have q2_ : q = false := q_; subst q2_)
   have q_ := x2.cq (x1.val.heap.size) 1
   generalize c_x2_0_1 : x2.val.cell? ⟨x1.val.heap.size, 1, none⟩ = q at q_
   first | (have q2_ : q = some _ := q_; subst q2_) | (simp [go_sem] at q_; have q2_ : q = some _ := q_; subst q2_) | (simp [go_sem, *] at q_; have q2_ : q = some _ := q_; subst q2_)
   have q_ := x2.zq (x1.val.heap.size) 1
   generalize z_x2_0_1 : x2.val.frozen? ⟨x1.val.heap.size, 1, none⟩ = q at q_
   first | (have q2_ : q = false := q_; subst q2_) | (simp [go_sem] at q_; have q2_ : q = false := q_; subst q2_) | (simp [go_sem, *] at q_; have q2_ : q = false := q_; subst q2_)
   have q_ := x2.cq (x1.val.heap.size) 2
   generalize c_x2_0_2 : x2.val.cell? ⟨x1.val.heap.size, 2, none⟩ = q at q_
   first | (have q2_ : q = some _ := q_; subst q2_) | (simp [go_sem] at q_; have q2_ : q = some _ := q_; subst q2_) | (simp [go_sem, *] at q_; have q2_ : q = some _ := q_; subst q2_)
   have q_ := x2.zq (x1.val.heap.size) 2
   generalize z_x2_0_2 : x2.val.frozen? ⟨x1.val.heap.size, 2, none⟩ = q at q_
   first | (have q2_ : q = false := q_; subst q2_) | (simp [go_sem] at q_; have q2_ : q = false := q_; subst q2_) | (simp [go_sem, *] at q_; have q2_ : q = false := q_; subst q2_)
   go_wp2_with fail
   with_reducible refine (TM.out _).mono ?_
   rintro e_x3 w_x3 ⟨rfl, hb_x3⟩
   obtain ⟨x3, rfl⟩ := later_is hb_x3
   clear hb_x3
   have hz_x3 := x3.bel.size
   try simp at hz_x3
   replace c_x1_0_0 := x3.carry c_x1_0_0
   replace c_x1_0_1 := x3.carry c_x1_0_1
   replace c_x1_1_0 := x3.carry c_x1_1_0
   replace c_x1_1_1 := x3.carry c_x1_1_1
   replace c_x2_0_0 := x3.carry c_x2_0_0
   replace c_x2_0_1 := x3.carry c_x2_0_1
   replace c_x2_0_2 := x3.carry c_x2_0_2
   have lc_x3_0 : w.heap.size < x3.val.heap.size := by omega
   have mc_x3_0 : w.heap.size < x3.val.heap.size + 1 := by omega
   have lc_x3_1 : (w.heap.size+1) < x3.val.heap.size := by omega
   have mc_x3_1 : (w.heap.size+1) < x3.val.heap.size + 1 := by omega
   have lc_x3_2 : x1.val.heap.size < x3.val.heap.size := by omega
   have mc_x3_2 : x1.val.heap.size < x3.val.heap.size + 1 := by omega
   go_wp2
   refine bodyPost_ret (v := .tuple #[dcV n' d', .bool true]) (by simp [results, Try.results36, go_sem, *]) rfl ⟨rfl, belo⟩
 ·obtain rfl : decV none = rv := by rw [← RV.out, if_neg (by simp [c])]
  have hS : (ba.toList == bb.toList) = false := str_ne c
  clear RV c
  go_enter Try.func36, Try.ntmps36
  go_wp2_with fail
  with_reducible refine (KA.out _).mono ?_
  rintro e_x1 w_x1 ⟨rfl, hb_x1⟩
  obtain ⟨x1, rfl⟩ := later_is hb_x1
  clear hb_x1
  have hz_x1 := x1.bel.size
  try simp at hz_x1
  have l_x1_0 : w.heap.size < x1.val.heap.size := by omega
  have m_x1_0 : w.heap.size < x1.val.heap.size + 1 := by omega
  have q_ := x1.cq (w.heap.size) 0
  generalize c_x1_0_0 : x1.val.cell? ⟨w.heap.size, 0, none⟩ = q at q_
  first | (have q2_ : q = some _ := q_; subst q2_) | (simp [go_sem] at q_; have q2_ : q = some _ := q_; subst q2_) | (simp [go_sem, *] at q_; have q2_ : q = some _ := q_; subst q2_)
  have q_ := x1.zq (w.heap.size) 0
  generalize z_x1_0_0 : x1.val.frozen? ⟨w.heap.size, 0, none⟩ = q at q_
  first | (have q2_ : q = false := q_; subst q2_) | (simp [go_sem] at q_; have q2_ : q = false := q_; subst q2_) | (simp [go_sem, *] at q_; have q2_ : q = false := q_; subst q2_)
  have q_ := x1.cq (w.heap.size) 1
  generalize c_x1_0_1 : x1.val.cell? ⟨w.heap.size, 1, none⟩ = q at q_
  first | (have q2_ : q = some _ := q_; subst q2_) | (simp [go_sem] at q_; have q2_ : q = some _ := q_; subst q2_) | (simp [go_sem, *] at q_; have q2_ : q = some _ := q_; subst q2_)
  have q_ := x1.zq (w.heap.size) 1
  generalize z_x1_0_1 : x1.val.frozen? ⟨w.heap.size, 1, none⟩ = q at q_
  first | (have q2_ : q = false := q_; subst q2_) | (simp [go_sem] at q_; have q2_ : q = false := q_; subst q2_) | (simp [go_sem, *] at q_; have q2_ : q = false := q_; subst q2_)
  have l_x1_1 : (w.heap.size+1) < x1.val.heap.size := by omega
  have m_x1_1 : (w.heap.size+1) < x1.val.heap.size + 1 := by omega
  have q_ := x1.cq ((w.heap.size+1)) 0
  generalize c_x1_1_0 : x1.val.cell? ⟨(w.heap.size+1), 0, none⟩ = q at q_
  first | (have q2_ : q = some _ := q_; subst q2_) | (simp [go_sem] at q_; have q2_ : q = some _ := q_; subst q2_) | (simp [go_sem, *] at q_; have q2_ : q = some _ := q_; subst q2_)
  have q_ := x1.zq ((w.heap.size+1)) 0
  generalize z_x1_1_0 : x1.val.frozen? ⟨(w.heap.size+1), 0, none⟩ = q at q_
  first | (have q2_ : q = false := q_; subst q2_) | (simp [go_sem] at q_; have q2_ : q = false := q_; subst q2_) | (simp [go_sem, *] at q_; have q2_ : q = false := q_; subst q2_)
  have q_ := x1.cq ((w.heap.size+1)) 1
  generalize c_x1_1_1 : x1.val.cell? ⟨(w.heap.size+1), 1, none⟩ = q at q_
  first | (have q2_ : q = some _ := q_; subst q2_) | (simp [go_sem] at q_; have q2_ : q = some _ := q_; subst q2_) | (simp [go_sem, *] at q_; have q2_ : q = some _ := q_; subst q2_)
  have q_ := x1.zq ((w.heap.size+1)) 1
  generalize z_x1_1_1 : x1.val.frozen? ⟨(w.heap.size+1), 1, none⟩ = q at q_
  first | (have q2_ : q = false := q_; subst q2_) | (simp [go_sem] at q_; have q2_ : q = false := q_; subst q2_) | (simp [go_sem, *] at q_; have q2_ : q = false := q_; subst q2_)
  go_wp2_with fail
  with_reducible refine (KB.out _).mono ?_
  rintro e_x2 w_x2 ⟨rfl, hb_x2⟩
  obtain ⟨x2, rfl⟩ := later_is hb_x2
  clear hb_x2
  have hz_x2 := x2.bel.size
  try simp at hz_x2
  replace c_x1_0_0 := x2.carry c_x1_0_0
  replace c_x1_0_1 := x2.carry c_x1_0_1
  replace c_x1_1_0 := x2.carry c_x1_1_0
  replace c_x1_1_1 := x2.carry c_x1_1_1
  have lc_x2_0 : w.heap.size < x2.val.heap.size := by omega
  have mc_x2_0 : w.heap.size < x2.val.heap.size + 1 := by omega
  have lc_x2_1 : (w.heap.size+1) < x2.val.heap.size := by omega
  have mc_x2_1 : (w.heap.size+1) < x2.val.heap.size + 1 := by omega
  have l_x2_0 : x1.val.heap.size < x2.val.heap.size := by omega
  have m_x2_0 : x1.val.heap.size < x2.val.heap.size + 1 := by omega
  have q_ := x2.cq (x1.val.heap.size) 0
  generalize c_x2_0_0 : x2.val.cell? ⟨x1.val.heap.size, 0, none⟩ = q at q_
  first | (have q2_ : q = some _ := q_; subst q2_) | (simp [go_sem] at q_; have q2_ : q = some _ := q_; subst q2_) | (simp [go_sem, *] at q_; have q2_ : q = some _ := q_; subst q2_)
  have q_ := x2.zq (x1.val.heap.size) 0
  generalize z_x2_0_0 : x2.val.frozen? ⟨x1.val.heap.size, 0, none⟩ = q at q_
  first | (have q2_ : q = false := q_; subst q2_) | (simp [go_sem] at q_; have q2_ : q = false := q_; subst q2_) | (simp [go_sem, *] at q_; have q2_ : q = false := q_; subst q2_)
  have q_ := x2.cq (x1.val.heap.size) 1
  generalize c_x2_0_1 : x2.val.cell? ⟨x1.val.heap.size, 1, none⟩ = q at q_
  first | (have q2_ : q = some _ := q_; subst q2_) | (simp [go_sem] at q_; have q2_ : q = some _ := q_; subst q2_) | (simp [go_sem, *] at q_; have q2_ : q = some _ := q_; subst q2_)
  have q_ := x2.zq (x1.val.heap.size) 1
  generalize z_x2_0_1 : x2.val.frozen? ⟨x1.val.heap.size, 1, none⟩ = q at q_
  first | (have q2_ : q = false := q_; subst q2_) | (simp [go_sem] at q_; have q2_ : q = false := q_; subst q2_) | (simp [go_sem, *] at q_; have q2_ : q = false := q_; subst q2_)
  have q_ := x2.cq (x1.val.heap.size) 2
  generalize c_x2_0_2 : x2.val.cell? ⟨x1.val.heap.size, 2, none⟩ = q at q_
  first | (have q2_ : q = some _ := q_; subst q2_) | (simp [go_sem] at q_; have q2_ : q = some _ := q_; subst q2_) | (simp [go_sem, *] at q_; have q2_ : q = some _ := q_; subst q2_)
  have q_ := x2.zq (x1.val.heap.size) 2
  generalize z_x2_0_2 : x2.val.frozen? ⟨x1.val.heap.size, 2, none⟩ = q at q_
  first | (have q2_ : q = false := q_; subst q2_) | (simp [go_sem] at q_; have q2_ : q = false := q_; subst q2_) | (simp [go_sem, *] at q_; have q2_ : q = false := q_; subst q2_)
  go_wp2
  refine bodyPost_ret (v := .tuple #[dcV 0 0, .bool false]) (by simp [results, Try.results36, go_sem, *]) rfl ⟨rfl, belo⟩
theorem rto_any (n : Int) (d : Nat) (a b : ByteArray) (w : World) (h1 : Dc.Fit ⟨n, d⟩) :
  Calls Try.prog 36 #[dcV n d, .string a, .string b] w fun e w' => e = .returned (decV (Vd.to_ ⟨n, d⟩ a b)) ∧ Below w.heap.size w w' := by
 unfold Vd.to_
 cases ha : Vd.known a with
 | none =>
  obtain ⟨bb, hbb⟩ : ∃ x, (Vd.known b).getD un0 = x := ⟨_, rfl⟩
  exact rto_walk n d a b w h1 ⟨#[]⟩ 0 0 false bb.base bb.num bb.den (Vd.known b).isSome ⟨by rw [ha]; rfl, by rw [ha]; rfl⟩ ⟨rfl, hbb⟩ 0 0 (by simp) (by simp) (by decide) (by decide) _ rfl
 | some u =>
  obtain ⟨a1, a2, a3, a4⟩ := known_bound ha
  cases hb : Vd.known b with
  | none => exact rto_walk n d a b w h1 u.base u.num u.den true ⟨#[]⟩ 0 0 false ⟨by rw [ha]; rfl, by rw [ha]; rfl⟩ ⟨by rw [hb]; rfl, by rw [hb]; rfl⟩ 0 0 (by simp) (by simp) (by decide) (by decide) _ rfl
  | some v =>
   obtain ⟨b1, b2, b3, b4⟩ := known_bound hb
   have p1 : u.num * v.den ≤ 3600 * 1000 := Nat.mul_le_mul a2 b4
   have p2 : u.den * v.num ≤ 1000 * 3600 := Nat.mul_le_mul a4 b2
   have := rto_walk n d a b w h1 u.base u.num u.den true v.base v.num v.den true ⟨by rw [ha]; rfl, by rw [ha]; rfl⟩ ⟨by rw [hb]; rfl, by rw [hb]; rfl⟩ (u.num * v.den) (u.den * v.num) rfl rfl (by omega) (by omega) _ rfl
   simpa using this
set_option maxHeartbeats 2000000 in
theorem rword_any (n : Int) (d : Nat) (dg : Int) (signed : Bool) (w : World) (h1 : Dc.Fit ⟨n, d⟩) (h0 : 0 ≤ dg) : Calls Try.prog 37 #[dcV n d, .int .i64 dg, .bool signed] w fun e w' => e = .returned (regV (Vd.word ⟨n, d⟩ dg signed)) ∧ Below w.heap.size w w' := by
 have k1 := fun w => rrightD_any n d w h1.1 h1.2.1
 have hd : d < 256 := h1.2.2
 have g0 : decide (dg < 0) = false := decide_eq_false (by omega)
 unfold Vd.word dcV
 cases hr : Vd.rightD ⟨n, d⟩
 ·rw [hr] at k1
  have K1 := Lib.hid k1
  rw [if_neg (show ¬ (false = true ∧ (d : Int) ≤ dg ∧ dg ≤ 6) by simp)]
  clear k1 hr h1 hd
  go_enter Try.func37, Try.ntmps37
  go_wp2_with fail
  with_reducible refine (K1.out _).mono ?_
  rintro e_x1 w_x1 ⟨rfl, hb_x1⟩
  obtain ⟨x1, rfl⟩ := later_is hb_x1
  clear hb_x1
  have hz_x1 := x1.bel.size
  try simp at hz_x1
  have l_x1_0 : w.heap.size < x1.val.heap.size := by omega
  have m_x1_0 : w.heap.size < x1.val.heap.size + 1 := by omega
  have q_ := x1.cq (w.heap.size) 0
  generalize c_x1_0_0 : x1.val.cell? ⟨w.heap.size, 0, none⟩ = q at q_
  first | (have q2_ : q = some _ := q_; subst q2_) | (simp [go_sem] at q_; have q2_ : q = some _ := q_; subst q2_) | (simp [go_sem, *] at q_; have q2_ : q = some _ := q_; subst q2_)
  have q_ := x1.zq (w.heap.size) 0
  generalize z_x1_0_0 : x1.val.frozen? ⟨w.heap.size, 0, none⟩ = q at q_
  first | (have q2_ : q = false := q_; subst q2_) | (simp [go_sem] at q_; have q2_ : q = false := q_; subst q2_) | (simp [go_sem, *] at q_; have q2_ : q = false := q_; subst q2_)
  have q_ := x1.cq (w.heap.size) 1
  generalize c_x1_0_1 : x1.val.cell? ⟨w.heap.size, 1, none⟩ = q at q_
  first | (have q2_ : q = some _ := q_; subst q2_) | (simp [go_sem] at q_; have q2_ : q = some _ := q_; subst q2_) | (simp [go_sem, *] at q_; have q2_ : q = some _ := q_; subst q2_)
  have q_ := x1.zq (w.heap.size) 1
  generalize z_x1_0_1 : x1.val.frozen? ⟨w.heap.size, 1, none⟩ = q at q_
  first | (have q2_ : q = false := q_; subst q2_) | (simp [go_sem] at q_; have q2_ : q = false := q_; subst q2_) | (simp [go_sem, *] at q_; have q2_ : q = false := q_; subst q2_)
  go_wp2
  go_ret2
  exact ⟨rfl, belo⟩
 rw [hr] at k1
 have K1 := Lib.hid k1
 obtain ⟨a1, a2, a3, _⟩ := rightD_out hr
 have s1 : IntKind.i64.wrap (d : Int) = (d : Int) := IntWalk.i64_in _ (by omega)
 clear k1 hr h1
 by_cases c2 : 6 < dg
 ·rw [if_neg (show ¬ (true = true ∧ (d : Int) ≤ dg ∧ dg ≤ 6) by omega)]
  have g2 : decide (6 < dg) = true := decide_eq_true c2
  clear c2
  go_enter Try.func37, Try.ntmps37
  go_wp2_with fail
  with_reducible refine (K1.out _).mono ?_
  rintro e_x1 w_x1 ⟨rfl, hb_x1⟩
  obtain ⟨x1, rfl⟩ := later_is hb_x1
  clear hb_x1
  have hz_x1 := x1.bel.size
  try simp at hz_x1
  have l_x1_0 : w.heap.size < x1.val.heap.size := by omega
  have m_x1_0 : w.heap.size < x1.val.heap.size + 1 := by omega
  have q_ := x1.cq (w.heap.size) 0
  generalize c_x1_0_0 : x1.val.cell? ⟨w.heap.size, 0, none⟩ = q at q_
  first | (have q2_ : q = some _ := q_; subst q2_) | (simp [go_sem] at q_; have q2_ : q = some _ := q_; subst q2_) | (simp [go_sem, *] at q_; have q2_ : q = some _ := q_; subst q2_)
  have q_ := x1.zq (w.heap.size) 0
  generalize z_x1_0_0 : x1.val.frozen? ⟨w.heap.size, 0, none⟩ = q at q_
  first | (have q2_ : q = false := q_; subst q2_) | (simp [go_sem] at q_; have q2_ : q = false := q_; subst q2_) | (simp [go_sem, *] at q_; have q2_ : q = false := q_; subst q2_)
  have q_ := x1.cq (w.heap.size) 1
  generalize c_x1_0_1 : x1.val.cell? ⟨w.heap.size, 1, none⟩ = q at q_
  first | (have q2_ : q = some _ := q_; subst q2_) | (simp [go_sem] at q_; have q2_ : q = some _ := q_; subst q2_) | (simp [go_sem, *] at q_; have q2_ : q = some _ := q_; subst q2_)
  have q_ := x1.zq (w.heap.size) 1
  generalize z_x1_0_1 : x1.val.frozen? ⟨w.heap.size, 1, none⟩ = q at q_
  first | (have q2_ : q = false := q_; subst q2_) | (simp [go_sem] at q_; have q2_ : q = false := q_; subst q2_) | (simp [go_sem, *] at q_; have q2_ : q = false := q_; subst q2_)
  go_wp2
  go_ret2
  exact ⟨rfl, belo⟩
 have g2 : decide (6 < dg) = false := decide_eq_false c2
 by_cases c1 : dg < (d : Int)
 ·rw [if_neg (show ¬ (true = true ∧ (d : Int) ≤ dg ∧ dg ≤ 6) by omega)]
  have g1 : decide (dg < (d : Int)) = true := decide_eq_true c1
  clear c1
  go_enter Try.func37, Try.ntmps37
  go_wp2_with fail
  with_reducible refine (K1.out _).mono ?_
  rintro e_x1 w_x1 ⟨rfl, hb_x1⟩
  obtain ⟨x1, rfl⟩ := later_is hb_x1
  clear hb_x1
  have hz_x1 := x1.bel.size
  try simp at hz_x1
  have l_x1_0 : w.heap.size < x1.val.heap.size := by omega
  have m_x1_0 : w.heap.size < x1.val.heap.size + 1 := by omega
  have q_ := x1.cq (w.heap.size) 0
  generalize c_x1_0_0 : x1.val.cell? ⟨w.heap.size, 0, none⟩ = q at q_
  first | (have q2_ : q = some _ := q_; subst q2_) | (simp [go_sem] at q_; have q2_ : q = some _ := q_; subst q2_) | (simp [go_sem, *] at q_; have q2_ : q = some _ := q_; subst q2_)
  have q_ := x1.zq (w.heap.size) 0
  generalize z_x1_0_0 : x1.val.frozen? ⟨w.heap.size, 0, none⟩ = q at q_
  first | (have q2_ : q = false := q_; subst q2_) | (simp [go_sem] at q_; have q2_ : q = false := q_; subst q2_) | (simp [go_sem, *] at q_; have q2_ : q = false := q_; subst q2_)
  have q_ := x1.cq (w.heap.size) 1
  generalize c_x1_0_1 : x1.val.cell? ⟨w.heap.size, 1, none⟩ = q at q_
  first | (have q2_ : q = some _ := q_; subst q2_) | (simp [go_sem] at q_; have q2_ : q = some _ := q_; subst q2_) | (simp [go_sem, *] at q_; have q2_ : q = some _ := q_; subst q2_)
  have q_ := x1.zq (w.heap.size) 1
  generalize z_x1_0_1 : x1.val.frozen? ⟨w.heap.size, 1, none⟩ = q at q_
  first | (have q2_ : q = false := q_; subst q2_) | (simp [go_sem] at q_; have q2_ : q = false := q_; subst q2_) | (simp [go_sem, *] at q_; have q2_ : q = false := q_; subst q2_)
  go_wp2
  go_ret2
  exact ⟨rfl, belo⟩
 have g1 : decide (dg < (d : Int)) = false := decide_eq_false c1
 rw [if_pos (show true = true ∧ (d : Int) ≤ dg ∧ dg ≤ 6 from ⟨rfl, by omega, by omega⟩)]
 obtain ⟨k, rfl⟩ : ∃ k : Nat, dg = (k : Int) := ⟨dg.toNat, by omega⟩
 rw [Int.toNat_natCast]
 have g1' : decide (k < d) = false := decide_eq_false (by omega)
 obtain ⟨rv, hrv⟩ : ∃ rv, regV (if signed = true then (if -32768 ≤ Vd.scaled ⟨n, d⟩ k ∧ Vd.scaled ⟨n, d⟩ k ≤ 32767 then some (Vd.scaled ⟨n, d⟩ k % 65536).toNat else none) else (if 0 ≤ Vd.scaled ⟨n, d⟩ k ∧ Vd.scaled ⟨n, d⟩ k ≤ 65535 then some (Vd.scaled ⟨n, d⟩ k).toNat else none)) = rv := ⟨_, rfl⟩
 rw [hrv]
 have RV := Lib.hid hrv
 have A1 := Lib.hid a1
 have A2 := Lib.hid a2
 have hdk : d ≤ k := by omega
 have hk6 : k ≤ 6 := by omega
 clear hrv c1 c2 a1 a2
 go_enter Try.func37, Try.ntmps37
 go_wp2_with fail
 with_reducible refine (K1.out _).mono ?_
 rintro e_x1 w_x1 ⟨rfl, hb_x1⟩
 obtain ⟨x1, rfl⟩ := later_is hb_x1
 clear hb_x1
 have hz_x1 := x1.bel.size
 try simp at hz_x1
 have l_x1_0 : w.heap.size < x1.val.heap.size := by omega
 have m_x1_0 : w.heap.size < x1.val.heap.size + 1 := by omega
 have q_ := x1.cq (w.heap.size) 0
 generalize c_x1_0_0 : x1.val.cell? ⟨w.heap.size, 0, none⟩ = q at q_
 first | (have q2_ : q = some _ := q_; subst q2_) | (simp [go_sem] at q_; have q2_ : q = some _ := q_; subst q2_) | (simp [go_sem, *] at q_; have q2_ : q = some _ := q_; subst q2_)
 have q_ := x1.zq (w.heap.size) 0
 generalize z_x1_0_0 : x1.val.frozen? ⟨w.heap.size, 0, none⟩ = q at q_
 first | (have q2_ : q = false := q_; subst q2_) | (simp [go_sem] at q_; have q2_ : q = false := q_; subst q2_) | (simp [go_sem, *] at q_; have q2_ : q = false := q_; subst q2_)
 have q_ := x1.cq (w.heap.size) 1
 generalize c_x1_0_1 : x1.val.cell? ⟨w.heap.size, 1, none⟩ = q at q_
 first | (have q2_ : q = some _ := q_; subst q2_) | (simp [go_sem] at q_; have q2_ : q = some _ := q_; subst q2_) | (simp [go_sem, *] at q_; have q2_ : q = some _ := q_; subst q2_)
 have q_ := x1.zq (w.heap.size) 1
 generalize z_x1_0_1 : x1.val.frozen? ⟨w.heap.size, 1, none⟩ = q at q_
 first | (have q2_ : q = false := q_; subst q2_) | (simp [go_sem] at q_; have q2_ : q = false := q_; subst q2_) | (simp [go_sem, *] at q_; have q2_ : q = false := q_; subst q2_)
 go_wp2
 go_loopw [9, 8] (fun i x wr => ∃ (j : Nat) (q : Int), d ≤ j ∧ j ≤ k ∧ Hid (n * 10 ^ (j - d) = q) ∧ i = .int .i64 (j : Int) ∧ x = .int .i64 q ∧ wr = x1.val) (fun i _ _ => k - (RowKit.intOf i).toNat)
 case atStart => exact ⟨d, n, Nat.le_refl _, hdk, Lib.hid (by simp), rfl, rfl, rfl⟩
 case round =>
  rename World => wr
  obtain ⟨j, q, hj, hjk, HQ, rfl, rfl, rfl⟩ := hrel
  obtain ⟨p, hp⟩ : ∃ p, 10 ^ (j - d) = p := ⟨_, rfl⟩
  have hpb := pow10_le (k := j - d) (by omega)
  rw [hp] at hpb
  have hb := mil_bound A1.out A2.out hpb.1 hpb.2
  have hb2 : n * (p : Int) = q := by rw [← HQ.out, ← hp]; simp
  rw [hb2] at hb
  clear hp hpb hb2
  by_cases hlt : j < k
  ·have g5 : (j : Int) < (k : Int) := by omega
   obtain ⟨q2, hq2⟩ : ∃ q2, q * 10 = q2 := ⟨_, rfl⟩
   have HQ2 : Hid (n * 10 ^ (j + 1 - d) = q2) := Lib.hid (by rw [show j + 1 - d = j - d + 1 by omega, Int.pow_succ, ← Int.mul_assoc, HQ.out, hq2])
   obtain ⟨p, hp⟩ : ∃ p, 10 ^ (j + 1 - d) = p := ⟨_, rfl⟩
   have hpb := pow10_le (k := j + 1 - d) (by omega)
   rw [hp] at hpb
   have hb' := mil_bound A1.out A2.out hpb.1 hpb.2
   have hb2' : n * (p : Int) = q2 := by rw [← HQ2.out, ← hp]; simp
   rw [hb2'] at hb'
   have w1 : IntKind.i64.wrap q2 = q2 := IntWalk.i64_in _ (by omega)
   clear hp hpb hb' hb2'
   go_wp2
   go_roundw
   case rel => exact ⟨j + 1, q2, by omega, by omega, HQ2, by go_num, by first | rfl | trivial, by first | rfl | trivial⟩
   case measure => simp [RowKit.intOf]; omega
  obtain rfl : j = k := by omega
  have hrvq : regV (if signed = true then (if -32768 ≤ q ∧ q ≤ 32767 then some (q % 65536).toNat else none) else (if 0 ≤ q ∧ q ≤ 65535 then some q.toNat else none)) = rv := by
   have h9 : Vd.scaled ⟨n, d⟩ j = q := HQ.out
   rw [← RV.out, h9]
  have RQ := Lib.hid hrvq
  clear hrvq RV HQ hlt hj
  cases signed
  ·have t3 : decide (65535 < q) = decide (65535 < q) := rfl
   by_cases c5 : q < 0
   ·have g5 : decide (q < 0) = true := decide_eq_true c5
    obtain rfl : regV none = rv := by rw [← RQ.out, if_neg (by decide), if_neg (by omega)]
    clear c5 RQ
    go_wp2
    go_ret2
    exact ⟨rfl, belo⟩
   have g5 : decide (q < 0) = false := decide_eq_false c5
   by_cases c6 : 65535 < q
   ·have g6 : decide (65535 < q) = true := decide_eq_true c6
    obtain rfl : regV none = rv := by rw [← RQ.out, if_neg (by decide), if_neg (by omega)]
    clear c5 c6 RQ
    go_wp2
    go_ret2
    exact ⟨rfl, belo⟩
   have g6 : decide (65535 < q) = false := decide_eq_false c6
   obtain ⟨m, rfl⟩ : ∃ m : Nat, q = (m : Int) := ⟨q.toNat, by omega⟩
   obtain rfl : regV (some m) = rv := by rw [← RQ.out, if_neg (by decide), if_pos (by omega), Int.toNat_natCast]
   have u1 : IntKind.u16.wrap (m : Int) = (m : Int) := by rw [wrap_u16]; omega
   clear c5 c6 RQ
   go_wp2
   go_ret2
   exact ⟨rfl, belo⟩
  ·by_cases c5 : q < -32768
   ·have g5 : decide (q < -32768) = true := decide_eq_true c5
    obtain rfl : regV none = rv := by rw [← RQ.out, if_pos rfl, if_neg (by omega)]
    clear c5 RQ
    go_wp2
    go_ret2
    exact ⟨rfl, belo⟩
   have g5 : decide (q < -32768) = false := decide_eq_false c5
   by_cases c6 : 32767 < q
   ·have g6 : decide (32767 < q) = true := decide_eq_true c6
    obtain rfl : regV none = rv := by rw [← RQ.out, if_pos rfl, if_neg (by omega)]
    clear c5 c6 RQ
    go_wp2
    go_ret2
    exact ⟨rfl, belo⟩
   have g6 : decide (32767 < q) = false := decide_eq_false c6
   by_cases c7 : q < 0
   ·have g7 : decide (q < 0) = true := decide_eq_true c7
    obtain ⟨m, hm⟩ : ∃ m : Nat, q + 65536 = (m : Int) := ⟨(q + 65536).toNat, by omega⟩
    obtain rfl : regV (some m) = rv := by rw [← RQ.out, if_pos rfl, if_pos (by omega), show (q % 65536).toNat = m by omega]
    have w5 : IntKind.i64.wrap (m : Int) = (m : Int) := IntWalk.i64_in _ (by omega)
    have g8 : decide ((m : Int) < 0) = false := decide_eq_false (by omega)
    have g9 : decide ((65535 : Int) < (m : Int)) = false := decide_eq_false (by omega)
    have u1 : IntKind.u16.wrap (m : Int) = (m : Int) := by rw [wrap_u16]; omega
    clear c5 c6 c7 RQ
    go_wp2
    go_ret2
    exact ⟨rfl, belo⟩
   ·have g7 : decide (q < 0) = false := decide_eq_false c7
    obtain ⟨m, rfl⟩ : ∃ m : Nat, q = (m : Int) := ⟨q.toNat, by omega⟩
    obtain rfl : regV (some m) = rv := by rw [← RQ.out, if_pos rfl, if_pos (by omega), show ((m : Int) % 65536).toNat = m by omega]
    have g9 : decide ((65535 : Int) < (m : Int)) = false := decide_eq_false (by omega)
    have u1 : IntKind.u16.wrap (m : Int) = (m : Int) := by rw [wrap_u16]; omega
    clear c5 c6 c7 RQ
    go_wp2
    go_ret2
    exact ⟨rfl, belo⟩
end Go.Proofs.Ythhokpaidekmnaa
