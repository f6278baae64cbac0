/- Layer 15: valid.rightDevice, Right. -/
import Derived.Test.YthhokpaidekmnaaVdFind
namespace Go.Proofs.Ythhokpaidekmnaa
open Go.RowKit
set_option linter.unusedVariables false
set_option linter.unusedSimpArgs false
set_option maxRecDepth 100000
attribute [local go_sem] Later.cell Later.frozen setCell_twice
theorem MetV.congr {α : Type} {kf : α → Value} {w : World} {gv gm : Nat} {l l' : List α} (h : MetV kf w gv gm l) (he : ∀ a, a ∈ l ↔ a ∈ l') : MetV kf w gv gm l' := by
 obtain ⟨h1, h2, ⟨es, c, hm, h3, h4⟩, h5, h6⟩ := h
 exact ⟨h1, h2, ⟨es, c, hm, fun e hx => by obtain ⟨a, ha, hb⟩ := h3 e hx; exact ⟨a, (he a).1 ha, hb⟩, fun a ha => h4 a ((he a).2 ha)⟩, h5, h6⟩
theorem map_take_mem {α β : Type} {f : α → β} {l : List α} {j : Nat} {c : α} (hc : l[j]? = some c) (a : β) : a ∈ f c :: (l.take j).map f ↔ a ∈ (l.take (j + 1)).map f := by
 rw [List.take_add_one, hc, List.map_append]
 simp only [Option.toList, List.map_cons, List.map_nil, List.mem_append, List.mem_cons, List.not_mem_nil, or_false]
 exact Or.comm
theorem nodup_step {α β : Type} {f : α → β} {l : List α} {j : Nat} {c : α} (h : ((l.take j).map f).Nodup) (hc : l[j]? = some c) (hn : f c ∉ (l.take j).map f) : ((l.take (j + 1)).map f).Nodup := by
 rw [List.take_add_one, hc, List.map_append]
 refine List.nodup_append.2 ⟨h, by simp [Option.toList], fun a ha b hb => ?_⟩
 simp only [Option.toList, List.map_cons, List.map_nil, List.mem_singleton] at hb
 subst hb
 exact fun he => hn (he ▸ ha)
theorem nodup_no {α β : Type} {f : α → β} {l : List α} {j : Nat} {c : α} (hc : l[j]? = some c) (hn : f c ∈ (l.take j).map f) : ¬ (l.map f).Nodup := fun h => by
 have h2 : ((l.take (j + 1)).map f).Nodup := List.Nodup.sublist ((List.take_sublist _ _).map _) h
 rw [List.take_add_one, hc, List.map_append] at h2
 exact (List.nodup_append.1 h2).2.2 _ hn _ (by simp [Option.toList]) rfl
namespace Vd
def rightDv (nm : ByteArray) (l : List Pt) : Bool := name nm && decide (l.length ≤ 64) && (l.all rightPt && decide ((l.map Pt.name).Nodup ∧ (l.map Pt.at_).Nodup))
def rightTab (l : List Dv) : Bool := decide (1 ≤ l.length ∧ l.length ≤ 8) && (l.all (fun d => rightDv d.name d.pts) && decide ((l.map Dv.name).Nodup))
end Vd
set_option maxHeartbeats 4000000 in
theorem rightDv_any (nm : ByteArray) (A : Option Addr) (l : List Pt) (n c : Nat) (w : World) (hn : l.length = n) (h : Recs ptF 9 w w.heap.size A l) (hf : ∀ p ∈ l, p.Fit) (hs : Shp A n c) :
  Calls Try.prog 31 #[.agg #[.string nm, .slice A n c]] w fun e w' => e = .returned (.bool (Vd.rightDv nm l)) ∧ Below w.heap.size w w' := by
 have HN := Lib.hid hn
 have HH := Lib.hid h
 have HF := Lib.hid hf
 have hcap : n ≤ 9223372036854775807 := Nat.le_trans hs.le hs.cap
 obtain ⟨rv, hrv⟩ : ∃ rv, Vd.rightDv nm l = rv := ⟨_, rfl⟩
 rw [hrv]
 unfold Vd.rightDv at hrv
 rw [hn] at hrv
 have RV := Lib.hid hrv
 have NM := Lib.hid (fun w => vname_any nm w)
 clear hn h hs hrv hf
 cases q1 : Vd.name nm
 ·obtain rfl : false = rv := by rw [← RV.out, q1]; rfl
  rw [q1] at NM
  clear RV q1
  go_enter Try.func31, Try.ntmps31
  go_wp2_with fail
  with_reducible refine (NM.out _).mono ?_
  rintro e_x1 w_x1 ⟨rfl, hb_x1⟩
  obtain ⟨x1, rfl⟩ := later_is hb_x1
  clear hb_x1
  have hz_x1 := x1.bel.size
  try simp at hz_x1
  have l_x1_0 : w.heap.size < x1.val.heap.size := by omega
  have m_x1_0 : w.heap.size < x1.val.heap.size + 1 := by omega
  have q_ := x1.cq (w.heap.size) 0
  generalize c_x1_0_0 : x1.val.cell? ⟨w.heap.size, 0, none⟩ = q at q_
  first | (have q2_ : q = some _ := q_; subst q2_) | (simp [go_sem] at q_; have q2_ : q = some _ := q_; subst q2_) | (simp [go_sem, *] at q_; have q2_ : q = some _ := q_; subst q2_)
  have q_ := x1.zq (w.heap.size) 0
  generalize z_x1_0_0 : x1.val.frozen? ⟨w.heap.size, 0, none⟩ = q at q_
  first | (have q2_ : q = false := q_; subst q2_) | (simp [go_sem] at q_; have q2_ : q = false := q_; subst q2_) | (simp [go_sem, *] at q_; have q2_ : q = false := q_; subst q2_)
  have q_ := x1.cq (w.heap.size) 1
  generalize c_x1_0_1 : x1.val.cell? ⟨w.heap.size, 1, none⟩ = q at q_
  first | (have q2_ : q = some _ := q_; subst q2_) | (simp [go_sem] at q_; have q2_ : q = some _ := q_; subst q2_) | (simp [go_sem, *] at q_; have q2_ : q = some _ := q_; subst q2_)
  have q_ := x1.zq (w.heap.size) 1
  generalize z_x1_0_1 : x1.val.frozen? ⟨w.heap.size, 1, none⟩ = q at q_
  first | (have q2_ : q = false := q_; subst q2_) | (simp [go_sem] at q_; have q2_ : q = false := q_; subst q2_) | (simp [go_sem, *] at q_; have q2_ : q = false := q_; subst q2_)
  go_wp2
  go_ret
  exact ⟨rfl, belo⟩
 rw [q1] at NM RV
 rw [Bool.true_and] at RV
 clear q1
 by_cases c1 : 64 < n
 ·have g1 : decide ((64 : Int) < (n : Int)) = true := decide_eq_true (by omega)
  obtain rfl : false = rv := by rw [← RV.out, decide_eq_false (by omega)]; rfl
  clear RV c1
  go_enter Try.func31, Try.ntmps31
  go_wp2_with fail
  with_reducible refine (NM.out _).mono ?_
  rintro e_x1 w_x1 ⟨rfl, hb_x1⟩
  obtain ⟨x1, rfl⟩ := later_is hb_x1
  clear hb_x1
  have hz_x1 := x1.bel.size
  try simp at hz_x1
  have l_x1_0 : w.heap.size < x1.val.heap.size := by omega
  have m_x1_0 : w.heap.size < x1.val.heap.size + 1 := by omega
  have q_ := x1.cq (w.heap.size) 0
  generalize c_x1_0_0 : x1.val.cell? ⟨w.heap.size, 0, none⟩ = q at q_
  first | (have q2_ : q = some _ := q_; subst q2_) | (simp [go_sem] at q_; have q2_ : q = some _ := q_; subst q2_) | (simp [go_sem, *] at q_; have q2_ : q = some _ := q_; subst q2_)
  have q_ := x1.zq (w.heap.size) 0
  generalize z_x1_0_0 : x1.val.frozen? ⟨w.heap.size, 0, none⟩ = q at q_
  first | (have q2_ : q = false := q_; subst q2_) | (simp [go_sem] at q_; have q2_ : q = false := q_; subst q2_) | (simp [go_sem, *] at q_; have q2_ : q = false := q_; subst q2_)
  have q_ := x1.cq (w.heap.size) 1
  generalize c_x1_0_1 : x1.val.cell? ⟨w.heap.size, 1, none⟩ = q at q_
  first | (have q2_ : q = some _ := q_; subst q2_) | (simp [go_sem] at q_; have q2_ : q = some _ := q_; subst q2_) | (simp [go_sem, *] at q_; have q2_ : q = some _ := q_; subst q2_)
  have q_ := x1.zq (w.heap.size) 1
  generalize z_x1_0_1 : x1.val.frozen? ⟨w.heap.size, 1, none⟩ = q at q_
  first | (have q2_ : q = false := q_; subst q2_) | (simp [go_sem] at q_; have q2_ : q = false := q_; subst q2_) | (simp [go_sem, *] at q_; have q2_ : q = false := q_; subst q2_)
  go_wp2
  go_ret
  exact ⟨rfl, belo⟩
 have g1 : decide ((64 : Int) < (n : Int)) = false := decide_eq_false (by omega)
 rw [decide_eq_true (show n ≤ 64 by omega), Bool.true_and] at RV
 go_enter Try.func31, Try.ntmps31
 go_wp2_with fail
 with_reducible refine (NM.out _).mono ?_
 rintro e_x1 w_x1 ⟨rfl, hb_x1⟩
 obtain ⟨x1, rfl⟩ := later_is hb_x1
 clear hb_x1
 have hz_x1 := x1.bel.size
 try simp at hz_x1
 have l_x1_0 : w.heap.size < x1.val.heap.size := by omega
 have m_x1_0 : w.heap.size < x1.val.heap.size + 1 := by omega
 have q_ := x1.cq (w.heap.size) 0
 generalize c_x1_0_0 : x1.val.cell? ⟨w.heap.size, 0, none⟩ = q at q_
 first | (have q2_ : q = some _ := q_; subst q2_) | (simp [go_sem] at q_; have q2_ : q = some _ := q_; subst q2_) | (simp [go_sem, *] at q_; have q2_ : q = some _ := q_; subst q2_)
 have q_ := x1.zq (w.heap.size) 0
 generalize z_x1_0_0 : x1.val.frozen? ⟨w.heap.size, 0, none⟩ = q at q_
 first | (have q2_ : q = false := q_; subst q2_) | (simp [go_sem] at q_; have q2_ : q = false := q_; subst q2_) | (simp [go_sem, *] at q_; have q2_ : q = false := q_; subst q2_)
 have q_ := x1.cq (w.heap.size) 1
 generalize c_x1_0_1 : x1.val.cell? ⟨w.heap.size, 1, none⟩ = q at q_
 first | (have q2_ : q = some _ := q_; subst q2_) | (simp [go_sem] at q_; have q2_ : q = some _ := q_; subst q2_) | (simp [go_sem, *] at q_; have q2_ : q = some _ := q_; subst q2_)
 have q_ := x1.zq (w.heap.size) 1
 generalize z_x1_0_1 : x1.val.frozen? ⟨w.heap.size, 1, none⟩ = q at q_
 first | (have q2_ : q = false := q_; subst q2_) | (simp [go_sem] at q_; have q2_ : q = false := q_; subst q2_) | (simp [go_sem, *] at q_; have q2_ : q = false := q_; subst q2_)
 go_wp2_with fail
 (with_reducible refine (fresh_s _).mono ?_)
 rintro e_ w_ ⟨ga, gb, rfl, M1, hga, hgb, hb2⟩
 obtain ⟨x2, rfl⟩ := later_is hb2
 have hz_x2 := x2.bel.size
 have hz_x2 := x2.bel.size
 try simp at hz_x2
 replace c_x1_0_0 := x2.carry c_x1_0_0
 replace c_x1_0_1 := x2.carry c_x1_0_1
 have lc_x2_0 : w.heap.size < x2.val.heap.size := by omega
 have mc_x2_0 : w.heap.size < x2.val.heap.size + 1 := by omega
 go_wp2_with fail
 (with_reducible refine (fresh_i _).mono ?_)
 rintro e_ w_ ⟨gc, gd, rfl, M2, hgc, hgd, hb3⟩
 have MS := Lib.hid (M1.to hb3)
 have MI := Lib.hid M2
 have l1 := M1.lt
 have l2 := M1.m.lt
 have l3 := M2.lt
 have l4 := M2.m.lt
 obtain ⟨x3, rfl⟩ := later_is hb3
 have hz_x3 := x3.bel.size
 have hz_x3 := x3.bel.size
 try simp at hz_x3
 replace c_x1_0_0 := x3.carry c_x1_0_0
 replace c_x1_0_1 := x3.carry c_x1_0_1
 have lc_x3_0 : w.heap.size < x3.val.heap.size := by omega
 have mc_x3_0 : w.heap.size < x3.val.heap.size + 1 := by omega
 have o1 : w.heap.size ≤ ga := by omega
 have o2 : w.heap.size ≤ gb := by omega
 have o3 : ga < gc ∧ ga < gd ∧ gb < gc ∧ gb < gd := by omega
 have bx3 : Below w.heap.size w x3.val := belo
 clear M1 M2 hb2 hb3 l1 l2 l3 l4 hga hgb hgc hgd
 go_wp2
 go_loopw [22] (fun x wr => ∃ j : Nat, j ≤ n ∧ Hid ((l.take j).all Vd.rightPt = true ∧ ((l.take j).map Pt.name).Nodup ∧ ((l.take j).map Pt.at_).Nodup) ∧ x = .int .i64 (j : Int) ∧ Hid (MetV skf wr ga gb ((l.take j).map Pt.name)) ∧ Hid (MetV ikf wr gc gd ((l.take j).map Pt.at_)) ∧ Below w.heap.size w wr) (fun i _ => n - (RowKit.intOf i).toNat)
 case atStart => exact ⟨0, by omega, Lib.hid ⟨rfl, List.nodup_nil, List.nodup_nil⟩, rfl, MS, MI, bx3⟩
 case round =>
  clear MS MI bx3
  rename World => wr
  obtain ⟨j, hj, HA, rfl, MS, MI, hbe⟩ := hrel
  by_cases hlt : j < n
  rotate_left
  ·obtain rfl : j = n := by omega
   obtain rfl : true = rv := by
    have h3 := HA.out
    rw [← HN.out, List.take_length] at h3
    rw [← RV.out, h3.1, decide_eq_true h3.2]
    rfl
   clear hlt hj
   go_wp2
   go_ret
   exact ⟨rfl, hbe⟩
  have hltI : (j : Int) < (n : Int) := by omega
  obtain ⟨g1, o1', p, rfl, hg, hp, d0, d1, d2, d3, d4, d5, d6, d7, d8⟩ := Pt.at_cells ((HH.out.below hbe).more hbe.size) (k := j) (by rw [HN.out]; exact hlt)
  have hgl : g1 < wr.heap.size := hg
  have kw1 := MS.out.lt
  have kw2 := MS.out.m.lt
  have kw3 := MI.out.lt
  have kw4 := MI.out.m.lt
  have RP := Lib.hid (fun w => rightPt_any p w (HF.out p (List.mem_of_getElem? hp)))
  obtain ⟨pn, at_, dg, sg, ⟨ln, ld⟩, ⟨hn, hd⟩, un⟩ := p
  have HP := Lib.hid hp
  dsimp only at d0 d1 d2 d3 d4 d5 d6 d7 d8 RP
  clear hp hg
  cases q2 : Vd.rightPt ⟨pn, at_, dg, sg, ⟨ln, ld⟩, ⟨hn, hd⟩, un⟩
  ·obtain rfl : false = rv := by rw [← RV.out, allL_no HP.out q2]; rfl
   rw [q2] at RP
   clear RV q2
   go_wp2_with fail
   with_reducible refine (RP.out _).mono ?_
   rintro e_x4 w_x4 ⟨rfl, hb_x4⟩
   obtain ⟨x4, rfl⟩ := later_is hb_x4
   clear hb_x4
   have hz_x4 := x4.bel.size
   try simp at hz_x4
   go_wp2
   go_ret
   exact ⟨rfl, belo⟩
  rw [q2] at RP
  have HQ := Lib.hid q2
  clear q2
  go_wp2_with fail
  with_reducible refine (RP.out _).mono ?_
  rintro e_x4 w_x4 ⟨rfl, hb_x4⟩
  obtain ⟨x4, rfl⟩ := later_is hb_x4
  clear hb_x4
  have hz_x4 := x4.bel.size
  try simp at hz_x4
  have l_x4_0 : wr.heap.size < x4.val.heap.size := by omega
  have m_x4_0 : wr.heap.size < x4.val.heap.size + 1 := by omega
  have q_ := x4.cq (wr.heap.size) 0
  generalize c_x4_0_0 : x4.val.cell? ⟨wr.heap.size, 0, none⟩ = q at q_
  first | (have q2_ : q = some _ := q_; subst q2_) | (simp [go_sem] at q_; have q2_ : q = some _ := q_; subst q2_) | (simp [go_sem, *] at q_; have q2_ : q = some _ := q_; subst q2_)
  have q_ := x4.zq (wr.heap.size) 0
  generalize z_x4_0_0 : x4.val.frozen? ⟨wr.heap.size, 0, none⟩ = q at q_
  first | (have q2_ : q = false := q_; subst q2_) | (simp [go_sem] at q_; have q2_ : q = false := q_; subst q2_) | (simp [go_sem, *] at q_; have q2_ : q = false := q_; subst q2_)
  have q_ := x4.cq (wr.heap.size) 1
  generalize c_x4_0_1 : x4.val.cell? ⟨wr.heap.size, 1, none⟩ = q at q_
  first | (have q2_ : q = some _ := q_; subst q2_) | (simp [go_sem] at q_; have q2_ : q = some _ := q_; subst q2_) | (simp [go_sem, *] at q_; have q2_ : q = some _ := q_; subst q2_)
  have q_ := x4.zq (wr.heap.size) 1
  generalize z_x4_0_1 : x4.val.frozen? ⟨wr.heap.size, 1, none⟩ = q at q_
  first | (have q2_ : q = false := q_; subst q2_) | (simp [go_sem] at q_; have q2_ : q = false := q_; subst q2_) | (simp [go_sem, *] at q_; have q2_ : q = false := q_; subst q2_)
  have q_ := x4.cq (wr.heap.size) 2
  generalize c_x4_0_2 : x4.val.cell? ⟨wr.heap.size, 2, none⟩ = q at q_
  first | (have q2_ : q = some _ := q_; subst q2_) | (simp [go_sem] at q_; have q2_ : q = some _ := q_; subst q2_) | (simp [go_sem, *] at q_; have q2_ : q = some _ := q_; subst q2_)
  have q_ := x4.zq (wr.heap.size) 2
  generalize z_x4_0_2 : x4.val.frozen? ⟨wr.heap.size, 2, none⟩ = q at q_
  first | (have q2_ : q = false := q_; subst q2_) | (simp [go_sem] at q_; have q2_ : q = false := q_; subst q2_) | (simp [go_sem, *] at q_; have q2_ : q = false := q_; subst q2_)
  have q_ := x4.cq (wr.heap.size) 3
  generalize c_x4_0_3 : x4.val.cell? ⟨wr.heap.size, 3, none⟩ = q at q_
  first | (have q2_ : q = some _ := q_; subst q2_) | (simp [go_sem] at q_; have q2_ : q = some _ := q_; subst q2_) | (simp [go_sem, *] at q_; have q2_ : q = some _ := q_; subst q2_)
  have q_ := x4.zq (wr.heap.size) 3
  generalize z_x4_0_3 : x4.val.frozen? ⟨wr.heap.size, 3, none⟩ = q at q_
  first | (have q2_ : q = false := q_; subst q2_) | (simp [go_sem] at q_; have q2_ : q = false := q_; subst q2_) | (simp [go_sem, *] at q_; have q2_ : q = false := q_; subst q2_)
  have q_ := x4.cq (wr.heap.size) 4
  generalize c_x4_0_4 : x4.val.cell? ⟨wr.heap.size, 4, none⟩ = q at q_
  first | (have q2_ : q = some _ := q_; subst q2_) | (simp [go_sem] at q_; have q2_ : q = some _ := q_; subst q2_) | (simp [go_sem, *] at q_; have q2_ : q = some _ := q_; subst q2_)
  have q_ := x4.zq (wr.heap.size) 4
  generalize z_x4_0_4 : x4.val.frozen? ⟨wr.heap.size, 4, none⟩ = q at q_
  first | (have q2_ : q = false := q_; subst q2_) | (simp [go_sem] at q_; have q2_ : q = false := q_; subst q2_) | (simp [go_sem, *] at q_; have q2_ : q = false := q_; subst q2_)
  have q_ := x4.cq (wr.heap.size) 5
  generalize c_x4_0_5 : x4.val.cell? ⟨wr.heap.size, 5, none⟩ = q at q_
  first | (have q2_ : q = some _ := q_; subst q2_) | (simp [go_sem] at q_; have q2_ : q = some _ := q_; subst q2_) | (simp [go_sem, *] at q_; have q2_ : q = some _ := q_; subst q2_)
  have q_ := x4.zq (wr.heap.size) 5
  generalize z_x4_0_5 : x4.val.frozen? ⟨wr.heap.size, 5, none⟩ = q at q_
  first | (have q2_ : q = false := q_; subst q2_) | (simp [go_sem] at q_; have q2_ : q = false := q_; subst q2_) | (simp [go_sem, *] at q_; have q2_ : q = false := q_; subst q2_)
  have q_ := x4.cq (wr.heap.size) 6
  generalize c_x4_0_6 : x4.val.cell? ⟨wr.heap.size, 6, none⟩ = q at q_
  first | (have q2_ : q = some _ := q_; subst q2_) | (simp [go_sem] at q_; have q2_ : q = some _ := q_; subst q2_) | (simp [go_sem, *] at q_; have q2_ : q = some _ := q_; subst q2_)
  have q_ := x4.zq (wr.heap.size) 6
  generalize z_x4_0_6 : x4.val.frozen? ⟨wr.heap.size, 6, none⟩ = q at q_
  first | (have q2_ : q = false := q_; subst q2_) | (simp [go_sem] at q_; have q2_ : q = false := q_; subst q2_) | (simp [go_sem, *] at q_; have q2_ : q = false := q_; subst q2_)
  have q_ := x4.cq (wr.heap.size) 7
  generalize c_x4_0_7 : x4.val.cell? ⟨wr.heap.size, 7, none⟩ = q at q_
  first | (have q2_ : q = some _ := q_; subst q2_) | (simp [go_sem] at q_; have q2_ : q = some _ := q_; subst q2_) | (simp [go_sem, *] at q_; have q2_ : q = some _ := q_; subst q2_)
  have q_ := x4.zq (wr.heap.size) 7
  generalize z_x4_0_7 : x4.val.frozen? ⟨wr.heap.size, 7, none⟩ = q at q_
  first | (have q2_ : q = false := q_; subst q2_) | (simp [go_sem] at q_; have q2_ : q = false := q_; subst q2_) | (simp [go_sem, *] at q_; have q2_ : q = false := q_; subst q2_)
  have q_ := x4.cq (wr.heap.size) 8
  generalize c_x4_0_8 : x4.val.cell? ⟨wr.heap.size, 8, none⟩ = q at q_
  first | (have q2_ : q = some _ := q_; subst q2_) | (simp [go_sem] at q_; have q2_ : q = some _ := q_; subst q2_) | (simp [go_sem, *] at q_; have q2_ : q = some _ := q_; subst q2_)
  have q_ := x4.zq (wr.heap.size) 8
  generalize z_x4_0_8 : x4.val.frozen? ⟨wr.heap.size, 8, none⟩ = q at q_
  first | (have q2_ : q = false := q_; subst q2_) | (simp [go_sem] at q_; have q2_ : q = false := q_; subst q2_) | (simp [go_sem, *] at q_; have q2_ : q = false := q_; subst q2_)
  have hb4 : Below wr.heap.size wr x4.val := belo
  replace MS := Lib.hid (MS.out.to hb4)
  replace MI := Lib.hid (MI.out.to hb4)
  have hbx4 : Below w.heap.size w x4.val := belo
  have hs4 := hbx4.size
  by_cases hm : pn ∈ (l.take j).map Pt.name
  ·obtain rfl : false = rv := by rw [← RV.out, decide_eq_false (fun h => nodup_no HP.out hm h.1), Bool.and_false]
   have AS := Lib.hid (ask_s pn _ ga gb _ false ⟨fun h => (Bool.false_ne_true h).elim, fun h => absurd hm h⟩ MS.out)
   clear RV hm
   go_wp2_with fail
   (with_reducible refine AS.out.mono ?_)
   rintro e_ w5 ⟨rfl, _, f5⟩
   have hb5 : Below w.heap.size w w5 := hbx4.trans (f5.below o2 hs4)
   go_wp2
   go_ret
   exact ⟨rfl, hb5⟩
  have AS := Lib.hid (ask_s pn _ ga gb _ true ⟨fun _ => hm, fun _ => rfl⟩ MS.out)
  have HM := Lib.hid hm
  clear hm
  go_wp2_with fail
  (with_reducible refine AS.out.mono ?_)
  rintro e_ w5 ⟨rfl, m5, f5⟩
  have hb5 : Below w.heap.size w w5 := hbx4.trans (f5.below o2 hs4)
  have l5 : wr.heap.size < x4.val.heap.size := by omega
  have e5 : w5.cell? ⟨wr.heap.size, 1, none⟩ = some (.int .i64 at_) := (f5.cell (p := ⟨wr.heap.size, 1, none⟩) l5 (by simp; omega)).trans c_x4_0_1
  have l5' : wr.heap.size < w5.heap.size := Nat.lt_of_lt_of_le l5 f5.size
  replace MI := Lib.hid (MI.out.off f5 (by omega) (by omega))
  have MS5 := Lib.hid (m5.congr (map_take_mem (f := Pt.name) HP.out))
  clear m5
  by_cases hm2 : at_ ∈ (l.take j).map Pt.at_
  ·obtain rfl : false = rv := by rw [← RV.out, decide_eq_false (fun h => nodup_no HP.out hm2 h.2), Bool.and_false]
   have AI := Lib.hid (ask_i at_ _ gc gd _ false ⟨fun h => (Bool.false_ne_true h).elim, fun h => absurd hm2 h⟩ MI.out)
   clear RV hm2
   go_wp2_with fail
   (with_reducible refine AI.out.mono ?_)
   rintro e_ w6 ⟨rfl, _, f6⟩
   have hb6 : Below w.heap.size w w6 := hb5.trans (f6.below (by omega) hb5.size)
   go_wp2
   go_ret
   exact ⟨rfl, hb6⟩
  have AI := Lib.hid (ask_i at_ _ gc gd _ true ⟨fun _ => hm2, fun _ => rfl⟩ MI.out)
  go_wp2_with fail
  (with_reducible refine AI.out.mono ?_)
  rintro e_ w6 ⟨rfl, m6, f6⟩
  have hb6 : Below w.heap.size w w6 := hb5.trans (f6.below (by omega) hb5.size)
  have MI6 := Lib.hid (m6.congr (map_take_mem (f := Pt.at_) HP.out))
  have MS6 := Lib.hid (MS5.out.off f6 (by omega) (by omega))
  have HA2 := Lib.hid (show (l.take (j + 1)).all Vd.rightPt = true ∧ ((l.take (j + 1)).map Pt.name).Nodup ∧ ((l.take (j + 1)).map Pt.at_).Nodup from ⟨allL_step HA.out.1 HP.out HQ.out, nodup_step HA.out.2.1 HP.out HM.out, nodup_step HA.out.2.2 HP.out hm2⟩)
  clear m6 hm2
  go_wp2
  go_roundw
  case rel => exact ⟨j + 1, by omega, HA2, by go_num, MS6, MI6, hb6⟩
  case measure => simp [RowKit.intOf]; omega
end Go.Proofs.Ythhokpaidekmnaa
