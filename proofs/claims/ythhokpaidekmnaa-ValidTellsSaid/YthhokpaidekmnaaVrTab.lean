/- Layer 15, the document's answer: Right of a table. -/
import Derived.Test.YthhokpaidekmnaaVdTab
import Derived.Test.YthhokpaidekmnaaVrNm
import Derived.Test.YthhokpaidekmnaaVrVw
namespace Go.Proofs.Ythhokpaidekmnaa
open Go.RowKit
set_option linter.unusedVariables false
set_option linter.unusedSimpArgs false
set_option maxRecDepth 100000
attribute [local go_sem] Later.cell Later.frozen setCell_twice
theorem take_step {α : Type} {l : List α} {P : α → Prop} {j : Nat} {c : α} (h : ∀ b ∈ l.take j, P b) (hc : l[j]? = some c) (hp : P c) : ∀ b ∈ l.take (j + 1), P b := fun b hb => by
 rw [List.take_add_one, hc] at hb
 rcases List.mem_append.1 hb with hb | hb
 ·exact h b hb
 ·obtain rfl : b = c := by simpa using hb
  exact hp
theorem not_map {α β : Type} {l : List α} {f : α → β} {s : β} (h : ∀ b ∈ l, f b ≠ s) : s ∉ l.map f := fun hm => by
 obtain ⟨a, ha, he⟩ := List.mem_map.1 hm
 exact h a ha he
theorem in_take {α β : Type} {l : List α} {f : α → β} {j k : Nat} {c : α} (hk : k < j) (hc : l[k]? = some c) : f c ∈ (l.take j).map f := by
 refine List.mem_map.2 ⟨c, ?_, rfl⟩
 refine List.mem_of_getElem? (i := k) ?_
 rw [List.getElem?_take_of_lt hk]
 exact hc
theorem rightDv_no {nm : ByteArray} {l : List Pt} (h : Vd.rightDv nm l = true → False) : Vd.rightDv nm l = false := by
 cases hb : Vd.rightDv nm l
 ·rfl
 ·exact (h hb).elim
theorem rightDv_out {nm : ByteArray} {l : List Pt} (h : Vd.rightDv nm l = true) : Vd.name nm = true ∧ l.length ≤ 64 ∧ l.all Vd.rightPt = true ∧ (l.map Pt.name).Nodup ∧ (l.map Pt.at_).Nodup := by
 unfold Vd.rightDv at h
 simp only [Bool.and_eq_true, decide_eq_true_iff] at h
 exact ⟨h.1.1, h.1.2, h.2.1, h.2.2.1, h.2.2.2⟩
set_option maxHeartbeats 16000000 in
theorem rtab_any (A : Option Addr) (l : List Dv) (n c : Nat) (w : World) (hn : l.length = n) (h : Tab w w.heap.size A l) (hs : Shp A n c) (h64 : ∀ d ∈ l, d.pts.length ≤ 64) :
  Calls Try.prog 10 #[.slice A n c] w fun e w' => e = .returned (.bool (Vd.rightTab l)) ∧ Below w.heap.size w w' := by
 have HN := Lib.hid hn
 have HH := Lib.hid h
 have H64 := Lib.hid h64
 have hcap : n ≤ 9223372036854775807 := Nat.le_trans hs.le hs.cap
 obtain ⟨rv, hrv⟩ : ∃ rv, Vd.rightTab l = rv := ⟨_, rfl⟩
 rw [hrv]
 unfold Vd.rightTab at hrv
 rw [hn] at hrv
 have RV := Lib.hid hrv
 clear hn h hs hrv h64
 by_cases c0 : n < 1
 ·have g1 : decide ((n : Int) < 1) = true := decide_eq_true (by omega)
  obtain rfl : false = rv := by rw [← RV.out, decide_eq_false (by omega)]; rfl
  clear RV c0
  go_enter Try.func10, Try.ntmps10
  go_wp2
  go_ret
  exact ⟨rfl, belo⟩
 have g0 : decide ((n : Int) < 1) = false := decide_eq_false (by omega)
 by_cases c1 : 8 < n
 ·have g1 : decide ((8 : Int) < (n : Int)) = true := decide_eq_true (by omega)
  obtain rfl : false = rv := by rw [← RV.out, decide_eq_false (by omega)]; rfl
  clear RV c1 c0
  go_enter Try.func10, Try.ntmps10
  go_wp2
  go_ret
  exact ⟨rfl, belo⟩
 have g1 : decide ((8 : Int) < (n : Int)) = false := decide_eq_false (by omega)
 rw [decide_eq_true (show 1 ≤ n ∧ n ≤ 8 by omega), Bool.true_and] at RV
 clear c0
 go_enter Try.func10, Try.ntmps10
 go_wp2
 go_loopw [3] (fun x wr => ∃ j : Nat, j ≤ n ∧ Hid ((l.take j).all (fun d => Vd.rightDv d.name d.pts) = true ∧ ((l.take j).map Dv.name).Nodup) ∧ x = .int .i64 (j : Int) ∧ Below w.heap.size w wr) (fun i _ => n - (RowKit.intOf i).toNat)
 case atStart => exact ⟨0, by omega, Lib.hid ⟨rfl, List.nodup_nil⟩, rfl, belo⟩
 case round =>
  rename World => wr
  obtain ⟨j, hj, HA, rfl, hbe⟩ := hrel
  by_cases hlt : j < n
  rotate_left
  ·obtain rfl : j = n := by omega
   obtain rfl : true = rv := by
    have h3 := HA.out
    rw [← HN.out, List.take_length] at h3
    rw [← RV.out, h3.1, decide_eq_true h3.2]
    rfl
   clear hlt hj
   go_wp2
   go_ret
   exact ⟨rfl, belo⟩
  have hltI : (j : Int) < (n : Int) := by omega
  obtain ⟨g1, o1, d, rfl, hg, hd, hok, d0, d1⟩ := (HH.out.to hbe).at_ (k := j) (by rw [HN.out]; exact hlt)
  have hgl : g1 < wr.heap.size := hg
  obtain ⟨dn, pts, PA, pc⟩ := d
  have hm64 := H64.out _ (List.mem_of_getElem? hd)
  dsimp only at d0 d1 hm64
  obtain ⟨m, hm⟩ : ∃ m, pts.length = m := ⟨_, rfl⟩
  rw [hm] at d1 hm64
  have HM := Lib.hid hm
  have HP := Lib.hid hd
  have HOK := Lib.hid hok
  clear hd hg hok hm
  go_wp2
  go_loopw [4] (fun x wz => ∃ k : Nat, k ≤ j ∧ Hid (∀ b ∈ l.take k, b.name ≠ dn) ∧ x = .int .i64 (k : Int) ∧ Below wr.heap.size wr wz) (fun i _ => j - (RowKit.intOf i).toNat)
  case atStart => exact ⟨0, by omega, Lib.hid (by simp), rfl, belo⟩
  case round =>
   rename World => wz
   obtain ⟨k, hk, HB, rfl, hbz⟩ := hrel
   have hbw : Below w.heap.size w wz := hbe.trans (hbz.mono hbe.size)
   have hgz : g1 < wz.heap.size := Nat.lt_of_lt_of_le hgl hbz.size
   have f0 : wz.cell? ⟨g1, o1 + j * 2, none⟩ = some (.string dn) := (hbz.cell (p := ⟨g1, o1 + j * 2, none⟩) hgl).trans d0
   have f1 : wz.cell? ⟨g1, o1 + j * 2 + 1, none⟩ = some (.slice PA m pc) := (hbz.cell (p := ⟨g1, o1 + j * 2 + 1, none⟩) hgl).trans d1
   by_cases hlk : k < j
   ·have hlkI : (k : Int) < (j : Int) := by omega
    have hlkn : (k : Int) < (n : Int) := by omega
    obtain ⟨g2, o2, d2, hAe, _, hd2, _, e0, _⟩ := (HH.out.to hbw).at_ (k := k) (by rw [HN.out]; omega)
    simp only [Option.some.injEq, Addr.mk.injEq] at hAe
    obtain ⟨rfl, rfl, _⟩ := hAe
    obtain ⟨dn2, pts2, PA2, pc2⟩ := d2
    dsimp only at e0
    by_cases he : dn2 = dn
    ·have e1 : (dn2.toList == dn.toList) = true := str_eq he
     obtain rfl : false = rv := by
      rw [← RV.out, decide_eq_false (fun h => nodup_no (f := Dv.name) HP.out (show dn ∈ _ from he ▸ in_take (f := Dv.name) hlk hd2) h), Bool.and_false]
     clear he RV hd2
     go_upto_region 9 with fail
     refine wp_region_lat (by kernel_rfl) (by kernel_rfl) ?_
     repeat (go_big_quiet_step (fail))
     refine wpQuiet_nil ?_
     rintro _ ⟨xq, rfl⟩
     have hz_xq := xq.bel.size
     try simp at hz_xq
     go_wp2
     go_ret
     exact ⟨rfl, belo⟩
    have e1 : (dn2.toList == dn.toList) = false := str_ne he
    have HB2 : Hid (∀ b ∈ l.take (k + 1), b.name ≠ dn) := Lib.hid (take_step (P := fun b : Dv => b.name ≠ dn) HB.out hd2 he)
    clear he hd2
    go_upto_region 9 with fail
    refine wp_region_lat (by kernel_rfl) (by kernel_rfl) ?_
    repeat (go_big_quiet_step (fail))
    refine wpQuiet_nil ?_
    rintro _ ⟨xq, rfl⟩
    have hz_xq := xq.bel.size
    try simp at hz_xq
    go_wp2
    go_roundw
    case rel => exact ⟨k + 1, by omega, HB2, by go_num, hbz.trans (xq.bel.mono hbz.size)⟩
    case measure => simp [RowKit.intOf]; omega
   obtain rfl : k = j := by omega
   have HNM : Hid (dn ∉ (l.take k).map Dv.name) := Lib.hid (not_map (f := Dv.name) HB.out)
   have HOKZ := Lib.hid (HOK.out.to hbz)
   clear hlk hk d0 d1
   have NM := Lib.hid (fun w => rname_any dn w)
   cases q1 : Vd.name dn
   ·obtain rfl : false = rv := by rw [← RV.out, allL_no HP.out (rightDv_no fun h => by have := (rightDv_out h).1; rw [q1] at this; cases this)]; rfl
    rw [q1] at NM
    clear RV q1
    go_wp2_with fail
    with_reducible refine (NM.out _).mono ?_
    rintro e_ w_ ⟨rfl, rfl⟩
    go_wp2
    go_ret
    exact ⟨rfl, belo⟩
   rw [q1] at NM
   have HQ1 := Lib.hid q1
   clear q1
   go_wp2_with fail
   with_reducible refine (NM.out _).mono ?_
   rintro e_ w_ ⟨rfl, rfl⟩
   go_wp2
   go_loopw [6] (fun x wv => ∃ q : Nat, q ≤ m ∧ Hid ((pts.take q).all Vd.rightPt = true ∧ ((pts.take q).map Pt.name).Nodup ∧ ((pts.take q).map Pt.at_).Nodup) ∧ x = .int .i64 (q : Int) ∧ Below wz.heap.size wz wv) (fun i _ => m - (RowKit.intOf i).toNat)
   case atStart => exact ⟨0, by omega, Lib.hid ⟨rfl, List.nodup_nil, List.nodup_nil⟩, rfl, belo⟩
   case round =>
    rename World => wv
    obtain ⟨q, hq, HC, rfl, hbv⟩ := hrel
    have hbvw : Below w.heap.size w wv := hbw.trans (hbv.mono hbw.size)
    by_cases hlq : q < m
    rotate_left
    ·obtain rfl : q = m := by omega
     have HA2 : Hid ((l.take (k + 1)).all (fun d => Vd.rightDv d.name d.pts) = true ∧ ((l.take (k + 1)).map Dv.name).Nodup) := Lib.hid (by
      have h3 := HC.out
      rw [← HM.out, List.take_length] at h3
      refine ⟨allL_step HA.out.1 HP.out ?_, nodup_step HA.out.2 HP.out HNM.out⟩
      unfold Vd.rightDv
      dsimp only
      rw [HQ1.out, h3.1, decide_eq_true h3.2, decide_eq_true (by rw [HM.out]; exact hm64)]
      rfl)
     clear hlq hq
     go_wp2
     go_roundw
     case rel => exact ⟨k + 1, by omega, HA2, by go_num, hbvw⟩
     case measure => simp [RowKit.intOf]; omega
    have hlqI : (q : Int) < (m : Int) := by omega
    obtain ⟨g3, o3, p, hPA, hg3, hp, q0, q1, q2, q3, q4, q5, q6, q7, q8⟩ := Pt.at_cells (HOKZ.out.to hbv).rc (k := q) (by rw [HM.out]; exact hlq)
    have HPF := Lib.hid (HOK.out.fit p (List.mem_of_getElem? hp))
    dsimp only at hPA
    subst hPA
    have hg3' : g3 < wv.heap.size := hg3
    have HPP := Lib.hid hp
    have HNP : Hid (Vd.rightPt p = false → false = rv) := Lib.hid (fun h => by
     rw [← RV.out, allL_no HP.out (rightDv_no fun hh => by have h9 := (rightDv_out hh).2.2.1; rw [allL_no HPP.out h] at h9; cases h9)]; rfl)
    obtain ⟨pn, at_, dg, sg, ⟨ln, ld⟩, ⟨hn, hd⟩, un⟩ := p
    dsimp only at q0 q1 q2 q3 q4 q5 q6 q7 q8
    clear hp hg3
    have PN := Lib.hid (fun w => rname_any pn w)
    have LW := Lib.hid (fun w => rrightD_any ln ld w HPF.out.2.2.1.1 HPF.out.2.2.1.2.1)
    have HI := Lib.hid (fun w => rrightD_any hn hd w HPF.out.2.2.2.1 HPF.out.2.2.2.2.1)
    have KN := Lib.hid (fun w => rknown_any un w)
    obtain ⟨kb, hkb⟩ : ∃ b, (Vd.known un).isSome = b := ⟨_, rfl⟩
    obtain ⟨⟨ub, u1, u2⟩, hu⟩ : ∃ u, (Vd.known un).getD un0 = u := ⟨_, rfl⟩
    unfold unV2 at KN
    rw [hkb, hu] at KN
    have RPE : Hid (Vd.rightPt ⟨pn, at_, dg, sg, ⟨ln, ld⟩, ⟨hn, hd⟩, un⟩ = (Vd.name pn && decide (0 ≤ at_ ∧ at_ < 64 ∧ 0 ≤ dg ∧ dg ≤ 6) && Vd.rightD ⟨ln, ld⟩ && Vd.rightD ⟨hn, hd⟩ && decide (Vd.mil ⟨ln, ld⟩ ≤ Vd.mil ⟨hn, hd⟩) && kb)) := Lib.hid (by unfold Vd.rightPt; dsimp only; rw [hkb])
    clear hkb hu
    cases b1 : Vd.name pn
    ·obtain rfl : false = rv := HNP.out (by rw [RPE.out, b1]; rfl)
     rw [b1] at PN
     clear RV HNP RPE b1
     go_wp2_with fail
     with_reducible refine (KN.out _).mono ?_
     rintro e_x1 w_x1 ⟨rfl, hb_x1⟩
     obtain ⟨x1, rfl⟩ := later_is hb_x1
     clear hb_x1
     have hz_x1 := x1.bel.size
     try simp at hz_x1
     have l_x1_0 : wv.heap.size < x1.val.heap.size := by omega
     have m_x1_0 : wv.heap.size < x1.val.heap.size + 1 := by omega
     have q_ := x1.cq (wv.heap.size) 0
     generalize c_x1_0_0 : x1.val.cell? ⟨wv.heap.size, 0, none⟩ = q at q_
     first | (have q2_ : q = some _ := q_; subst q2_) | (simp [go_sem] at q_; have q2_ : q = some _ := q_; subst q2_) | (simp [go_sem, *] at q_; have q2_ : q = some _ := q_; subst q2_)
     have q_ := x1.cq (wv.heap.size) 1
     generalize c_x1_0_1 : x1.val.cell? ⟨wv.heap.size, 1, none⟩ = q at q_
     first | (have q2_ : q = some _ := q_; subst q2_) | (simp [go_sem] at q_; have q2_ : q = some _ := q_; subst q2_) | (simp [go_sem, *] at q_; have q2_ : q = some _ := q_; subst q2_)
     have q_ := x1.cq (wv.heap.size) 2
     generalize c_x1_0_2 : x1.val.cell? ⟨wv.heap.size, 2, none⟩ = q at q_
     first | (have q2_ : q = some _ := q_; subst q2_) | (simp [go_sem] at q_; have q2_ : q = some _ := q_; subst q2_) | (simp [go_sem, *] at q_; have q2_ : q = some _ := q_; subst q2_)
     have q_ := x1.cq (wv.heap.size) 3
     generalize c_x1_0_3 : x1.val.cell? ⟨wv.heap.size, 3, none⟩ = q at q_
     first | (have q2_ : q = some _ := q_; subst q2_) | (simp [go_sem] at q_; have q2_ : q = some _ := q_; subst q2_) | (simp [go_sem, *] at q_; have q2_ : q = some _ := q_; subst q2_)
     have q_ := x1.cq (wv.heap.size) 4
     generalize c_x1_0_4 : x1.val.cell? ⟨wv.heap.size, 4, none⟩ = q at q_
     first | (have q2_ : q = some _ := q_; subst q2_) | (simp [go_sem] at q_; have q2_ : q = some _ := q_; subst q2_) | (simp [go_sem, *] at q_; have q2_ : q = some _ := q_; subst q2_)
     have q_ := x1.cq (wv.heap.size) 5
     generalize c_x1_0_5 : x1.val.cell? ⟨wv.heap.size, 5, none⟩ = q at q_
     first | (have q2_ : q = some _ := q_; subst q2_) | (simp [go_sem] at q_; have q2_ : q = some _ := q_; subst q2_) | (simp [go_sem, *] at q_; have q2_ : q = some _ := q_; subst q2_)
     have q_ := x1.cq (wv.heap.size) 6
     generalize c_x1_0_6 : x1.val.cell? ⟨wv.heap.size, 6, none⟩ = q at q_
     first | (have q2_ : q = some _ := q_; subst q2_) | (simp [go_sem] at q_; have q2_ : q = some _ := q_; subst q2_) | (simp [go_sem, *] at q_; have q2_ : q = some _ := q_; subst q2_)
     have q_ := x1.cq (wv.heap.size) 7
     generalize c_x1_0_7 : x1.val.cell? ⟨wv.heap.size, 7, none⟩ = q at q_
     first | (have q2_ : q = some _ := q_; subst q2_) | (simp [go_sem] at q_; have q2_ : q = some _ := q_; subst q2_) | (simp [go_sem, *] at q_; have q2_ : q = some _ := q_; subst q2_)
     have q_ := x1.cq (wv.heap.size) 8
     generalize c_x1_0_8 : x1.val.cell? ⟨wv.heap.size, 8, none⟩ = q at q_
     first | (have q2_ : q = some _ := q_; subst q2_) | (simp [go_sem] at q_; have q2_ : q = some _ := q_; subst q2_) | (simp [go_sem, *] at q_; have q2_ : q = some _ := q_; subst q2_)
     go_wp2_with fail
     with_reducible refine (PN.out _).mono ?_
     rintro e_ w_ ⟨rfl, rfl⟩
     go_wp2
     go_ret
     exact ⟨rfl, belo⟩
    rw [b1] at PN RPE
    rw [Bool.true_and] at RPE
    clear b1
    by_cases c1 : at_ < 0
    ·have t0 : decide (at_ < 0) = true := decide_eq_true c1
     obtain rfl : false = rv := HNP.out (by rw [RPE.out, decide_eq_false (by omega)]; rfl)
     clear RV HNP RPE c1
     go_wp2_with fail
     with_reducible refine (KN.out _).mono ?_
     rintro e_x1 w_x1 ⟨rfl, hb_x1⟩
     obtain ⟨x1, rfl⟩ := later_is hb_x1
     clear hb_x1
     have hz_x1 := x1.bel.size
     try simp at hz_x1
     have l_x1_0 : wv.heap.size < x1.val.heap.size := by omega
     have m_x1_0 : wv.heap.size < x1.val.heap.size + 1 := by omega
     have q_ := x1.cq (wv.heap.size) 0
     generalize c_x1_0_0 : x1.val.cell? ⟨wv.heap.size, 0, none⟩ = q at q_
     first | (have q2_ : q = some _ := q_; subst q2_) | (simp [go_sem] at q_; have q2_ : q = some _ := q_; subst q2_) | (simp [go_sem, *] at q_; have q2_ : q = some _ := q_; subst q2_)
     have q_ := x1.cq (wv.heap.size) 1
     generalize c_x1_0_1 : x1.val.cell? ⟨wv.heap.size, 1, none⟩ = q at q_
     first | (have q2_ : q = some _ := q_; subst q2_) | (simp [go_sem] at q_; have q2_ : q = some _ := q_; subst q2_) | (simp [go_sem, *] at q_; have q2_ : q = some _ := q_; subst q2_)
     have q_ := x1.cq (wv.heap.size) 2
     generalize c_x1_0_2 : x1.val.cell? ⟨wv.heap.size, 2, none⟩ = q at q_
     first | (have q2_ : q = some _ := q_; subst q2_) | (simp [go_sem] at q_; have q2_ : q = some _ := q_; subst q2_) | (simp [go_sem, *] at q_; have q2_ : q = some _ := q_; subst q2_)
     have q_ := x1.cq (wv.heap.size) 3
     generalize c_x1_0_3 : x1.val.cell? ⟨wv.heap.size, 3, none⟩ = q at q_
     first | (have q2_ : q = some _ := q_; subst q2_) | (simp [go_sem] at q_; have q2_ : q = some _ := q_; subst q2_) | (simp [go_sem, *] at q_; have q2_ : q = some _ := q_; subst q2_)
     have q_ := x1.cq (wv.heap.size) 4
     generalize c_x1_0_4 : x1.val.cell? ⟨wv.heap.size, 4, none⟩ = q at q_
     first | (have q2_ : q = some _ := q_; subst q2_) | (simp [go_sem] at q_; have q2_ : q = some _ := q_; subst q2_) | (simp [go_sem, *] at q_; have q2_ : q = some _ := q_; subst q2_)
     have q_ := x1.cq (wv.heap.size) 5
     generalize c_x1_0_5 : x1.val.cell? ⟨wv.heap.size, 5, none⟩ = q at q_
     first | (have q2_ : q = some _ := q_; subst q2_) | (simp [go_sem] at q_; have q2_ : q = some _ := q_; subst q2_) | (simp [go_sem, *] at q_; have q2_ : q = some _ := q_; subst q2_)
     have q_ := x1.cq (wv.heap.size) 6
     generalize c_x1_0_6 : x1.val.cell? ⟨wv.heap.size, 6, none⟩ = q at q_
     first | (have q2_ : q = some _ := q_; subst q2_) | (simp [go_sem] at q_; have q2_ : q = some _ := q_; subst q2_) | (simp [go_sem, *] at q_; have q2_ : q = some _ := q_; subst q2_)
     have q_ := x1.cq (wv.heap.size) 7
     generalize c_x1_0_7 : x1.val.cell? ⟨wv.heap.size, 7, none⟩ = q at q_
     first | (have q2_ : q = some _ := q_; subst q2_) | (simp [go_sem] at q_; have q2_ : q = some _ := q_; subst q2_) | (simp [go_sem, *] at q_; have q2_ : q = some _ := q_; subst q2_)
     have q_ := x1.cq (wv.heap.size) 8
     generalize c_x1_0_8 : x1.val.cell? ⟨wv.heap.size, 8, none⟩ = q at q_
     first | (have q2_ : q = some _ := q_; subst q2_) | (simp [go_sem] at q_; have q2_ : q = some _ := q_; subst q2_) | (simp [go_sem, *] at q_; have q2_ : q = some _ := q_; subst q2_)
     go_wp2_with fail
     with_reducible refine (PN.out _).mono ?_
     rintro e_ w_ ⟨rfl, rfl⟩
     go_wp2
     go_ret
     exact ⟨rfl, belo⟩
    have t0 : decide (at_ < 0) = false := decide_eq_false c1
    by_cases c2 : 63 < at_
    ·have t1 : decide (63 < at_) = true := decide_eq_true c2
     obtain rfl : false = rv := HNP.out (by rw [RPE.out, decide_eq_false (by omega)]; rfl)
     clear RV HNP RPE c1 c2
     go_wp2_with fail
     with_reducible refine (KN.out _).mono ?_
     rintro e_x1 w_x1 ⟨rfl, hb_x1⟩
     obtain ⟨x1, rfl⟩ := later_is hb_x1
     clear hb_x1
     have hz_x1 := x1.bel.size
     try simp at hz_x1
     have l_x1_0 : wv.heap.size < x1.val.heap.size := by omega
     have m_x1_0 : wv.heap.size < x1.val.heap.size + 1 := by omega
     have q_ := x1.cq (wv.heap.size) 0
     generalize c_x1_0_0 : x1.val.cell? ⟨wv.heap.size, 0, none⟩ = q at q_
     first | (have q2_ : q = some _ := q_; subst q2_) | (simp [go_sem] at q_; have q2_ : q = some _ := q_; subst q2_) | (simp [go_sem, *] at q_; have q2_ : q = some _ := q_; subst q2_)
     have q_ := x1.cq (wv.heap.size) 1
     generalize c_x1_0_1 : x1.val.cell? ⟨wv.heap.size, 1, none⟩ = q at q_
     first | (have q2_ : q = some _ := q_; subst q2_) | (simp [go_sem] at q_; have q2_ : q = some _ := q_; subst q2_) | (simp [go_sem, *] at q_; have q2_ : q = some _ := q_; subst q2_)
     have q_ := x1.cq (wv.heap.size) 2
     generalize c_x1_0_2 : x1.val.cell? ⟨wv.heap.size, 2, none⟩ = q at q_
     first | (have q2_ : q = some _ := q_; subst q2_) | (simp [go_sem] at q_; have q2_ : q = some _ := q_; subst q2_) | (simp [go_sem, *] at q_; have q2_ : q = some _ := q_; subst q2_)
     have q_ := x1.cq (wv.heap.size) 3
     generalize c_x1_0_3 : x1.val.cell? ⟨wv.heap.size, 3, none⟩ = q at q_
     first | (have q2_ : q = some _ := q_; subst q2_) | (simp [go_sem] at q_; have q2_ : q = some _ := q_; subst q2_) | (simp [go_sem, *] at q_; have q2_ : q = some _ := q_; subst q2_)
     have q_ := x1.cq (wv.heap.size) 4
     generalize c_x1_0_4 : x1.val.cell? ⟨wv.heap.size, 4, none⟩ = q at q_
     first | (have q2_ : q = some _ := q_; subst q2_) | (simp [go_sem] at q_; have q2_ : q = some _ := q_; subst q2_) | (simp [go_sem, *] at q_; have q2_ : q = some _ := q_; subst q2_)
     have q_ := x1.cq (wv.heap.size) 5
     generalize c_x1_0_5 : x1.val.cell? ⟨wv.heap.size, 5, none⟩ = q at q_
     first | (have q2_ : q = some _ := q_; subst q2_) | (simp [go_sem] at q_; have q2_ : q = some _ := q_; subst q2_) | (simp [go_sem, *] at q_; have q2_ : q = some _ := q_; subst q2_)
     have q_ := x1.cq (wv.heap.size) 6
     generalize c_x1_0_6 : x1.val.cell? ⟨wv.heap.size, 6, none⟩ = q at q_
     first | (have q2_ : q = some _ := q_; subst q2_) | (simp [go_sem] at q_; have q2_ : q = some _ := q_; subst q2_) | (simp [go_sem, *] at q_; have q2_ : q = some _ := q_; subst q2_)
     have q_ := x1.cq (wv.heap.size) 7
     generalize c_x1_0_7 : x1.val.cell? ⟨wv.heap.size, 7, none⟩ = q at q_
     first | (have q2_ : q = some _ := q_; subst q2_) | (simp [go_sem] at q_; have q2_ : q = some _ := q_; subst q2_) | (simp [go_sem, *] at q_; have q2_ : q = some _ := q_; subst q2_)
     have q_ := x1.cq (wv.heap.size) 8
     generalize c_x1_0_8 : x1.val.cell? ⟨wv.heap.size, 8, none⟩ = q at q_
     first | (have q2_ : q = some _ := q_; subst q2_) | (simp [go_sem] at q_; have q2_ : q = some _ := q_; subst q2_) | (simp [go_sem, *] at q_; have q2_ : q = some _ := q_; subst q2_)
     go_wp2_with fail
     with_reducible refine (PN.out _).mono ?_
     rintro e_ w_ ⟨rfl, rfl⟩
     go_wp2
     go_ret
     exact ⟨rfl, belo⟩
    have t1 : decide (63 < at_) = false := decide_eq_false c2
    by_cases c3 : dg < 0
    ·have t2 : decide (dg < 0) = true := decide_eq_true c3
     obtain rfl : false = rv := HNP.out (by rw [RPE.out, decide_eq_false (by omega)]; rfl)
     clear RV HNP RPE c1 c2 c3
     go_wp2_with fail
     with_reducible refine (KN.out _).mono ?_
     rintro e_x1 w_x1 ⟨rfl, hb_x1⟩
     obtain ⟨x1, rfl⟩ := later_is hb_x1
     clear hb_x1
     have hz_x1 := x1.bel.size
     try simp at hz_x1
     have l_x1_0 : wv.heap.size < x1.val.heap.size := by omega
     have m_x1_0 : wv.heap.size < x1.val.heap.size + 1 := by omega
     have q_ := x1.cq (wv.heap.size) 0
     generalize c_x1_0_0 : x1.val.cell? ⟨wv.heap.size, 0, none⟩ = q at q_
     first | (have q2_ : q = some _ := q_; subst q2_) | (simp [go_sem] at q_; have q2_ : q = some _ := q_; subst q2_) | (simp [go_sem, *] at q_; have q2_ : q = some _ := q_; subst q2_)
     have q_ := x1.cq (wv.heap.size) 1
     generalize c_x1_0_1 : x1.val.cell? ⟨wv.heap.size, 1, none⟩ = q at q_
     first | (have q2_ : q = some _ := q_; subst q2_) | (simp [go_sem] at q_; have q2_ : q = some _ := q_; subst q2_) | (simp [go_sem, *] at q_; have q2_ : q = some _ := q_; subst q2_)
     have q_ := x1.cq (wv.heap.size) 2
     generalize c_x1_0_2 : x1.val.cell? ⟨wv.heap.size, 2, none⟩ = q at q_
     first | (have q2_ : q = some _ := q_; subst q2_) | (simp [go_sem] at q_; have q2_ : q = some _ := q_; subst q2_) | (simp [go_sem, *] at q_; have q2_ : q = some _ := q_; subst q2_)
     have q_ := x1.cq (wv.heap.size) 3
     generalize c_x1_0_3 : x1.val.cell? ⟨wv.heap.size, 3, none⟩ = q at q_
     first | (have q2_ : q = some _ := q_; subst q2_) | (simp [go_sem] at q_; have q2_ : q = some _ := q_; subst q2_) | (simp [go_sem, *] at q_; have q2_ : q = some _ := q_; subst q2_)
     have q_ := x1.cq (wv.heap.size) 4
     generalize c_x1_0_4 : x1.val.cell? ⟨wv.heap.size, 4, none⟩ = q at q_
     first | (have q2_ : q = some _ := q_; subst q2_) | (simp [go_sem] at q_; have q2_ : q = some _ := q_; subst q2_) | (simp [go_sem, *] at q_; have q2_ : q = some _ := q_; subst q2_)
     have q_ := x1.cq (wv.heap.size) 5
     generalize c_x1_0_5 : x1.val.cell? ⟨wv.heap.size, 5, none⟩ = q at q_
     first | (have q2_ : q = some _ := q_; subst q2_) | (simp [go_sem] at q_; have q2_ : q = some _ := q_; subst q2_) | (simp [go_sem, *] at q_; have q2_ : q = some _ := q_; subst q2_)
     have q_ := x1.cq (wv.heap.size) 6
     generalize c_x1_0_6 : x1.val.cell? ⟨wv.heap.size, 6, none⟩ = q at q_
     first | (have q2_ : q = some _ := q_; subst q2_) | (simp [go_sem] at q_; have q2_ : q = some _ := q_; subst q2_) | (simp [go_sem, *] at q_; have q2_ : q = some _ := q_; subst q2_)
     have q_ := x1.cq (wv.heap.size) 7
     generalize c_x1_0_7 : x1.val.cell? ⟨wv.heap.size, 7, none⟩ = q at q_
     first | (have q2_ : q = some _ := q_; subst q2_) | (simp [go_sem] at q_; have q2_ : q = some _ := q_; subst q2_) | (simp [go_sem, *] at q_; have q2_ : q = some _ := q_; subst q2_)
     have q_ := x1.cq (wv.heap.size) 8
     generalize c_x1_0_8 : x1.val.cell? ⟨wv.heap.size, 8, none⟩ = q at q_
     first | (have q2_ : q = some _ := q_; subst q2_) | (simp [go_sem] at q_; have q2_ : q = some _ := q_; subst q2_) | (simp [go_sem, *] at q_; have q2_ : q = some _ := q_; subst q2_)
     go_wp2_with fail
     with_reducible refine (PN.out _).mono ?_
     rintro e_ w_ ⟨rfl, rfl⟩
     go_wp2
     go_ret
     exact ⟨rfl, belo⟩
    have t2 : decide (dg < 0) = false := decide_eq_false c3
    by_cases c4 : 6 < dg
    ·have t3 : decide (6 < dg) = true := decide_eq_true c4
     obtain rfl : false = rv := HNP.out (by rw [RPE.out, decide_eq_false (by omega)]; rfl)
     clear RV HNP RPE c1 c2 c3 c4
     go_wp2_with fail
     with_reducible refine (KN.out _).mono ?_
     rintro e_x1 w_x1 ⟨rfl, hb_x1⟩
     obtain ⟨x1, rfl⟩ := later_is hb_x1
     clear hb_x1
     have hz_x1 := x1.bel.size
     try simp at hz_x1
     have l_x1_0 : wv.heap.size < x1.val.heap.size := by omega
     have m_x1_0 : wv.heap.size < x1.val.heap.size + 1 := by omega
     have q_ := x1.cq (wv.heap.size) 0
     generalize c_x1_0_0 : x1.val.cell? ⟨wv.heap.size, 0, none⟩ = q at q_
     first | (have q2_ : q = some _ := q_; subst q2_) | (simp [go_sem] at q_; have q2_ : q = some _ := q_; subst q2_) | (simp [go_sem, *] at q_; have q2_ : q = some _ := q_; subst q2_)
     have q_ := x1.cq (wv.heap.size) 1
     generalize c_x1_0_1 : x1.val.cell? ⟨wv.heap.size, 1, none⟩ = q at q_
     first | (have q2_ : q = some _ := q_; subst q2_) | (simp [go_sem] at q_; have q2_ : q = some _ := q_; subst q2_) | (simp [go_sem, *] at q_; have q2_ : q = some _ := q_; subst q2_)
     have q_ := x1.cq (wv.heap.size) 2
     generalize c_x1_0_2 : x1.val.cell? ⟨wv.heap.size, 2, none⟩ = q at q_
     first | (have q2_ : q = some _ := q_; subst q2_) | (simp [go_sem] at q_; have q2_ : q = some _ := q_; subst q2_) | (simp [go_sem, *] at q_; have q2_ : q = some _ := q_; subst q2_)
     have q_ := x1.cq (wv.heap.size) 3
     generalize c_x1_0_3 : x1.val.cell? ⟨wv.heap.size, 3, none⟩ = q at q_
     first | (have q2_ : q = some _ := q_; subst q2_) | (simp [go_sem] at q_; have q2_ : q = some _ := q_; subst q2_) | (simp [go_sem, *] at q_; have q2_ : q = some _ := q_; subst q2_)
     have q_ := x1.cq (wv.heap.size) 4
     generalize c_x1_0_4 : x1.val.cell? ⟨wv.heap.size, 4, none⟩ = q at q_
     first | (have q2_ : q = some _ := q_; subst q2_) | (simp [go_sem] at q_; have q2_ : q = some _ := q_; subst q2_) | (simp [go_sem, *] at q_; have q2_ : q = some _ := q_; subst q2_)
     have q_ := x1.cq (wv.heap.size) 5
     generalize c_x1_0_5 : x1.val.cell? ⟨wv.heap.size, 5, none⟩ = q at q_
     first | (have q2_ : q = some _ := q_; subst q2_) | (simp [go_sem] at q_; have q2_ : q = some _ := q_; subst q2_) | (simp [go_sem, *] at q_; have q2_ : q = some _ := q_; subst q2_)
     have q_ := x1.cq (wv.heap.size) 6
     generalize c_x1_0_6 : x1.val.cell? ⟨wv.heap.size, 6, none⟩ = q at q_
     first | (have q2_ : q = some _ := q_; subst q2_) | (simp [go_sem] at q_; have q2_ : q = some _ := q_; subst q2_) | (simp [go_sem, *] at q_; have q2_ : q = some _ := q_; subst q2_)
     have q_ := x1.cq (wv.heap.size) 7
     generalize c_x1_0_7 : x1.val.cell? ⟨wv.heap.size, 7, none⟩ = q at q_
     first | (have q2_ : q = some _ := q_; subst q2_) | (simp [go_sem] at q_; have q2_ : q = some _ := q_; subst q2_) | (simp [go_sem, *] at q_; have q2_ : q = some _ := q_; subst q2_)
     have q_ := x1.cq (wv.heap.size) 8
     generalize c_x1_0_8 : x1.val.cell? ⟨wv.heap.size, 8, none⟩ = q at q_
     first | (have q2_ : q = some _ := q_; subst q2_) | (simp [go_sem] at q_; have q2_ : q = some _ := q_; subst q2_) | (simp [go_sem, *] at q_; have q2_ : q = some _ := q_; subst q2_)
     go_wp2_with fail
     with_reducible refine (PN.out _).mono ?_
     rintro e_ w_ ⟨rfl, rfl⟩
     go_wp2
     go_ret
     exact ⟨rfl, belo⟩
    have t3 : decide (6 < dg) = false := decide_eq_false c4
    rw [decide_eq_true (show 0 ≤ at_ ∧ at_ < 64 ∧ 0 ≤ dg ∧ dg ≤ 6 by omega), Bool.true_and] at RPE
    clear c1 c2 c3 c4
    cases r1 : Vd.rightD ⟨ln, ld⟩
    ·obtain rfl : false = rv := HNP.out (by rw [RPE.out, r1]; rfl)
     rw [r1] at LW
     clear RV HNP RPE r1
     go_wp2_with fail
     with_reducible refine (KN.out _).mono ?_
     rintro e_x1 w_x1 ⟨rfl, hb_x1⟩
     obtain ⟨x1, rfl⟩ := later_is hb_x1
     clear hb_x1
     have hz_x1 := x1.bel.size
     try simp at hz_x1
     have l_x1_0 : wv.heap.size < x1.val.heap.size := by omega
     have m_x1_0 : wv.heap.size < x1.val.heap.size + 1 := by omega
     have q_ := x1.cq (wv.heap.size) 0
     generalize c_x1_0_0 : x1.val.cell? ⟨wv.heap.size, 0, none⟩ = q at q_
     first | (have q2_ : q = some _ := q_; subst q2_) | (simp [go_sem] at q_; have q2_ : q = some _ := q_; subst q2_) | (simp [go_sem, *] at q_; have q2_ : q = some _ := q_; subst q2_)
     have q_ := x1.cq (wv.heap.size) 1
     generalize c_x1_0_1 : x1.val.cell? ⟨wv.heap.size, 1, none⟩ = q at q_
     first | (have q2_ : q = some _ := q_; subst q2_) | (simp [go_sem] at q_; have q2_ : q = some _ := q_; subst q2_) | (simp [go_sem, *] at q_; have q2_ : q = some _ := q_; subst q2_)
     have q_ := x1.cq (wv.heap.size) 2
     generalize c_x1_0_2 : x1.val.cell? ⟨wv.heap.size, 2, none⟩ = q at q_
     first | (have q2_ : q = some _ := q_; subst q2_) | (simp [go_sem] at q_; have q2_ : q = some _ := q_; subst q2_) | (simp [go_sem, *] at q_; have q2_ : q = some _ := q_; subst q2_)
     have q_ := x1.cq (wv.heap.size) 3
     generalize c_x1_0_3 : x1.val.cell? ⟨wv.heap.size, 3, none⟩ = q at q_
     first | (have q2_ : q = some _ := q_; subst q2_) | (simp [go_sem] at q_; have q2_ : q = some _ := q_; subst q2_) | (simp [go_sem, *] at q_; have q2_ : q = some _ := q_; subst q2_)
     have q_ := x1.cq (wv.heap.size) 4
     generalize c_x1_0_4 : x1.val.cell? ⟨wv.heap.size, 4, none⟩ = q at q_
     first | (have q2_ : q = some _ := q_; subst q2_) | (simp [go_sem] at q_; have q2_ : q = some _ := q_; subst q2_) | (simp [go_sem, *] at q_; have q2_ : q = some _ := q_; subst q2_)
     have q_ := x1.cq (wv.heap.size) 5
     generalize c_x1_0_5 : x1.val.cell? ⟨wv.heap.size, 5, none⟩ = q at q_
     first | (have q2_ : q = some _ := q_; subst q2_) | (simp [go_sem] at q_; have q2_ : q = some _ := q_; subst q2_) | (simp [go_sem, *] at q_; have q2_ : q = some _ := q_; subst q2_)
     have q_ := x1.cq (wv.heap.size) 6
     generalize c_x1_0_6 : x1.val.cell? ⟨wv.heap.size, 6, none⟩ = q at q_
     first | (have q2_ : q = some _ := q_; subst q2_) | (simp [go_sem] at q_; have q2_ : q = some _ := q_; subst q2_) | (simp [go_sem, *] at q_; have q2_ : q = some _ := q_; subst q2_)
     have q_ := x1.cq (wv.heap.size) 7
     generalize c_x1_0_7 : x1.val.cell? ⟨wv.heap.size, 7, none⟩ = q at q_
     first | (have q2_ : q = some _ := q_; subst q2_) | (simp [go_sem] at q_; have q2_ : q = some _ := q_; subst q2_) | (simp [go_sem, *] at q_; have q2_ : q = some _ := q_; subst q2_)
     have q_ := x1.cq (wv.heap.size) 8
     generalize c_x1_0_8 : x1.val.cell? ⟨wv.heap.size, 8, none⟩ = q at q_
     first | (have q2_ : q = some _ := q_; subst q2_) | (simp [go_sem] at q_; have q2_ : q = some _ := q_; subst q2_) | (simp [go_sem, *] at q_; have q2_ : q = some _ := q_; subst q2_)
     go_wp2_with fail
     with_reducible refine (PN.out _).mono ?_
     rintro e_ w_ ⟨rfl, rfl⟩
     go_wp2_with fail
     with_reducible refine (LW.out _).mono ?_
     rintro e_x2 w_x2 ⟨rfl, hb_x2⟩
     obtain ⟨x2, rfl⟩ := later_is hb_x2
     clear hb_x2
     have hz_x2 := x2.bel.size
     try simp at hz_x2
     replace c_x1_0_0 := x2.carry c_x1_0_0
     replace c_x1_0_1 := x2.carry c_x1_0_1
     replace c_x1_0_2 := x2.carry c_x1_0_2
     replace c_x1_0_3 := x2.carry c_x1_0_3
     replace c_x1_0_4 := x2.carry c_x1_0_4
     replace c_x1_0_5 := x2.carry c_x1_0_5
     replace c_x1_0_6 := x2.carry c_x1_0_6
     replace c_x1_0_7 := x2.carry c_x1_0_7
     replace c_x1_0_8 := x2.carry c_x1_0_8
     have lc_x2_0 : wv.heap.size < x2.val.heap.size := by omega
     have mc_x2_0 : wv.heap.size < x2.val.heap.size + 1 := by omega
     go_wp2
     go_ret
     exact ⟨rfl, belo⟩
    cases r2 : Vd.rightD ⟨hn, hd⟩
    ·obtain rfl : false = rv := HNP.out (by rw [RPE.out, r1, r2]; rfl)
     rw [r1] at LW
     rw [r2] at HI
     clear RV HNP RPE r1 r2
     go_wp2_with fail
     with_reducible refine (KN.out _).mono ?_
     rintro e_x1 w_x1 ⟨rfl, hb_x1⟩
     obtain ⟨x1, rfl⟩ := later_is hb_x1
     clear hb_x1
     have hz_x1 := x1.bel.size
     try simp at hz_x1
     have l_x1_0 : wv.heap.size < x1.val.heap.size := by omega
     have m_x1_0 : wv.heap.size < x1.val.heap.size + 1 := by omega
     have q_ := x1.cq (wv.heap.size) 0
     generalize c_x1_0_0 : x1.val.cell? ⟨wv.heap.size, 0, none⟩ = q at q_
     first | (have q2_ : q = some _ := q_; subst q2_) | (simp [go_sem] at q_; have q2_ : q = some _ := q_; subst q2_) | (simp [go_sem, *] at q_; have q2_ : q = some _ := q_; subst q2_)
     have q_ := x1.cq (wv.heap.size) 1
     generalize c_x1_0_1 : x1.val.cell? ⟨wv.heap.size, 1, none⟩ = q at q_
     first | (have q2_ : q = some _ := q_; subst q2_) | (simp [go_sem] at q_; have q2_ : q = some _ := q_; subst q2_) | (simp [go_sem, *] at q_; have q2_ : q = some _ := q_; subst q2_)
     have q_ := x1.cq (wv.heap.size) 2
     generalize c_x1_0_2 : x1.val.cell? ⟨wv.heap.size, 2, none⟩ = q at q_
     first | (have q2_ : q = some _ := q_; subst q2_) | (simp [go_sem] at q_; have q2_ : q = some _ := q_; subst q2_) | (simp [go_sem, *] at q_; have q2_ : q = some _ := q_; subst q2_)
     have q_ := x1.cq (wv.heap.size) 3
     generalize c_x1_0_3 : x1.val.cell? ⟨wv.heap.size, 3, none⟩ = q at q_
     first | (have q2_ : q = some _ := q_; subst q2_) | (simp [go_sem] at q_; have q2_ : q = some _ := q_; subst q2_) | (simp [go_sem, *] at q_; have q2_ : q = some _ := q_; subst q2_)
     have q_ := x1.cq (wv.heap.size) 4
     generalize c_x1_0_4 : x1.val.cell? ⟨wv.heap.size, 4, none⟩ = q at q_
     first | (have q2_ : q = some _ := q_; subst q2_) | (simp [go_sem] at q_; have q2_ : q = some _ := q_; subst q2_) | (simp [go_sem, *] at q_; have q2_ : q = some _ := q_; subst q2_)
     have q_ := x1.cq (wv.heap.size) 5
     generalize c_x1_0_5 : x1.val.cell? ⟨wv.heap.size, 5, none⟩ = q at q_
     first | (have q2_ : q = some _ := q_; subst q2_) | (simp [go_sem] at q_; have q2_ : q = some _ := q_; subst q2_) | (simp [go_sem, *] at q_; have q2_ : q = some _ := q_; subst q2_)
     have q_ := x1.cq (wv.heap.size) 6
     generalize c_x1_0_6 : x1.val.cell? ⟨wv.heap.size, 6, none⟩ = q at q_
     first | (have q2_ : q = some _ := q_; subst q2_) | (simp [go_sem] at q_; have q2_ : q = some _ := q_; subst q2_) | (simp [go_sem, *] at q_; have q2_ : q = some _ := q_; subst q2_)
     have q_ := x1.cq (wv.heap.size) 7
     generalize c_x1_0_7 : x1.val.cell? ⟨wv.heap.size, 7, none⟩ = q at q_
     first | (have q2_ : q = some _ := q_; subst q2_) | (simp [go_sem] at q_; have q2_ : q = some _ := q_; subst q2_) | (simp [go_sem, *] at q_; have q2_ : q = some _ := q_; subst q2_)
     have q_ := x1.cq (wv.heap.size) 8
     generalize c_x1_0_8 : x1.val.cell? ⟨wv.heap.size, 8, none⟩ = q at q_
     first | (have q2_ : q = some _ := q_; subst q2_) | (simp [go_sem] at q_; have q2_ : q = some _ := q_; subst q2_) | (simp [go_sem, *] at q_; have q2_ : q = some _ := q_; subst q2_)
     go_wp2_with fail
     with_reducible refine (PN.out _).mono ?_
     rintro e_ w_ ⟨rfl, rfl⟩
     go_wp2_with fail
     with_reducible refine (LW.out _).mono ?_
     rintro e_x2 w_x2 ⟨rfl, hb_x2⟩
     obtain ⟨x2, rfl⟩ := later_is hb_x2
     clear hb_x2
     have hz_x2 := x2.bel.size
     try simp at hz_x2
     replace c_x1_0_0 := x2.carry c_x1_0_0
     replace c_x1_0_1 := x2.carry c_x1_0_1
     replace c_x1_0_2 := x2.carry c_x1_0_2
     replace c_x1_0_3 := x2.carry c_x1_0_3
     replace c_x1_0_4 := x2.carry c_x1_0_4
     replace c_x1_0_5 := x2.carry c_x1_0_5
     replace c_x1_0_6 := x2.carry c_x1_0_6
     replace c_x1_0_7 := x2.carry c_x1_0_7
     replace c_x1_0_8 := x2.carry c_x1_0_8
     have lc_x2_0 : wv.heap.size < x2.val.heap.size := by omega
     have mc_x2_0 : wv.heap.size < x2.val.heap.size + 1 := by omega
     go_wp2_with fail
     with_reducible refine (HI.out _).mono ?_
     rintro e_x3 w_x3 ⟨rfl, hb_x3⟩
     obtain ⟨x3, rfl⟩ := later_is hb_x3
     clear hb_x3
     have hz_x3 := x3.bel.size
     try simp at hz_x3
     replace c_x1_0_0 := x3.carry c_x1_0_0
     replace c_x1_0_1 := x3.carry c_x1_0_1
     replace c_x1_0_2 := x3.carry c_x1_0_2
     replace c_x1_0_3 := x3.carry c_x1_0_3
     replace c_x1_0_4 := x3.carry c_x1_0_4
     replace c_x1_0_5 := x3.carry c_x1_0_5
     replace c_x1_0_6 := x3.carry c_x1_0_6
     replace c_x1_0_7 := x3.carry c_x1_0_7
     replace c_x1_0_8 := x3.carry c_x1_0_8
     have lc_x3_0 : wv.heap.size < x3.val.heap.size := by omega
     have mc_x3_0 : wv.heap.size < x3.val.heap.size + 1 := by omega
     go_wp2
     go_ret
     exact ⟨rfl, belo⟩
    rw [r1, r2, Bool.true_and, Bool.true_and] at RPE
    rw [r1] at LW
    rw [r2] at HI
    cases kb
    ·obtain rfl : false = rv := HNP.out (by rw [RPE.out, Bool.and_false])
     clear RV HNP RPE r1 r2
     go_wp2_with fail
     with_reducible refine (KN.out _).mono ?_
     rintro e_x1 w_x1 ⟨rfl, hb_x1⟩
     obtain ⟨x1, rfl⟩ := later_is hb_x1
     clear hb_x1
     have hz_x1 := x1.bel.size
     try simp at hz_x1
     have l_x1_0 : wv.heap.size < x1.val.heap.size := by omega
     have m_x1_0 : wv.heap.size < x1.val.heap.size + 1 := by omega
     have q_ := x1.cq (wv.heap.size) 0
     generalize c_x1_0_0 : x1.val.cell? ⟨wv.heap.size, 0, none⟩ = q at q_
     first | (have q2_ : q = some _ := q_; subst q2_) | (simp [go_sem] at q_; have q2_ : q = some _ := q_; subst q2_) | (simp [go_sem, *] at q_; have q2_ : q = some _ := q_; subst q2_)
     have q_ := x1.cq (wv.heap.size) 1
     generalize c_x1_0_1 : x1.val.cell? ⟨wv.heap.size, 1, none⟩ = q at q_
     first | (have q2_ : q = some _ := q_; subst q2_) | (simp [go_sem] at q_; have q2_ : q = some _ := q_; subst q2_) | (simp [go_sem, *] at q_; have q2_ : q = some _ := q_; subst q2_)
     have q_ := x1.cq (wv.heap.size) 2
     generalize c_x1_0_2 : x1.val.cell? ⟨wv.heap.size, 2, none⟩ = q at q_
     first | (have q2_ : q = some _ := q_; subst q2_) | (simp [go_sem] at q_; have q2_ : q = some _ := q_; subst q2_) | (simp [go_sem, *] at q_; have q2_ : q = some _ := q_; subst q2_)
     have q_ := x1.cq (wv.heap.size) 3
     generalize c_x1_0_3 : x1.val.cell? ⟨wv.heap.size, 3, none⟩ = q at q_
     first | (have q2_ : q = some _ := q_; subst q2_) | (simp [go_sem] at q_; have q2_ : q = some _ := q_; subst q2_) | (simp [go_sem, *] at q_; have q2_ : q = some _ := q_; subst q2_)
     have q_ := x1.cq (wv.heap.size) 4
     generalize c_x1_0_4 : x1.val.cell? ⟨wv.heap.size, 4, none⟩ = q at q_
     first | (have q2_ : q = some _ := q_; subst q2_) | (simp [go_sem] at q_; have q2_ : q = some _ := q_; subst q2_) | (simp [go_sem, *] at q_; have q2_ : q = some _ := q_; subst q2_)
     have q_ := x1.cq (wv.heap.size) 5
     generalize c_x1_0_5 : x1.val.cell? ⟨wv.heap.size, 5, none⟩ = q at q_
     first | (have q2_ : q = some _ := q_; subst q2_) | (simp [go_sem] at q_; have q2_ : q = some _ := q_; subst q2_) | (simp [go_sem, *] at q_; have q2_ : q = some _ := q_; subst q2_)
     have q_ := x1.cq (wv.heap.size) 6
     generalize c_x1_0_6 : x1.val.cell? ⟨wv.heap.size, 6, none⟩ = q at q_
     first | (have q2_ : q = some _ := q_; subst q2_) | (simp [go_sem] at q_; have q2_ : q = some _ := q_; subst q2_) | (simp [go_sem, *] at q_; have q2_ : q = some _ := q_; subst q2_)
     have q_ := x1.cq (wv.heap.size) 7
     generalize c_x1_0_7 : x1.val.cell? ⟨wv.heap.size, 7, none⟩ = q at q_
     first | (have q2_ : q = some _ := q_; subst q2_) | (simp [go_sem] at q_; have q2_ : q = some _ := q_; subst q2_) | (simp [go_sem, *] at q_; have q2_ : q = some _ := q_; subst q2_)
     have q_ := x1.cq (wv.heap.size) 8
     generalize c_x1_0_8 : x1.val.cell? ⟨wv.heap.size, 8, none⟩ = q at q_
     first | (have q2_ : q = some _ := q_; subst q2_) | (simp [go_sem] at q_; have q2_ : q = some _ := q_; subst q2_) | (simp [go_sem, *] at q_; have q2_ : q = some _ := q_; subst q2_)
     go_wp2_with fail
     with_reducible refine (PN.out _).mono ?_
     rintro e_ w_ ⟨rfl, rfl⟩
     go_wp2_with fail
     with_reducible refine (LW.out _).mono ?_
     rintro e_x2 w_x2 ⟨rfl, hb_x2⟩
     obtain ⟨x2, rfl⟩ := later_is hb_x2
     clear hb_x2
     have hz_x2 := x2.bel.size
     try simp at hz_x2
     replace c_x1_0_0 := x2.carry c_x1_0_0
     replace c_x1_0_1 := x2.carry c_x1_0_1
     replace c_x1_0_2 := x2.carry c_x1_0_2
     replace c_x1_0_3 := x2.carry c_x1_0_3
     replace c_x1_0_4 := x2.carry c_x1_0_4
     replace c_x1_0_5 := x2.carry c_x1_0_5
     replace c_x1_0_6 := x2.carry c_x1_0_6
     replace c_x1_0_7 := x2.carry c_x1_0_7
     replace c_x1_0_8 := x2.carry c_x1_0_8
     have lc_x2_0 : wv.heap.size < x2.val.heap.size := by omega
     have mc_x2_0 : wv.heap.size < x2.val.heap.size + 1 := by omega
     go_wp2_with fail
     with_reducible refine (HI.out _).mono ?_
     rintro e_x3 w_x3 ⟨rfl, hb_x3⟩
     obtain ⟨x3, rfl⟩ := later_is hb_x3
     clear hb_x3
     have hz_x3 := x3.bel.size
     try simp at hz_x3
     replace c_x1_0_0 := x3.carry c_x1_0_0
     replace c_x1_0_1 := x3.carry c_x1_0_1
     replace c_x1_0_2 := x3.carry c_x1_0_2
     replace c_x1_0_3 := x3.carry c_x1_0_3
     replace c_x1_0_4 := x3.carry c_x1_0_4
     replace c_x1_0_5 := x3.carry c_x1_0_5
     replace c_x1_0_6 := x3.carry c_x1_0_6
     replace c_x1_0_7 := x3.carry c_x1_0_7
     replace c_x1_0_8 := x3.carry c_x1_0_8
     have lc_x3_0 : wv.heap.size < x3.val.heap.size := by omega
     have mc_x3_0 : wv.heap.size < x3.val.heap.size + 1 := by omega
     go_wp2
     go_ret
     exact ⟨rfl, belo⟩
    rw [Bool.and_true] at RPE
    have CP := Lib.hid (fun w => rcmp_any ln hn ld hd w r1 r2)
    have hc : Vd.cmp ⟨ln, ld⟩ ⟨hn, hd⟩ = if Vd.mil ⟨ln, ld⟩ < Vd.mil ⟨hn, hd⟩ then -1 else if Vd.mil ⟨hn, hd⟩ < Vd.mil ⟨ln, ld⟩ then 1 else 0 := by unfold Vd.cmp; rw [r1, r2]; rfl
    obtain ⟨cv, hcv⟩ : ∃ cv, Vd.cmp ⟨ln, ld⟩ ⟨hn, hd⟩ = cv := ⟨_, rfl⟩
    rw [hcv] at CP hc
    clear r1 r2 hcv
    by_cases c5 : 0 < cv
    ·have g5 : decide (0 < cv) = true := decide_eq_true c5
     obtain rfl : false = rv := HNP.out (by
      rw [RPE.out, decide_eq_false (show ¬ Vd.mil ⟨ln, ld⟩ ≤ Vd.mil ⟨hn, hd⟩ by
       intro h; rw [hc] at c5; split at c5
       ·omega
       ·split at c5 <;> omega)])
     clear RV HNP RPE c5 hc
     go_wp2_with fail
     with_reducible refine (KN.out _).mono ?_
     rintro e_x1 w_x1 ⟨rfl, hb_x1⟩
     obtain ⟨x1, rfl⟩ := later_is hb_x1
     clear hb_x1
     have hz_x1 := x1.bel.size
     try simp at hz_x1
     have l_x1_0 : wv.heap.size < x1.val.heap.size := by omega
     have m_x1_0 : wv.heap.size < x1.val.heap.size + 1 := by omega
     have q_ := x1.cq (wv.heap.size) 0
     generalize c_x1_0_0 : x1.val.cell? ⟨wv.heap.size, 0, none⟩ = q at q_
     first | (have q2_ : q = some _ := q_; subst q2_) | (simp [go_sem] at q_; have q2_ : q = some _ := q_; subst q2_) | (simp [go_sem, *] at q_; have q2_ : q = some _ := q_; subst q2_)
     have q_ := x1.cq (wv.heap.size) 1
     generalize c_x1_0_1 : x1.val.cell? ⟨wv.heap.size, 1, none⟩ = q at q_
     first | (have q2_ : q = some _ := q_; subst q2_) | (simp [go_sem] at q_; have q2_ : q = some _ := q_; subst q2_) | (simp [go_sem, *] at q_; have q2_ : q = some _ := q_; subst q2_)
     have q_ := x1.cq (wv.heap.size) 2
     generalize c_x1_0_2 : x1.val.cell? ⟨wv.heap.size, 2, none⟩ = q at q_
     first | (have q2_ : q = some _ := q_; subst q2_) | (simp [go_sem] at q_; have q2_ : q = some _ := q_; subst q2_) | (simp [go_sem, *] at q_; have q2_ : q = some _ := q_; subst q2_)
     have q_ := x1.cq (wv.heap.size) 3
     generalize c_x1_0_3 : x1.val.cell? ⟨wv.heap.size, 3, none⟩ = q at q_
     first | (have q2_ : q = some _ := q_; subst q2_) | (simp [go_sem] at q_; have q2_ : q = some _ := q_; subst q2_) | (simp [go_sem, *] at q_; have q2_ : q = some _ := q_; subst q2_)
     have q_ := x1.cq (wv.heap.size) 4
     generalize c_x1_0_4 : x1.val.cell? ⟨wv.heap.size, 4, none⟩ = q at q_
     first | (have q2_ : q = some _ := q_; subst q2_) | (simp [go_sem] at q_; have q2_ : q = some _ := q_; subst q2_) | (simp [go_sem, *] at q_; have q2_ : q = some _ := q_; subst q2_)
     have q_ := x1.cq (wv.heap.size) 5
     generalize c_x1_0_5 : x1.val.cell? ⟨wv.heap.size, 5, none⟩ = q at q_
     first | (have q2_ : q = some _ := q_; subst q2_) | (simp [go_sem] at q_; have q2_ : q = some _ := q_; subst q2_) | (simp [go_sem, *] at q_; have q2_ : q = some _ := q_; subst q2_)
     have q_ := x1.cq (wv.heap.size) 6
     generalize c_x1_0_6 : x1.val.cell? ⟨wv.heap.size, 6, none⟩ = q at q_
     first | (have q2_ : q = some _ := q_; subst q2_) | (simp [go_sem] at q_; have q2_ : q = some _ := q_; subst q2_) | (simp [go_sem, *] at q_; have q2_ : q = some _ := q_; subst q2_)
     have q_ := x1.cq (wv.heap.size) 7
     generalize c_x1_0_7 : x1.val.cell? ⟨wv.heap.size, 7, none⟩ = q at q_
     first | (have q2_ : q = some _ := q_; subst q2_) | (simp [go_sem] at q_; have q2_ : q = some _ := q_; subst q2_) | (simp [go_sem, *] at q_; have q2_ : q = some _ := q_; subst q2_)
     have q_ := x1.cq (wv.heap.size) 8
     generalize c_x1_0_8 : x1.val.cell? ⟨wv.heap.size, 8, none⟩ = q at q_
     first | (have q2_ : q = some _ := q_; subst q2_) | (simp [go_sem] at q_; have q2_ : q = some _ := q_; subst q2_) | (simp [go_sem, *] at q_; have q2_ : q = some _ := q_; subst q2_)
     go_wp2_with fail
     with_reducible refine (PN.out _).mono ?_
     rintro e_ w_ ⟨rfl, rfl⟩
     go_wp2_with fail
     with_reducible refine (LW.out _).mono ?_
     rintro e_x2 w_x2 ⟨rfl, hb_x2⟩
     obtain ⟨x2, rfl⟩ := later_is hb_x2
     clear hb_x2
     have hz_x2 := x2.bel.size
     try simp at hz_x2
     replace c_x1_0_0 := x2.carry c_x1_0_0
     replace c_x1_0_1 := x2.carry c_x1_0_1
     replace c_x1_0_2 := x2.carry c_x1_0_2
     replace c_x1_0_3 := x2.carry c_x1_0_3
     replace c_x1_0_4 := x2.carry c_x1_0_4
     replace c_x1_0_5 := x2.carry c_x1_0_5
     replace c_x1_0_6 := x2.carry c_x1_0_6
     replace c_x1_0_7 := x2.carry c_x1_0_7
     replace c_x1_0_8 := x2.carry c_x1_0_8
     have lc_x2_0 : wv.heap.size < x2.val.heap.size := by omega
     have mc_x2_0 : wv.heap.size < x2.val.heap.size + 1 := by omega
     go_wp2_with fail
     with_reducible refine (HI.out _).mono ?_
     rintro e_x3 w_x3 ⟨rfl, hb_x3⟩
     obtain ⟨x3, rfl⟩ := later_is hb_x3
     clear hb_x3
     have hz_x3 := x3.bel.size
     try simp at hz_x3
     replace c_x1_0_0 := x3.carry c_x1_0_0
     replace c_x1_0_1 := x3.carry c_x1_0_1
     replace c_x1_0_2 := x3.carry c_x1_0_2
     replace c_x1_0_3 := x3.carry c_x1_0_3
     replace c_x1_0_4 := x3.carry c_x1_0_4
     replace c_x1_0_5 := x3.carry c_x1_0_5
     replace c_x1_0_6 := x3.carry c_x1_0_6
     replace c_x1_0_7 := x3.carry c_x1_0_7
     replace c_x1_0_8 := x3.carry c_x1_0_8
     have lc_x3_0 : wv.heap.size < x3.val.heap.size := by omega
     have mc_x3_0 : wv.heap.size < x3.val.heap.size + 1 := by omega
     go_wp2_with fail
     with_reducible refine (CP.out _).mono ?_
     rintro e_x4 w_x4 ⟨rfl, hb_x4⟩
     obtain ⟨x4, rfl⟩ := later_is hb_x4
     clear hb_x4
     have hz_x4 := x4.bel.size
     try simp at hz_x4
     replace c_x1_0_0 := x4.carry c_x1_0_0
     replace c_x1_0_1 := x4.carry c_x1_0_1
     replace c_x1_0_2 := x4.carry c_x1_0_2
     replace c_x1_0_3 := x4.carry c_x1_0_3
     replace c_x1_0_4 := x4.carry c_x1_0_4
     replace c_x1_0_5 := x4.carry c_x1_0_5
     replace c_x1_0_6 := x4.carry c_x1_0_6
     replace c_x1_0_7 := x4.carry c_x1_0_7
     replace c_x1_0_8 := x4.carry c_x1_0_8
     have lc_x4_0 : wv.heap.size < x4.val.heap.size := by omega
     have mc_x4_0 : wv.heap.size < x4.val.heap.size + 1 := by omega
     go_wp2
     go_ret
     exact ⟨rfl, belo⟩
    have g5 : decide (0 < cv) = false := decide_eq_false c5
    have HPR : Hid (Vd.rightPt ⟨pn, at_, dg, sg, ⟨ln, ld⟩, ⟨hn, hd⟩, un⟩ = true) := Lib.hid (by
     rw [RPE.out, decide_eq_true (show Vd.mil ⟨ln, ld⟩ ≤ Vd.mil ⟨hn, hd⟩ by
      rw [hc] at c5; split at c5
      ·omega
      ·split at c5 <;> omega)])
    clear c5 hc RPE HNP
    go_wp2_with fail
    with_reducible refine (KN.out _).mono ?_
    rintro e_x1 w_x1 ⟨rfl, hb_x1⟩
    obtain ⟨x1, rfl⟩ := later_is hb_x1
    clear hb_x1
    have hz_x1 := x1.bel.size
    try simp at hz_x1
    have l_x1_0 : wv.heap.size < x1.val.heap.size := by omega
    have m_x1_0 : wv.heap.size < x1.val.heap.size + 1 := by omega
    have q_ := x1.cq (wv.heap.size) 0
    generalize c_x1_0_0 : x1.val.cell? ⟨wv.heap.size, 0, none⟩ = q at q_
    first | (have q2_ : q = some _ := q_; subst q2_) | (simp [go_sem] at q_; have q2_ : q = some _ := q_; subst q2_) | (simp [go_sem, *] at q_; have q2_ : q = some _ := q_; subst q2_)
    have q_ := x1.cq (wv.heap.size) 1
    generalize c_x1_0_1 : x1.val.cell? ⟨wv.heap.size, 1, none⟩ = q at q_
    first | (have q2_ : q = some _ := q_; subst q2_) | (simp [go_sem] at q_; have q2_ : q = some _ := q_; subst q2_) | (simp [go_sem, *] at q_; have q2_ : q = some _ := q_; subst q2_)
    have q_ := x1.cq (wv.heap.size) 2
    generalize c_x1_0_2 : x1.val.cell? ⟨wv.heap.size, 2, none⟩ = q at q_
    first | (have q2_ : q = some _ := q_; subst q2_) | (simp [go_sem] at q_; have q2_ : q = some _ := q_; subst q2_) | (simp [go_sem, *] at q_; have q2_ : q = some _ := q_; subst q2_)
    have q_ := x1.cq (wv.heap.size) 3
    generalize c_x1_0_3 : x1.val.cell? ⟨wv.heap.size, 3, none⟩ = q at q_
    first | (have q2_ : q = some _ := q_; subst q2_) | (simp [go_sem] at q_; have q2_ : q = some _ := q_; subst q2_) | (simp [go_sem, *] at q_; have q2_ : q = some _ := q_; subst q2_)
    have q_ := x1.cq (wv.heap.size) 4
    generalize c_x1_0_4 : x1.val.cell? ⟨wv.heap.size, 4, none⟩ = q at q_
    first | (have q2_ : q = some _ := q_; subst q2_) | (simp [go_sem] at q_; have q2_ : q = some _ := q_; subst q2_) | (simp [go_sem, *] at q_; have q2_ : q = some _ := q_; subst q2_)
    have q_ := x1.cq (wv.heap.size) 5
    generalize c_x1_0_5 : x1.val.cell? ⟨wv.heap.size, 5, none⟩ = q at q_
    first | (have q2_ : q = some _ := q_; subst q2_) | (simp [go_sem] at q_; have q2_ : q = some _ := q_; subst q2_) | (simp [go_sem, *] at q_; have q2_ : q = some _ := q_; subst q2_)
    have q_ := x1.cq (wv.heap.size) 6
    generalize c_x1_0_6 : x1.val.cell? ⟨wv.heap.size, 6, none⟩ = q at q_
    first | (have q2_ : q = some _ := q_; subst q2_) | (simp [go_sem] at q_; have q2_ : q = some _ := q_; subst q2_) | (simp [go_sem, *] at q_; have q2_ : q = some _ := q_; subst q2_)
    have q_ := x1.cq (wv.heap.size) 7
    generalize c_x1_0_7 : x1.val.cell? ⟨wv.heap.size, 7, none⟩ = q at q_
    first | (have q2_ : q = some _ := q_; subst q2_) | (simp [go_sem] at q_; have q2_ : q = some _ := q_; subst q2_) | (simp [go_sem, *] at q_; have q2_ : q = some _ := q_; subst q2_)
    have q_ := x1.cq (wv.heap.size) 8
    generalize c_x1_0_8 : x1.val.cell? ⟨wv.heap.size, 8, none⟩ = q at q_
    first | (have q2_ : q = some _ := q_; subst q2_) | (simp [go_sem] at q_; have q2_ : q = some _ := q_; subst q2_) | (simp [go_sem, *] at q_; have q2_ : q = some _ := q_; subst q2_)
    go_wp2_with fail
    with_reducible refine (PN.out _).mono ?_
    rintro e_ w_ ⟨rfl, rfl⟩
    go_wp2_with fail
    with_reducible refine (LW.out _).mono ?_
    rintro e_x2 w_x2 ⟨rfl, hb_x2⟩
    obtain ⟨x2, rfl⟩ := later_is hb_x2
    clear hb_x2
    have hz_x2 := x2.bel.size
    try simp at hz_x2
    replace c_x1_0_0 := x2.carry c_x1_0_0
    replace c_x1_0_1 := x2.carry c_x1_0_1
    replace c_x1_0_2 := x2.carry c_x1_0_2
    replace c_x1_0_3 := x2.carry c_x1_0_3
    replace c_x1_0_4 := x2.carry c_x1_0_4
    replace c_x1_0_5 := x2.carry c_x1_0_5
    replace c_x1_0_6 := x2.carry c_x1_0_6
    replace c_x1_0_7 := x2.carry c_x1_0_7
    replace c_x1_0_8 := x2.carry c_x1_0_8
    have lc_x2_0 : wv.heap.size < x2.val.heap.size := by omega
    have mc_x2_0 : wv.heap.size < x2.val.heap.size + 1 := by omega
    go_wp2_with fail
    with_reducible refine (HI.out _).mono ?_
    rintro e_x3 w_x3 ⟨rfl, hb_x3⟩
    obtain ⟨x3, rfl⟩ := later_is hb_x3
    clear hb_x3
    have hz_x3 := x3.bel.size
    try simp at hz_x3
    replace c_x1_0_0 := x3.carry c_x1_0_0
    replace c_x1_0_1 := x3.carry c_x1_0_1
    replace c_x1_0_2 := x3.carry c_x1_0_2
    replace c_x1_0_3 := x3.carry c_x1_0_3
    replace c_x1_0_4 := x3.carry c_x1_0_4
    replace c_x1_0_5 := x3.carry c_x1_0_5
    replace c_x1_0_6 := x3.carry c_x1_0_6
    replace c_x1_0_7 := x3.carry c_x1_0_7
    replace c_x1_0_8 := x3.carry c_x1_0_8
    have lc_x3_0 : wv.heap.size < x3.val.heap.size := by omega
    have mc_x3_0 : wv.heap.size < x3.val.heap.size + 1 := by omega
    go_wp2_with fail
    with_reducible refine (CP.out _).mono ?_
    rintro e_x4 w_x4 ⟨rfl, hb_x4⟩
    obtain ⟨x4, rfl⟩ := later_is hb_x4
    clear hb_x4
    have hz_x4 := x4.bel.size
    try simp at hz_x4
    replace c_x1_0_0 := x4.carry c_x1_0_0
    replace c_x1_0_1 := x4.carry c_x1_0_1
    replace c_x1_0_2 := x4.carry c_x1_0_2
    replace c_x1_0_3 := x4.carry c_x1_0_3
    replace c_x1_0_4 := x4.carry c_x1_0_4
    replace c_x1_0_5 := x4.carry c_x1_0_5
    replace c_x1_0_6 := x4.carry c_x1_0_6
    replace c_x1_0_7 := x4.carry c_x1_0_7
    replace c_x1_0_8 := x4.carry c_x1_0_8
    have lc_x4_0 : wv.heap.size < x4.val.heap.size := by omega
    have mc_x4_0 : wv.heap.size < x4.val.heap.size + 1 := by omega
    have T0 : x4.val.cell? ⟨wv.heap.size, 0, none⟩ = some (.string pn) := by assumption
    have T1 : x4.val.cell? ⟨wv.heap.size, 1, none⟩ = some (.int .i64 at_) := by assumption
    have hb4 : Below wv.heap.size wv x4.val := belo
    have lt4 : wv.heap.size < x4.val.heap.size := by omega
    have hb4w : Below w.heap.size w x4.val := hbvw.trans (hb4.mono hbvw.size)
    have hb4z : Below wz.heap.size wz x4.val := hbv.trans (hb4.mono hbv.size)
    have ZT := Lib.hid (fun (wy : World) (hy : Below x4.val.heap.size x4.val wy) => (HOKZ.out.to (hb4z.trans (hy.mono hb4z.size))).rc)
    go_wp2
    go_loopw [10] (fun x wy => ∃ z : Nat, z ≤ q ∧ Hid (∀ b ∈ pts.take z, b.name ≠ pn ∧ b.at_ ≠ at_) ∧ x = .int .i64 (z : Int) ∧ Below x4.val.heap.size x4.val wy) (fun i _ => q - (RowKit.intOf i).toNat)
    case atStart => exact ⟨0, by omega, Lib.hid (by simp), rfl, belo⟩
    case round =>
     rename World => wy
     obtain ⟨z, hz, HD, rfl, hby⟩ := hrel
     have hbyw : Below w.heap.size w wy := hb4w.trans (hby.mono hb4w.size)
     have hbyz : Below wz.heap.size wz wy := hb4z.trans (hby.mono hb4z.size)
     by_cases hlz : z < q
     rotate_left
     ·obtain rfl : z = q := by omega
      have HC2 : Hid ((pts.take (z + 1)).all Vd.rightPt = true ∧ ((pts.take (z + 1)).map Pt.name).Nodup ∧ ((pts.take (z + 1)).map Pt.at_).Nodup) := Lib.hid ⟨allL_step HC.out.1 HPP.out HPR.out, nodup_step (f := Pt.name) HC.out.2.1 HPP.out (not_map fun b hb => (HD.out b hb).1), nodup_step (f := Pt.at_) HC.out.2.2 HPP.out (not_map fun b hb => (HD.out b hb).2)⟩
      clear hlz hz
      go_wp2
      go_roundw
      case rel => exact ⟨z + 1, by omega, HC2, by go_num, hbyz⟩
      case measure => simp [RowKit.intOf]; omega
     have hlzI : (z : Int) < (q : Int) := by omega
     have hlzm : (z : Int) < (m : Int) := by omega
     have U0 : wy.cell? ⟨wv.heap.size, 0, none⟩ = some (.string pn) := (hby.cell (p := ⟨wv.heap.size, 0, none⟩) lt4).trans T0
     have U1 : wy.cell? ⟨wv.heap.size, 1, none⟩ = some (.int .i64 at_) := (hby.cell (p := ⟨wv.heap.size, 1, none⟩) lt4).trans T1
     have hlty : wv.heap.size < wy.heap.size := Nat.lt_of_lt_of_le lt4 hby.size
     obtain ⟨g4, o4, p4, hPe, hg4, hp4, y0, y1, _, _, _, _, _, _, _⟩ := Pt.at_cells (ZT.out wy hby) (k := z) (by rw [HM.out]; omega)
     simp only [Option.some.injEq, Addr.mk.injEq] at hPe
     obtain ⟨rfl, rfl, _⟩ := hPe
     obtain ⟨pn4, at4, dg4, sg4, lo4, hi4, un4⟩ := p4
     dsimp only at y0 y1
     have hg4' : g3 < wy.heap.size := hg4
     have HP4 := Lib.hid hp4
     clear hp4 hg4
     by_cases he : pn4 = pn
     ·have e1 : (pn4.toList == pn.toList) = true := str_eq he
      obtain rfl : false = rv := by
       rw [← RV.out, allL_no HP.out (rightDv_no fun hh => nodup_no (f := Pt.name) HPP.out (show pn ∈ _ from he ▸ in_take (f := Pt.name) hlz HP4.out) (rightDv_out hh).2.2.2.1)]; rfl
      clear he RV
      go_upto_region 26 with fail
      refine wp_region_lat (by kernel_rfl) (by kernel_rfl) ?_
      repeat (go_big_quiet_step (fail))
      refine wpQuiet_nil ?_
      rintro _ ⟨xq, rfl⟩
      have hz_xq := xq.bel.size
      try simp at hz_xq
      go_wp2
      go_ret
      exact ⟨rfl, belo⟩
     have e1 : (pn4.toList == pn.toList) = false := str_ne he
     by_cases he2 : at4 = at_
     ·have e2 : (at4 == at_) = true := beq_iff_eq.2 he2
      obtain rfl : false = rv := by
       rw [← RV.out, allL_no HP.out (rightDv_no fun hh => nodup_no (f := Pt.at_) HPP.out (show at_ ∈ _ from he2 ▸ in_take (f := Pt.at_) hlz HP4.out) (rightDv_out hh).2.2.2.2)]; rfl
      clear he he2 RV
      go_upto_region 26 with fail
      refine wp_region_lat (by kernel_rfl) (by kernel_rfl) ?_
      repeat (go_big_quiet_step (fail))
      refine wpQuiet_nil ?_
      rintro _ ⟨xq, rfl⟩
      have hz_xq := xq.bel.size
      try simp at hz_xq
      go_wp2
      go_ret
      exact ⟨rfl, belo⟩
     have e2 : (at4 == at_) = false := beq_eq_false_iff_ne.2 he2
     have HD2 : Hid (∀ b ∈ pts.take (z + 1), b.name ≠ pn ∧ b.at_ ≠ at_) := Lib.hid (take_step (P := fun b : Pt => b.name ≠ pn ∧ b.at_ ≠ at_) HD.out HP4.out ⟨he, he2⟩)
     clear he he2
     go_upto_region 26 with fail
     refine wp_region_lat (by kernel_rfl) (by kernel_rfl) ?_
     repeat (go_big_quiet_step (fail))
     refine wpQuiet_nil ?_
     rintro _ ⟨xq, rfl⟩
     have hz_xq := xq.bel.size
     try simp at hz_xq
     go_wp2
     go_roundw
     case rel => exact ⟨z + 1, by omega, HD2, by go_num, hby.trans (xq.bel.mono hby.size)⟩
     case measure => simp [RowKit.intOf]; omega
end Go.Proofs.Ythhokpaidekmnaa
