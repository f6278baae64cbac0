/- Layer 15: the walk of ValidTables. -/
import Derived.Test.YthhokpaidekmnaaVdTbLaw
import Derived.Deep.DeepCutAuto
import Derived.Deep.CutBlock
namespace Go.Proofs.Ythhokpaidekmnaa
open Go.RowKit
set_option linter.unusedVariables false
set_option linter.unusedSimpArgs false
set_option maxRecDepth 100000
attribute [local go_sem] Later.cell Later.frozen setCell_twice
attribute [local go_sem high] sliced_zero
theorem small_out {l : List Dv} (h : Vd.small l = true) : l.length ≤ 10 ∧ ∀ d ∈ l, d.pts.length ≤ 40 := by
  unfold Vd.small at h
  simp only [Bool.and_eq_true, decide_eq_true_iff, List.all_eq_true] at h
  refine ⟨h.1, fun d hd => ?_⟩
  have := h.2 d hd
  unfold Vd.smallDv at this
  simp only [Bool.and_eq_true, decide_eq_true_iff] at this
  exact this.1.1
/-- a Boolean says it -/
def BIs (b : Bool) (P : Prop) : Prop := b = true ↔ P
theorem bool_of_iff {b : Bool} {P : Prop} (h : b = true ↔ P) (hP : ¬ P) : b = false := by
  cases b
  · rfl
  · exact absurd (h.1 rfl) hP
theorem beq_of_iff {a b : Bool} {P : Prop} (h : a = true ↔ P) (k : b = true ↔ P) : a = b := by
  cases a <;> cases b <;> first | rfl | exact absurd (k.2 (h.1 rfl)) (by decide) | exact absurd (h.2 (k.1 rfl)) (by decide)
theorem right_pt (dvn pn : ByteArray) (pat pdg : Int) (psg : Bool) (pln : Int) (pld : Nat) (phn : Int) (phd : Nat) (pun : ByteArray) (x : World) (b : Bool)
    (h : Calls Try.prog 11 #[.slice (some ⟨(x.alloc (.cells (ptF ⟨pn, pat, pdg, psg, ⟨pln, pld⟩, ⟨phn, phd⟩, pun⟩).toArray 43)).heap.size, 0, none⟩) 1 1] ((x.alloc (.cells (ptF ⟨pn, pat, pdg, psg, ⟨pln, pld⟩, ⟨phn, phd⟩, pun⟩).toArray 43)).alloc (.cells #[.string dvn, .slice (some ⟨x.heap.size, 0, none⟩) 1 1] 39)) fun e w' => e = .returned (.bool b) ∧ Below ((x.alloc (.cells (ptF ⟨pn, pat, pdg, psg, ⟨pln, pld⟩, ⟨phn, phd⟩, pun⟩).toArray 43)).alloc (.cells #[.string dvn, .slice (some ⟨x.heap.size, 0, none⟩) 1 1] 39)).heap.size ((x.alloc (.cells (ptF ⟨pn, pat, pdg, psg, ⟨pln, pld⟩, ⟨phn, phd⟩, pun⟩).toArray 43)).alloc (.cells #[.string dvn, .slice (some ⟨x.heap.size, 0, none⟩) 1 1] 39)) w') :
    Calls Try.prog 11 #[.slice (some ⟨x.heap.size + 1, 0, none⟩) 1 1] ((x.alloc (.cells #[.string pn, .int .i64 pat, .int .i64 pdg, .bool psg, .int .i64 pln, .int .u8 (pld : Int), .int .i64 phn, .int .u8 (phd : Int), .string pun] 43)).alloc (.cells #[.string dvn, .slice (some ⟨x.heap.size, 0, none⟩) 1 1] 39)) fun e w' => e = .returned (.bool b) ∧ Below x.heap.size x w' := by
  have hs : (x.alloc (.cells (ptF ⟨pn, pat, pdg, psg, ⟨pln, pld⟩, ⟨phn, phd⟩, pun⟩).toArray 43)).heap.size = x.heap.size + 1 := by simp
  rw [hs] at h
  exact h.mono fun e w' ⟨he, hb⟩ => ⟨he, (bel_alloc (bel_alloc (Below.refl _ _) _) _).trans (hb.mono (by simp; omega))⟩
set_option maxHeartbeats 16000000 in
theorem tables_walk (A : Option Addr) (l : List Dv) (n c : Nat) (w : World) (hn : l.length = n) (h : Tab w w.heap.size A l) (hs : Shp A n c) :
    Calls Try.prog 5 #[.slice A n c] w fun e w' => e = .returned (.bool true) ∧ Below w.heap.size w w' := by
  have HN := Lib.hid hn
  have HH := Lib.hid h
  have HS := Lib.hid hs
  have hcap : n ≤ 9223372036854775807 := Nat.le_trans hs.le hs.cap
  have hnc : n ≤ c := hs.le
  have hcc : c ≤ 9223372036854775807 := hs.cap
  have SM := Lib.hid (fun (x : World) (hx : Below w.heap.size w x) => small_any A l n c x hn (h.to hx) hs)
  have TR := Lib.hid (fun (x : World) (hx : Below w.heap.size w x) => tabright_any A l n c x hn (h.to hx) hs)
  have FD := Lib.hid (fun (s : ByteArray) (x : World) (hx : Below w.heap.size w x) => find_any s A l n c x hn (h.to hx) hs)
  have AW := Lib.hid awake_any
  clear hn h hs
  cases q1 : Vd.small l
  · rw [q1] at SM
    clear q1
    go_enter Try.func5, Try.ntmps5
    go_wp2_with fail
    with_reducible refine (SM.out _ (by repeat (first | with_reducible exact Below.refl _ _ | with_reducible refine bel_later _ ?_ | with_reducible refine bel_alloc ?_ _ | refine bel_set ?_ (by first | omega | (simp; done) | (simp; omega)) _ | with_reducible refine Below.drew ?_ | with_reducible refine bel_drewN ?_ _ | with_reducible assumption | assumption))).mono ?_
    rintro e_x1 w_x1 ⟨rfl, hb_x1⟩
    obtain ⟨x1, rfl⟩ := later_is hb_x1
    clear hb_x1
    have hz_x1 := x1.bel.size
    try simp at hz_x1
    go_wp2_with fail
    with_reducible refine (AW.out _).mono ?_
    rintro e_xa w_xa ⟨rfl, hb_xa⟩
    obtain ⟨xa, rfl⟩ := later_is hb_xa
    clear hb_xa
    have hz_xa := xa.bel.size
    try simp at hz_xa
    go_wp2
    go_ret
    exact ⟨rfl, (by repeat (first | with_reducible exact Below.refl _ _ | with_reducible refine bel_later _ ?_ | with_reducible refine bel_alloc ?_ _ | refine bel_set ?_ (by first | omega | (simp; done) | (simp; omega)) _ | with_reducible refine Below.drew ?_ | with_reducible refine bel_drewN ?_ _ | with_reducible assumption | assumption))⟩
  rw [q1] at SM
  have HSM := Lib.hid (small_out q1)
  clear q1
  go_enter Try.func5, Try.ntmps5
  go_wp2_with fail
  with_reducible refine (SM.out _ (by repeat (first | with_reducible exact Below.refl _ _ | with_reducible refine bel_later _ ?_ | with_reducible refine bel_alloc ?_ _ | refine bel_set ?_ (by first | omega | (simp; done) | (simp; omega)) _ | with_reducible refine Below.drew ?_ | with_reducible refine bel_drewN ?_ _ | with_reducible assumption | assumption))).mono ?_
  rintro e_x1 w_x1 ⟨rfl, hb_x1⟩
  obtain ⟨x1, rfl⟩ := later_is hb_x1
  clear hb_x1
  have hz_x1 := x1.bel.size
  try simp at hz_x1
  have bx1 : Below w.heap.size w x1.val := (by repeat (first | with_reducible exact Below.refl _ _ | with_reducible refine bel_later _ ?_ | with_reducible refine bel_alloc ?_ _ | refine bel_set ?_ (by first | omega | (simp; done) | (simp; omega)) _ | with_reducible refine Below.drew ?_ | with_reducible refine bel_drewN ?_ _ | with_reducible assumption | assumption))
  go_upto_region 3 with fail
  go_cut [3] (fun v wx => ∃ w0 : Bool, v = .bool w0 ∧ Hid (BIs w0 (WDv l 0)) ∧ x1.val = wx)
  case first =>
    by_cases t1 : 1 ≤ n
    · have g1 : decide ((1 : Int) ≤ (n : Int)) = true := decide_eq_true (by omega)
      by_cases t2 : n ≤ 8
      · have g2 : decide ((n : Int) ≤ 8) = true := decide_eq_true (by omega)
        have hw : Hid (BIs true (WDv l 0)) := Lib.hid (by unfold BIs; rw [WDv.zero, HN.out]; simp; omega)
        clear t1 t2
        go_wp2
        go_meet
        case rel => exact ⟨true, rfl, hw, rfl⟩
      · have g2 : decide ((n : Int) ≤ 8) = false := decide_eq_false (by omega)
        have hw : Hid (BIs false (WDv l 0)) := Lib.hid (by unfold BIs; rw [WDv.zero, HN.out]; simp; omega)
        clear t1 t2
        go_wp2
        go_meet
        case rel => exact ⟨false, rfl, hw, rfl⟩
    · have g1 : decide ((1 : Int) ≤ (n : Int)) = false := decide_eq_false (by omega)
      have hw : Hid (BIs false (WDv l 0)) := Lib.hid (by unfold BIs; rw [WDv.zero, HN.out]; simp; omega)
      clear t1
      go_wp2
      go_meet
      case rel => exact ⟨false, rfl, hw, rfl⟩
  case rest =>
  obtain ⟨w0, rfl, HW0, rfl⟩ := hcut
  go_wp2
  go_loopw [30, 3] (fun x v wr => ∃ (j : Nat) (wj : Bool), j ≤ n ∧ x = .int .i64 (j : Int) ∧ v = .bool wj ∧ Hid (BIs wj (WDv l j)) ∧ Below w.heap.size w wr) (fun i _ _ => n - (RowKit.intOf i).toNat)
  case atStart => exact ⟨0, w0, by omega, rfl, rfl, HW0, bx1⟩
  case round =>
    clear HW0
    rename World => wr
    obtain ⟨j, wj, hj, rfl, rfl, HW, hbe⟩ := hrel
    by_cases hlt : j < n
    rotate_left
    · obtain rfl : j = n := by omega
      obtain rfl : wj = Vd.rightTab l := beq_of_iff HW.out (by rw [← HN.out]; exact (WDv.all l).symm)
      clear hlt hj HW
      cases hrt : Vd.rightTab l
      · rw [hrt] at TR
        go_wp2_with fail
        with_reducible refine (TR.out _ (by repeat (first | with_reducible exact Below.refl _ _ | with_reducible refine bel_later _ ?_ | with_reducible refine bel_alloc ?_ _ | refine bel_set ?_ (by first | omega | (simp; done) | (simp; omega)) _ | with_reducible refine Below.drew ?_ | with_reducible refine bel_drewN ?_ _ | with_reducible assumption | assumption))).mono ?_
        rintro e_x2 w_x2 ⟨rfl, hb_x2⟩
        obtain ⟨x2, rfl⟩ := later_is hb_x2
        clear hb_x2
        have hz_x2 := x2.bel.size
        try simp at hz_x2
        go_wp2_with fail
        with_reducible refine (AW.out _).mono ?_
        rintro e_xa w_xa ⟨rfl, hb_xa⟩
        obtain ⟨xa, rfl⟩ := later_is hb_xa
        clear hb_xa
        have hz_xa := xa.bel.size
        try simp at hz_xa
        go_wp2
        go_ret
        exact ⟨rfl, (by repeat (first | with_reducible exact Below.refl _ _ | with_reducible refine bel_later _ ?_ | with_reducible refine bel_alloc ?_ _ | refine bel_set ?_ (by first | omega | (simp; done) | (simp; omega)) _ | with_reducible refine Below.drew ?_ | with_reducible refine bel_drewN ?_ _ | with_reducible assumption | assumption))⟩
      · rw [hrt] at TR
        go_wp2_with fail
        with_reducible refine (TR.out _ (by repeat (first | with_reducible exact Below.refl _ _ | with_reducible refine bel_later _ ?_ | with_reducible refine bel_alloc ?_ _ | refine bel_set ?_ (by first | omega | (simp; done) | (simp; omega)) _ | with_reducible refine Below.drew ?_ | with_reducible refine bel_drewN ?_ _ | with_reducible assumption | assumption))).mono ?_
        rintro e_x2 w_x2 ⟨rfl, hb_x2⟩
        obtain ⟨x2, rfl⟩ := later_is hb_x2
        clear hb_x2
        have hz_x2 := x2.bel.size
        try simp at hz_x2
        go_wp2_with fail
        with_reducible refine (AW.out _).mono ?_
        rintro e_xa w_xa ⟨rfl, hb_xa⟩
        obtain ⟨xa, rfl⟩ := later_is hb_xa
        clear hb_xa
        have hz_xa := xa.bel.size
        try simp at hz_xa
        go_wp2
        go_ret
        exact ⟨rfl, (by repeat (first | with_reducible exact Below.refl _ _ | with_reducible refine bel_later _ ?_ | with_reducible refine bel_alloc ?_ _ | refine bel_set ?_ (by first | omega | (simp; done) | (simp; omega)) _ | with_reducible refine Below.drew ?_ | with_reducible refine bel_drewN ?_ _ | with_reducible assumption | assumption))⟩
    have hltI : (j : Int) < (n : Int) := by omega
    obtain ⟨g1', o1', d, rfl, hg, hd, hok, d0, d1⟩ := (HH.out.to hbe).at_ (k := j) (by rw [HN.out]; exact hlt)
    have hgl : g1' < wr.heap.size := hg
    have HOK := Lib.hid (HH.out.ok d (List.mem_of_getElem? hd))
    have HD := Lib.hid hd
    have h40 := HSM.out.2 d (List.mem_of_getElem? hd)
    obtain ⟨dvn, pts, PA, pc⟩ := d
    obtain ⟨m, hm⟩ : ∃ m, pts.length = m := ⟨_, rfl⟩
    have HM := Lib.hid hm
    have hmc : m ≤ pc ∧ pc ≤ 9223372036854775807 := by have := hok.shp.le; have := hok.shp.cap; dsimp only at *; omega
    obtain ⟨hmp, hpcc⟩ := hmc
    dsimp only at d0 d1 h40
    rw [hm] at d1 h40
    have RA := Lib.hid (fun (x : World) (hx : Below w.heap.size w x) => right_one dvn pts PA m pc x hm (HOK.out.to hx))
    have RB := Lib.hid (fun (x : World) => right_one dvn [] none 0 0 x rfl (dv_nil dvn x _))
    rw [rightDv_nil] at RB
    clear hd hg hok hm
    go_upto_region 7 with fail
    obtain ⟨wd, hwd⟩ : ∃ w_q_, w_q_ = wr.alloc (.cells #[.string dvn, .slice PA m pc] 39) := ⟨_, rfl⟩
    rw [← hwd]
    have hbd : Below wr.heap.size wr wd := by rw [hwd]; exact bel_alloc (Below.refl _ _) _
    obtain ⟨x2, hx2⟩ := later_is hbd
    have hz2 : x2.val.heap.size = wr.heap.size + 1 := by rw [← hx2, hwd]; simp
    have HZ2 := Lib.hid hz2
    have D0 : x2.val.cell? ⟨wr.heap.size, 0, none⟩ = some (.string dvn) := by rw [← hx2, hwd]; simp [go_sem]
    have D1 : x2.val.cell? ⟨wr.heap.size, 1, none⟩ = some (.slice PA m pc) := by rw [← hx2, hwd]; simp [go_sem]
    obtain rfl := hx2
    clear hwd d0 d1
    have hl2 : wr.heap.size < x2.val.heap.size := by omega
    have hb2 : Below w.heap.size w x2.val := (by repeat (first | with_reducible exact Below.refl _ _ | with_reducible refine bel_later _ ?_ | with_reducible refine bel_alloc ?_ _ | refine bel_set ?_ (by first | omega | (simp; done) | (simp; omega)) _ | with_reducible refine Below.drew ?_ | with_reducible refine bel_drewN ?_ _ | with_reducible assumption | assumption))
    clear hz2
    obtain ⟨e0, he0⟩ : ∃ e, Vd.name dvn = e := ⟨_, rfl⟩
    obtain ⟨al, hal⟩ : ∃ e, Vd.rightDv dvn pts = e := ⟨_, rfl⟩
    have HE0 : Hid (BIs e0 (EPt dvn pts 0)) := Lib.hid (by unfold BIs; rw [EPt.zero, he0])
    have HAL := Lib.hid hal
    rw [he0] at RB
    rw [hal] at RA
    clear he0 hal
    go_wp2_with fail
    with_reducible refine (RA.out _ hb2).mono ?_
    rintro e_x3 w_x3 ⟨rfl, hb_x3⟩
    obtain ⟨x3, rfl⟩ := later_is hb_x3
    clear hb_x3
    have hz_x3 := x3.bel.size
    try simp at hz_x3
    have l_x3_0 : wr.heap.size < x3.val.heap.size := by omega
    have m_x3_0 : wr.heap.size < x3.val.heap.size + 1 := by omega
    have q_ := x3.bel.cell (p := ⟨wr.heap.size, 0, none⟩) (by first | omega | (simp; done) | (simp; omega))
    generalize c_x3_0_0 : x3.val.cell? ⟨wr.heap.size, 0, none⟩ = q at q_
    first | (have q2_ : q = some _ := q_; subst q2_) | (simp [go_sem] at q_; have q2_ : q = some _ := q_; subst q2_) | (simp [go_sem, *] at q_; have q2_ : q = some _ := q_; subst q2_)
    have q_ := x3.bel.cell (p := ⟨wr.heap.size, 1, none⟩) (by first | omega | (simp; done) | (simp; omega))
    generalize c_x3_0_1 : x3.val.cell? ⟨wr.heap.size, 1, none⟩ = q at q_
    first | (have q2_ : q = some _ := q_; subst q2_) | (simp [go_sem] at q_; have q2_ : q = some _ := q_; subst q2_) | (simp [go_sem, *] at q_; have q2_ : q = some _ := q_; subst q2_)
    go_wp2_with fail
    with_reducible refine (RB.out _).mono ?_
    rintro e_x4 w_x4 ⟨rfl, hb_x4⟩
    obtain ⟨x4, rfl⟩ := later_is hb_x4
    clear hb_x4
    have hz_x4 := x4.bel.size
    try simp at hz_x4
    have l_x4_0 : wr.heap.size < x4.val.heap.size := by omega
    have m_x4_0 : wr.heap.size < x4.val.heap.size + 1 := by omega
    have q_ := x4.bel.cell (p := ⟨wr.heap.size, 0, none⟩) (by first | omega | (simp; done) | (simp; omega))
    generalize c_x4_0_0 : x4.val.cell? ⟨wr.heap.size, 0, none⟩ = q at q_
    first | (have q2_ : q = some _ := q_; subst q2_) | (simp [go_sem] at q_; have q2_ : q = some _ := q_; subst q2_) | (simp [go_sem, *] at q_; have q2_ : q = some _ := q_; subst q2_)
    have q_ := x4.bel.cell (p := ⟨wr.heap.size, 1, none⟩) (by first | omega | (simp; done) | (simp; omega))
    generalize c_x4_0_1 : x4.val.cell? ⟨wr.heap.size, 1, none⟩ = q at q_
    first | (have q2_ : q = some _ := q_; subst q2_) | (simp [go_sem] at q_; have q2_ : q = some _ := q_; subst q2_) | (simp [go_sem, *] at q_; have q2_ : q = some _ := q_; subst q2_)
    have hb4 : Below w.heap.size w x4.val := (by repeat (first | with_reducible exact Below.refl _ _ | with_reducible refine bel_later _ ?_ | with_reducible refine bel_alloc ?_ _ | refine bel_set ?_ (by first | omega | (simp; done) | (simp; omega)) _ | with_reducible refine Below.drew ?_ | with_reducible refine bel_drewN ?_ _ | with_reducible assumption | assumption))
    have hl4 : wr.heap.size < x4.val.heap.size := by omega
    go_wp2
    go_loopw [46, 7] (fun i v wv => ∃ (k : Nat) (e : Bool), k ≤ m ∧ i = .int .i64 (k : Int) ∧ v = .bool e ∧ Hid (BIs e (EPt dvn pts k)) ∧ Below (wr.heap.size + 1) x4.val wv) (fun i _ _ => m - (RowKit.intOf i).toNat)
    case atStart => exact ⟨0, e0, by omega, rfl, rfl, HE0, Below.refl _ _⟩
    case round =>
      clear HE0
      rename World => wv
      obtain ⟨k, e, hk, rfl, rfl, HE, hbv⟩ := hrel
      obtain ⟨xv, hxv⟩ := later_is hbv
      have hz_xv := xv.bel.size
      obtain rfl := hxv
      have hz_xv := xv.bel.size
      try simp at hz_xv
      have l_xv_0 : wr.heap.size < xv.val.heap.size := by omega
      have m_xv_0 : wr.heap.size < xv.val.heap.size + 1 := by omega
      have q_ := xv.bel.cell (p := ⟨wr.heap.size, 0, none⟩) (by first | omega | (simp; done) | (simp; omega))
      generalize c_xv_0_0 : xv.val.cell? ⟨wr.heap.size, 0, none⟩ = q at q_
      first | (have q2_ : q = some _ := q_; subst q2_) | (simp [go_sem] at q_; have q2_ : q = some _ := q_; subst q2_) | (simp [go_sem, *] at q_; have q2_ : q = some _ := q_; subst q2_)
      have q_ := xv.bel.cell (p := ⟨wr.heap.size, 1, none⟩) (by first | omega | (simp; done) | (simp; omega))
      generalize c_xv_0_1 : xv.val.cell? ⟨wr.heap.size, 1, none⟩ = q at q_
      first | (have q2_ : q = some _ := q_; subst q2_) | (simp [go_sem] at q_; have q2_ : q = some _ := q_; subst q2_) | (simp [go_sem, *] at q_; have q2_ : q = some _ := q_; subst q2_)
      have hbw : Below w.heap.size w xv.val := hb4.trans (hbv.mono (by have := hbe.size; omega))
      by_cases hlk : k < m
      rotate_left
      · obtain rfl : k = m := by omega
        obtain rfl : e = al := beq_of_iff HE.out (by rw [← HAL.out]; exact (EPt.all HM.out (by omega)).symm)
        clear hlk hk HE
        have te : (e != e) = false := by simp
        go_upto_region 21 with fail
        go_cut [3] (fun v wx => ∃ w1 : Bool, v = .bool w1 ∧ Hid (BIs w1 (WDr l j dvn (Vd.rightDv dvn pts) 0)) ∧ xv.val = wx)
        case first =>
          cases wj
          · have hw : Hid (BIs false (WDr l j dvn (Vd.rightDv dvn pts) 0)) := Lib.hid (by
              unfold BIs
              rw [WDr.zero]
              exact ⟨fun h => (by cases h), fun h => HW.out.2 h.1⟩)
            go_wp2
            go_meet
            case rel => exact ⟨false, rfl, hw, rfl⟩
          · have hw : Hid (BIs e (WDr l j dvn (Vd.rightDv dvn pts) 0)) := Lib.hid (by
              unfold BIs
              rw [WDr.zero, HAL.out]
              exact ⟨fun h => ⟨HW.out.1 rfl, h⟩, fun h => h.2⟩)
            go_wp2
            go_meet
            case rel => exact ⟨e, rfl, hw, rfl⟩
        case rest =>
        obtain ⟨w1, rfl, HW1, rfl⟩ := hcut
        have b0 : (0 : Int) ≤ (j : Int) := by omega
        have b1 : (j : Int) ≤ (c : Int) := by omega
        go_wp2
        go_loopw [98, 3] (fun i v wz => ∃ (r : Nat) (w3 : Bool), r ≤ j ∧ i = .int .i64 (r : Int) ∧ v = .bool w3 ∧ Hid (BIs w3 (WDr l j dvn (Vd.rightDv dvn pts) r)) ∧ Below (wr.heap.size + 1) x4.val wz) (fun i _ _ => j - (RowKit.intOf i).toNat)
        case atStart => exact ⟨0, w1, by omega, rfl, rfl, HW1, hbv⟩
        case round =>
          clear HW1
          rename World => wz
          obtain ⟨r, w3, hr, rfl, rfl, HW3, hbz⟩ := hrel
          obtain ⟨xz, hxz⟩ := later_is hbz
          have hz_xz := xz.bel.size
          obtain rfl := hxz
          have hz_xz := xz.bel.size
          try simp at hz_xz
          have l_xz_0 : wr.heap.size < xz.val.heap.size := by omega
          have m_xz_0 : wr.heap.size < xz.val.heap.size + 1 := by omega
          have q_ := xz.bel.cell (p := ⟨wr.heap.size, 0, none⟩) (by first | omega | (simp; done) | (simp; omega))
          generalize c_xz_0_0 : xz.val.cell? ⟨wr.heap.size, 0, none⟩ = q at q_
          first | (have q2_ : q = some _ := q_; subst q2_) | (simp [go_sem] at q_; have q2_ : q = some _ := q_; subst q2_) | (simp [go_sem, *] at q_; have q2_ : q = some _ := q_; subst q2_)
          have q_ := xz.bel.cell (p := ⟨wr.heap.size, 1, none⟩) (by first | omega | (simp; done) | (simp; omega))
          generalize c_xz_0_1 : xz.val.cell? ⟨wr.heap.size, 1, none⟩ = q at q_
          first | (have q2_ : q = some _ := q_; subst q2_) | (simp [go_sem] at q_; have q2_ : q = some _ := q_; subst q2_) | (simp [go_sem, *] at q_; have q2_ : q = some _ := q_; subst q2_)
          have hbzw : Below w.heap.size w xz.val := hb4.trans (hbz.mono (by have := hbe.size; omega))
          by_cases hlr : r < j
          rotate_left
          · obtain rfl : r = j := by omega
            have HWN : Hid (BIs w3 (WDv l (r + 1))) := Lib.hid (HW3.out.trans (WDr.last HD.out))
            have hfa : Hid (Vd.rightTab l = true → firstAt Dv.name dvn l = some r) := Lib.hid (fun h => firstAt_uniq (f := Dv.name) ((rightTab_iff l).1 h).2.2 HD.out)
            clear hlr hr HW3
            obtain ⟨fi, fo, hf⟩ : ∃ (fi : Nat) (fo : Bool), atV (firstAt Dv.name dvn l) = .tuple #[.int .i64 (fi : Int), .bool fo] ∧ (Vd.rightTab l = true → fi = r ∧ fo = true) := by
              cases hq : firstAt Dv.name dvn l with
              | none => exact ⟨0, false, rfl, fun h => by have := hfa.out h; rw [hq] at this; cases this⟩
              | some i => exact ⟨i, true, rfl, fun h => by have := hfa.out h; rw [hq] at this; exact ⟨Option.some.inj this, rfl⟩⟩
            have FF := Lib.hid (fun (x : World) (hx : Below w.heap.size w x) => FD.out dvn x hx)
            rw [hf.1] at FF
            have HF2 := Lib.hid hf.2
            clear hf hfa
            cases hrt : Vd.rightTab l
            · rw [hrt] at TR
              clear HF2 hrt
              go_wp2_with fail
              with_reducible refine (FF.out _ (by repeat (first | with_reducible exact Below.refl _ _ | with_reducible refine bel_later _ ?_ | with_reducible refine bel_alloc ?_ _ | refine bel_set ?_ (by first | omega | (simp; done) | (simp; omega)) _ | with_reducible refine Below.drew ?_ | with_reducible refine bel_drewN ?_ _ | with_reducible assumption | assumption))).mono ?_
              rintro e_x6 w_x6 ⟨rfl, hb_x6⟩
              obtain ⟨x6, rfl⟩ := later_is hb_x6
              clear hb_x6
              have hz_x6 := x6.bel.size
              try simp at hz_x6
              go_wp2_with fail
              with_reducible refine (TR.out _ (by repeat (first | with_reducible exact Below.refl _ _ | with_reducible refine bel_later _ ?_ | with_reducible refine bel_alloc ?_ _ | refine bel_set ?_ (by first | omega | (simp; done) | (simp; omega)) _ | with_reducible refine Below.drew ?_ | with_reducible refine bel_drewN ?_ _ | with_reducible assumption | assumption))).mono ?_
              rintro e_x7 w_x7 ⟨rfl, hb_x7⟩
              obtain ⟨x7, rfl⟩ := later_is hb_x7
              clear hb_x7
              have hz_x7 := x7.bel.size
              try simp at hz_x7
              have bfin : Below w.heap.size w x7.val := (by repeat (first | with_reducible exact Below.refl _ _ | with_reducible refine bel_later _ ?_ | with_reducible refine bel_alloc ?_ _ | refine bel_set ?_ (by first | omega | (simp; done) | (simp; omega)) _ | with_reducible refine Below.drew ?_ | with_reducible refine bel_drewN ?_ _ | with_reducible assumption | assumption))
              go_wp2
              go_roundw
              case rel => exact ⟨r + 1, w3, by omega, by go_num, rfl, HWN, bfin⟩
              case measure => simp [RowKit.intOf]; omega
            · obtain ⟨rfl, rfl⟩ := HF2.out hrt
              rw [hrt] at TR
              clear HF2 hrt
              go_wp2_with fail
              with_reducible refine (FF.out _ (by repeat (first | with_reducible exact Below.refl _ _ | with_reducible refine bel_later _ ?_ | with_reducible refine bel_alloc ?_ _ | refine bel_set ?_ (by first | omega | (simp; done) | (simp; omega)) _ | with_reducible refine Below.drew ?_ | with_reducible refine bel_drewN ?_ _ | with_reducible assumption | assumption))).mono ?_
              rintro e_x6 w_x6 ⟨rfl, hb_x6⟩
              obtain ⟨x6, rfl⟩ := later_is hb_x6
              clear hb_x6
              have hz_x6 := x6.bel.size
              try simp at hz_x6
              go_wp2_with fail
              with_reducible refine (TR.out _ (by repeat (first | with_reducible exact Below.refl _ _ | with_reducible refine bel_later _ ?_ | with_reducible refine bel_alloc ?_ _ | refine bel_set ?_ (by first | omega | (simp; done) | (simp; omega)) _ | with_reducible refine Below.drew ?_ | with_reducible refine bel_drewN ?_ _ | with_reducible assumption | assumption))).mono ?_
              rintro e_x7 w_x7 ⟨rfl, hb_x7⟩
              obtain ⟨x7, rfl⟩ := later_is hb_x7
              clear hb_x7
              have hz_x7 := x7.bel.size
              try simp at hz_x7
              have bfin : Below w.heap.size w x7.val := (by repeat (first | with_reducible exact Below.refl _ _ | with_reducible refine bel_later _ ?_ | with_reducible refine bel_alloc ?_ _ | refine bel_set ?_ (by first | omega | (simp; done) | (simp; omega)) _ | with_reducible refine Below.drew ?_ | with_reducible refine bel_drewN ?_ _ | with_reducible assumption | assumption))
              go_wp2
              go_roundw
              case rel => exact ⟨fi + 1, w3, by omega, by go_num, rfl, HWN, bfin⟩
              case measure => simp [RowKit.intOf]; omega
          have hlrI : (r : Int) < (j : Int) := by omega
          obtain ⟨g5, o5, q, hA5, hg5, hq5, hqk, f0, f1⟩ := (HH.out.to hbzw).at_ (k := r) (by rw [HN.out]; omega)
          obtain ⟨rfl, rfl⟩ : g1' = g5 ∧ o1' = o5 := by simpa using hA5
          have hgl5 : g1' < xz.val.heap.size := hg5
          obtain ⟨qn, qp, QA, qc⟩ := q
          have HQ := Lib.hid hq5
          dsimp only at f0 f1
          clear hq5 hg5 hqk hA5
          have bfin : Below (wr.heap.size + 1) x4.val (xz.val.alloc (.cells #[.string qn, .slice QA qp.length qc] 39)) := hbz.trans ((bel_alloc (Below.refl _ _) _).mono (by omega))
          cases w3
          · have HW4 : Hid (BIs false (WDr l j dvn (Vd.rightDv dvn pts) (r + 1))) := Lib.hid (by
              unfold BIs
              rw [WDr.step HQ.out]
              exact ⟨fun h => (by cases h), fun h => HW3.out.2 h.1⟩)
            go_wp2
            go_roundw
            case rel => exact ⟨r + 1, false, by omega, by go_num, rfl, HW4, bfin⟩
            case measure => simp [RowKit.intOf]; omega
          by_cases hne : qn = dvn
          · have t1 : (qn.toList == dvn.toList) = true := str_eq hne
            have HW4 : Hid (BIs false (WDr l j dvn (Vd.rightDv dvn pts) (r + 1))) := Lib.hid (by
              unfold BIs
              rw [WDr.step HQ.out]
              exact ⟨fun h => (by cases h), fun h => absurd hne h.2⟩)
            clear hne
            go_wp2
            go_roundw
            case rel => exact ⟨r + 1, false, by omega, by go_num, rfl, HW4, bfin⟩
            case measure => simp [RowKit.intOf]; omega
          · have t1 : (qn.toList == dvn.toList) = false := str_ne hne
            have HW4 : Hid (BIs true (WDr l j dvn (Vd.rightDv dvn pts) (r + 1))) := Lib.hid (by
              unfold BIs
              rw [WDr.step HQ.out]
              exact ⟨fun _ => ⟨HW3.out.1 rfl, hne⟩, fun _ => rfl⟩)
            clear hne
            go_wp2
            go_roundw
            case rel => exact ⟨r + 1, true, by omega, by go_num, rfl, HW4, bfin⟩
            case measure => simp [RowKit.intOf]; omega
      have hlkI : (k : Int) < (m : Int) := by omega
      obtain ⟨g3', o3, p, hA3, hg3, hp3, e0, e1, e2, e3, e4, e5, e6, e7, e8⟩ := Pt.at_cells (HOK.out.to hbw).rc (k := k) (by rw [HM.out]; exact hlk)
      have hgl3 : g3' < xv.val.heap.size := hg3
      dsimp only at hA3
      subst hA3
      have HP3 := Lib.hid hp3
      have HPF := Lib.hid (HOK.out.fit p (List.mem_of_getElem? hp3))
      obtain ⟨rp, hrp⟩ : ∃ b, Vd.rightPt p = b := ⟨_, rfl⟩
      have HRP := Lib.hid hrp
      have RO := Lib.hid (fun (x : World) => right_one dvn [p] (some ⟨x.heap.size, 0, none⟩) 1 1 (x.alloc (.cells (ptF p).toArray 43)) rfl (dv_one dvn p x HPF.out))
      rw [rightDv_one, hrp] at RO
      clear hp3 hg3 hrp
      obtain ⟨pn, pat, pdg, psg, ⟨pln, pld⟩, ⟨phn, phd⟩, pun⟩ := p
      dsimp only at e0 e1 e2 e3 e4 e5 e6 e7 e8
      have RO2 := Lib.hid (fun (x : World) => right_pt dvn pn pat pdg psg pln pld phn phd pun x _ (RO.out x))
      clear RO
      go_upto_region 12 with fail
      obtain ⟨wp, hwp⟩ : ∃ w_q_, w_q_ = xv.val.alloc (.cells #[.string pn, .int .i64 pat, .int .i64 pdg, .bool psg, .int .i64 pln, .int .u8 (pld : Int), .int .i64 phn, .int .u8 (phd : Int), .string pun] 43) := ⟨_, rfl⟩
      rw [← hwp]
      have hbp : Below xv.val.heap.size xv.val wp := by rw [hwp]; exact bel_alloc (Below.refl _ _) _
      have RPV : Hid (RowAt wp xv.val.heap.size 43 (ptF ⟨pn, pat, pdg, psg, ⟨pln, pld⟩, ⟨phn, phd⟩, pun⟩)) := Lib.hid (by rw [hwp]; exact RowAt.new' _ _ _ _ rfl)
      have P0 : wp.cell? ⟨xv.val.heap.size, 0, none⟩ = some (.string pn) := RPV.out.cells 0
      have P1 : wp.cell? ⟨xv.val.heap.size, 1, none⟩ = some (.int .i64 pat) := RPV.out.cells 1
      have P2 : wp.cell? ⟨xv.val.heap.size, 2, none⟩ = some (.int .i64 pdg) := RPV.out.cells 2
      have P3 : wp.cell? ⟨xv.val.heap.size, 3, none⟩ = some (.bool psg) := RPV.out.cells 3
      have P4 : wp.cell? ⟨xv.val.heap.size, 4, none⟩ = some (.int .i64 pln) := RPV.out.cells 4
      have P5 : wp.cell? ⟨xv.val.heap.size, 5, none⟩ = some (.int .u8 (pld : Int)) := RPV.out.cells 5
      have P6 : wp.cell? ⟨xv.val.heap.size, 6, none⟩ = some (.int .i64 phn) := RPV.out.cells 6
      have P7 : wp.cell? ⟨xv.val.heap.size, 7, none⟩ = some (.int .u8 (phd : Int)) := RPV.out.cells 7
      have P8 : wp.cell? ⟨xv.val.heap.size, 8, none⟩ = some (.string pun) := RPV.out.cells 8
      obtain ⟨xp, hxp⟩ := later_is hbp
      have hzp : xp.val.heap.size = xv.val.heap.size + 1 := by rw [← hxp, hwp]; simp
      obtain rfl := hxp
      have hlp : xv.val.heap.size < xp.val.heap.size := by omega
      have hlw : wr.heap.size < xp.val.heap.size := by omega
      have HZP := Lib.hid hzp
      clear hwp hzp e0 e1 e2 e3 e4 e5 e6 e7 e8
      go_cut [7] (fun v wx => ∃ e2 : Bool, v = .bool e2 ∧ Hid (BIs e2 (EPr dvn pts k ⟨pn, pat, pdg, psg, ⟨pln, pld⟩, ⟨phn, phd⟩, pun⟩ 0)) ∧ Hid (Below xp.val.heap.size xp.val wx))
      case first =>
        cases e
        · have hw : Hid (BIs false (EPr dvn pts k ⟨pn, pat, pdg, psg, ⟨pln, pld⟩, ⟨phn, phd⟩, pun⟩ 0)) := Lib.hid (by
            unfold BIs
            rw [EPr.zero]
            exact ⟨fun h => (by cases h), fun h => HE.out.2 h.1⟩)
          go_wp2
          go_meet
          case rel => exact ⟨false, rfl, hw, Lib.hid (Below.refl _ _)⟩
        · have hnm : Vd.name dvn = true := (HE.out.1 rfl).1
          rw [hnm, Bool.true_and] at RO2
          have hw : Hid (BIs rp (EPr dvn pts k ⟨pn, pat, pdg, psg, ⟨pln, pld⟩, ⟨phn, phd⟩, pun⟩ 0)) := Lib.hid (by
            unfold BIs
            rw [EPr.zero, HRP.out]
            exact ⟨fun h => ⟨HE.out.1 rfl, h⟩, fun h => h.2⟩)
          clear hnm
          go_wp2_with fail
          (with_reducible refine (RO2.out _).mono ?_)
          rintro e_ w_ ⟨rfl, hb5⟩
          have hb6 : Hid (Below xp.val.heap.size xp.val w_) := Lib.hid hb5
          clear hb5
          go_wp2
          go_meet
          case rel => exact ⟨rp, rfl, hw, hb6⟩
      case rest =>
      obtain ⟨e2, rfl, HE2, HBC⟩ := hcut
      obtain ⟨xc, hxc⟩ := later_is HBC.out
      obtain rfl := hxc
      have hz_xc := xc.bel.size
      have Q0 : xc.val.cell? ⟨xv.val.heap.size, 0, none⟩ = some (.string pn) := (HBC.out.cell (p := ⟨xv.val.heap.size, 0, none⟩) hlp).trans P0
      have Q1 : xc.val.cell? ⟨xv.val.heap.size, 1, none⟩ = some (.int .i64 pat) := (HBC.out.cell (p := ⟨xv.val.heap.size, 1, none⟩) hlp).trans P1
      have bvc : Below xv.val.heap.size xv.val xc.val := hbp.trans (HBC.out.mono (Nat.le_of_lt hlp))
      have E0 : xc.val.cell? ⟨wr.heap.size, 0, none⟩ = some (.string dvn) := (bvc.cell (p := ⟨wr.heap.size, 0, none⟩) (by omega)).trans c_xv_0_0
      have E1 : xc.val.cell? ⟨wr.heap.size, 1, none⟩ = some (.slice (some ⟨g3', o3, none⟩) m pc) := (bvc.cell (p := ⟨wr.heap.size, 1, none⟩) (by omega)).trans c_xv_0_1
      have hlc : xv.val.heap.size < xc.val.heap.size := by omega
      have hlc2 : wr.heap.size < xc.val.heap.size := by omega
      have hbcw : Below w.heap.size w xc.val := hbw.trans (bvc.mono hbw.size)
      have bk0 : (0 : Int) ≤ (k : Int) := by omega
      have bk1 : (k : Int) ≤ (pc : Int) := by omega
      clear P0 P1 P2 P3 P4 P5 P6 P7 P8
      go_wp2
      go_loopw [66, 7] (fun i v wz => ∃ (r : Nat) (e3 : Bool), r ≤ k ∧ i = .int .i64 (r : Int) ∧ v = .bool e3 ∧ Hid (BIs e3 (EPr dvn pts k ⟨pn, pat, pdg, psg, ⟨pln, pld⟩, ⟨phn, phd⟩, pun⟩ r)) ∧ Below xc.val.heap.size xc.val wz) (fun i _ _ => k - (RowKit.intOf i).toNat)
      case atStart => exact ⟨0, e2, by omega, rfl, rfl, HE2, Below.refl _ _⟩
      case round =>
        clear HE2
        rename World => wz
        obtain ⟨r, e3, hr, rfl, rfl, HE3, hbz⟩ := hrel
        obtain ⟨xz, hxz⟩ := later_is hbz
        have hz_xz := xz.bel.size
        obtain rfl := hxz
        have hz_xz := xz.bel.size
        try simp at hz_xz
        have l_xz_0 : xv.val.heap.size < xz.val.heap.size := by omega
        have m_xz_0 : xv.val.heap.size < xz.val.heap.size + 1 := by omega
        have q_ := xz.bel.cell (p := ⟨xv.val.heap.size, 0, none⟩) (by first | omega | (simp; done) | (simp; omega))
        generalize c_xz_0_0 : xz.val.cell? ⟨xv.val.heap.size, 0, none⟩ = q at q_
        first | (have q2_ : q = some _ := q_; subst q2_) | (simp [go_sem] at q_; have q2_ : q = some _ := q_; subst q2_) | (simp [go_sem, *] at q_; have q2_ : q = some _ := q_; subst q2_)
        have q_ := xz.bel.cell (p := ⟨xv.val.heap.size, 1, none⟩) (by first | omega | (simp; done) | (simp; omega))
        generalize c_xz_0_1 : xz.val.cell? ⟨xv.val.heap.size, 1, none⟩ = q at q_
        first | (have q2_ : q = some _ := q_; subst q2_) | (simp [go_sem] at q_; have q2_ : q = some _ := q_; subst q2_) | (simp [go_sem, *] at q_; have q2_ : q = some _ := q_; subst q2_)
        have hbzw : Below w.heap.size w xz.val := hbcw.trans (hbz.mono hbcw.size)
        by_cases hlr : r < k
        rotate_left
        · obtain rfl : r = k := by omega
          have HEN : Hid (BIs e3 (EPt dvn pts (r + 1))) := Lib.hid (HE3.out.trans (EPr.last HP3.out))
          have bfin : Below (wr.heap.size + 1) x4.val xz.val := hbv.trans ((bvc.trans (hbz.mono bvc.size)).mono (by omega))
          clear hlr hr HE3
          go_wp2
          go_roundw
          case rel => exact ⟨r + 1, e3, by omega, by go_num, rfl, HEN, bfin⟩
          case measure => simp [RowKit.intOf]; omega
        have hlrI : (r : Int) < (k : Int) := by omega
        obtain ⟨g5, o5, q, hA5, hg5, hq5, f0, f1, f2, f3, f4, f5, f6, f7, f8⟩ := Pt.at_cells (HOK.out.to hbzw).rc (k := r) (by rw [HM.out]; omega)
        obtain ⟨rfl, rfl⟩ : g3' = g5 ∧ o3 = o5 := by simpa using hA5
        have hgl5 : g3' < xz.val.heap.size := hg5
        obtain ⟨qn, qat, qdg, qsg, ⟨qln, qld⟩, ⟨qhn, qhd⟩, qun⟩ := q
        have HQ := Lib.hid hq5
        dsimp only at f0 f1 f2 f3 f4 f5 f6 f7 f8
        clear hq5 hg5 hA5
        have bfin : Below xc.val.heap.size xc.val (xz.val.alloc (.cells #[.string qn, .int .i64 qat, .int .i64 qdg, .bool qsg, .int .i64 qln, .int .u8 (qld : Int), .int .i64 qhn, .int .u8 (qhd : Int), .string qun] 43)) := hbz.trans ((bel_alloc (Below.refl _ _) _).mono hz_xz)
        cases e3
        · have HE4 : Hid (BIs false (EPr dvn pts k ⟨pn, pat, pdg, psg, ⟨pln, pld⟩, ⟨phn, phd⟩, pun⟩ (r + 1))) := Lib.hid (by
            unfold BIs
            rw [EPr.step HQ.out]
            exact ⟨fun h => (by cases h), fun h => HE3.out.2 h.1⟩)
          go_wp2
          go_roundw
          case rel => exact ⟨r + 1, false, by omega, by go_num, rfl, HE4, bfin⟩
          case measure => simp [RowKit.intOf]; omega
        by_cases hne : pn = qn
        · have t1 : (pn.toList == qn.toList) = true := str_eq hne
          have HE4 : Hid (BIs false (EPr dvn pts k ⟨pn, pat, pdg, psg, ⟨pln, pld⟩, ⟨phn, phd⟩, pun⟩ (r + 1))) := Lib.hid (by
            unfold BIs
            rw [EPr.step HQ.out]
            exact ⟨fun h => (by cases h), fun h => absurd hne h.2.1⟩)
          clear hne
          go_wp2
          go_roundw
          case rel => exact ⟨r + 1, false, by omega, by go_num, rfl, HE4, bfin⟩
          case measure => simp [RowKit.intOf]; omega
        have t1 : (pn.toList == qn.toList) = false := str_ne hne
        by_cases hae : pat = qat
        · have t2 : (pat != qat) = false := by simp [hae]
          have HE4 : Hid (BIs false (EPr dvn pts k ⟨pn, pat, pdg, psg, ⟨pln, pld⟩, ⟨phn, phd⟩, pun⟩ (r + 1))) := Lib.hid (by
            unfold BIs
            rw [EPr.step HQ.out]
            exact ⟨fun h => (by cases h), fun h => absurd hae h.2.2⟩)
          clear hne hae
          go_wp2
          go_roundw
          case rel => exact ⟨r + 1, false, by omega, by go_num, rfl, HE4, bfin⟩
          case measure => simp [RowKit.intOf]; omega
        · have t2 : (pat != qat) = true := bne_iff_ne.2 hae
          have HE4 : Hid (BIs true (EPr dvn pts k ⟨pn, pat, pdg, psg, ⟨pln, pld⟩, ⟨phn, phd⟩, pun⟩ (r + 1))) := Lib.hid (by
            unfold BIs
            rw [EPr.step HQ.out]
            exact ⟨fun _ => ⟨HE3.out.1 rfl, hne, hae⟩, fun _ => rfl⟩)
          clear hne hae
          go_wp2
          go_roundw
          case rel => exact ⟨r + 1, true, by omega, by go_num, rfl, HE4, bfin⟩
          case measure => simp [RowKit.intOf]; omega
end Go.Proofs.Ythhokpaidekmnaa
