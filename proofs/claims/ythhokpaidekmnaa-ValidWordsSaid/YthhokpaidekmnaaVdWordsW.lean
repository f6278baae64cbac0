/- Layer 15: the walk of ValidWords. -/
import Derived.Test.YthhokpaidekmnaaVdSmall
import Derived.Test.YthhokpaidekmnaaVdWdLaw
namespace Go.Proofs.Ythhokpaidekmnaa
open Go.RowKit
set_option linter.unusedVariables false
set_option linter.unusedSimpArgs false
set_option maxRecDepth 100000
attribute [local go_sem] Later.cell Later.frozen setCell_twice
theorem rightTab_pts {l : List Dv} {d : Dv} {p : Pt} (h : Vd.rightTab l = true) (hd : d ∈ l) (hp : p ∈ d.pts) : Vd.rightPt p = true := by
  unfold Vd.rightTab at h
  simp only [Bool.and_eq_true, decide_eq_true_iff] at h
  have h2 := List.all_eq_true.1 h.2.1 d hd
  unfold Vd.rightDv at h2
  simp only [Bool.and_eq_true, decide_eq_true_iff] at h2
  exact List.all_eq_true.1 h2.2.1 p hp
set_option maxHeartbeats 16000000 in
theorem words_walk (A : Option Addr) (l : List Dv) (n c : Nat) (dn : Int) (dd : Nat) (un ot : ByteArray) (w : World) (hn : l.length = n) (h : Tab w w.heap.size A l) (hs : Shp A n c) (hf : Dc.Fit ⟨dn, dd⟩) :
    Calls Try.prog 6 #[.slice A n c, dcV dn dd, .string un, .string ot] w fun e w' => e = .returned (.bool true) ∧ Below w.heap.size w w' := by
  have HN := Lib.hid hn
  have HH := Lib.hid h
  have hcap : n ≤ 9223372036854775807 := Nat.le_trans hs.le hs.cap
  have SM := Lib.hid (fun (x : World) (hx : Below w.heap.size w x) => small_any A l n c x hn (h.to hx) hs)
  have TR := Lib.hid (fun (x : World) (hx : Below w.heap.size w x) => tabright_any A l n c x hn (h.to hx) hs)
  have RD := Lib.hid (fun w => rightD_any dn dd w hf.1 hf.2.1)
  have AW := Lib.hid awake_any
  clear hn h hs
  unfold dcV
  cases q1 : Vd.small l
  · rw [q1] at SM
    clear q1
    go_enter Try.func6, Try.ntmps6
    go_wp2_with fail
    with_reducible refine (SM.out _ (by repeat (first | with_reducible exact Below.refl _ _ | with_reducible refine bel_later _ ?_ | with_reducible refine bel_alloc ?_ _ | refine bel_set ?_ (by first | omega | (simp; done) | (simp; omega)) _ | with_reducible refine Below.drew ?_ | with_reducible refine bel_drewN ?_ _ | with_reducible assumption | assumption))).mono ?_
    rintro e_x1 w_x1 ⟨rfl, hb_x1⟩
    obtain ⟨x1, rfl⟩ := later_is hb_x1
    clear hb_x1
    have hz_x1 := x1.bel.size
    try simp at hz_x1
    have l_x1_0 : w.heap.size < x1.val.heap.size := by omega
    have m_x1_0 : w.heap.size < x1.val.heap.size + 1 := by omega
    have q_ := x1.bel.cell (p := ⟨w.heap.size, 0, none⟩) (by first | omega | (simp; done) | (simp; omega))
    generalize c_x1_0_0 : x1.val.cell? ⟨w.heap.size, 0, none⟩ = q at q_
    first | (have q2_ : q = some _ := q_; subst q2_) | (simp [go_sem] at q_; have q2_ : q = some _ := q_; subst q2_) | (simp [go_sem, *] at q_; have q2_ : q = some _ := q_; subst q2_)
    have q_ := x1.bel.frozen (p := ⟨w.heap.size, 0, none⟩) (by first | omega | (simp; done) | (simp; omega))
    generalize z_x1_0_0 : x1.val.frozen? ⟨w.heap.size, 0, none⟩ = q at q_
    first | (have q2_ : q = false := q_; subst q2_) | (simp [go_sem] at q_; have q2_ : q = false := q_; subst q2_) | (simp [go_sem, *] at q_; have q2_ : q = false := q_; subst q2_)
    have q_ := x1.bel.cell (p := ⟨w.heap.size, 1, none⟩) (by first | omega | (simp; done) | (simp; omega))
    generalize c_x1_0_1 : x1.val.cell? ⟨w.heap.size, 1, none⟩ = q at q_
    first | (have q2_ : q = some _ := q_; subst q2_) | (simp [go_sem] at q_; have q2_ : q = some _ := q_; subst q2_) | (simp [go_sem, *] at q_; have q2_ : q = some _ := q_; subst q2_)
    have q_ := x1.bel.frozen (p := ⟨w.heap.size, 1, none⟩) (by first | omega | (simp; done) | (simp; omega))
    generalize z_x1_0_1 : x1.val.frozen? ⟨w.heap.size, 1, none⟩ = q at q_
    first | (have q2_ : q = false := q_; subst q2_) | (simp [go_sem] at q_; have q2_ : q = false := q_; subst q2_) | (simp [go_sem, *] at q_; have q2_ : q = false := q_; subst q2_)
    go_wp2_with fail
    with_reducible refine (AW.out _).mono ?_
    rintro e_xa w_xa ⟨rfl, hb_xa⟩
    obtain ⟨xa, rfl⟩ := later_is hb_xa
    clear hb_xa
    have hz_xa := xa.bel.size
    try simp at hz_xa
    go_wp2
    go_ret
    exact ⟨rfl, (by repeat (first | with_reducible exact Below.refl _ _ | with_reducible refine bel_later _ ?_ | with_reducible refine bel_alloc ?_ _ | refine bel_set ?_ (by first | omega | (simp; done) | (simp; omega)) _ | with_reducible refine Below.drew ?_ | with_reducible refine bel_drewN ?_ _ | with_reducible assumption | assumption))⟩
  rw [q1] at SM
  clear q1
  cases q2 : Vd.rightTab l
  · rw [q2] at TR
    clear q2
    go_enter Try.func6, Try.ntmps6
    go_wp2_with fail
    with_reducible refine (SM.out _ (by repeat (first | with_reducible exact Below.refl _ _ | with_reducible refine bel_later _ ?_ | with_reducible refine bel_alloc ?_ _ | refine bel_set ?_ (by first | omega | (simp; done) | (simp; omega)) _ | with_reducible refine Below.drew ?_ | with_reducible refine bel_drewN ?_ _ | with_reducible assumption | assumption))).mono ?_
    rintro e_x1 w_x1 ⟨rfl, hb_x1⟩
    obtain ⟨x1, rfl⟩ := later_is hb_x1
    clear hb_x1
    have hz_x1 := x1.bel.size
    try simp at hz_x1
    have l_x1_0 : w.heap.size < x1.val.heap.size := by omega
    have m_x1_0 : w.heap.size < x1.val.heap.size + 1 := by omega
    have q_ := x1.bel.cell (p := ⟨w.heap.size, 0, none⟩) (by first | omega | (simp; done) | (simp; omega))
    generalize c_x1_0_0 : x1.val.cell? ⟨w.heap.size, 0, none⟩ = q at q_
    first | (have q2_ : q = some _ := q_; subst q2_) | (simp [go_sem] at q_; have q2_ : q = some _ := q_; subst q2_) | (simp [go_sem, *] at q_; have q2_ : q = some _ := q_; subst q2_)
    have q_ := x1.bel.frozen (p := ⟨w.heap.size, 0, none⟩) (by first | omega | (simp; done) | (simp; omega))
    generalize z_x1_0_0 : x1.val.frozen? ⟨w.heap.size, 0, none⟩ = q at q_
    first | (have q2_ : q = false := q_; subst q2_) | (simp [go_sem] at q_; have q2_ : q = false := q_; subst q2_) | (simp [go_sem, *] at q_; have q2_ : q = false := q_; subst q2_)
    have q_ := x1.bel.cell (p := ⟨w.heap.size, 1, none⟩) (by first | omega | (simp; done) | (simp; omega))
    generalize c_x1_0_1 : x1.val.cell? ⟨w.heap.size, 1, none⟩ = q at q_
    first | (have q2_ : q = some _ := q_; subst q2_) | (simp [go_sem] at q_; have q2_ : q = some _ := q_; subst q2_) | (simp [go_sem, *] at q_; have q2_ : q = some _ := q_; subst q2_)
    have q_ := x1.bel.frozen (p := ⟨w.heap.size, 1, none⟩) (by first | omega | (simp; done) | (simp; omega))
    generalize z_x1_0_1 : x1.val.frozen? ⟨w.heap.size, 1, none⟩ = q at q_
    first | (have q2_ : q = false := q_; subst q2_) | (simp [go_sem] at q_; have q2_ : q = false := q_; subst q2_) | (simp [go_sem, *] at q_; have q2_ : q = false := q_; subst q2_)
    go_wp2_with fail
    with_reducible refine (TR.out _ (by repeat (first | with_reducible exact Below.refl _ _ | with_reducible refine bel_later _ ?_ | with_reducible refine bel_alloc ?_ _ | refine bel_set ?_ (by first | omega | (simp; done) | (simp; omega)) _ | with_reducible refine Below.drew ?_ | with_reducible refine bel_drewN ?_ _ | with_reducible assumption | assumption))).mono ?_
    rintro e_x2 w_x2 ⟨rfl, hb_x2⟩
    obtain ⟨x2, rfl⟩ := later_is hb_x2
    clear hb_x2
    have hz_x2 := x2.bel.size
    try simp at hz_x2
    replace c_x1_0_0 := x2.keep (by repeat (first | exact c_x1_0_0 | apply keep_alloc | (apply keep_set; rotate_left; first | (simp; done) | (simp; omega))))
    replace c_x1_0_1 := x2.keep (by repeat (first | exact c_x1_0_1 | apply keep_alloc | (apply keep_set; rotate_left; first | (simp; done) | (simp; omega))))
    have lc_x2_0 : w.heap.size < x2.val.heap.size := by omega
    have mc_x2_0 : w.heap.size < x2.val.heap.size + 1 := by omega
    go_wp2_with fail
    with_reducible refine (AW.out _).mono ?_
    rintro e_xa w_xa ⟨rfl, hb_xa⟩
    obtain ⟨xa, rfl⟩ := later_is hb_xa
    clear hb_xa
    have hz_xa := xa.bel.size
    try simp at hz_xa
    go_wp2
    go_ret
    exact ⟨rfl, (by repeat (first | with_reducible exact Below.refl _ _ | with_reducible refine bel_later _ ?_ | with_reducible refine bel_alloc ?_ _ | refine bel_set ?_ (by first | omega | (simp; done) | (simp; omega)) _ | with_reducible refine Below.drew ?_ | with_reducible refine bel_drewN ?_ _ | with_reducible assumption | assumption))⟩
  rw [q2] at TR
  have HRT := Lib.hid q2
  clear q2
  cases q3 : Vd.rightD ⟨dn, dd⟩
  · rw [q3] at RD
    clear q3
    go_enter Try.func6, Try.ntmps6
    go_wp2_with fail
    with_reducible refine (SM.out _ (by repeat (first | with_reducible exact Below.refl _ _ | with_reducible refine bel_later _ ?_ | with_reducible refine bel_alloc ?_ _ | refine bel_set ?_ (by first | omega | (simp; done) | (simp; omega)) _ | with_reducible refine Below.drew ?_ | with_reducible refine bel_drewN ?_ _ | with_reducible assumption | assumption))).mono ?_
    rintro e_x1 w_x1 ⟨rfl, hb_x1⟩
    obtain ⟨x1, rfl⟩ := later_is hb_x1
    clear hb_x1
    have hz_x1 := x1.bel.size
    try simp at hz_x1
    have l_x1_0 : w.heap.size < x1.val.heap.size := by omega
    have m_x1_0 : w.heap.size < x1.val.heap.size + 1 := by omega
    have q_ := x1.bel.cell (p := ⟨w.heap.size, 0, none⟩) (by first | omega | (simp; done) | (simp; omega))
    generalize c_x1_0_0 : x1.val.cell? ⟨w.heap.size, 0, none⟩ = q at q_
    first | (have q2_ : q = some _ := q_; subst q2_) | (simp [go_sem] at q_; have q2_ : q = some _ := q_; subst q2_) | (simp [go_sem, *] at q_; have q2_ : q = some _ := q_; subst q2_)
    have q_ := x1.bel.frozen (p := ⟨w.heap.size, 0, none⟩) (by first | omega | (simp; done) | (simp; omega))
    generalize z_x1_0_0 : x1.val.frozen? ⟨w.heap.size, 0, none⟩ = q at q_
    first | (have q2_ : q = false := q_; subst q2_) | (simp [go_sem] at q_; have q2_ : q = false := q_; subst q2_) | (simp [go_sem, *] at q_; have q2_ : q = false := q_; subst q2_)
    have q_ := x1.bel.cell (p := ⟨w.heap.size, 1, none⟩) (by first | omega | (simp; done) | (simp; omega))
    generalize c_x1_0_1 : x1.val.cell? ⟨w.heap.size, 1, none⟩ = q at q_
    first | (have q2_ : q = some _ := q_; subst q2_) | (simp [go_sem] at q_; have q2_ : q = some _ := q_; subst q2_) | (simp [go_sem, *] at q_; have q2_ : q = some _ := q_; subst q2_)
    have q_ := x1.bel.frozen (p := ⟨w.heap.size, 1, none⟩) (by first | omega | (simp; done) | (simp; omega))
    generalize z_x1_0_1 : x1.val.frozen? ⟨w.heap.size, 1, none⟩ = q at q_
    first | (have q2_ : q = false := q_; subst q2_) | (simp [go_sem] at q_; have q2_ : q = false := q_; subst q2_) | (simp [go_sem, *] at q_; have q2_ : q = false := q_; subst q2_)
    go_wp2_with fail
    with_reducible refine (TR.out _ (by repeat (first | with_reducible exact Below.refl _ _ | with_reducible refine bel_later _ ?_ | with_reducible refine bel_alloc ?_ _ | refine bel_set ?_ (by first | omega | (simp; done) | (simp; omega)) _ | with_reducible refine Below.drew ?_ | with_reducible refine bel_drewN ?_ _ | with_reducible assumption | assumption))).mono ?_
    rintro e_x2 w_x2 ⟨rfl, hb_x2⟩
    obtain ⟨x2, rfl⟩ := later_is hb_x2
    clear hb_x2
    have hz_x2 := x2.bel.size
    try simp at hz_x2
    replace c_x1_0_0 := x2.keep (by repeat (first | exact c_x1_0_0 | apply keep_alloc | (apply keep_set; rotate_left; first | (simp; done) | (simp; omega))))
    replace c_x1_0_1 := x2.keep (by repeat (first | exact c_x1_0_1 | apply keep_alloc | (apply keep_set; rotate_left; first | (simp; done) | (simp; omega))))
    have lc_x2_0 : w.heap.size < x2.val.heap.size := by omega
    have mc_x2_0 : w.heap.size < x2.val.heap.size + 1 := by omega
    go_wp2_with fail
    with_reducible refine (RD.out _).mono ?_
    rintro e_x3 w_x3 ⟨rfl, hb_x3⟩
    obtain ⟨x3, rfl⟩ := later_is hb_x3
    clear hb_x3
    have hz_x3 := x3.bel.size
    try simp at hz_x3
    replace c_x1_0_0 := x3.keep (by repeat (first | exact c_x1_0_0 | apply keep_alloc | (apply keep_set; rotate_left; first | (simp; done) | (simp; omega))))
    replace c_x1_0_1 := x3.keep (by repeat (first | exact c_x1_0_1 | apply keep_alloc | (apply keep_set; rotate_left; first | (simp; done) | (simp; omega))))
    have lc_x3_0 : w.heap.size < x3.val.heap.size := by omega
    have mc_x3_0 : w.heap.size < x3.val.heap.size + 1 := by omega
    go_wp2_with fail
    with_reducible refine (AW.out _).mono ?_
    rintro e_xa w_xa ⟨rfl, hb_xa⟩
    obtain ⟨xa, rfl⟩ := later_is hb_xa
    clear hb_xa
    have hz_xa := xa.bel.size
    try simp at hz_xa
    go_wp2
    go_ret
    exact ⟨rfl, (by repeat (first | with_reducible exact Below.refl _ _ | with_reducible refine bel_later _ ?_ | with_reducible refine bel_alloc ?_ _ | refine bel_set ?_ (by first | omega | (simp; done) | (simp; omega)) _ | with_reducible refine Below.drew ?_ | with_reducible refine bel_drewN ?_ _ | with_reducible assumption | assumption))⟩
  rw [q3] at RD
  have HRD := Lib.hid q3
  clear q3
  by_cases c1 : 10 < un.size
  · have g1 : decide ((10 : Int) < (un.size : Int)) = true := decide_eq_true (by omega)
    clear c1
    go_enter Try.func6, Try.ntmps6
    go_wp2_with fail
    with_reducible refine (SM.out _ (by repeat (first | with_reducible exact Below.refl _ _ | with_reducible refine bel_later _ ?_ | with_reducible refine bel_alloc ?_ _ | refine bel_set ?_ (by first | omega | (simp; done) | (simp; omega)) _ | with_reducible refine Below.drew ?_ | with_reducible refine bel_drewN ?_ _ | with_reducible assumption | assumption))).mono ?_
    rintro e_x1 w_x1 ⟨rfl, hb_x1⟩
    obtain ⟨x1, rfl⟩ := later_is hb_x1
    clear hb_x1
    have hz_x1 := x1.bel.size
    try simp at hz_x1
    have l_x1_0 : w.heap.size < x1.val.heap.size := by omega
    have m_x1_0 : w.heap.size < x1.val.heap.size + 1 := by omega
    have q_ := x1.bel.cell (p := ⟨w.heap.size, 0, none⟩) (by first | omega | (simp; done) | (simp; omega))
    generalize c_x1_0_0 : x1.val.cell? ⟨w.heap.size, 0, none⟩ = q at q_
    first | (have q2_ : q = some _ := q_; subst q2_) | (simp [go_sem] at q_; have q2_ : q = some _ := q_; subst q2_) | (simp [go_sem, *] at q_; have q2_ : q = some _ := q_; subst q2_)
    have q_ := x1.bel.frozen (p := ⟨w.heap.size, 0, none⟩) (by first | omega | (simp; done) | (simp; omega))
    generalize z_x1_0_0 : x1.val.frozen? ⟨w.heap.size, 0, none⟩ = q at q_
    first | (have q2_ : q = false := q_; subst q2_) | (simp [go_sem] at q_; have q2_ : q = false := q_; subst q2_) | (simp [go_sem, *] at q_; have q2_ : q = false := q_; subst q2_)
    have q_ := x1.bel.cell (p := ⟨w.heap.size, 1, none⟩) (by first | omega | (simp; done) | (simp; omega))
    generalize c_x1_0_1 : x1.val.cell? ⟨w.heap.size, 1, none⟩ = q at q_
    first | (have q2_ : q = some _ := q_; subst q2_) | (simp [go_sem] at q_; have q2_ : q = some _ := q_; subst q2_) | (simp [go_sem, *] at q_; have q2_ : q = some _ := q_; subst q2_)
    have q_ := x1.bel.frozen (p := ⟨w.heap.size, 1, none⟩) (by first | omega | (simp; done) | (simp; omega))
    generalize z_x1_0_1 : x1.val.frozen? ⟨w.heap.size, 1, none⟩ = q at q_
    first | (have q2_ : q = false := q_; subst q2_) | (simp [go_sem] at q_; have q2_ : q = false := q_; subst q2_) | (simp [go_sem, *] at q_; have q2_ : q = false := q_; subst q2_)
    go_wp2_with fail
    with_reducible refine (TR.out _ (by repeat (first | with_reducible exact Below.refl _ _ | with_reducible refine bel_later _ ?_ | with_reducible refine bel_alloc ?_ _ | refine bel_set ?_ (by first | omega | (simp; done) | (simp; omega)) _ | with_reducible refine Below.drew ?_ | with_reducible refine bel_drewN ?_ _ | with_reducible assumption | assumption))).mono ?_
    rintro e_x2 w_x2 ⟨rfl, hb_x2⟩
    obtain ⟨x2, rfl⟩ := later_is hb_x2
    clear hb_x2
    have hz_x2 := x2.bel.size
    try simp at hz_x2
    replace c_x1_0_0 := x2.keep (by repeat (first | exact c_x1_0_0 | apply keep_alloc | (apply keep_set; rotate_left; first | (simp; done) | (simp; omega))))
    replace c_x1_0_1 := x2.keep (by repeat (first | exact c_x1_0_1 | apply keep_alloc | (apply keep_set; rotate_left; first | (simp; done) | (simp; omega))))
    have lc_x2_0 : w.heap.size < x2.val.heap.size := by omega
    have mc_x2_0 : w.heap.size < x2.val.heap.size + 1 := by omega
    go_wp2_with fail
    with_reducible refine (RD.out _).mono ?_
    rintro e_x3 w_x3 ⟨rfl, hb_x3⟩
    obtain ⟨x3, rfl⟩ := later_is hb_x3
    clear hb_x3
    have hz_x3 := x3.bel.size
    try simp at hz_x3
    replace c_x1_0_0 := x3.keep (by repeat (first | exact c_x1_0_0 | apply keep_alloc | (apply keep_set; rotate_left; first | (simp; done) | (simp; omega))))
    replace c_x1_0_1 := x3.keep (by repeat (first | exact c_x1_0_1 | apply keep_alloc | (apply keep_set; rotate_left; first | (simp; done) | (simp; omega))))
    have lc_x3_0 : w.heap.size < x3.val.heap.size := by omega
    have mc_x3_0 : w.heap.size < x3.val.heap.size + 1 := by omega
    go_wp2_with fail
    with_reducible refine (AW.out _).mono ?_
    rintro e_xa w_xa ⟨rfl, hb_xa⟩
    obtain ⟨xa, rfl⟩ := later_is hb_xa
    clear hb_xa
    have hz_xa := xa.bel.size
    try simp at hz_xa
    go_wp2
    go_ret
    exact ⟨rfl, (by repeat (first | with_reducible exact Below.refl _ _ | with_reducible refine bel_later _ ?_ | with_reducible refine bel_alloc ?_ _ | refine bel_set ?_ (by first | omega | (simp; done) | (simp; omega)) _ | with_reducible refine Below.drew ?_ | with_reducible refine bel_drewN ?_ _ | with_reducible assumption | assumption))⟩
  have g1 : decide ((10 : Int) < (un.size : Int)) = false := decide_eq_false (by omega)
  by_cases c2 : 10 < ot.size
  · have g2 : decide ((10 : Int) < (ot.size : Int)) = true := decide_eq_true (by omega)
    clear c1 c2
    go_enter Try.func6, Try.ntmps6
    go_wp2_with fail
    with_reducible refine (SM.out _ (by repeat (first | with_reducible exact Below.refl _ _ | with_reducible refine bel_later _ ?_ | with_reducible refine bel_alloc ?_ _ | refine bel_set ?_ (by first | omega | (simp; done) | (simp; omega)) _ | with_reducible refine Below.drew ?_ | with_reducible refine bel_drewN ?_ _ | with_reducible assumption | assumption))).mono ?_
    rintro e_x1 w_x1 ⟨rfl, hb_x1⟩
    obtain ⟨x1, rfl⟩ := later_is hb_x1
    clear hb_x1
    have hz_x1 := x1.bel.size
    try simp at hz_x1
    have l_x1_0 : w.heap.size < x1.val.heap.size := by omega
    have m_x1_0 : w.heap.size < x1.val.heap.size + 1 := by omega
    have q_ := x1.bel.cell (p := ⟨w.heap.size, 0, none⟩) (by first | omega | (simp; done) | (simp; omega))
    generalize c_x1_0_0 : x1.val.cell? ⟨w.heap.size, 0, none⟩ = q at q_
    first | (have q2_ : q = some _ := q_; subst q2_) | (simp [go_sem] at q_; have q2_ : q = some _ := q_; subst q2_) | (simp [go_sem, *] at q_; have q2_ : q = some _ := q_; subst q2_)
    have q_ := x1.bel.frozen (p := ⟨w.heap.size, 0, none⟩) (by first | omega | (simp; done) | (simp; omega))
    generalize z_x1_0_0 : x1.val.frozen? ⟨w.heap.size, 0, none⟩ = q at q_
    first | (have q2_ : q = false := q_; subst q2_) | (simp [go_sem] at q_; have q2_ : q = false := q_; subst q2_) | (simp [go_sem, *] at q_; have q2_ : q = false := q_; subst q2_)
    have q_ := x1.bel.cell (p := ⟨w.heap.size, 1, none⟩) (by first | omega | (simp; done) | (simp; omega))
    generalize c_x1_0_1 : x1.val.cell? ⟨w.heap.size, 1, none⟩ = q at q_
    first | (have q2_ : q = some _ := q_; subst q2_) | (simp [go_sem] at q_; have q2_ : q = some _ := q_; subst q2_) | (simp [go_sem, *] at q_; have q2_ : q = some _ := q_; subst q2_)
    have q_ := x1.bel.frozen (p := ⟨w.heap.size, 1, none⟩) (by first | omega | (simp; done) | (simp; omega))
    generalize z_x1_0_1 : x1.val.frozen? ⟨w.heap.size, 1, none⟩ = q at q_
    first | (have q2_ : q = false := q_; subst q2_) | (simp [go_sem] at q_; have q2_ : q = false := q_; subst q2_) | (simp [go_sem, *] at q_; have q2_ : q = false := q_; subst q2_)
    go_wp2_with fail
    with_reducible refine (TR.out _ (by repeat (first | with_reducible exact Below.refl _ _ | with_reducible refine bel_later _ ?_ | with_reducible refine bel_alloc ?_ _ | refine bel_set ?_ (by first | omega | (simp; done) | (simp; omega)) _ | with_reducible refine Below.drew ?_ | with_reducible refine bel_drewN ?_ _ | with_reducible assumption | assumption))).mono ?_
    rintro e_x2 w_x2 ⟨rfl, hb_x2⟩
    obtain ⟨x2, rfl⟩ := later_is hb_x2
    clear hb_x2
    have hz_x2 := x2.bel.size
    try simp at hz_x2
    replace c_x1_0_0 := x2.keep (by repeat (first | exact c_x1_0_0 | apply keep_alloc | (apply keep_set; rotate_left; first | (simp; done) | (simp; omega))))
    replace c_x1_0_1 := x2.keep (by repeat (first | exact c_x1_0_1 | apply keep_alloc | (apply keep_set; rotate_left; first | (simp; done) | (simp; omega))))
    have lc_x2_0 : w.heap.size < x2.val.heap.size := by omega
    have mc_x2_0 : w.heap.size < x2.val.heap.size + 1 := by omega
    go_wp2_with fail
    with_reducible refine (RD.out _).mono ?_
    rintro e_x3 w_x3 ⟨rfl, hb_x3⟩
    obtain ⟨x3, rfl⟩ := later_is hb_x3
    clear hb_x3
    have hz_x3 := x3.bel.size
    try simp at hz_x3
    replace c_x1_0_0 := x3.keep (by repeat (first | exact c_x1_0_0 | apply keep_alloc | (apply keep_set; rotate_left; first | (simp; done) | (simp; omega))))
    replace c_x1_0_1 := x3.keep (by repeat (first | exact c_x1_0_1 | apply keep_alloc | (apply keep_set; rotate_left; first | (simp; done) | (simp; omega))))
    have lc_x3_0 : w.heap.size < x3.val.heap.size := by omega
    have mc_x3_0 : w.heap.size < x3.val.heap.size + 1 := by omega
    go_wp2_with fail
    with_reducible refine (AW.out _).mono ?_
    rintro e_xa w_xa ⟨rfl, hb_xa⟩
    obtain ⟨xa, rfl⟩ := later_is hb_xa
    clear hb_xa
    have hz_xa := xa.bel.size
    try simp at hz_xa
    go_wp2
    go_ret
    exact ⟨rfl, (by repeat (first | with_reducible exact Below.refl _ _ | with_reducible refine bel_later _ ?_ | with_reducible refine bel_alloc ?_ _ | refine bel_set ?_ (by first | omega | (simp; done) | (simp; omega)) _ | with_reducible refine Below.drew ?_ | with_reducible refine bel_drewN ?_ _ | with_reducible assumption | assumption))⟩
  have g2 : decide ((10 : Int) < (ot.size : Int)) = false := decide_eq_false (by omega)
  clear c1 c2
  go_enter Try.func6, Try.ntmps6
  go_wp2_with fail
  with_reducible refine (SM.out _ (by repeat (first | with_reducible exact Below.refl _ _ | with_reducible refine bel_later _ ?_ | with_reducible refine bel_alloc ?_ _ | refine bel_set ?_ (by first | omega | (simp; done) | (simp; omega)) _ | with_reducible refine Below.drew ?_ | with_reducible refine bel_drewN ?_ _ | with_reducible assumption | assumption))).mono ?_
  rintro e_x1 w_x1 ⟨rfl, hb_x1⟩
  obtain ⟨x1, rfl⟩ := later_is hb_x1
  clear hb_x1
  have hz_x1 := x1.bel.size
  try simp at hz_x1
  have l_x1_0 : w.heap.size < x1.val.heap.size := by omega
  have m_x1_0 : w.heap.size < x1.val.heap.size + 1 := by omega
  have q_ := x1.bel.cell (p := ⟨w.heap.size, 0, none⟩) (by first | omega | (simp; done) | (simp; omega))
  generalize c_x1_0_0 : x1.val.cell? ⟨w.heap.size, 0, none⟩ = q at q_
  first | (have q2_ : q = some _ := q_; subst q2_) | (simp [go_sem] at q_; have q2_ : q = some _ := q_; subst q2_) | (simp [go_sem, *] at q_; have q2_ : q = some _ := q_; subst q2_)
  have q_ := x1.bel.frozen (p := ⟨w.heap.size, 0, none⟩) (by first | omega | (simp; done) | (simp; omega))
  generalize z_x1_0_0 : x1.val.frozen? ⟨w.heap.size, 0, none⟩ = q at q_
  first | (have q2_ : q = false := q_; subst q2_) | (simp [go_sem] at q_; have q2_ : q = false := q_; subst q2_) | (simp [go_sem, *] at q_; have q2_ : q = false := q_; subst q2_)
  have q_ := x1.bel.cell (p := ⟨w.heap.size, 1, none⟩) (by first | omega | (simp; done) | (simp; omega))
  generalize c_x1_0_1 : x1.val.cell? ⟨w.heap.size, 1, none⟩ = q at q_
  first | (have q2_ : q = some _ := q_; subst q2_) | (simp [go_sem] at q_; have q2_ : q = some _ := q_; subst q2_) | (simp [go_sem, *] at q_; have q2_ : q = some _ := q_; subst q2_)
  have q_ := x1.bel.frozen (p := ⟨w.heap.size, 1, none⟩) (by first | omega | (simp; done) | (simp; omega))
  generalize z_x1_0_1 : x1.val.frozen? ⟨w.heap.size, 1, none⟩ = q at q_
  first | (have q2_ : q = false := q_; subst q2_) | (simp [go_sem] at q_; have q2_ : q = false := q_; subst q2_) | (simp [go_sem, *] at q_; have q2_ : q = false := q_; subst q2_)
  go_wp2_with fail
  with_reducible refine (TR.out _ (by repeat (first | with_reducible exact Below.refl _ _ | with_reducible refine bel_later _ ?_ | with_reducible refine bel_alloc ?_ _ | refine bel_set ?_ (by first | omega | (simp; done) | (simp; omega)) _ | with_reducible refine Below.drew ?_ | with_reducible refine bel_drewN ?_ _ | with_reducible assumption | assumption))).mono ?_
  rintro e_x2 w_x2 ⟨rfl, hb_x2⟩
  obtain ⟨x2, rfl⟩ := later_is hb_x2
  clear hb_x2
  have hz_x2 := x2.bel.size
  try simp at hz_x2
  replace c_x1_0_0 := x2.keep (by repeat (first | exact c_x1_0_0 | apply keep_alloc | (apply keep_set; rotate_left; first | (simp; done) | (simp; omega))))
  replace c_x1_0_1 := x2.keep (by repeat (first | exact c_x1_0_1 | apply keep_alloc | (apply keep_set; rotate_left; first | (simp; done) | (simp; omega))))
  have lc_x2_0 : w.heap.size < x2.val.heap.size := by omega
  have mc_x2_0 : w.heap.size < x2.val.heap.size + 1 := by omega
  go_wp2_with fail
  with_reducible refine (RD.out _).mono ?_
  rintro e_x3 w_x3 ⟨rfl, hb_x3⟩
  obtain ⟨x3, rfl⟩ := later_is hb_x3
  clear hb_x3
  have hz_x3 := x3.bel.size
  try simp at hz_x3
  replace c_x1_0_0 := x3.keep (by repeat (first | exact c_x1_0_0 | apply keep_alloc | (apply keep_set; rotate_left; first | (simp; done) | (simp; omega))))
  replace c_x1_0_1 := x3.keep (by repeat (first | exact c_x1_0_1 | apply keep_alloc | (apply keep_set; rotate_left; first | (simp; done) | (simp; omega))))
  have lc_x3_0 : w.heap.size < x3.val.heap.size := by omega
  have mc_x3_0 : w.heap.size < x3.val.heap.size + 1 := by omega
  have b3 : Below w.heap.size w x3.val := (by repeat (first | with_reducible exact Below.refl _ _ | with_reducible refine bel_later _ ?_ | with_reducible refine bel_alloc ?_ _ | refine bel_set ?_ (by first | omega | (simp; done) | (simp; omega)) _ | with_reducible refine Below.drew ?_ | with_reducible refine bel_drewN ?_ _ | with_reducible assumption | assumption))
  have hz3 : w.heap.size < x3.val.heap.size := by omega
  go_wp2
  go_loopw [53] (fun x wr => ∃ j : Nat, j ≤ n ∧ x = .int .i64 (j : Int) ∧ Below (w.heap.size + 1) x3.val wr) (fun i _ => n - (RowKit.intOf i).toNat)
  case atStart => exact ⟨0, by omega, rfl, Below.refl _ _⟩
  case round =>
    rename World => wr
    obtain ⟨j, hj, rfl, hbr⟩ := hrel
    have hbe : Below w.heap.size w wr := b3.trans (hbr.mono (by omega))
    have hzr := hbr.size
    by_cases hlt : j < n
    rotate_left
    · obtain rfl : j = n := by omega
      clear hlt hj
      go_wp2_with fail
      with_reducible refine (AW.out _).mono ?_
      rintro e_xa w_xa ⟨rfl, hb_xa⟩
      obtain ⟨xa, rfl⟩ := later_is hb_xa
      clear hb_xa
      have hz_xa := xa.bel.size
      try simp at hz_xa
      go_wp2
      go_ret
      exact ⟨rfl, (by repeat (first | with_reducible exact Below.refl _ _ | with_reducible refine bel_later _ ?_ | with_reducible refine bel_alloc ?_ _ | refine bel_set ?_ (by first | omega | (simp; done) | (simp; omega)) _ | with_reducible refine Below.drew ?_ | with_reducible refine bel_drewN ?_ _ | with_reducible assumption | assumption))⟩
    have hltI : (j : Int) < (n : Int) := by omega
    obtain ⟨g1', o1', d, rfl, hg, hd, hok, d0, d1⟩ := (HH.out.to hbe).at_ (k := j) (by rw [HN.out]; exact hlt)
    have hgl : g1' < wr.heap.size := hg
    have HOK := Lib.hid (HH.out.ok d (List.mem_of_getElem? hd))
    have HPR := Lib.hid (fun (p : Pt) (hp : p ∈ d.pts) => rightTab_pts HRT.out (List.mem_of_getElem? hd) hp)
    obtain ⟨dvn, pts, PA, pc⟩ := d
    obtain ⟨m, hm⟩ : ∃ m, pts.length = m := ⟨_, rfl⟩
    have HM := Lib.hid hm
    have hmc : m ≤ 9223372036854775807 := by have := hok.shp.le; have := hok.shp.cap; dsimp only at *; omega
    dsimp only at d0 d1
    rw [hm] at d1
    clear hd hg hok hm
    go_wp2
    go_loopw [60] (fun x wv => ∃ k : Nat, k ≤ m ∧ x = .int .i64 (k : Int) ∧ Below (w.heap.size + 1) x3.val wv) (fun i _ => m - (RowKit.intOf i).toNat)
    case atStart => exact ⟨0, by omega, rfl, hbr.trans ((bel_alloc (Below.refl _ _) _).mono (by omega))⟩
    case round =>
      clear d0 d1
      rename World => wv
      obtain ⟨k, hk, rfl, hbv⟩ := hrel
      obtain ⟨xv, hxv⟩ := later_is hbv
      have hz_xv := xv.bel.size
      obtain rfl := hxv
      have hz_xv := xv.bel.size
      try simp at hz_xv
      have l_xv_0 : w.heap.size < xv.val.heap.size := by omega
      have m_xv_0 : w.heap.size < xv.val.heap.size + 1 := by omega
      have q_ := xv.bel.cell (p := ⟨w.heap.size, 0, none⟩) (by first | omega | (simp; done) | (simp; omega))
      generalize c_xv_0_0 : xv.val.cell? ⟨w.heap.size, 0, none⟩ = q at q_
      first | (have q2_ : q = some _ := q_; subst q2_) | (simp [go_sem] at q_; have q2_ : q = some _ := q_; subst q2_) | (simp [go_sem, *] at q_; have q2_ : q = some _ := q_; subst q2_)
      have q_ := xv.bel.frozen (p := ⟨w.heap.size, 0, none⟩) (by first | omega | (simp; done) | (simp; omega))
      generalize z_xv_0_0 : xv.val.frozen? ⟨w.heap.size, 0, none⟩ = q at q_
      first | (have q2_ : q = false := q_; subst q2_) | (simp [go_sem] at q_; have q2_ : q = false := q_; subst q2_) | (simp [go_sem, *] at q_; have q2_ : q = false := q_; subst q2_)
      have q_ := xv.bel.cell (p := ⟨w.heap.size, 1, none⟩) (by first | omega | (simp; done) | (simp; omega))
      generalize c_xv_0_1 : xv.val.cell? ⟨w.heap.size, 1, none⟩ = q at q_
      first | (have q2_ : q = some _ := q_; subst q2_) | (simp [go_sem] at q_; have q2_ : q = some _ := q_; subst q2_) | (simp [go_sem, *] at q_; have q2_ : q = some _ := q_; subst q2_)
      have q_ := xv.bel.frozen (p := ⟨w.heap.size, 1, none⟩) (by first | omega | (simp; done) | (simp; omega))
      generalize z_xv_0_1 : xv.val.frozen? ⟨w.heap.size, 1, none⟩ = q at q_
      first | (have q2_ : q = false := q_; subst q2_) | (simp [go_sem] at q_; have q2_ : q = false := q_; subst q2_) | (simp [go_sem, *] at q_; have q2_ : q = false := q_; subst q2_)
      have hbw : Below w.heap.size w xv.val := b3.trans (hbv.mono (by omega))
      by_cases hlk : k < m
      rotate_left
      · obtain rfl : k = m := by omega
        clear hlk hk
        go_wp2
        go_roundw
        case rel => exact ⟨j + 1, by omega, by go_num, hbv⟩
        case measure => simp [RowKit.intOf]; omega
      have hlkI : (k : Int) < (m : Int) := by omega
      obtain ⟨g3', o3, p, hA3, hg3, hp3, e0, e1, e2, e3, e4, e5, e6, e7, e8⟩ := Pt.at_cells (HOK.out.to hbw).rc (k := k) (by rw [HM.out]; exact hlk)
      have hgl3 : g3' < xv.val.heap.size := hg3
      dsimp only at hA3
      subst hA3
      have HPP := Lib.hid (HPR.out p (List.mem_of_getElem? hp3))
      have HPF := Lib.hid (HOK.out.fit p (List.mem_of_getElem? hp3))
      clear hp3 hg3
      obtain ⟨⟨vr, ve⟩, hvw⟩ : ∃ v, Vd.vword p ⟨⟨#[]⟩, ⟨dn, dd⟩, un, 0⟩ = v := ⟨_, rfl⟩
      have HVW := Lib.hid hvw
      have VW := Lib.hid (fun (x : World) => vword_any p ⟨⟨#[]⟩, ⟨dn, dd⟩, un, 0⟩ x HPF.out hf)
      rw [hvw] at VW
      clear hvw
      by_cases hve : ve = 0
      rotate_left
      · obtain ⟨rfl, he2⟩ := vword_no HVW.out hve
        obtain ⟨pn, at_, dg, sg, ⟨ln, ld⟩, ⟨hn, hd⟩, pu⟩ := p
        dsimp only at e0 e1 e2 e3 e4 e5 e6 e7 e8 VW
        have z0 : ((ve : Int) != 0) = true := bne_iff_ne.2 (by omega)
        clear HVW hve
        go_wp2_with fail
        with_reducible refine (VW.out _).mono ?_
        rintro e_x5 w_x5 ⟨rfl, hb_x5⟩
        obtain ⟨x5, rfl⟩ := later_is hb_x5
        clear hb_x5
        have hz_x5 := x5.bel.size
        try simp at hz_x5
        have bfin : Below (w.heap.size + 1) x3.val x5.val := hbv.trans ((bel_alloc (Below.refl _ _) _).mono (by omega) |>.trans (x5.bel.mono (by simp; omega)))
        rcases he2 with rfl | rfl
        · go_wp2
          go_roundw
          case rel => exact ⟨k + 1, by omega, by go_num, bfin⟩
          case measure => simp [RowKit.intOf]; omega
        · go_wp2
          go_roundw
          case rel => exact ⟨k + 1, by omega, by go_num, bfin⟩
          case measure => simp [RowKit.intOf]; omega
      subst hve
      obtain ⟨v, l1, l2, l3, l4, l5, l6, l7, nx, l8, l9, l10⟩ := words_law HPP.out HRD.out HVW.out
      obtain ⟨pn, at_, dg, sg, ⟨ln, ld⟩, ⟨hn, hd⟩, pu⟩ := p
      obtain ⟨vn, vd⟩ := v
      obtain ⟨nn, nd⟩ := nx
      dsimp only at e0 e1 e2 e3 e4 e5 e6 e7 e8 VW l1 l4 l5 l6 l7 l8 l10
      have fv := right_fit l2
      have fn := right_fit l9
      have T1 := Lib.hid (fun x => to_any dn dd un pu x hf)
      rw [l1] at T1
      unfold decV at T1
      have W1 := Lib.hid (fun x => worth_any vr dg sg x l3)
      rw [l4] at W1
      unfold decV at W1
      have C1 := Lib.hid (fun x => cmp_any vn ln vd ld x fv HPF.out.2.2.1)
      have C2 := Lib.hid (fun x => cmp_any vn hn vd hd x fv HPF.out.2.2.2)
      have T2 := Lib.hid (fun x => to_any dn dd un ot x hf)
      obtain ⟨y, hy⟩ : ∃ y, (vr + 1) % 65536 = y := ⟨_, rfl⟩
      rw [hy] at l8 l10
      have hyb : y < 65536 := by omega
      have W2 := Lib.hid (fun x => worth_any y dg sg x hyb)
      rw [l8] at W2
      unfold decV at W2
      have C3 := Lib.hid (fun x => cmp_any nn vn nd vd x fn fv)
      have C4 := Lib.hid (fun x => cmp_any nn hn nd hd x fn HPF.out.2.2.2)
      try dsimp only at T1 W1 W2
      have uw : IntKind.u16.wrap ((vr : Int) + 1) = (y : Int) := by rw [wrap_u16]; omega
      obtain ⟨cl, hcl⟩ : ∃ q, Vd.cmp ⟨vn, vd⟩ ⟨ln, ld⟩ = q := ⟨_, rfl⟩
      obtain ⟨ch, hch⟩ : ∃ q, Vd.cmp ⟨vn, vd⟩ ⟨hn, hd⟩ = q := ⟨_, rfl⟩
      obtain ⟨cn, hcn⟩ : ∃ q, Vd.cmp ⟨nn, nd⟩ ⟨vn, vd⟩ = q := ⟨_, rfl⟩
      obtain ⟨c2, hc2⟩ : ∃ q, Vd.cmp ⟨nn, nd⟩ ⟨hn, hd⟩ = q := ⟨_, rfl⟩
      rw [hcl] at C1 l5
      rw [hch] at C2 l6
      rw [hcn] at C3 l10
      rw [hc2] at C4 l10
      have t1 : decide (cl < 0) = false := decide_eq_false l5
      have t2 : decide (0 < ch) = false := decide_eq_false l6
      have L10 := Lib.hid l10
      have L7 := Lib.hid l7
      have V3 := Lib.hid (fun (h1 : 0 < cn) (h2 : ¬ 0 < c2) (x : World) => (show Calls Try.prog 16 #[ptV ⟨pn, at_, dg, sg, ⟨ln, ld⟩, ⟨hn, hd⟩, pu⟩, stV ⟨⟨#[]⟩, ⟨nn, nd⟩, pu, 0⟩] x (fun e w' => e = .returned (regE (y, 0)) ∧ Below x.heap.size x w') from by rw [← L10.out h1 h2]; exact vword_any _ _ x HPF.out fn))
      try dsimp only at V3
      clear hcl hch hcn hc2 l1 l2 l4 l5 l6 l7 l8 l9 l10 L10 hy HVW HPP
      cases hto : Vd.to_ ⟨dn, dd⟩ un ot with
      | none =>
        rw [hto] at T2
        unfold decV at T2
        clear hto L7
        go_wp2_with fail
        with_reducible refine (VW.out _).mono ?_
        rintro e_x5 w_x5 ⟨rfl, hb_x5⟩
        obtain ⟨x5, rfl⟩ := later_is hb_x5
        clear hb_x5
        have hz_x5 := x5.bel.size
        try simp at hz_x5
        replace c_xv_0_0 := x5.keep (by repeat (first | exact c_xv_0_0 | apply keep_alloc | (apply keep_set; rotate_left; first | (simp; done) | (simp; omega))))
        replace c_xv_0_1 := x5.keep (by repeat (first | exact c_xv_0_1 | apply keep_alloc | (apply keep_set; rotate_left; first | (simp; done) | (simp; omega))))
        have lc_x5_0 : w.heap.size < x5.val.heap.size := by omega
        have mc_x5_0 : w.heap.size < x5.val.heap.size + 1 := by omega
        have l_x5_0 : xv.val.heap.size < x5.val.heap.size := by omega
        have m_x5_0 : xv.val.heap.size < x5.val.heap.size + 1 := by omega
        have q_ := x5.bel.cell (p := ⟨xv.val.heap.size, 0, none⟩) (by first | omega | (simp; done) | (simp; omega))
        generalize c_x5_0_0 : x5.val.cell? ⟨xv.val.heap.size, 0, none⟩ = q at q_
        first | (have q2_ : q = some _ := q_; subst q2_) | (simp [go_sem] at q_; have q2_ : q = some _ := q_; subst q2_) | (simp [go_sem, *] at q_; have q2_ : q = some _ := q_; subst q2_)
        have q_ := x5.bel.frozen (p := ⟨xv.val.heap.size, 0, none⟩) (by first | omega | (simp; done) | (simp; omega))
        generalize z_x5_0_0 : x5.val.frozen? ⟨xv.val.heap.size, 0, none⟩ = q at q_
        first | (have q2_ : q = false := q_; subst q2_) | (simp [go_sem] at q_; have q2_ : q = false := q_; subst q2_) | (simp [go_sem, *] at q_; have q2_ : q = false := q_; subst q2_)
        have q_ := x5.bel.cell (p := ⟨xv.val.heap.size, 1, none⟩) (by first | omega | (simp; done) | (simp; omega))
        generalize c_x5_0_1 : x5.val.cell? ⟨xv.val.heap.size, 1, none⟩ = q at q_
        first | (have q2_ : q = some _ := q_; subst q2_) | (simp [go_sem] at q_; have q2_ : q = some _ := q_; subst q2_) | (simp [go_sem, *] at q_; have q2_ : q = some _ := q_; subst q2_)
        have q_ := x5.bel.frozen (p := ⟨xv.val.heap.size, 1, none⟩) (by first | omega | (simp; done) | (simp; omega))
        generalize z_x5_0_1 : x5.val.frozen? ⟨xv.val.heap.size, 1, none⟩ = q at q_
        first | (have q2_ : q = false := q_; subst q2_) | (simp [go_sem] at q_; have q2_ : q = false := q_; subst q2_) | (simp [go_sem, *] at q_; have q2_ : q = false := q_; subst q2_)
        have q_ := x5.bel.cell (p := ⟨xv.val.heap.size, 2, none⟩) (by first | omega | (simp; done) | (simp; omega))
        generalize c_x5_0_2 : x5.val.cell? ⟨xv.val.heap.size, 2, none⟩ = q at q_
        first | (have q2_ : q = some _ := q_; subst q2_) | (simp [go_sem] at q_; have q2_ : q = some _ := q_; subst q2_) | (simp [go_sem, *] at q_; have q2_ : q = some _ := q_; subst q2_)
        have q_ := x5.bel.frozen (p := ⟨xv.val.heap.size, 2, none⟩) (by first | omega | (simp; done) | (simp; omega))
        generalize z_x5_0_2 : x5.val.frozen? ⟨xv.val.heap.size, 2, none⟩ = q at q_
        first | (have q2_ : q = false := q_; subst q2_) | (simp [go_sem] at q_; have q2_ : q = false := q_; subst q2_) | (simp [go_sem, *] at q_; have q2_ : q = false := q_; subst q2_)
        have q_ := x5.bel.cell (p := ⟨xv.val.heap.size, 3, none⟩) (by first | omega | (simp; done) | (simp; omega))
        generalize c_x5_0_3 : x5.val.cell? ⟨xv.val.heap.size, 3, none⟩ = q at q_
        first | (have q2_ : q = some _ := q_; subst q2_) | (simp [go_sem] at q_; have q2_ : q = some _ := q_; subst q2_) | (simp [go_sem, *] at q_; have q2_ : q = some _ := q_; subst q2_)
        have q_ := x5.bel.frozen (p := ⟨xv.val.heap.size, 3, none⟩) (by first | omega | (simp; done) | (simp; omega))
        generalize z_x5_0_3 : x5.val.frozen? ⟨xv.val.heap.size, 3, none⟩ = q at q_
        first | (have q2_ : q = false := q_; subst q2_) | (simp [go_sem] at q_; have q2_ : q = false := q_; subst q2_) | (simp [go_sem, *] at q_; have q2_ : q = false := q_; subst q2_)
        have q_ := x5.bel.cell (p := ⟨xv.val.heap.size, 4, none⟩) (by first | omega | (simp; done) | (simp; omega))
        generalize c_x5_0_4 : x5.val.cell? ⟨xv.val.heap.size, 4, none⟩ = q at q_
        first | (have q2_ : q = some _ := q_; subst q2_) | (simp [go_sem] at q_; have q2_ : q = some _ := q_; subst q2_) | (simp [go_sem, *] at q_; have q2_ : q = some _ := q_; subst q2_)
        have q_ := x5.bel.frozen (p := ⟨xv.val.heap.size, 4, none⟩) (by first | omega | (simp; done) | (simp; omega))
        generalize z_x5_0_4 : x5.val.frozen? ⟨xv.val.heap.size, 4, none⟩ = q at q_
        first | (have q2_ : q = false := q_; subst q2_) | (simp [go_sem] at q_; have q2_ : q = false := q_; subst q2_) | (simp [go_sem, *] at q_; have q2_ : q = false := q_; subst q2_)
        have q_ := x5.bel.cell (p := ⟨xv.val.heap.size, 5, none⟩) (by first | omega | (simp; done) | (simp; omega))
        generalize c_x5_0_5 : x5.val.cell? ⟨xv.val.heap.size, 5, none⟩ = q at q_
        first | (have q2_ : q = some _ := q_; subst q2_) | (simp [go_sem] at q_; have q2_ : q = some _ := q_; subst q2_) | (simp [go_sem, *] at q_; have q2_ : q = some _ := q_; subst q2_)
        have q_ := x5.bel.frozen (p := ⟨xv.val.heap.size, 5, none⟩) (by first | omega | (simp; done) | (simp; omega))
        generalize z_x5_0_5 : x5.val.frozen? ⟨xv.val.heap.size, 5, none⟩ = q at q_
        first | (have q2_ : q = false := q_; subst q2_) | (simp [go_sem] at q_; have q2_ : q = false := q_; subst q2_) | (simp [go_sem, *] at q_; have q2_ : q = false := q_; subst q2_)
        have q_ := x5.bel.cell (p := ⟨xv.val.heap.size, 6, none⟩) (by first | omega | (simp; done) | (simp; omega))
        generalize c_x5_0_6 : x5.val.cell? ⟨xv.val.heap.size, 6, none⟩ = q at q_
        first | (have q2_ : q = some _ := q_; subst q2_) | (simp [go_sem] at q_; have q2_ : q = some _ := q_; subst q2_) | (simp [go_sem, *] at q_; have q2_ : q = some _ := q_; subst q2_)
        have q_ := x5.bel.frozen (p := ⟨xv.val.heap.size, 6, none⟩) (by first | omega | (simp; done) | (simp; omega))
        generalize z_x5_0_6 : x5.val.frozen? ⟨xv.val.heap.size, 6, none⟩ = q at q_
        first | (have q2_ : q = false := q_; subst q2_) | (simp [go_sem] at q_; have q2_ : q = false := q_; subst q2_) | (simp [go_sem, *] at q_; have q2_ : q = false := q_; subst q2_)
        have q_ := x5.bel.cell (p := ⟨xv.val.heap.size, 7, none⟩) (by first | omega | (simp; done) | (simp; omega))
        generalize c_x5_0_7 : x5.val.cell? ⟨xv.val.heap.size, 7, none⟩ = q at q_
        first | (have q2_ : q = some _ := q_; subst q2_) | (simp [go_sem] at q_; have q2_ : q = some _ := q_; subst q2_) | (simp [go_sem, *] at q_; have q2_ : q = some _ := q_; subst q2_)
        have q_ := x5.bel.frozen (p := ⟨xv.val.heap.size, 7, none⟩) (by first | omega | (simp; done) | (simp; omega))
        generalize z_x5_0_7 : x5.val.frozen? ⟨xv.val.heap.size, 7, none⟩ = q at q_
        first | (have q2_ : q = false := q_; subst q2_) | (simp [go_sem] at q_; have q2_ : q = false := q_; subst q2_) | (simp [go_sem, *] at q_; have q2_ : q = false := q_; subst q2_)
        have q_ := x5.bel.cell (p := ⟨xv.val.heap.size, 8, none⟩) (by first | omega | (simp; done) | (simp; omega))
        generalize c_x5_0_8 : x5.val.cell? ⟨xv.val.heap.size, 8, none⟩ = q at q_
        first | (have q2_ : q = some _ := q_; subst q2_) | (simp [go_sem] at q_; have q2_ : q = some _ := q_; subst q2_) | (simp [go_sem, *] at q_; have q2_ : q = some _ := q_; subst q2_)
        have q_ := x5.bel.frozen (p := ⟨xv.val.heap.size, 8, none⟩) (by first | omega | (simp; done) | (simp; omega))
        generalize z_x5_0_8 : x5.val.frozen? ⟨xv.val.heap.size, 8, none⟩ = q at q_
        first | (have q2_ : q = false := q_; subst q2_) | (simp [go_sem] at q_; have q2_ : q = false := q_; subst q2_) | (simp [go_sem, *] at q_; have q2_ : q = false := q_; subst q2_)
        go_wp2_with fail
        with_reducible refine (T1.out _).mono ?_
        rintro e_x6 w_x6 ⟨rfl, hb_x6⟩
        obtain ⟨x6, rfl⟩ := later_is hb_x6
        clear hb_x6
        have hz_x6 := x6.bel.size
        try simp at hz_x6
        replace c_xv_0_0 := x6.keep (by repeat (first | exact c_xv_0_0 | apply keep_alloc | (apply keep_set; rotate_left; first | (simp; done) | (simp; omega))))
        replace c_xv_0_1 := x6.keep (by repeat (first | exact c_xv_0_1 | apply keep_alloc | (apply keep_set; rotate_left; first | (simp; done) | (simp; omega))))
        replace c_x5_0_0 := x6.keep (by repeat (first | exact c_x5_0_0 | apply keep_alloc | (apply keep_set; rotate_left; first | (simp; done) | (simp; omega))))
        replace c_x5_0_1 := x6.keep (by repeat (first | exact c_x5_0_1 | apply keep_alloc | (apply keep_set; rotate_left; first | (simp; done) | (simp; omega))))
        replace c_x5_0_2 := x6.keep (by repeat (first | exact c_x5_0_2 | apply keep_alloc | (apply keep_set; rotate_left; first | (simp; done) | (simp; omega))))
        replace c_x5_0_3 := x6.keep (by repeat (first | exact c_x5_0_3 | apply keep_alloc | (apply keep_set; rotate_left; first | (simp; done) | (simp; omega))))
        replace c_x5_0_4 := x6.keep (by repeat (first | exact c_x5_0_4 | apply keep_alloc | (apply keep_set; rotate_left; first | (simp; done) | (simp; omega))))
        replace c_x5_0_5 := x6.keep (by repeat (first | exact c_x5_0_5 | apply keep_alloc | (apply keep_set; rotate_left; first | (simp; done) | (simp; omega))))
        replace c_x5_0_6 := x6.keep (by repeat (first | exact c_x5_0_6 | apply keep_alloc | (apply keep_set; rotate_left; first | (simp; done) | (simp; omega))))
        replace c_x5_0_7 := x6.keep (by repeat (first | exact c_x5_0_7 | apply keep_alloc | (apply keep_set; rotate_left; first | (simp; done) | (simp; omega))))
        replace c_x5_0_8 := x6.keep (by repeat (first | exact c_x5_0_8 | apply keep_alloc | (apply keep_set; rotate_left; first | (simp; done) | (simp; omega))))
        have lc_x6_0 : w.heap.size < x6.val.heap.size := by omega
        have mc_x6_0 : w.heap.size < x6.val.heap.size + 1 := by omega
        have lc_x6_1 : xv.val.heap.size < x6.val.heap.size := by omega
        have mc_x6_1 : xv.val.heap.size < x6.val.heap.size + 1 := by omega
        go_wp2_with fail
        with_reducible refine (W1.out _).mono ?_
        rintro e_x7 w_x7 ⟨rfl, hb_x7⟩
        obtain ⟨x7, rfl⟩ := later_is hb_x7
        clear hb_x7
        have hz_x7 := x7.bel.size
        try simp at hz_x7
        replace c_xv_0_0 := x7.keep (by repeat (first | exact c_xv_0_0 | apply keep_alloc | (apply keep_set; rotate_left; first | (simp; done) | (simp; omega))))
        replace c_xv_0_1 := x7.keep (by repeat (first | exact c_xv_0_1 | apply keep_alloc | (apply keep_set; rotate_left; first | (simp; done) | (simp; omega))))
        replace c_x5_0_0 := x7.keep (by repeat (first | exact c_x5_0_0 | apply keep_alloc | (apply keep_set; rotate_left; first | (simp; done) | (simp; omega))))
        replace c_x5_0_1 := x7.keep (by repeat (first | exact c_x5_0_1 | apply keep_alloc | (apply keep_set; rotate_left; first | (simp; done) | (simp; omega))))
        replace c_x5_0_2 := x7.keep (by repeat (first | exact c_x5_0_2 | apply keep_alloc | (apply keep_set; rotate_left; first | (simp; done) | (simp; omega))))
        replace c_x5_0_3 := x7.keep (by repeat (first | exact c_x5_0_3 | apply keep_alloc | (apply keep_set; rotate_left; first | (simp; done) | (simp; omega))))
        replace c_x5_0_4 := x7.keep (by repeat (first | exact c_x5_0_4 | apply keep_alloc | (apply keep_set; rotate_left; first | (simp; done) | (simp; omega))))
        replace c_x5_0_5 := x7.keep (by repeat (first | exact c_x5_0_5 | apply keep_alloc | (apply keep_set; rotate_left; first | (simp; done) | (simp; omega))))
        replace c_x5_0_6 := x7.keep (by repeat (first | exact c_x5_0_6 | apply keep_alloc | (apply keep_set; rotate_left; first | (simp; done) | (simp; omega))))
        replace c_x5_0_7 := x7.keep (by repeat (first | exact c_x5_0_7 | apply keep_alloc | (apply keep_set; rotate_left; first | (simp; done) | (simp; omega))))
        replace c_x5_0_8 := x7.keep (by repeat (first | exact c_x5_0_8 | apply keep_alloc | (apply keep_set; rotate_left; first | (simp; done) | (simp; omega))))
        have lc_x7_0 : w.heap.size < x7.val.heap.size := by omega
        have mc_x7_0 : w.heap.size < x7.val.heap.size + 1 := by omega
        have lc_x7_1 : xv.val.heap.size < x7.val.heap.size := by omega
        have mc_x7_1 : xv.val.heap.size < x7.val.heap.size + 1 := by omega
        have l_x7_0 : x6.val.heap.size < x7.val.heap.size := by omega
        have m_x7_0 : x6.val.heap.size < x7.val.heap.size + 1 := by omega
        have q_ := x7.bel.cell (p := ⟨x6.val.heap.size, 0, none⟩) (by first | omega | (simp; done) | (simp; omega))
        generalize c_x7_0_0 : x7.val.cell? ⟨x6.val.heap.size, 0, none⟩ = q at q_
        first | (have q2_ : q = some _ := q_; subst q2_) | (simp [go_sem] at q_; have q2_ : q = some _ := q_; subst q2_) | (simp [go_sem, *] at q_; have q2_ : q = some _ := q_; subst q2_)
        have q_ := x7.bel.frozen (p := ⟨x6.val.heap.size, 0, none⟩) (by first | omega | (simp; done) | (simp; omega))
        generalize z_x7_0_0 : x7.val.frozen? ⟨x6.val.heap.size, 0, none⟩ = q at q_
        first | (have q2_ : q = false := q_; subst q2_) | (simp [go_sem] at q_; have q2_ : q = false := q_; subst q2_) | (simp [go_sem, *] at q_; have q2_ : q = false := q_; subst q2_)
        have q_ := x7.bel.cell (p := ⟨x6.val.heap.size, 1, none⟩) (by first | omega | (simp; done) | (simp; omega))
        generalize c_x7_0_1 : x7.val.cell? ⟨x6.val.heap.size, 1, none⟩ = q at q_
        first | (have q2_ : q = some _ := q_; subst q2_) | (simp [go_sem] at q_; have q2_ : q = some _ := q_; subst q2_) | (simp [go_sem, *] at q_; have q2_ : q = some _ := q_; subst q2_)
        have q_ := x7.bel.frozen (p := ⟨x6.val.heap.size, 1, none⟩) (by first | omega | (simp; done) | (simp; omega))
        generalize z_x7_0_1 : x7.val.frozen? ⟨x6.val.heap.size, 1, none⟩ = q at q_
        first | (have q2_ : q = false := q_; subst q2_) | (simp [go_sem] at q_; have q2_ : q = false := q_; subst q2_) | (simp [go_sem, *] at q_; have q2_ : q = false := q_; subst q2_)
        go_wp2_with fail
        with_reducible refine (C1.out _).mono ?_
        rintro e_x8 w_x8 ⟨rfl, hb_x8⟩
        obtain ⟨x8, rfl⟩ := later_is hb_x8
        clear hb_x8
        have hz_x8 := x8.bel.size
        try simp at hz_x8
        replace c_xv_0_0 := x8.keep (by repeat (first | exact c_xv_0_0 | apply keep_alloc | (apply keep_set; rotate_left; first | (simp; done) | (simp; omega))))
        replace c_xv_0_1 := x8.keep (by repeat (first | exact c_xv_0_1 | apply keep_alloc | (apply keep_set; rotate_left; first | (simp; done) | (simp; omega))))
        replace c_x5_0_0 := x8.keep (by repeat (first | exact c_x5_0_0 | apply keep_alloc | (apply keep_set; rotate_left; first | (simp; done) | (simp; omega))))
        replace c_x5_0_1 := x8.keep (by repeat (first | exact c_x5_0_1 | apply keep_alloc | (apply keep_set; rotate_left; first | (simp; done) | (simp; omega))))
        replace c_x5_0_2 := x8.keep (by repeat (first | exact c_x5_0_2 | apply keep_alloc | (apply keep_set; rotate_left; first | (simp; done) | (simp; omega))))
        replace c_x5_0_3 := x8.keep (by repeat (first | exact c_x5_0_3 | apply keep_alloc | (apply keep_set; rotate_left; first | (simp; done) | (simp; omega))))
        replace c_x5_0_4 := x8.keep (by repeat (first | exact c_x5_0_4 | apply keep_alloc | (apply keep_set; rotate_left; first | (simp; done) | (simp; omega))))
        replace c_x5_0_5 := x8.keep (by repeat (first | exact c_x5_0_5 | apply keep_alloc | (apply keep_set; rotate_left; first | (simp; done) | (simp; omega))))
        replace c_x5_0_6 := x8.keep (by repeat (first | exact c_x5_0_6 | apply keep_alloc | (apply keep_set; rotate_left; first | (simp; done) | (simp; omega))))
        replace c_x5_0_7 := x8.keep (by repeat (first | exact c_x5_0_7 | apply keep_alloc | (apply keep_set; rotate_left; first | (simp; done) | (simp; omega))))
        replace c_x5_0_8 := x8.keep (by repeat (first | exact c_x5_0_8 | apply keep_alloc | (apply keep_set; rotate_left; first | (simp; done) | (simp; omega))))
        replace c_x7_0_0 := x8.keep (by repeat (first | exact c_x7_0_0 | apply keep_alloc | (apply keep_set; rotate_left; first | (simp; done) | (simp; omega))))
        replace c_x7_0_1 := x8.keep (by repeat (first | exact c_x7_0_1 | apply keep_alloc | (apply keep_set; rotate_left; first | (simp; done) | (simp; omega))))
        have lc_x8_0 : w.heap.size < x8.val.heap.size := by omega
        have mc_x8_0 : w.heap.size < x8.val.heap.size + 1 := by omega
        have lc_x8_1 : xv.val.heap.size < x8.val.heap.size := by omega
        have mc_x8_1 : xv.val.heap.size < x8.val.heap.size + 1 := by omega
        have lc_x8_2 : x6.val.heap.size < x8.val.heap.size := by omega
        have mc_x8_2 : x6.val.heap.size < x8.val.heap.size + 1 := by omega
        go_wp2_with fail
        with_reducible refine (C2.out _).mono ?_
        rintro e_x9 w_x9 ⟨rfl, hb_x9⟩
        obtain ⟨x9, rfl⟩ := later_is hb_x9
        clear hb_x9
        have hz_x9 := x9.bel.size
        try simp at hz_x9
        replace c_xv_0_0 := x9.keep (by repeat (first | exact c_xv_0_0 | apply keep_alloc | (apply keep_set; rotate_left; first | (simp; done) | (simp; omega))))
        replace c_xv_0_1 := x9.keep (by repeat (first | exact c_xv_0_1 | apply keep_alloc | (apply keep_set; rotate_left; first | (simp; done) | (simp; omega))))
        replace c_x5_0_0 := x9.keep (by repeat (first | exact c_x5_0_0 | apply keep_alloc | (apply keep_set; rotate_left; first | (simp; done) | (simp; omega))))
        replace c_x5_0_1 := x9.keep (by repeat (first | exact c_x5_0_1 | apply keep_alloc | (apply keep_set; rotate_left; first | (simp; done) | (simp; omega))))
        replace c_x5_0_2 := x9.keep (by repeat (first | exact c_x5_0_2 | apply keep_alloc | (apply keep_set; rotate_left; first | (simp; done) | (simp; omega))))
        replace c_x5_0_3 := x9.keep (by repeat (first | exact c_x5_0_3 | apply keep_alloc | (apply keep_set; rotate_left; first | (simp; done) | (simp; omega))))
        replace c_x5_0_4 := x9.keep (by repeat (first | exact c_x5_0_4 | apply keep_alloc | (apply keep_set; rotate_left; first | (simp; done) | (simp; omega))))
        replace c_x5_0_5 := x9.keep (by repeat (first | exact c_x5_0_5 | apply keep_alloc | (apply keep_set; rotate_left; first | (simp; done) | (simp; omega))))
        replace c_x5_0_6 := x9.keep (by repeat (first | exact c_x5_0_6 | apply keep_alloc | (apply keep_set; rotate_left; first | (simp; done) | (simp; omega))))
        replace c_x5_0_7 := x9.keep (by repeat (first | exact c_x5_0_7 | apply keep_alloc | (apply keep_set; rotate_left; first | (simp; done) | (simp; omega))))
        replace c_x5_0_8 := x9.keep (by repeat (first | exact c_x5_0_8 | apply keep_alloc | (apply keep_set; rotate_left; first | (simp; done) | (simp; omega))))
        replace c_x7_0_0 := x9.keep (by repeat (first | exact c_x7_0_0 | apply keep_alloc | (apply keep_set; rotate_left; first | (simp; done) | (simp; omega))))
        replace c_x7_0_1 := x9.keep (by repeat (first | exact c_x7_0_1 | apply keep_alloc | (apply keep_set; rotate_left; first | (simp; done) | (simp; omega))))
        have lc_x9_0 : w.heap.size < x9.val.heap.size := by omega
        have mc_x9_0 : w.heap.size < x9.val.heap.size + 1 := by omega
        have lc_x9_1 : xv.val.heap.size < x9.val.heap.size := by omega
        have mc_x9_1 : xv.val.heap.size < x9.val.heap.size + 1 := by omega
        have lc_x9_2 : x6.val.heap.size < x9.val.heap.size := by omega
        have mc_x9_2 : x6.val.heap.size < x9.val.heap.size + 1 := by omega
        go_wp2_with fail
        with_reducible refine (T2.out _).mono ?_
        rintro e_x10 w_x10 ⟨rfl, hb_x10⟩
        obtain ⟨x10, rfl⟩ := later_is hb_x10
        clear hb_x10
        have hz_x10 := x10.bel.size
        try simp at hz_x10
        replace c_x5_0_0 := x10.keep (by repeat (first | exact c_x5_0_0 | apply keep_alloc | (apply keep_set; rotate_left; first | (simp; done) | (simp; omega))))
        replace c_x5_0_1 := x10.keep (by repeat (first | exact c_x5_0_1 | apply keep_alloc | (apply keep_set; rotate_left; first | (simp; done) | (simp; omega))))
        replace c_x5_0_2 := x10.keep (by repeat (first | exact c_x5_0_2 | apply keep_alloc | (apply keep_set; rotate_left; first | (simp; done) | (simp; omega))))
        replace c_x5_0_3 := x10.keep (by repeat (first | exact c_x5_0_3 | apply keep_alloc | (apply keep_set; rotate_left; first | (simp; done) | (simp; omega))))
        replace c_x5_0_4 := x10.keep (by repeat (first | exact c_x5_0_4 | apply keep_alloc | (apply keep_set; rotate_left; first | (simp; done) | (simp; omega))))
        replace c_x5_0_5 := x10.keep (by repeat (first | exact c_x5_0_5 | apply keep_alloc | (apply keep_set; rotate_left; first | (simp; done) | (simp; omega))))
        replace c_x5_0_6 := x10.keep (by repeat (first | exact c_x5_0_6 | apply keep_alloc | (apply keep_set; rotate_left; first | (simp; done) | (simp; omega))))
        replace c_x5_0_7 := x10.keep (by repeat (first | exact c_x5_0_7 | apply keep_alloc | (apply keep_set; rotate_left; first | (simp; done) | (simp; omega))))
        replace c_x5_0_8 := x10.keep (by repeat (first | exact c_x5_0_8 | apply keep_alloc | (apply keep_set; rotate_left; first | (simp; done) | (simp; omega))))
        replace c_x7_0_0 := x10.keep (by repeat (first | exact c_x7_0_0 | apply keep_alloc | (apply keep_set; rotate_left; first | (simp; done) | (simp; omega))))
        replace c_x7_0_1 := x10.keep (by repeat (first | exact c_x7_0_1 | apply keep_alloc | (apply keep_set; rotate_left; first | (simp; done) | (simp; omega))))
        have lc_x10_0 : xv.val.heap.size < x10.val.heap.size := by omega
        have mc_x10_0 : xv.val.heap.size < x10.val.heap.size + 1 := by omega
        have lc_x10_1 : x6.val.heap.size < x10.val.heap.size := by omega
        have mc_x10_1 : x6.val.heap.size < x10.val.heap.size + 1 := by omega
        cases hcn : decide (0 < cn)
        · go_wp2_with fail
          with_reducible refine (W2.out _).mono ?_
          rintro e_x12 w_x12 ⟨rfl, hb_x12⟩
          obtain ⟨x12, rfl⟩ := later_is hb_x12
          clear hb_x12
          have hz_x12 := x12.bel.size
          try simp at hz_x12
          replace c_x5_0_0 := x12.keep (by repeat (first | exact c_x5_0_0 | apply keep_alloc | (apply keep_set; rotate_left; first | (simp; done) | (simp; omega))))
          replace c_x5_0_1 := x12.keep (by repeat (first | exact c_x5_0_1 | apply keep_alloc | (apply keep_set; rotate_left; first | (simp; done) | (simp; omega))))
          replace c_x5_0_2 := x12.keep (by repeat (first | exact c_x5_0_2 | apply keep_alloc | (apply keep_set; rotate_left; first | (simp; done) | (simp; omega))))
          replace c_x5_0_3 := x12.keep (by repeat (first | exact c_x5_0_3 | apply keep_alloc | (apply keep_set; rotate_left; first | (simp; done) | (simp; omega))))
          replace c_x5_0_4 := x12.keep (by repeat (first | exact c_x5_0_4 | apply keep_alloc | (apply keep_set; rotate_left; first | (simp; done) | (simp; omega))))
          replace c_x5_0_5 := x12.keep (by repeat (first | exact c_x5_0_5 | apply keep_alloc | (apply keep_set; rotate_left; first | (simp; done) | (simp; omega))))
          replace c_x5_0_6 := x12.keep (by repeat (first | exact c_x5_0_6 | apply keep_alloc | (apply keep_set; rotate_left; first | (simp; done) | (simp; omega))))
          replace c_x5_0_7 := x12.keep (by repeat (first | exact c_x5_0_7 | apply keep_alloc | (apply keep_set; rotate_left; first | (simp; done) | (simp; omega))))
          replace c_x5_0_8 := x12.keep (by repeat (first | exact c_x5_0_8 | apply keep_alloc | (apply keep_set; rotate_left; first | (simp; done) | (simp; omega))))
          replace c_x7_0_0 := x12.keep (by repeat (first | exact c_x7_0_0 | apply keep_alloc | (apply keep_set; rotate_left; first | (simp; done) | (simp; omega))))
          replace c_x7_0_1 := x12.keep (by repeat (first | exact c_x7_0_1 | apply keep_alloc | (apply keep_set; rotate_left; first | (simp; done) | (simp; omega))))
          have lc_x12_0 : xv.val.heap.size < x12.val.heap.size := by omega
          have mc_x12_0 : xv.val.heap.size < x12.val.heap.size + 1 := by omega
          have lc_x12_1 : x6.val.heap.size < x12.val.heap.size := by omega
          have mc_x12_1 : x6.val.heap.size < x12.val.heap.size + 1 := by omega
          go_wp2_with fail
          with_reducible refine (C3.out _).mono ?_
          rintro e_x13 w_x13 ⟨rfl, hb_x13⟩
          obtain ⟨x13, rfl⟩ := later_is hb_x13
          clear hb_x13
          have hz_x13 := x13.bel.size
          try simp at hz_x13
          replace c_x5_0_0 := x13.keep (by repeat (first | exact c_x5_0_0 | apply keep_alloc | (apply keep_set; rotate_left; first | (simp; done) | (simp; omega))))
          replace c_x5_0_1 := x13.keep (by repeat (first | exact c_x5_0_1 | apply keep_alloc | (apply keep_set; rotate_left; first | (simp; done) | (simp; omega))))
          replace c_x5_0_2 := x13.keep (by repeat (first | exact c_x5_0_2 | apply keep_alloc | (apply keep_set; rotate_left; first | (simp; done) | (simp; omega))))
          replace c_x5_0_3 := x13.keep (by repeat (first | exact c_x5_0_3 | apply keep_alloc | (apply keep_set; rotate_left; first | (simp; done) | (simp; omega))))
          replace c_x5_0_4 := x13.keep (by repeat (first | exact c_x5_0_4 | apply keep_alloc | (apply keep_set; rotate_left; first | (simp; done) | (simp; omega))))
          replace c_x5_0_5 := x13.keep (by repeat (first | exact c_x5_0_5 | apply keep_alloc | (apply keep_set; rotate_left; first | (simp; done) | (simp; omega))))
          replace c_x5_0_6 := x13.keep (by repeat (first | exact c_x5_0_6 | apply keep_alloc | (apply keep_set; rotate_left; first | (simp; done) | (simp; omega))))
          replace c_x5_0_7 := x13.keep (by repeat (first | exact c_x5_0_7 | apply keep_alloc | (apply keep_set; rotate_left; first | (simp; done) | (simp; omega))))
          replace c_x5_0_8 := x13.keep (by repeat (first | exact c_x5_0_8 | apply keep_alloc | (apply keep_set; rotate_left; first | (simp; done) | (simp; omega))))
          replace c_x7_0_0 := x13.keep (by repeat (first | exact c_x7_0_0 | apply keep_alloc | (apply keep_set; rotate_left; first | (simp; done) | (simp; omega))))
          replace c_x7_0_1 := x13.keep (by repeat (first | exact c_x7_0_1 | apply keep_alloc | (apply keep_set; rotate_left; first | (simp; done) | (simp; omega))))
          have lc_x13_0 : xv.val.heap.size < x13.val.heap.size := by omega
          have mc_x13_0 : xv.val.heap.size < x13.val.heap.size + 1 := by omega
          have lc_x13_1 : x6.val.heap.size < x13.val.heap.size := by omega
          have mc_x13_1 : x6.val.heap.size < x13.val.heap.size + 1 := by omega
          have l_x13_0 : x12.val.heap.size < x13.val.heap.size := by omega
          have m_x13_0 : x12.val.heap.size < x13.val.heap.size + 1 := by omega
          have q_ := x13.bel.cell (p := ⟨x12.val.heap.size, 0, none⟩) (by first | omega | (simp; done) | (simp; omega))
          generalize c_x13_0_0 : x13.val.cell? ⟨x12.val.heap.size, 0, none⟩ = q at q_
          first | (have q2_ : q = some _ := q_; subst q2_) | (simp [go_sem] at q_; have q2_ : q = some _ := q_; subst q2_) | (simp [go_sem, *] at q_; have q2_ : q = some _ := q_; subst q2_)
          have q_ := x13.bel.frozen (p := ⟨x12.val.heap.size, 0, none⟩) (by first | omega | (simp; done) | (simp; omega))
          generalize z_x13_0_0 : x13.val.frozen? ⟨x12.val.heap.size, 0, none⟩ = q at q_
          first | (have q2_ : q = false := q_; subst q2_) | (simp [go_sem] at q_; have q2_ : q = false := q_; subst q2_) | (simp [go_sem, *] at q_; have q2_ : q = false := q_; subst q2_)
          have q_ := x13.bel.cell (p := ⟨x12.val.heap.size, 1, none⟩) (by first | omega | (simp; done) | (simp; omega))
          generalize c_x13_0_1 : x13.val.cell? ⟨x12.val.heap.size, 1, none⟩ = q at q_
          first | (have q2_ : q = some _ := q_; subst q2_) | (simp [go_sem] at q_; have q2_ : q = some _ := q_; subst q2_) | (simp [go_sem, *] at q_; have q2_ : q = some _ := q_; subst q2_)
          have q_ := x13.bel.frozen (p := ⟨x12.val.heap.size, 1, none⟩) (by first | omega | (simp; done) | (simp; omega))
          generalize z_x13_0_1 : x13.val.frozen? ⟨x12.val.heap.size, 1, none⟩ = q at q_
          first | (have q2_ : q = false := q_; subst q2_) | (simp [go_sem] at q_; have q2_ : q = false := q_; subst q2_) | (simp [go_sem, *] at q_; have q2_ : q = false := q_; subst q2_)
          have bx : Below xv.val.heap.size xv.val x13.val := (by repeat (first | with_reducible exact Below.refl _ _ | with_reducible refine bel_later _ ?_ | with_reducible refine bel_alloc ?_ _ | refine bel_set ?_ (by first | omega | (simp; done) | (simp; omega)) _ | with_reducible refine Below.drew ?_ | with_reducible refine bel_drewN ?_ _ | with_reducible assumption | assumption))
          have bfin := hbv.trans (bx.mono (show w.heap.size + 1 ≤ xv.val.heap.size by omega))
          go_wp2
          go_roundw
          case rel => exact ⟨k + 1, by omega, by go_num, bfin⟩
          case measure => simp [RowKit.intOf]; omega
        cases hc2 : decide (c2 ≤ 0)
        · go_wp2_with fail
          with_reducible refine (W2.out _).mono ?_
          rintro e_x12 w_x12 ⟨rfl, hb_x12⟩
          obtain ⟨x12, rfl⟩ := later_is hb_x12
          clear hb_x12
          have hz_x12 := x12.bel.size
          try simp at hz_x12
          replace c_x5_0_0 := x12.keep (by repeat (first | exact c_x5_0_0 | apply keep_alloc | (apply keep_set; rotate_left; first | (simp; done) | (simp; omega))))
          replace c_x5_0_1 := x12.keep (by repeat (first | exact c_x5_0_1 | apply keep_alloc | (apply keep_set; rotate_left; first | (simp; done) | (simp; omega))))
          replace c_x5_0_2 := x12.keep (by repeat (first | exact c_x5_0_2 | apply keep_alloc | (apply keep_set; rotate_left; first | (simp; done) | (simp; omega))))
          replace c_x5_0_3 := x12.keep (by repeat (first | exact c_x5_0_3 | apply keep_alloc | (apply keep_set; rotate_left; first | (simp; done) | (simp; omega))))
          replace c_x5_0_4 := x12.keep (by repeat (first | exact c_x5_0_4 | apply keep_alloc | (apply keep_set; rotate_left; first | (simp; done) | (simp; omega))))
          replace c_x5_0_5 := x12.keep (by repeat (first | exact c_x5_0_5 | apply keep_alloc | (apply keep_set; rotate_left; first | (simp; done) | (simp; omega))))
          replace c_x5_0_6 := x12.keep (by repeat (first | exact c_x5_0_6 | apply keep_alloc | (apply keep_set; rotate_left; first | (simp; done) | (simp; omega))))
          replace c_x5_0_7 := x12.keep (by repeat (first | exact c_x5_0_7 | apply keep_alloc | (apply keep_set; rotate_left; first | (simp; done) | (simp; omega))))
          replace c_x5_0_8 := x12.keep (by repeat (first | exact c_x5_0_8 | apply keep_alloc | (apply keep_set; rotate_left; first | (simp; done) | (simp; omega))))
          replace c_x7_0_0 := x12.keep (by repeat (first | exact c_x7_0_0 | apply keep_alloc | (apply keep_set; rotate_left; first | (simp; done) | (simp; omega))))
          replace c_x7_0_1 := x12.keep (by repeat (first | exact c_x7_0_1 | apply keep_alloc | (apply keep_set; rotate_left; first | (simp; done) | (simp; omega))))
          have lc_x12_0 : xv.val.heap.size < x12.val.heap.size := by omega
          have mc_x12_0 : xv.val.heap.size < x12.val.heap.size + 1 := by omega
          have lc_x12_1 : x6.val.heap.size < x12.val.heap.size := by omega
          have mc_x12_1 : x6.val.heap.size < x12.val.heap.size + 1 := by omega
          go_wp2_with fail
          with_reducible refine (C3.out _).mono ?_
          rintro e_x13 w_x13 ⟨rfl, hb_x13⟩
          obtain ⟨x13, rfl⟩ := later_is hb_x13
          clear hb_x13
          have hz_x13 := x13.bel.size
          try simp at hz_x13
          replace c_x5_0_0 := x13.keep (by repeat (first | exact c_x5_0_0 | apply keep_alloc | (apply keep_set; rotate_left; first | (simp; done) | (simp; omega))))
          replace c_x5_0_1 := x13.keep (by repeat (first | exact c_x5_0_1 | apply keep_alloc | (apply keep_set; rotate_left; first | (simp; done) | (simp; omega))))
          replace c_x5_0_2 := x13.keep (by repeat (first | exact c_x5_0_2 | apply keep_alloc | (apply keep_set; rotate_left; first | (simp; done) | (simp; omega))))
          replace c_x5_0_3 := x13.keep (by repeat (first | exact c_x5_0_3 | apply keep_alloc | (apply keep_set; rotate_left; first | (simp; done) | (simp; omega))))
          replace c_x5_0_4 := x13.keep (by repeat (first | exact c_x5_0_4 | apply keep_alloc | (apply keep_set; rotate_left; first | (simp; done) | (simp; omega))))
          replace c_x5_0_5 := x13.keep (by repeat (first | exact c_x5_0_5 | apply keep_alloc | (apply keep_set; rotate_left; first | (simp; done) | (simp; omega))))
          replace c_x5_0_6 := x13.keep (by repeat (first | exact c_x5_0_6 | apply keep_alloc | (apply keep_set; rotate_left; first | (simp; done) | (simp; omega))))
          replace c_x5_0_7 := x13.keep (by repeat (first | exact c_x5_0_7 | apply keep_alloc | (apply keep_set; rotate_left; first | (simp; done) | (simp; omega))))
          replace c_x5_0_8 := x13.keep (by repeat (first | exact c_x5_0_8 | apply keep_alloc | (apply keep_set; rotate_left; first | (simp; done) | (simp; omega))))
          replace c_x7_0_0 := x13.keep (by repeat (first | exact c_x7_0_0 | apply keep_alloc | (apply keep_set; rotate_left; first | (simp; done) | (simp; omega))))
          replace c_x7_0_1 := x13.keep (by repeat (first | exact c_x7_0_1 | apply keep_alloc | (apply keep_set; rotate_left; first | (simp; done) | (simp; omega))))
          have lc_x13_0 : xv.val.heap.size < x13.val.heap.size := by omega
          have mc_x13_0 : xv.val.heap.size < x13.val.heap.size + 1 := by omega
          have lc_x13_1 : x6.val.heap.size < x13.val.heap.size := by omega
          have mc_x13_1 : x6.val.heap.size < x13.val.heap.size + 1 := by omega
          have l_x13_0 : x12.val.heap.size < x13.val.heap.size := by omega
          have m_x13_0 : x12.val.heap.size < x13.val.heap.size + 1 := by omega
          have q_ := x13.bel.cell (p := ⟨x12.val.heap.size, 0, none⟩) (by first | omega | (simp; done) | (simp; omega))
          generalize c_x13_0_0 : x13.val.cell? ⟨x12.val.heap.size, 0, none⟩ = q at q_
          first | (have q2_ : q = some _ := q_; subst q2_) | (simp [go_sem] at q_; have q2_ : q = some _ := q_; subst q2_) | (simp [go_sem, *] at q_; have q2_ : q = some _ := q_; subst q2_)
          have q_ := x13.bel.frozen (p := ⟨x12.val.heap.size, 0, none⟩) (by first | omega | (simp; done) | (simp; omega))
          generalize z_x13_0_0 : x13.val.frozen? ⟨x12.val.heap.size, 0, none⟩ = q at q_
          first | (have q2_ : q = false := q_; subst q2_) | (simp [go_sem] at q_; have q2_ : q = false := q_; subst q2_) | (simp [go_sem, *] at q_; have q2_ : q = false := q_; subst q2_)
          have q_ := x13.bel.cell (p := ⟨x12.val.heap.size, 1, none⟩) (by first | omega | (simp; done) | (simp; omega))
          generalize c_x13_0_1 : x13.val.cell? ⟨x12.val.heap.size, 1, none⟩ = q at q_
          first | (have q2_ : q = some _ := q_; subst q2_) | (simp [go_sem] at q_; have q2_ : q = some _ := q_; subst q2_) | (simp [go_sem, *] at q_; have q2_ : q = some _ := q_; subst q2_)
          have q_ := x13.bel.frozen (p := ⟨x12.val.heap.size, 1, none⟩) (by first | omega | (simp; done) | (simp; omega))
          generalize z_x13_0_1 : x13.val.frozen? ⟨x12.val.heap.size, 1, none⟩ = q at q_
          first | (have q2_ : q = false := q_; subst q2_) | (simp [go_sem] at q_; have q2_ : q = false := q_; subst q2_) | (simp [go_sem, *] at q_; have q2_ : q = false := q_; subst q2_)
          go_wp2_with fail
          with_reducible refine (C4.out _).mono ?_
          rintro e_x14 w_x14 ⟨rfl, hb_x14⟩
          obtain ⟨x14, rfl⟩ := later_is hb_x14
          clear hb_x14
          have hz_x14 := x14.bel.size
          try simp at hz_x14
          replace c_x5_0_0 := x14.keep (by repeat (first | exact c_x5_0_0 | apply keep_alloc | (apply keep_set; rotate_left; first | (simp; done) | (simp; omega))))
          replace c_x5_0_1 := x14.keep (by repeat (first | exact c_x5_0_1 | apply keep_alloc | (apply keep_set; rotate_left; first | (simp; done) | (simp; omega))))
          replace c_x5_0_2 := x14.keep (by repeat (first | exact c_x5_0_2 | apply keep_alloc | (apply keep_set; rotate_left; first | (simp; done) | (simp; omega))))
          replace c_x5_0_3 := x14.keep (by repeat (first | exact c_x5_0_3 | apply keep_alloc | (apply keep_set; rotate_left; first | (simp; done) | (simp; omega))))
          replace c_x5_0_4 := x14.keep (by repeat (first | exact c_x5_0_4 | apply keep_alloc | (apply keep_set; rotate_left; first | (simp; done) | (simp; omega))))
          replace c_x5_0_5 := x14.keep (by repeat (first | exact c_x5_0_5 | apply keep_alloc | (apply keep_set; rotate_left; first | (simp; done) | (simp; omega))))
          replace c_x5_0_6 := x14.keep (by repeat (first | exact c_x5_0_6 | apply keep_alloc | (apply keep_set; rotate_left; first | (simp; done) | (simp; omega))))
          replace c_x5_0_7 := x14.keep (by repeat (first | exact c_x5_0_7 | apply keep_alloc | (apply keep_set; rotate_left; first | (simp; done) | (simp; omega))))
          replace c_x5_0_8 := x14.keep (by repeat (first | exact c_x5_0_8 | apply keep_alloc | (apply keep_set; rotate_left; first | (simp; done) | (simp; omega))))
          replace c_x13_0_0 := x14.keep (by repeat (first | exact c_x13_0_0 | apply keep_alloc | (apply keep_set; rotate_left; first | (simp; done) | (simp; omega))))
          replace c_x13_0_1 := x14.keep (by repeat (first | exact c_x13_0_1 | apply keep_alloc | (apply keep_set; rotate_left; first | (simp; done) | (simp; omega))))
          have lc_x14_0 : xv.val.heap.size < x14.val.heap.size := by omega
          have mc_x14_0 : xv.val.heap.size < x14.val.heap.size + 1 := by omega
          have lc_x14_1 : x12.val.heap.size < x14.val.heap.size := by omega
          have mc_x14_1 : x12.val.heap.size < x14.val.heap.size + 1 := by omega
          have bx : Below xv.val.heap.size xv.val x14.val := (by repeat (first | with_reducible exact Below.refl _ _ | with_reducible refine bel_later _ ?_ | with_reducible refine bel_alloc ?_ _ | refine bel_set ?_ (by first | omega | (simp; done) | (simp; omega)) _ | with_reducible refine Below.drew ?_ | with_reducible refine bel_drewN ?_ _ | with_reducible assumption | assumption))
          have bfin := hbv.trans (bx.mono (show w.heap.size + 1 ≤ xv.val.heap.size by omega))
          go_wp2
          go_roundw
          case rel => exact ⟨k + 1, by omega, by go_num, bfin⟩
          case measure => simp [RowKit.intOf]; omega
        replace V3 := Lib.hid (V3.out (of_decide_eq_true hcn) (by have := of_decide_eq_true hc2; omega))
        go_wp2_with fail
        with_reducible refine (W2.out _).mono ?_
        rintro e_x12 w_x12 ⟨rfl, hb_x12⟩
        obtain ⟨x12, rfl⟩ := later_is hb_x12
        clear hb_x12
        have hz_x12 := x12.bel.size
        try simp at hz_x12
        replace c_x5_0_0 := x12.keep (by repeat (first | exact c_x5_0_0 | apply keep_alloc | (apply keep_set; rotate_left; first | (simp; done) | (simp; omega))))
        replace c_x5_0_1 := x12.keep (by repeat (first | exact c_x5_0_1 | apply keep_alloc | (apply keep_set; rotate_left; first | (simp; done) | (simp; omega))))
        replace c_x5_0_2 := x12.keep (by repeat (first | exact c_x5_0_2 | apply keep_alloc | (apply keep_set; rotate_left; first | (simp; done) | (simp; omega))))
        replace c_x5_0_3 := x12.keep (by repeat (first | exact c_x5_0_3 | apply keep_alloc | (apply keep_set; rotate_left; first | (simp; done) | (simp; omega))))
        replace c_x5_0_4 := x12.keep (by repeat (first | exact c_x5_0_4 | apply keep_alloc | (apply keep_set; rotate_left; first | (simp; done) | (simp; omega))))
        replace c_x5_0_5 := x12.keep (by repeat (first | exact c_x5_0_5 | apply keep_alloc | (apply keep_set; rotate_left; first | (simp; done) | (simp; omega))))
        replace c_x5_0_6 := x12.keep (by repeat (first | exact c_x5_0_6 | apply keep_alloc | (apply keep_set; rotate_left; first | (simp; done) | (simp; omega))))
        replace c_x5_0_7 := x12.keep (by repeat (first | exact c_x5_0_7 | apply keep_alloc | (apply keep_set; rotate_left; first | (simp; done) | (simp; omega))))
        replace c_x5_0_8 := x12.keep (by repeat (first | exact c_x5_0_8 | apply keep_alloc | (apply keep_set; rotate_left; first | (simp; done) | (simp; omega))))
        replace c_x7_0_0 := x12.keep (by repeat (first | exact c_x7_0_0 | apply keep_alloc | (apply keep_set; rotate_left; first | (simp; done) | (simp; omega))))
        replace c_x7_0_1 := x12.keep (by repeat (first | exact c_x7_0_1 | apply keep_alloc | (apply keep_set; rotate_left; first | (simp; done) | (simp; omega))))
        have lc_x12_0 : xv.val.heap.size < x12.val.heap.size := by omega
        have mc_x12_0 : xv.val.heap.size < x12.val.heap.size + 1 := by omega
        have lc_x12_1 : x6.val.heap.size < x12.val.heap.size := by omega
        have mc_x12_1 : x6.val.heap.size < x12.val.heap.size + 1 := by omega
        go_wp2_with fail
        with_reducible refine (C3.out _).mono ?_
        rintro e_x13 w_x13 ⟨rfl, hb_x13⟩
        obtain ⟨x13, rfl⟩ := later_is hb_x13
        clear hb_x13
        have hz_x13 := x13.bel.size
        try simp at hz_x13
        replace c_x5_0_0 := x13.keep (by repeat (first | exact c_x5_0_0 | apply keep_alloc | (apply keep_set; rotate_left; first | (simp; done) | (simp; omega))))
        replace c_x5_0_1 := x13.keep (by repeat (first | exact c_x5_0_1 | apply keep_alloc | (apply keep_set; rotate_left; first | (simp; done) | (simp; omega))))
        replace c_x5_0_2 := x13.keep (by repeat (first | exact c_x5_0_2 | apply keep_alloc | (apply keep_set; rotate_left; first | (simp; done) | (simp; omega))))
        replace c_x5_0_3 := x13.keep (by repeat (first | exact c_x5_0_3 | apply keep_alloc | (apply keep_set; rotate_left; first | (simp; done) | (simp; omega))))
        replace c_x5_0_4 := x13.keep (by repeat (first | exact c_x5_0_4 | apply keep_alloc | (apply keep_set; rotate_left; first | (simp; done) | (simp; omega))))
        replace c_x5_0_5 := x13.keep (by repeat (first | exact c_x5_0_5 | apply keep_alloc | (apply keep_set; rotate_left; first | (simp; done) | (simp; omega))))
        replace c_x5_0_6 := x13.keep (by repeat (first | exact c_x5_0_6 | apply keep_alloc | (apply keep_set; rotate_left; first | (simp; done) | (simp; omega))))
        replace c_x5_0_7 := x13.keep (by repeat (first | exact c_x5_0_7 | apply keep_alloc | (apply keep_set; rotate_left; first | (simp; done) | (simp; omega))))
        replace c_x5_0_8 := x13.keep (by repeat (first | exact c_x5_0_8 | apply keep_alloc | (apply keep_set; rotate_left; first | (simp; done) | (simp; omega))))
        replace c_x7_0_0 := x13.keep (by repeat (first | exact c_x7_0_0 | apply keep_alloc | (apply keep_set; rotate_left; first | (simp; done) | (simp; omega))))
        replace c_x7_0_1 := x13.keep (by repeat (first | exact c_x7_0_1 | apply keep_alloc | (apply keep_set; rotate_left; first | (simp; done) | (simp; omega))))
        have lc_x13_0 : xv.val.heap.size < x13.val.heap.size := by omega
        have mc_x13_0 : xv.val.heap.size < x13.val.heap.size + 1 := by omega
        have lc_x13_1 : x6.val.heap.size < x13.val.heap.size := by omega
        have mc_x13_1 : x6.val.heap.size < x13.val.heap.size + 1 := by omega
        have l_x13_0 : x12.val.heap.size < x13.val.heap.size := by omega
        have m_x13_0 : x12.val.heap.size < x13.val.heap.size + 1 := by omega
        have q_ := x13.bel.cell (p := ⟨x12.val.heap.size, 0, none⟩) (by first | omega | (simp; done) | (simp; omega))
        generalize c_x13_0_0 : x13.val.cell? ⟨x12.val.heap.size, 0, none⟩ = q at q_
        first | (have q2_ : q = some _ := q_; subst q2_) | (simp [go_sem] at q_; have q2_ : q = some _ := q_; subst q2_) | (simp [go_sem, *] at q_; have q2_ : q = some _ := q_; subst q2_)
        have q_ := x13.bel.frozen (p := ⟨x12.val.heap.size, 0, none⟩) (by first | omega | (simp; done) | (simp; omega))
        generalize z_x13_0_0 : x13.val.frozen? ⟨x12.val.heap.size, 0, none⟩ = q at q_
        first | (have q2_ : q = false := q_; subst q2_) | (simp [go_sem] at q_; have q2_ : q = false := q_; subst q2_) | (simp [go_sem, *] at q_; have q2_ : q = false := q_; subst q2_)
        have q_ := x13.bel.cell (p := ⟨x12.val.heap.size, 1, none⟩) (by first | omega | (simp; done) | (simp; omega))
        generalize c_x13_0_1 : x13.val.cell? ⟨x12.val.heap.size, 1, none⟩ = q at q_
        first | (have q2_ : q = some _ := q_; subst q2_) | (simp [go_sem] at q_; have q2_ : q = some _ := q_; subst q2_) | (simp [go_sem, *] at q_; have q2_ : q = some _ := q_; subst q2_)
        have q_ := x13.bel.frozen (p := ⟨x12.val.heap.size, 1, none⟩) (by first | omega | (simp; done) | (simp; omega))
        generalize z_x13_0_1 : x13.val.frozen? ⟨x12.val.heap.size, 1, none⟩ = q at q_
        first | (have q2_ : q = false := q_; subst q2_) | (simp [go_sem] at q_; have q2_ : q = false := q_; subst q2_) | (simp [go_sem, *] at q_; have q2_ : q = false := q_; subst q2_)
        go_wp2_with fail
        with_reducible refine (C4.out _).mono ?_
        rintro e_x14 w_x14 ⟨rfl, hb_x14⟩
        obtain ⟨x14, rfl⟩ := later_is hb_x14
        clear hb_x14
        have hz_x14 := x14.bel.size
        try simp at hz_x14
        replace c_x5_0_0 := x14.keep (by repeat (first | exact c_x5_0_0 | apply keep_alloc | (apply keep_set; rotate_left; first | (simp; done) | (simp; omega))))
        replace c_x5_0_1 := x14.keep (by repeat (first | exact c_x5_0_1 | apply keep_alloc | (apply keep_set; rotate_left; first | (simp; done) | (simp; omega))))
        replace c_x5_0_2 := x14.keep (by repeat (first | exact c_x5_0_2 | apply keep_alloc | (apply keep_set; rotate_left; first | (simp; done) | (simp; omega))))
        replace c_x5_0_3 := x14.keep (by repeat (first | exact c_x5_0_3 | apply keep_alloc | (apply keep_set; rotate_left; first | (simp; done) | (simp; omega))))
        replace c_x5_0_4 := x14.keep (by repeat (first | exact c_x5_0_4 | apply keep_alloc | (apply keep_set; rotate_left; first | (simp; done) | (simp; omega))))
        replace c_x5_0_5 := x14.keep (by repeat (first | exact c_x5_0_5 | apply keep_alloc | (apply keep_set; rotate_left; first | (simp; done) | (simp; omega))))
        replace c_x5_0_6 := x14.keep (by repeat (first | exact c_x5_0_6 | apply keep_alloc | (apply keep_set; rotate_left; first | (simp; done) | (simp; omega))))
        replace c_x5_0_7 := x14.keep (by repeat (first | exact c_x5_0_7 | apply keep_alloc | (apply keep_set; rotate_left; first | (simp; done) | (simp; omega))))
        replace c_x5_0_8 := x14.keep (by repeat (first | exact c_x5_0_8 | apply keep_alloc | (apply keep_set; rotate_left; first | (simp; done) | (simp; omega))))
        replace c_x13_0_0 := x14.keep (by repeat (first | exact c_x13_0_0 | apply keep_alloc | (apply keep_set; rotate_left; first | (simp; done) | (simp; omega))))
        replace c_x13_0_1 := x14.keep (by repeat (first | exact c_x13_0_1 | apply keep_alloc | (apply keep_set; rotate_left; first | (simp; done) | (simp; omega))))
        have lc_x14_0 : xv.val.heap.size < x14.val.heap.size := by omega
        have mc_x14_0 : xv.val.heap.size < x14.val.heap.size + 1 := by omega
        have lc_x14_1 : x12.val.heap.size < x14.val.heap.size := by omega
        have mc_x14_1 : x12.val.heap.size < x14.val.heap.size + 1 := by omega
        go_wp2_with fail
        with_reducible refine (V3.out _).mono ?_
        rintro e_x15 w_x15 ⟨rfl, hb_x15⟩
        obtain ⟨x15, rfl⟩ := later_is hb_x15
        clear hb_x15
        have hz_x15 := x15.bel.size
        try simp at hz_x15
        have bx : Below xv.val.heap.size xv.val x15.val := (by repeat (first | with_reducible exact Below.refl _ _ | with_reducible refine bel_later _ ?_ | with_reducible refine bel_alloc ?_ _ | refine bel_set ?_ (by first | omega | (simp; done) | (simp; omega)) _ | with_reducible refine Below.drew ?_ | with_reducible refine bel_drewN ?_ _ | with_reducible assumption | assumption))
        have bfin := hbv.trans (bx.mono (show w.heap.size + 1 ≤ xv.val.heap.size by omega))
        go_wp2
        go_roundw
        case rel => exact ⟨k + 1, by omega, by go_num, bfin⟩
        case measure => simp [RowKit.intOf]; omega
      | some c =>
        rw [hto] at T2
        unfold decV at T2
        have hcf := right_fit (to_right hto)
        have V2 := Lib.hid (fun (x : World) => vword_any ⟨pn, at_, dg, sg, ⟨ln, ld⟩, ⟨hn, hd⟩, pu⟩ ⟨⟨#[]⟩, c, ot, 0⟩ x HPF.out hcf)
        rw [L7.out c ot hto] at V2
        obtain ⟨en, ed⟩ := c
        dsimp only at T2 V2
        clear hto L7 hcf
        go_wp2_with fail
        with_reducible refine (VW.out _).mono ?_
        rintro e_x5 w_x5 ⟨rfl, hb_x5⟩
        obtain ⟨x5, rfl⟩ := later_is hb_x5
        clear hb_x5
        have hz_x5 := x5.bel.size
        try simp at hz_x5
        replace c_xv_0_0 := x5.keep (by repeat (first | exact c_xv_0_0 | apply keep_alloc | (apply keep_set; rotate_left; first | (simp; done) | (simp; omega))))
        replace c_xv_0_1 := x5.keep (by repeat (first | exact c_xv_0_1 | apply keep_alloc | (apply keep_set; rotate_left; first | (simp; done) | (simp; omega))))
        have lc_x5_0 : w.heap.size < x5.val.heap.size := by omega
        have mc_x5_0 : w.heap.size < x5.val.heap.size + 1 := by omega
        have l_x5_0 : xv.val.heap.size < x5.val.heap.size := by omega
        have m_x5_0 : xv.val.heap.size < x5.val.heap.size + 1 := by omega
        have q_ := x5.bel.cell (p := ⟨xv.val.heap.size, 0, none⟩) (by first | omega | (simp; done) | (simp; omega))
        generalize c_x5_0_0 : x5.val.cell? ⟨xv.val.heap.size, 0, none⟩ = q at q_
        first | (have q2_ : q = some _ := q_; subst q2_) | (simp [go_sem] at q_; have q2_ : q = some _ := q_; subst q2_) | (simp [go_sem, *] at q_; have q2_ : q = some _ := q_; subst q2_)
        have q_ := x5.bel.frozen (p := ⟨xv.val.heap.size, 0, none⟩) (by first | omega | (simp; done) | (simp; omega))
        generalize z_x5_0_0 : x5.val.frozen? ⟨xv.val.heap.size, 0, none⟩ = q at q_
        first | (have q2_ : q = false := q_; subst q2_) | (simp [go_sem] at q_; have q2_ : q = false := q_; subst q2_) | (simp [go_sem, *] at q_; have q2_ : q = false := q_; subst q2_)
        have q_ := x5.bel.cell (p := ⟨xv.val.heap.size, 1, none⟩) (by first | omega | (simp; done) | (simp; omega))
        generalize c_x5_0_1 : x5.val.cell? ⟨xv.val.heap.size, 1, none⟩ = q at q_
        first | (have q2_ : q = some _ := q_; subst q2_) | (simp [go_sem] at q_; have q2_ : q = some _ := q_; subst q2_) | (simp [go_sem, *] at q_; have q2_ : q = some _ := q_; subst q2_)
        have q_ := x5.bel.frozen (p := ⟨xv.val.heap.size, 1, none⟩) (by first | omega | (simp; done) | (simp; omega))
        generalize z_x5_0_1 : x5.val.frozen? ⟨xv.val.heap.size, 1, none⟩ = q at q_
        first | (have q2_ : q = false := q_; subst q2_) | (simp [go_sem] at q_; have q2_ : q = false := q_; subst q2_) | (simp [go_sem, *] at q_; have q2_ : q = false := q_; subst q2_)
        have q_ := x5.bel.cell (p := ⟨xv.val.heap.size, 2, none⟩) (by first | omega | (simp; done) | (simp; omega))
        generalize c_x5_0_2 : x5.val.cell? ⟨xv.val.heap.size, 2, none⟩ = q at q_
        first | (have q2_ : q = some _ := q_; subst q2_) | (simp [go_sem] at q_; have q2_ : q = some _ := q_; subst q2_) | (simp [go_sem, *] at q_; have q2_ : q = some _ := q_; subst q2_)
        have q_ := x5.bel.frozen (p := ⟨xv.val.heap.size, 2, none⟩) (by first | omega | (simp; done) | (simp; omega))
        generalize z_x5_0_2 : x5.val.frozen? ⟨xv.val.heap.size, 2, none⟩ = q at q_
        first | (have q2_ : q = false := q_; subst q2_) | (simp [go_sem] at q_; have q2_ : q = false := q_; subst q2_) | (simp [go_sem, *] at q_; have q2_ : q = false := q_; subst q2_)
        have q_ := x5.bel.cell (p := ⟨xv.val.heap.size, 3, none⟩) (by first | omega | (simp; done) | (simp; omega))
        generalize c_x5_0_3 : x5.val.cell? ⟨xv.val.heap.size, 3, none⟩ = q at q_
        first | (have q2_ : q = some _ := q_; subst q2_) | (simp [go_sem] at q_; have q2_ : q = some _ := q_; subst q2_) | (simp [go_sem, *] at q_; have q2_ : q = some _ := q_; subst q2_)
        have q_ := x5.bel.frozen (p := ⟨xv.val.heap.size, 3, none⟩) (by first | omega | (simp; done) | (simp; omega))
        generalize z_x5_0_3 : x5.val.frozen? ⟨xv.val.heap.size, 3, none⟩ = q at q_
        first | (have q2_ : q = false := q_; subst q2_) | (simp [go_sem] at q_; have q2_ : q = false := q_; subst q2_) | (simp [go_sem, *] at q_; have q2_ : q = false := q_; subst q2_)
        have q_ := x5.bel.cell (p := ⟨xv.val.heap.size, 4, none⟩) (by first | omega | (simp; done) | (simp; omega))
        generalize c_x5_0_4 : x5.val.cell? ⟨xv.val.heap.size, 4, none⟩ = q at q_
        first | (have q2_ : q = some _ := q_; subst q2_) | (simp [go_sem] at q_; have q2_ : q = some _ := q_; subst q2_) | (simp [go_sem, *] at q_; have q2_ : q = some _ := q_; subst q2_)
        have q_ := x5.bel.frozen (p := ⟨xv.val.heap.size, 4, none⟩) (by first | omega | (simp; done) | (simp; omega))
        generalize z_x5_0_4 : x5.val.frozen? ⟨xv.val.heap.size, 4, none⟩ = q at q_
        first | (have q2_ : q = false := q_; subst q2_) | (simp [go_sem] at q_; have q2_ : q = false := q_; subst q2_) | (simp [go_sem, *] at q_; have q2_ : q = false := q_; subst q2_)
        have q_ := x5.bel.cell (p := ⟨xv.val.heap.size, 5, none⟩) (by first | omega | (simp; done) | (simp; omega))
        generalize c_x5_0_5 : x5.val.cell? ⟨xv.val.heap.size, 5, none⟩ = q at q_
        first | (have q2_ : q = some _ := q_; subst q2_) | (simp [go_sem] at q_; have q2_ : q = some _ := q_; subst q2_) | (simp [go_sem, *] at q_; have q2_ : q = some _ := q_; subst q2_)
        have q_ := x5.bel.frozen (p := ⟨xv.val.heap.size, 5, none⟩) (by first | omega | (simp; done) | (simp; omega))
        generalize z_x5_0_5 : x5.val.frozen? ⟨xv.val.heap.size, 5, none⟩ = q at q_
        first | (have q2_ : q = false := q_; subst q2_) | (simp [go_sem] at q_; have q2_ : q = false := q_; subst q2_) | (simp [go_sem, *] at q_; have q2_ : q = false := q_; subst q2_)
        have q_ := x5.bel.cell (p := ⟨xv.val.heap.size, 6, none⟩) (by first | omega | (simp; done) | (simp; omega))
        generalize c_x5_0_6 : x5.val.cell? ⟨xv.val.heap.size, 6, none⟩ = q at q_
        first | (have q2_ : q = some _ := q_; subst q2_) | (simp [go_sem] at q_; have q2_ : q = some _ := q_; subst q2_) | (simp [go_sem, *] at q_; have q2_ : q = some _ := q_; subst q2_)
        have q_ := x5.bel.frozen (p := ⟨xv.val.heap.size, 6, none⟩) (by first | omega | (simp; done) | (simp; omega))
        generalize z_x5_0_6 : x5.val.frozen? ⟨xv.val.heap.size, 6, none⟩ = q at q_
        first | (have q2_ : q = false := q_; subst q2_) | (simp [go_sem] at q_; have q2_ : q = false := q_; subst q2_) | (simp [go_sem, *] at q_; have q2_ : q = false := q_; subst q2_)
        have q_ := x5.bel.cell (p := ⟨xv.val.heap.size, 7, none⟩) (by first | omega | (simp; done) | (simp; omega))
        generalize c_x5_0_7 : x5.val.cell? ⟨xv.val.heap.size, 7, none⟩ = q at q_
        first | (have q2_ : q = some _ := q_; subst q2_) | (simp [go_sem] at q_; have q2_ : q = some _ := q_; subst q2_) | (simp [go_sem, *] at q_; have q2_ : q = some _ := q_; subst q2_)
        have q_ := x5.bel.frozen (p := ⟨xv.val.heap.size, 7, none⟩) (by first | omega | (simp; done) | (simp; omega))
        generalize z_x5_0_7 : x5.val.frozen? ⟨xv.val.heap.size, 7, none⟩ = q at q_
        first | (have q2_ : q = false := q_; subst q2_) | (simp [go_sem] at q_; have q2_ : q = false := q_; subst q2_) | (simp [go_sem, *] at q_; have q2_ : q = false := q_; subst q2_)
        have q_ := x5.bel.cell (p := ⟨xv.val.heap.size, 8, none⟩) (by first | omega | (simp; done) | (simp; omega))
        generalize c_x5_0_8 : x5.val.cell? ⟨xv.val.heap.size, 8, none⟩ = q at q_
        first | (have q2_ : q = some _ := q_; subst q2_) | (simp [go_sem] at q_; have q2_ : q = some _ := q_; subst q2_) | (simp [go_sem, *] at q_; have q2_ : q = some _ := q_; subst q2_)
        have q_ := x5.bel.frozen (p := ⟨xv.val.heap.size, 8, none⟩) (by first | omega | (simp; done) | (simp; omega))
        generalize z_x5_0_8 : x5.val.frozen? ⟨xv.val.heap.size, 8, none⟩ = q at q_
        first | (have q2_ : q = false := q_; subst q2_) | (simp [go_sem] at q_; have q2_ : q = false := q_; subst q2_) | (simp [go_sem, *] at q_; have q2_ : q = false := q_; subst q2_)
        go_wp2_with fail
        with_reducible refine (T1.out _).mono ?_
        rintro e_x6 w_x6 ⟨rfl, hb_x6⟩
        obtain ⟨x6, rfl⟩ := later_is hb_x6
        clear hb_x6
        have hz_x6 := x6.bel.size
        try simp at hz_x6
        replace c_xv_0_0 := x6.keep (by repeat (first | exact c_xv_0_0 | apply keep_alloc | (apply keep_set; rotate_left; first | (simp; done) | (simp; omega))))
        replace c_xv_0_1 := x6.keep (by repeat (first | exact c_xv_0_1 | apply keep_alloc | (apply keep_set; rotate_left; first | (simp; done) | (simp; omega))))
        replace c_x5_0_0 := x6.keep (by repeat (first | exact c_x5_0_0 | apply keep_alloc | (apply keep_set; rotate_left; first | (simp; done) | (simp; omega))))
        replace c_x5_0_1 := x6.keep (by repeat (first | exact c_x5_0_1 | apply keep_alloc | (apply keep_set; rotate_left; first | (simp; done) | (simp; omega))))
        replace c_x5_0_2 := x6.keep (by repeat (first | exact c_x5_0_2 | apply keep_alloc | (apply keep_set; rotate_left; first | (simp; done) | (simp; omega))))
        replace c_x5_0_3 := x6.keep (by repeat (first | exact c_x5_0_3 | apply keep_alloc | (apply keep_set; rotate_left; first | (simp; done) | (simp; omega))))
        replace c_x5_0_4 := x6.keep (by repeat (first | exact c_x5_0_4 | apply keep_alloc | (apply keep_set; rotate_left; first | (simp; done) | (simp; omega))))
        replace c_x5_0_5 := x6.keep (by repeat (first | exact c_x5_0_5 | apply keep_alloc | (apply keep_set; rotate_left; first | (simp; done) | (simp; omega))))
        replace c_x5_0_6 := x6.keep (by repeat (first | exact c_x5_0_6 | apply keep_alloc | (apply keep_set; rotate_left; first | (simp; done) | (simp; omega))))
        replace c_x5_0_7 := x6.keep (by repeat (first | exact c_x5_0_7 | apply keep_alloc | (apply keep_set; rotate_left; first | (simp; done) | (simp; omega))))
        replace c_x5_0_8 := x6.keep (by repeat (first | exact c_x5_0_8 | apply keep_alloc | (apply keep_set; rotate_left; first | (simp; done) | (simp; omega))))
        have lc_x6_0 : w.heap.size < x6.val.heap.size := by omega
        have mc_x6_0 : w.heap.size < x6.val.heap.size + 1 := by omega
        have lc_x6_1 : xv.val.heap.size < x6.val.heap.size := by omega
        have mc_x6_1 : xv.val.heap.size < x6.val.heap.size + 1 := by omega
        go_wp2_with fail
        with_reducible refine (W1.out _).mono ?_
        rintro e_x7 w_x7 ⟨rfl, hb_x7⟩
        obtain ⟨x7, rfl⟩ := later_is hb_x7
        clear hb_x7
        have hz_x7 := x7.bel.size
        try simp at hz_x7
        replace c_xv_0_0 := x7.keep (by repeat (first | exact c_xv_0_0 | apply keep_alloc | (apply keep_set; rotate_left; first | (simp; done) | (simp; omega))))
        replace c_xv_0_1 := x7.keep (by repeat (first | exact c_xv_0_1 | apply keep_alloc | (apply keep_set; rotate_left; first | (simp; done) | (simp; omega))))
        replace c_x5_0_0 := x7.keep (by repeat (first | exact c_x5_0_0 | apply keep_alloc | (apply keep_set; rotate_left; first | (simp; done) | (simp; omega))))
        replace c_x5_0_1 := x7.keep (by repeat (first | exact c_x5_0_1 | apply keep_alloc | (apply keep_set; rotate_left; first | (simp; done) | (simp; omega))))
        replace c_x5_0_2 := x7.keep (by repeat (first | exact c_x5_0_2 | apply keep_alloc | (apply keep_set; rotate_left; first | (simp; done) | (simp; omega))))
        replace c_x5_0_3 := x7.keep (by repeat (first | exact c_x5_0_3 | apply keep_alloc | (apply keep_set; rotate_left; first | (simp; done) | (simp; omega))))
        replace c_x5_0_4 := x7.keep (by repeat (first | exact c_x5_0_4 | apply keep_alloc | (apply keep_set; rotate_left; first | (simp; done) | (simp; omega))))
        replace c_x5_0_5 := x7.keep (by repeat (first | exact c_x5_0_5 | apply keep_alloc | (apply keep_set; rotate_left; first | (simp; done) | (simp; omega))))
        replace c_x5_0_6 := x7.keep (by repeat (first | exact c_x5_0_6 | apply keep_alloc | (apply keep_set; rotate_left; first | (simp; done) | (simp; omega))))
        replace c_x5_0_7 := x7.keep (by repeat (first | exact c_x5_0_7 | apply keep_alloc | (apply keep_set; rotate_left; first | (simp; done) | (simp; omega))))
        replace c_x5_0_8 := x7.keep (by repeat (first | exact c_x5_0_8 | apply keep_alloc | (apply keep_set; rotate_left; first | (simp; done) | (simp; omega))))
        have lc_x7_0 : w.heap.size < x7.val.heap.size := by omega
        have mc_x7_0 : w.heap.size < x7.val.heap.size + 1 := by omega
        have lc_x7_1 : xv.val.heap.size < x7.val.heap.size := by omega
        have mc_x7_1 : xv.val.heap.size < x7.val.heap.size + 1 := by omega
        have l_x7_0 : x6.val.heap.size < x7.val.heap.size := by omega
        have m_x7_0 : x6.val.heap.size < x7.val.heap.size + 1 := by omega
        have q_ := x7.bel.cell (p := ⟨x6.val.heap.size, 0, none⟩) (by first | omega | (simp; done) | (simp; omega))
        generalize c_x7_0_0 : x7.val.cell? ⟨x6.val.heap.size, 0, none⟩ = q at q_
        first | (have q2_ : q = some _ := q_; subst q2_) | (simp [go_sem] at q_; have q2_ : q = some _ := q_; subst q2_) | (simp [go_sem, *] at q_; have q2_ : q = some _ := q_; subst q2_)
        have q_ := x7.bel.frozen (p := ⟨x6.val.heap.size, 0, none⟩) (by first | omega | (simp; done) | (simp; omega))
        generalize z_x7_0_0 : x7.val.frozen? ⟨x6.val.heap.size, 0, none⟩ = q at q_
        first | (have q2_ : q = false := q_; subst q2_) | (simp [go_sem] at q_; have q2_ : q = false := q_; subst q2_) | (simp [go_sem, *] at q_; have q2_ : q = false := q_; subst q2_)
        have q_ := x7.bel.cell (p := ⟨x6.val.heap.size, 1, none⟩) (by first | omega | (simp; done) | (simp; omega))
        generalize c_x7_0_1 : x7.val.cell? ⟨x6.val.heap.size, 1, none⟩ = q at q_
        first | (have q2_ : q = some _ := q_; subst q2_) | (simp [go_sem] at q_; have q2_ : q = some _ := q_; subst q2_) | (simp [go_sem, *] at q_; have q2_ : q = some _ := q_; subst q2_)
        have q_ := x7.bel.frozen (p := ⟨x6.val.heap.size, 1, none⟩) (by first | omega | (simp; done) | (simp; omega))
        generalize z_x7_0_1 : x7.val.frozen? ⟨x6.val.heap.size, 1, none⟩ = q at q_
        first | (have q2_ : q = false := q_; subst q2_) | (simp [go_sem] at q_; have q2_ : q = false := q_; subst q2_) | (simp [go_sem, *] at q_; have q2_ : q = false := q_; subst q2_)
        go_wp2_with fail
        with_reducible refine (C1.out _).mono ?_
        rintro e_x8 w_x8 ⟨rfl, hb_x8⟩
        obtain ⟨x8, rfl⟩ := later_is hb_x8
        clear hb_x8
        have hz_x8 := x8.bel.size
        try simp at hz_x8
        replace c_xv_0_0 := x8.keep (by repeat (first | exact c_xv_0_0 | apply keep_alloc | (apply keep_set; rotate_left; first | (simp; done) | (simp; omega))))
        replace c_xv_0_1 := x8.keep (by repeat (first | exact c_xv_0_1 | apply keep_alloc | (apply keep_set; rotate_left; first | (simp; done) | (simp; omega))))
        replace c_x5_0_0 := x8.keep (by repeat (first | exact c_x5_0_0 | apply keep_alloc | (apply keep_set; rotate_left; first | (simp; done) | (simp; omega))))
        replace c_x5_0_1 := x8.keep (by repeat (first | exact c_x5_0_1 | apply keep_alloc | (apply keep_set; rotate_left; first | (simp; done) | (simp; omega))))
        replace c_x5_0_2 := x8.keep (by repeat (first | exact c_x5_0_2 | apply keep_alloc | (apply keep_set; rotate_left; first | (simp; done) | (simp; omega))))
        replace c_x5_0_3 := x8.keep (by repeat (first | exact c_x5_0_3 | apply keep_alloc | (apply keep_set; rotate_left; first | (simp; done) | (simp; omega))))
        replace c_x5_0_4 := x8.keep (by repeat (first | exact c_x5_0_4 | apply keep_alloc | (apply keep_set; rotate_left; first | (simp; done) | (simp; omega))))
        replace c_x5_0_5 := x8.keep (by repeat (first | exact c_x5_0_5 | apply keep_alloc | (apply keep_set; rotate_left; first | (simp; done) | (simp; omega))))
        replace c_x5_0_6 := x8.keep (by repeat (first | exact c_x5_0_6 | apply keep_alloc | (apply keep_set; rotate_left; first | (simp; done) | (simp; omega))))
        replace c_x5_0_7 := x8.keep (by repeat (first | exact c_x5_0_7 | apply keep_alloc | (apply keep_set; rotate_left; first | (simp; done) | (simp; omega))))
        replace c_x5_0_8 := x8.keep (by repeat (first | exact c_x5_0_8 | apply keep_alloc | (apply keep_set; rotate_left; first | (simp; done) | (simp; omega))))
        replace c_x7_0_0 := x8.keep (by repeat (first | exact c_x7_0_0 | apply keep_alloc | (apply keep_set; rotate_left; first | (simp; done) | (simp; omega))))
        replace c_x7_0_1 := x8.keep (by repeat (first | exact c_x7_0_1 | apply keep_alloc | (apply keep_set; rotate_left; first | (simp; done) | (simp; omega))))
        have lc_x8_0 : w.heap.size < x8.val.heap.size := by omega
        have mc_x8_0 : w.heap.size < x8.val.heap.size + 1 := by omega
        have lc_x8_1 : xv.val.heap.size < x8.val.heap.size := by omega
        have mc_x8_1 : xv.val.heap.size < x8.val.heap.size + 1 := by omega
        have lc_x8_2 : x6.val.heap.size < x8.val.heap.size := by omega
        have mc_x8_2 : x6.val.heap.size < x8.val.heap.size + 1 := by omega
        go_wp2_with fail
        with_reducible refine (C2.out _).mono ?_
        rintro e_x9 w_x9 ⟨rfl, hb_x9⟩
        obtain ⟨x9, rfl⟩ := later_is hb_x9
        clear hb_x9
        have hz_x9 := x9.bel.size
        try simp at hz_x9
        replace c_xv_0_0 := x9.keep (by repeat (first | exact c_xv_0_0 | apply keep_alloc | (apply keep_set; rotate_left; first | (simp; done) | (simp; omega))))
        replace c_xv_0_1 := x9.keep (by repeat (first | exact c_xv_0_1 | apply keep_alloc | (apply keep_set; rotate_left; first | (simp; done) | (simp; omega))))
        replace c_x5_0_0 := x9.keep (by repeat (first | exact c_x5_0_0 | apply keep_alloc | (apply keep_set; rotate_left; first | (simp; done) | (simp; omega))))
        replace c_x5_0_1 := x9.keep (by repeat (first | exact c_x5_0_1 | apply keep_alloc | (apply keep_set; rotate_left; first | (simp; done) | (simp; omega))))
        replace c_x5_0_2 := x9.keep (by repeat (first | exact c_x5_0_2 | apply keep_alloc | (apply keep_set; rotate_left; first | (simp; done) | (simp; omega))))
        replace c_x5_0_3 := x9.keep (by repeat (first | exact c_x5_0_3 | apply keep_alloc | (apply keep_set; rotate_left; first | (simp; done) | (simp; omega))))
        replace c_x5_0_4 := x9.keep (by repeat (first | exact c_x5_0_4 | apply keep_alloc | (apply keep_set; rotate_left; first | (simp; done) | (simp; omega))))
        replace c_x5_0_5 := x9.keep (by repeat (first | exact c_x5_0_5 | apply keep_alloc | (apply keep_set; rotate_left; first | (simp; done) | (simp; omega))))
        replace c_x5_0_6 := x9.keep (by repeat (first | exact c_x5_0_6 | apply keep_alloc | (apply keep_set; rotate_left; first | (simp; done) | (simp; omega))))
        replace c_x5_0_7 := x9.keep (by repeat (first | exact c_x5_0_7 | apply keep_alloc | (apply keep_set; rotate_left; first | (simp; done) | (simp; omega))))
        replace c_x5_0_8 := x9.keep (by repeat (first | exact c_x5_0_8 | apply keep_alloc | (apply keep_set; rotate_left; first | (simp; done) | (simp; omega))))
        replace c_x7_0_0 := x9.keep (by repeat (first | exact c_x7_0_0 | apply keep_alloc | (apply keep_set; rotate_left; first | (simp; done) | (simp; omega))))
        replace c_x7_0_1 := x9.keep (by repeat (first | exact c_x7_0_1 | apply keep_alloc | (apply keep_set; rotate_left; first | (simp; done) | (simp; omega))))
        have lc_x9_0 : w.heap.size < x9.val.heap.size := by omega
        have mc_x9_0 : w.heap.size < x9.val.heap.size + 1 := by omega
        have lc_x9_1 : xv.val.heap.size < x9.val.heap.size := by omega
        have mc_x9_1 : xv.val.heap.size < x9.val.heap.size + 1 := by omega
        have lc_x9_2 : x6.val.heap.size < x9.val.heap.size := by omega
        have mc_x9_2 : x6.val.heap.size < x9.val.heap.size + 1 := by omega
        go_wp2_with fail
        with_reducible refine (T2.out _).mono ?_
        rintro e_x10 w_x10 ⟨rfl, hb_x10⟩
        obtain ⟨x10, rfl⟩ := later_is hb_x10
        clear hb_x10
        have hz_x10 := x10.bel.size
        try simp at hz_x10
        replace c_x5_0_0 := x10.keep (by repeat (first | exact c_x5_0_0 | apply keep_alloc | (apply keep_set; rotate_left; first | (simp; done) | (simp; omega))))
        replace c_x5_0_1 := x10.keep (by repeat (first | exact c_x5_0_1 | apply keep_alloc | (apply keep_set; rotate_left; first | (simp; done) | (simp; omega))))
        replace c_x5_0_2 := x10.keep (by repeat (first | exact c_x5_0_2 | apply keep_alloc | (apply keep_set; rotate_left; first | (simp; done) | (simp; omega))))
        replace c_x5_0_3 := x10.keep (by repeat (first | exact c_x5_0_3 | apply keep_alloc | (apply keep_set; rotate_left; first | (simp; done) | (simp; omega))))
        replace c_x5_0_4 := x10.keep (by repeat (first | exact c_x5_0_4 | apply keep_alloc | (apply keep_set; rotate_left; first | (simp; done) | (simp; omega))))
        replace c_x5_0_5 := x10.keep (by repeat (first | exact c_x5_0_5 | apply keep_alloc | (apply keep_set; rotate_left; first | (simp; done) | (simp; omega))))
        replace c_x5_0_6 := x10.keep (by repeat (first | exact c_x5_0_6 | apply keep_alloc | (apply keep_set; rotate_left; first | (simp; done) | (simp; omega))))
        replace c_x5_0_7 := x10.keep (by repeat (first | exact c_x5_0_7 | apply keep_alloc | (apply keep_set; rotate_left; first | (simp; done) | (simp; omega))))
        replace c_x5_0_8 := x10.keep (by repeat (first | exact c_x5_0_8 | apply keep_alloc | (apply keep_set; rotate_left; first | (simp; done) | (simp; omega))))
        replace c_x7_0_0 := x10.keep (by repeat (first | exact c_x7_0_0 | apply keep_alloc | (apply keep_set; rotate_left; first | (simp; done) | (simp; omega))))
        replace c_x7_0_1 := x10.keep (by repeat (first | exact c_x7_0_1 | apply keep_alloc | (apply keep_set; rotate_left; first | (simp; done) | (simp; omega))))
        have lc_x10_0 : xv.val.heap.size < x10.val.heap.size := by omega
        have mc_x10_0 : xv.val.heap.size < x10.val.heap.size + 1 := by omega
        have lc_x10_1 : x6.val.heap.size < x10.val.heap.size := by omega
        have mc_x10_1 : x6.val.heap.size < x10.val.heap.size + 1 := by omega
        go_wp2_with fail
        with_reducible refine (V2.out _).mono ?_
        rintro e_x11 w_x11 ⟨rfl, hb_x11⟩
        obtain ⟨x11, rfl⟩ := later_is hb_x11
        clear hb_x11
        have hz_x11 := x11.bel.size
        try simp at hz_x11
        replace c_x5_0_0 := x11.keep (by repeat (first | exact c_x5_0_0 | apply keep_alloc | (apply keep_set; rotate_left; first | (simp; done) | (simp; omega))))
        replace c_x5_0_1 := x11.keep (by repeat (first | exact c_x5_0_1 | apply keep_alloc | (apply keep_set; rotate_left; first | (simp; done) | (simp; omega))))
        replace c_x5_0_2 := x11.keep (by repeat (first | exact c_x5_0_2 | apply keep_alloc | (apply keep_set; rotate_left; first | (simp; done) | (simp; omega))))
        replace c_x5_0_3 := x11.keep (by repeat (first | exact c_x5_0_3 | apply keep_alloc | (apply keep_set; rotate_left; first | (simp; done) | (simp; omega))))
        replace c_x5_0_4 := x11.keep (by repeat (first | exact c_x5_0_4 | apply keep_alloc | (apply keep_set; rotate_left; first | (simp; done) | (simp; omega))))
        replace c_x5_0_5 := x11.keep (by repeat (first | exact c_x5_0_5 | apply keep_alloc | (apply keep_set; rotate_left; first | (simp; done) | (simp; omega))))
        replace c_x5_0_6 := x11.keep (by repeat (first | exact c_x5_0_6 | apply keep_alloc | (apply keep_set; rotate_left; first | (simp; done) | (simp; omega))))
        replace c_x5_0_7 := x11.keep (by repeat (first | exact c_x5_0_7 | apply keep_alloc | (apply keep_set; rotate_left; first | (simp; done) | (simp; omega))))
        replace c_x5_0_8 := x11.keep (by repeat (first | exact c_x5_0_8 | apply keep_alloc | (apply keep_set; rotate_left; first | (simp; done) | (simp; omega))))
        replace c_x7_0_0 := x11.keep (by repeat (first | exact c_x7_0_0 | apply keep_alloc | (apply keep_set; rotate_left; first | (simp; done) | (simp; omega))))
        replace c_x7_0_1 := x11.keep (by repeat (first | exact c_x7_0_1 | apply keep_alloc | (apply keep_set; rotate_left; first | (simp; done) | (simp; omega))))
        have lc_x11_0 : xv.val.heap.size < x11.val.heap.size := by omega
        have mc_x11_0 : xv.val.heap.size < x11.val.heap.size + 1 := by omega
        have lc_x11_1 : x6.val.heap.size < x11.val.heap.size := by omega
        have mc_x11_1 : x6.val.heap.size < x11.val.heap.size + 1 := by omega
        have l_x11_0 : x10.val.heap.size < x11.val.heap.size := by omega
        have m_x11_0 : x10.val.heap.size < x11.val.heap.size + 1 := by omega
        have q_ := x11.bel.cell (p := ⟨x10.val.heap.size, 0, none⟩) (by first | omega | (simp; done) | (simp; omega))
        generalize c_x11_0_0 : x11.val.cell? ⟨x10.val.heap.size, 0, none⟩ = q at q_
        first | (have q2_ : q = some _ := q_; subst q2_) | (simp [go_sem] at q_; have q2_ : q = some _ := q_; subst q2_) | (simp [go_sem, *] at q_; have q2_ : q = some _ := q_; subst q2_)
        have q_ := x11.bel.frozen (p := ⟨x10.val.heap.size, 0, none⟩) (by first | omega | (simp; done) | (simp; omega))
        generalize z_x11_0_0 : x11.val.frozen? ⟨x10.val.heap.size, 0, none⟩ = q at q_
        first | (have q2_ : q = false := q_; subst q2_) | (simp [go_sem] at q_; have q2_ : q = false := q_; subst q2_) | (simp [go_sem, *] at q_; have q2_ : q = false := q_; subst q2_)
        have q_ := x11.bel.cell (p := ⟨x10.val.heap.size, 1, none⟩) (by first | omega | (simp; done) | (simp; omega))
        generalize c_x11_0_1 : x11.val.cell? ⟨x10.val.heap.size, 1, none⟩ = q at q_
        first | (have q2_ : q = some _ := q_; subst q2_) | (simp [go_sem] at q_; have q2_ : q = some _ := q_; subst q2_) | (simp [go_sem, *] at q_; have q2_ : q = some _ := q_; subst q2_)
        have q_ := x11.bel.frozen (p := ⟨x10.val.heap.size, 1, none⟩) (by first | omega | (simp; done) | (simp; omega))
        generalize z_x11_0_1 : x11.val.frozen? ⟨x10.val.heap.size, 1, none⟩ = q at q_
        first | (have q2_ : q = false := q_; subst q2_) | (simp [go_sem] at q_; have q2_ : q = false := q_; subst q2_) | (simp [go_sem, *] at q_; have q2_ : q = false := q_; subst q2_)
        cases hcn : decide (0 < cn)
        · go_wp2_with fail
          with_reducible refine (W2.out _).mono ?_
          rintro e_x12 w_x12 ⟨rfl, hb_x12⟩
          obtain ⟨x12, rfl⟩ := later_is hb_x12
          clear hb_x12
          have hz_x12 := x12.bel.size
          try simp at hz_x12
          replace c_x5_0_0 := x12.keep (by repeat (first | exact c_x5_0_0 | apply keep_alloc | (apply keep_set; rotate_left; first | (simp; done) | (simp; omega))))
          replace c_x5_0_1 := x12.keep (by repeat (first | exact c_x5_0_1 | apply keep_alloc | (apply keep_set; rotate_left; first | (simp; done) | (simp; omega))))
          replace c_x5_0_2 := x12.keep (by repeat (first | exact c_x5_0_2 | apply keep_alloc | (apply keep_set; rotate_left; first | (simp; done) | (simp; omega))))
          replace c_x5_0_3 := x12.keep (by repeat (first | exact c_x5_0_3 | apply keep_alloc | (apply keep_set; rotate_left; first | (simp; done) | (simp; omega))))
          replace c_x5_0_4 := x12.keep (by repeat (first | exact c_x5_0_4 | apply keep_alloc | (apply keep_set; rotate_left; first | (simp; done) | (simp; omega))))
          replace c_x5_0_5 := x12.keep (by repeat (first | exact c_x5_0_5 | apply keep_alloc | (apply keep_set; rotate_left; first | (simp; done) | (simp; omega))))
          replace c_x5_0_6 := x12.keep (by repeat (first | exact c_x5_0_6 | apply keep_alloc | (apply keep_set; rotate_left; first | (simp; done) | (simp; omega))))
          replace c_x5_0_7 := x12.keep (by repeat (first | exact c_x5_0_7 | apply keep_alloc | (apply keep_set; rotate_left; first | (simp; done) | (simp; omega))))
          replace c_x5_0_8 := x12.keep (by repeat (first | exact c_x5_0_8 | apply keep_alloc | (apply keep_set; rotate_left; first | (simp; done) | (simp; omega))))
          replace c_x7_0_0 := x12.keep (by repeat (first | exact c_x7_0_0 | apply keep_alloc | (apply keep_set; rotate_left; first | (simp; done) | (simp; omega))))
          replace c_x7_0_1 := x12.keep (by repeat (first | exact c_x7_0_1 | apply keep_alloc | (apply keep_set; rotate_left; first | (simp; done) | (simp; omega))))
          have lc_x12_0 : xv.val.heap.size < x12.val.heap.size := by omega
          have mc_x12_0 : xv.val.heap.size < x12.val.heap.size + 1 := by omega
          have lc_x12_1 : x6.val.heap.size < x12.val.heap.size := by omega
          have mc_x12_1 : x6.val.heap.size < x12.val.heap.size + 1 := by omega
          go_wp2_with fail
          with_reducible refine (C3.out _).mono ?_
          rintro e_x13 w_x13 ⟨rfl, hb_x13⟩
          obtain ⟨x13, rfl⟩ := later_is hb_x13
          clear hb_x13
          have hz_x13 := x13.bel.size
          try simp at hz_x13
          replace c_x5_0_0 := x13.keep (by repeat (first | exact c_x5_0_0 | apply keep_alloc | (apply keep_set; rotate_left; first | (simp; done) | (simp; omega))))
          replace c_x5_0_1 := x13.keep (by repeat (first | exact c_x5_0_1 | apply keep_alloc | (apply keep_set; rotate_left; first | (simp; done) | (simp; omega))))
          replace c_x5_0_2 := x13.keep (by repeat (first | exact c_x5_0_2 | apply keep_alloc | (apply keep_set; rotate_left; first | (simp; done) | (simp; omega))))
          replace c_x5_0_3 := x13.keep (by repeat (first | exact c_x5_0_3 | apply keep_alloc | (apply keep_set; rotate_left; first | (simp; done) | (simp; omega))))
          replace c_x5_0_4 := x13.keep (by repeat (first | exact c_x5_0_4 | apply keep_alloc | (apply keep_set; rotate_left; first | (simp; done) | (simp; omega))))
          replace c_x5_0_5 := x13.keep (by repeat (first | exact c_x5_0_5 | apply keep_alloc | (apply keep_set; rotate_left; first | (simp; done) | (simp; omega))))
          replace c_x5_0_6 := x13.keep (by repeat (first | exact c_x5_0_6 | apply keep_alloc | (apply keep_set; rotate_left; first | (simp; done) | (simp; omega))))
          replace c_x5_0_7 := x13.keep (by repeat (first | exact c_x5_0_7 | apply keep_alloc | (apply keep_set; rotate_left; first | (simp; done) | (simp; omega))))
          replace c_x5_0_8 := x13.keep (by repeat (first | exact c_x5_0_8 | apply keep_alloc | (apply keep_set; rotate_left; first | (simp; done) | (simp; omega))))
          replace c_x7_0_0 := x13.keep (by repeat (first | exact c_x7_0_0 | apply keep_alloc | (apply keep_set; rotate_left; first | (simp; done) | (simp; omega))))
          replace c_x7_0_1 := x13.keep (by repeat (first | exact c_x7_0_1 | apply keep_alloc | (apply keep_set; rotate_left; first | (simp; done) | (simp; omega))))
          have lc_x13_0 : xv.val.heap.size < x13.val.heap.size := by omega
          have mc_x13_0 : xv.val.heap.size < x13.val.heap.size + 1 := by omega
          have lc_x13_1 : x6.val.heap.size < x13.val.heap.size := by omega
          have mc_x13_1 : x6.val.heap.size < x13.val.heap.size + 1 := by omega
          have l_x13_0 : x12.val.heap.size < x13.val.heap.size := by omega
          have m_x13_0 : x12.val.heap.size < x13.val.heap.size + 1 := by omega
          have q_ := x13.bel.cell (p := ⟨x12.val.heap.size, 0, none⟩) (by first | omega | (simp; done) | (simp; omega))
          generalize c_x13_0_0 : x13.val.cell? ⟨x12.val.heap.size, 0, none⟩ = q at q_
          first | (have q2_ : q = some _ := q_; subst q2_) | (simp [go_sem] at q_; have q2_ : q = some _ := q_; subst q2_) | (simp [go_sem, *] at q_; have q2_ : q = some _ := q_; subst q2_)
          have q_ := x13.bel.frozen (p := ⟨x12.val.heap.size, 0, none⟩) (by first | omega | (simp; done) | (simp; omega))
          generalize z_x13_0_0 : x13.val.frozen? ⟨x12.val.heap.size, 0, none⟩ = q at q_
          first | (have q2_ : q = false := q_; subst q2_) | (simp [go_sem] at q_; have q2_ : q = false := q_; subst q2_) | (simp [go_sem, *] at q_; have q2_ : q = false := q_; subst q2_)
          have q_ := x13.bel.cell (p := ⟨x12.val.heap.size, 1, none⟩) (by first | omega | (simp; done) | (simp; omega))
          generalize c_x13_0_1 : x13.val.cell? ⟨x12.val.heap.size, 1, none⟩ = q at q_
          first | (have q2_ : q = some _ := q_; subst q2_) | (simp [go_sem] at q_; have q2_ : q = some _ := q_; subst q2_) | (simp [go_sem, *] at q_; have q2_ : q = some _ := q_; subst q2_)
          have q_ := x13.bel.frozen (p := ⟨x12.val.heap.size, 1, none⟩) (by first | omega | (simp; done) | (simp; omega))
          generalize z_x13_0_1 : x13.val.frozen? ⟨x12.val.heap.size, 1, none⟩ = q at q_
          first | (have q2_ : q = false := q_; subst q2_) | (simp [go_sem] at q_; have q2_ : q = false := q_; subst q2_) | (simp [go_sem, *] at q_; have q2_ : q = false := q_; subst q2_)
          have bx : Below xv.val.heap.size xv.val x13.val := (by repeat (first | with_reducible exact Below.refl _ _ | with_reducible refine bel_later _ ?_ | with_reducible refine bel_alloc ?_ _ | refine bel_set ?_ (by first | omega | (simp; done) | (simp; omega)) _ | with_reducible refine Below.drew ?_ | with_reducible refine bel_drewN ?_ _ | with_reducible assumption | assumption))
          have bfin := hbv.trans (bx.mono (show w.heap.size + 1 ≤ xv.val.heap.size by omega))
          go_wp2
          go_roundw
          case rel => exact ⟨k + 1, by omega, by go_num, bfin⟩
          case measure => simp [RowKit.intOf]; omega
        cases hc2 : decide (c2 ≤ 0)
        · go_wp2_with fail
          with_reducible refine (W2.out _).mono ?_
          rintro e_x12 w_x12 ⟨rfl, hb_x12⟩
          obtain ⟨x12, rfl⟩ := later_is hb_x12
          clear hb_x12
          have hz_x12 := x12.bel.size
          try simp at hz_x12
          replace c_x5_0_0 := x12.keep (by repeat (first | exact c_x5_0_0 | apply keep_alloc | (apply keep_set; rotate_left; first | (simp; done) | (simp; omega))))
          replace c_x5_0_1 := x12.keep (by repeat (first | exact c_x5_0_1 | apply keep_alloc | (apply keep_set; rotate_left; first | (simp; done) | (simp; omega))))
          replace c_x5_0_2 := x12.keep (by repeat (first | exact c_x5_0_2 | apply keep_alloc | (apply keep_set; rotate_left; first | (simp; done) | (simp; omega))))
          replace c_x5_0_3 := x12.keep (by repeat (first | exact c_x5_0_3 | apply keep_alloc | (apply keep_set; rotate_left; first | (simp; done) | (simp; omega))))
          replace c_x5_0_4 := x12.keep (by repeat (first | exact c_x5_0_4 | apply keep_alloc | (apply keep_set; rotate_left; first | (simp; done) | (simp; omega))))
          replace c_x5_0_5 := x12.keep (by repeat (first | exact c_x5_0_5 | apply keep_alloc | (apply keep_set; rotate_left; first | (simp; done) | (simp; omega))))
          replace c_x5_0_6 := x12.keep (by repeat (first | exact c_x5_0_6 | apply keep_alloc | (apply keep_set; rotate_left; first | (simp; done) | (simp; omega))))
          replace c_x5_0_7 := x12.keep (by repeat (first | exact c_x5_0_7 | apply keep_alloc | (apply keep_set; rotate_left; first | (simp; done) | (simp; omega))))
          replace c_x5_0_8 := x12.keep (by repeat (first | exact c_x5_0_8 | apply keep_alloc | (apply keep_set; rotate_left; first | (simp; done) | (simp; omega))))
          replace c_x7_0_0 := x12.keep (by repeat (first | exact c_x7_0_0 | apply keep_alloc | (apply keep_set; rotate_left; first | (simp; done) | (simp; omega))))
          replace c_x7_0_1 := x12.keep (by repeat (first | exact c_x7_0_1 | apply keep_alloc | (apply keep_set; rotate_left; first | (simp; done) | (simp; omega))))
          have lc_x12_0 : xv.val.heap.size < x12.val.heap.size := by omega
          have mc_x12_0 : xv.val.heap.size < x12.val.heap.size + 1 := by omega
          have lc_x12_1 : x6.val.heap.size < x12.val.heap.size := by omega
          have mc_x12_1 : x6.val.heap.size < x12.val.heap.size + 1 := by omega
          go_wp2_with fail
          with_reducible refine (C3.out _).mono ?_
          rintro e_x13 w_x13 ⟨rfl, hb_x13⟩
          obtain ⟨x13, rfl⟩ := later_is hb_x13
          clear hb_x13
          have hz_x13 := x13.bel.size
          try simp at hz_x13
          replace c_x5_0_0 := x13.keep (by repeat (first | exact c_x5_0_0 | apply keep_alloc | (apply keep_set; rotate_left; first | (simp; done) | (simp; omega))))
          replace c_x5_0_1 := x13.keep (by repeat (first | exact c_x5_0_1 | apply keep_alloc | (apply keep_set; rotate_left; first | (simp; done) | (simp; omega))))
          replace c_x5_0_2 := x13.keep (by repeat (first | exact c_x5_0_2 | apply keep_alloc | (apply keep_set; rotate_left; first | (simp; done) | (simp; omega))))
          replace c_x5_0_3 := x13.keep (by repeat (first | exact c_x5_0_3 | apply keep_alloc | (apply keep_set; rotate_left; first | (simp; done) | (simp; omega))))
          replace c_x5_0_4 := x13.keep (by repeat (first | exact c_x5_0_4 | apply keep_alloc | (apply keep_set; rotate_left; first | (simp; done) | (simp; omega))))
          replace c_x5_0_5 := x13.keep (by repeat (first | exact c_x5_0_5 | apply keep_alloc | (apply keep_set; rotate_left; first | (simp; done) | (simp; omega))))
          replace c_x5_0_6 := x13.keep (by repeat (first | exact c_x5_0_6 | apply keep_alloc | (apply keep_set; rotate_left; first | (simp; done) | (simp; omega))))
          replace c_x5_0_7 := x13.keep (by repeat (first | exact c_x5_0_7 | apply keep_alloc | (apply keep_set; rotate_left; first | (simp; done) | (simp; omega))))
          replace c_x5_0_8 := x13.keep (by repeat (first | exact c_x5_0_8 | apply keep_alloc | (apply keep_set; rotate_left; first | (simp; done) | (simp; omega))))
          replace c_x7_0_0 := x13.keep (by repeat (first | exact c_x7_0_0 | apply keep_alloc | (apply keep_set; rotate_left; first | (simp; done) | (simp; omega))))
          replace c_x7_0_1 := x13.keep (by repeat (first | exact c_x7_0_1 | apply keep_alloc | (apply keep_set; rotate_left; first | (simp; done) | (simp; omega))))
          have lc_x13_0 : xv.val.heap.size < x13.val.heap.size := by omega
          have mc_x13_0 : xv.val.heap.size < x13.val.heap.size + 1 := by omega
          have lc_x13_1 : x6.val.heap.size < x13.val.heap.size := by omega
          have mc_x13_1 : x6.val.heap.size < x13.val.heap.size + 1 := by omega
          have l_x13_0 : x12.val.heap.size < x13.val.heap.size := by omega
          have m_x13_0 : x12.val.heap.size < x13.val.heap.size + 1 := by omega
          have q_ := x13.bel.cell (p := ⟨x12.val.heap.size, 0, none⟩) (by first | omega | (simp; done) | (simp; omega))
          generalize c_x13_0_0 : x13.val.cell? ⟨x12.val.heap.size, 0, none⟩ = q at q_
          first | (have q2_ : q = some _ := q_; subst q2_) | (simp [go_sem] at q_; have q2_ : q = some _ := q_; subst q2_) | (simp [go_sem, *] at q_; have q2_ : q = some _ := q_; subst q2_)
          have q_ := x13.bel.frozen (p := ⟨x12.val.heap.size, 0, none⟩) (by first | omega | (simp; done) | (simp; omega))
          generalize z_x13_0_0 : x13.val.frozen? ⟨x12.val.heap.size, 0, none⟩ = q at q_
          first | (have q2_ : q = false := q_; subst q2_) | (simp [go_sem] at q_; have q2_ : q = false := q_; subst q2_) | (simp [go_sem, *] at q_; have q2_ : q = false := q_; subst q2_)
          have q_ := x13.bel.cell (p := ⟨x12.val.heap.size, 1, none⟩) (by first | omega | (simp; done) | (simp; omega))
          generalize c_x13_0_1 : x13.val.cell? ⟨x12.val.heap.size, 1, none⟩ = q at q_
          first | (have q2_ : q = some _ := q_; subst q2_) | (simp [go_sem] at q_; have q2_ : q = some _ := q_; subst q2_) | (simp [go_sem, *] at q_; have q2_ : q = some _ := q_; subst q2_)
          have q_ := x13.bel.frozen (p := ⟨x12.val.heap.size, 1, none⟩) (by first | omega | (simp; done) | (simp; omega))
          generalize z_x13_0_1 : x13.val.frozen? ⟨x12.val.heap.size, 1, none⟩ = q at q_
          first | (have q2_ : q = false := q_; subst q2_) | (simp [go_sem] at q_; have q2_ : q = false := q_; subst q2_) | (simp [go_sem, *] at q_; have q2_ : q = false := q_; subst q2_)
          go_wp2_with fail
          with_reducible refine (C4.out _).mono ?_
          rintro e_x14 w_x14 ⟨rfl, hb_x14⟩
          obtain ⟨x14, rfl⟩ := later_is hb_x14
          clear hb_x14
          have hz_x14 := x14.bel.size
          try simp at hz_x14
          replace c_x5_0_0 := x14.keep (by repeat (first | exact c_x5_0_0 | apply keep_alloc | (apply keep_set; rotate_left; first | (simp; done) | (simp; omega))))
          replace c_x5_0_1 := x14.keep (by repeat (first | exact c_x5_0_1 | apply keep_alloc | (apply keep_set; rotate_left; first | (simp; done) | (simp; omega))))
          replace c_x5_0_2 := x14.keep (by repeat (first | exact c_x5_0_2 | apply keep_alloc | (apply keep_set; rotate_left; first | (simp; done) | (simp; omega))))
          replace c_x5_0_3 := x14.keep (by repeat (first | exact c_x5_0_3 | apply keep_alloc | (apply keep_set; rotate_left; first | (simp; done) | (simp; omega))))
          replace c_x5_0_4 := x14.keep (by repeat (first | exact c_x5_0_4 | apply keep_alloc | (apply keep_set; rotate_left; first | (simp; done) | (simp; omega))))
          replace c_x5_0_5 := x14.keep (by repeat (first | exact c_x5_0_5 | apply keep_alloc | (apply keep_set; rotate_left; first | (simp; done) | (simp; omega))))
          replace c_x5_0_6 := x14.keep (by repeat (first | exact c_x5_0_6 | apply keep_alloc | (apply keep_set; rotate_left; first | (simp; done) | (simp; omega))))
          replace c_x5_0_7 := x14.keep (by repeat (first | exact c_x5_0_7 | apply keep_alloc | (apply keep_set; rotate_left; first | (simp; done) | (simp; omega))))
          replace c_x5_0_8 := x14.keep (by repeat (first | exact c_x5_0_8 | apply keep_alloc | (apply keep_set; rotate_left; first | (simp; done) | (simp; omega))))
          replace c_x13_0_0 := x14.keep (by repeat (first | exact c_x13_0_0 | apply keep_alloc | (apply keep_set; rotate_left; first | (simp; done) | (simp; omega))))
          replace c_x13_0_1 := x14.keep (by repeat (first | exact c_x13_0_1 | apply keep_alloc | (apply keep_set; rotate_left; first | (simp; done) | (simp; omega))))
          have lc_x14_0 : xv.val.heap.size < x14.val.heap.size := by omega
          have mc_x14_0 : xv.val.heap.size < x14.val.heap.size + 1 := by omega
          have lc_x14_1 : x12.val.heap.size < x14.val.heap.size := by omega
          have mc_x14_1 : x12.val.heap.size < x14.val.heap.size + 1 := by omega
          have bx : Below xv.val.heap.size xv.val x14.val := (by repeat (first | with_reducible exact Below.refl _ _ | with_reducible refine bel_later _ ?_ | with_reducible refine bel_alloc ?_ _ | refine bel_set ?_ (by first | omega | (simp; done) | (simp; omega)) _ | with_reducible refine Below.drew ?_ | with_reducible refine bel_drewN ?_ _ | with_reducible assumption | assumption))
          have bfin := hbv.trans (bx.mono (show w.heap.size + 1 ≤ xv.val.heap.size by omega))
          go_wp2
          go_roundw
          case rel => exact ⟨k + 1, by omega, by go_num, bfin⟩
          case measure => simp [RowKit.intOf]; omega
        replace V3 := Lib.hid (V3.out (of_decide_eq_true hcn) (by have := of_decide_eq_true hc2; omega))
        go_wp2_with fail
        with_reducible refine (W2.out _).mono ?_
        rintro e_x12 w_x12 ⟨rfl, hb_x12⟩
        obtain ⟨x12, rfl⟩ := later_is hb_x12
        clear hb_x12
        have hz_x12 := x12.bel.size
        try simp at hz_x12
        replace c_x5_0_0 := x12.keep (by repeat (first | exact c_x5_0_0 | apply keep_alloc | (apply keep_set; rotate_left; first | (simp; done) | (simp; omega))))
        replace c_x5_0_1 := x12.keep (by repeat (first | exact c_x5_0_1 | apply keep_alloc | (apply keep_set; rotate_left; first | (simp; done) | (simp; omega))))
        replace c_x5_0_2 := x12.keep (by repeat (first | exact c_x5_0_2 | apply keep_alloc | (apply keep_set; rotate_left; first | (simp; done) | (simp; omega))))
        replace c_x5_0_3 := x12.keep (by repeat (first | exact c_x5_0_3 | apply keep_alloc | (apply keep_set; rotate_left; first | (simp; done) | (simp; omega))))
        replace c_x5_0_4 := x12.keep (by repeat (first | exact c_x5_0_4 | apply keep_alloc | (apply keep_set; rotate_left; first | (simp; done) | (simp; omega))))
        replace c_x5_0_5 := x12.keep (by repeat (first | exact c_x5_0_5 | apply keep_alloc | (apply keep_set; rotate_left; first | (simp; done) | (simp; omega))))
        replace c_x5_0_6 := x12.keep (by repeat (first | exact c_x5_0_6 | apply keep_alloc | (apply keep_set; rotate_left; first | (simp; done) | (simp; omega))))
        replace c_x5_0_7 := x12.keep (by repeat (first | exact c_x5_0_7 | apply keep_alloc | (apply keep_set; rotate_left; first | (simp; done) | (simp; omega))))
        replace c_x5_0_8 := x12.keep (by repeat (first | exact c_x5_0_8 | apply keep_alloc | (apply keep_set; rotate_left; first | (simp; done) | (simp; omega))))
        replace c_x7_0_0 := x12.keep (by repeat (first | exact c_x7_0_0 | apply keep_alloc | (apply keep_set; rotate_left; first | (simp; done) | (simp; omega))))
        replace c_x7_0_1 := x12.keep (by repeat (first | exact c_x7_0_1 | apply keep_alloc | (apply keep_set; rotate_left; first | (simp; done) | (simp; omega))))
        have lc_x12_0 : xv.val.heap.size < x12.val.heap.size := by omega
        have mc_x12_0 : xv.val.heap.size < x12.val.heap.size + 1 := by omega
        have lc_x12_1 : x6.val.heap.size < x12.val.heap.size := by omega
        have mc_x12_1 : x6.val.heap.size < x12.val.heap.size + 1 := by omega
        go_wp2_with fail
        with_reducible refine (C3.out _).mono ?_
        rintro e_x13 w_x13 ⟨rfl, hb_x13⟩
        obtain ⟨x13, rfl⟩ := later_is hb_x13
        clear hb_x13
        have hz_x13 := x13.bel.size
        try simp at hz_x13
        replace c_x5_0_0 := x13.keep (by repeat (first | exact c_x5_0_0 | apply keep_alloc | (apply keep_set; rotate_left; first | (simp; done) | (simp; omega))))
        replace c_x5_0_1 := x13.keep (by repeat (first | exact c_x5_0_1 | apply keep_alloc | (apply keep_set; rotate_left; first | (simp; done) | (simp; omega))))
        replace c_x5_0_2 := x13.keep (by repeat (first | exact c_x5_0_2 | apply keep_alloc | (apply keep_set; rotate_left; first | (simp; done) | (simp; omega))))
        replace c_x5_0_3 := x13.keep (by repeat (first | exact c_x5_0_3 | apply keep_alloc | (apply keep_set; rotate_left; first | (simp; done) | (simp; omega))))
        replace c_x5_0_4 := x13.keep (by repeat (first | exact c_x5_0_4 | apply keep_alloc | (apply keep_set; rotate_left; first | (simp; done) | (simp; omega))))
        replace c_x5_0_5 := x13.keep (by repeat (first | exact c_x5_0_5 | apply keep_alloc | (apply keep_set; rotate_left; first | (simp; done) | (simp; omega))))
        replace c_x5_0_6 := x13.keep (by repeat (first | exact c_x5_0_6 | apply keep_alloc | (apply keep_set; rotate_left; first | (simp; done) | (simp; omega))))
        replace c_x5_0_7 := x13.keep (by repeat (first | exact c_x5_0_7 | apply keep_alloc | (apply keep_set; rotate_left; first | (simp; done) | (simp; omega))))
        replace c_x5_0_8 := x13.keep (by repeat (first | exact c_x5_0_8 | apply keep_alloc | (apply keep_set; rotate_left; first | (simp; done) | (simp; omega))))
        replace c_x7_0_0 := x13.keep (by repeat (first | exact c_x7_0_0 | apply keep_alloc | (apply keep_set; rotate_left; first | (simp; done) | (simp; omega))))
        replace c_x7_0_1 := x13.keep (by repeat (first | exact c_x7_0_1 | apply keep_alloc | (apply keep_set; rotate_left; first | (simp; done) | (simp; omega))))
        have lc_x13_0 : xv.val.heap.size < x13.val.heap.size := by omega
        have mc_x13_0 : xv.val.heap.size < x13.val.heap.size + 1 := by omega
        have lc_x13_1 : x6.val.heap.size < x13.val.heap.size := by omega
        have mc_x13_1 : x6.val.heap.size < x13.val.heap.size + 1 := by omega
        have l_x13_0 : x12.val.heap.size < x13.val.heap.size := by omega
        have m_x13_0 : x12.val.heap.size < x13.val.heap.size + 1 := by omega
        have q_ := x13.bel.cell (p := ⟨x12.val.heap.size, 0, none⟩) (by first | omega | (simp; done) | (simp; omega))
        generalize c_x13_0_0 : x13.val.cell? ⟨x12.val.heap.size, 0, none⟩ = q at q_
        first | (have q2_ : q = some _ := q_; subst q2_) | (simp [go_sem] at q_; have q2_ : q = some _ := q_; subst q2_) | (simp [go_sem, *] at q_; have q2_ : q = some _ := q_; subst q2_)
        have q_ := x13.bel.frozen (p := ⟨x12.val.heap.size, 0, none⟩) (by first | omega | (simp; done) | (simp; omega))
        generalize z_x13_0_0 : x13.val.frozen? ⟨x12.val.heap.size, 0, none⟩ = q at q_
        first | (have q2_ : q = false := q_; subst q2_) | (simp [go_sem] at q_; have q2_ : q = false := q_; subst q2_) | (simp [go_sem, *] at q_; have q2_ : q = false := q_; subst q2_)
        have q_ := x13.bel.cell (p := ⟨x12.val.heap.size, 1, none⟩) (by first | omega | (simp; done) | (simp; omega))
        generalize c_x13_0_1 : x13.val.cell? ⟨x12.val.heap.size, 1, none⟩ = q at q_
        first | (have q2_ : q = some _ := q_; subst q2_) | (simp [go_sem] at q_; have q2_ : q = some _ := q_; subst q2_) | (simp [go_sem, *] at q_; have q2_ : q = some _ := q_; subst q2_)
        have q_ := x13.bel.frozen (p := ⟨x12.val.heap.size, 1, none⟩) (by first | omega | (simp; done) | (simp; omega))
        generalize z_x13_0_1 : x13.val.frozen? ⟨x12.val.heap.size, 1, none⟩ = q at q_
        first | (have q2_ : q = false := q_; subst q2_) | (simp [go_sem] at q_; have q2_ : q = false := q_; subst q2_) | (simp [go_sem, *] at q_; have q2_ : q = false := q_; subst q2_)
        go_wp2_with fail
        with_reducible refine (C4.out _).mono ?_
        rintro e_x14 w_x14 ⟨rfl, hb_x14⟩
        obtain ⟨x14, rfl⟩ := later_is hb_x14
        clear hb_x14
        have hz_x14 := x14.bel.size
        try simp at hz_x14
        replace c_x5_0_0 := x14.keep (by repeat (first | exact c_x5_0_0 | apply keep_alloc | (apply keep_set; rotate_left; first | (simp; done) | (simp; omega))))
        replace c_x5_0_1 := x14.keep (by repeat (first | exact c_x5_0_1 | apply keep_alloc | (apply keep_set; rotate_left; first | (simp; done) | (simp; omega))))
        replace c_x5_0_2 := x14.keep (by repeat (first | exact c_x5_0_2 | apply keep_alloc | (apply keep_set; rotate_left; first | (simp; done) | (simp; omega))))
        replace c_x5_0_3 := x14.keep (by repeat (first | exact c_x5_0_3 | apply keep_alloc | (apply keep_set; rotate_left; first | (simp; done) | (simp; omega))))
        replace c_x5_0_4 := x14.keep (by repeat (first | exact c_x5_0_4 | apply keep_alloc | (apply keep_set; rotate_left; first | (simp; done) | (simp; omega))))
        replace c_x5_0_5 := x14.keep (by repeat (first | exact c_x5_0_5 | apply keep_alloc | (apply keep_set; rotate_left; first | (simp; done) | (simp; omega))))
        replace c_x5_0_6 := x14.keep (by repeat (first | exact c_x5_0_6 | apply keep_alloc | (apply keep_set; rotate_left; first | (simp; done) | (simp; omega))))
        replace c_x5_0_7 := x14.keep (by repeat (first | exact c_x5_0_7 | apply keep_alloc | (apply keep_set; rotate_left; first | (simp; done) | (simp; omega))))
        replace c_x5_0_8 := x14.keep (by repeat (first | exact c_x5_0_8 | apply keep_alloc | (apply keep_set; rotate_left; first | (simp; done) | (simp; omega))))
        replace c_x13_0_0 := x14.keep (by repeat (first | exact c_x13_0_0 | apply keep_alloc | (apply keep_set; rotate_left; first | (simp; done) | (simp; omega))))
        replace c_x13_0_1 := x14.keep (by repeat (first | exact c_x13_0_1 | apply keep_alloc | (apply keep_set; rotate_left; first | (simp; done) | (simp; omega))))
        have lc_x14_0 : xv.val.heap.size < x14.val.heap.size := by omega
        have mc_x14_0 : xv.val.heap.size < x14.val.heap.size + 1 := by omega
        have lc_x14_1 : x12.val.heap.size < x14.val.heap.size := by omega
        have mc_x14_1 : x12.val.heap.size < x14.val.heap.size + 1 := by omega
        go_wp2_with fail
        with_reducible refine (V3.out _).mono ?_
        rintro e_x15 w_x15 ⟨rfl, hb_x15⟩
        obtain ⟨x15, rfl⟩ := later_is hb_x15
        clear hb_x15
        have hz_x15 := x15.bel.size
        try simp at hz_x15
        have bx : Below xv.val.heap.size xv.val x15.val := (by repeat (first | with_reducible exact Below.refl _ _ | with_reducible refine bel_later _ ?_ | with_reducible refine bel_alloc ?_ _ | refine bel_set ?_ (by first | omega | (simp; done) | (simp; omega)) _ | with_reducible refine Below.drew ?_ | with_reducible refine bel_drewN ?_ _ | with_reducible assumption | assumption))
        have bfin := hbv.trans (bx.mono (show w.heap.size + 1 ≤ xv.val.heap.size by omega))
        go_wp2
        go_roundw
        case rel => exact ⟨k + 1, by omega, by go_num, bfin⟩
        case measure => simp [RowKit.intOf]; omega
end Go.Proofs.Ythhokpaidekmnaa
