/- Layer 15, the document's answer: Check. -/
import Derived.Test.YthhokpaidekmnaaVdChk
import Derived.Test.YthhokpaidekmnaaVrRcp
import Derived.Test.YthhokpaidekmnaaVrFind
import Derived.Test.YthhokpaidekmnaaVrTab
namespace Go.Proofs.Ythhokpaidekmnaa
open Go.RowKit
set_option linter.unusedVariables false
set_option linter.unusedSimpArgs false
set_option maxRecDepth 100000
attribute [local go_sem] Later.cell Later.frozen setCell_twice
theorem tab_pt {t : List Dv} (h : Vd.rightTab t = true) {d : Dv} (hd : d ∈ t) {p : Pt} (hp : p ∈ d.pts) : Vd.rightD p.low = true ∧ Vd.rightD p.high = true ∧ 0 ≤ p.digits := by
 unfold Vd.rightTab at h
 simp only [Bool.and_eq_true, List.all_eq_true] at h
 have h1 := (rightDv_out (h.2.1 d hd)).2.2.1
 rw [List.all_eq_true] at h1
 have h2 := h1 p hp
 unfold Vd.rightPt at h2
 simp only [Bool.and_eq_true, decide_eq_true_iff] at h2
 exact ⟨h2.1.1.1.2, h2.1.1.2, h2.1.1.1.1.2.2.2.1⟩
/-- what was met, the last first -/
def metL {α : Type} (f : α → ByteArray) (l : List α) (j : Nat) : List ByteArray := ((l.take j).map f).reverse
theorem metL_step {α : Type} {f : α → ByteArray} {l : List α} {j : Nat} {c : α} (hc : l[j]? = some c) : metL f l (j + 1) = f c :: metL f l j := by
 unfold metL
 rw [List.take_add_one, hc]
 simp
theorem metL_zero {α : Type} {f : α → ByteArray} {l : List α} : metL f l 0 = [] := rfl
theorem hasK_cons {K : List ByteArray} {a s : ByteArray} : hasK (a :: K) s = (decide (a = s) || hasK K s) := rfl
/-- the place found, or -1 if the name was met -/
def metF {α : Type} (f : α → ByteArray) (l : List α) (z : Nat) (s : ByteArray) (fx : Int) : Int := if hasK (metL f l z) s = true then -1 else fx
theorem metF_zero {α : Type} {f : α → ByteArray} {l : List α} {s : ByteArray} {fx : Int} : metF f l 0 s fx = fx := rfl
theorem metF_hit {α : Type} {f : α → ByteArray} {l : List α} {z : Nat} {c : α} {s : ByteArray} {fx : Int} (hc : l[z]? = some c) (h : f c = s) : metF f l (z + 1) s fx = -1 := by
 unfold metF
 rw [metL_step hc, hasK_cons, decide_eq_true h, Bool.true_or, if_pos rfl]
theorem metF_miss {α : Type} {f : α → ByteArray} {l : List α} {z : Nat} {c : α} {s : ByteArray} {fx : Int} (hc : l[z]? = some c) (h : f c ≠ s) : metF f l (z + 1) s fx = metF f l z s fx := by
 unfold metF
 rw [metL_step hc, hasK_cons, decide_eq_false h, Bool.false_or]
theorem atI_int (o : Option Nat) : ∃ x : Int, atI o = .int .i64 x ∧ ((o = none ∧ x = -1) ∨ ∃ i : Nat, o = some i ∧ x = (i : Int)) := by
 cases o with
 | none => exact ⟨-1, rfl, .inl ⟨rfl, rfl⟩⟩
 | some i => exact ⟨(i : Int), rfl, .inr ⟨i, rfl, rfl⟩⟩
set_option maxHeartbeats 16000000 in
theorem rcheck_any (At : Option Addr) (t : List Dv) (nt ct : Nat) (nm : ByteArray) (A : Option Addr) (l : List Pa) (n c : Nat) (w : World) (hnt : t.length = nt) (ht : Tab w w.heap.size At t) (hst : Shp At nt ct)
  (hn : l.length = n) (h : Pas w w.heap.size A l) (hs : Shp A n c) (h64 : ∀ d ∈ t, d.pts.length ≤ 64) (hu8 : ∀ p ∈ l, ∀ st ∈ p.sets, st.unit.size ≤ 8192) :
  Calls Try.prog 13 #[.slice At nt ct, .agg #[.string nm, .slice A n c]] w fun e w' => e = .returned (faultV (Vd.check t nm l)) ∧ Below w.heap.size w w' := by
 have HN := Lib.hid hn
 have HH := Lib.hid h
 have HNT := Lib.hid hnt
 have HT := Lib.hid ht
 have hcap : n ≤ 9223372036854775807 := Nat.le_trans hs.le hs.cap
 have hcapt : nt ≤ 9223372036854775807 := Nat.le_trans hst.le hst.cap
 obtain ⟨⟨r1, r2⟩, hrv⟩ : ∃ rv, Vd.check t nm l = rv := ⟨_, rfl⟩
 rw [hrv]
 unfold Vd.check at hrv
 have RV := Lib.hid hrv
 have TR := Lib.hid (fun (x : World) (hx : Below w.heap.size w x) => rtab_any At t nt ct x hnt (ht.to hx) hst h64)
 have RR := Lib.hid (fun (x : World) (hx : Below w.heap.size w x) => rrcp_any nm A l n c x hn (h.to hx) hs hu8)
 have FD := Lib.hid (fun (s : ByteArray) (x : World) (hx : Below w.heap.size w x) => rfind_any s At t nt ct x hnt (ht.to hx) hst)
 clear hn h hs hnt ht hst hrv h64 hu8
 cases q1 : Vd.rightTab t
 ·rw [q1] at RV TR
  obtain ⟨rfl, rfl⟩ : 2 = r1 ∧ 0 = r2 := by simpa using RV.out
  clear RV q1
  go_enter Try.func13, Try.ntmps13
  go_wp2_with fail
  with_reducible refine (TR.out _ belo).mono ?_
  rintro e_x1 w_x1 ⟨rfl, hb_x1⟩
  obtain ⟨x1, rfl⟩ := later_is hb_x1
  clear hb_x1
  have hz_x1 := x1.bel.size
  try simp at hz_x1
  have l_x1_0 : w.heap.size < x1.val.heap.size := by omega
  have m_x1_0 : w.heap.size < x1.val.heap.size + 1 := by omega
  have q_ := x1.cq (w.heap.size) 0
  generalize c_x1_0_0 : x1.val.cell? ⟨w.heap.size, 0, none⟩ = q at q_
  first | (have q2_ : q = some _ := q_; subst q2_) | (simp [go_sem] at q_; have q2_ : q = some _ := q_; subst q2_) | (simp [go_sem, *] at q_; have q2_ : q = some _ := q_; subst q2_)
  have q_ := x1.zq (w.heap.size) 0
  generalize z_x1_0_0 : x1.val.frozen? ⟨w.heap.size, 0, none⟩ = q at q_
  first | (have q2_ : q = false := q_; subst q2_) | (simp [go_sem] at q_; have q2_ : q = false := q_; subst q2_) | (simp [go_sem, *] at q_; have q2_ : q = false := q_; subst q2_)
  have q_ := x1.cq (w.heap.size) 1
  generalize c_x1_0_1 : x1.val.cell? ⟨w.heap.size, 1, none⟩ = q at q_
  first | (have q2_ : q = some _ := q_; subst q2_) | (simp [go_sem] at q_; have q2_ : q = some _ := q_; subst q2_) | (simp [go_sem, *] at q_; have q2_ : q = some _ := q_; subst q2_)
  have q_ := x1.zq (w.heap.size) 1
  generalize z_x1_0_1 : x1.val.frozen? ⟨w.heap.size, 1, none⟩ = q at q_
  first | (have q2_ : q = false := q_; subst q2_) | (simp [go_sem] at q_; have q2_ : q = false := q_; subst q2_) | (simp [go_sem, *] at q_; have q2_ : q = false := q_; subst q2_)
  have l_x1_1 : (w.heap.size+1) < x1.val.heap.size := by omega
  have m_x1_1 : (w.heap.size+1) < x1.val.heap.size + 1 := by omega
  have q_ := x1.cq ((w.heap.size+1)) 0
  generalize c_x1_1_0 : x1.val.cell? ⟨(w.heap.size+1), 0, none⟩ = q at q_
  first | (have q2_ : q = some _ := q_; subst q2_) | (simp [go_sem] at q_; have q2_ : q = some _ := q_; subst q2_) | (simp [go_sem, *] at q_; have q2_ : q = some _ := q_; subst q2_)
  have q_ := x1.zq ((w.heap.size+1)) 0
  generalize z_x1_1_0 : x1.val.frozen? ⟨(w.heap.size+1), 0, none⟩ = q at q_
  first | (have q2_ : q = false := q_; subst q2_) | (simp [go_sem] at q_; have q2_ : q = false := q_; subst q2_) | (simp [go_sem, *] at q_; have q2_ : q = false := q_; subst q2_)
  have q_ := x1.cq ((w.heap.size+1)) 1
  generalize c_x1_1_1 : x1.val.cell? ⟨(w.heap.size+1), 1, none⟩ = q at q_
  first | (have q2_ : q = some _ := q_; subst q2_) | (simp [go_sem] at q_; have q2_ : q = some _ := q_; subst q2_) | (simp [go_sem, *] at q_; have q2_ : q = some _ := q_; subst q2_)
  have q_ := x1.zq ((w.heap.size+1)) 1
  generalize z_x1_1_1 : x1.val.frozen? ⟨(w.heap.size+1), 1, none⟩ = q at q_
  first | (have q2_ : q = false := q_; subst q2_) | (simp [go_sem] at q_; have q2_ : q = false := q_; subst q2_) | (simp [go_sem, *] at q_; have q2_ : q = false := q_; subst q2_)
  go_wp2
  refine bodyPost_ret (v := faultV (2, 0)) (by simp [results, Try.results13, go_sem, *]) rfl ⟨rfl, belo⟩
 have HQ1 := Lib.hid q1
 rw [q1] at RV TR
 clear q1
 cases q2 : Vd.rightR nm l
 ·rw [q2] at RV RR
  obtain ⟨rfl, rfl⟩ : 2 = r1 ∧ 0 = r2 := by simpa using RV.out
  clear RV q2
  go_enter Try.func13, Try.ntmps13
  go_wp2_with fail
  with_reducible refine (TR.out _ belo).mono ?_
  rintro e_x1 w_x1 ⟨rfl, hb_x1⟩
  obtain ⟨x1, rfl⟩ := later_is hb_x1
  clear hb_x1
  have hz_x1 := x1.bel.size
  try simp at hz_x1
  have l_x1_0 : w.heap.size < x1.val.heap.size := by omega
  have m_x1_0 : w.heap.size < x1.val.heap.size + 1 := by omega
  have q_ := x1.cq (w.heap.size) 0
  generalize c_x1_0_0 : x1.val.cell? ⟨w.heap.size, 0, none⟩ = q at q_
  first | (have q2_ : q = some _ := q_; subst q2_) | (simp [go_sem] at q_; have q2_ : q = some _ := q_; subst q2_) | (simp [go_sem, *] at q_; have q2_ : q = some _ := q_; subst q2_)
  have q_ := x1.zq (w.heap.size) 0
  generalize z_x1_0_0 : x1.val.frozen? ⟨w.heap.size, 0, none⟩ = q at q_
  first | (have q2_ : q = false := q_; subst q2_) | (simp [go_sem] at q_; have q2_ : q = false := q_; subst q2_) | (simp [go_sem, *] at q_; have q2_ : q = false := q_; subst q2_)
  have q_ := x1.cq (w.heap.size) 1
  generalize c_x1_0_1 : x1.val.cell? ⟨w.heap.size, 1, none⟩ = q at q_
  first | (have q2_ : q = some _ := q_; subst q2_) | (simp [go_sem] at q_; have q2_ : q = some _ := q_; subst q2_) | (simp [go_sem, *] at q_; have q2_ : q = some _ := q_; subst q2_)
  have q_ := x1.zq (w.heap.size) 1
  generalize z_x1_0_1 : x1.val.frozen? ⟨w.heap.size, 1, none⟩ = q at q_
  first | (have q2_ : q = false := q_; subst q2_) | (simp [go_sem] at q_; have q2_ : q = false := q_; subst q2_) | (simp [go_sem, *] at q_; have q2_ : q = false := q_; subst q2_)
  have l_x1_1 : (w.heap.size+1) < x1.val.heap.size := by omega
  have m_x1_1 : (w.heap.size+1) < x1.val.heap.size + 1 := by omega
  have q_ := x1.cq ((w.heap.size+1)) 0
  generalize c_x1_1_0 : x1.val.cell? ⟨(w.heap.size+1), 0, none⟩ = q at q_
  first | (have q2_ : q = some _ := q_; subst q2_) | (simp [go_sem] at q_; have q2_ : q = some _ := q_; subst q2_) | (simp [go_sem, *] at q_; have q2_ : q = some _ := q_; subst q2_)
  have q_ := x1.zq ((w.heap.size+1)) 0
  generalize z_x1_1_0 : x1.val.frozen? ⟨(w.heap.size+1), 0, none⟩ = q at q_
  first | (have q2_ : q = false := q_; subst q2_) | (simp [go_sem] at q_; have q2_ : q = false := q_; subst q2_) | (simp [go_sem, *] at q_; have q2_ : q = false := q_; subst q2_)
  have q_ := x1.cq ((w.heap.size+1)) 1
  generalize c_x1_1_1 : x1.val.cell? ⟨(w.heap.size+1), 1, none⟩ = q at q_
  first | (have q2_ : q = some _ := q_; subst q2_) | (simp [go_sem] at q_; have q2_ : q = some _ := q_; subst q2_) | (simp [go_sem, *] at q_; have q2_ : q = some _ := q_; subst q2_)
  have q_ := x1.zq ((w.heap.size+1)) 1
  generalize z_x1_1_1 : x1.val.frozen? ⟨(w.heap.size+1), 1, none⟩ = q at q_
  first | (have q2_ : q = false := q_; subst q2_) | (simp [go_sem] at q_; have q2_ : q = false := q_; subst q2_) | (simp [go_sem, *] at q_; have q2_ : q = false := q_; subst q2_)
  go_wp2_with fail
  with_reducible refine (RR.out _ belo).mono ?_
  rintro e_x2 w_x2 ⟨rfl, hb_x2⟩
  obtain ⟨x2, rfl⟩ := later_is hb_x2
  clear hb_x2
  have hz_x2 := x2.bel.size
  try simp at hz_x2
  replace c_x1_0_0 := x2.carry c_x1_0_0
  replace c_x1_0_1 := x2.carry c_x1_0_1
  replace c_x1_1_0 := x2.carry c_x1_1_0
  replace c_x1_1_1 := x2.carry c_x1_1_1
  have lc_x2_0 : w.heap.size < x2.val.heap.size := by omega
  have mc_x2_0 : w.heap.size < x2.val.heap.size + 1 := by omega
  have lc_x2_1 : (w.heap.size+1) < x2.val.heap.size := by omega
  have mc_x2_1 : (w.heap.size+1) < x2.val.heap.size + 1 := by omega
  go_wp2
  refine bodyPost_ret (v := faultV (2, 0)) (by simp [results, Try.results13, go_sem, *]) rfl ⟨rfl, belo⟩
 rw [q2] at RV RR
 rw [Bool.and_self, if_pos rfl] at RV
 clear q2
 go_enter Try.func13, Try.ntmps13
 go_wp2_with fail
 with_reducible refine (TR.out _ belo).mono ?_
 rintro e_x1 w_x1 ⟨rfl, hb_x1⟩
 obtain ⟨x1, rfl⟩ := later_is hb_x1
 clear hb_x1
 have hz_x1 := x1.bel.size
 try simp at hz_x1
 have l_x1_0 : w.heap.size < x1.val.heap.size := by omega
 have m_x1_0 : w.heap.size < x1.val.heap.size + 1 := by omega
 have q_ := x1.cq (w.heap.size) 0
 generalize c_x1_0_0 : x1.val.cell? ⟨w.heap.size, 0, none⟩ = q at q_
 first | (have q2_ : q = some _ := q_; subst q2_) | (simp [go_sem] at q_; have q2_ : q = some _ := q_; subst q2_) | (simp [go_sem, *] at q_; have q2_ : q = some _ := q_; subst q2_)
 have q_ := x1.zq (w.heap.size) 0
 generalize z_x1_0_0 : x1.val.frozen? ⟨w.heap.size, 0, none⟩ = q at q_
 first | (have q2_ : q = false := q_; subst q2_) | (simp [go_sem] at q_; have q2_ : q = false := q_; subst q2_) | (simp [go_sem, *] at q_; have q2_ : q = false := q_; subst q2_)
 have q_ := x1.cq (w.heap.size) 1
 generalize c_x1_0_1 : x1.val.cell? ⟨w.heap.size, 1, none⟩ = q at q_
 first | (have q2_ : q = some _ := q_; subst q2_) | (simp [go_sem] at q_; have q2_ : q = some _ := q_; subst q2_) | (simp [go_sem, *] at q_; have q2_ : q = some _ := q_; subst q2_)
 have q_ := x1.zq (w.heap.size) 1
 generalize z_x1_0_1 : x1.val.frozen? ⟨w.heap.size, 1, none⟩ = q at q_
 first | (have q2_ : q = false := q_; subst q2_) | (simp [go_sem] at q_; have q2_ : q = false := q_; subst q2_) | (simp [go_sem, *] at q_; have q2_ : q = false := q_; subst q2_)
 have l_x1_1 : (w.heap.size+1) < x1.val.heap.size := by omega
 have m_x1_1 : (w.heap.size+1) < x1.val.heap.size + 1 := by omega
 have q_ := x1.cq ((w.heap.size+1)) 0
 generalize c_x1_1_0 : x1.val.cell? ⟨(w.heap.size+1), 0, none⟩ = q at q_
 first | (have q2_ : q = some _ := q_; subst q2_) | (simp [go_sem] at q_; have q2_ : q = some _ := q_; subst q2_) | (simp [go_sem, *] at q_; have q2_ : q = some _ := q_; subst q2_)
 have q_ := x1.zq ((w.heap.size+1)) 0
 generalize z_x1_1_0 : x1.val.frozen? ⟨(w.heap.size+1), 0, none⟩ = q at q_
 first | (have q2_ : q = false := q_; subst q2_) | (simp [go_sem] at q_; have q2_ : q = false := q_; subst q2_) | (simp [go_sem, *] at q_; have q2_ : q = false := q_; subst q2_)
 have q_ := x1.cq ((w.heap.size+1)) 1
 generalize c_x1_1_1 : x1.val.cell? ⟨(w.heap.size+1), 1, none⟩ = q at q_
 first | (have q2_ : q = some _ := q_; subst q2_) | (simp [go_sem] at q_; have q2_ : q = some _ := q_; subst q2_) | (simp [go_sem, *] at q_; have q2_ : q = some _ := q_; subst q2_)
 have q_ := x1.zq ((w.heap.size+1)) 1
 generalize z_x1_1_1 : x1.val.frozen? ⟨(w.heap.size+1), 1, none⟩ = q at q_
 first | (have q2_ : q = false := q_; subst q2_) | (simp [go_sem] at q_; have q2_ : q = false := q_; subst q2_) | (simp [go_sem, *] at q_; have q2_ : q = false := q_; subst q2_)
 go_wp2_with fail
 with_reducible refine (RR.out _ belo).mono ?_
 rintro e_x2 w_x2 ⟨rfl, hb_x2⟩
 obtain ⟨x2, rfl⟩ := later_is hb_x2
 clear hb_x2
 have hz_x2 := x2.bel.size
 try simp at hz_x2
 have l_x2_0 : w.heap.size < x2.val.heap.size := by omega
 have m_x2_0 : w.heap.size < x2.val.heap.size + 1 := by omega
 have q_ := x2.cq (w.heap.size) 0
 generalize c_x2_0_0 : x2.val.cell? ⟨w.heap.size, 0, none⟩ = q at q_
 first | (have q2_ : q = some _ := q_; subst q2_) | (simp [go_sem] at q_; have q2_ : q = some _ := q_; subst q2_) | (simp [go_sem, *] at q_; have q2_ : q = some _ := q_; subst q2_)
 have q_ := x2.zq (w.heap.size) 0
 generalize z_x2_0_0 : x2.val.frozen? ⟨w.heap.size, 0, none⟩ = q at q_
 first | (have q2_ : q = false := q_; subst q2_) | (simp [go_sem] at q_; have q2_ : q = false := q_; subst q2_) | (simp [go_sem, *] at q_; have q2_ : q = false := q_; subst q2_)
 have q_ := x2.cq (w.heap.size) 1
 generalize c_x2_0_1 : x2.val.cell? ⟨w.heap.size, 1, none⟩ = q at q_
 first | (have q2_ : q = some _ := q_; subst q2_) | (simp [go_sem] at q_; have q2_ : q = some _ := q_; subst q2_) | (simp [go_sem, *] at q_; have q2_ : q = some _ := q_; subst q2_)
 have q_ := x2.zq (w.heap.size) 1
 generalize z_x2_0_1 : x2.val.frozen? ⟨w.heap.size, 1, none⟩ = q at q_
 first | (have q2_ : q = false := q_; subst q2_) | (simp [go_sem] at q_; have q2_ : q = false := q_; subst q2_) | (simp [go_sem, *] at q_; have q2_ : q = false := q_; subst q2_)
 have l_x2_1 : (w.heap.size+1) < x2.val.heap.size := by omega
 have m_x2_1 : (w.heap.size+1) < x2.val.heap.size + 1 := by omega
 have q_ := x2.cq ((w.heap.size+1)) 0
 generalize c_x2_1_0 : x2.val.cell? ⟨(w.heap.size+1), 0, none⟩ = q at q_
 first | (have q2_ : q = some _ := q_; subst q2_) | (simp [go_sem] at q_; have q2_ : q = some _ := q_; subst q2_) | (simp [go_sem, *] at q_; have q2_ : q = some _ := q_; subst q2_)
 have q_ := x2.zq ((w.heap.size+1)) 0
 generalize z_x2_1_0 : x2.val.frozen? ⟨(w.heap.size+1), 0, none⟩ = q at q_
 first | (have q2_ : q = false := q_; subst q2_) | (simp [go_sem] at q_; have q2_ : q = false := q_; subst q2_) | (simp [go_sem, *] at q_; have q2_ : q = false := q_; subst q2_)
 have q_ := x2.cq ((w.heap.size+1)) 1
 generalize c_x2_1_1 : x2.val.cell? ⟨(w.heap.size+1), 1, none⟩ = q at q_
 first | (have q2_ : q = some _ := q_; subst q2_) | (simp [go_sem] at q_; have q2_ : q = some _ := q_; subst q2_) | (simp [go_sem, *] at q_; have q2_ : q = some _ := q_; subst q2_)
 have q_ := x2.zq ((w.heap.size+1)) 1
 generalize z_x2_1_1 : x2.val.frozen? ⟨(w.heap.size+1), 1, none⟩ = q at q_
 first | (have q2_ : q = false := q_; subst q2_) | (simp [go_sem] at q_; have q2_ : q = false := q_; subst q2_) | (simp [go_sem, *] at q_; have q2_ : q = false := q_; subst q2_)
 have o0 : w.heap.size + 2 ≤ x2.val.heap.size := by omega
 have bx2 : Below w.heap.size w x2.val := belo
 go_wp2
 go_loopw [5] (fun x wr => ∃ j : Nat, j ≤ n ∧ Hid ((Vd.checkP t (metL Pa.slave l j) (l.drop j)).getD (0, 0) = (r1, r2)) ∧ x = .int .i64 (j : Int) ∧ Below (w.heap.size + 2) x2.val wr) (fun i _ => n - (RowKit.intOf i).toNat)
 case atStart => exact ⟨0, by omega, RV, rfl, Below.refl _ _⟩
 case round =>
  rename World => wr
  obtain ⟨j, hj, HA, rfl, hbr⟩ := hrel
  obtain ⟨x6, hx6⟩ := later_is hbr
  have hz_x6 := x6.bel.size
  obtain rfl := hx6
  have hz_x6 := x6.bel.size
  try simp at hz_x6
  have l_x6_0 : w.heap.size < x6.val.heap.size := by omega
  have m_x6_0 : w.heap.size < x6.val.heap.size + 1 := by omega
  have q_ := x6.cq (w.heap.size) 0
  generalize c_x6_0_0 : x6.val.cell? ⟨w.heap.size, 0, none⟩ = q at q_
  first | (have q2_ : q = some _ := q_; subst q2_) | (simp [go_sem] at q_; have q2_ : q = some _ := q_; subst q2_) | (simp [go_sem, *] at q_; have q2_ : q = some _ := q_; subst q2_)
  have q_ := x6.zq (w.heap.size) 0
  generalize z_x6_0_0 : x6.val.frozen? ⟨w.heap.size, 0, none⟩ = q at q_
  first | (have q2_ : q = false := q_; subst q2_) | (simp [go_sem] at q_; have q2_ : q = false := q_; subst q2_) | (simp [go_sem, *] at q_; have q2_ : q = false := q_; subst q2_)
  have q_ := x6.cq (w.heap.size) 1
  generalize c_x6_0_1 : x6.val.cell? ⟨w.heap.size, 1, none⟩ = q at q_
  first | (have q2_ : q = some _ := q_; subst q2_) | (simp [go_sem] at q_; have q2_ : q = some _ := q_; subst q2_) | (simp [go_sem, *] at q_; have q2_ : q = some _ := q_; subst q2_)
  have q_ := x6.zq (w.heap.size) 1
  generalize z_x6_0_1 : x6.val.frozen? ⟨w.heap.size, 1, none⟩ = q at q_
  first | (have q2_ : q = false := q_; subst q2_) | (simp [go_sem] at q_; have q2_ : q = false := q_; subst q2_) | (simp [go_sem, *] at q_; have q2_ : q = false := q_; subst q2_)
  have l_x6_1 : (w.heap.size+1) < x6.val.heap.size := by omega
  have m_x6_1 : (w.heap.size+1) < x6.val.heap.size + 1 := by omega
  have q_ := x6.cq ((w.heap.size+1)) 0
  generalize c_x6_1_0 : x6.val.cell? ⟨(w.heap.size+1), 0, none⟩ = q at q_
  first | (have q2_ : q = some _ := q_; subst q2_) | (simp [go_sem] at q_; have q2_ : q = some _ := q_; subst q2_) | (simp [go_sem, *] at q_; have q2_ : q = some _ := q_; subst q2_)
  have q_ := x6.zq ((w.heap.size+1)) 0
  generalize z_x6_1_0 : x6.val.frozen? ⟨(w.heap.size+1), 0, none⟩ = q at q_
  first | (have q2_ : q = false := q_; subst q2_) | (simp [go_sem] at q_; have q2_ : q = false := q_; subst q2_) | (simp [go_sem, *] at q_; have q2_ : q = false := q_; subst q2_)
  have q_ := x6.cq ((w.heap.size+1)) 1
  generalize c_x6_1_1 : x6.val.cell? ⟨(w.heap.size+1), 1, none⟩ = q at q_
  first | (have q2_ : q = some _ := q_; subst q2_) | (simp [go_sem] at q_; have q2_ : q = some _ := q_; subst q2_) | (simp [go_sem, *] at q_; have q2_ : q = some _ := q_; subst q2_)
  have q_ := x6.zq ((w.heap.size+1)) 1
  generalize z_x6_1_1 : x6.val.frozen? ⟨(w.heap.size+1), 1, none⟩ = q at q_
  first | (have q2_ : q = false := q_; subst q2_) | (simp [go_sem] at q_; have q2_ : q = false := q_; subst q2_) | (simp [go_sem, *] at q_; have q2_ : q = false := q_; subst q2_)
  have hbe : Below w.heap.size w x6.val := bx2.trans (hbr.mono (by omega))
  by_cases hlt : j < n
  rotate_left
  ·obtain rfl : j = n := by omega
   obtain ⟨rfl, rfl⟩ : 0 = r1 ∧ 0 = r2 := by
    have h3 := HA.out
    rw [← HN.out, List.drop_length] at h3
    simpa [Vd.checkP] using h3
   clear hlt hj
   go_wp2
   refine bodyPost_ret (v := faultV (0, 0)) (by simp [results, Try.results13, go_sem, *]) rfl ⟨rfl, belo⟩
  have hltI : (j : Int) < (n : Int) := by omega
  obtain ⟨g1, o1', p, rfl, hg, hp, hok, d0, d1, d2⟩ := (HH.out.to hbe).at_ (k := j) (by rw [HN.out]; exact hlt)
  have hgl : g1 < x6.val.heap.size := hg
  have HOK := Lib.hid (HH.out.ok p (List.mem_of_getElem? hp))
  have HCP := Lib.hid (Vd.checkP_at (t := t) (K := metL Pa.slave l j) hp)
  have HP := Lib.hid hp
  have HST := Lib.hid (metL_step (f := Pa.slave) hp)
  obtain ⟨slave, line, sets, PA, pc⟩ := p
  obtain ⟨m, hm⟩ : ∃ m, sets.length = m := ⟨_, rfl⟩
  have HM := Lib.hid hm
  have hmc : m ≤ 9223372036854775807 := by have := hok.shp.le; have := hok.shp.cap; dsimp only at *; omega
  dsimp only at d0 d1 d2 HCP HST
  rw [hm] at d2
  rw [HCP.out] at HA
  clear hg hp hok hm HCP
  obtain ⟨fx, hfx, hfo⟩ := atI_int (firstAt Dv.name slave t)
  have FDS := Lib.hid (fun (x : World) (hx : Below w.heap.size w x) => FD.out slave x hx)
  rw [hfx] at FDS
  have HFO := Lib.hid hfo
  clear hfx hfo
  go_wp2_with fail
  with_reducible refine (FDS.out _ belo).mono ?_
  rintro e_x7 w_x7 ⟨rfl, hb_x7⟩
  obtain ⟨x7, rfl⟩ := later_is hb_x7
  clear hb_x7
  have hz_x7 := x7.bel.size
  try simp at hz_x7
  have l_x7_0 : x6.val.heap.size < x7.val.heap.size := by omega
  have m_x7_0 : x6.val.heap.size < x7.val.heap.size + 1 := by omega
  have q_ := x7.cq (x6.val.heap.size) 0
  generalize c_x7_0_0 : x7.val.cell? ⟨x6.val.heap.size, 0, none⟩ = q at q_
  first | (have q2_ : q = some _ := q_; subst q2_) | (simp [go_sem] at q_; have q2_ : q = some _ := q_; subst q2_) | (simp [go_sem, *] at q_; have q2_ : q = some _ := q_; subst q2_)
  have q_ := x7.zq (x6.val.heap.size) 0
  generalize z_x7_0_0 : x7.val.frozen? ⟨x6.val.heap.size, 0, none⟩ = q at q_
  first | (have q2_ : q = false := q_; subst q2_) | (simp [go_sem] at q_; have q2_ : q = false := q_; subst q2_) | (simp [go_sem, *] at q_; have q2_ : q = false := q_; subst q2_)
  have q_ := x7.cq (x6.val.heap.size) 1
  generalize c_x7_0_1 : x7.val.cell? ⟨x6.val.heap.size, 1, none⟩ = q at q_
  first | (have q2_ : q = some _ := q_; subst q2_) | (simp [go_sem] at q_; have q2_ : q = some _ := q_; subst q2_) | (simp [go_sem, *] at q_; have q2_ : q = some _ := q_; subst q2_)
  have q_ := x7.zq (x6.val.heap.size) 1
  generalize z_x7_0_1 : x7.val.frozen? ⟨x6.val.heap.size, 1, none⟩ = q at q_
  first | (have q2_ : q = false := q_; subst q2_) | (simp [go_sem] at q_; have q2_ : q = false := q_; subst q2_) | (simp [go_sem, *] at q_; have q2_ : q = false := q_; subst q2_)
  have q_ := x7.cq (x6.val.heap.size) 2
  generalize c_x7_0_2 : x7.val.cell? ⟨x6.val.heap.size, 2, none⟩ = q at q_
  first | (have q2_ : q = some _ := q_; subst q2_) | (simp [go_sem] at q_; have q2_ : q = some _ := q_; subst q2_) | (simp [go_sem, *] at q_; have q2_ : q = some _ := q_; subst q2_)
  have q_ := x7.zq (x6.val.heap.size) 2
  generalize z_x7_0_2 : x7.val.frozen? ⟨x6.val.heap.size, 2, none⟩ = q at q_
  first | (have q2_ : q = false := q_; subst q2_) | (simp [go_sem] at q_; have q2_ : q = false := q_; subst q2_) | (simp [go_sem, *] at q_; have q2_ : q = false := q_; subst q2_)
  have l_x7_1 : w.heap.size < x7.val.heap.size := by omega
  have m_x7_1 : w.heap.size < x7.val.heap.size + 1 := by omega
  have q_ := x7.cq (w.heap.size) 0
  generalize c_x7_1_0 : x7.val.cell? ⟨w.heap.size, 0, none⟩ = q at q_
  first | (have q2_ : q = some _ := q_; subst q2_) | (simp [go_sem] at q_; have q2_ : q = some _ := q_; subst q2_) | (simp [go_sem, *] at q_; have q2_ : q = some _ := q_; subst q2_)
  have q_ := x7.zq (w.heap.size) 0
  generalize z_x7_1_0 : x7.val.frozen? ⟨w.heap.size, 0, none⟩ = q at q_
  first | (have q2_ : q = false := q_; subst q2_) | (simp [go_sem] at q_; have q2_ : q = false := q_; subst q2_) | (simp [go_sem, *] at q_; have q2_ : q = false := q_; subst q2_)
  have q_ := x7.cq (w.heap.size) 1
  generalize c_x7_1_1 : x7.val.cell? ⟨w.heap.size, 1, none⟩ = q at q_
  first | (have q2_ : q = some _ := q_; subst q2_) | (simp [go_sem] at q_; have q2_ : q = some _ := q_; subst q2_) | (simp [go_sem, *] at q_; have q2_ : q = some _ := q_; subst q2_)
  have q_ := x7.zq (w.heap.size) 1
  generalize z_x7_1_1 : x7.val.frozen? ⟨w.heap.size, 1, none⟩ = q at q_
  first | (have q2_ : q = false := q_; subst q2_) | (simp [go_sem] at q_; have q2_ : q = false := q_; subst q2_) | (simp [go_sem, *] at q_; have q2_ : q = false := q_; subst q2_)
  have l_x7_2 : (w.heap.size+1) < x7.val.heap.size := by omega
  have m_x7_2 : (w.heap.size+1) < x7.val.heap.size + 1 := by omega
  have q_ := x7.cq ((w.heap.size+1)) 0
  generalize c_x7_2_0 : x7.val.cell? ⟨(w.heap.size+1), 0, none⟩ = q at q_
  first | (have q2_ : q = some _ := q_; subst q2_) | (simp [go_sem] at q_; have q2_ : q = some _ := q_; subst q2_) | (simp [go_sem, *] at q_; have q2_ : q = some _ := q_; subst q2_)
  have q_ := x7.zq ((w.heap.size+1)) 0
  generalize z_x7_2_0 : x7.val.frozen? ⟨(w.heap.size+1), 0, none⟩ = q at q_
  first | (have q2_ : q = false := q_; subst q2_) | (simp [go_sem] at q_; have q2_ : q = false := q_; subst q2_) | (simp [go_sem, *] at q_; have q2_ : q = false := q_; subst q2_)
  have q_ := x7.cq ((w.heap.size+1)) 1
  generalize c_x7_2_1 : x7.val.cell? ⟨(w.heap.size+1), 1, none⟩ = q at q_
  first | (have q2_ : q = some _ := q_; subst q2_) | (simp [go_sem] at q_; have q2_ : q = some _ := q_; subst q2_) | (simp [go_sem, *] at q_; have q2_ : q = some _ := q_; subst q2_)
  have q_ := x7.zq ((w.heap.size+1)) 1
  generalize z_x7_2_1 : x7.val.frozen? ⟨(w.heap.size+1), 1, none⟩ = q at q_
  first | (have q2_ : q = false := q_; subst q2_) | (simp [go_sem] at q_; have q2_ : q = false := q_; subst q2_) | (simp [go_sem, *] at q_; have q2_ : q = false := q_; subst q2_)
  have hb7 : Below w.heap.size w x7.val := belo
  have h67 : Below x6.val.heap.size x6.val x7.val := belo
  have o7 : x6.val.heap.size + 1 ≤ x7.val.heap.size := by omega
  go_wp2
  go_loopw [7, 8] (fun xf xz wz => ∃ z : Nat, z ≤ j ∧ xf = .int .i64 (metF Pa.slave l z slave fx) ∧ xz = .int .i64 (z : Int) ∧ Below x7.val.heap.size x7.val wz) (fun _ xz _ => j - (RowKit.intOf xz).toNat)
  case atStart => exact ⟨0, by omega, rfl, rfl, Below.refl _ _⟩
  case round =>
   rename World => wz0
   obtain ⟨z, hz, rfl, rfl, hbz⟩ := hrel
   obtain ⟨xz, hxz⟩ := later_is hbz
   have hz_xz := xz.bel.size
   obtain rfl := hxz
   have hz_xz := xz.bel.size
   try simp at hz_xz
   have l_xz_0 : x6.val.heap.size < xz.val.heap.size := by omega
   have m_xz_0 : x6.val.heap.size < xz.val.heap.size + 1 := by omega
   have q_ := xz.cq (x6.val.heap.size) 0
   generalize c_xz_0_0 : xz.val.cell? ⟨x6.val.heap.size, 0, none⟩ = q at q_
   first | (have q2_ : q = some _ := q_; subst q2_) | (simp [go_sem] at q_; have q2_ : q = some _ := q_; subst q2_) | (simp [go_sem, *] at q_; have q2_ : q = some _ := q_; subst q2_)
   have q_ := xz.zq (x6.val.heap.size) 0
   generalize z_xz_0_0 : xz.val.frozen? ⟨x6.val.heap.size, 0, none⟩ = q at q_
   first | (have q2_ : q = false := q_; subst q2_) | (simp [go_sem] at q_; have q2_ : q = false := q_; subst q2_) | (simp [go_sem, *] at q_; have q2_ : q = false := q_; subst q2_)
   have q_ := xz.cq (x6.val.heap.size) 1
   generalize c_xz_0_1 : xz.val.cell? ⟨x6.val.heap.size, 1, none⟩ = q at q_
   first | (have q2_ : q = some _ := q_; subst q2_) | (simp [go_sem] at q_; have q2_ : q = some _ := q_; subst q2_) | (simp [go_sem, *] at q_; have q2_ : q = some _ := q_; subst q2_)
   have q_ := xz.zq (x6.val.heap.size) 1
   generalize z_xz_0_1 : xz.val.frozen? ⟨x6.val.heap.size, 1, none⟩ = q at q_
   first | (have q2_ : q = false := q_; subst q2_) | (simp [go_sem] at q_; have q2_ : q = false := q_; subst q2_) | (simp [go_sem, *] at q_; have q2_ : q = false := q_; subst q2_)
   have q_ := xz.cq (x6.val.heap.size) 2
   generalize c_xz_0_2 : xz.val.cell? ⟨x6.val.heap.size, 2, none⟩ = q at q_
   first | (have q2_ : q = some _ := q_; subst q2_) | (simp [go_sem] at q_; have q2_ : q = some _ := q_; subst q2_) | (simp [go_sem, *] at q_; have q2_ : q = some _ := q_; subst q2_)
   have q_ := xz.zq (x6.val.heap.size) 2
   generalize z_xz_0_2 : xz.val.frozen? ⟨x6.val.heap.size, 2, none⟩ = q at q_
   first | (have q2_ : q = false := q_; subst q2_) | (simp [go_sem] at q_; have q2_ : q = false := q_; subst q2_) | (simp [go_sem, *] at q_; have q2_ : q = false := q_; subst q2_)
   have l_xz_1 : w.heap.size < xz.val.heap.size := by omega
   have m_xz_1 : w.heap.size < xz.val.heap.size + 1 := by omega
   have q_ := xz.cq (w.heap.size) 0
   generalize c_xz_1_0 : xz.val.cell? ⟨w.heap.size, 0, none⟩ = q at q_
   first | (have q2_ : q = some _ := q_; subst q2_) | (simp [go_sem] at q_; have q2_ : q = some _ := q_; subst q2_) | (simp [go_sem, *] at q_; have q2_ : q = some _ := q_; subst q2_)
   have q_ := xz.zq (w.heap.size) 0
   generalize z_xz_1_0 : xz.val.frozen? ⟨w.heap.size, 0, none⟩ = q at q_
   first | (have q2_ : q = false := q_; subst q2_) | (simp [go_sem] at q_; have q2_ : q = false := q_; subst q2_) | (simp [go_sem, *] at q_; have q2_ : q = false := q_; subst q2_)
   have q_ := xz.cq (w.heap.size) 1
   generalize c_xz_1_1 : xz.val.cell? ⟨w.heap.size, 1, none⟩ = q at q_
   first | (have q2_ : q = some _ := q_; subst q2_) | (simp [go_sem] at q_; have q2_ : q = some _ := q_; subst q2_) | (simp [go_sem, *] at q_; have q2_ : q = some _ := q_; subst q2_)
   have q_ := xz.zq (w.heap.size) 1
   generalize z_xz_1_1 : xz.val.frozen? ⟨w.heap.size, 1, none⟩ = q at q_
   first | (have q2_ : q = false := q_; subst q2_) | (simp [go_sem] at q_; have q2_ : q = false := q_; subst q2_) | (simp [go_sem, *] at q_; have q2_ : q = false := q_; subst q2_)
   have l_xz_2 : (w.heap.size+1) < xz.val.heap.size := by omega
   have m_xz_2 : (w.heap.size+1) < xz.val.heap.size + 1 := by omega
   have q_ := xz.cq ((w.heap.size+1)) 0
   generalize c_xz_2_0 : xz.val.cell? ⟨(w.heap.size+1), 0, none⟩ = q at q_
   first | (have q2_ : q = some _ := q_; subst q2_) | (simp [go_sem] at q_; have q2_ : q = some _ := q_; subst q2_) | (simp [go_sem, *] at q_; have q2_ : q = some _ := q_; subst q2_)
   have q_ := xz.zq ((w.heap.size+1)) 0
   generalize z_xz_2_0 : xz.val.frozen? ⟨(w.heap.size+1), 0, none⟩ = q at q_
   first | (have q2_ : q = false := q_; subst q2_) | (simp [go_sem] at q_; have q2_ : q = false := q_; subst q2_) | (simp [go_sem, *] at q_; have q2_ : q = false := q_; subst q2_)
   have q_ := xz.cq ((w.heap.size+1)) 1
   generalize c_xz_2_1 : xz.val.cell? ⟨(w.heap.size+1), 1, none⟩ = q at q_
   first | (have q2_ : q = some _ := q_; subst q2_) | (simp [go_sem] at q_; have q2_ : q = some _ := q_; subst q2_) | (simp [go_sem, *] at q_; have q2_ : q = some _ := q_; subst q2_)
   have q_ := xz.zq ((w.heap.size+1)) 1
   generalize z_xz_2_1 : xz.val.frozen? ⟨(w.heap.size+1), 1, none⟩ = q at q_
   first | (have q2_ : q = false := q_; subst q2_) | (simp [go_sem] at q_; have q2_ : q = false := q_; subst q2_) | (simp [go_sem, *] at q_; have q2_ : q = false := q_; subst q2_)
   have hbzw : Below w.heap.size w xz.val := hb7.trans (hbz.mono hb7.size)
   have h6z : Below x6.val.heap.size x6.val xz.val := h67.trans (hbz.mono h67.size)
   by_cases hlz : z < j
   ·have hlzI : (z : Int) < (j : Int) := by omega
    have hlzn : (z : Int) < (n : Int) := by omega
    obtain ⟨g2, o2, p2, hAe, hg2, hp2, _, e0, _, _⟩ := (HH.out.to hbzw).at_ (k := z) (by rw [HN.out]; omega)
    simp only [Option.some.injEq, Addr.mk.injEq] at hAe
    obtain ⟨rfl, rfl, _⟩ := hAe
    obtain ⟨sl2, ln2, st2, PA2, pc2⟩ := p2
    dsimp only at e0
    have hgz : g1 < xz.val.heap.size := hg2
    clear hg2
    by_cases he : sl2 = slave
    ·have e1 : (sl2.toList == slave.toList) = true := str_eq he
     have hmf : metF Pa.slave l (z + 1) slave fx = -1 := metF_hit hp2 he
     have HMF := Lib.hid hmf
     clear he hp2 hmf
     go_upto_region 11 with fail
     refine wp_region_lat (by kernel_rfl) (by kernel_rfl) ?_
     repeat (go_big_quiet_step (fail))
     refine wpQuiet_nil ?_
     rintro _ ⟨xq, rfl⟩
     have hz_xq := xq.bel.size
     try simp at hz_xq
     go_wp2
     go_roundw
     case rel => exact ⟨z + 1, by omega, by rw [HMF.out], by go_num, hbz.trans (xq.bel.mono hbz.size)⟩
     case measure => simp [RowKit.intOf]; omega
    have e1 : (sl2.toList == slave.toList) = false := str_ne he
    have hmf : metF Pa.slave l (z + 1) slave fx = metF Pa.slave l z slave fx := metF_miss hp2 he
    have HMF := Lib.hid hmf
    clear he hp2 hmf
    go_upto_region 11 with fail
    refine wp_region_lat (by kernel_rfl) (by kernel_rfl) ?_
    repeat (go_big_quiet_step (fail))
    refine wpQuiet_nil ?_
    rintro _ ⟨xq, rfl⟩
    have hz_xq := xq.bel.size
    try simp at hz_xq
    go_wp2
    go_roundw
    case rel => exact ⟨z + 1, by omega, by rw [HMF.out], by go_num, hbz.trans (xq.bel.mono hbz.size)⟩
    case measure => simp [RowKit.intOf]; omega
   obtain rfl : z = j := by omega
   obtain ⟨f, hf⟩ : ∃ f, metF Pa.slave l z slave fx = f := ⟨_, rfl⟩
   rw [hf]
   have HF := Lib.hid hf
   clear hlz hz hf
   by_cases hneg : f < 0
   ·have g1' : decide (f < 0) = true := decide_eq_true hneg
    obtain ⟨rfl, rfl⟩ : 150 = r1 ∧ line = r2 := by
     have h3 := HA.out
     rcases HFO.out with ⟨ho, hx⟩ | ⟨i, ho, hx⟩
     ·rw [ho] at h3
      simpa using h3
     ·rw [ho] at h3
      have h4 := HF.out
      unfold metF at h4
      split at h4
      ·rename_i hk
       rw [hk] at h3
       cases hti : t[i]? with
       | none => simp [hti] at h3; simpa using h3
       | some d => simp [hti] at h3; simpa using h3
      ·omega
    clear hneg HA
    go_wp2
    refine bodyPost_ret (v := faultV (150, line)) (by simp [results, Try.results13, go_sem, *]) rfl ⟨rfl, belo⟩
   have g1' : decide (f < 0) = false := decide_eq_false hneg
   obtain ⟨i, d, hi, hfi, hd, hnk⟩ : ∃ (i : Nat) (d : Dv), f = (i : Int) ∧ firstAt Dv.name slave t = some i ∧ t[i]? = some d ∧ hasK (metL Pa.slave l z) slave = false := by
    have h4 := HF.out
    unfold metF at h4
    split at h4
    ·omega
    ·rename_i hk
     rcases HFO.out with ⟨ho, hx⟩ | ⟨i, ho, hx⟩
     ·omega
     ·obtain ⟨d, hd, _⟩ := firstAt_is ho
      exact ⟨i, d, by omega, ho, hd, by simpa using hk⟩
   subst hi
   have hil : i < nt := by rw [← HNT.out]; exact (List.getElem?_eq_some_iff.1 hd).1
   have hilI : (i : Int) < (nt : Int) := by omega
   have HD := Lib.hid hd
   obtain ⟨res, hres⟩ : ∃ r, Vd.checkS d.pts [] sets = r := ⟨_, rfl⟩
   have HA2 : Hid ((match res with | some f => some f | none => Vd.checkP t (slave :: metL Pa.slave l z) (l.drop (z + 1))).getD (0, 0) = (r1, r2)) := Lib.hid (by
    have h3 := HA.out
    rw [hfi] at h3
    simp only [Option.bind_some] at h3
    rw [hd] at h3
    simp only [hnk, hres] at h3
    cases res <;> simpa using h3)
   have HRES := Lib.hid hres
   clear HA hfi hd hnk hres hneg
   go_wp2
   go_loopw [9] (fun x wv => ∃ k : Nat, k ≤ m ∧ Hid (Vd.checkS d.pts (metL St.point sets k) (sets.drop k) = res) ∧ x = .int .i64 (k : Int) ∧ Below xz.val.heap.size xz.val wv) (fun i _ => m - (RowKit.intOf i).toNat)
   case atStart => exact ⟨0, by omega, HRES, rfl, Below.refl _ _⟩
   case round =>
    rename World => wv0
    obtain ⟨k, hk, HB, rfl, hbv⟩ := hrel
    obtain ⟨xv, hxv⟩ := later_is hbv
    have hz_xv := xv.bel.size
    obtain rfl := hxv
    have hz_xv := xv.bel.size
    try simp at hz_xv
    have l_xv_0 : x6.val.heap.size < xv.val.heap.size := by omega
    have m_xv_0 : x6.val.heap.size < xv.val.heap.size + 1 := by omega
    have q_ := xv.cq (x6.val.heap.size) 0
    generalize c_xv_0_0 : xv.val.cell? ⟨x6.val.heap.size, 0, none⟩ = q at q_
    first | (have q2_ : q = some _ := q_; subst q2_) | (simp [go_sem] at q_; have q2_ : q = some _ := q_; subst q2_) | (simp [go_sem, *] at q_; have q2_ : q = some _ := q_; subst q2_)
    have q_ := xv.zq (x6.val.heap.size) 0
    generalize z_xv_0_0 : xv.val.frozen? ⟨x6.val.heap.size, 0, none⟩ = q at q_
    first | (have q2_ : q = false := q_; subst q2_) | (simp [go_sem] at q_; have q2_ : q = false := q_; subst q2_) | (simp [go_sem, *] at q_; have q2_ : q = false := q_; subst q2_)
    have q_ := xv.cq (x6.val.heap.size) 1
    generalize c_xv_0_1 : xv.val.cell? ⟨x6.val.heap.size, 1, none⟩ = q at q_
    first | (have q2_ : q = some _ := q_; subst q2_) | (simp [go_sem] at q_; have q2_ : q = some _ := q_; subst q2_) | (simp [go_sem, *] at q_; have q2_ : q = some _ := q_; subst q2_)
    have q_ := xv.zq (x6.val.heap.size) 1
    generalize z_xv_0_1 : xv.val.frozen? ⟨x6.val.heap.size, 1, none⟩ = q at q_
    first | (have q2_ : q = false := q_; subst q2_) | (simp [go_sem] at q_; have q2_ : q = false := q_; subst q2_) | (simp [go_sem, *] at q_; have q2_ : q = false := q_; subst q2_)
    have q_ := xv.cq (x6.val.heap.size) 2
    generalize c_xv_0_2 : xv.val.cell? ⟨x6.val.heap.size, 2, none⟩ = q at q_
    first | (have q2_ : q = some _ := q_; subst q2_) | (simp [go_sem] at q_; have q2_ : q = some _ := q_; subst q2_) | (simp [go_sem, *] at q_; have q2_ : q = some _ := q_; subst q2_)
    have q_ := xv.zq (x6.val.heap.size) 2
    generalize z_xv_0_2 : xv.val.frozen? ⟨x6.val.heap.size, 2, none⟩ = q at q_
    first | (have q2_ : q = false := q_; subst q2_) | (simp [go_sem] at q_; have q2_ : q = false := q_; subst q2_) | (simp [go_sem, *] at q_; have q2_ : q = false := q_; subst q2_)
    have l_xv_1 : w.heap.size < xv.val.heap.size := by omega
    have m_xv_1 : w.heap.size < xv.val.heap.size + 1 := by omega
    have q_ := xv.cq (w.heap.size) 0
    generalize c_xv_1_0 : xv.val.cell? ⟨w.heap.size, 0, none⟩ = q at q_
    first | (have q2_ : q = some _ := q_; subst q2_) | (simp [go_sem] at q_; have q2_ : q = some _ := q_; subst q2_) | (simp [go_sem, *] at q_; have q2_ : q = some _ := q_; subst q2_)
    have q_ := xv.zq (w.heap.size) 0
    generalize z_xv_1_0 : xv.val.frozen? ⟨w.heap.size, 0, none⟩ = q at q_
    first | (have q2_ : q = false := q_; subst q2_) | (simp [go_sem] at q_; have q2_ : q = false := q_; subst q2_) | (simp [go_sem, *] at q_; have q2_ : q = false := q_; subst q2_)
    have q_ := xv.cq (w.heap.size) 1
    generalize c_xv_1_1 : xv.val.cell? ⟨w.heap.size, 1, none⟩ = q at q_
    first | (have q2_ : q = some _ := q_; subst q2_) | (simp [go_sem] at q_; have q2_ : q = some _ := q_; subst q2_) | (simp [go_sem, *] at q_; have q2_ : q = some _ := q_; subst q2_)
    have q_ := xv.zq (w.heap.size) 1
    generalize z_xv_1_1 : xv.val.frozen? ⟨w.heap.size, 1, none⟩ = q at q_
    first | (have q2_ : q = false := q_; subst q2_) | (simp [go_sem] at q_; have q2_ : q = false := q_; subst q2_) | (simp [go_sem, *] at q_; have q2_ : q = false := q_; subst q2_)
    have l_xv_2 : (w.heap.size+1) < xv.val.heap.size := by omega
    have m_xv_2 : (w.heap.size+1) < xv.val.heap.size + 1 := by omega
    have q_ := xv.cq ((w.heap.size+1)) 0
    generalize c_xv_2_0 : xv.val.cell? ⟨(w.heap.size+1), 0, none⟩ = q at q_
    first | (have q2_ : q = some _ := q_; subst q2_) | (simp [go_sem] at q_; have q2_ : q = some _ := q_; subst q2_) | (simp [go_sem, *] at q_; have q2_ : q = some _ := q_; subst q2_)
    have q_ := xv.zq ((w.heap.size+1)) 0
    generalize z_xv_2_0 : xv.val.frozen? ⟨(w.heap.size+1), 0, none⟩ = q at q_
    first | (have q2_ : q = false := q_; subst q2_) | (simp [go_sem] at q_; have q2_ : q = false := q_; subst q2_) | (simp [go_sem, *] at q_; have q2_ : q = false := q_; subst q2_)
    have q_ := xv.cq ((w.heap.size+1)) 1
    generalize c_xv_2_1 : xv.val.cell? ⟨(w.heap.size+1), 1, none⟩ = q at q_
    first | (have q2_ : q = some _ := q_; subst q2_) | (simp [go_sem] at q_; have q2_ : q = some _ := q_; subst q2_) | (simp [go_sem, *] at q_; have q2_ : q = some _ := q_; subst q2_)
    have q_ := xv.zq ((w.heap.size+1)) 1
    generalize z_xv_2_1 : xv.val.frozen? ⟨(w.heap.size+1), 1, none⟩ = q at q_
    first | (have q2_ : q = false := q_; subst q2_) | (simp [go_sem] at q_; have q2_ : q = false := q_; subst q2_) | (simp [go_sem, *] at q_; have q2_ : q = false := q_; subst q2_)
    have hbvw : Below w.heap.size w xv.val := hbzw.trans (hbv.mono hbzw.size)
    have h6v : Below x6.val.heap.size x6.val xv.val := h6z.trans (hbv.mono h6z.size)
    by_cases hlk : k < m
    rotate_left
    ·obtain rfl : k = m := by omega
     have hno : res = none := by
      have h3 := HB.out
      rw [← HM.out, List.drop_length] at h3
      exact h3.symm
     have HA3 : Hid ((Vd.checkP t (metL Pa.slave l (z + 1)) (l.drop (z + 1))).getD (0, 0) = (r1, r2)) := Lib.hid (by
      have h3 := HA2.out
      rw [hno] at h3
      rw [HST.out]
      exact h3)
     have b2v : Below (w.heap.size + 2) x2.val xv.val := hbr.trans (h6v.mono (by have := hbr.size; omega))
     clear hlk hk hno HB HRES HA2
     go_wp2
     go_roundw
     case rel => exact ⟨z + 1, by omega, HA3, by go_num, b2v⟩
     case measure => simp [RowKit.intOf]; omega
    have hlkI : (k : Int) < (m : Int) := by omega
    have HOKv := Lib.hid (HOK.out.to hbvw)
    obtain ⟨g3, o3, st, hA3, hg3, hs3, s0, s1, s2, s3, s4⟩ := St.at_ HOKv.out.rc (k := k) (by rw [HM.out]; exact hlk)
    have hS3 := Lib.hid hs3
    have HF3 := Lib.hid (HOK.out.fit st (List.mem_of_getElem? hs3))
    have HSS := Lib.hid (metL_step (f := St.point) hs3)
    dsimp only at hA3
    subst hA3
    have HCS := Lib.hid (Vd.checkS_at (pts := d.pts) (K := metL St.point sets k) hs3)
    rw [HCS.out] at HB
    have hgl3 : g3 < xv.val.heap.size := hg3
    clear hs3 hg3 HCS
    obtain ⟨gt, ot, d', hAt, hgt, hd', hdok, t0, t1⟩ := (HT.out.to hbvw).at_ (k := i) (by rw [HNT.out]; exact hil)
    obtain rfl : d' = d := Option.some.inj (hd'.symm.trans HD.out)
    subst hAt
    have hgtl : gt < xv.val.heap.size := hgt
    obtain ⟨mt, hmt⟩ : ∃ m, d'.pts.length = m := ⟨_, rfl⟩
    have hsh := hdok.shp
    rw [hmt] at t1 hsh
    have PT := Lib.hid (fun (s : ByteArray) (x : World) (hx : Below xv.val.heap.size xv.val x) => rpoint_any s d'.name d'.A d'.pts mt d'.c x hmt (hdok.to hx).rc hsh)
    have DF := Lib.hid hdok.fit
    have DP := Lib.hid hdok
    have DM := Lib.hid hmt
    have DR := Lib.hid (fun (p : Pt) hp => tab_pt HQ1.out (List.mem_of_getElem? hd') (p := p) hp)
    have hmtc : mt ≤ 9223372036854775807 := Nat.le_trans hsh.le hsh.cap
    obtain ⟨dn, pts, DA, dc⟩ := d'
    dsimp only at t0 t1 PT HB DF DM DR
    clear hdok hgt hd' hsh hmt
    obtain ⟨sp, ⟨vn, vd⟩, su, sl⟩ := st
    dsimp only at s0 s1 s2 s3 s4 HB HSS
    obtain ⟨px, hpx, hpo⟩ := atI_int (firstAt Pt.name sp pts)
    have PTS := Lib.hid (fun (x : World) (hx : Below xv.val.heap.size xv.val x) => PT.out sp x hx)
    rw [hpx] at PTS
    have HPO := Lib.hid hpo
    clear hpx hpo PT
    go_upto_region 19 with fail
    refine wp_region_lat (by kernel_rfl) (by kernel_rfl) ?_
    repeat (go_big_quiet_step (fail))
    go_big_quiet_step (exact later_new (PTS.out _ belo))
    repeat (go_big_quiet_step (fail))
    refine wpQuiet_nil ?_
    rintro _ ⟨x8, rfl⟩
    have hz_x8 := x8.bel.size
    try simp at hz_x8
    have l_x8_0 : xv.val.heap.size < x8.val.heap.size := by omega
    have m_x8_0 : xv.val.heap.size < x8.val.heap.size + 1 := by omega
    have q_ := x8.cq (xv.val.heap.size) 0
    generalize c_x8_0_0 : x8.val.cell? ⟨xv.val.heap.size, 0, none⟩ = q at q_
    first | (have q2_ : q = some _ := q_; subst q2_) | (simp [go_sem] at q_; have q2_ : q = some _ := q_; subst q2_) | (simp [go_sem, *] at q_; have q2_ : q = some _ := q_; subst q2_)
    have q_ := x8.zq (xv.val.heap.size) 0
    generalize z_x8_0_0 : x8.val.frozen? ⟨xv.val.heap.size, 0, none⟩ = q at q_
    first | (have q2_ : q = false := q_; subst q2_) | (simp [go_sem] at q_; have q2_ : q = false := q_; subst q2_) | (simp [go_sem, *] at q_; have q2_ : q = false := q_; subst q2_)
    have q_ := x8.cq (xv.val.heap.size) 1
    generalize c_x8_0_1 : x8.val.cell? ⟨xv.val.heap.size, 1, none⟩ = q at q_
    first | (have q2_ : q = some _ := q_; subst q2_) | (simp [go_sem] at q_; have q2_ : q = some _ := q_; subst q2_) | (simp [go_sem, *] at q_; have q2_ : q = some _ := q_; subst q2_)
    have q_ := x8.zq (xv.val.heap.size) 1
    generalize z_x8_0_1 : x8.val.frozen? ⟨xv.val.heap.size, 1, none⟩ = q at q_
    first | (have q2_ : q = false := q_; subst q2_) | (simp [go_sem] at q_; have q2_ : q = false := q_; subst q2_) | (simp [go_sem, *] at q_; have q2_ : q = false := q_; subst q2_)
    have q_ := x8.cq (xv.val.heap.size) 2
    generalize c_x8_0_2 : x8.val.cell? ⟨xv.val.heap.size, 2, none⟩ = q at q_
    first | (have q2_ : q = some _ := q_; subst q2_) | (simp [go_sem] at q_; have q2_ : q = some _ := q_; subst q2_) | (simp [go_sem, *] at q_; have q2_ : q = some _ := q_; subst q2_)
    have q_ := x8.zq (xv.val.heap.size) 2
    generalize z_x8_0_2 : x8.val.frozen? ⟨xv.val.heap.size, 2, none⟩ = q at q_
    first | (have q2_ : q = false := q_; subst q2_) | (simp [go_sem] at q_; have q2_ : q = false := q_; subst q2_) | (simp [go_sem, *] at q_; have q2_ : q = false := q_; subst q2_)
    have q_ := x8.cq (xv.val.heap.size) 3
    generalize c_x8_0_3 : x8.val.cell? ⟨xv.val.heap.size, 3, none⟩ = q at q_
    first | (have q2_ : q = some _ := q_; subst q2_) | (simp [go_sem] at q_; have q2_ : q = some _ := q_; subst q2_) | (simp [go_sem, *] at q_; have q2_ : q = some _ := q_; subst q2_)
    have q_ := x8.zq (xv.val.heap.size) 3
    generalize z_x8_0_3 : x8.val.frozen? ⟨xv.val.heap.size, 3, none⟩ = q at q_
    first | (have q2_ : q = false := q_; subst q2_) | (simp [go_sem] at q_; have q2_ : q = false := q_; subst q2_) | (simp [go_sem, *] at q_; have q2_ : q = false := q_; subst q2_)
    have q_ := x8.cq (xv.val.heap.size) 4
    generalize c_x8_0_4 : x8.val.cell? ⟨xv.val.heap.size, 4, none⟩ = q at q_
    first | (have q2_ : q = some _ := q_; subst q2_) | (simp [go_sem] at q_; have q2_ : q = some _ := q_; subst q2_) | (simp [go_sem, *] at q_; have q2_ : q = some _ := q_; subst q2_)
    have q_ := x8.zq (xv.val.heap.size) 4
    generalize z_x8_0_4 : x8.val.frozen? ⟨xv.val.heap.size, 4, none⟩ = q at q_
    first | (have q2_ : q = false := q_; subst q2_) | (simp [go_sem] at q_; have q2_ : q = false := q_; subst q2_) | (simp [go_sem, *] at q_; have q2_ : q = false := q_; subst q2_)
    have l_x8_1 : x6.val.heap.size < x8.val.heap.size := by omega
    have m_x8_1 : x6.val.heap.size < x8.val.heap.size + 1 := by omega
    have q_ := x8.cq (x6.val.heap.size) 0
    generalize c_x8_1_0 : x8.val.cell? ⟨x6.val.heap.size, 0, none⟩ = q at q_
    first | (have q2_ : q = some _ := q_; subst q2_) | (simp [go_sem] at q_; have q2_ : q = some _ := q_; subst q2_) | (simp [go_sem, *] at q_; have q2_ : q = some _ := q_; subst q2_)
    have q_ := x8.zq (x6.val.heap.size) 0
    generalize z_x8_1_0 : x8.val.frozen? ⟨x6.val.heap.size, 0, none⟩ = q at q_
    first | (have q2_ : q = false := q_; subst q2_) | (simp [go_sem] at q_; have q2_ : q = false := q_; subst q2_) | (simp [go_sem, *] at q_; have q2_ : q = false := q_; subst q2_)
    have q_ := x8.cq (x6.val.heap.size) 1
    generalize c_x8_1_1 : x8.val.cell? ⟨x6.val.heap.size, 1, none⟩ = q at q_
    first | (have q2_ : q = some _ := q_; subst q2_) | (simp [go_sem] at q_; have q2_ : q = some _ := q_; subst q2_) | (simp [go_sem, *] at q_; have q2_ : q = some _ := q_; subst q2_)
    have q_ := x8.zq (x6.val.heap.size) 1
    generalize z_x8_1_1 : x8.val.frozen? ⟨x6.val.heap.size, 1, none⟩ = q at q_
    first | (have q2_ : q = false := q_; subst q2_) | (simp [go_sem] at q_; have q2_ : q = false := q_; subst q2_) | (simp [go_sem, *] at q_; have q2_ : q = false := q_; subst q2_)
    have q_ := x8.cq (x6.val.heap.size) 2
    generalize c_x8_1_2 : x8.val.cell? ⟨x6.val.heap.size, 2, none⟩ = q at q_
    first | (have q2_ : q = some _ := q_; subst q2_) | (simp [go_sem] at q_; have q2_ : q = some _ := q_; subst q2_) | (simp [go_sem, *] at q_; have q2_ : q = some _ := q_; subst q2_)
    have q_ := x8.zq (x6.val.heap.size) 2
    generalize z_x8_1_2 : x8.val.frozen? ⟨x6.val.heap.size, 2, none⟩ = q at q_
    first | (have q2_ : q = false := q_; subst q2_) | (simp [go_sem] at q_; have q2_ : q = false := q_; subst q2_) | (simp [go_sem, *] at q_; have q2_ : q = false := q_; subst q2_)
    have l_x8_2 : w.heap.size < x8.val.heap.size := by omega
    have m_x8_2 : w.heap.size < x8.val.heap.size + 1 := by omega
    have q_ := x8.cq (w.heap.size) 0
    generalize c_x8_2_0 : x8.val.cell? ⟨w.heap.size, 0, none⟩ = q at q_
    first | (have q2_ : q = some _ := q_; subst q2_) | (simp [go_sem] at q_; have q2_ : q = some _ := q_; subst q2_) | (simp [go_sem, *] at q_; have q2_ : q = some _ := q_; subst q2_)
    have q_ := x8.zq (w.heap.size) 0
    generalize z_x8_2_0 : x8.val.frozen? ⟨w.heap.size, 0, none⟩ = q at q_
    first | (have q2_ : q = false := q_; subst q2_) | (simp [go_sem] at q_; have q2_ : q = false := q_; subst q2_) | (simp [go_sem, *] at q_; have q2_ : q = false := q_; subst q2_)
    have q_ := x8.cq (w.heap.size) 1
    generalize c_x8_2_1 : x8.val.cell? ⟨w.heap.size, 1, none⟩ = q at q_
    first | (have q2_ : q = some _ := q_; subst q2_) | (simp [go_sem] at q_; have q2_ : q = some _ := q_; subst q2_) | (simp [go_sem, *] at q_; have q2_ : q = some _ := q_; subst q2_)
    have q_ := x8.zq (w.heap.size) 1
    generalize z_x8_2_1 : x8.val.frozen? ⟨w.heap.size, 1, none⟩ = q at q_
    first | (have q2_ : q = false := q_; subst q2_) | (simp [go_sem] at q_; have q2_ : q = false := q_; subst q2_) | (simp [go_sem, *] at q_; have q2_ : q = false := q_; subst q2_)
    have l_x8_3 : (w.heap.size+1) < x8.val.heap.size := by omega
    have m_x8_3 : (w.heap.size+1) < x8.val.heap.size + 1 := by omega
    have q_ := x8.cq ((w.heap.size+1)) 0
    generalize c_x8_3_0 : x8.val.cell? ⟨(w.heap.size+1), 0, none⟩ = q at q_
    first | (have q2_ : q = some _ := q_; subst q2_) | (simp [go_sem] at q_; have q2_ : q = some _ := q_; subst q2_) | (simp [go_sem, *] at q_; have q2_ : q = some _ := q_; subst q2_)
    have q_ := x8.zq ((w.heap.size+1)) 0
    generalize z_x8_3_0 : x8.val.frozen? ⟨(w.heap.size+1), 0, none⟩ = q at q_
    first | (have q2_ : q = false := q_; subst q2_) | (simp [go_sem] at q_; have q2_ : q = false := q_; subst q2_) | (simp [go_sem, *] at q_; have q2_ : q = false := q_; subst q2_)
    have q_ := x8.cq ((w.heap.size+1)) 1
    generalize c_x8_3_1 : x8.val.cell? ⟨(w.heap.size+1), 1, none⟩ = q at q_
    first | (have q2_ : q = some _ := q_; subst q2_) | (simp [go_sem] at q_; have q2_ : q = some _ := q_; subst q2_) | (simp [go_sem, *] at q_; have q2_ : q = some _ := q_; subst q2_)
    have q_ := x8.zq ((w.heap.size+1)) 1
    generalize z_x8_3_1 : x8.val.frozen? ⟨(w.heap.size+1), 1, none⟩ = q at q_
    first | (have q2_ : q = false := q_; subst q2_) | (simp [go_sem] at q_; have q2_ : q = false := q_; subst q2_) | (simp [go_sem, *] at q_; have q2_ : q = false := q_; subst q2_)
    have hb8 : Below w.heap.size w x8.val := belo
    have hv8 : Below xv.val.heap.size xv.val x8.val := belo
    go_wp2
    go_loopw [11, 12] (fun xf xq wz => ∃ y : Nat, y ≤ k ∧ xf = .int .i64 (metF St.point sets y sp px) ∧ xq = .int .i64 (y : Int) ∧ Below x8.val.heap.size x8.val wz) (fun _ xq _ => k - (RowKit.intOf xq).toNat)
    case atStart => exact ⟨0, by omega, rfl, rfl, Below.refl _ _⟩
    case round =>
     rename World => wy0
     obtain ⟨y, hy, rfl, rfl, hby⟩ := hrel
     obtain ⟨xy, hxy⟩ := later_is hby
     have hz_xy := xy.bel.size
     obtain rfl := hxy
     have hz_xy := xy.bel.size
     try simp at hz_xy
     have l_xy_0 : xv.val.heap.size < xy.val.heap.size := by omega
     have m_xy_0 : xv.val.heap.size < xy.val.heap.size + 1 := by omega
     have q_ := xy.cq (xv.val.heap.size) 0
     generalize c_xy_0_0 : xy.val.cell? ⟨xv.val.heap.size, 0, none⟩ = q at q_
     first | (have q2_ : q = some _ := q_; subst q2_) | (simp [go_sem] at q_; have q2_ : q = some _ := q_; subst q2_) | (simp [go_sem, *] at q_; have q2_ : q = some _ := q_; subst q2_)
     have q_ := xy.zq (xv.val.heap.size) 0
     generalize z_xy_0_0 : xy.val.frozen? ⟨xv.val.heap.size, 0, none⟩ = q at q_
     first | (have q2_ : q = false := q_; subst q2_) | (simp [go_sem] at q_; have q2_ : q = false := q_; subst q2_) | (simp [go_sem, *] at q_; have q2_ : q = false := q_; subst q2_)
     have q_ := xy.cq (xv.val.heap.size) 1
     generalize c_xy_0_1 : xy.val.cell? ⟨xv.val.heap.size, 1, none⟩ = q at q_
     first | (have q2_ : q = some _ := q_; subst q2_) | (simp [go_sem] at q_; have q2_ : q = some _ := q_; subst q2_) | (simp [go_sem, *] at q_; have q2_ : q = some _ := q_; subst q2_)
     have q_ := xy.zq (xv.val.heap.size) 1
     generalize z_xy_0_1 : xy.val.frozen? ⟨xv.val.heap.size, 1, none⟩ = q at q_
     first | (have q2_ : q = false := q_; subst q2_) | (simp [go_sem] at q_; have q2_ : q = false := q_; subst q2_) | (simp [go_sem, *] at q_; have q2_ : q = false := q_; subst q2_)
     have q_ := xy.cq (xv.val.heap.size) 2
     generalize c_xy_0_2 : xy.val.cell? ⟨xv.val.heap.size, 2, none⟩ = q at q_
     first | (have q2_ : q = some _ := q_; subst q2_) | (simp [go_sem] at q_; have q2_ : q = some _ := q_; subst q2_) | (simp [go_sem, *] at q_; have q2_ : q = some _ := q_; subst q2_)
     have q_ := xy.zq (xv.val.heap.size) 2
     generalize z_xy_0_2 : xy.val.frozen? ⟨xv.val.heap.size, 2, none⟩ = q at q_
     first | (have q2_ : q = false := q_; subst q2_) | (simp [go_sem] at q_; have q2_ : q = false := q_; subst q2_) | (simp [go_sem, *] at q_; have q2_ : q = false := q_; subst q2_)
     have q_ := xy.cq (xv.val.heap.size) 3
     generalize c_xy_0_3 : xy.val.cell? ⟨xv.val.heap.size, 3, none⟩ = q at q_
     first | (have q2_ : q = some _ := q_; subst q2_) | (simp [go_sem] at q_; have q2_ : q = some _ := q_; subst q2_) | (simp [go_sem, *] at q_; have q2_ : q = some _ := q_; subst q2_)
     have q_ := xy.zq (xv.val.heap.size) 3
     generalize z_xy_0_3 : xy.val.frozen? ⟨xv.val.heap.size, 3, none⟩ = q at q_
     first | (have q2_ : q = false := q_; subst q2_) | (simp [go_sem] at q_; have q2_ : q = false := q_; subst q2_) | (simp [go_sem, *] at q_; have q2_ : q = false := q_; subst q2_)
     have q_ := xy.cq (xv.val.heap.size) 4
     generalize c_xy_0_4 : xy.val.cell? ⟨xv.val.heap.size, 4, none⟩ = q at q_
     first | (have q2_ : q = some _ := q_; subst q2_) | (simp [go_sem] at q_; have q2_ : q = some _ := q_; subst q2_) | (simp [go_sem, *] at q_; have q2_ : q = some _ := q_; subst q2_)
     have q_ := xy.zq (xv.val.heap.size) 4
     generalize z_xy_0_4 : xy.val.frozen? ⟨xv.val.heap.size, 4, none⟩ = q at q_
     first | (have q2_ : q = false := q_; subst q2_) | (simp [go_sem] at q_; have q2_ : q = false := q_; subst q2_) | (simp [go_sem, *] at q_; have q2_ : q = false := q_; subst q2_)
     have l_xy_1 : x6.val.heap.size < xy.val.heap.size := by omega
     have m_xy_1 : x6.val.heap.size < xy.val.heap.size + 1 := by omega
     have q_ := xy.cq (x6.val.heap.size) 0
     generalize c_xy_1_0 : xy.val.cell? ⟨x6.val.heap.size, 0, none⟩ = q at q_
     first | (have q2_ : q = some _ := q_; subst q2_) | (simp [go_sem] at q_; have q2_ : q = some _ := q_; subst q2_) | (simp [go_sem, *] at q_; have q2_ : q = some _ := q_; subst q2_)
     have q_ := xy.zq (x6.val.heap.size) 0
     generalize z_xy_1_0 : xy.val.frozen? ⟨x6.val.heap.size, 0, none⟩ = q at q_
     first | (have q2_ : q = false := q_; subst q2_) | (simp [go_sem] at q_; have q2_ : q = false := q_; subst q2_) | (simp [go_sem, *] at q_; have q2_ : q = false := q_; subst q2_)
     have q_ := xy.cq (x6.val.heap.size) 1
     generalize c_xy_1_1 : xy.val.cell? ⟨x6.val.heap.size, 1, none⟩ = q at q_
     first | (have q2_ : q = some _ := q_; subst q2_) | (simp [go_sem] at q_; have q2_ : q = some _ := q_; subst q2_) | (simp [go_sem, *] at q_; have q2_ : q = some _ := q_; subst q2_)
     have q_ := xy.zq (x6.val.heap.size) 1
     generalize z_xy_1_1 : xy.val.frozen? ⟨x6.val.heap.size, 1, none⟩ = q at q_
     first | (have q2_ : q = false := q_; subst q2_) | (simp [go_sem] at q_; have q2_ : q = false := q_; subst q2_) | (simp [go_sem, *] at q_; have q2_ : q = false := q_; subst q2_)
     have q_ := xy.cq (x6.val.heap.size) 2
     generalize c_xy_1_2 : xy.val.cell? ⟨x6.val.heap.size, 2, none⟩ = q at q_
     first | (have q2_ : q = some _ := q_; subst q2_) | (simp [go_sem] at q_; have q2_ : q = some _ := q_; subst q2_) | (simp [go_sem, *] at q_; have q2_ : q = some _ := q_; subst q2_)
     have q_ := xy.zq (x6.val.heap.size) 2
     generalize z_xy_1_2 : xy.val.frozen? ⟨x6.val.heap.size, 2, none⟩ = q at q_
     first | (have q2_ : q = false := q_; subst q2_) | (simp [go_sem] at q_; have q2_ : q = false := q_; subst q2_) | (simp [go_sem, *] at q_; have q2_ : q = false := q_; subst q2_)
     have l_xy_2 : w.heap.size < xy.val.heap.size := by omega
     have m_xy_2 : w.heap.size < xy.val.heap.size + 1 := by omega
     have q_ := xy.cq (w.heap.size) 0
     generalize c_xy_2_0 : xy.val.cell? ⟨w.heap.size, 0, none⟩ = q at q_
     first | (have q2_ : q = some _ := q_; subst q2_) | (simp [go_sem] at q_; have q2_ : q = some _ := q_; subst q2_) | (simp [go_sem, *] at q_; have q2_ : q = some _ := q_; subst q2_)
     have q_ := xy.zq (w.heap.size) 0
     generalize z_xy_2_0 : xy.val.frozen? ⟨w.heap.size, 0, none⟩ = q at q_
     first | (have q2_ : q = false := q_; subst q2_) | (simp [go_sem] at q_; have q2_ : q = false := q_; subst q2_) | (simp [go_sem, *] at q_; have q2_ : q = false := q_; subst q2_)
     have q_ := xy.cq (w.heap.size) 1
     generalize c_xy_2_1 : xy.val.cell? ⟨w.heap.size, 1, none⟩ = q at q_
     first | (have q2_ : q = some _ := q_; subst q2_) | (simp [go_sem] at q_; have q2_ : q = some _ := q_; subst q2_) | (simp [go_sem, *] at q_; have q2_ : q = some _ := q_; subst q2_)
     have q_ := xy.zq (w.heap.size) 1
     generalize z_xy_2_1 : xy.val.frozen? ⟨w.heap.size, 1, none⟩ = q at q_
     first | (have q2_ : q = false := q_; subst q2_) | (simp [go_sem] at q_; have q2_ : q = false := q_; subst q2_) | (simp [go_sem, *] at q_; have q2_ : q = false := q_; subst q2_)
     have l_xy_3 : (w.heap.size+1) < xy.val.heap.size := by omega
     have m_xy_3 : (w.heap.size+1) < xy.val.heap.size + 1 := by omega
     have q_ := xy.cq ((w.heap.size+1)) 0
     generalize c_xy_3_0 : xy.val.cell? ⟨(w.heap.size+1), 0, none⟩ = q at q_
     first | (have q2_ : q = some _ := q_; subst q2_) | (simp [go_sem] at q_; have q2_ : q = some _ := q_; subst q2_) | (simp [go_sem, *] at q_; have q2_ : q = some _ := q_; subst q2_)
     have q_ := xy.zq ((w.heap.size+1)) 0
     generalize z_xy_3_0 : xy.val.frozen? ⟨(w.heap.size+1), 0, none⟩ = q at q_
     first | (have q2_ : q = false := q_; subst q2_) | (simp [go_sem] at q_; have q2_ : q = false := q_; subst q2_) | (simp [go_sem, *] at q_; have q2_ : q = false := q_; subst q2_)
     have q_ := xy.cq ((w.heap.size+1)) 1
     generalize c_xy_3_1 : xy.val.cell? ⟨(w.heap.size+1), 1, none⟩ = q at q_
     first | (have q2_ : q = some _ := q_; subst q2_) | (simp [go_sem] at q_; have q2_ : q = some _ := q_; subst q2_) | (simp [go_sem, *] at q_; have q2_ : q = some _ := q_; subst q2_)
     have q_ := xy.zq ((w.heap.size+1)) 1
     generalize z_xy_3_1 : xy.val.frozen? ⟨(w.heap.size+1), 1, none⟩ = q at q_
     first | (have q2_ : q = false := q_; subst q2_) | (simp [go_sem] at q_; have q2_ : q = false := q_; subst q2_) | (simp [go_sem, *] at q_; have q2_ : q = false := q_; subst q2_)
     have hbyw : Below w.heap.size w xy.val := hb8.trans (hby.mono hb8.size)
     have hvy : Below xv.val.heap.size xv.val xy.val := hv8.trans (hby.mono hv8.size)
     by_cases hly : y < k
     ·have hlyI : (y : Int) < (k : Int) := by omega
      have hlym : (y : Int) < (m : Int) := by omega
      obtain ⟨g4, o4, s4', hAe, hg4, hs4, e0, _, _, _, _⟩ := St.at_ (HOK.out.to hbyw).rc (k := y) (by rw [HM.out]; omega)
      simp only [Option.some.injEq, Addr.mk.injEq] at hAe
      obtain ⟨rfl, rfl, _⟩ := hAe
      obtain ⟨sp2, v2, su2, sl2⟩ := s4'
      dsimp only at e0
      have hgy : g3 < xy.val.heap.size := hg4
      clear hg4
      by_cases he : sp2 = sp
      ·have e1 : (sp2.toList == sp.toList) = true := str_eq he
       have HMF := Lib.hid (metF_hit (f := St.point) (fx := px) hs4 he)
       clear he hs4
       go_upto_region 23 with fail
       refine wp_region_lat (by kernel_rfl) (by kernel_rfl) ?_
       repeat (go_big_quiet_step (fail))
       refine wpQuiet_nil ?_
       rintro _ ⟨xq, rfl⟩
       have hz_xq := xq.bel.size
       try simp at hz_xq
       go_wp2
       go_roundw
       case rel => exact ⟨y + 1, by omega, by rw [HMF.out], by go_num, hby.trans (xq.bel.mono hby.size)⟩
       case measure => simp [RowKit.intOf]; omega
      have e1 : (sp2.toList == sp.toList) = false := str_ne he
      have HMF := Lib.hid (metF_miss (f := St.point) (fx := px) hs4 he)
      clear he hs4
      go_upto_region 23 with fail
      refine wp_region_lat (by kernel_rfl) (by kernel_rfl) ?_
      repeat (go_big_quiet_step (fail))
      refine wpQuiet_nil ?_
      rintro _ ⟨xq, rfl⟩
      have hz_xq := xq.bel.size
      try simp at hz_xq
      go_wp2
      go_roundw
      case rel => exact ⟨y + 1, by omega, by rw [HMF.out], by go_num, hby.trans (xq.bel.mono hby.size)⟩
      case measure => simp [RowKit.intOf]; omega
     obtain rfl : y = k := by omega
     obtain ⟨f2, hf2⟩ : ∃ f, metF St.point sets y sp px = f := ⟨_, rfl⟩
     rw [hf2]
     have HF2 := Lib.hid hf2
     clear hly hy hf2
     by_cases hneg : f2 < 0
     ·have g2' : decide (f2 < 0) = true := decide_eq_true hneg
      have hE : Vd.setE pts (metL St.point sets y) ⟨sp, ⟨vn, vd⟩, su, sl⟩ = 151 := by
       unfold Vd.setE Vd.point
       dsimp only
       rcases HPO.out with ⟨ho, hx⟩ | ⟨i2, ho, hx⟩
       ·rw [ho]; rfl
       ·have h4 := HF2.out
        unfold metF at h4
        split at h4
        ·rename_i hkk
         obtain ⟨p, hp, _⟩ := firstAt_is ho
         rw [ho, Option.bind_some, hp]
         dsimp only
         rw [if_pos hkk]
        ·omega
      obtain ⟨rfl, rfl⟩ : 151 = r1 ∧ sl = r2 := by
       have h3 := HB.out
       rw [hE, if_neg (by decide)] at h3
       have h4 := HA2.out
       rw [← h3] at h4
       simpa using h4
      clear hE HA2 HB hneg
      go_wp2
      refine bodyPost_ret (v := faultV (151, sl)) (by simp [results, Try.results13, go_sem, *]) rfl ⟨rfl, belo⟩
     have g2' : decide (f2 < 0) = false := decide_eq_false hneg
     obtain ⟨i2, p, hi2, hpi, hpp, hnk⟩ : ∃ (i2 : Nat) (p : Pt), f2 = (i2 : Int) ∧ firstAt Pt.name sp pts = some i2 ∧ pts[i2]? = some p ∧ hasK (metL St.point sets y) sp = false := by
      have h4 := HF2.out
      unfold metF at h4
      split at h4
      ·omega
      ·rename_i hkk
       rcases HPO.out with ⟨ho, hx⟩ | ⟨i2, ho, hx⟩
       ·omega
       ·obtain ⟨p, hp, _⟩ := firstAt_is ho
        exact ⟨i2, p, by omega, ho, hp, by simpa using hkk⟩
     subst hi2
     have hi2l : i2 < mt := by rw [← DM.out]; exact (List.getElem?_eq_some_iff.1 hpp).1
     have hi2I : (i2 : Int) < (mt : Int) := by omega
     obtain ⟨gp, op, p', hPe, hgp, hpp', y0, y1, y2, y3, y4, y5, y6, y7, y8⟩ := Pt.at_cells (DP.out.to hvy).rc (k := i2) (by dsimp only; rw [DM.out]; exact hi2l)
     obtain rfl : p' = p := Option.some.inj (hpp'.symm.trans hpp)
     dsimp only at hPe
     subst hPe
     have hgpl : gp < xy.val.heap.size := hgp
     have hR := DR.out p' (List.mem_of_getElem? hpp)
     have VW := Lib.hid (fun (x : World) => rvword_any p' ⟨sp, ⟨vn, vd⟩, su, sl⟩ x (DF.out _ (List.mem_of_getElem? hpp)) HF3.out.1 hR.1 hR.2.1 hR.2.2)
     have hE : Vd.setE pts (metL St.point sets y) ⟨sp, ⟨vn, vd⟩, su, sl⟩ = (Vd.vword p' ⟨sp, ⟨vn, vd⟩, su, sl⟩).2 := by
      unfold Vd.setE Vd.point
      dsimp only
      rw [hpi, Option.bind_some, hpp]
      dsimp only
      rw [hnk, if_neg (by decide)]
     obtain ⟨⟨vr, ve⟩, hv⟩ : ∃ v, Vd.vword p' ⟨sp, ⟨vn, vd⟩, su, sl⟩ = v := ⟨_, rfl⟩
     rw [hv] at VW hE
     dsimp only at VW hE
     have HB2 : Hid ((if ve = 0 then Vd.checkS pts (sp :: metL St.point sets y) (sets.drop (y + 1)) else some (ve, sl)) = res) := Lib.hid (by
      have h3 := HB.out
      rw [hE] at h3
      exact h3)
     have u0 : xy.val.cell? ⟨gt, ot + i * 2, none⟩ = some (.string dn) := (hvy.cell (p := ⟨gt, ot + i * 2, none⟩) hgtl).trans t0
     have u1 : xy.val.cell? ⟨gt, ot + i * 2 + 1, none⟩ = some (.slice (some ⟨gp, op, none⟩) mt dc) := (hvy.cell (p := ⟨gt, ot + i * 2 + 1, none⟩) hgtl).trans t1
     have hgty : gt < xy.val.heap.size := Nat.lt_of_lt_of_le hgtl hvy.size
     obtain ⟨pn, pat, pdg, psg, ⟨pln, pld⟩, ⟨phn, phd⟩, pun⟩ := p'
     dsimp only at y0 y1 y2 y3 y4 y5 y6 y7 y8
     clear hneg hpi hpp hnk hpp' hgp hR hE hv HB
     go_upto_region 27 with fail
     refine wp_region_lat (by kernel_rfl) (by kernel_rfl) ?_
     repeat (go_big_quiet_step (fail))
     go_big_quiet_step (exact later_new (VW.out _))
     repeat (go_big_quiet_step (fail))
     refine wpQuiet_nil ?_
     rintro _ ⟨x9, rfl⟩
     have hz_x9 := x9.bel.size
     try simp at hz_x9
     have l_x9_0 : xv.val.heap.size < x9.val.heap.size := by omega
     have m_x9_0 : xv.val.heap.size < x9.val.heap.size + 1 := by omega
     have q_ := x9.cq (xv.val.heap.size) 0
     generalize c_x9_0_0 : x9.val.cell? ⟨xv.val.heap.size, 0, none⟩ = q at q_
     first | (have q2_ : q = some _ := q_; subst q2_) | (simp [go_sem] at q_; have q2_ : q = some _ := q_; subst q2_) | (simp [go_sem, *] at q_; have q2_ : q = some _ := q_; subst q2_)
     have q_ := x9.zq (xv.val.heap.size) 0
     generalize z_x9_0_0 : x9.val.frozen? ⟨xv.val.heap.size, 0, none⟩ = q at q_
     first | (have q2_ : q = false := q_; subst q2_) | (simp [go_sem] at q_; have q2_ : q = false := q_; subst q2_) | (simp [go_sem, *] at q_; have q2_ : q = false := q_; subst q2_)
     have q_ := x9.cq (xv.val.heap.size) 1
     generalize c_x9_0_1 : x9.val.cell? ⟨xv.val.heap.size, 1, none⟩ = q at q_
     first | (have q2_ : q = some _ := q_; subst q2_) | (simp [go_sem] at q_; have q2_ : q = some _ := q_; subst q2_) | (simp [go_sem, *] at q_; have q2_ : q = some _ := q_; subst q2_)
     have q_ := x9.zq (xv.val.heap.size) 1
     generalize z_x9_0_1 : x9.val.frozen? ⟨xv.val.heap.size, 1, none⟩ = q at q_
     first | (have q2_ : q = false := q_; subst q2_) | (simp [go_sem] at q_; have q2_ : q = false := q_; subst q2_) | (simp [go_sem, *] at q_; have q2_ : q = false := q_; subst q2_)
     have q_ := x9.cq (xv.val.heap.size) 2
     generalize c_x9_0_2 : x9.val.cell? ⟨xv.val.heap.size, 2, none⟩ = q at q_
     first | (have q2_ : q = some _ := q_; subst q2_) | (simp [go_sem] at q_; have q2_ : q = some _ := q_; subst q2_) | (simp [go_sem, *] at q_; have q2_ : q = some _ := q_; subst q2_)
     have q_ := x9.zq (xv.val.heap.size) 2
     generalize z_x9_0_2 : x9.val.frozen? ⟨xv.val.heap.size, 2, none⟩ = q at q_
     first | (have q2_ : q = false := q_; subst q2_) | (simp [go_sem] at q_; have q2_ : q = false := q_; subst q2_) | (simp [go_sem, *] at q_; have q2_ : q = false := q_; subst q2_)
     have q_ := x9.cq (xv.val.heap.size) 3
     generalize c_x9_0_3 : x9.val.cell? ⟨xv.val.heap.size, 3, none⟩ = q at q_
     first | (have q2_ : q = some _ := q_; subst q2_) | (simp [go_sem] at q_; have q2_ : q = some _ := q_; subst q2_) | (simp [go_sem, *] at q_; have q2_ : q = some _ := q_; subst q2_)
     have q_ := x9.zq (xv.val.heap.size) 3
     generalize z_x9_0_3 : x9.val.frozen? ⟨xv.val.heap.size, 3, none⟩ = q at q_
     first | (have q2_ : q = false := q_; subst q2_) | (simp [go_sem] at q_; have q2_ : q = false := q_; subst q2_) | (simp [go_sem, *] at q_; have q2_ : q = false := q_; subst q2_)
     have q_ := x9.cq (xv.val.heap.size) 4
     generalize c_x9_0_4 : x9.val.cell? ⟨xv.val.heap.size, 4, none⟩ = q at q_
     first | (have q2_ : q = some _ := q_; subst q2_) | (simp [go_sem] at q_; have q2_ : q = some _ := q_; subst q2_) | (simp [go_sem, *] at q_; have q2_ : q = some _ := q_; subst q2_)
     have q_ := x9.zq (xv.val.heap.size) 4
     generalize z_x9_0_4 : x9.val.frozen? ⟨xv.val.heap.size, 4, none⟩ = q at q_
     first | (have q2_ : q = false := q_; subst q2_) | (simp [go_sem] at q_; have q2_ : q = false := q_; subst q2_) | (simp [go_sem, *] at q_; have q2_ : q = false := q_; subst q2_)
     have l_x9_1 : x6.val.heap.size < x9.val.heap.size := by omega
     have m_x9_1 : x6.val.heap.size < x9.val.heap.size + 1 := by omega
     have q_ := x9.cq (x6.val.heap.size) 0
     generalize c_x9_1_0 : x9.val.cell? ⟨x6.val.heap.size, 0, none⟩ = q at q_
     first | (have q2_ : q = some _ := q_; subst q2_) | (simp [go_sem] at q_; have q2_ : q = some _ := q_; subst q2_) | (simp [go_sem, *] at q_; have q2_ : q = some _ := q_; subst q2_)
     have q_ := x9.zq (x6.val.heap.size) 0
     generalize z_x9_1_0 : x9.val.frozen? ⟨x6.val.heap.size, 0, none⟩ = q at q_
     first | (have q2_ : q = false := q_; subst q2_) | (simp [go_sem] at q_; have q2_ : q = false := q_; subst q2_) | (simp [go_sem, *] at q_; have q2_ : q = false := q_; subst q2_)
     have q_ := x9.cq (x6.val.heap.size) 1
     generalize c_x9_1_1 : x9.val.cell? ⟨x6.val.heap.size, 1, none⟩ = q at q_
     first | (have q2_ : q = some _ := q_; subst q2_) | (simp [go_sem] at q_; have q2_ : q = some _ := q_; subst q2_) | (simp [go_sem, *] at q_; have q2_ : q = some _ := q_; subst q2_)
     have q_ := x9.zq (x6.val.heap.size) 1
     generalize z_x9_1_1 : x9.val.frozen? ⟨x6.val.heap.size, 1, none⟩ = q at q_
     first | (have q2_ : q = false := q_; subst q2_) | (simp [go_sem] at q_; have q2_ : q = false := q_; subst q2_) | (simp [go_sem, *] at q_; have q2_ : q = false := q_; subst q2_)
     have q_ := x9.cq (x6.val.heap.size) 2
     generalize c_x9_1_2 : x9.val.cell? ⟨x6.val.heap.size, 2, none⟩ = q at q_
     first | (have q2_ : q = some _ := q_; subst q2_) | (simp [go_sem] at q_; have q2_ : q = some _ := q_; subst q2_) | (simp [go_sem, *] at q_; have q2_ : q = some _ := q_; subst q2_)
     have q_ := x9.zq (x6.val.heap.size) 2
     generalize z_x9_1_2 : x9.val.frozen? ⟨x6.val.heap.size, 2, none⟩ = q at q_
     first | (have q2_ : q = false := q_; subst q2_) | (simp [go_sem] at q_; have q2_ : q = false := q_; subst q2_) | (simp [go_sem, *] at q_; have q2_ : q = false := q_; subst q2_)
     have l_x9_2 : w.heap.size < x9.val.heap.size := by omega
     have m_x9_2 : w.heap.size < x9.val.heap.size + 1 := by omega
     have q_ := x9.cq (w.heap.size) 0
     generalize c_x9_2_0 : x9.val.cell? ⟨w.heap.size, 0, none⟩ = q at q_
     first | (have q2_ : q = some _ := q_; subst q2_) | (simp [go_sem] at q_; have q2_ : q = some _ := q_; subst q2_) | (simp [go_sem, *] at q_; have q2_ : q = some _ := q_; subst q2_)
     have q_ := x9.zq (w.heap.size) 0
     generalize z_x9_2_0 : x9.val.frozen? ⟨w.heap.size, 0, none⟩ = q at q_
     first | (have q2_ : q = false := q_; subst q2_) | (simp [go_sem] at q_; have q2_ : q = false := q_; subst q2_) | (simp [go_sem, *] at q_; have q2_ : q = false := q_; subst q2_)
     have q_ := x9.cq (w.heap.size) 1
     generalize c_x9_2_1 : x9.val.cell? ⟨w.heap.size, 1, none⟩ = q at q_
     first | (have q2_ : q = some _ := q_; subst q2_) | (simp [go_sem] at q_; have q2_ : q = some _ := q_; subst q2_) | (simp [go_sem, *] at q_; have q2_ : q = some _ := q_; subst q2_)
     have q_ := x9.zq (w.heap.size) 1
     generalize z_x9_2_1 : x9.val.frozen? ⟨w.heap.size, 1, none⟩ = q at q_
     first | (have q2_ : q = false := q_; subst q2_) | (simp [go_sem] at q_; have q2_ : q = false := q_; subst q2_) | (simp [go_sem, *] at q_; have q2_ : q = false := q_; subst q2_)
     have l_x9_3 : (w.heap.size+1) < x9.val.heap.size := by omega
     have m_x9_3 : (w.heap.size+1) < x9.val.heap.size + 1 := by omega
     have q_ := x9.cq ((w.heap.size+1)) 0
     generalize c_x9_3_0 : x9.val.cell? ⟨(w.heap.size+1), 0, none⟩ = q at q_
     first | (have q2_ : q = some _ := q_; subst q2_) | (simp [go_sem] at q_; have q2_ : q = some _ := q_; subst q2_) | (simp [go_sem, *] at q_; have q2_ : q = some _ := q_; subst q2_)
     have q_ := x9.zq ((w.heap.size+1)) 0
     generalize z_x9_3_0 : x9.val.frozen? ⟨(w.heap.size+1), 0, none⟩ = q at q_
     first | (have q2_ : q = false := q_; subst q2_) | (simp [go_sem] at q_; have q2_ : q = false := q_; subst q2_) | (simp [go_sem, *] at q_; have q2_ : q = false := q_; subst q2_)
     have q_ := x9.cq ((w.heap.size+1)) 1
     generalize c_x9_3_1 : x9.val.cell? ⟨(w.heap.size+1), 1, none⟩ = q at q_
     first | (have q2_ : q = some _ := q_; subst q2_) | (simp [go_sem] at q_; have q2_ : q = some _ := q_; subst q2_) | (simp [go_sem, *] at q_; have q2_ : q = some _ := q_; subst q2_)
     have q_ := x9.zq ((w.heap.size+1)) 1
     generalize z_x9_3_1 : x9.val.frozen? ⟨(w.heap.size+1), 1, none⟩ = q at q_
     first | (have q2_ : q = false := q_; subst q2_) | (simp [go_sem] at q_; have q2_ : q = false := q_; subst q2_) | (simp [go_sem, *] at q_; have q2_ : q = false := q_; subst q2_)
     have hb9 : Below xz.val.heap.size xz.val x9.val := hbv.trans ((hvy.trans (x9.bel.mono (by have := hvy.size; omega))).mono hbv.size)
     have hb9w : Below w.heap.size w x9.val := hbzw.trans (hb9.mono hbzw.size)
     by_cases hve : ve = 0
     ·have ge : ((ve : Int) != 0) = false := by simp [hve]
      have HB3 : Hid (Vd.checkS pts (metL St.point sets (y + 1)) (sets.drop (y + 1)) = res) := Lib.hid (by
       have h3 := HB2.out
       rw [if_pos hve] at h3
       rw [HSS.out]
       exact h3)
      clear hve HB2
      go_wp2
      go_roundw
      case rel => exact ⟨y + 1, by omega, HB3, by go_num, hb9⟩
      case measure => simp [RowKit.intOf]; omega
     ·have ge : ((ve : Int) != 0) = true := bne_iff_ne.2 (by omega)
      obtain ⟨rfl, rfl⟩ : ve = r1 ∧ sl = r2 := by
       have h3 := HB2.out
       rw [if_neg hve] at h3
       have h4 := HA2.out
       rw [← h3] at h4
       simpa using h4
      clear hve HA2 HB2
      go_wp2
      refine bodyPost_ret (v := faultV (ve, sl)) (by simp [results, Try.results13, go_sem, *]) rfl ⟨rfl, belo⟩
end Go.Proofs.Ythhokpaidekmnaa
