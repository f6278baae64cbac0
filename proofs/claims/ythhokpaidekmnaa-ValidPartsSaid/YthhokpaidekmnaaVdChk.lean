/- Layer 15: valid.Check. -/
import Derived.Test.YthhokpaidekmnaaVdTab
import Derived.Test.YthhokpaidekmnaaHeld
import Derived.Test.YthhokpaidekmnaaVdStep
namespace Go.Proofs.Ythhokpaidekmnaa
open Go.RowKit
set_option linter.unusedVariables false
set_option linter.unusedSimpArgs false
set_option maxRecDepth 100000
attribute [local go_sem] Later.cell Later.frozen setCell_twice
def hasK (K : List ByteArray) (s : ByteArray) : Bool := K.any fun a => decide (a = s)
theorem hasK_iff (K : List ByteArray) (s : ByteArray) : hasK K s = true ↔ s ∈ K := by
 unfold hasK
 rw [List.any_eq_true]
 exact ⟨fun ⟨a, ha, he⟩ => of_decide_eq_true he ▸ ha, fun h => ⟨s, h, decide_eq_true rfl⟩⟩
namespace Vd
/-- the fault of a value, K the points that were met -/
def setE (pts : List Pt) (K : List ByteArray) (s : St) : Nat :=
 match point pts s.point with
 | none => 151
 | some p => if hasK K s.point = true then 151 else (vword p s).2
def checkS (pts : List Pt) : List ByteArray → List St → Option (Nat × Int)
 | _, [] => none
 | K, s :: l => if setE pts K s = 0 then checkS pts (s.point :: K) l else some (setE pts K s, s.line)
def checkP (t : List Dv) : List ByteArray → List Pa → Option (Nat × Int)
 | _, [] => none
 | K, p :: l =>
  match (firstAt Dv.name p.slave t).bind (t[·]?) with
  | none => some (150, p.line)
  | some d => if hasK K p.slave = true then some (150, p.line) else
   match checkS d.pts [] p.sets with
   | some f => some f
   | none => checkP t (p.slave :: K) l
def check (t : List Dv) (nm : ByteArray) (l : List Pa) : Nat × Int := if (rightTab t && rightR nm l) = true then (checkP t [] l).getD (0, 0) else (2, 0)
theorem checkS_at {pts : List Pt} {K : List ByteArray} {l : List St} {k : Nat} {s : St} (h : l[k]? = some s) : checkS pts K (l.drop k) = if setE pts K s = 0 then checkS pts (s.point :: K) (l.drop (k + 1)) else some (setE pts K s, s.line) := by
 obtain ⟨hk, hx⟩ := List.getElem?_eq_some_iff.1 h
 rw [List.drop_eq_getElem_cons hk, hx]
 rfl
theorem checkP_at {t : List Dv} {K : List ByteArray} {l : List Pa} {k : Nat} {p : Pa} (h : l[k]? = some p) : checkP t K (l.drop k) = 
  match (firstAt Dv.name p.slave t).bind (t[·]?) with
  | none => some (150, p.line)
  | some d => if hasK K p.slave = true then some (150, p.line) else
   match checkS d.pts [] p.sets with
   | some f => some f
   | none => checkP t (p.slave :: K) (l.drop (k + 1)) := by
 obtain ⟨hk, hx⟩ := List.getElem?_eq_some_iff.1 h
 rw [List.drop_eq_getElem_cons hk, hx]
 rfl
end Vd
theorem ptF_one (p : Pt) : ∀ v ∈ ptF p, v.oneCell' = true := fun v hv => by
 simp only [ptF, List.mem_cons, List.not_mem_nil, or_false] at hv
 rcases hv with rfl | rfl | rfl | rfl | rfl | rfl | rfl | rfl | rfl <;> rfl
theorem row_to {w w' : World} {g : Nat} {T : TypeId} {C : List Value} (h : RowAt w g T C) (k : Below w.heap.size w w') : RowAt w' g T C := (k.block g h.lt).trans h
theorem Fr1.c {g b o : Nat} {w w' : World} {v : Value} (h : Fr1 g w w') (c : w.cell? ⟨b, o, none⟩ = some v) (hb : b ≠ g) : w'.cell? ⟨b, o, none⟩ = some v :=
 (h.cell (p := ⟨b, o, none⟩) (by have := block_lt_of_cell c; exact this) hb).trans c
theorem Fr1.z {g b o : Nat} {w w' : World} {v : Bool} (h : Fr1 g w w') (c : w.frozen? ⟨b, o, none⟩ = v) (hl : b < w.heap.size) (hb : b ≠ g) : w'.frozen? ⟨b, o, none⟩ = v :=
 (h.frozen (p := ⟨b, o, none⟩) hl hb).trans c
abbrev faultV (f : Nat × Int) : Value := .agg #[.int .i64 (f.1 : Int), .int .i64 f.2]
set_option maxHeartbeats 8000000 in
theorem check_any (At : Option Addr) (t : List Dv) (nt ct : Nat) (nm : ByteArray) (A : Option Addr) (l : List Pa) (n c : Nat) (w : World) (hnt : t.length = nt) (ht : Tab w w.heap.size At t) (hst : Shp At nt ct)
  (hn : l.length = n) (h : Pas w w.heap.size A l) (hs : Shp A n c) :
  Calls Try.prog 12 #[.slice At nt ct, .agg #[.string nm, .slice A n c]] w fun e w' => e = .returned (faultV (Vd.check t nm l)) ∧ Below w.heap.size w w' := by
 have HN := Lib.hid hn
 have HH := Lib.hid h
 have HNT := Lib.hid hnt
 have HT := Lib.hid ht
 have hcap : n ≤ 9223372036854775807 := Nat.le_trans hs.le hs.cap
 have hcapt : nt ≤ 9223372036854775807 := Nat.le_trans hst.le hst.cap
 obtain ⟨⟨r1, r2⟩, hrv⟩ : ∃ rv, Vd.check t nm l = rv := ⟨_, rfl⟩
 rw [hrv]
 unfold Vd.check at hrv
 have RV := Lib.hid hrv
 have TR := Lib.hid (fun (x : World) (hx : Below w.heap.size w x) => tabright_any At t nt ct x hnt (ht.to hx) hst)
 have RR := Lib.hid (fun (x : World) (hx : Below w.heap.size w x) => rcpright_any nm A l n c x hn (h.to hx) hs)
 have FD := Lib.hid (fun (s : ByteArray) (x : World) (hx : Below w.heap.size w x) => find_any s At t nt ct x hnt (ht.to hx) hst)
 clear hn h hs hnt ht hst hrv
 cases q1 : Vd.rightTab t
 ·rw [q1] at RV TR
  obtain ⟨rfl, rfl⟩ : 2 = r1 ∧ 0 = r2 := by simpa using RV.out
  clear RV q1
  go_enter Try.func12, Try.ntmps12
  go_wp2_with fail
  with_reducible refine (TR.out _ belo).mono ?_
  rintro e_x1 w_x1 ⟨rfl, hb_x1⟩
  obtain ⟨x1, rfl⟩ := later_is hb_x1
  clear hb_x1
  have hz_x1 := x1.bel.size
  try simp at hz_x1
  have l_x1_0 : w.heap.size < x1.val.heap.size := by omega
  have m_x1_0 : w.heap.size < x1.val.heap.size + 1 := by omega
  have q_ := x1.cq (w.heap.size) 0
  generalize c_x1_0_0 : x1.val.cell? ⟨w.heap.size, 0, none⟩ = q at q_
  first | (have q2_ : q = some _ := q_; subst q2_) | (simp [go_sem] at q_; have q2_ : q = some _ := q_; subst q2_) | (simp [go_sem, *] at q_; have q2_ : q = some _ := q_; subst q2_)
  have q_ := x1.zq (w.heap.size) 0
  generalize z_x1_0_0 : x1.val.frozen? ⟨w.heap.size, 0, none⟩ = q at q_
  first | (have q2_ : q = false := q_; subst q2_) | (simp [go_sem] at q_; have q2_ : q = false := q_; subst q2_) | (simp [go_sem, *] at q_; have q2_ : q = false := q_; subst q2_)
  have q_ := x1.cq (w.heap.size) 1
  generalize c_x1_0_1 : x1.val.cell? ⟨w.heap.size, 1, none⟩ = q at q_
  first | (have q2_ : q = some _ := q_; subst q2_) | (simp [go_sem] at q_; have q2_ : q = some _ := q_; subst q2_) | (simp [go_sem, *] at q_; have q2_ : q = some _ := q_; subst q2_)
  have q_ := x1.zq (w.heap.size) 1
  generalize z_x1_0_1 : x1.val.frozen? ⟨w.heap.size, 1, none⟩ = q at q_
  first | (have q2_ : q = false := q_; subst q2_) | (simp [go_sem] at q_; have q2_ : q = false := q_; subst q2_) | (simp [go_sem, *] at q_; have q2_ : q = false := q_; subst q2_)
  have l_x1_1 : (w.heap.size+1) < x1.val.heap.size := by omega
  have m_x1_1 : (w.heap.size+1) < x1.val.heap.size + 1 := by omega
  have q_ := x1.cq ((w.heap.size+1)) 0
  generalize c_x1_1_0 : x1.val.cell? ⟨(w.heap.size+1), 0, none⟩ = q at q_
  first | (have q2_ : q = some _ := q_; subst q2_) | (simp [go_sem] at q_; have q2_ : q = some _ := q_; subst q2_) | (simp [go_sem, *] at q_; have q2_ : q = some _ := q_; subst q2_)
  have q_ := x1.zq ((w.heap.size+1)) 0
  generalize z_x1_1_0 : x1.val.frozen? ⟨(w.heap.size+1), 0, none⟩ = q at q_
  first | (have q2_ : q = false := q_; subst q2_) | (simp [go_sem] at q_; have q2_ : q = false := q_; subst q2_) | (simp [go_sem, *] at q_; have q2_ : q = false := q_; subst q2_)
  have q_ := x1.cq ((w.heap.size+1)) 1
  generalize c_x1_1_1 : x1.val.cell? ⟨(w.heap.size+1), 1, none⟩ = q at q_
  first | (have q2_ : q = some _ := q_; subst q2_) | (simp [go_sem] at q_; have q2_ : q = some _ := q_; subst q2_) | (simp [go_sem, *] at q_; have q2_ : q = some _ := q_; subst q2_)
  have q_ := x1.zq ((w.heap.size+1)) 1
  generalize z_x1_1_1 : x1.val.frozen? ⟨(w.heap.size+1), 1, none⟩ = q at q_
  first | (have q2_ : q = false := q_; subst q2_) | (simp [go_sem] at q_; have q2_ : q = false := q_; subst q2_) | (simp [go_sem, *] at q_; have q2_ : q = false := q_; subst q2_)
  go_wp2
  refine bodyPost_ret (v := faultV (2, 0)) (by simp [results, Try.results12, go_sem, *]) rfl ⟨rfl, belo⟩
 rw [q1] at RV TR
 clear q1
 cases q2 : Vd.rightR nm l
 ·rw [q2] at RV RR
  obtain ⟨rfl, rfl⟩ : 2 = r1 ∧ 0 = r2 := by simpa using RV.out
  clear RV q2
  go_enter Try.func12, Try.ntmps12
  go_wp2_with fail
  with_reducible refine (TR.out _ belo).mono ?_
  rintro e_x1 w_x1 ⟨rfl, hb_x1⟩
  obtain ⟨x1, rfl⟩ := later_is hb_x1
  clear hb_x1
  have hz_x1 := x1.bel.size
  try simp at hz_x1
  have l_x1_0 : w.heap.size < x1.val.heap.size := by omega
  have m_x1_0 : w.heap.size < x1.val.heap.size + 1 := by omega
  have q_ := x1.cq (w.heap.size) 0
  generalize c_x1_0_0 : x1.val.cell? ⟨w.heap.size, 0, none⟩ = q at q_
  first | (have q2_ : q = some _ := q_; subst q2_) | (simp [go_sem] at q_; have q2_ : q = some _ := q_; subst q2_) | (simp [go_sem, *] at q_; have q2_ : q = some _ := q_; subst q2_)
  have q_ := x1.zq (w.heap.size) 0
  generalize z_x1_0_0 : x1.val.frozen? ⟨w.heap.size, 0, none⟩ = q at q_
  first | (have q2_ : q = false := q_; subst q2_) | (simp [go_sem] at q_; have q2_ : q = false := q_; subst q2_) | (simp [go_sem, *] at q_; have q2_ : q = false := q_; subst q2_)
  have q_ := x1.cq (w.heap.size) 1
  generalize c_x1_0_1 : x1.val.cell? ⟨w.heap.size, 1, none⟩ = q at q_
  first | (have q2_ : q = some _ := q_; subst q2_) | (simp [go_sem] at q_; have q2_ : q = some _ := q_; subst q2_) | (simp [go_sem, *] at q_; have q2_ : q = some _ := q_; subst q2_)
  have q_ := x1.zq (w.heap.size) 1
  generalize z_x1_0_1 : x1.val.frozen? ⟨w.heap.size, 1, none⟩ = q at q_
  first | (have q2_ : q = false := q_; subst q2_) | (simp [go_sem] at q_; have q2_ : q = false := q_; subst q2_) | (simp [go_sem, *] at q_; have q2_ : q = false := q_; subst q2_)
  have l_x1_1 : (w.heap.size+1) < x1.val.heap.size := by omega
  have m_x1_1 : (w.heap.size+1) < x1.val.heap.size + 1 := by omega
  have q_ := x1.cq ((w.heap.size+1)) 0
  generalize c_x1_1_0 : x1.val.cell? ⟨(w.heap.size+1), 0, none⟩ = q at q_
  first | (have q2_ : q = some _ := q_; subst q2_) | (simp [go_sem] at q_; have q2_ : q = some _ := q_; subst q2_) | (simp [go_sem, *] at q_; have q2_ : q = some _ := q_; subst q2_)
  have q_ := x1.zq ((w.heap.size+1)) 0
  generalize z_x1_1_0 : x1.val.frozen? ⟨(w.heap.size+1), 0, none⟩ = q at q_
  first | (have q2_ : q = false := q_; subst q2_) | (simp [go_sem] at q_; have q2_ : q = false := q_; subst q2_) | (simp [go_sem, *] at q_; have q2_ : q = false := q_; subst q2_)
  have q_ := x1.cq ((w.heap.size+1)) 1
  generalize c_x1_1_1 : x1.val.cell? ⟨(w.heap.size+1), 1, none⟩ = q at q_
  first | (have q2_ : q = some _ := q_; subst q2_) | (simp [go_sem] at q_; have q2_ : q = some _ := q_; subst q2_) | (simp [go_sem, *] at q_; have q2_ : q = some _ := q_; subst q2_)
  have q_ := x1.zq ((w.heap.size+1)) 1
  generalize z_x1_1_1 : x1.val.frozen? ⟨(w.heap.size+1), 1, none⟩ = q at q_
  first | (have q2_ : q = false := q_; subst q2_) | (simp [go_sem] at q_; have q2_ : q = false := q_; subst q2_) | (simp [go_sem, *] at q_; have q2_ : q = false := q_; subst q2_)
  go_wp2_with fail
  with_reducible refine (RR.out _ belo).mono ?_
  rintro e_x2 w_x2 ⟨rfl, hb_x2⟩
  obtain ⟨x2, rfl⟩ := later_is hb_x2
  clear hb_x2
  have hz_x2 := x2.bel.size
  try simp at hz_x2
  replace c_x1_0_0 := x2.carry c_x1_0_0
  replace c_x1_0_1 := x2.carry c_x1_0_1
  replace c_x1_1_0 := x2.carry c_x1_1_0
  replace c_x1_1_1 := x2.carry c_x1_1_1
  have lc_x2_0 : w.heap.size < x2.val.heap.size := by omega
  have mc_x2_0 : w.heap.size < x2.val.heap.size + 1 := by omega
  have lc_x2_1 : (w.heap.size+1) < x2.val.heap.size := by omega
  have mc_x2_1 : (w.heap.size+1) < x2.val.heap.size + 1 := by omega
  go_wp2
  refine bodyPost_ret (v := faultV (2, 0)) (by simp [results, Try.results12, go_sem, *]) rfl ⟨rfl, belo⟩
 rw [q2] at RV RR
 rw [Bool.and_self, if_pos rfl] at RV
 clear q2
 go_enter Try.func12, Try.ntmps12
 go_wp2_with fail
 with_reducible refine (TR.out _ belo).mono ?_
 rintro e_x1 w_x1 ⟨rfl, hb_x1⟩
 obtain ⟨x1, rfl⟩ := later_is hb_x1
 clear hb_x1
 have hz_x1 := x1.bel.size
 try simp at hz_x1
 have l_x1_0 : w.heap.size < x1.val.heap.size := by omega
 have m_x1_0 : w.heap.size < x1.val.heap.size + 1 := by omega
 have q_ := x1.cq (w.heap.size) 0
 generalize c_x1_0_0 : x1.val.cell? ⟨w.heap.size, 0, none⟩ = q at q_
 first | (have q2_ : q = some _ := q_; subst q2_) | (simp [go_sem] at q_; have q2_ : q = some _ := q_; subst q2_) | (simp [go_sem, *] at q_; have q2_ : q = some _ := q_; subst q2_)
 have q_ := x1.zq (w.heap.size) 0
 generalize z_x1_0_0 : x1.val.frozen? ⟨w.heap.size, 0, none⟩ = q at q_
 first | (have q2_ : q = false := q_; subst q2_) | (simp [go_sem] at q_; have q2_ : q = false := q_; subst q2_) | (simp [go_sem, *] at q_; have q2_ : q = false := q_; subst q2_)
 have q_ := x1.cq (w.heap.size) 1
 generalize c_x1_0_1 : x1.val.cell? ⟨w.heap.size, 1, none⟩ = q at q_
 first | (have q2_ : q = some _ := q_; subst q2_) | (simp [go_sem] at q_; have q2_ : q = some _ := q_; subst q2_) | (simp [go_sem, *] at q_; have q2_ : q = some _ := q_; subst q2_)
 have q_ := x1.zq (w.heap.size) 1
 generalize z_x1_0_1 : x1.val.frozen? ⟨w.heap.size, 1, none⟩ = q at q_
 first | (have q2_ : q = false := q_; subst q2_) | (simp [go_sem] at q_; have q2_ : q = false := q_; subst q2_) | (simp [go_sem, *] at q_; have q2_ : q = false := q_; subst q2_)
 have l_x1_1 : (w.heap.size+1) < x1.val.heap.size := by omega
 have m_x1_1 : (w.heap.size+1) < x1.val.heap.size + 1 := by omega
 have q_ := x1.cq ((w.heap.size+1)) 0
 generalize c_x1_1_0 : x1.val.cell? ⟨(w.heap.size+1), 0, none⟩ = q at q_
 first | (have q2_ : q = some _ := q_; subst q2_) | (simp [go_sem] at q_; have q2_ : q = some _ := q_; subst q2_) | (simp [go_sem, *] at q_; have q2_ : q = some _ := q_; subst q2_)
 have q_ := x1.zq ((w.heap.size+1)) 0
 generalize z_x1_1_0 : x1.val.frozen? ⟨(w.heap.size+1), 0, none⟩ = q at q_
 first | (have q2_ : q = false := q_; subst q2_) | (simp [go_sem] at q_; have q2_ : q = false := q_; subst q2_) | (simp [go_sem, *] at q_; have q2_ : q = false := q_; subst q2_)
 have q_ := x1.cq ((w.heap.size+1)) 1
 generalize c_x1_1_1 : x1.val.cell? ⟨(w.heap.size+1), 1, none⟩ = q at q_
 first | (have q2_ : q = some _ := q_; subst q2_) | (simp [go_sem] at q_; have q2_ : q = some _ := q_; subst q2_) | (simp [go_sem, *] at q_; have q2_ : q = some _ := q_; subst q2_)
 have q_ := x1.zq ((w.heap.size+1)) 1
 generalize z_x1_1_1 : x1.val.frozen? ⟨(w.heap.size+1), 1, none⟩ = q at q_
 first | (have q2_ : q = false := q_; subst q2_) | (simp [go_sem] at q_; have q2_ : q = false := q_; subst q2_) | (simp [go_sem, *] at q_; have q2_ : q = false := q_; subst q2_)
 go_wp2_with fail
 with_reducible refine (RR.out _ belo).mono ?_
 rintro e_x2 w_x2 ⟨rfl, hb_x2⟩
 obtain ⟨x2, rfl⟩ := later_is hb_x2
 clear hb_x2
 have hz_x2 := x2.bel.size
 try simp at hz_x2
 replace c_x1_0_0 := x2.carry c_x1_0_0
 replace c_x1_0_1 := x2.carry c_x1_0_1
 replace c_x1_1_0 := x2.carry c_x1_1_0
 replace c_x1_1_1 := x2.carry c_x1_1_1
 have lc_x2_0 : w.heap.size < x2.val.heap.size := by omega
 have mc_x2_0 : w.heap.size < x2.val.heap.size + 1 := by omega
 have lc_x2_1 : (w.heap.size+1) < x2.val.heap.size := by omega
 have mc_x2_1 : (w.heap.size+1) < x2.val.heap.size + 1 := by omega
 go_wp2_with fail
 (with_reducible refine (fresh_s _).mono ?_)
 rintro e_ w_ ⟨ga, gb, rfl, M1, hga, hgb, hb2⟩
 have MS := Lib.hid M1
 obtain ⟨x3, rfl⟩ := later_is hb2
 have hz_x3 := x3.bel.size
 have hz_x3 := x3.bel.size
 try simp at hz_x3
 replace c_x1_0_0 := x3.carry c_x1_0_0
 replace c_x1_0_1 := x3.carry c_x1_0_1
 replace c_x1_1_0 := x3.carry c_x1_1_0
 replace c_x1_1_1 := x3.carry c_x1_1_1
 have lc_x3_0 : w.heap.size < x3.val.heap.size := by omega
 have mc_x3_0 : w.heap.size < x3.val.heap.size + 1 := by omega
 have lc_x3_1 : (w.heap.size+1) < x3.val.heap.size := by omega
 have mc_x3_1 : (w.heap.size+1) < x3.val.heap.size + 1 := by omega
 have o0 : w.heap.size + 2 ≤ x3.val.heap.size := by omega
 have o1 : w.heap.size + 2 ≤ ga := by omega
 have o2 : w.heap.size + 2 ≤ gb := by omega
 have bx3 : Below w.heap.size w x3.val := belo
 clear M1 hb2 hga hgb
 go_wp2
 go_loopw [30] (fun x wr => ∃ (j : Nat) (K : List ByteArray), j ≤ n ∧ Hid ((Vd.checkP t K (l.drop j)).getD (0, 0) = (r1, r2)) ∧ x = .int .i64 (j : Int) ∧ Hid (MetV skf wr ga gb K) ∧ Below (w.heap.size + 2) x3.val wr) (fun i _ => n - (RowKit.intOf i).toNat)
 case atStart => exact ⟨0, [], by omega, RV, rfl, MS, Below.refl _ _⟩
 case round =>
  clear MS
  rename World => wr
  obtain ⟨j, K, hj, HA, rfl, MS, hbr⟩ := hrel
  obtain ⟨x6, hx6⟩ := later_is hbr
  have hz_x6 := x6.bel.size
  obtain rfl := hx6
  have hz_x6 := x6.bel.size
  try simp at hz_x6
  have l_x6_0 : (w.heap.size+1) < x6.val.heap.size := by omega
  have m_x6_0 : (w.heap.size+1) < x6.val.heap.size + 1 := by omega
  have q_ := x6.cq ((w.heap.size+1)) 0
  generalize c_x6_0_0 : x6.val.cell? ⟨(w.heap.size+1), 0, none⟩ = q at q_
  first | (have q2_ : q = some _ := q_; subst q2_) | (simp [go_sem] at q_; have q2_ : q = some _ := q_; subst q2_) | (simp [go_sem, *] at q_; have q2_ : q = some _ := q_; subst q2_)
  have q_ := x6.zq ((w.heap.size+1)) 0
  generalize z_x6_0_0 : x6.val.frozen? ⟨(w.heap.size+1), 0, none⟩ = q at q_
  first | (have q2_ : q = false := q_; subst q2_) | (simp [go_sem] at q_; have q2_ : q = false := q_; subst q2_) | (simp [go_sem, *] at q_; have q2_ : q = false := q_; subst q2_)
  have q_ := x6.cq ((w.heap.size+1)) 1
  generalize c_x6_0_1 : x6.val.cell? ⟨(w.heap.size+1), 1, none⟩ = q at q_
  first | (have q2_ : q = some _ := q_; subst q2_) | (simp [go_sem] at q_; have q2_ : q = some _ := q_; subst q2_) | (simp [go_sem, *] at q_; have q2_ : q = some _ := q_; subst q2_)
  have q_ := x6.zq ((w.heap.size+1)) 1
  generalize z_x6_0_1 : x6.val.frozen? ⟨(w.heap.size+1), 1, none⟩ = q at q_
  first | (have q2_ : q = false := q_; subst q2_) | (simp [go_sem] at q_; have q2_ : q = false := q_; subst q2_) | (simp [go_sem, *] at q_; have q2_ : q = false := q_; subst q2_)
  have hbe : Below w.heap.size w x6.val := bx3.trans (hbr.mono (by omega))
  have kw1 := MS.out.lt
  have kw2 := MS.out.m.lt
  by_cases hlt : j < n
  rotate_left
  ·obtain rfl : j = n := by omega
   obtain ⟨rfl, rfl⟩ : 0 = r1 ∧ 0 = r2 := by
    have h3 := HA.out
    rw [← HN.out, List.drop_length] at h3
    simpa [Vd.checkP] using h3
   clear hlt hj
   go_wp2
   refine bodyPost_ret (v := faultV (0, 0)) (by simp [results, Try.results12, go_sem, *]) rfl ⟨rfl, belo⟩
  have hltI : (j : Int) < (n : Int) := by omega
  obtain ⟨g1, o1', p, rfl, hg, hp, hok, d0, d1, d2⟩ := (HH.out.to hbe).at_ (k := j) (by rw [HN.out]; exact hlt)
  have hgl : g1 < x6.val.heap.size := hg
  have HOK := Lib.hid (HH.out.ok p (List.mem_of_getElem? hp))
  have HCP := Lib.hid (Vd.checkP_at (t := t) (K := K) hp)
  have HP := Lib.hid hp
  obtain ⟨slave, line, sets, PA, pc⟩ := p
  obtain ⟨m, hm⟩ : ∃ m, sets.length = m := ⟨_, rfl⟩
  have HM := Lib.hid hm
  have hmc : m ≤ 9223372036854775807 := by have := hok.shp.le; have := hok.shp.cap; dsimp only at *; omega
  dsimp only at d0 d1 d2 HCP
  rw [hm] at d2
  rw [HCP.out] at HA
  replace FD := Lib.hid (FD.out slave)
  clear hp hg hok hm HCP
  cases q3 : firstAt Dv.name slave t with
  | none =>
   rw [q3] at HA FD
   obtain ⟨rfl, rfl⟩ : 150 = r1 ∧ line = r2 := by simpa using HA.out
   unfold atV at FD
   clear HA q3
   go_wp2_with fail
   with_reducible refine (FD.out _ belo).mono ?_
   rintro e_x7 w_x7 ⟨rfl, hb_x7⟩
   obtain ⟨x7, rfl⟩ := later_is hb_x7
   clear hb_x7
   have hz_x7 := x7.bel.size
   try simp at hz_x7
   have l_x7_0 : x6.val.heap.size < x7.val.heap.size := by omega
   have m_x7_0 : x6.val.heap.size < x7.val.heap.size + 1 := by omega
   have q_ := x7.cq (x6.val.heap.size) 0
   generalize c_x7_0_0 : x7.val.cell? ⟨x6.val.heap.size, 0, none⟩ = q at q_
   first | (have q2_ : q = some _ := q_; subst q2_) | (simp [go_sem] at q_; have q2_ : q = some _ := q_; subst q2_) | (simp [go_sem, *] at q_; have q2_ : q = some _ := q_; subst q2_)
   have q_ := x7.zq (x6.val.heap.size) 0
   generalize z_x7_0_0 : x7.val.frozen? ⟨x6.val.heap.size, 0, none⟩ = q at q_
   first | (have q2_ : q = false := q_; subst q2_) | (simp [go_sem] at q_; have q2_ : q = false := q_; subst q2_) | (simp [go_sem, *] at q_; have q2_ : q = false := q_; subst q2_)
   have q_ := x7.cq (x6.val.heap.size) 1
   generalize c_x7_0_1 : x7.val.cell? ⟨x6.val.heap.size, 1, none⟩ = q at q_
   first | (have q2_ : q = some _ := q_; subst q2_) | (simp [go_sem] at q_; have q2_ : q = some _ := q_; subst q2_) | (simp [go_sem, *] at q_; have q2_ : q = some _ := q_; subst q2_)
   have q_ := x7.zq (x6.val.heap.size) 1
   generalize z_x7_0_1 : x7.val.frozen? ⟨x6.val.heap.size, 1, none⟩ = q at q_
   first | (have q2_ : q = false := q_; subst q2_) | (simp [go_sem] at q_; have q2_ : q = false := q_; subst q2_) | (simp [go_sem, *] at q_; have q2_ : q = false := q_; subst q2_)
   have q_ := x7.cq (x6.val.heap.size) 2
   generalize c_x7_0_2 : x7.val.cell? ⟨x6.val.heap.size, 2, none⟩ = q at q_
   first | (have q2_ : q = some _ := q_; subst q2_) | (simp [go_sem] at q_; have q2_ : q = some _ := q_; subst q2_) | (simp [go_sem, *] at q_; have q2_ : q = some _ := q_; subst q2_)
   have q_ := x7.zq (x6.val.heap.size) 2
   generalize z_x7_0_2 : x7.val.frozen? ⟨x6.val.heap.size, 2, none⟩ = q at q_
   first | (have q2_ : q = false := q_; subst q2_) | (simp [go_sem] at q_; have q2_ : q = false := q_; subst q2_) | (simp [go_sem, *] at q_; have q2_ : q = false := q_; subst q2_)
   have l_x7_1 : (w.heap.size+1) < x7.val.heap.size := by omega
   have m_x7_1 : (w.heap.size+1) < x7.val.heap.size + 1 := by omega
   have q_ := x7.cq ((w.heap.size+1)) 0
   generalize c_x7_1_0 : x7.val.cell? ⟨(w.heap.size+1), 0, none⟩ = q at q_
   first | (have q2_ : q = some _ := q_; subst q2_) | (simp [go_sem] at q_; have q2_ : q = some _ := q_; subst q2_) | (simp [go_sem, *] at q_; have q2_ : q = some _ := q_; subst q2_)
   have q_ := x7.zq ((w.heap.size+1)) 0
   generalize z_x7_1_0 : x7.val.frozen? ⟨(w.heap.size+1), 0, none⟩ = q at q_
   first | (have q2_ : q = false := q_; subst q2_) | (simp [go_sem] at q_; have q2_ : q = false := q_; subst q2_) | (simp [go_sem, *] at q_; have q2_ : q = false := q_; subst q2_)
   have q_ := x7.cq ((w.heap.size+1)) 1
   generalize c_x7_1_1 : x7.val.cell? ⟨(w.heap.size+1), 1, none⟩ = q at q_
   first | (have q2_ : q = some _ := q_; subst q2_) | (simp [go_sem] at q_; have q2_ : q = some _ := q_; subst q2_) | (simp [go_sem, *] at q_; have q2_ : q = some _ := q_; subst q2_)
   have q_ := x7.zq ((w.heap.size+1)) 1
   generalize z_x7_1_1 : x7.val.frozen? ⟨(w.heap.size+1), 1, none⟩ = q at q_
   first | (have q2_ : q = false := q_; subst q2_) | (simp [go_sem] at q_; have q2_ : q = false := q_; subst q2_) | (simp [go_sem, *] at q_; have q2_ : q = false := q_; subst q2_)
   go_wp2
   refine bodyPost_ret (v := faultV (150, line)) (by simp [results, Try.results12, go_sem, *]) rfl ⟨rfl, belo⟩
  | some i =>
   obtain ⟨d, hd, hdn⟩ := firstAt_is q3
   have HD := Lib.hid hd
   have hil : i < nt := by rw [← HNT.out]; exact (List.getElem?_eq_some_iff.1 hd).1
   have hilI : (i : Int) < (nt : Int) := by omega
   rw [q3, Option.bind_some, hd] at HA
   rw [q3] at FD
   dsimp only at HA
   unfold atV at FD
   clear q3 hd hdn
   go_wp2_with fail
   with_reducible refine (FD.out _ belo).mono ?_
   rintro e_x7 w_x7 ⟨rfl, hb_x7⟩
   obtain ⟨x7, rfl⟩ := later_is hb_x7
   clear hb_x7
   have hz_x7 := x7.bel.size
   try simp at hz_x7
   have l_x7_0 : x6.val.heap.size < x7.val.heap.size := by omega
   have m_x7_0 : x6.val.heap.size < x7.val.heap.size + 1 := by omega
   have q_ := x7.cq (x6.val.heap.size) 0
   generalize c_x7_0_0 : x7.val.cell? ⟨x6.val.heap.size, 0, none⟩ = q at q_
   first | (have q2_ : q = some _ := q_; subst q2_) | (simp [go_sem] at q_; have q2_ : q = some _ := q_; subst q2_) | (simp [go_sem, *] at q_; have q2_ : q = some _ := q_; subst q2_)
   have q_ := x7.zq (x6.val.heap.size) 0
   generalize z_x7_0_0 : x7.val.frozen? ⟨x6.val.heap.size, 0, none⟩ = q at q_
   first | (have q2_ : q = false := q_; subst q2_) | (simp [go_sem] at q_; have q2_ : q = false := q_; subst q2_) | (simp [go_sem, *] at q_; have q2_ : q = false := q_; subst q2_)
   have q_ := x7.cq (x6.val.heap.size) 1
   generalize c_x7_0_1 : x7.val.cell? ⟨x6.val.heap.size, 1, none⟩ = q at q_
   first | (have q2_ : q = some _ := q_; subst q2_) | (simp [go_sem] at q_; have q2_ : q = some _ := q_; subst q2_) | (simp [go_sem, *] at q_; have q2_ : q = some _ := q_; subst q2_)
   have q_ := x7.zq (x6.val.heap.size) 1
   generalize z_x7_0_1 : x7.val.frozen? ⟨x6.val.heap.size, 1, none⟩ = q at q_
   first | (have q2_ : q = false := q_; subst q2_) | (simp [go_sem] at q_; have q2_ : q = false := q_; subst q2_) | (simp [go_sem, *] at q_; have q2_ : q = false := q_; subst q2_)
   have q_ := x7.cq (x6.val.heap.size) 2
   generalize c_x7_0_2 : x7.val.cell? ⟨x6.val.heap.size, 2, none⟩ = q at q_
   first | (have q2_ : q = some _ := q_; subst q2_) | (simp [go_sem] at q_; have q2_ : q = some _ := q_; subst q2_) | (simp [go_sem, *] at q_; have q2_ : q = some _ := q_; subst q2_)
   have q_ := x7.zq (x6.val.heap.size) 2
   generalize z_x7_0_2 : x7.val.frozen? ⟨x6.val.heap.size, 2, none⟩ = q at q_
   first | (have q2_ : q = false := q_; subst q2_) | (simp [go_sem] at q_; have q2_ : q = false := q_; subst q2_) | (simp [go_sem, *] at q_; have q2_ : q = false := q_; subst q2_)
   have l_x7_1 : (w.heap.size+1) < x7.val.heap.size := by omega
   have m_x7_1 : (w.heap.size+1) < x7.val.heap.size + 1 := by omega
   have q_ := x7.cq ((w.heap.size+1)) 0
   generalize c_x7_1_0 : x7.val.cell? ⟨(w.heap.size+1), 0, none⟩ = q at q_
   first | (have q2_ : q = some _ := q_; subst q2_) | (simp [go_sem] at q_; have q2_ : q = some _ := q_; subst q2_) | (simp [go_sem, *] at q_; have q2_ : q = some _ := q_; subst q2_)
   have q_ := x7.zq ((w.heap.size+1)) 0
   generalize z_x7_1_0 : x7.val.frozen? ⟨(w.heap.size+1), 0, none⟩ = q at q_
   first | (have q2_ : q = false := q_; subst q2_) | (simp [go_sem] at q_; have q2_ : q = false := q_; subst q2_) | (simp [go_sem, *] at q_; have q2_ : q = false := q_; subst q2_)
   have q_ := x7.cq ((w.heap.size+1)) 1
   generalize c_x7_1_1 : x7.val.cell? ⟨(w.heap.size+1), 1, none⟩ = q at q_
   first | (have q2_ : q = some _ := q_; subst q2_) | (simp [go_sem] at q_; have q2_ : q = some _ := q_; subst q2_) | (simp [go_sem, *] at q_; have q2_ : q = some _ := q_; subst q2_)
   have q_ := x7.zq ((w.heap.size+1)) 1
   generalize z_x7_1_1 : x7.val.frozen? ⟨(w.heap.size+1), 1, none⟩ = q at q_
   first | (have q2_ : q = false := q_; subst q2_) | (simp [go_sem] at q_; have q2_ : q = false := q_; subst q2_) | (simp [go_sem, *] at q_; have q2_ : q = false := q_; subst q2_)
   have hb7 : Below x6.val.heap.size x6.val x7.val := belo
   replace MS := Lib.hid (MS.out.to hb7)
   have hbx7 : Below w.heap.size w x7.val := belo
   cases hK : hasK K slave
   rotate_left
   ·have AS := Lib.hid (ask_s slave _ ga gb _ false ⟨fun h => (Bool.false_ne_true h).elim, fun h => absurd ((hasK_iff _ _).1 hK) h⟩ MS.out)
    obtain ⟨rfl, rfl⟩ : 150 = r1 ∧ line = r2 := by
     have h3 := HA.out
     rw [if_pos hK] at h3
     simpa using h3
    clear HA hK
    go_wp2_with fail
    (with_reducible refine AS.out.mono ?_)
    rintro e_ w8 ⟨rfl, m8, f8⟩
    have hb8 : Below w.heap.size w w8 := hbx7.trans (f8.below (by omega) hbx7.size)
    have na : w.heap.size + 1 ≠ gb := by omega
    have nb : x6.val.heap.size ≠ gb := by omega
    have r8a : w8.cell? ⟨w.heap.size + 1, 0, none⟩ = some (.int .i64 0) := f8.c c_x7_1_0 na
    have r8b : w8.cell? ⟨w.heap.size + 1, 1, none⟩ = some (.int .i64 0) := f8.c c_x7_1_1 na
    have y8a : w8.frozen? ⟨w.heap.size + 1, 0, none⟩ = false := f8.z z_x7_1_0 (by omega) na
    have y8b : w8.frozen? ⟨w.heap.size + 1, 1, none⟩ = false := f8.z z_x7_1_1 (by omega) na
    have p8a : w8.cell? ⟨x6.val.heap.size, 0, none⟩ = some (.string slave) := f8.c c_x7_0_0 nb
    have p8b : w8.cell? ⟨x6.val.heap.size, 1, none⟩ = some (.int .i64 line) := f8.c c_x7_0_1 nb
    have p8c : w8.cell? ⟨x6.val.heap.size, 2, none⟩ = some (.slice PA m pc) := f8.c c_x7_0_2 nb
    have l8 := f8.size
    have l8a : w.heap.size + 1 < w8.heap.size := by omega
    have l8b : x6.val.heap.size < w8.heap.size := by omega
    go_wp2
    refine bodyPost_ret (v := faultV (150, line)) (by simp [results, Try.results12, go_sem, *]) rfl ⟨rfl, belo⟩
   have AS := Lib.hid (ask_s slave _ ga gb _ true ⟨fun _ h => (by have := (hasK_iff _ _).2 h; rw [hK] at this; cases this), fun _ => rfl⟩ MS.out)
   have HA2 : Hid ((match Vd.checkS d.pts [] sets with | some f => some f | none => Vd.checkP t (slave :: K) (l.drop (j + 1))).getD (0, 0) = (r1, r2)) := Lib.hid (by
    have h3 := HA.out
    rw [if_neg (by rw [hK]; decide)] at h3
    exact h3)
   clear HA hK
   go_wp2_with fail
   (with_reducible refine AS.out.mono ?_)
   rintro e_ w8 ⟨rfl, m8, f8⟩
   have hb8 : Below w.heap.size w w8 := hbx7.trans (f8.below (by omega) hbx7.size)
   have na : w.heap.size + 1 ≠ gb := by omega
   have nb : x6.val.heap.size ≠ gb := by omega
   have r8a : w8.cell? ⟨w.heap.size + 1, 0, none⟩ = some (.int .i64 0) := f8.c c_x7_1_0 na
   have r8b : w8.cell? ⟨w.heap.size + 1, 1, none⟩ = some (.int .i64 0) := f8.c c_x7_1_1 na
   have y8a : w8.frozen? ⟨w.heap.size + 1, 0, none⟩ = false := f8.z z_x7_1_0 (by omega) na
   have y8b : w8.frozen? ⟨w.heap.size + 1, 1, none⟩ = false := f8.z z_x7_1_1 (by omega) na
   have p8a : w8.cell? ⟨x6.val.heap.size, 0, none⟩ = some (.string slave) := f8.c c_x7_0_0 nb
   have p8b : w8.cell? ⟨x6.val.heap.size, 1, none⟩ = some (.int .i64 line) := f8.c c_x7_0_1 nb
   have p8c : w8.cell? ⟨x6.val.heap.size, 2, none⟩ = some (.slice PA m pc) := f8.c c_x7_0_2 nb
   have l8 := f8.size
   have l8a : w.heap.size + 1 < w8.heap.size := by omega
   have l8b : x6.val.heap.size < w8.heap.size := by omega
   have MS8 := Lib.hid m8
   have b38 : Below (w.heap.size + 2) x3.val w8 := (hbr.trans (hb7.mono (by omega))).trans (f8.below (by omega) (by omega))
   go_wp2_with fail
   (with_reducible refine (fresh_s _).mono ?_)
   rintro e_ w_ ⟨gc, gd, rfl, M9, hgc, hgd, hb9⟩
   have MI := Lib.hid M9
   obtain ⟨x9, rfl⟩ := later_is hb9
   have hz_x9 := x9.bel.size
   have q1a := MS8.out.lt
   have q1b := MS8.out.m.lt
   clear M9 hb9 m8
   obtain ⟨res, hres⟩ : ∃ res, Vd.checkS d.pts [] sets = res := ⟨_, rfl⟩
   rw [hres] at HA2
   have HRES := Lib.hid hres
   clear hres
   go_wp2
   go_loopw [57] (fun x wv => ∃ (k : Nat) (K2 : List ByteArray), k ≤ m ∧ Hid (Vd.checkS d.pts K2 (sets.drop k) = res) ∧ x = .int .i64 (k : Int) ∧ Hid (MetV skf wv gc gd K2) ∧ Below w8.heap.size w8 wv) (fun i _ => m - (RowKit.intOf i).toNat)
   case atStart => exact ⟨0, [], by omega, HRES, rfl, MI, x9.bel⟩
   case round =>
    clear MI
    rename World => wv
    obtain ⟨k, K2, hk, HB, rfl, MI, hbv⟩ := hrel
    obtain ⟨xv, hxv⟩ := later_is hbv
    have hz_xv := xv.bel.size
    obtain rfl := hxv
    have hz_xv := xv.bel.size
    try simp at hz_xv
    have l_xv_0 : (w.heap.size+1) < xv.val.heap.size := by omega
    have m_xv_0 : (w.heap.size+1) < xv.val.heap.size + 1 := by omega
    have q_ := xv.cq ((w.heap.size+1)) 0
    generalize c_xv_0_0 : xv.val.cell? ⟨(w.heap.size+1), 0, none⟩ = q at q_
    first | (have q2_ : q = some _ := q_; subst q2_) | (simp [go_sem] at q_; have q2_ : q = some _ := q_; subst q2_) | (simp [go_sem, *] at q_; have q2_ : q = some _ := q_; subst q2_)
    have q_ := xv.zq ((w.heap.size+1)) 0
    generalize z_xv_0_0 : xv.val.frozen? ⟨(w.heap.size+1), 0, none⟩ = q at q_
    first | (have q2_ : q = false := q_; subst q2_) | (simp [go_sem] at q_; have q2_ : q = false := q_; subst q2_) | (simp [go_sem, *] at q_; have q2_ : q = false := q_; subst q2_)
    have q_ := xv.cq ((w.heap.size+1)) 1
    generalize c_xv_0_1 : xv.val.cell? ⟨(w.heap.size+1), 1, none⟩ = q at q_
    first | (have q2_ : q = some _ := q_; subst q2_) | (simp [go_sem] at q_; have q2_ : q = some _ := q_; subst q2_) | (simp [go_sem, *] at q_; have q2_ : q = some _ := q_; subst q2_)
    have q_ := xv.zq ((w.heap.size+1)) 1
    generalize z_xv_0_1 : xv.val.frozen? ⟨(w.heap.size+1), 1, none⟩ = q at q_
    first | (have q2_ : q = false := q_; subst q2_) | (simp [go_sem] at q_; have q2_ : q = false := q_; subst q2_) | (simp [go_sem, *] at q_; have q2_ : q = false := q_; subst q2_)
    have l_xv_1 : x6.val.heap.size < xv.val.heap.size := by omega
    have m_xv_1 : x6.val.heap.size < xv.val.heap.size + 1 := by omega
    have q_ := xv.cq (x6.val.heap.size) 0
    generalize c_xv_1_0 : xv.val.cell? ⟨x6.val.heap.size, 0, none⟩ = q at q_
    first | (have q2_ : q = some _ := q_; subst q2_) | (simp [go_sem] at q_; have q2_ : q = some _ := q_; subst q2_) | (simp [go_sem, *] at q_; have q2_ : q = some _ := q_; subst q2_)
    have q_ := xv.cq (x6.val.heap.size) 1
    generalize c_xv_1_1 : xv.val.cell? ⟨x6.val.heap.size, 1, none⟩ = q at q_
    first | (have q2_ : q = some _ := q_; subst q2_) | (simp [go_sem] at q_; have q2_ : q = some _ := q_; subst q2_) | (simp [go_sem, *] at q_; have q2_ : q = some _ := q_; subst q2_)
    have q_ := xv.cq (x6.val.heap.size) 2
    generalize c_xv_1_2 : xv.val.cell? ⟨x6.val.heap.size, 2, none⟩ = q at q_
    first | (have q2_ : q = some _ := q_; subst q2_) | (simp [go_sem] at q_; have q2_ : q = some _ := q_; subst q2_) | (simp [go_sem, *] at q_; have q2_ : q = some _ := q_; subst q2_)
    have hbev : Below w.heap.size w xv.val := hb8.trans (hbv.mono (by omega))
    have kv1 := MI.out.lt
    have kv2 := MI.out.m.lt
    by_cases hlk : k < m
    rotate_left
    ·obtain rfl : k = m := by omega
     have hno : res = none := by
      have h3 := HB.out
      rw [← HM.out, List.drop_length] at h3
      exact h3.symm
     rw [hno] at HA2
     have MSv := Lib.hid (MS8.out.to hbv)
     have b3v : Below (w.heap.size + 2) x3.val xv.val := b38.trans (hbv.mono (by omega))
     clear hlk hk hno HB HRES
     go_wp2
     go_roundw
     case rel => exact ⟨j + 1, _, by omega, HA2, by go_num, MSv, b3v⟩
     case measure => simp [RowKit.intOf]; omega
    have hlkI : (k : Int) < (m : Int) := by omega
    have HOKv := Lib.hid (HOK.out.to hbev)
    obtain ⟨g3, o3, st, hA3, hg3, hs3, s0, s1, s2, s3, s4⟩ := St.at_ HOKv.out.rc (k := k) (by rw [HM.out]; exact hlk)
    have hS3 := Lib.hid hs3
    have HF := Lib.hid (HOK.out.fit st (List.mem_of_getElem? hs3))
    dsimp only at hA3
    subst hA3
    have HCS := Lib.hid (Vd.checkS_at (pts := d.pts) (K := K2) hs3)
    rw [HCS.out] at HB
    have hgl3 : g3 < xv.val.heap.size := hg3
    clear hs3 hg3 HCS
    obtain ⟨gt, ot, d', hAt, hgt, hd', hdok, t0, t1⟩ := (HT.out.to hbev).at_ (k := i) (by rw [HNT.out]; exact hil)
    obtain rfl : d' = d := Option.some.inj (hd'.symm.trans HD.out)
    subst hAt
    have hgtl : gt < xv.val.heap.size := hgt
    obtain ⟨mt, hmt⟩ : ∃ m, d'.pts.length = m := ⟨_, rfl⟩
    have hsh := hdok.shp
    rw [hmt] at t1 hsh
    have PT := Lib.hid (fun (x : World) (hx : Below xv.val.heap.size xv.val x) => point_any st.point d'.name d'.A d'.pts mt d'.c x hmt (hdok.to hx).rc hsh)
    have DF := Lib.hid hdok.fit
    obtain ⟨dn, pts, DA, dc⟩ := d'
    dsimp only at t0 t1 PT HB DF
    clear hdok hgt hd' hsh
    obtain ⟨sp, ⟨vn, vd⟩, su, sl⟩ := st
    dsimp only at s0 s1 s2 s3 s4 PT HB
    obtain ⟨pz, okp, hpz⟩ : ∃ pz okp, Vd.point pts sp = if okp = true then some pz else none := by
     cases h : Vd.point pts sp with
     | none => exact ⟨pt0, false, by simp⟩
     | some p => exact ⟨p, true, by simp⟩
    have HPZ := Lib.hid hpz
    have hptv : ptV2 (Vd.point pts sp) = .tuple #[ptV (if okp = true then pz else pt0), .bool okp] := by
     rw [hpz]; cases okp <;> rfl
    obtain ⟨py, hpy⟩ : ∃ py, (if okp = true then pz else pt0) = py := ⟨_, rfl⟩
    have HPY := Lib.hid hpy
    rw [hptv, hpy] at PT
    clear hpz hptv hpy
    obtain ⟨pn, pat, pdg, psg, ⟨pln, pld⟩, ⟨phn, phd⟩, pun⟩ := py
    go_upto_region 14 with fail
    obtain ⟨wa, hwa⟩ : ∃ w_q_, w_q_ = xv.val.alloc (.cells #[.string sp, .int .i64 vn, .int .u8 (vd : Int), .string su, .int .i64 sl] 48) := ⟨_, rfl⟩
    rw [← hwa]
    have ba : Below xv.val.heap.size xv.val wa := by rw [hwa]; exact bel_alloc (Below.refl _ _) _
    have hsz : wa.heap.size = xv.val.heap.size + 1 := by rw [hwa]; simp
    have RS : Hid (RowAt wa xv.val.heap.size 48 [.string sp, .int .i64 vn, .int .u8 (vd : Int), .string su, .int .i64 sl]) := Lib.hid (by rw [hwa]; exact RowAt.new' _ _ _ _ rfl)
    have v0 : wa.cell? ⟨xv.val.heap.size, 0, none⟩ = some (.string sp) := RS.out.cells 0
    have ta0 : wa.cell? ⟨gt, ot + i * 2, none⟩ = some (.string dn) := (ba.cell (p := ⟨gt, ot + i * 2, none⟩) hgtl).trans t0
    have ta1 : wa.cell? ⟨gt, ot + i * 2 + 1, none⟩ = some (.slice DA mt dc) := (ba.cell (p := ⟨gt, ot + i * 2 + 1, none⟩) hgtl).trans t1
    clear hwa
    have HSZ := Lib.hid hsz
    clear hsz
    have hgt2 : gt < wa.heap.size := by have := HSZ.out; omega
    have hgv2 : xv.val.heap.size < wa.heap.size := by have := HSZ.out; omega
    have HSA := Lib.hid (fun (W : World) (b : Below wa.heap.size wa W) => (⟨(b.cell (p := ⟨gt, ot + i * 2, none⟩) hgt2).trans ta0, (b.cell (p := ⟨gt, ot + i * 2 + 1, none⟩) hgt2).trans ta1, (b.cell (p := ⟨xv.val.heap.size, 0, none⟩) hgv2).trans v0⟩ : W.cell? ⟨gt, ot + i * 2, none⟩ = some (.string dn) ∧ W.cell? ⟨gt, ot + i * 2 + 1, none⟩ = some (.slice DA mt dc) ∧ W.cell? ⟨xv.val.heap.size, 0, none⟩ = some (.string sp)))
    refine wp_region_held_drew (S := (fun w' => w'.cell? ⟨gt, ot + i * 2, none⟩ = some (.string dn) ∧ w'.cell? ⟨gt, ot + i * 2 + 1, none⟩ = some (.slice DA mt dc) ∧ w'.cell? ⟨xv.val.heap.size, 0, none⟩ = some (.string sp))) (by kernel_rfl) ?_ (fun hHeld => ?_)
    ·exact ⟨ta0, ta1, v0⟩
    refine takeD (i := 0) (oi := _) (v := ?vv1) (d := some 62) rfl (by kernel_rfl) (by kernel_rfl) (by kernel_rfl) (by kernel_rfl) (fun _ _ _ h => h) (Or.inl ⟨by kernel_rfl, ?_⟩) (by assumption) ?_
    rotate_left 1
    ·intro W_ hSw; (try dsimp only at hSw); go_simp; (first | done | with_reducible rfl)
    try simp only [Act.put, List.setIfInBounds_toArray, List.set_cons_zero, List.set_cons_succ]
    refine takeD (i := 1) (oi := _) (v := ?vv2) (d := some 63) rfl (by kernel_rfl) (by kernel_rfl) (by kernel_rfl) (by kernel_rfl) (fun _ _ _ h => h) (Or.inl ⟨by kernel_rfl, ?_⟩) (by assumption) ?_
    rotate_left 1
    ·intro W_ hSw; (try dsimp only at hSw); go_simp; (first | done | with_reducible rfl)
    try simp only [Act.put, List.setIfInBounds_toArray, List.set_cons_zero, List.set_cons_succ]
    refine takeD (i := 2) (oi := _) (v := ?vv3) (d := some 64) rfl (by kernel_rfl) (by kernel_rfl) (by kernel_rfl) (by kernel_rfl) (fun _ _ _ h => h) (Or.inl ⟨by kernel_rfl, ?_⟩) (by assumption) ?_
    rotate_left 1
    ·intro W_ hSw; (try dsimp only at hSw); go_simp; (first | done | with_reducible rfl)
    try simp only [Act.put, List.setIfInBounds_toArray, List.set_cons_zero, List.set_cons_succ]
    refine takeD (i := 3) (oi := _) (v := ?vv4) (d := some 65) rfl (by kernel_rfl) (by kernel_rfl) (by kernel_rfl) (by kernel_rfl) (fun _ _ _ h => h) (Or.inl ⟨by kernel_rfl, ?_⟩) (by assumption) ?_
    rotate_left 1
    ·intro W_ hSw; (try dsimp only at hSw); go_simp; (first | done | with_reducible rfl)
    try simp only [Act.put, List.setIfInBounds_toArray, List.set_cons_zero, List.set_cons_succ]
    refine takeD (i := 4) (oi := _) (v := ?vv5) (d := some 66) rfl (by kernel_rfl) (by kernel_rfl) (by kernel_rfl) (by kernel_rfl) (fun _ _ _ h => h) (Or.inl ⟨by kernel_rfl, ?_⟩) (by assumption) ?_
    rotate_left 1
    ·intro W_ hSw; (try dsimp only at hSw); go_simp; (first | done | with_reducible rfl)
    try simp only [Act.put, List.setIfInBounds_toArray, List.set_cons_zero, List.set_cons_succ]
    refine takeD (i := 5) (oi := _) (v := ?vv6) (d := some 67) rfl (by kernel_rfl) (by kernel_rfl) (by kernel_rfl) (by kernel_rfl) (fun _ _ _ h => h) (Or.inl ⟨by kernel_rfl, ?_⟩) (by assumption) ?_
    rotate_left 1
    ·intro W_ hSw; (try dsimp only at hSw); go_simp; (first | done | with_reducible rfl)
    try simp only [Act.put, List.setIfInBounds_toArray, List.set_cons_zero, List.set_cons_succ]
    refine wpAnyH_ready (rs := [6, 10]) (by kernel_rfl) (by simp) ?_
    refine AllReadyH.cons (o := _) rfl (fun K hK => ?_) (AllReadyH.cons (o := _) rfl (fun K hK => ?_) AllReadyH.nil)
    ·go_simp
     (go_at_call 32; (with_reducible refine (PT.out _ (ba.trans ((Below.refl _ _).drew))).mono ?_); rintro e_ wp ⟨rfl, hbp⟩; have BP := Lib.hid ((Below.refl wa.heap.size wa).drew.trans hbp))
     go_wp2_with fail
     refine hK.out _ _ ?_ (fun hHeld => ?_)
     ·exact HSA.out _ BP.out
     clear hK K
     try simp only [Act.put, List.setIfInBounds_toArray, List.set_cons_zero, List.set_cons_succ]
     refine takeD (i := 7) (oi := _) (v := ?vv7) (d := some 61) rfl (by kernel_rfl) (by kernel_rfl) (by kernel_rfl) (by kernel_rfl) (fun _ _ _ h => h) (Or.inl ⟨by kernel_rfl, ?_⟩) (by assumption) ?_
     rotate_left 1
     ·intro W_ hSw; (try dsimp only at hSw); go_simp; (first | done | with_reducible rfl)
     try simp only [Act.put, List.setIfInBounds_toArray, List.set_cons_zero, List.set_cons_succ]
     refine takeD (i := 8) (oi := _) (v := ?vv8) (d := some 69) rfl (by kernel_rfl) (by kernel_rfl) (by kernel_rfl) (by kernel_rfl) (fun _ _ _ h => h) (Or.inl ⟨by kernel_rfl, ?_⟩) (by assumption) ?_
     rotate_left 1
     ·intro W_ hSw; (try dsimp only at hSw); go_simp; (first | done | with_reducible rfl)
     try simp only [Act.put, List.setIfInBounds_toArray, List.set_cons_zero, List.set_cons_succ]
     refine takeD (i := 9) (oi := _) (v := ?vv9) (d := some 70) rfl (by kernel_rfl) (by kernel_rfl) (by kernel_rfl) (by kernel_rfl) (fun _ _ _ h => h) (Or.inl ⟨by kernel_rfl, ?_⟩) (by assumption) ?_
     rotate_left 1
     ·intro W_ hSw; (try dsimp only at hSw); go_simp; (first | done | with_reducible rfl)
     try simp only [Act.put, List.setIfInBounds_toArray, List.set_cons_zero, List.set_cons_succ]
     refine wpAnyH_ready (rs := [10]) (by kernel_rfl) (by simp) ?_
     refine AllReadyH.cons (o := _) rfl (fun K hK => ?_) AllReadyH.nil
     go_simp
     refine hK.out _ _ ?_ (fun hHeld => ?_)
     ·exact HSA.out _ (bel_alloc BP.out _)
     clear hK K
     try simp only [Act.put]
     try simp only [List.setIfInBounds_toArray]
     try simp only [List.set_cons_succ]
     try simp only [List.set_cons_zero]
     refine wpAnyH_ready (rs := [11]) (by kernel_rfl) (by simp) ?_
     refine AllReadyH.cons (o := _) rfl (fun K hK => ?_) AllReadyH.nil
     (refine step_store_var rfl 43 (.tmp 13) (.tmp 69) rfl wp.heap.size (ptF pt0) (ptF ⟨pn, pat, pdg, psg, ⟨pln, pld⟩, ⟨phn, phd⟩, pun⟩) 9 rfl rfl (RowAt.new' _ _ _ _ rfl) rfl rfl rfl (ptF_one _) ?_; intro wq rq kq; have RQ := Lib.hid rq; have HGP := Lib.hid BP.out.size; have BQ := Lib.hid (kq.to (bel_alloc BP.out _) BP.out.size); clear rq kq)
     refine hK.out _ _ ?_ (fun hHeld => ?_)
     ·exact HSA.out _ BQ.out
     clear hK K
     try simp only [Act.put]
     try simp only [List.setIfInBounds_toArray]
     try simp only [List.set_cons_succ]
     try simp only [List.set_cons_zero]
     obtain ⟨gp, hgp⟩ : ∃ g, g = wp.heap.size := ⟨_, rfl⟩
     replace HGP := Lib.hid (show wa.heap.size ≤ gp by rw [hgp]; exact HGP.out)
     rw [← hgp] at RQ ⊢
     clear hgp BP hbp
     refine takeD (i := 12) (oi := _) (v := ?vv10) (d := some 14) rfl (by kernel_rfl) (by kernel_rfl) (by kernel_rfl) (by kernel_rfl) (fun _ _ _ h => h) (Or.inl ⟨by kernel_rfl, ?_⟩) (by assumption) ?_
     rotate_left 1
     ·intro W_ hSw; (try dsimp only at hSw); go_simp; (first | done | with_reducible rfl)
     try simp only [Act.put, List.setIfInBounds_toArray, List.set_cons_zero, List.set_cons_succ]
     refine wpAnyH_done (by kernel_rfl) ?_ _
     have bxq : Below xv.val.heap.size xv.val wq := ba.trans (BQ.out.mono (by have := HSZ.out; omega))
     have lxq : xv.val.heap.size < wq.heap.size := by have := BQ.out.size; omega
     have hbq : Below w.heap.size w wq := hbev.trans (bxq.mono hbev.size)
     have e0 : wq.cell? ⟨xv.val.heap.size, 0, none⟩ = some (.string sp) := (BQ.out.cell (p := ⟨xv.val.heap.size, 0, none⟩) hgv2).trans (RS.out.cells 0)
     have e1 : wq.cell? ⟨xv.val.heap.size, 1, none⟩ = some (.int .i64 vn) := (BQ.out.cell (p := ⟨xv.val.heap.size, 1, none⟩) hgv2).trans (RS.out.cells 1)
     have e2 : wq.cell? ⟨xv.val.heap.size, 2, none⟩ = some (.int .u8 (vd : Int)) := (BQ.out.cell (p := ⟨xv.val.heap.size, 2, none⟩) hgv2).trans (RS.out.cells 2)
     have e3 : wq.cell? ⟨xv.val.heap.size, 3, none⟩ = some (.string su) := (BQ.out.cell (p := ⟨xv.val.heap.size, 3, none⟩) hgv2).trans (RS.out.cells 3)
     have e4 : wq.cell? ⟨xv.val.heap.size, 4, none⟩ = some (.int .i64 sl) := (BQ.out.cell (p := ⟨xv.val.heap.size, 4, none⟩) hgv2).trans (RS.out.cells 4)
     have lrx : w.heap.size + 1 < xv.val.heap.size := by omega
     have rq0 : wq.cell? ⟨w.heap.size + 1, 0, none⟩ = some (.int .i64 0) := (bxq.cell (p := ⟨w.heap.size + 1, 0, none⟩) lrx).trans c_xv_0_0
     have rq1 : wq.cell? ⟨w.heap.size + 1, 1, none⟩ = some (.int .i64 0) := (bxq.cell (p := ⟨w.heap.size + 1, 1, none⟩) lrx).trans c_xv_0_1
     have rz0 : wq.frozen? ⟨w.heap.size + 1, 0, none⟩ = false := (bxq.frozen (p := ⟨w.heap.size + 1, 0, none⟩) lrx).trans z_xv_0_0
     have rz1 : wq.frozen? ⟨w.heap.size + 1, 1, none⟩ = false := (bxq.frozen (p := ⟨w.heap.size + 1, 1, none⟩) lrx).trans z_xv_0_1
     replace MI := Lib.hid (MI.out.to bxq)
     have lgp : gp < wq.heap.size := RQ.out.lt
     have hgx : xv.val.heap.size < gp := by have := HGP.out; have := HSZ.out; omega
     clear v0 ta0 ta1 t0 t1 s0 s1 s2 s3 s4 c_xv_0_0 c_xv_0_1 z_xv_0_0 z_xv_0_1 PT HSA
     cases okp
     ·have hE : Vd.setE pts K2 ⟨sp, ⟨vn, vd⟩, su, sl⟩ = 151 := by unfold Vd.setE; dsimp only; rw [HPZ.out]; rfl
      obtain ⟨rfl, rfl⟩ : 151 = r1 ∧ sl = r2 := by
       have h3 := HB.out
       rw [hE, if_neg (by decide)] at h3
       have h4 := HA2.out
       rw [← h3] at h4
       simpa using h4
      clear hE HA2 HB
      go_wp2
      refine bodyPost_ret (v := faultV (151, sl)) (by simp [results, Try.results12, go_sem, *]) rfl ⟨rfl, belo⟩
     obtain rfl : pz = ⟨pn, pat, pdg, psg, ⟨pln, pld⟩, ⟨phn, phd⟩, pun⟩ := HPY.out
     have HPT : Hid (Vd.point pts sp = some ⟨pn, pat, pdg, psg, ⟨pln, pld⟩, ⟨phn, phd⟩, pun⟩) := Lib.hid HPZ.out
     have hfit : Pt.Fit ⟨pn, pat, pdg, psg, ⟨pln, pld⟩, ⟨phn, phd⟩, pun⟩ := DF.out _ (by
      have h3 := HPT.out
      unfold Vd.point at h3
      obtain ⟨q, hq, hq2⟩ := Option.bind_eq_some_iff.1 h3
      exact List.mem_of_getElem? hq2)
     have VW := Lib.hid (fun (x : World) => vword_any ⟨pn, pat, pdg, psg, ⟨pln, pld⟩, ⟨phn, phd⟩, pun⟩ ⟨sp, ⟨vn, vd⟩, su, sl⟩ x hfit HF.out.1)
     have hE : Vd.setE pts K2 ⟨sp, ⟨vn, vd⟩, su, sl⟩ = if hasK K2 sp = true then 151 else (Vd.vword ⟨pn, pat, pdg, psg, ⟨pln, pld⟩, ⟨phn, phd⟩, pun⟩ ⟨sp, ⟨vn, vd⟩, su, sl⟩).2 := by unfold Vd.setE; dsimp only; rw [HPT.out]
     obtain ⟨⟨vr, ve⟩, hv⟩ : ∃ v, Vd.vword ⟨pn, pat, pdg, psg, ⟨pln, pld⟩, ⟨phn, phd⟩, pun⟩ ⟨sp, ⟨vn, vd⟩, su, sl⟩ = v := ⟨_, rfl⟩
     rw [hv] at VW hE
     dsimp only at VW hE
     have HE := Lib.hid hE
     clear hE hv hfit DF HPZ HPY HPT
     have P0 : wq.cell? ⟨gp, 0, none⟩ = some (.string pn) := RQ.out.cells 0
     have P1 : wq.cell? ⟨gp, 1, none⟩ = some (.int .i64 pat) := RQ.out.cells 1
     have P2 : wq.cell? ⟨gp, 2, none⟩ = some (.int .i64 pdg) := RQ.out.cells 2
     have P3 : wq.cell? ⟨gp, 3, none⟩ = some (.bool psg) := RQ.out.cells 3
     have P4 : wq.cell? ⟨gp, 4, none⟩ = some (.int .i64 pln) := RQ.out.cells 4
     have P5 : wq.cell? ⟨gp, 5, none⟩ = some (.int .u8 (pld : Int)) := RQ.out.cells 5
     have P6 : wq.cell? ⟨gp, 6, none⟩ = some (.int .i64 phn) := RQ.out.cells 6
     have P7 : wq.cell? ⟨gp, 7, none⟩ = some (.int .u8 (phd : Int)) := RQ.out.cells 7
     have P8 : wq.cell? ⟨gp, 8, none⟩ = some (.string pun) := RQ.out.cells 8
     have n1 : xv.val.heap.size ≠ gd := by omega
     have n2 : w.heap.size + 1 ≠ gd := by omega
     have n3 : gp ≠ gd := by omega
     cases hK2 : hasK K2 sp
     rotate_left
     ·have AS2 := Lib.hid (ask_s sp _ gc gd _ false ⟨fun h => (Bool.false_ne_true h).elim, fun h => absurd ((hasK_iff _ _).1 hK2) h⟩ MI.out)
      obtain ⟨rfl, rfl⟩ : 151 = r1 ∧ sl = r2 := by
       have h3 := HB.out
       rw [HE.out, if_pos hK2, if_neg (by decide)] at h3
       have h4 := HA2.out
       rw [← h3] at h4
       simpa using h4
      clear HA2 HB hK2 HE
      go_wp2_with fail
      (with_reducible refine AS2.out.mono ?_)
      rintro e_ wk ⟨rfl, _, fk⟩
      have hbk : Below w.heap.size w wk := hbq.trans (fk.below (by omega) hbq.size)
      have lk := fk.size
      replace e4 := fk.c e4 n1
      replace rq0 := fk.c rq0 n2
      replace rq1 := fk.c rq1 n2
      replace rz0 := fk.z rz0 (by omega) n2
      replace rz1 := fk.z rz1 (by omega) n2
      have lk1 : xv.val.heap.size < wk.heap.size := by omega
      have lk2 : w.heap.size + 1 < wk.heap.size := by omega
      clear e0 e1 e2 e3 P0 P1 P2 P3 P4 P5 P6 P7 P8
      go_wp2
      refine bodyPost_ret (v := faultV (151, sl)) (by simp [results, Try.results12, go_sem, *]) rfl ⟨rfl, belo⟩
     have AS2 := Lib.hid (ask_s sp _ gc gd _ true ⟨fun _ h => (by have := (hasK_iff _ _).2 h; rw [hK2] at this; cases this), fun _ => rfl⟩ MI.out)
     have HB2 : Hid ((if ve = 0 then Vd.checkS pts (sp :: K2) (sets.drop (k + 1)) else some (ve, sl)) = res) := Lib.hid (by
      have h3 := HB.out
      rw [HE.out, hK2, if_neg (show ¬ false = true by decide)] at h3
      exact h3)
     clear HB HE hK2
     go_wp2_with fail
     (with_reducible refine AS2.out.mono ?_)
     rintro e_ wk ⟨rfl, mk, fk⟩
     have MK := Lib.hid mk
     have hbk : Below w.heap.size w wk := hbq.trans (fk.below (by omega) hbq.size)
     have lk := fk.size
     replace e0 := fk.c e0 n1
     replace e1 := fk.c e1 n1
     replace e2 := fk.c e2 n1
     replace e3 := fk.c e3 n1
     replace e4 := fk.c e4 n1
     replace P0 := fk.c P0 n3
     replace P1 := fk.c P1 n3
     replace P2 := fk.c P2 n3
     replace P3 := fk.c P3 n3
     replace P4 := fk.c P4 n3
     replace P5 := fk.c P5 n3
     replace P6 := fk.c P6 n3
     replace P7 := fk.c P7 n3
     replace P8 := fk.c P8 n3
     replace rq0 := fk.c rq0 n2
     replace rq1 := fk.c rq1 n2
     replace rz0 := fk.z rz0 (by omega) n2
     replace rz1 := fk.z rz1 (by omega) n2
     have lk1 : xv.val.heap.size < wk.heap.size := by omega
     have lk2 : w.heap.size + 1 < wk.heap.size := by omega
     have lk3 : gp < wk.heap.size := by omega
     have b8k : Below w8.heap.size w8 wk := (hbv.trans (bxq.mono (by omega))).trans (fk.below (by omega) (by omega))
     clear mk fk
     go_wp2_with fail
     with_reducible refine (VW.out _).mono ?_
     rintro e_xw w_xw ⟨rfl, hb_xw⟩
     obtain ⟨xw, rfl⟩ := later_is hb_xw
     clear hb_xw
     have hz_xw := xw.bel.size
     try simp at hz_xw
     have b8w : Below w8.heap.size w8 xw.val := b8k.trans (xw.bel.mono (by omega))
     have MW := Lib.hid (MK.out.to xw.bel)
     have lw1 : xv.val.heap.size < xw.val.heap.size := by omega
     have lw2 : w.heap.size + 1 < xw.val.heap.size := by omega
     by_cases hve : ve = 0
     ·have ge : ((ve : Int) != 0) = false := by simp [hve]
      have HB3 : Hid (Vd.checkS pts (sp :: K2) (sets.drop (k + 1)) = res) := Lib.hid (by
       have h3 := HB2.out
       rw [if_pos hve] at h3
       exact h3)
      clear hve HB2
      go_wp2
      go_roundw
      case rel => exact ⟨k + 1, _, by omega, HB3, by go_num, MW, b8w⟩
      case measure => simp [RowKit.intOf]; omega
     ·have ge : ((ve : Int) != 0) = true := bne_iff_ne.2 (by omega)
      obtain ⟨rfl, rfl⟩ : ve = r1 ∧ sl = r2 := by
       have h3 := HB2.out
       rw [if_neg hve] at h3
       have h4 := HA2.out
       rw [← h3] at h4
       simpa using h4
      clear hve HA2 HB2
      go_wp2
      refine bodyPost_ret (v := faultV (ve, sl)) (by simp [results, Try.results12, go_sem, *]) rfl ⟨rfl, belo⟩
    ·go_simp
     refine hK.out _ _ ?_ (fun hHeld => ?_)
     ·exact HSA.out _ (bel_alloc (Below.refl _ _).drew _)
     clear hK K
     try simp only [Act.put]
     try simp only [List.setIfInBounds_toArray]
     try simp only [List.set_cons_succ]
     try simp only [List.set_cons_zero]
     refine wpAnyH_ready (rs := [6]) (by kernel_rfl) (by simp) ?_
     refine AllReadyH.cons (o := _) rfl (fun K hK => ?_) AllReadyH.nil
     go_simp
     (go_at_call 32; (with_reducible refine (PT.out _ (ba.trans ((bel_alloc (Below.refl wa.heap.size wa) _).drew.mono (Nat.le_of_lt hgv2)))).mono ?_); rintro e_ wp ⟨rfl, hbp⟩; have BP := Lib.hid ((bel_alloc (Below.refl wa.heap.size wa) _).drew.trans (hbp.mono (by simp))))
     go_wp2_with fail
     refine hK.out _ _ ?_ (fun hHeld => ?_)
     ·exact HSA.out _ BP.out
     clear hK K
     try simp only [Act.put, List.setIfInBounds_toArray, List.set_cons_zero, List.set_cons_succ]
     refine takeD (i := 7) (oi := _) (v := ?vv11) (d := some 61) rfl (by kernel_rfl) (by kernel_rfl) (by kernel_rfl) (by kernel_rfl) (fun _ _ _ h => h) (Or.inl ⟨by kernel_rfl, ?_⟩) (by assumption) ?_
     rotate_left 1
     ·intro W_ hSw; (try dsimp only at hSw); go_simp; (first | done | with_reducible rfl)
     try simp only [Act.put, List.setIfInBounds_toArray, List.set_cons_zero, List.set_cons_succ]
     refine takeD (i := 8) (oi := _) (v := ?vv12) (d := some 69) rfl (by kernel_rfl) (by kernel_rfl) (by kernel_rfl) (by kernel_rfl) (fun _ _ _ h => h) (Or.inl ⟨by kernel_rfl, ?_⟩) (by assumption) ?_
     rotate_left 1
     ·intro W_ hSw; (try dsimp only at hSw); go_simp; (first | done | with_reducible rfl)
     try simp only [Act.put, List.setIfInBounds_toArray, List.set_cons_zero, List.set_cons_succ]
     refine takeD (i := 9) (oi := _) (v := ?vv13) (d := some 70) rfl (by kernel_rfl) (by kernel_rfl) (by kernel_rfl) (by kernel_rfl) (fun _ _ _ h => h) (Or.inl ⟨by kernel_rfl, ?_⟩) (by assumption) ?_
     rotate_left 1
     ·intro W_ hSw; (try dsimp only at hSw); go_simp; (first | done | with_reducible rfl)
     try simp only [Act.put, List.setIfInBounds_toArray, List.set_cons_zero, List.set_cons_succ]
     refine wpAnyH_ready (rs := [11]) (by kernel_rfl) (by simp) ?_
     refine AllReadyH.cons (o := _) rfl (fun K hK => ?_) AllReadyH.nil
     (refine step_store_var rfl 43 (.tmp 13) (.tmp 69) rfl wa.heap.size (ptF pt0) (ptF ⟨pn, pat, pdg, psg, ⟨pln, pld⟩, ⟨phn, phd⟩, pun⟩) 9 rfl rfl (row_to (RowAt.new' wa wa.heap.size _ _ rfl) ((Below.refl _ _).drew.trans hbp)) rfl rfl rfl (ptF_one _) ?_; intro wq rq kq; have RQ := Lib.hid rq; have HGP := Lib.hid (Nat.le_refl wa.heap.size); have BQ := Lib.hid (kq.to BP.out (Nat.le_refl _)); clear rq kq)
     refine hK.out _ _ ?_ (fun hHeld => ?_)
     ·exact HSA.out _ BQ.out
     clear hK K
     try simp only [Act.put]
     try simp only [List.setIfInBounds_toArray]
     try simp only [List.set_cons_succ]
     try simp only [List.set_cons_zero]
     obtain ⟨gp, hgp⟩ : ∃ g, g = wa.heap.size := ⟨_, rfl⟩
     replace HGP := Lib.hid (show wa.heap.size ≤ gp by rw [hgp]; exact Nat.le_refl _)
     rw [← hgp] at RQ ⊢
     clear hgp BP hbp
     refine takeD (i := 12) (oi := _) (v := ?vv14) (d := some 14) rfl (by kernel_rfl) (by kernel_rfl) (by kernel_rfl) (by kernel_rfl) (fun _ _ _ h => h) (Or.inl ⟨by kernel_rfl, ?_⟩) (by assumption) ?_
     rotate_left 1
     ·intro W_ hSw; (try dsimp only at hSw); go_simp; (first | done | with_reducible rfl)
     try simp only [Act.put, List.setIfInBounds_toArray, List.set_cons_zero, List.set_cons_succ]
     refine wpAnyH_done (by kernel_rfl) ?_ _
     have bxq : Below xv.val.heap.size xv.val wq := ba.trans (BQ.out.mono (by have := HSZ.out; omega))
     have lxq : xv.val.heap.size < wq.heap.size := by have := BQ.out.size; omega
     have hbq : Below w.heap.size w wq := hbev.trans (bxq.mono hbev.size)
     have e0 : wq.cell? ⟨xv.val.heap.size, 0, none⟩ = some (.string sp) := (BQ.out.cell (p := ⟨xv.val.heap.size, 0, none⟩) hgv2).trans (RS.out.cells 0)
     have e1 : wq.cell? ⟨xv.val.heap.size, 1, none⟩ = some (.int .i64 vn) := (BQ.out.cell (p := ⟨xv.val.heap.size, 1, none⟩) hgv2).trans (RS.out.cells 1)
     have e2 : wq.cell? ⟨xv.val.heap.size, 2, none⟩ = some (.int .u8 (vd : Int)) := (BQ.out.cell (p := ⟨xv.val.heap.size, 2, none⟩) hgv2).trans (RS.out.cells 2)
     have e3 : wq.cell? ⟨xv.val.heap.size, 3, none⟩ = some (.string su) := (BQ.out.cell (p := ⟨xv.val.heap.size, 3, none⟩) hgv2).trans (RS.out.cells 3)
     have e4 : wq.cell? ⟨xv.val.heap.size, 4, none⟩ = some (.int .i64 sl) := (BQ.out.cell (p := ⟨xv.val.heap.size, 4, none⟩) hgv2).trans (RS.out.cells 4)
     have lrx : w.heap.size + 1 < xv.val.heap.size := by omega
     have rq0 : wq.cell? ⟨w.heap.size + 1, 0, none⟩ = some (.int .i64 0) := (bxq.cell (p := ⟨w.heap.size + 1, 0, none⟩) lrx).trans c_xv_0_0
     have rq1 : wq.cell? ⟨w.heap.size + 1, 1, none⟩ = some (.int .i64 0) := (bxq.cell (p := ⟨w.heap.size + 1, 1, none⟩) lrx).trans c_xv_0_1
     have rz0 : wq.frozen? ⟨w.heap.size + 1, 0, none⟩ = false := (bxq.frozen (p := ⟨w.heap.size + 1, 0, none⟩) lrx).trans z_xv_0_0
     have rz1 : wq.frozen? ⟨w.heap.size + 1, 1, none⟩ = false := (bxq.frozen (p := ⟨w.heap.size + 1, 1, none⟩) lrx).trans z_xv_0_1
     replace MI := Lib.hid (MI.out.to bxq)
     have lgp : gp < wq.heap.size := RQ.out.lt
     have hgx : xv.val.heap.size < gp := by have := HGP.out; have := HSZ.out; omega
     clear v0 ta0 ta1 t0 t1 s0 s1 s2 s3 s4 c_xv_0_0 c_xv_0_1 z_xv_0_0 z_xv_0_1 PT HSA
     cases okp
     ·have hE : Vd.setE pts K2 ⟨sp, ⟨vn, vd⟩, su, sl⟩ = 151 := by unfold Vd.setE; dsimp only; rw [HPZ.out]; rfl
      obtain ⟨rfl, rfl⟩ : 151 = r1 ∧ sl = r2 := by
       have h3 := HB.out
       rw [hE, if_neg (by decide)] at h3
       have h4 := HA2.out
       rw [← h3] at h4
       simpa using h4
      clear hE HA2 HB
      go_wp2
      refine bodyPost_ret (v := faultV (151, sl)) (by simp [results, Try.results12, go_sem, *]) rfl ⟨rfl, belo⟩
     obtain rfl : pz = ⟨pn, pat, pdg, psg, ⟨pln, pld⟩, ⟨phn, phd⟩, pun⟩ := HPY.out
     have HPT : Hid (Vd.point pts sp = some ⟨pn, pat, pdg, psg, ⟨pln, pld⟩, ⟨phn, phd⟩, pun⟩) := Lib.hid HPZ.out
     have hfit : Pt.Fit ⟨pn, pat, pdg, psg, ⟨pln, pld⟩, ⟨phn, phd⟩, pun⟩ := DF.out _ (by
      have h3 := HPT.out
      unfold Vd.point at h3
      obtain ⟨q, hq, hq2⟩ := Option.bind_eq_some_iff.1 h3
      exact List.mem_of_getElem? hq2)
     have VW := Lib.hid (fun (x : World) => vword_any ⟨pn, pat, pdg, psg, ⟨pln, pld⟩, ⟨phn, phd⟩, pun⟩ ⟨sp, ⟨vn, vd⟩, su, sl⟩ x hfit HF.out.1)
     have hE : Vd.setE pts K2 ⟨sp, ⟨vn, vd⟩, su, sl⟩ = if hasK K2 sp = true then 151 else (Vd.vword ⟨pn, pat, pdg, psg, ⟨pln, pld⟩, ⟨phn, phd⟩, pun⟩ ⟨sp, ⟨vn, vd⟩, su, sl⟩).2 := by unfold Vd.setE; dsimp only; rw [HPT.out]
     obtain ⟨⟨vr, ve⟩, hv⟩ : ∃ v, Vd.vword ⟨pn, pat, pdg, psg, ⟨pln, pld⟩, ⟨phn, phd⟩, pun⟩ ⟨sp, ⟨vn, vd⟩, su, sl⟩ = v := ⟨_, rfl⟩
     rw [hv] at VW hE
     dsimp only at VW hE
     have HE := Lib.hid hE
     clear hE hv hfit DF HPZ HPY HPT
     have P0 : wq.cell? ⟨gp, 0, none⟩ = some (.string pn) := RQ.out.cells 0
     have P1 : wq.cell? ⟨gp, 1, none⟩ = some (.int .i64 pat) := RQ.out.cells 1
     have P2 : wq.cell? ⟨gp, 2, none⟩ = some (.int .i64 pdg) := RQ.out.cells 2
     have P3 : wq.cell? ⟨gp, 3, none⟩ = some (.bool psg) := RQ.out.cells 3
     have P4 : wq.cell? ⟨gp, 4, none⟩ = some (.int .i64 pln) := RQ.out.cells 4
     have P5 : wq.cell? ⟨gp, 5, none⟩ = some (.int .u8 (pld : Int)) := RQ.out.cells 5
     have P6 : wq.cell? ⟨gp, 6, none⟩ = some (.int .i64 phn) := RQ.out.cells 6
     have P7 : wq.cell? ⟨gp, 7, none⟩ = some (.int .u8 (phd : Int)) := RQ.out.cells 7
     have P8 : wq.cell? ⟨gp, 8, none⟩ = some (.string pun) := RQ.out.cells 8
     have n1 : xv.val.heap.size ≠ gd := by omega
     have n2 : w.heap.size + 1 ≠ gd := by omega
     have n3 : gp ≠ gd := by omega
     cases hK2 : hasK K2 sp
     rotate_left
     ·have AS2 := Lib.hid (ask_s sp _ gc gd _ false ⟨fun h => (Bool.false_ne_true h).elim, fun h => absurd ((hasK_iff _ _).1 hK2) h⟩ MI.out)
      obtain ⟨rfl, rfl⟩ : 151 = r1 ∧ sl = r2 := by
       have h3 := HB.out
       rw [HE.out, if_pos hK2, if_neg (by decide)] at h3
       have h4 := HA2.out
       rw [← h3] at h4
       simpa using h4
      clear HA2 HB hK2 HE
      go_wp2_with fail
      (with_reducible refine AS2.out.mono ?_)
      rintro e_ wk ⟨rfl, _, fk⟩
      have hbk : Below w.heap.size w wk := hbq.trans (fk.below (by omega) hbq.size)
      have lk := fk.size
      replace e4 := fk.c e4 n1
      replace rq0 := fk.c rq0 n2
      replace rq1 := fk.c rq1 n2
      replace rz0 := fk.z rz0 (by omega) n2
      replace rz1 := fk.z rz1 (by omega) n2
      have lk1 : xv.val.heap.size < wk.heap.size := by omega
      have lk2 : w.heap.size + 1 < wk.heap.size := by omega
      clear e0 e1 e2 e3 P0 P1 P2 P3 P4 P5 P6 P7 P8
      go_wp2
      refine bodyPost_ret (v := faultV (151, sl)) (by simp [results, Try.results12, go_sem, *]) rfl ⟨rfl, belo⟩
     have AS2 := Lib.hid (ask_s sp _ gc gd _ true ⟨fun _ h => (by have := (hasK_iff _ _).2 h; rw [hK2] at this; cases this), fun _ => rfl⟩ MI.out)
     have HB2 : Hid ((if ve = 0 then Vd.checkS pts (sp :: K2) (sets.drop (k + 1)) else some (ve, sl)) = res) := Lib.hid (by
      have h3 := HB.out
      rw [HE.out, hK2, if_neg (show ¬ false = true by decide)] at h3
      exact h3)
     clear HB HE hK2
     go_wp2_with fail
     (with_reducible refine AS2.out.mono ?_)
     rintro e_ wk ⟨rfl, mk, fk⟩
     have MK := Lib.hid mk
     have hbk : Below w.heap.size w wk := hbq.trans (fk.below (by omega) hbq.size)
     have lk := fk.size
     replace e0 := fk.c e0 n1
     replace e1 := fk.c e1 n1
     replace e2 := fk.c e2 n1
     replace e3 := fk.c e3 n1
     replace e4 := fk.c e4 n1
     replace P0 := fk.c P0 n3
     replace P1 := fk.c P1 n3
     replace P2 := fk.c P2 n3
     replace P3 := fk.c P3 n3
     replace P4 := fk.c P4 n3
     replace P5 := fk.c P5 n3
     replace P6 := fk.c P6 n3
     replace P7 := fk.c P7 n3
     replace P8 := fk.c P8 n3
     replace rq0 := fk.c rq0 n2
     replace rq1 := fk.c rq1 n2
     replace rz0 := fk.z rz0 (by omega) n2
     replace rz1 := fk.z rz1 (by omega) n2
     have lk1 : xv.val.heap.size < wk.heap.size := by omega
     have lk2 : w.heap.size + 1 < wk.heap.size := by omega
     have lk3 : gp < wk.heap.size := by omega
     have b8k : Below w8.heap.size w8 wk := (hbv.trans (bxq.mono (by omega))).trans (fk.below (by omega) (by omega))
     clear mk fk
     go_wp2_with fail
     with_reducible refine (VW.out _).mono ?_
     rintro e_xw w_xw ⟨rfl, hb_xw⟩
     obtain ⟨xw, rfl⟩ := later_is hb_xw
     clear hb_xw
     have hz_xw := xw.bel.size
     try simp at hz_xw
     have b8w : Below w8.heap.size w8 xw.val := b8k.trans (xw.bel.mono (by omega))
     have MW := Lib.hid (MK.out.to xw.bel)
     have lw1 : xv.val.heap.size < xw.val.heap.size := by omega
     have lw2 : w.heap.size + 1 < xw.val.heap.size := by omega
     by_cases hve : ve = 0
     ·have ge : ((ve : Int) != 0) = false := by simp [hve]
      have HB3 : Hid (Vd.checkS pts (sp :: K2) (sets.drop (k + 1)) = res) := Lib.hid (by
       have h3 := HB2.out
       rw [if_pos hve] at h3
       exact h3)
      clear hve HB2
      go_wp2
      go_roundw
      case rel => exact ⟨k + 1, _, by omega, HB3, by go_num, MW, b8w⟩
      case measure => simp [RowKit.intOf]; omega
     ·have ge : ((ve : Int) != 0) = true := bne_iff_ne.2 (by omega)
      obtain ⟨rfl, rfl⟩ : ve = r1 ∧ sl = r2 := by
       have h3 := HB2.out
       rw [if_neg hve] at h3
       have h4 := HA2.out
       rw [← h3] at h4
       simpa using h4
      clear hve HA2 HB2
      go_wp2
      refine bodyPost_ret (v := faultV (ve, sl)) (by simp [results, Try.results12, go_sem, *]) rfl ⟨rfl, belo⟩
end Go.Proofs.Ythhokpaidekmnaa
