/- The walk of stage.Read. -/
import Derived.Test.YtopkncbpkccfbaaStgR
namespace Go.Proofs.Ytopkncbpkccfbaa
open Go.RowKit
set_option linter.unusedVariables false
attribute [local go_sem] Later.cell Later.frozen setCell_twice
/-- what Read hands back -/
def ReadP (w : World) (r : Stg.R) (e : Ending) (w' : World) : Prop :=
  ∃ A c, e = .returned (.tuple #[.int .u16 (r.o : Int), .int .u32 (r.t : Int), .int .i64 (r.n : Int), .agg #[.int .i64 (r.a : Int), .slice A r.ws.length c], .int .i64 r.e]) ∧ w'.ownsRow w.heap.size 22 1 (.slice A r.ws.length c) r.ws.length (r.ws.map u16w) ∧ Below w.heap.size w w'
theorem ReadP.mk' {w w' : World} {r q : Stg.R} {A : Option Addr} {c n : Nat} (h : r = q) (hn : q.ws.length = n) (ho : w'.ownsRow w.heap.size 22 1 (.slice A n c) n (q.ws.map u16w)) (hb : Below w.heap.size w w') : ReadP w r (.returned (.tuple #[.int .u16 (q.o : Int), .int .u32 (q.t : Int), .int .i64 (q.n : Int), .agg #[.int .i64 (q.a : Int), .slice A n c], .int .i64 q.e])) w' := by
  subst h hn
  exact ⟨A, c, rfl, ho, hb⟩
theorem sq_at {w : World} {B : Nat} {A : Option Addr} {v : List Nat} (sq : Sq u16w w B A v) (h : v.length = 20) : ∃ b o, A = some ⟨b, o, none⟩ ∧ b < B ∧ ∀ j, j < 20 → w.cell? ⟨b, o + j, none⟩ = some (.int .u16 ((v.getD j 0 : Nat) : Int)) := by
  obtain ⟨b, o, hA, hb, hc⟩ := sq (by omega)
  refine ⟨b, o, hA, hb, fun j hj => hc j _ ?_⟩
  rw [List.getD_eq_getElem?_getD, List.getElem?_eq_getElem (by omega)]
  rfl
theorem sq_drop {α : Type} {f : α → Value} {w : World} {B b o : Nat} {l : List α} (h : Sq f w B (some ⟨b, o, none⟩) l) (k : Nat) : Sq f w B (some ⟨b, o + k, none⟩) (l.drop k) := fun hn => by
  obtain ⟨b2, o2, hA, hb, hc⟩ := h (by rw [List.length_drop] at hn; omega)
  obtain ⟨rfl, rfl⟩ : b = b2 ∧ o = o2 := by simpa using hA
  refine ⟨b, o + k, rfl, hb, fun j x hx => ?_⟩
  rw [List.getElem?_drop] at hx
  rw [Nat.add_assoc]
  exact hc _ _ hx
set_option maxRecDepth 100000 in
set_option maxHeartbeats 400000 in
theorem read_bad (v : List Nat) (A : Option Addr) (c n : Nat) (w : World) (hn : v.length = n) (sq : Sq u16w w w.heap.size A v) (h : n ≠ 20) :
    Calls Try.prog 10 #[.slice A n c] w (ReadP w Stg.none2) := by
  have h1 : ((n : Int) != 20) = true := by rw [bne_iff_ne]; omega
  go_enter Try.func10, Try.ntmps10
  go_wp2
  exact bodyPost_ret (v := .tuple #[.int .u16 0, .int .u32 0, .int .i64 0, .agg #[.int .i64 0, .slice none 0 0], .int .i64 2]) (by simp [results, Try.results10, go_sem, *]) rfl (ReadP.mk' (q := Stg.none2) rfl rfl (World.ownsRow_nil _ _ _ _) (by repeat (first | exact Below.refl _ _ | refine bel_later _ ?_ | refine bel_alloc ?_ _ | refine bel_set ?_ (by first | omega | (simp; done) | (simp; omega)) _ | refine Below.drew ?_ | refine bel_drewN ?_ _ | assumption)))
set_option maxRecDepth 100000 in
set_option maxHeartbeats 400000 in
theorem read_num (b o c y3 : Nat) (w : World) (hb : b < w.heap.size) (c3 : w.cell? ⟨b, o + 3, none⟩ = some (.int .u16 (y3 : Int))) (h : 8 ≤ y3) :
    Calls Try.prog 10 #[.slice (some ⟨b, o, none⟩) 20 c] w (ReadP w Stg.none2) := by
  have h1 : decide (8 ≤ (y3 : Int)) = true := by simp; omega
  go_enter Try.func10, Try.ntmps10
  go_wp2
  exact bodyPost_ret (v := .tuple #[.int .u16 0, .int .u32 0, .int .i64 0, .agg #[.int .i64 0, .slice none 0 0], .int .i64 2]) (by simp [results, Try.results10, go_sem, *]) rfl (ReadP.mk' (q := Stg.none2) rfl rfl (World.ownsRow_nil _ _ _ _) (by repeat (first | exact Below.refl _ _ | refine bel_later _ ?_ | refine bel_alloc ?_ _ | refine bel_set ?_ (by first | omega | (simp; done) | (simp; omega)) _ | refine Below.drew ?_ | refine bel_drewN ?_ _ | assumption)))
set_option maxRecDepth 100000 in
set_option maxHeartbeats 400000 in
theorem read_long (b o c y3 y4 y5 : Nat) (w : World) (hb : b < w.heap.size) (c3 : w.cell? ⟨b, o + 3, none⟩ = some (.int .u16 (y3 : Int))) (c4 : w.cell? ⟨b, o + 4, none⟩ = some (.int .u16 (y4 : Int))) (c5 : w.cell? ⟨b, o + 5, none⟩ = some (.int .u16 (y5 : Int))) (h : y3 < 8) (u4 : y4 < 65536) (u5 : y5 < 65536) (h5 : 14 < y5) (hc : 20 ≤ c) (hc2 : c ≤ 9223372036854775807) :
    Calls Try.prog 10 #[.slice (some ⟨b, o, none⟩) 20 c] w (ReadP w Stg.none20) := by
  have h1 : decide (8 ≤ (y3 : Int)) = false := by simp; omega
  have h2 : decide ((14 : Int) < (y5 : Int)) = true := by simp; omega
  go_enter Try.func10, Try.ntmps10
  go_wp2
  refine wp_region_lat (by kernel_rfl) (by kernel_rfl) ?_
  repeat (go_big_quiet_step (fail))
  refine wpQuiet_nil ?_
  rintro _ ⟨x1, rfl⟩
  have hz_x1 := x1.bel.size
  try simp at hz_x1
  have l_x1_0 : w.heap.size < x1.val.heap.size := by omega
  have m_x1_0 : w.heap.size < x1.val.heap.size + 1 := by omega
  have q_ := x1.bel.cell (p := ⟨w.heap.size, 0, none⟩) (by first | omega | (simp; done) | (simp; omega))
  generalize c_x1_0_0 : x1.val.cell? ⟨w.heap.size, 0, none⟩ = q at q_
  first | (have q2_ : q = some _ := q_; subst q2_) | (simp [go_sem] at q_; have q2_ : q = some _ := q_; subst q2_) | (simp [go_sem, *] at q_; have q2_ : q = some _ := q_; subst q2_)
  have q_ := x1.bel.frozen (p := ⟨w.heap.size, 0, none⟩) (by first | omega | (simp; done) | (simp; omega))
  generalize z_x1_0_0 : x1.val.frozen? ⟨w.heap.size, 0, none⟩ = q at q_
  first | (have q2_ : q = false := q_; subst q2_) | (simp [go_sem] at q_; have q2_ : q = false := q_; subst q2_) | (simp [go_sem, *] at q_; have q2_ : q = false := q_; subst q2_)
  have q_ := x1.bel.cell (p := ⟨w.heap.size, 1, none⟩) (by first | omega | (simp; done) | (simp; omega))
  generalize c_x1_0_1 : x1.val.cell? ⟨w.heap.size, 1, none⟩ = q at q_
  first | (have q2_ : q = some _ := q_; subst q2_) | (simp [go_sem] at q_; have q2_ : q = some _ := q_; subst q2_) | (simp [go_sem, *] at q_; have q2_ : q = some _ := q_; subst q2_)
  have q_ := x1.bel.frozen (p := ⟨w.heap.size, 1, none⟩) (by first | omega | (simp; done) | (simp; omega))
  generalize z_x1_0_1 : x1.val.frozen? ⟨w.heap.size, 1, none⟩ = q at q_
  first | (have q2_ : q = false := q_; subst q2_) | (simp [go_sem] at q_; have q2_ : q = false := q_; subst q2_) | (simp [go_sem, *] at q_; have q2_ : q = false := q_; subst q2_)
  go_wp2
  exact bodyPost_ret (v := .tuple #[.int .u16 0, .int .u32 0, .int .i64 0, .agg #[.int .i64 0, .slice none 0 0], .int .i64 20]) (by simp [results, Try.results10, go_sem, *]) rfl (ReadP.mk' (q := Stg.none20) rfl rfl (World.ownsRow_nil _ _ _ _) (by repeat (first | exact Below.refl _ _ | refine bel_later _ ?_ | refine bel_alloc ?_ _ | refine bel_set ?_ (by first | omega | (simp; done) | (simp; omega)) _ | refine Below.drew ?_ | refine bel_drewN ?_ _ | assumption)))
set_option maxRecDepth 100000 in
set_option maxHeartbeats 400000 in
theorem read_nofit (v : List Nat) (b o c y3 y4 y5 : Nat) (w : World) (hv : v.length = 20) (sq : Sq u16w w w.heap.size (some ⟨b, o, none⟩) v) (hb : b < w.heap.size) (c3 : w.cell? ⟨b, o + 3, none⟩ = some (.int .u16 (y3 : Int))) (c4 : w.cell? ⟨b, o + 4, none⟩ = some (.int .u16 (y4 : Int))) (c5 : w.cell? ⟨b, o + 5, none⟩ = some (.int .u16 (y5 : Int))) (h : y3 < 8) (u4 : y4 < 65536) (u5 : y5 ≤ 14) (hc : 20 ≤ c) (hc2 : c ≤ 9223372036854775807) (hf : Bk.fits (y4 : Int) y5 = false) :
    Calls Try.prog 10 #[.slice (some ⟨b, o, none⟩) 20 c] w (ReadP w Stg.none20) := by
  have h1 : decide (8 ≤ (y3 : Int)) = false := by simp; omega
  have h2 : decide ((14 : Int) < (y5 : Int)) = false := by simp; omega
  have hl5 : ((v.drop 6).take y5).length = y5 := by rw [List.length_take, List.length_drop]; omega
  have ko := Lib.hid (fun W (hW : Below w.heap.size w W) (cc : Nat) => own_any (y4 : Int) ((v.drop 6).take y5) (some ⟨b, o + 6, none⟩) cc y5 W hl5 (((sq_drop sq 6).take y5 |>.below hW).more hW.size) (by omega) (by simp))
  have kf := Lib.hid (fun W (A : Option Addr) (cc : Nat) => fits_any (y4 : Int) y5 cc A false W (by omega) (by omega) (by omega) hf)
  clear hf sq hv
  have HL := Lib.hid hl5
  clear hl5
  go_enter Try.func10, Try.ntmps10
  go_wp2
  refine wp_region_lat (by kernel_rfl) (by kernel_rfl) ?_
  repeat (go_big_quiet_step (fail))
  refine wpQuiet_nil ?_
  rintro _ ⟨x1, rfl⟩
  have hz_x1 := x1.bel.size
  try simp at hz_x1
  have l_x1_0 : w.heap.size < x1.val.heap.size := by omega
  have m_x1_0 : w.heap.size < x1.val.heap.size + 1 := by omega
  have q_ := x1.bel.cell (p := ⟨w.heap.size, 0, none⟩) (by first | omega | (simp; done) | (simp; omega))
  generalize c_x1_0_0 : x1.val.cell? ⟨w.heap.size, 0, none⟩ = q at q_
  first | (have q2_ : q = some _ := q_; subst q2_) | (simp [go_sem] at q_; have q2_ : q = some _ := q_; subst q2_) | (simp [go_sem, *] at q_; have q2_ : q = some _ := q_; subst q2_)
  have q_ := x1.bel.frozen (p := ⟨w.heap.size, 0, none⟩) (by first | omega | (simp; done) | (simp; omega))
  generalize z_x1_0_0 : x1.val.frozen? ⟨w.heap.size, 0, none⟩ = q at q_
  first | (have q2_ : q = false := q_; subst q2_) | (simp [go_sem] at q_; have q2_ : q = false := q_; subst q2_) | (simp [go_sem, *] at q_; have q2_ : q = false := q_; subst q2_)
  have q_ := x1.bel.cell (p := ⟨w.heap.size, 1, none⟩) (by first | omega | (simp; done) | (simp; omega))
  generalize c_x1_0_1 : x1.val.cell? ⟨w.heap.size, 1, none⟩ = q at q_
  first | (have q2_ : q = some _ := q_; subst q2_) | (simp [go_sem] at q_; have q2_ : q = some _ := q_; subst q2_) | (simp [go_sem, *] at q_; have q2_ : q = some _ := q_; subst q2_)
  have q_ := x1.bel.frozen (p := ⟨w.heap.size, 1, none⟩) (by first | omega | (simp; done) | (simp; omega))
  generalize z_x1_0_1 : x1.val.frozen? ⟨w.heap.size, 1, none⟩ = q at q_
  first | (have q2_ : q = false := q_; subst q2_) | (simp [go_sem] at q_; have q2_ : q = false := q_; subst q2_) | (simp [go_sem, *] at q_; have q2_ : q = false := q_; subst q2_)
  go_wp2_with fail
  with_reducible refine (ko.out _ (by repeat (first | exact Below.refl _ _ | refine bel_later _ ?_ | refine bel_alloc ?_ _ | refine bel_set ?_ (by first | omega | (simp; done) | (simp; omega)) _ | refine Below.drew ?_ | refine bel_drewN ?_ _ | assumption)) y5).mono ?_
  rintro e_x2 w_x2 ⟨Ax2, cx2, rfl, ox2, hb_x2⟩
  obtain ⟨x2, rfl⟩ := later_is hb_x2
  clear hb_x2
  have hz_x2 := x2.bel.size
  try simp at hz_x2
  have l_x2_0 : w.heap.size < x2.val.heap.size := by omega
  have m_x2_0 : w.heap.size < x2.val.heap.size + 1 := by omega
  have q_ := x2.bel.cell (p := ⟨w.heap.size, 0, none⟩) (by first | omega | (simp; done) | (simp; omega))
  generalize c_x2_0_0 : x2.val.cell? ⟨w.heap.size, 0, none⟩ = q at q_
  first | (have q2_ : q = some _ := q_; subst q2_) | (simp [go_sem] at q_; have q2_ : q = some _ := q_; subst q2_) | (simp [go_sem, *] at q_; have q2_ : q = some _ := q_; subst q2_)
  have q_ := x2.bel.frozen (p := ⟨w.heap.size, 0, none⟩) (by first | omega | (simp; done) | (simp; omega))
  generalize z_x2_0_0 : x2.val.frozen? ⟨w.heap.size, 0, none⟩ = q at q_
  first | (have q2_ : q = false := q_; subst q2_) | (simp [go_sem] at q_; have q2_ : q = false := q_; subst q2_) | (simp [go_sem, *] at q_; have q2_ : q = false := q_; subst q2_)
  have q_ := x2.bel.cell (p := ⟨w.heap.size, 1, none⟩) (by first | omega | (simp; done) | (simp; omega))
  generalize c_x2_0_1 : x2.val.cell? ⟨w.heap.size, 1, none⟩ = q at q_
  first | (have q2_ : q = some _ := q_; subst q2_) | (simp [go_sem] at q_; have q2_ : q = some _ := q_; subst q2_) | (simp [go_sem, *] at q_; have q2_ : q = some _ := q_; subst q2_)
  have q_ := x2.bel.frozen (p := ⟨w.heap.size, 1, none⟩) (by first | omega | (simp; done) | (simp; omega))
  generalize z_x2_0_1 : x2.val.frozen? ⟨w.heap.size, 1, none⟩ = q at q_
  first | (have q2_ : q = false := q_; subst q2_) | (simp [go_sem] at q_; have q2_ : q = false := q_; subst q2_) | (simp [go_sem, *] at q_; have q2_ : q = false := q_; subst q2_)
  rw [HL.out] at ox2 ⊢
  go_wp2
  refine wp_region_lat (by kernel_rfl) (by kernel_rfl) ?_
  repeat (go_big_quiet_step (fail))
  go_big_quiet_step (exact later_new (kf.out _ _ _))
  repeat (go_big_quiet_step (fail))
  refine wpQuiet_nil ?_
  rintro _ ⟨x3, rfl⟩
  have hz_x3 := x3.bel.size
  try simp at hz_x3
  have l_x3_0 : w.heap.size < x3.val.heap.size := by omega
  have m_x3_0 : w.heap.size < x3.val.heap.size + 1 := by omega
  have q_ := x3.bel.cell (p := ⟨w.heap.size, 0, none⟩) (by first | omega | (simp; done) | (simp; omega))
  generalize c_x3_0_0 : x3.val.cell? ⟨w.heap.size, 0, none⟩ = q at q_
  first | (have q2_ : q = some _ := q_; subst q2_) | (simp [go_sem] at q_; have q2_ : q = some _ := q_; subst q2_) | (simp [go_sem, *] at q_; have q2_ : q = some _ := q_; subst q2_)
  have q_ := x3.bel.frozen (p := ⟨w.heap.size, 0, none⟩) (by first | omega | (simp; done) | (simp; omega))
  generalize z_x3_0_0 : x3.val.frozen? ⟨w.heap.size, 0, none⟩ = q at q_
  first | (have q2_ : q = false := q_; subst q2_) | (simp [go_sem] at q_; have q2_ : q = false := q_; subst q2_) | (simp [go_sem, *] at q_; have q2_ : q = false := q_; subst q2_)
  have q_ := x3.bel.cell (p := ⟨w.heap.size, 1, none⟩) (by first | omega | (simp; done) | (simp; omega))
  generalize c_x3_0_1 : x3.val.cell? ⟨w.heap.size, 1, none⟩ = q at q_
  first | (have q2_ : q = some _ := q_; subst q2_) | (simp [go_sem] at q_; have q2_ : q = some _ := q_; subst q2_) | (simp [go_sem, *] at q_; have q2_ : q = some _ := q_; subst q2_)
  have q_ := x3.bel.frozen (p := ⟨w.heap.size, 1, none⟩) (by first | omega | (simp; done) | (simp; omega))
  generalize z_x3_0_1 : x3.val.frozen? ⟨w.heap.size, 1, none⟩ = q at q_
  first | (have q2_ : q = false := q_; subst q2_) | (simp [go_sem] at q_; have q2_ : q = false := q_; subst q2_) | (simp [go_sem, *] at q_; have q2_ : q = false := q_; subst q2_)
  go_wp2
  exact bodyPost_ret (v := .tuple #[.int .u16 0, .int .u32 0, .int .i64 0, .agg #[.int .i64 0, .slice none 0 0], .int .i64 20]) (by simp [results, Try.results10, go_sem, *]) rfl (ReadP.mk' (q := Stg.none20) rfl rfl (World.ownsRow_nil _ _ _ _) (by repeat (first | exact Below.refl _ _ | refine bel_later _ ?_ | refine bel_alloc ?_ _ | refine bel_set ?_ (by first | omega | (simp; done) | (simp; omega)) _ | refine Below.drew ?_ | refine bel_drewN ?_ _ | assumption)))
end Go.Proofs.Ytopkncbpkccfbaa
