/- The walk of stage.Read, where the words are a block that fits. -/
import Derived.Test.YtopkncbpkccfbaaStgRd
import Derived.Deep.RegionHeld3
namespace Go.Proofs.Ytopkncbpkccfbaa
open Go.RowKit
set_option linter.unusedVariables false
attribute [local go_sem] Later.cell Later.frozen setCell_twice
set_option maxRecDepth 100000 in
set_option maxHeartbeats 300000 in
theorem read_fit (v : List Nat) (b o c y0 y1 y2 y3 y4 y5 : Nat) (r : Bool) (w : World) (hv : v.length = 20) (hu : ∀ x ∈ v, x < 65536) (sq : Sq u16w w w.heap.size (some ⟨b, o, none⟩) v) (hb : b < w.heap.size) (c0 : w.cell? ⟨b, o, none⟩ = some (.int .u16 (y0 : Int))) (c1 : w.cell? ⟨b, o + 1, none⟩ = some (.int .u16 (y1 : Int))) (c2 : w.cell? ⟨b, o + 2, none⟩ = some (.int .u16 (y2 : Int))) (c3 : w.cell? ⟨b, o + 3, none⟩ = some (.int .u16 (y3 : Int))) (c4 : w.cell? ⟨b, o + 4, none⟩ = some (.int .u16 (y4 : Int))) (c5 : w.cell? ⟨b, o + 5, none⟩ = some (.int .u16 (y5 : Int))) (h : y3 < 8) (u1 : y1 < 65536) (u2 : y2 < 65536) (u4 : y4 < 65536) (u5 : y5 ≤ 14) (hc : 20 ≤ c) (hc2 : c ≤ 9223372036854775807) (hf : Bk.fits (y4 : Int) y5 = true) (hr : decide (Stg.itself (y4 : Int) ((v.drop 6).take y5) = v.drop 4) = r) (R : Stg.R) (hR : R = if r = true then ⟨y0, 65536 * y1 + y2, y3, y4, (v.drop 6).take y5, 0⟩ else Stg.none20) :
    Calls Try.prog 10 #[.slice (some ⟨b, o, none⟩) 20 c] w (ReadP w R) := by
  have h1 : decide (8 ≤ (y3 : Int)) = false := by simp; omega
  have h2 : decide ((14 : Int) < (y5 : Int)) = false := by simp; omega
  have hl5 : ((v.drop 6).take y5).length = y5 := by rw [List.length_take, List.length_drop]; omega
  have hl16 : (v.drop 4).length = 16 := by rw [List.length_drop]; omega
  have hu5 : ∀ x ∈ (v.drop 6).take y5, x < 65536 := fun x hx => hu x (List.mem_of_mem_drop (List.mem_of_mem_take hx))
  have hit := Stg.itself_length (y4 : Int) ((v.drop 6).take y5)
  have ko := Lib.hid (fun W (hW : Below w.heap.size w W) (cc : Nat) => own_any (y4 : Int) ((v.drop 6).take y5) (some ⟨b, o + 6, none⟩) cc y5 W hl5 (((sq_drop sq 6).take y5 |>.below hW).more hW.size) (by omega) (by simp))
  have kf := Lib.hid (fun W (A : Option Addr) (cc : Nat) => fits_any (y4 : Int) y5 cc A true W (by omega) (by omega) (by omega) hf)
  have ki := Lib.hid (fun W (A : Option Addr) (cc : Nat) (hs : Sq u16w W W.heap.size A ((v.drop 6).take y5)) (hnl : A = none → cc = 0) => itself_any (y4 : Int) ((v.drop 6).take y5) A cc y5 W hl5 hs (by omega) (by omega) (by omega) hnl)
  have ke := Lib.hid (fun W (A : Option Addr) (cc c2 : Nat) (hs : Sq u16w W W.heap.size A (Stg.itself (y4 : Int) ((v.drop 6).take y5))) (hW : Below w.heap.size w W) => eqlWords_any A (some ⟨b, o + 4, none⟩) _ (v.drop 4) cc c2 16 16 r W hit hl16 hs ((sq_drop sq 4 |>.below hW).more hW.size) (by omega) hr)
  have HL := Lib.hid hl5
  have HI := Lib.hid hit
  have HR := Lib.hid hr
  have HRR := Lib.hid hR
  clear hf sq hv hu hl5 hl16 hit hr hR
  generalize Stg.itself (y4 : Int) ((v.drop 6).take y5) = It at *
  generalize (v.drop 6).take y5 = ws at *
  generalize v.drop 4 = v4 at *
  go_enter Try.func10, Try.ntmps10
  go_wp2
  refine wp_region_lat (by kernel_rfl) (by kernel_rfl) ?_
  repeat (go_big_quiet_step (fail))
  refine wpQuiet_nil ?_
  rintro _ ⟨x1, rfl⟩
  have hz_x1 := x1.bel.size
  try simp at hz_x1
  have l_x1_0 : w.heap.size < x1.val.heap.size := by omega
  have m_x1_0 : w.heap.size < x1.val.heap.size + 1 := by omega
  have q_ := x1.bel.cell (p := ⟨w.heap.size, 0, none⟩) (by first | omega | (simp; done) | (simp; omega))
  generalize c_x1_0_0 : x1.val.cell? ⟨w.heap.size, 0, none⟩ = q at q_
  first | (have q2_ : q = some _ := q_; subst q2_) | (simp [go_sem] at q_; have q2_ : q = some _ := q_; subst q2_) | (simp [go_sem, *] at q_; have q2_ : q = some _ := q_; subst q2_)
  have q_ := x1.bel.frozen (p := ⟨w.heap.size, 0, none⟩) (by first | omega | (simp; done) | (simp; omega))
  generalize z_x1_0_0 : x1.val.frozen? ⟨w.heap.size, 0, none⟩ = q at q_
  first | (have q2_ : q = false := q_; subst q2_) | (simp [go_sem] at q_; have q2_ : q = false := q_; subst q2_) | (simp [go_sem, *] at q_; have q2_ : q = false := q_; subst q2_)
  have q_ := x1.bel.cell (p := ⟨w.heap.size, 1, none⟩) (by first | omega | (simp; done) | (simp; omega))
  generalize c_x1_0_1 : x1.val.cell? ⟨w.heap.size, 1, none⟩ = q at q_
  first | (have q2_ : q = some _ := q_; subst q2_) | (simp [go_sem] at q_; have q2_ : q = some _ := q_; subst q2_) | (simp [go_sem, *] at q_; have q2_ : q = some _ := q_; subst q2_)
  have q_ := x1.bel.frozen (p := ⟨w.heap.size, 1, none⟩) (by first | omega | (simp; done) | (simp; omega))
  generalize z_x1_0_1 : x1.val.frozen? ⟨w.heap.size, 1, none⟩ = q at q_
  first | (have q2_ : q = false := q_; subst q2_) | (simp [go_sem] at q_; have q2_ : q = false := q_; subst q2_) | (simp [go_sem, *] at q_; have q2_ : q = false := q_; subst q2_)
  go_wp2_with fail
  with_reducible refine (ko.out _ (by repeat (first | exact Below.refl _ _ | refine bel_later _ ?_ | refine bel_alloc ?_ _ | refine bel_set ?_ (by first | omega | (simp; done) | (simp; omega)) _ | refine Below.drew ?_ | refine bel_drewN ?_ _ | assumption)) y5).mono ?_
  rintro e_x2 w_x2 ⟨Ax2, cx2, rfl, ox2, hb_x2⟩
  obtain ⟨x2, rfl⟩ := later_is hb_x2
  clear hb_x2
  have hz_x2 := x2.bel.size
  try simp at hz_x2
  have l_x2_0 : w.heap.size < x2.val.heap.size := by omega
  have m_x2_0 : w.heap.size < x2.val.heap.size + 1 := by omega
  have q_ := x2.bel.cell (p := ⟨w.heap.size, 0, none⟩) (by first | omega | (simp; done) | (simp; omega))
  generalize c_x2_0_0 : x2.val.cell? ⟨w.heap.size, 0, none⟩ = q at q_
  first | (have q2_ : q = some _ := q_; subst q2_) | (simp [go_sem] at q_; have q2_ : q = some _ := q_; subst q2_) | (simp [go_sem, *] at q_; have q2_ : q = some _ := q_; subst q2_)
  have q_ := x2.bel.frozen (p := ⟨w.heap.size, 0, none⟩) (by first | omega | (simp; done) | (simp; omega))
  generalize z_x2_0_0 : x2.val.frozen? ⟨w.heap.size, 0, none⟩ = q at q_
  first | (have q2_ : q = false := q_; subst q2_) | (simp [go_sem] at q_; have q2_ : q = false := q_; subst q2_) | (simp [go_sem, *] at q_; have q2_ : q = false := q_; subst q2_)
  have q_ := x2.bel.cell (p := ⟨w.heap.size, 1, none⟩) (by first | omega | (simp; done) | (simp; omega))
  generalize c_x2_0_1 : x2.val.cell? ⟨w.heap.size, 1, none⟩ = q at q_
  first | (have q2_ : q = some _ := q_; subst q2_) | (simp [go_sem] at q_; have q2_ : q = some _ := q_; subst q2_) | (simp [go_sem, *] at q_; have q2_ : q = some _ := q_; subst q2_)
  have q_ := x2.bel.frozen (p := ⟨w.heap.size, 1, none⟩) (by first | omega | (simp; done) | (simp; omega))
  generalize z_x2_0_1 : x2.val.frozen? ⟨w.heap.size, 1, none⟩ = q at q_
  first | (have q2_ : q = false := q_; subst q2_) | (simp [go_sem] at q_; have q2_ : q = false := q_; subst q2_) | (simp [go_sem, *] at q_; have q2_ : q = false := q_; subst q2_)
  rw [HL.out] at ox2 ⊢
  have sx2 : Sq u16w x2.val x2.val.heap.size Ax2 ws := Sq.of_own (by rw [← HL.out] at ox2; exact ox2)
  have nx2 := (own_nil_c ox2).1
  go_wp2
  have hbx2 : Below w.heap.size w x2.val := bel_later x2 (bel_later x1 (bel_alloc (Below.refl _ _) _))
  go_region_held3 (fun w' => w'.cell? ⟨x2.val.heap.size, 0, none⟩ = some (.int .i64 (y4 : Int)) ∧ w'.cell? ⟨x2.val.heap.size, 1, none⟩ = some (.slice Ax2 y5 cx2))
    (first | (exact ⟨d05, d15⟩) | (exact ⟨d04, d14⟩) | (exact ⟨d03, d13⟩) | go_keep)
    (first | (go_at_call 13; (with_reducible refine (kf.out _ _ _).mono ?_); rintro e w3 ⟨rfl, hb3⟩; have d03 : w3.cell? ⟨x2.val.heap.size, 0, none⟩ = some (.int .i64 (y4 : Int)) := (hb3.cell (p := ⟨x2.val.heap.size, 0, none⟩) (by simp)).trans (by simp); have d13 : w3.cell? ⟨x2.val.heap.size, 1, none⟩ = some (.slice Ax2 y5 cx2) := (hb3.cell (p := ⟨x2.val.heap.size, 1, none⟩) (by simp)).trans (by simp); have hbx3 : Below x2.val.heap.size x2.val w3 := (((Below.refl _ _).alloc (Nat.le_refl _) _).drew).trans (hb3.mono (by simp)); have sx3 := (sx2.below hbx3).more hbx3.size; have hk3 : x2.val.heap.size < w3.heap.size := (by have := hb3.size; simp at this; omega)) | (go_at_call 37; (with_reducible refine (ki.out _ _ _ sx3 nx2).mono ?_); rintro e w4 ⟨A4, c4, rfl, o4, hb4⟩; have d04 : w4.cell? ⟨x2.val.heap.size, 0, none⟩ = some (.int .i64 (y4 : Int)) := (hb4.cell (p := ⟨x2.val.heap.size, 0, none⟩) hk3).trans d03; have d14 : w4.cell? ⟨x2.val.heap.size, 1, none⟩ = some (.slice Ax2 y5 cx2) := (hb4.cell (p := ⟨x2.val.heap.size, 1, none⟩) hk3).trans d13; have s4 := Sq.of_own o4; have hbx4 : Below w.heap.size w w4 := hbx2.trans ((hbx3.mono hbx2.size).trans (hb4.mono (Nat.le_trans hbx2.size hbx3.size))); have hk4 : x2.val.heap.size < w4.heap.size := (by have := hb4.size; omega); rw [HI.out]) | (go_at_call 36; (with_reducible refine (ke.out _ _ _ _ s4 hbx4).mono ?_); rintro e w5 ⟨rfl, hb5⟩; have d05 : w5.cell? ⟨x2.val.heap.size, 0, none⟩ = some (.int .i64 (y4 : Int)) := (hb5.cell (p := ⟨x2.val.heap.size, 0, none⟩) hk4).trans d04; have d15 : w5.cell? ⟨x2.val.heap.size, 1, none⟩ = some (.slice Ax2 y5 cx2) := (hb5.cell (p := ⟨x2.val.heap.size, 1, none⟩) hk4).trans d14))
  have hb5x : Below x2.val.heap.size x2.val w5 := hbx3.trans ((hb4.mono hbx3.size).trans (hb5.mono (Nat.le_trans hbx3.size hb4.size)))
  have hbF : Below w.heap.size w w5 := hbx2.trans (hb5x.mono hbx2.size)
  have ox5 := own_below ox2 hb5x
  have f0 : w5.cell? ⟨b, o, none⟩ = some (.int .u16 (y0 : Int)) := (hbF.cell (p := ⟨b, o, none⟩) hb).trans c0
  have f1 : w5.cell? ⟨b, o + 1, none⟩ = some (.int .u16 (y1 : Int)) := (hbF.cell (p := ⟨b, o + 1, none⟩) hb).trans c1
  have f2 : w5.cell? ⟨b, o + 2, none⟩ = some (.int .u16 (y2 : Int)) := (hbF.cell (p := ⟨b, o + 2, none⟩) hb).trans c2
  have f3 : w5.cell? ⟨b, o + 3, none⟩ = some (.int .u16 (y3 : Int)) := (hbF.cell (p := ⟨b, o + 3, none⟩) hb).trans c3
  have r0 : w5.cell? ⟨w.heap.size, 0, none⟩ = some (.int .i64 0) := (hb5x.cell (p := ⟨w.heap.size, 0, none⟩) l_x2_0).trans c_x2_0_0
  have r1 : w5.cell? ⟨w.heap.size, 1, none⟩ = some (.slice none 0 0) := (hb5x.cell (p := ⟨w.heap.size, 1, none⟩) l_x2_0).trans c_x2_0_1
  have q0 : w5.frozen? ⟨w.heap.size, 0, none⟩ = false := (hb5x.frozen (p := ⟨w.heap.size, 0, none⟩) l_x2_0).trans z_x2_0_0
  have q1 : w5.frozen? ⟨w.heap.size, 1, none⟩ = false := (hb5x.frozen (p := ⟨w.heap.size, 1, none⟩) l_x2_0).trans z_x2_0_1
  have hne : b ≠ w.heap.size := by omega
  have hne2 : x2.val.heap.size ≠ w.heap.size := by omega
  have hl5 : w.heap.size < w5.heap.size := Nat.lt_of_lt_of_le l_x2_0 hb5x.size
  have hwx : w.heap.size + 1 ≤ x1.val.heap.size := hz_x1
  clear ki ke ko kf sx2 nx2 sx3 hk3 hb3 d03 d13 hbx3 o4 hb4 d04 d14 s4 hbx4 hk4 hb5
  cases r
  · have HQ : Hid (R = Stg.none20) := Lib.hid (by rw [HRR.out]; simp)
    go_wp2
    exact bodyPost_ret (v := .tuple #[.int .u16 0, .int .u32 0, .int .i64 0, .agg #[.int .i64 0, .slice none 0 0], .int .i64 20]) (by simp [results, Try.results10, go_sem, *]) rfl (ReadP.mk' (q := Stg.none20) HQ.out rfl (World.ownsRow_nil _ _ _ _) ((hbF.setCell (by simp) _).setCell (by simp) _))
  · have HQ : Hid (R = ⟨y0, 65536 * y1 + y2, y3, y4, ws, 0⟩) := Lib.hid (by rw [HRR.out]; simp)
    have hww := Lib.hid (fun W => wide_any y1 y2 W u1 u2)
    go_wp2
    go_region_held3 (fun w' => w'.cell? ⟨b, o, none⟩ = some (.int .u16 (y0 : Int)) ∧ w'.cell? ⟨b, o + 1, none⟩ = some (.int .u16 (y1 : Int)) ∧ w'.cell? ⟨b, o + 2, none⟩ = some (.int .u16 (y2 : Int)) ∧ w'.cell? ⟨b, o + 3, none⟩ = some (.int .u16 (y3 : Int)) ∧ w'.cell? ⟨x2.val.heap.size, 0, none⟩ = some (.int .i64 (y4 : Int)) ∧ w'.cell? ⟨x2.val.heap.size, 1, none⟩ = some (.slice Ax2 y5 cx2))
      (first | (refine ⟨?_, ?_, ?_, ?_, ?_, ?_⟩ <;> exact keep_block (by first | exact hne.symm | exact hne2.symm) (keep_block (by first | exact hne.symm | exact hne2.symm) (by assumption))) | go_keep)
      ((go_at_call 38; (with_reducible refine (hww.out _).mono ?_); rintro e w6 ⟨rfl, rfl⟩))
    have E3 : Hid (IntKind.i64.wrap (y3 : Int) = (y3 : Int)) := Lib.hid (IntWalk.i64_in _ (by omega))
    have ET : Hid (((65536 * y1 + y2 : Nat) : Int) = 65536 * (y1 : Int) + (y2 : Int)) := Lib.hid (by omega)
    have hob : (⟨w.heap.size, 0, none⟩ : Addr).block < x1.val.heap.size := by simp; omega
    have hob1 : (⟨w.heap.size, 1, none⟩ : Addr).block < x1.val.heap.size := by simp; omega
    go_wp2
    exact bodyPost_ret (v := .tuple #[.int .u16 (y0 : Int), .int .u32 (65536 * (y1 : Int) + (y2 : Int)), .int .i64 (IntKind.i64.wrap (y3 : Int)), .agg #[.int .i64 (y4 : Int), .slice Ax2 y5 cx2], .int .i64 0]) (by simp [results, Try.results10, go_sem, *]) rfl (by rw [E3.out, ← ET.out]; exact ReadP.mk' (q := ⟨y0, 65536 * y1 + y2, y3, y4, ws, 0⟩) HQ.out HL.out (own_more (B := x1.val.heap.size) (ownsRow_setCell_below (ownsRow_setCell_below ox5 hob _) hob1 _).drew (by omega)) ((hbF.setCell (by simp) _).setCell (by simp) _).drew)
set_option maxHeartbeats 400000 in
theorem read_any (v : List Nat) (A : Option Addr) (c n : Nat) (w : World) (hn : v.length = n) (sq : Sq u16w w w.heap.size A v) (hu : ∀ x ∈ v, x < 65536) (hc : n ≤ c) (hc2 : c ≤ 9223372036854775807) :
    Calls Try.prog 10 #[.slice A n c] w (ReadP w (Stg.read v)) := by
  by_cases h20 : n = 20
  · subst h20
    obtain ⟨b, o, rfl, hb, hcl⟩ := sq_at sq hn
    have c0 := hcl 0 (by omega)
    rw [Nat.add_zero] at c0
    have c1 := hcl 1 (by omega)
    have c2 := hcl 2 (by omega)
    have c3 := hcl 3 (by omega)
    have c4 := hcl 4 (by omega)
    have c5 := hcl 5 (by omega)
    have u1 := Bk.getD_u16 hu 1
    have u2 := Bk.getD_u16 hu 2
    have u4 := Bk.getD_u16 hu 4
    have u5 := Bk.getD_u16 hu 5
    by_cases h3 : 8 ≤ v.getD 3 0
    · rw [show Stg.read v = Stg.none2 by unfold Stg.read; rw [if_pos (.inr h3)]]
      exact read_num b o c _ w hb c3 h3
    have h3' : ¬ (v.length ≠ 20 ∨ 8 ≤ v.getD 3 0) := by omega
    by_cases h5 : 14 < v.getD 5 0
    · rw [show Stg.read v = Stg.none20 by unfold Stg.read; rw [if_neg h3', if_pos h5]]
      exact read_long b o c _ _ _ w hb c3 c4 c5 (by omega) u4 u5 h5 hc hc2
    cases hf : Bk.fits (v.getD 4 0 : Nat) (v.getD 5 0)
    · rw [show Stg.read v = Stg.none20 by unfold Stg.read; rw [if_neg h3', if_neg h5, if_neg (fun h => absurd (h.1.symm.trans hf) (by decide))]]
      exact read_nofit v b o c _ _ _ w hn sq hb c3 c4 c5 (by omega) u4 (by omega) hc hc2 hf
    · refine read_fit v b o c _ _ _ _ _ _ _ w hn hu sq hb c0 c1 c2 c3 c4 c5 (by omega) u1 u2 u4 (by omega) hc hc2 hf rfl _ ?_
      unfold Stg.read
      rw [if_neg h3', if_neg h5]
      by_cases hi : Stg.itself (v.getD 4 0 : Nat) ((v.drop 6).take (v.getD 5 0)) = v.drop 4
      · rw [if_pos ⟨hf, hi⟩, if_pos (decide_eq_true hi)]
        rfl
      · rw [if_neg (fun h => hi h.2), if_neg (by rw [decide_eq_false hi]; decide)]
  · rw [show Stg.read v = Stg.none2 by unfold Stg.read; rw [if_pos (.inl (by omega))]]
    exact read_bad v A c n w hn sq h20
end Go.Proofs.Ytopkncbpkccfbaa
