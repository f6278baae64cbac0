/- The examples of chapter 19 (awake). -/
import Derived.Test.YtopkncbpkccfbaaStgRf
import Derived.Test.YtopkncbpkccfbaaSameB
import Derived.Test.YtopkncbpkccfbaaCopyW
namespace Go.Proofs.Ytopkncbpkccfbaa
open Go.RowKit
set_option linter.unusedVariables false
attribute [local go_sem] Later.cell Later.frozen setCell_twice
theorem words_at (o t : Nat) (k a O T : Int) (ws : List Nat) (A : Option Addr) (c n : Nat) (r : List Nat × Int) (w : World) (hO : (o : Int) = O) (hT : (t : Int) = T) (ho : o < 65536) (ht : t < 4294967296) (hn : ws.length = n) (sq : Sq u16w w w.heap.size A ws) (lo : -9223372036854775808 ≤ a) (hi : a ≤ 9223372036854775807) (hnc : ws.length ≤ 9223372036854775807) (hnl : A = none → c = 0) (hr : Stg.words o t k a ws = r) :
    Calls Try.prog 11 #[.int .u16 O, .int .u32 T, .int .i64 k, .agg #[.int .i64 a, .slice A n c]] w (WordsP w r) := by
  subst hO hT hr
  exact words_any o t k a ws A c n w ho ht hn sq lo hi hnc hnl
/-- what Read hands back, by numbers -/
def ReadV (w : World) (O T N Aa E : Int) (ws : List Nat) (m : Nat) (en : Ending) (w' : World) : Prop :=
  ∃ A c, en = .returned (.tuple #[.int .u16 O, .int .u32 T, .int .i64 N, .agg #[.int .i64 Aa, .slice A m c], .int .i64 E]) ∧ w'.ownsRow w.heap.size 22 1 (.slice A m c) m (ws.map u16w) ∧ Below w.heap.size w w'
theorem read_lit (v : List Nat) (A : Option Addr) (c n : Nat) (r : Stg.R) (O T N Aa E : Int) (m : Nat) (w : World) (hn : v.length = n) (sq : Sq u16w w w.heap.size A v) (hu : ∀ x ∈ v, x < 65536) (hc : n ≤ c) (hc2 : c ≤ 9223372036854775807) (hr : Stg.read v = r) (h0 : (r.o : Int) = O) (h1 : (r.t : Int) = T) (h2 : (r.n : Int) = N) (h3 : (r.a : Int) = Aa) (h4 : r.ws.length = m) (h5 : r.e = E) :
    Calls Try.prog 10 #[.slice A n c] w (ReadV w O T N Aa E r.ws m) := by
  subst hr h0 h1 h2 h3 h4 h5
  exact read_any v A c n w hn sq hu hc hc2
/-- the words of a row of the call's own, one of them another one -/
theorem own_set {w : World} {base g i x : Nat} {n c : Nat} {l : List Nat} (h : w.ownsRow base 22 1 (.slice (some ⟨g, 0, none⟩) n c) n (l.map u16w)) : (w.setCell ⟨g, i, none⟩ (.int .u16 (x : Int))).ownsRow base 22 1 (.slice (some ⟨g, 0, none⟩) n c) n ((l.set i x).map u16w) := by
  have h1 := (h.stored i (.int .u16 (x : Int))).1
  rw [List.map_set]
  simpa using h1
def wantL : List Nat := [9, 1, 2, 1, 3, 2, 5, 6, 0, 0, 0, 0, 0, 0, 0, 0, 0, 0, 0, 0]
set_option maxRecDepth 100000 in
set_option maxHeartbeats 400000 in
theorem awake_any (w : World) : Calls Try.prog 9 #[] w fun e w' => e = .returned (.bool true) ∧ Below w.heap.size w w' := by
  obtain ⟨i0, hif, hz0, hz1, hz2⟩ := info_parts info_w16
  go_enter Try.func9, Try.ntmps9
  go_wp2_with fail
  with_reducible refine (words_at 9 65538 1 3 9 65538 [5, 6] _ _ 2 (wantL, 0) _ (by simp) (by simp) (by decide) (by decide) (by decide) (Sq.lits _ _ _ _ _ _ _ (by simp) (by simp) (by simp)) (by decide) (by decide) (by decide) (by simp) (by decide)).mono ?_
  rintro e_ w1 ⟨A1, c1, rfl, o1, hb1⟩
  have hbw1 : Below w.heap.size w w1 := (bel_alloc (Below.refl _ _) _).trans (hb1.mono (by simp))
  replace o1 : w1.ownsRow w.heap.size 22 1 (.slice A1 20 c1) 20 (wantL.map u16w) := own_more o1 (by simp)
  rw [show ((wantL, (0 : Int)).1).length = 20 from rfl]
  clear hb1
  go_wp2_with (first | (at_make; refine wpList_make_full _ rfl _ _ 24 rfl w1.heap.size 22 i0 (.int .u16 0) 1 Try.underlying24 hif hz0 hz1 _ _ _ _ 20 rfl rfl rfl rfl (by rw [hz2]; decide) (by decide) (Nat.le_refl _) ?_; intro w2 o2 hg2; have hb2 : Below w1.heap.size w1 w2 := (Below.refl _ _).grown hg2 (Nat.le_refl _) (by simp); have hz2' : w1.heap.size < w2.heap.size := (o2.lt w1.heap.size rfl).2; clear hg2; replace o2 : w2.ownsRow w1.heap.size 22 1 (.slice (some ⟨w1.heap.size, 0, none⟩) 20 20) 20 ((List.replicate 20 0).map u16w) := (by rw [← vals]; rw [← made_vals]; exact o2)) | (refine wpList_copy_words rfl (.tmp 26) (.tmp 27) rfl w1.heap.size w1.heap.size 0 20 (List.replicate 20 0) [9, 1, 2, 1, 3, 2, 5, 6] (o2.alloc _) _ _ _ rfl (fun _ => rfl) _ 8 _ (w2.heap.size + 1) rfl rfl (by decide) (Sq.lits _ _ _ _ _ _ _ (by simp) (by simp) (by simp)) (by decide) ?_; intro w3 o3 hb3))
  replace o3 : w3.ownsRow w1.heap.size 22 1 (.slice (some ⟨w1.heap.size, 0, none⟩) 20 20) 20 (wantL.map u16w) := o3
  have hbb : Below w1.heap.size w1 w3 := (hb2.alloc (by omega) _).trans hb3
  have hbw3 : Below w.heap.size w w3 := hbw1.trans (hbb.mono hbw1.size)
  have hk3 : w1.heap.size < w3.heap.size := by have := hb3.size; simp at this; omega
  replace o1 := own_below o1 hbb
  have hbw1s : w.heap.size ≤ w1.heap.size := hbw1.size
  clear o2 hb2 hb3 hbb hbw1 hz2'
  go_wp2_with fail
  refine (lowWords_any A1 (some ⟨w1.heap.size, 0, none⟩) wantL wantL c1 20 20 20 true _ rfl rfl (Sq.of_own o1) (Sq.of_own o3) (by decide) (by decide)).mono ?_
  rintro e_x4 w_x4 ⟨rfl, hb_x4⟩
  obtain ⟨x4, rfl⟩ := later_is hb_x4
  clear hb_x4
  have hz_x4 := x4.bel.size
  try simp at hz_x4
  replace o1 := own_below o1 x4.bel
  replace o3 := own_below o3 x4.bel
  have hbw4 : Below w.heap.size w x4.val := bel_later x4 hbw3
  go_wp2_with fail
  with_reducible refine (read_lit wantL A1 c1 20 ⟨9, 65538, 1, 3, [5, 6], 0⟩ 9 65538 1 3 0 2 _ (by decide) (Sq.of_own o1) (by decide) (own_nil_c o1).2 (own_cap o1) (by decide) (by simp) (by simp) (by simp) (by simp) (by simp) (by simp)).mono ?_
  rintro e_x5 w_x5 ⟨Ax5, cx5, rfl, ox5, hb_x5⟩
  obtain ⟨x5, rfl⟩ := later_is hb_x5
  clear hb_x5
  have hz_x5 := x5.bel.size
  try simp at hz_x5
  replace o3 := own_below o3 x5.bel
  have hbw5 : Below w.heap.size w x5.val := bel_later x5 hbw4
  have k19 : x5.val.cell? ⟨w1.heap.size, 19, none⟩ = some (.int .u16 0) := (o3.cellAt 19 (by omega)).trans (by simp [wantL])
  have f19 := o3.frozenAt 19
  have hk5 : w1.heap.size < x5.val.heap.size := by omega
  have o5 : ((x5.val.setCell ⟨w1.heap.size, 19, none⟩ (.int .u16 1)).alloc (.cells #[.int .i64 3, .slice Ax5 2 cx5] 26)).ownsRow w1.heap.size 22 1 (.slice (some ⟨w1.heap.size, 0, none⟩) 20 20) 20 ((wantL.set 19 1).map u16w) := (own_set (x := 1) o3).alloc _
  have hx4 : w1.heap.size < x4.val.heap.size := by omega
  have y5 : ((x5.val.setCell ⟨w1.heap.size, 19, none⟩ (.int .u16 1)).alloc (.cells #[.int .i64 3, .slice Ax5 2 cx5] 26)).ownsRow x4.val.heap.size 22 1 (.slice Ax5 2 cx5) 2 (([5, 6] : List Nat).map u16w) := (ownsRow_setCell_below ox5 hx4 _).alloc _
  clear o3 ox5
  go_wp2_with fail
  with_reducible refine (read_lit (wantL.set 19 1) (some ⟨w1.heap.size, 0, none⟩) 20 20 Stg.none20 0 0 0 0 20 0 _ (by decide) (Sq.of_own o5) (by decide) (by decide) (by decide) (by decide) (by decide) (by decide) (by decide) (by decide) (by decide) (by decide)).mono ?_
  rintro e_x6 w_x6 ⟨Ax6, cx6, rfl, ox6, hb_x6⟩
  obtain ⟨x6, rfl⟩ := later_is hb_x6
  clear hb_x6
  have hz_x6 := x6.bel.size
  try simp at hz_x6
  have l_x6_0 : x5.val.heap.size < x6.val.heap.size := by omega
  have m_x6_0 : x5.val.heap.size < x6.val.heap.size + 1 := by omega
  have q_ := x6.bel.cell (p := ⟨x5.val.heap.size, 0, none⟩) (by first | omega | (simp; done) | (simp; omega))
  generalize c_x6_0_0 : x6.val.cell? ⟨x5.val.heap.size, 0, none⟩ = q at q_
  first | (have q2_ : q = some _ := q_; subst q2_) | (simp [go_sem] at q_; have q2_ : q = some _ := q_; subst q2_) | (simp [go_sem, *] at q_; have q2_ : q = some _ := q_; subst q2_)
  have q_ := x6.bel.frozen (p := ⟨x5.val.heap.size, 0, none⟩) (by first | omega | (simp; done) | (simp; omega))
  generalize z_x6_0_0 : x6.val.frozen? ⟨x5.val.heap.size, 0, none⟩ = q at q_
  first | (have q2_ : q = false := q_; subst q2_) | (simp [go_sem] at q_; have q2_ : q = false := q_; subst q2_) | (simp [go_sem, *] at q_; have q2_ : q = false := q_; subst q2_)
  have q_ := x6.bel.cell (p := ⟨x5.val.heap.size, 1, none⟩) (by first | omega | (simp; done) | (simp; omega))
  generalize c_x6_0_1 : x6.val.cell? ⟨x5.val.heap.size, 1, none⟩ = q at q_
  first | (have q2_ : q = some _ := q_; subst q2_) | (simp [go_sem] at q_; have q2_ : q = some _ := q_; subst q2_) | (simp [go_sem, *] at q_; have q2_ : q = some _ := q_; subst q2_)
  have q_ := x6.bel.frozen (p := ⟨x5.val.heap.size, 1, none⟩) (by first | omega | (simp; done) | (simp; omega))
  generalize z_x6_0_1 : x6.val.frozen? ⟨x5.val.heap.size, 1, none⟩ = q at q_
  first | (have q2_ : q = false := q_; subst q2_) | (simp [go_sem] at q_; have q2_ : q = false := q_; subst q2_) | (simp [go_sem, *] at q_; have q2_ : q = false := q_; subst q2_)
  replace o5 := own_below o5 x6.bel
  replace y5 := own_below y5 x6.bel
  have hbw6 : Below w.heap.size w x6.val := bel_later x6 (bel_alloc (bel_set hbw5 (by simp; exact hbw1s) _) _)
  have k3 : x6.val.cell? ⟨w1.heap.size, 3, none⟩ = some (.int .u16 1) := (o5.cellAt 3 (by omega)).trans (by simp [wantL])
  have f3 := o5.frozenAt 3
  have hk6 : w1.heap.size < x6.val.heap.size := by omega
  have hne6 : x5.val.heap.size ≠ w1.heap.size := by omega
  have o6 : ((x6.val.setCell ⟨w1.heap.size, 3, none⟩ (.int .u16 8)).alloc (.cells #[.int .i64 0, .slice Ax6 0 cx6] 26)).ownsRow w1.heap.size 22 1 (.slice (some ⟨w1.heap.size, 0, none⟩) 20 20) 20 (((wantL.set 19 1).set 3 8).map u16w) := (own_set (x := 8) o5).alloc _
  have y6 : ((x6.val.setCell ⟨w1.heap.size, 3, none⟩ (.int .u16 8)).alloc (.cells #[.int .i64 0, .slice Ax6 0 cx6] 26)).ownsRow x4.val.heap.size 22 1 (.slice Ax5 2 cx5) 2 (([5, 6] : List Nat).map u16w) := (ownsRow_setCell_below y5 hx4 _).alloc _
  have d0 := keep_block (b := w1.heap.size) (i := 3) (u := .int .u16 8) hne6.symm c_x6_0_0
  have d1 := keep_block (b := w1.heap.size) (i := 3) (u := .int .u16 8) hne6.symm c_x6_0_1
  clear o5 y5 ox6
  go_wp2_with fail
  with_reducible refine (read_lit ((wantL.set 19 1).set 3 8) (some ⟨w1.heap.size, 0, none⟩) 20 20 Stg.none2 0 0 0 0 2 0 _ (by decide) (Sq.of_own o6) (by decide) (by decide) (by decide) (by decide) (by decide) (by decide) (by decide) (by decide) (by decide) (by decide)).mono ?_
  rintro e_x7 w_x7 ⟨Ax7, cx7, rfl, ox7, hb_x7⟩
  obtain ⟨x7, rfl⟩ := later_is hb_x7
  clear hb_x7
  have hz_x7 := x7.bel.size
  try simp at hz_x7
  have g0 := x7.keep (keep_alloc d0)
  have g1 := x7.keep (keep_alloc d1)
  replace y6 := own_below y6 x7.bel
  have hbw7 : Below w.heap.size w x7.val := bel_later x7 (bel_alloc (bel_set hbw6 (by simp; exact hbw1s) _) _)
  have hk7 : x5.val.heap.size < x7.val.heap.size := by omega
  go_wp2_with fail
  refine (lowWords_any Ax5 _ [5, 6] [5, 6] cx5 _ 2 2 true _ rfl rfl (Sq.of_own ((y6.alloc _).alloc _)) (Sq.lits _ _ _ _ _ _ _ (by simp) (by simp) (by simp)) (by decide) (by decide)).mono ?_
  rintro e_x8 w_x8 ⟨rfl, hb_x8⟩
  obtain ⟨x8, rfl⟩ := later_is hb_x8
  clear hb_x8
  have hz_x8 := x8.bel.size
  try simp at hz_x8
  go_wp2
  go_ret
  exact ⟨rfl, bel_later x8 (bel_alloc (bel_alloc hbw7 _) _)⟩
end Go.Proofs.Ytopkncbpkccfbaa
