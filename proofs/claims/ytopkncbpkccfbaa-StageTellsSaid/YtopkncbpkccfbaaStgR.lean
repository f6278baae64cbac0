/- The walks of package stage: tagged, own, Words. -/
import Derived.Test.YtopkncbpkccfbaaStgW
import Derived.Deep.RegionHeld3
namespace Go.Proofs.Ytopkncbpkccfbaa
open Go.RowKit
set_option linter.unusedVariables false
attribute [local go_sem] Later.cell Later.frozen setCell_twice
set_option maxHeartbeats 400000 in
theorem tagged_any (o t k : Nat) (a : Int) (ws : List Nat) (A : Option Addr) (c n : Nat) (w : World) (ho : o < 65536) (ht : t < 4294967296) (hk : k ≤ 7) (hn : ws.length = n) (sq : Sq u16w w w.heap.size A ws) (lo : -9223372036854775808 ≤ a) (hi : a ≤ 9223372036854775807) (hnc : ws.length ≤ 9223372036854775807) (hnl : A = none → c = 0) :
    Calls Try.prog 40 #[.int .u16 (o : Int), .int .u32 (t : Int), .int .i64 (k : Int), .agg #[.int .i64 a, .slice A n c]] w (Makes u16w 22 w (Stg.tagged o t k a ws)) := by
  obtain ⟨i0, hif, hz0, hz1, hz2⟩ := info_parts info_w16
  subst hn
  have EK := Lib.hid (show IntKind.u16.wrap (k : Int) = (k : Int) by rw [wrap_u16]; omega)
  go_enter Try.func40, Try.ntmps40
  go_wp2_with fail
  refine (parts_any t _ ht).mono ?_
  rintro e_ w_ ⟨rfl, rfl⟩
  go_wp2_with (at_make; refine wpList_make_own _ rfl _ _ 24 rfl (w.heap.size + 1) 22 i0 _ 1 Try.underlying24 hif hz0 hz1 _ _ _ 20 rfl rfl rfl (by rw [hz2]; decide) (by decide) (by simp) ?_; intro w1 hown hg; have hb1 := (Below.refl (w.heap.size + 1) _).grown hg (by simp) (by simp); have d0 : w1.cell? ⟨w.heap.size, 0, none⟩ = some (.int .i64 a) := (hb1.cell (p := ⟨w.heap.size, 0, none⟩) (by simp)).trans (by simp); have d1 : w1.cell? ⟨w.heap.size, 1, none⟩ = some (.slice A ws.length c) := (hb1.cell (p := ⟨w.heap.size, 1, none⟩) (by simp)).trans (by simp); have hbw : Below w.heap.size w w1 := (bel_alloc (Below.refl _ _) _).trans (hb1.mono (by omega)); have hs1 : w.heap.size + 1 ≤ w1.heap.size := (by have := hb1.size; simpa using this); clear hg hb1)
  have hown1 : w1.ownsRow (w.heap.size + 1) 22 1 (.slice (some ⟨w.heap.size + 1, 0, none⟩) 0 20) 0 (([] : List Nat).map u16w) := by simpa using hown
  clear hown
  with_reducible refine (stadd_any (w.heap.size + 1) (some ⟨w.heap.size + 1, 0, none⟩) _ 20 _ 0 4 [] [o, t / 65536, t % 65536, k] _ (hown1.alloc _) (by simp) (Sq.lits _ _ _ _ _ _ _ (by simp) (by simp) (by simp)) (by simp) (by simp) (by simp) (by simp; omega)).mono ?_
  rintro e2 w2 ⟨A2, c2, rfl, hown2, hb3⟩
  simp only [List.nil_append, List.length_cons, List.length_nil, Nat.zero_add, Nat.reduceAdd] at hown2
  have e0 : w2.cell? ⟨w.heap.size, 0, none⟩ = some (.int .i64 a) := (hb3.cell (p := ⟨w.heap.size, 0, none⟩) (by simp)).trans (keep_alloc d0)
  have e1 : w2.cell? ⟨w.heap.size, 1, none⟩ = some (.slice A ws.length c) := (hb3.cell (p := ⟨w.heap.size, 1, none⟩) (by simp)).trans (keep_alloc d1)
  have hb4 : Below w.heap.size w w2 := (bel_alloc hbw _).trans (hb3.mono (by omega))
  have hs4 : w.heap.size + 1 ≤ w2.heap.size := by have := hb3.size; simp at this; omega
  have sq4 : Sq u16w w2 w2.heap.size A ws := (sq.below hb4).more hb4.size
  clear hown1 d0 d1 hb3
  go_wp2_with fail
  with_reducible refine (itself_any a ws A c ws.length w2 rfl sq4 lo hi hnc hnl).mono ?_
  rintro e3 w3 ⟨A3, c3, rfl, hown3, hb5⟩
  have sq5 := Sq.of_own hown3
  have hnl3 := (own_nil_c hown3).1
  have hown5 := own_below hown2 hb5
  have hb6 : Below w.heap.size w w3 := hb4.trans (hb5.mono hb4.size)
  have hs6 : w.heap.size + 1 ≤ w3.heap.size := by have := hb5.size; omega
  have HI := Lib.hid (Stg.itself_length a ws)
  clear hown3 hown2 e0 e1
  go_wp2_with fail
  with_reducible refine (stadd_any (w.heap.size + 1) A2 A3 c2 c3 4 _ [o, t / 65536, t % 65536, k] (Stg.itself a ws) _ hown5 (by simp) sq5 rfl hnl3 (by rw [HI.out]; simp) (by omega)).mono ?_
  rintro e4 w4 ⟨A4, c4, rfl, hown7, hb7⟩
  have hb8 : Below w.heap.size w w4 := hb6.trans (hb7.mono (by omega))
  have hown8 : w4.ownsRow (w.heap.size + 1) 22 1 (.slice A4 20 c4) 20 ((Stg.tagged o t k a ws).map u16w) := by
    have h20 : ([o, t / 65536, t % 65536, k] ++ Stg.itself a ws).length = 20 := by simp [HI.out]
    rw [h20] at hown7
    exact hown7
  have H20 := Lib.hid (show ([o, t / 65536, t % 65536, k] ++ Stg.itself a ws).length = 20 by simp [HI.out])
  rw [H20.out]
  clear hown7 hown5
  go_wp2
  go_ret
  exact Makes.of_own (Stg.tagged_length o t k a ws) (own_more hown8 (by omega)) hb8
/-- a block in memory of its own -/
def Owns (w : World) (a : Int) (ws : List Nat) (e : Ending) (w' : World) : Prop :=
  ∃ A c, e = .returned (.agg #[.int .i64 a, .slice A ws.length c]) ∧ w'.ownsRow w.heap.size 22 1 (.slice A ws.length c) ws.length (ws.map u16w) ∧ Below w.heap.size w w'
theorem own_any (a : Int) (ws : List Nat) (A : Option Addr) (c n : Nat) (w : World) (hn : ws.length = n) (sq : Sq u16w w w.heap.size A ws) (hnc : ws.length ≤ 35184372088832) (hnl : A = none → c = 0) :
    Calls Try.prog 35 #[.agg #[.int .i64 a, .slice A n c]] w (Owns w a ws) := by
  subst hn
  have kc := Lib.hid (fun W (h : Below w.heap.size w W) => clone_any A ws ws.length c W ((sq.below h).more h.size) hnc rfl hnl)
  go_enter Try.func35, Try.ntmps35
  go_wp2_with fail
  with_reducible refine (kc.out _ (by repeat (first | exact Below.refl _ _ | refine bel_alloc ?_ _))).mono ?_
  rintro e_x1 w_x1 ⟨Ax1, cx1, rfl, ox1, hb_x1⟩
  obtain ⟨x1, rfl⟩ := later_is hb_x1
  clear hb_x1
  have hz_x1 := x1.bel.size
  try simp at hz_x1
  have l_x1_0 : w.heap.size < x1.val.heap.size := by omega
  have m_x1_0 : w.heap.size < x1.val.heap.size + 1 := by omega
  have q_ := x1.bel.cell (p := ⟨w.heap.size, 0, none⟩) (by first | omega | (simp; done) | (simp; omega))
  generalize c_x1_0_0 : x1.val.cell? ⟨w.heap.size, 0, none⟩ = q at q_
  first | (have q2_ : q = some _ := q_; subst q2_) | (simp [go_sem] at q_; have q2_ : q = some _ := q_; subst q2_) | (simp [go_sem, *] at q_; have q2_ : q = some _ := q_; subst q2_)
  have q_ := x1.bel.frozen (p := ⟨w.heap.size, 0, none⟩) (by first | omega | (simp; done) | (simp; omega))
  generalize z_x1_0_0 : x1.val.frozen? ⟨w.heap.size, 0, none⟩ = q at q_
  first | (have q2_ : q = false := q_; subst q2_) | (simp [go_sem] at q_; have q2_ : q = false := q_; subst q2_) | (simp [go_sem, *] at q_; have q2_ : q = false := q_; subst q2_)
  have q_ := x1.bel.cell (p := ⟨w.heap.size, 1, none⟩) (by first | omega | (simp; done) | (simp; omega))
  generalize c_x1_0_1 : x1.val.cell? ⟨w.heap.size, 1, none⟩ = q at q_
  first | (have q2_ : q = some _ := q_; subst q2_) | (simp [go_sem] at q_; have q2_ : q = some _ := q_; subst q2_) | (simp [go_sem, *] at q_; have q2_ : q = some _ := q_; subst q2_)
  have q_ := x1.bel.frozen (p := ⟨w.heap.size, 1, none⟩) (by first | omega | (simp; done) | (simp; omega))
  generalize z_x1_0_1 : x1.val.frozen? ⟨w.heap.size, 1, none⟩ = q at q_
  first | (have q2_ : q = false := q_; subst q2_) | (simp [go_sem] at q_; have q2_ : q = false := q_; subst q2_) | (simp [go_sem, *] at q_; have q2_ : q = false := q_; subst q2_)
  have l_x1_1 : w.heap.size+1 < x1.val.heap.size := by omega
  have m_x1_1 : w.heap.size+1 < x1.val.heap.size + 1 := by omega
  have q_ := x1.bel.cell (p := ⟨w.heap.size+1, 0, none⟩) (by first | omega | (simp; done) | (simp; omega))
  generalize c_x1_1_0 : x1.val.cell? ⟨w.heap.size+1, 0, none⟩ = q at q_
  first | (have q2_ : q = some _ := q_; subst q2_) | (simp [go_sem] at q_; have q2_ : q = some _ := q_; subst q2_) | (simp [go_sem, *] at q_; have q2_ : q = some _ := q_; subst q2_)
  have q_ := x1.bel.frozen (p := ⟨w.heap.size+1, 0, none⟩) (by first | omega | (simp; done) | (simp; omega))
  generalize z_x1_1_0 : x1.val.frozen? ⟨w.heap.size+1, 0, none⟩ = q at q_
  first | (have q2_ : q = false := q_; subst q2_) | (simp [go_sem] at q_; have q2_ : q = false := q_; subst q2_) | (simp [go_sem, *] at q_; have q2_ : q = false := q_; subst q2_)
  have q_ := x1.bel.cell (p := ⟨w.heap.size+1, 1, none⟩) (by first | omega | (simp; done) | (simp; omega))
  generalize c_x1_1_1 : x1.val.cell? ⟨w.heap.size+1, 1, none⟩ = q at q_
  first | (have q2_ : q = some _ := q_; subst q2_) | (simp [go_sem] at q_; have q2_ : q = some _ := q_; subst q2_) | (simp [go_sem, *] at q_; have q2_ : q = some _ := q_; subst q2_)
  have q_ := x1.bel.frozen (p := ⟨w.heap.size+1, 1, none⟩) (by first | omega | (simp; done) | (simp; omega))
  generalize z_x1_1_1 : x1.val.frozen? ⟨w.heap.size+1, 1, none⟩ = q at q_
  first | (have q2_ : q = false := q_; subst q2_) | (simp [go_sem] at q_; have q2_ : q = false := q_; subst q2_) | (simp [go_sem, *] at q_; have q2_ : q = false := q_; subst q2_)
  have hown : x1.val.ownsRow (w.heap.size + 1 + 1) 22 1 (.slice Ax1 ws.length cx1) ws.length (ws.map u16w) := own_more ox1 (by simp)
  clear ox1
  go_wp2
  exact bodyPost_ret (v := .agg #[.int .i64 a, .slice Ax1 ws.length cx1]) (by simp [results, Try.results35, go_sem, *]) rfl ⟨Ax1, cx1, rfl, own_more (B := w.heap.size + 1 + 1) (by repeat (first | exact hown | refine ownsRow_setCell_below ?_ (by first | omega | (simp; done) | (simp; omega)) _)) (by omega), (by repeat (first | exact Below.refl _ _ | refine bel_later _ ?_ | refine bel_alloc ?_ _ | refine bel_set ?_ (by first | omega | (simp; done) | (simp; omega)) _ | refine Below.drew ?_ | refine bel_drewN ?_ _ | assumption))⟩
theorem number_any (n : Int) (r : Bool) (w : World) (hr : decide (0 ≤ n ∧ n < 8) = r) :
    Calls Try.prog 39 #[.int .i64 n] w fun e w' => e = .returned (.bool r) ∧ w = w' := by
  by_cases h1 : 0 ≤ n
  · by_cases h2 : n < 8
    · obtain rfl : r = true := by rw [← hr]; simp; omega
      clear hr
      go_enter Try.func39, Try.ntmps39
      go_wp2
      go_ret
      exact ⟨rfl, rfl⟩
    · obtain rfl : r = false := by rw [← hr]; simp; omega
      have g2 : decide (n < 8) = false := by simpa using h2
      clear hr
      go_enter Try.func39, Try.ntmps39
      go_wp2
      go_ret
      exact ⟨rfl, rfl⟩
  · obtain rfl : r = false := by rw [← hr]; simp; omega
    have g1 : decide (0 ≤ n) = false := by simpa using h1
    clear hr
    go_enter Try.func39, Try.ntmps39
    go_wp2
    go_ret
    exact ⟨rfl, rfl⟩
/-- what Words hands back -/
def WordsP (w : World) (r : List Nat × Int) (e : Ending) (w' : World) : Prop :=
  ∃ A c, e = .returned (.tuple #[.slice A r.1.length c, .int .i64 r.2]) ∧ w'.ownsRow w.heap.size 22 1 (.slice A r.1.length c) r.1.length (r.1.map u16w) ∧ Below w.heap.size w w'
theorem WordsP.mk' {w w' : World} {r : List Nat × Int} {A : Option Addr} {c n : Nat} {er : Int} {l : List Nat} (h : r = (l, er)) (hn : l.length = n) (ho : w'.ownsRow w.heap.size 22 1 (.slice A n c) n (l.map u16w)) (hb : Below w.heap.size w w') : WordsP w r (.returned (.tuple #[.slice A n c, .int .i64 er])) w' := by
  subst h hn
  exact ⟨A, c, rfl, ho, hb⟩
set_option maxHeartbeats 400000 in
theorem words_any (o t : Nat) (k : Int) (a : Int) (ws : List Nat) (A : Option Addr) (c n : Nat) (w : World) (ho : o < 65536) (ht : t < 4294967296) (hn : ws.length = n) (sq : Sq u16w w w.heap.size A ws) (lo : -9223372036854775808 ≤ a) (hi : a ≤ 9223372036854775807) (hnc : ws.length ≤ 9223372036854775807) (hnl : A = none → c = 0) :
    Calls Try.prog 11 #[.int .u16 (o : Int), .int .u32 (t : Int), .int .i64 k, .agg #[.int .i64 a, .slice A n c]] w (WordsP w (Stg.words o t k a ws)) := by
  subst hn
  by_cases h1 : k < 0 ∨ 7 < k
  · have HR := Lib.hid (show Stg.words o t k a ws = ([], 2) by unfold Stg.words; rw [if_pos h1])
    have kn := Lib.hid (fun W => number_any k false W (by simp; omega))
    clear h1
    go_enter Try.func11, Try.ntmps11
    go_wp2_with fail
    refine (kn.out _).mono ?_
    rintro e_ w_ ⟨rfl, rfl⟩
    go_wp2
    go_ret2
    exact WordsP.mk' HR.out rfl (World.ownsRow_nil _ _ _ _) (by repeat (first | exact Below.refl _ _ | refine bel_later _ ?_ | refine bel_alloc ?_ _ | refine bel_set ?_ (by first | omega | (simp; done) | (simp; omega)) _ | refine Below.drew ?_ | refine bel_drewN ?_ _ | assumption))
  have kn := Lib.hid (fun W => number_any k true W (by simp; omega))
  cases hf : Bk.fits a ws.length
  · have HR := Lib.hid (show Stg.words o t k a ws = ([], 20) by unfold Stg.words; rw [if_neg h1, if_neg (by simp [hf])])
    have kf := Lib.hid (fun W => fits_any a ws.length c A false W lo hi hnc hf)
    clear h1 hf
    go_enter Try.func11, Try.ntmps11
    go_wp2_with fail
    refine (kn.out _).mono ?_
    rintro e_ w_ ⟨rfl, rfl⟩
    go_wp2_with fail
    refine (kf.out _).mono ?_
    rintro e_x1 w_x1 ⟨rfl, hb_x1⟩
    obtain ⟨x1, rfl⟩ := later_is hb_x1
    clear hb_x1
    have hz_x1 := x1.bel.size
    try simp at hz_x1
    go_wp2
    go_ret2
    exact WordsP.mk' HR.out rfl (World.ownsRow_nil _ _ _ _) (by repeat (first | exact Below.refl _ _ | refine bel_later _ ?_ | refine bel_alloc ?_ _ | refine bel_set ?_ (by first | omega | (simp; done) | (simp; omega)) _ | refine Below.drew ?_ | refine bel_drewN ?_ _ | assumption))
  · obtain ⟨m, rfl, hm⟩ : ∃ m : Nat, k = (m : Int) ∧ m ≤ 7 := ⟨k.toNat, by omega, by omega⟩
    have HR := Lib.hid (show Stg.words o t (m : Int) a ws = (Stg.tagged o t m a ws, 0) by unfold Stg.words; rw [if_neg h1, if_pos hf, Int.toNat_natCast])
    have kf := Lib.hid (fun W => fits_any a ws.length c A true W lo hi hnc hf)
    have kt := Lib.hid (fun W (h : Below w.heap.size w W) => tagged_any o t m a ws A c ws.length W ho ht hm rfl ((sq.below h).more h.size) lo hi hnc hnl)
    clear h1 hf
    go_enter Try.func11, Try.ntmps11
    go_wp2_with fail
    refine (kn.out _).mono ?_
    rintro e_ w_ ⟨rfl, rfl⟩
    go_wp2_with fail
    refine (kf.out _).mono ?_
    rintro e_x1 w_x1 ⟨rfl, hb_x1⟩
    obtain ⟨x1, rfl⟩ := later_is hb_x1
    clear hb_x1
    have hz_x1 := x1.bel.size
    try simp at hz_x1
    have l_x1_0 : w.heap.size < x1.val.heap.size := by omega
    have m_x1_0 : w.heap.size < x1.val.heap.size + 1 := by omega
    have q_ := x1.bel.cell (p := ⟨w.heap.size, 0, none⟩) (by first | omega | (simp; done) | (simp; omega))
    generalize c_x1_0_0 : x1.val.cell? ⟨w.heap.size, 0, none⟩ = q at q_
    first | (have q2_ : q = some _ := q_; subst q2_) | (simp [go_sem] at q_; have q2_ : q = some _ := q_; subst q2_) | (simp [go_sem, *] at q_; have q2_ : q = some _ := q_; subst q2_)
    have q_ := x1.bel.frozen (p := ⟨w.heap.size, 0, none⟩) (by first | omega | (simp; done) | (simp; omega))
    generalize z_x1_0_0 : x1.val.frozen? ⟨w.heap.size, 0, none⟩ = q at q_
    first | (have q2_ : q = false := q_; subst q2_) | (simp [go_sem] at q_; have q2_ : q = false := q_; subst q2_) | (simp [go_sem, *] at q_; have q2_ : q = false := q_; subst q2_)
    have q_ := x1.bel.cell (p := ⟨w.heap.size, 1, none⟩) (by first | omega | (simp; done) | (simp; omega))
    generalize c_x1_0_1 : x1.val.cell? ⟨w.heap.size, 1, none⟩ = q at q_
    first | (have q2_ : q = some _ := q_; subst q2_) | (simp [go_sem] at q_; have q2_ : q = some _ := q_; subst q2_) | (simp [go_sem, *] at q_; have q2_ : q = some _ := q_; subst q2_)
    have q_ := x1.bel.frozen (p := ⟨w.heap.size, 1, none⟩) (by first | omega | (simp; done) | (simp; omega))
    generalize z_x1_0_1 : x1.val.frozen? ⟨w.heap.size, 1, none⟩ = q at q_
    first | (have q2_ : q = false := q_; subst q2_) | (simp [go_sem] at q_; have q2_ : q = false := q_; subst q2_) | (simp [go_sem, *] at q_; have q2_ : q = false := q_; subst q2_)
    go_wp2_with fail
    with_reducible refine (kt.out _ (by repeat (first | exact Below.refl _ _ | refine bel_later _ ?_ | refine bel_alloc ?_ _ | refine bel_set ?_ (by first | omega | (simp; done) | (simp; omega)) _ | refine Below.drew ?_ | refine bel_drewN ?_ _ | assumption))).mono ?_
    rintro e_x2 w_x2 ⟨Ax2, cx2, rfl, ox2, hb_x2⟩
    obtain ⟨x2, rfl⟩ := later_is hb_x2
    clear hb_x2
    have hz_x2 := x2.bel.size
    try simp at hz_x2
    have HT := Lib.hid (Stg.tagged_length o t m a ws)
    have ho2 : x2.val.ownsRow w.heap.size 22 1 (.slice Ax2 20 cx2) 20 ((Stg.tagged o t m a ws).map u16w) := by
      rw [HT.out] at ox2
      exact own_more ox2 (by omega)
    rw [HT.out]
    clear ox2
    go_wp2
    go_ret2
    exact WordsP.mk' HR.out HT.out ho2 (by repeat (first | exact Below.refl _ _ | refine bel_later _ ?_ | refine bel_alloc ?_ _ | refine bel_set ?_ (by first | omega | (simp; done) | (simp; omega)) _ | refine Below.drew ?_ | refine bel_drewN ?_ _ | assumption))
end Go.Proofs.Ytopkncbpkccfbaa
