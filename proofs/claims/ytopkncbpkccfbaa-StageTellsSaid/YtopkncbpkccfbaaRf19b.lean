/- The walk of the reference of layer 19: Words. -/
import Derived.Test.YtopkncbpkccfbaaRf19a
import Derived.Test.YtopkncbpkccfbaaCopyW
namespace Go.Proofs.Ytopkncbpkccfbaa
open Go.RowKit
set_option linter.unusedVariables false
attribute [local go_sem] Later.cell Later.frozen setCell_twice
theorem own_lit4 (w : World) (a b c d : Nat) : (w.alloc (.cells #[.int .u16 (a : Int), .int .u16 (b : Int), .int .u16 (c : Int), .int .u16 (d : Int)] 22)).ownsRow w.heap.size 22 1 (.slice (some ⟨w.heap.size, 0, none⟩) 4 4) ([a, b, c, d] : List Nat).length (([a, b, c, d] : List Nat).map u16w) :=
  own_of_full (heap_alloc_new w _) (Nat.le_refl _) rfl (by decide)
set_option maxRecDepth 100000 in
set_option maxHeartbeats 400000 in
theorem rwords_any (o t : Nat) (k : Int) (a : Int) (ws : List Nat) (A : Option Addr) (c n : Nat) (w : World) (ho : o < 65536) (ht : t < 4294967296) (hn : ws.length = n) (sq : Sq u16w w w.heap.size A ws) (hu : ∀ x ∈ ws, x < 65536) (lo : -9223372036854775808 ≤ a) (hi : a ≤ 9223372036854775807) (hnc : ws.length ≤ 9223372036854775807) :
    Calls Try.prog 25 #[.int .u16 (o : Int), .int .u32 (t : Int), .int .i64 k, .agg #[.int .i64 a, .slice A n c]] w (WordsP w (Stg.words o t k a ws)) := by
  subst hn
  obtain ⟨i0, hif, hz0, hz1, hz2⟩ := info_parts info_w16
  by_cases h1 : k < 0
  · have HR := Lib.hid (show Stg.words o t k a ws = ([], 2) by unfold Stg.words; rw [if_pos (.inl h1)])
    go_enter Try.func25, Try.ntmps25
    go_wp2
    go_ret2
    exact WordsP.mk' HR.out rfl (World.ownsRow_nil _ _ _ _) (by repeat (first | exact Below.refl _ _ | refine bel_later _ ?_ | refine bel_alloc ?_ _ | refine bel_set ?_ (by first | omega | (simp; done) | (simp; omega)) _ | refine Below.drew ?_ | refine bel_drewN ?_ _ | assumption))
  have g1 : decide (k < 0) = false := decide_eq_false h1
  by_cases h2 : 7 < k
  · have HR := Lib.hid (show Stg.words o t k a ws = ([], 2) by unfold Stg.words; rw [if_pos (.inr h2)])
    go_enter Try.func25, Try.ntmps25
    go_wp2
    go_ret2
    exact WordsP.mk' HR.out rfl (World.ownsRow_nil _ _ _ _) (by repeat (first | exact Below.refl _ _ | refine bel_later _ ?_ | refine bel_alloc ?_ _ | refine bel_set ?_ (by first | omega | (simp; done) | (simp; omega)) _ | refine Below.drew ?_ | refine bel_drewN ?_ _ | assumption))
  have g2 : decide (7 < k) = false := decide_eq_false h2
  have h12 : ¬ (k < 0 ∨ 7 < k) := by omega
  cases hf : Bk.fits a ws.length
  · have HR := Lib.hid (show Stg.words o t k a ws = ([], 20) by unfold Stg.words; rw [if_neg h12, if_neg (by simp [hf])])
    have kf := Lib.hid (fun W => rfits_any a ws.length c A false W lo hi hnc hf)
    clear h1 h2 h12 hf
    go_enter Try.func25, Try.ntmps25
    go_wp2_with fail
    refine (kf.out _).mono ?_
    rintro e_x1 w_x1 ⟨rfl, hb_x1⟩
    obtain ⟨x1, rfl⟩ := later_is hb_x1
    clear hb_x1
    have hz_x1 := x1.bel.size
    try simp at hz_x1
    go_wp2
    go_ret2
    exact WordsP.mk' HR.out rfl (World.ownsRow_nil _ _ _ _) (by repeat (first | exact Below.refl _ _ | refine bel_later _ ?_ | refine bel_alloc ?_ _ | refine bel_set ?_ (by first | omega | (simp; done) | (simp; omega)) _ | refine Below.drew ?_ | refine bel_drewN ?_ _ | assumption))
  · obtain ⟨m, rfl, hm⟩ : ∃ m : Nat, k = (m : Int) ∧ m ≤ 7 := ⟨k.toNat, by omega, by omega⟩
    have HR := Lib.hid (show Stg.words o t (m : Int) a ws = (Stg.tagged o t m a ws, 0) by unfold Stg.words; rw [if_neg h12, if_pos hf, Int.toNat_natCast])
    have kf := Lib.hid (fun W => rfits_any a ws.length c A true W lo hi hnc hf)
    have ko := Lib.hid (fun W (h : Below w.heap.size w W) => rown_any a ws A c ws.length W rfl ((sq.below h).more h.size) hu lo hi hnc)
    have HI := Lib.hid (Stg.itself_length a ws)
    obtain ⟨hh, hhe⟩ : ∃ hh, t / 65536 = hh := ⟨_, rfl⟩
    obtain ⟨ll, hle⟩ : ∃ ll, t % 65536 = ll := ⟨_, rfl⟩
    have e1 : (t : Int) / 65536 = (hh : Int) := by omega
    have e2 : (t : Int) % 65536 = (ll : Int) := by omega
    have e3 : IntKind.u16.wrap (hh : Int) = (hh : Int) := by rw [wrap_u16]; omega
    have e4 : IntKind.u16.wrap (ll : Int) = (ll : Int) := by rw [wrap_u16]; omega
    have e5 : IntKind.u16.wrap (m : Int) = (m : Int) := by rw [wrap_u16]; omega
    have HT : Hid (Stg.tagged o t m a ws = [o, hh, ll, m] ++ Stg.itself a ws) := Lib.hid (by unfold Stg.tagged; rw [hhe, hle]; rfl)
    have HTL := Lib.hid (Stg.tagged_length o t m a ws)
    clear h1 h2 h12 hf hhe hle g1 g2
    go_enter Try.func25, Try.ntmps25
    go_wp2_with fail
    refine (kf.out _).mono ?_
    rintro e_x1 w_x1 ⟨rfl, hb_x1⟩
    obtain ⟨x1, rfl⟩ := later_is hb_x1
    clear hb_x1
    have hz_x1 := x1.bel.size
    try simp at hz_x1
    have l_x1_0 : w.heap.size < x1.val.heap.size := by omega
    have m_x1_0 : w.heap.size < x1.val.heap.size + 1 := by omega
    have q_ := x1.bel.cell (p := ⟨w.heap.size, 0, none⟩) (by first | omega | (simp; done) | (simp; omega))
    generalize c_x1_0_0 : x1.val.cell? ⟨w.heap.size, 0, none⟩ = q at q_
    first | (have q2_ : q = some _ := q_; subst q2_) | (simp [go_sem] at q_; have q2_ : q = some _ := q_; subst q2_) | (simp [go_sem, *] at q_; have q2_ : q = some _ := q_; subst q2_)
    have q_ := x1.bel.frozen (p := ⟨w.heap.size, 0, none⟩) (by first | omega | (simp; done) | (simp; omega))
    generalize z_x1_0_0 : x1.val.frozen? ⟨w.heap.size, 0, none⟩ = q at q_
    first | (have q2_ : q = false := q_; subst q2_) | (simp [go_sem] at q_; have q2_ : q = false := q_; subst q2_) | (simp [go_sem, *] at q_; have q2_ : q = false := q_; subst q2_)
    have q_ := x1.bel.cell (p := ⟨w.heap.size, 1, none⟩) (by first | omega | (simp; done) | (simp; omega))
    generalize c_x1_0_1 : x1.val.cell? ⟨w.heap.size, 1, none⟩ = q at q_
    first | (have q2_ : q = some _ := q_; subst q2_) | (simp [go_sem] at q_; have q2_ : q = some _ := q_; subst q2_) | (simp [go_sem, *] at q_; have q2_ : q = some _ := q_; subst q2_)
    have q_ := x1.bel.frozen (p := ⟨w.heap.size, 1, none⟩) (by first | omega | (simp; done) | (simp; omega))
    generalize z_x1_0_1 : x1.val.frozen? ⟨w.heap.size, 1, none⟩ = q at q_
    first | (have q2_ : q = false := q_; subst q2_) | (simp [go_sem] at q_; have q2_ : q = false := q_; subst q2_) | (simp [go_sem, *] at q_; have q2_ : q = false := q_; subst q2_)
    have hb1 : Below w.heap.size w x1.val := bel_later x1 (bel_alloc (Below.refl _ _) _)
    have o4 := own_lit4 x1.val o hh ll m
    have O4 := Lib.hid o4
    clear o4
    go_wp2_with fail
    (with_reducible refine (ko.out _ (bel_alloc hb1 _)).mono ?_)
    rintro e_ w2 ⟨A2, c2, rfl, o2, hb2⟩
    rw [HI.out] at o2 ⊢
    have q4 := own_below O4.out hb2
    have s2 := Sq.of_own o2
    have n2 := (own_nil_c o2).1
    have hb2w : Below w.heap.size w w2 := (bel_alloc hb1 _).trans (hb2.mono (by simp; omega))
    have hz2' : x1.val.heap.size ≤ w2.heap.size := by have := hb2.size; simp at this; omega
    have Q4 := Lib.hid q4
    have S2 := Lib.hid s2
    have N2 := Lib.hid n2
    have B2 := Lib.hid hb2w
    have hwx : w.heap.size ≤ x1.val.heap.size := hb1.size
    clear o2 q4 hb2 s2 hb1 n2 hb2w
    go_wp2_with (at_builtin; refine wpList_append_sq (f := u16w) _ rfl (.tmp 30) (.tmp 32) 24 rfl (fun _ => rfl) x1.val.heap.size 22 i0 _ _ Try.underlying24 hif hz0 rfl hz1 hz2 (by decide) (.slice (some ⟨x1.val.heap.size, 0, none⟩) 4 4) [o, hh, ll, m] rfl Q4.out w2.heap.size A2 (Stg.itself a ws) c2 16 HI.out rfl S2.out N2.out (by simp) hz2' ?_; intro A3 c3 w3 o3 hg3 hb3; have O3 := Lib.hid o3; have B3 := Lib.hid hb3; clear o3 hg3 hb3)
    have o3 := O3.out
    rw [← HT.out, HTL.out] at o3
    rw [show (Stg.itself a ws).length + 1 + 1 + 1 + 1 = 20 by rw [HI.out]]
    go_ret2
    exact WordsP.mk' HR.out HTL.out (own_more o3 hwx) (B2.out.trans (B3.out.mono hwx))
end Go.Proofs.Ytopkncbpkccfbaa
