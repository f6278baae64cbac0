/- WordsAdd: the walk. -/
import Derived.Test.YtfdbajalhnenhaaRegLaw
namespace Go.Proofs.Ytfdbajalhnenhaa
open Go.RowKit
set_option linter.unusedVariables false
attribute [local go_sem] Later.cell Later.frozen setCell_twice
theorem own_keep {w w' : World} {base e s n : Nat} {v : Value} {xs : List Value} (h : w.ownsRow base e s v n xs) (hb : Below w.heap.size w w') : w'.ownsRow base e s v n xs := by
  refine ⟨h.1, ?_⟩
  rcases h.2 with h2 | ⟨g, cap, cur, hv, hg, hh, r⟩
  · exact .inl h2
  · exact .inr ⟨g, cap, cur, hv, hg, (hb.block g (Array.getElem?_eq_some_iff.1 hh).1).trans hh, r⟩
theorem own_sq_empty {α : Type} (f : α → Value) (w : World) (base : Nat) (e : TypeId) (n : Nat) (hn : n = w.heap.size) (hb : base ≤ n) : (w.alloc (.cells #[] e)).ownsRow base e 1 (.slice (some ⟨n, 0, none⟩) ([] : List α).length 0) ([] : List α).length (([] : List α).map f) := by
  subst hn
  exact ⟨by simp, .inr ⟨w.heap.size, 0, #[], rfl, hb, heap_alloc_new w _, Nat.le_refl _, by simp [maxLen], by simp, by simp⟩⟩
theorem xor_top {v : Nat} (h : v < 32768) : v ^^^ 32768 = v + 32768 := by
  have h1 := Bt.or_add (y := v) (k := 15) h
  rw [show (2 : Nat) ^ 15 = 32768 from rfl] at h1
  rw [← h1]
  apply Nat.eq_of_testBit_eq
  intro j
  rw [Nat.testBit_xor, Nat.testBit_or, show (32768 : Nat) = 2 ^ 15 from rfl, Nat.testBit_two_pow]
  by_cases hj : 15 = j
  · subst hj
    rw [Bt.test_hi (n := 15) h (Nat.le_refl _)]
    rfl
  · simp [hj]
theorem xor_sg {v : Nat} (h : v < 65536) : ((v ^^^ 32768 : Nat) : Int) = sg v + 32768 := by
  unfold sg
  by_cases hv : v < 32768
  · rw [xor_top hv, if_pos hv]; omega
  · rw [if_neg hv]
    have e := xor_top (v := v - 32768) (by omega)
    rw [show v - 32768 + 32768 = v by omega] at e
    rw [← e, Nat.xor_assoc, Nat.xor_self, Nat.xor_zero]
    omega

set_option maxRecDepth 100000 in
set_option maxHeartbeats 4000000 in
theorem wordsAdd_in (Aa Ab : Option Addr) (a b : List Nat) (ca cb x y v u : Nat) (w : World) (sa : Sq u16v w w.heap.size Aa a) (sb : Sq u16v w w.heap.size Ab b) (ha : ∀ x ∈ a, x < 65536) (hb : ∀ x ∈ b, x < 65536) (na : Aa = none → ca = 0) (nb : Ab = none → cb = 0) (hx : x < 4294967296) (hy : y < 4294967296) (hv : v < 65536) (hu : u < 65536) (h1 : a.length ≤ 100) (h2 : b.length ≤ 100) :
    Calls Try.prog 6 #[.slice Aa a.length ca, .slice Ab b.length cb, .int .u32 (x : Int), .int .u32 (y : Int), .int .u16 (v : Int), .int .u16 (u : Int)] w fun e w' => e = .returned (.bool true) ∧ Below w.heap.size w w' := by
  obtain ⟨i0, hi, hz0, hz1, hz2⟩ := info_parts info_u16
  obtain ⟨j0, hj, hy0, hy1, hy2⟩ := info_parts info_byte
  have g1 : decide ((100 : Int) < (a.length : Int)) = false := by simp; omega
  have g2 : decide ((100 : Int) < (b.length : Int)) = false := by simp; omega
  have hab : ∀ x ∈ a ++ b, x < 65536 := by
    intro x hx
    rcases List.mem_append.1 hx with h | h
    · exact ha x h
    · exact hb x h
  have HPA := Lib.hid (packRegs_append a b)
  have HLA := Lib.hid (packRegs_length a)
  have HLB := Lib.hid (packRegs_length b)
  have hpa := packRegs_byte ha
  have hpb := packRegs_byte hb
  have ka := Lib.hid (fun (W : World) (h : Below w.heap.size w W) => packRegs_eq Aa ca a.length a (packRegs a) W rfl (sa.to h) ha (by omega) rfl)
  have kb := Lib.hid (fun (W : World) (h : Below w.heap.size w W) => packRegs_eq Ab cb b.length b (packRegs b) W rfl (sb.to h) hb (by omega) rfl)
  have kab := Lib.hid (fun (A : Option Addr) (c : Nat) (W : World) (s : Sq u16v W W.heap.size A (a ++ b)) => packRegs_eq A c (a.length + b.length) (a ++ b) (packRegs a ++ packRegs b) W (by simp) s hab (by simp; omega) HPA.out)
  generalize packRegs a = pa at *
  generalize packRegs b = pb at *
  have hla : pa.length ≤ 200 := by have := HLA.out; omega
  have hlb : pb.length ≤ 200 := by have := HLB.out; omega
  have q1 := u16_xor_nat v 32768 hv (by decide)
  have q2 := u16_xor_nat u 32768 hu (by decide)
  rw [show ((32768 : Nat) : Int) = 32768 from rfl] at q1 q2
  have z1 := xor_sg hv
  have z2 := xor_sg hu
  have z3 := sg_in hv
  generalize v ^^^ 32768 = vx at *
  generalize u ^^^ 32768 = ux at *
  have ks := Lib.hid (fun w => signed_any v w hv)
  have kt := Lib.hid (fun w => signed_any u w hu)
  generalize sg v = sv at *
  generalize sg u = su at *
  have z4 : decide ((-32768 : Int) ≤ sv) = true := by simp; omega
  have z5 : decide (sv ≤ (32767 : Int)) = true := by simp; omega
  obtain ⟨B, hB1, hB2⟩ : ∃ B : Bool, decide (sv < su) = B ∧ decide (vx < ux) = B := ⟨decide (sv < su), rfl, by by_cases h : sv < su <;> simp [h] <;> omega⟩
  have hx1 : x / 65536 < 65536 := by omega
  have hx2 : x % 65536 < 65536 := by omega
  have hy1' : y / 65536 < 65536 := by omega
  have hy2' : y % 65536 < 65536 := by omega
  have HX := Lib.hid (show x = 65536 * (x / 65536) + x % 65536 by omega)
  have HY := Lib.hid (show y = 65536 * (y / 65536) + y % 65536 by omega)
  have kx := Lib.hid (fun w => parts_any x w hx)
  have ky := Lib.hid (fun w => parts_any y w hy)
  generalize x / 65536 = xh at *
  generalize x % 65536 = xl at *
  generalize y / 65536 = yh at *
  generalize y % 65536 = yl at *
  clear HPA HLA HLB hab z1 z2
  go_enter Try.func6, Try.ntmps6
  go_wp2_with (at_builtin; refine wpList_append_sq (f := u16v) _ rfl (.tmp 27) (.tmp 28) 24 rfl (fun _ => rfl) w.heap.size 36 i0 _ _ Try.underlying24 hi hz0 rfl hz1 hz2 (by decide) _ [] rfl (own_sq_empty u16v w _ _ _ (by simp) (by simp)) w.heap.size Aa a ca a.length rfl rfl (sa.alloc (Nat.le_refl _) _) na ?c1 ?c2 ?_)
  case c1 => simp; omega
  case c2 => simp
  intro A1 c1 w1 hown1 hg1 hb1
  have hbel1 : Below w.heap.size w w1 := ((Below.refl _ _).alloc (Nat.le_refl _) _).trans hb1
  clear hg1 hb1
  go_wp2_with (at_builtin; refine wpList_append_sq (f := u16v) _ rfl (.tmp 29) (.tmp 30) 24 rfl (fun _ => rfl) w.heap.size 36 i0 _ _ Try.underlying24 hi hz0 rfl hz1 hz2 (by decide) _ a rfl hown1 w.heap.size Ab b cb b.length rfl rfl (sb.below hbel1) nb ?c3 ?c4 ?_)
  case c3 => omega
  case c4 => exact hbel1.size
  intro A2 c2 w2 hown2 hg2 hb2
  have hbel2 : Below w.heap.size w w2 := hbel1.trans hb2
  clear hg2 hb2 hown1 hbel1
  have sab : Sq u16v w2 w2.heap.size A2 (a ++ b) := Sq.of_own (n := a.length + b.length) (c := c2) (base := w.heap.size) (e := 36) (by simpa using hown2)
  clear hown2
  go_wp2_with fail
  refine (kab.out _ _ _ sab).mono ?_
  rintro e_x3 w_x3 ⟨Ax3, cx3, rfl, sx3, nx3, mx3, hb_x3⟩
  obtain ⟨x3, rfl⟩ := later_is hb_x3
  clear hb_x3
  have hz_x3 := x3.bel.size
  try simp at hz_x3
  go_wp2_with fail
  refine (ka.out _ (by repeat (first | exact Below.refl _ _ | refine bel_later _ ?_ | refine bel_alloc ?_ _ | refine bel_set ?_ (by first | omega | (simp; done) | (simp; omega)) _ | refine Below.drew ?_ | assumption))).mono ?_
  rintro e4 w4 ⟨A4, c4, rfl, s4, n4, m4, hb4⟩
  obtain ⟨x4, rfl⟩ := later_is hb4
  have hz4 := x4.bel.size
  simp at hz4
  have ho4 := own_keep (own_sq_empty u8v x3.val x3.val.heap.size 5 x3.val.heap.size rfl (Nat.le_refl _)) x4.bel
  have hbw4 : Below w.heap.size w x4.val := (by repeat (first | exact Below.refl _ _ | refine bel_later _ ?_ | refine bel_alloc ?_ _ | refine bel_set ?_ (by first | omega | (simp; done) | (simp; omega)) _ | refine Below.drew ?_ | assumption))
  have hb34 : Below x3.val.heap.size x3.val x4.val := (by repeat (first | exact Below.refl _ _ | refine bel_later _ ?_ | refine bel_alloc ?_ _ | refine bel_set ?_ (by first | omega | (simp; done) | (simp; omega)) _ | refine Below.drew ?_ | assumption))
  clear hb4 sab
  go_wp2_with (at_builtin; refine wpList_append_sq (f := u8v) _ rfl (.tmp 34) (.tmp 36) 22 rfl (fun _ => rfl) x3.val.heap.size 5 j0 _ _ Try.underlying22 hj hy0 rfl hy1 hy2 (by decide) _ [] rfl ho4 x4.val.heap.size A4 pa c4 pa.length rfl rfl s4 n4 ?c5 ?c6 ?_)
  case c5 => simp; omega
  case c6 => omega
  intro A5 c5 w5 hown5 hg5 hb5
  have hbw5 : Below w.heap.size w w5 := hbw4.trans (hb5.mono (Nat.le_trans hbel2.size x3.bel.size))
  have hb35 : Below x3.val.heap.size x3.val w5 := hb34.trans hb5
  clear hg5 hb5 hb34 hbw4 ho4
  go_wp2_with fail
  refine (kb.out _ hbw5).mono ?_
  rintro e6 w6 ⟨A6, c6, rfl, s6, n6, m6, hb6⟩
  obtain ⟨x6, rfl⟩ := later_is hb6
  have hz6 := x6.bel.size
  have ho6 := own_keep hown5 x6.bel
  have hbw6 : Below w.heap.size w x6.val := (by repeat (first | exact Below.refl _ _ | refine bel_later _ ?_ | refine bel_alloc ?_ _ | refine bel_set ?_ (by first | omega | (simp; done) | (simp; omega)) _ | refine Below.drew ?_ | assumption))
  have hb36 : Below x3.val.heap.size x3.val x6.val := (by repeat (first | exact Below.refl _ _ | refine bel_later _ ?_ | refine bel_alloc ?_ _ | refine bel_set ?_ (by first | omega | (simp; done) | (simp; omega)) _ | refine Below.drew ?_ | assumption))
  clear hb6 hown5
  go_wp2_with (at_builtin; refine wpList_append_sq (f := u8v) _ rfl (.tmp 37) (.tmp 39) 22 rfl (fun _ => rfl) x3.val.heap.size 5 j0 _ _ Try.underlying22 hj hy0 rfl hy1 hy2 (by decide) _ pa rfl ho6 x6.val.heap.size A6 pb c6 pb.length rfl rfl s6 n6 ?c7 ?c8 ?_)
  case c7 => omega
  case c8 => exact hb36.size
  intro A7 c7 w7 hown7 hg7 hb7
  have hbw7 : Below w.heap.size w w7 := hbw6.trans (hb7.mono (Nat.le_trans hbel2.size x3.bel.size))
  have hb37 : Below x3.val.heap.size x3.val w7 := hb36.trans hb7
  have s7 : Sq u8v w7 w7.heap.size A7 (pa ++ pb) := Sq.of_own (n := pa.length + pb.length) (c := c7) (base := x3.val.heap.size) (e := 5) (by simpa using hown7)
  have hpab : ∀ x ∈ pa ++ pb, x < 256 := by
    intro x hx
    rcases List.mem_append.1 hx with h | h
    · exact hpa x h
    · exact hpb x h
  have ksame := Lib.hid (same_eq Ax3 A7 (pa ++ pb) (pa ++ pb) cx3 c7 (pa.length + pb.length) (pa.length + pb.length) true w7 (by simp) (by simp) (sx3.to hb37) s7 hpab hpab (by simp))
  clear hg7 hb7 hb35 hb36 hbw5 hbw6 ho6 hown7 hpab
  go_wp2_with fail
  refine (ksame.out).mono ?_
  rintro e_ w_ ⟨rfl, rfl⟩
  by_cases t2 : xh < yh
  · have t1 : decide (x < y) = true := decide_eq_true (by rw [HX.out, HY.out]; omega)
    clear ksame ka kb kab
    go_wp2_with fail
    refine (kx.out _).mono ?_
    rintro e_ w_ ⟨rfl, rfl⟩
    go_wp2_with fail
    refine (ky.out _).mono ?_
    rintro e_ w_ ⟨rfl, rfl⟩
    go_wp2_with fail
    refine (ks.out _).mono ?_
    rintro e_ w_ ⟨rfl, rfl⟩
    go_wp2_with fail
    refine (kt.out _).mono ?_
    rintro e_ w_ ⟨rfl, rfl⟩
    go_wp2_with fail
    refine (ks.out _).mono ?_
    rintro e_ w_ ⟨rfl, rfl⟩
    go_wp2_with fail
    refine (ks.out _).mono ?_
    rintro e_ w_ ⟨rfl, rfl⟩
    go_wp2_with fail
    refine (awake_any _).mono ?_
    rintro e_x8 w_x8 ⟨rfl, hb_x8⟩
    obtain ⟨x8, rfl⟩ := later_is hb_x8
    clear hb_x8
    have hz_x8 := x8.bel.size
    try simp at hz_x8
    go_wp2
    go_ret
    exact ⟨rfl, bel_later x8 hbw7⟩
  have t2' : decide (xh < yh) = false := decide_eq_false t2
  by_cases t3 : xh = yh
  · have t3' : ((xh : Int) == (yh : Int)) = true := by rw [beq_iff_eq]; omega
    by_cases t4 : xl < yl
    · have t1 : decide (x < y) = true := decide_eq_true (by rw [HX.out, HY.out]; omega)
      clear ksame ka kb kab t3
      go_wp2_with fail
      refine (kx.out _).mono ?_
      rintro e_ w_ ⟨rfl, rfl⟩
      go_wp2_with fail
      refine (ky.out _).mono ?_
      rintro e_ w_ ⟨rfl, rfl⟩
      go_wp2_with fail
      refine (ks.out _).mono ?_
      rintro e_ w_ ⟨rfl, rfl⟩
      go_wp2_with fail
      refine (kt.out _).mono ?_
      rintro e_ w_ ⟨rfl, rfl⟩
      go_wp2_with fail
      refine (ks.out _).mono ?_
      rintro e_ w_ ⟨rfl, rfl⟩
      go_wp2_with fail
      refine (ks.out _).mono ?_
      rintro e_ w_ ⟨rfl, rfl⟩
      go_wp2_with fail
      refine (awake_any _).mono ?_
      rintro e_x8 w_x8 ⟨rfl, hb_x8⟩
      obtain ⟨x8, rfl⟩ := later_is hb_x8
      clear hb_x8
      have hz_x8 := x8.bel.size
      try simp at hz_x8
      go_wp2
      go_ret
      exact ⟨rfl, bel_later x8 hbw7⟩
    · have t1 : decide (x < y) = false := decide_eq_false (by rw [HX.out, HY.out]; omega)
      have t4' : decide (xl < yl) = false := decide_eq_false t4
      clear ksame ka kb kab t3
      go_wp2_with fail
      refine (kx.out _).mono ?_
      rintro e_ w_ ⟨rfl, rfl⟩
      go_wp2_with fail
      refine (ky.out _).mono ?_
      rintro e_ w_ ⟨rfl, rfl⟩
      go_wp2_with fail
      refine (ks.out _).mono ?_
      rintro e_ w_ ⟨rfl, rfl⟩
      go_wp2_with fail
      refine (kt.out _).mono ?_
      rintro e_ w_ ⟨rfl, rfl⟩
      go_wp2_with fail
      refine (ks.out _).mono ?_
      rintro e_ w_ ⟨rfl, rfl⟩
      go_wp2_with fail
      refine (ks.out _).mono ?_
      rintro e_ w_ ⟨rfl, rfl⟩
      go_wp2_with fail
      refine (awake_any _).mono ?_
      rintro e_x8 w_x8 ⟨rfl, hb_x8⟩
      obtain ⟨x8, rfl⟩ := later_is hb_x8
      clear hb_x8
      have hz_x8 := x8.bel.size
      try simp at hz_x8
      go_wp2
      go_ret
      exact ⟨rfl, bel_later x8 hbw7⟩
  · have t3' : ((xh : Int) == (yh : Int)) = false := beq_eq_false_iff_ne.2 (by omega)
    have t1 : decide (x < y) = false := decide_eq_false (by rw [HX.out, HY.out]; omega)
    clear ksame ka kb kab
    go_wp2_with fail
    refine (kx.out _).mono ?_
    rintro e_ w_ ⟨rfl, rfl⟩
    go_wp2_with fail
    refine (ky.out _).mono ?_
    rintro e_ w_ ⟨rfl, rfl⟩
    go_wp2_with fail
    refine (ks.out _).mono ?_
    rintro e_ w_ ⟨rfl, rfl⟩
    go_wp2_with fail
    refine (kt.out _).mono ?_
    rintro e_ w_ ⟨rfl, rfl⟩
    go_wp2_with fail
    refine (ks.out _).mono ?_
    rintro e_ w_ ⟨rfl, rfl⟩
    go_wp2_with fail
    refine (ks.out _).mono ?_
    rintro e_ w_ ⟨rfl, rfl⟩
    go_wp2_with fail
    refine (awake_any _).mono ?_
    rintro e_x8 w_x8 ⟨rfl, hb_x8⟩
    obtain ⟨x8, rfl⟩ := later_is hb_x8
    clear hb_x8
    have hz_x8 := x8.bel.size
    try simp at hz_x8
    go_wp2
    go_ret
    exact ⟨rfl, bel_later x8 hbw7⟩

theorem wordsAdd_walk (Aa Ab : Option Addr) (a b : List Nat) (ca cb x y v u : Nat) (w : World) (sa : Sq u16v w w.heap.size Aa a) (sb : Sq u16v w w.heap.size Ab b) (ha : ∀ x ∈ a, x < 65536) (hb : ∀ x ∈ b, x < 65536) (na : Aa = none → ca = 0) (nb : Ab = none → cb = 0) (hx : x < 4294967296) (hy : y < 4294967296) (hv : v < 65536) (hu : u < 65536) :
    Calls Try.prog 6 #[.slice Aa a.length ca, .slice Ab b.length cb, .int .u32 (x : Int), .int .u32 (y : Int), .int .u16 (v : Int), .int .u16 (u : Int)] w fun e w' => e = .returned (.bool true) ∧ Below w.heap.size w w' := by
  by_cases h1 : 100 < a.length
  · go_enter Try.func6, Try.ntmps6
    go_wp2_with fail
    refine (awake_any _).mono ?_
    rintro e_x1 w_x1 ⟨rfl, hb_x1⟩
    obtain ⟨x1, rfl⟩ := later_is hb_x1
    clear hb_x1
    have hz_x1 := x1.bel.size
    try simp at hz_x1
    go_wp2
    go_ret
    exact ⟨rfl, (by repeat (first | exact Below.refl _ _ | refine bel_later _ ?_ | refine bel_alloc ?_ _ | refine bel_set ?_ (by first | omega | (simp; done) | (simp; omega)) _ | refine Below.drew ?_ | assumption))⟩
  have g1 : decide ((100 : Int) < (a.length : Int)) = false := by simp; omega
  by_cases h2 : 100 < b.length
  · have g2 : decide ((100 : Int) < (b.length : Int)) = true := by simp; omega
    go_enter Try.func6, Try.ntmps6
    go_wp2_with fail
    refine (awake_any _).mono ?_
    rintro e_x1 w_x1 ⟨rfl, hb_x1⟩
    obtain ⟨x1, rfl⟩ := later_is hb_x1
    clear hb_x1
    have hz_x1 := x1.bel.size
    try simp at hz_x1
    go_wp2
    go_ret
    exact ⟨rfl, (by repeat (first | exact Below.refl _ _ | refine bel_later _ ?_ | refine bel_alloc ?_ _ | refine bel_set ?_ (by first | omega | (simp; done) | (simp; omega)) _ | refine Below.drew ?_ | assumption))⟩
  exact wordsAdd_in Aa Ab a b ca cb x y v u w sa sb ha hb na nb hx hy hv hu (by omega) (by omega)
end Go.Proofs.Ytfdbajalhnenhaa
