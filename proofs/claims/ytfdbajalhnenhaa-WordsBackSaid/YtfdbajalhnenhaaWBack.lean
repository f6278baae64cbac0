/- WordsBack: the walk. -/
import Derived.Test.YtfdbajalhnenhaaRegLaw
namespace Go.Proofs.Ytfdbajalhnenhaa
open Go.RowKit
set_option linter.unusedVariables false
attribute [local go_sem] Later.cell Later.frozen setCell_twice
theorem word_sg (x : Nat) (w : World) (hx : x < 65536) :
    Calls Try.prog 24 #[.int .i64 (sg x)] w fun e w' => e = .returned (.tuple #[.int .u16 (x : Int), .bool true]) ∧ w = w' := by
  have := word_any (sg x) w (sg_in hx).1 (sg_in hx).2
  rw [sg_word hx] at this
  exact this

set_option maxRecDepth 100000 in
set_option maxHeartbeats 4000000 in
theorem wordsBack_in (Al Ar Ab : Option Addr) (l : List Bool) (r b : List Nat) (cl cr cb x q n : Nat) (w : World) (sl : Sq Value.bool w w.heap.size Al l) (sr : Sq u16v w w.heap.size Ar r) (sb : Sq u8v w w.heap.size Ab b) (hr : ∀ x ∈ r, x < 65536) (hb : ∀ x ∈ b, x < 256) (hx : x < 4294967296) (hq : q < 65536) (hn : n < 65536) (h1 : l.length ≤ 500) (h2 : r.length ≤ 200) (h3 : b.length ≤ 300) :
    Calls Try.prog 4 #[.slice Al l.length cl, .slice Ar r.length cr, .int .u32 (x : Int), .int .u16 (q : Int), .slice Ab b.length cb, .int .u16 (n : Int)] w fun e w' => e = .returned (.bool true) ∧ Below w.heap.size w w' := by
  have g1 : decide ((500 : Int) < (l.length : Int)) = false := by simp; omega
  have g2 : decide ((200 : Int) < (r.length : Int)) = false := by simp; omega
  have g3 : decide ((300 : Int) < (b.length : Int)) = false := by simp; omega
  have hpl := packRegs_length r
  have HP := Lib.hid hpl
  have HX := Lib.hid (show 65536 * (x / 65536) + x % 65536 = x by omega)
  have hx1 : x / 65536 < 65536 := by omega
  have hx2 : x % 65536 < 65536 := by omega
  generalize hp1 : x / 65536 = xh at *
  generalize hp2 : x % 65536 = xl at *
  have HP1 := Lib.hid hp1
  have HP2 := Lib.hid hp2
  have kp := Lib.hid (fun w => parts_eq x xh xl x xh xl w hx rfl (by rw [HP1.out]) (by rw [HP2.out]))
  have kw := Lib.hid (fun w => wide_any xh xl w hx1 hx2)
  rw [HX.out] at kw
  have hbl : Hid ((Bt.packBits l).length ≤ 600) := Lib.hid (by rw [Bt.packBits_length]; unfold Bt.many; omega)
  clear hpl hp1 hp2
  have kback := Lib.hid (fun (W : World) (h : Below w.heap.size w W) => packRegs_eq Ar cr r.length r (packRegs r) W rfl (sr.to h) hr (by omega) rfl)
  have kreg := Lib.hid (fun (A : Option Addr) (c : Nat) (W : World) (s : Sq u8v W W.heap.size A (packRegs r)) => regs_eq A c (packRegs r).length (packRegs r) r W rfl s (packRegs_byte hr) (by rw [HP.out]; omega) (by rw [HP.out]; omega) (regs_pack hr))
  have kpb := Lib.hid (fun (W : World) (h : Below w.heap.size w W) => packBits_eq Al cl l.length l (Bt.packBits l) W rfl (sl.to h) (by omega) rfl)
  have kbit := Lib.hid (fun (A : Option Addr) (c : Nat) (W : World) (s : Sq u8v W W.heap.size A (Bt.packBits l)) => bits_eq A c (Bt.packBits l).length (Bt.packBits l) (l.length : Int) l W rfl s (Bt.packBits_byte l) (by have := hbl.out; omega) (by omega) (Bt.bits_back l))
  have kbn := Lib.hid (fun (W : World) (h : Below w.heap.size w W) => bits_eq Ab cb b.length b (n : Int) (Bt.bits b n) W rfl (sb.to h) hb (by omega) (by omega) rfl)
  generalize packRegs r = pr at *
  generalize Bt.packBits l = pl at *
  clear HP HX hbl HP1 HP2
  go_enter Try.func4, Try.ntmps4
  go_wp2_with fail
  refine (kback.out _ (by repeat (first | exact Below.refl _ _ | refine bel_later _ ?_ | refine bel_alloc ?_ _ | refine bel_set ?_ (by first | omega | (simp; done) | (simp; omega)) _ | refine Below.drew ?_ | assumption))).mono ?_
  rintro e_x1 w_x1 ⟨Ax1, cx1, rfl, sx1, nx1, mx1, hb_x1⟩
  obtain ⟨x1, rfl⟩ := later_is hb_x1
  clear hb_x1
  have hz_x1 := x1.bel.size
  try simp at hz_x1
  go_wp2_with fail
  refine (kreg.out _ _ _ sx1).mono ?_
  rintro e2 w2 ⟨A2, c2, rfl, s2, n2, m2, hb2⟩
  obtain ⟨x2, rfl⟩ := later_is hb2
  clear hb2 kreg kback
  go_wp2_with fail
  refine (kp.out _).mono ?_
  rintro e_ w_ ⟨rfl, rfl⟩
  go_wp2_with fail
  refine (signed_any q _ hq).mono ?_
  rintro e_ w_ ⟨rfl, rfl⟩
  go_wp2_with fail
  refine (word_sg q _ hq).mono ?_
  rintro e_ w_ ⟨rfl, rfl⟩
  go_wp2_with fail
  refine (kpb.out _ (by repeat (first | exact Below.refl _ _ | refine bel_later _ ?_ | refine bel_alloc ?_ _ | refine bel_set ?_ (by first | omega | (simp; done) | (simp; omega)) _ | refine Below.drew ?_ | assumption))).mono ?_
  rintro e_x3 w_x3 ⟨Ax3, cx3, rfl, sx3, nx3, mx3, hb_x3⟩
  obtain ⟨x3, rfl⟩ := later_is hb_x3
  clear hb_x3
  have hz_x3 := x3.bel.size
  try simp at hz_x3
  go_wp2_with fail
  refine (kbit.out _ _ _ sx3).mono ?_
  rintro e_x4 w_x4 ⟨Ax4, cx4, rfl, sx4, nx4, mx4, hb_x4⟩
  obtain ⟨x4, rfl⟩ := later_is hb_x4
  clear hb_x4
  have hz_x4 := x4.bel.size
  try simp at hz_x4
  go_wp2_with fail
  refine (bools_eq _ _ l l _ _ l.length l.length true _ rfl rfl sx4 (sl.to (by repeat (first | exact Below.refl _ _ | refine bel_later _ ?_ | refine bel_alloc ?_ _ | refine bel_set ?_ (by first | omega | (simp; done) | (simp; omega)) _ | refine Below.drew ?_ | assumption))) (by omega) (by simp)).mono ?_
  rintro e5 w5 ⟨rfl, hb5⟩
  obtain ⟨x5, rfl⟩ := later_is hb5
  clear hb5
  go_wp2_with fail
  refine (cmpRegs_eq _ _ r r _ _ r.length r.length true _ rfl rfl (s2.to (by repeat (first | exact Below.refl _ _ | refine bel_later _ ?_ | refine bel_alloc ?_ _ | refine bel_set ?_ (by first | omega | (simp; done) | (simp; omega)) _ | refine Below.drew ?_ | assumption))) (sr.to (by repeat (first | exact Below.refl _ _ | refine bel_later _ ?_ | refine bel_alloc ?_ _ | refine bel_set ?_ (by first | omega | (simp; done) | (simp; omega)) _ | refine Below.drew ?_ | assumption))) (by omega) (by simp)).mono ?_
  rintro e6 w6 ⟨rfl, hb6⟩
  obtain ⟨x6, rfl⟩ := later_is hb6
  clear hb6
  go_wp2_with fail
  refine (kw.out _).mono ?_
  rintro e_ w_ ⟨rfl, rfl⟩
  go_wp2_with fail
  refine (kbn.out _ (by repeat (first | exact Below.refl _ _ | refine bel_later _ ?_ | refine bel_alloc ?_ _ | refine bel_set ?_ (by first | omega | (simp; done) | (simp; omega)) _ | refine Below.drew ?_ | assumption))).mono ?_
  rintro e7 w7 ⟨A7, c7, rfl, s7, n7, m7, hb7⟩
  obtain ⟨x7, rfl⟩ := later_is hb7
  clear hb7 kbn kpb kbit kp kw
  have hbel7 : Below w.heap.size w x7.val := (by repeat (first | exact Below.refl _ _ | refine bel_later _ ?_ | refine bel_alloc ?_ _ | refine bel_set ?_ (by first | omega | (simp; done) | (simp; omega)) _ | refine Below.drew ?_ | assumption))
  have hpk := Bt.pack_back hb (n := (n : Int))
  generalize Bt.bits b n = L at *
  by_cases hL : L.length = 0
  · have u0 : decide (0 < L.length) = false := decide_eq_false (by omega)
    clear hL hpk
    by_cases hev : b.length % 2 = 0
    · have u1 : ((b.length : Int) % 2 == 0) = true := by rw [beq_iff_eq]; omega
      have kr := Lib.hid (fun (W : World) (h : Below w.heap.size w W) => regs_eq Ab cb b.length b (regsOf b) W rfl (sb.to h) hb hev (by omega) rfl)
      have kk := Lib.hid (fun (A : Option Addr) (c : Nat) (W : World) (s : Sq u16v W W.heap.size A (regsOf b)) => packRegs_eq A c (regsOf b).length (regsOf b) b W rfl s (regsOf_lt hb) (by rw [regsOf_length]; omega) (pack_regs hb hev))
      generalize regsOf b = rg at *
      clear hev
      go_wp2_with fail
      refine (kr.out _ (by repeat (first | exact Below.refl _ _ | refine bel_later _ ?_ | refine bel_alloc ?_ _ | refine bel_set ?_ (by first | omega | (simp; done) | (simp; omega)) _ | refine Below.drew ?_ | assumption))).mono ?_
      rintro e8 w8 ⟨A8, c8, rfl, s8, n8, m8, hb8⟩
      obtain ⟨x8, rfl⟩ := later_is hb8
      clear hb8
      go_wp2_with fail
      refine (kk.out _ _ _ (s8.to (by repeat (first | exact Below.refl _ _ | refine bel_later _ ?_ | refine bel_alloc ?_ _ | refine bel_set ?_ (by first | omega | (simp; done) | (simp; omega)) _ | refine Below.drew ?_ | assumption)))).mono ?_
      rintro e_x9 w_x9 ⟨Ax9, cx9, rfl, sx9, nx9, mx9, hb_x9⟩
      obtain ⟨x9, rfl⟩ := later_is hb_x9
      clear hb_x9
      have hz_x9 := x9.bel.size
      try simp at hz_x9
      go_wp2_with fail
      refine (same_eq _ _ b b _ _ b.length b.length true _ rfl rfl sx9 (sb.to (by repeat (first | exact Below.refl _ _ | refine bel_later _ ?_ | refine bel_alloc ?_ _ | refine bel_set ?_ (by first | omega | (simp; done) | (simp; omega)) _ | refine Below.drew ?_ | assumption))) hb hb (by simp)).mono ?_
      rintro e_ w_ ⟨rfl, rfl⟩
      go_wp2_with fail
      refine (awake_any _).mono ?_
      rintro e_x10 w_x10 ⟨rfl, hb_x10⟩
      obtain ⟨x10, rfl⟩ := later_is hb_x10
      clear hb_x10
      have hz_x10 := x10.bel.size
      try simp at hz_x10
      go_wp2
      go_ret
      exact ⟨rfl, (by repeat (first | exact Below.refl _ _ | refine bel_later _ ?_ | refine bel_alloc ?_ _ | refine bel_set ?_ (by first | omega | (simp; done) | (simp; omega)) _ | refine Below.drew ?_ | assumption))⟩
    · have u1 : ((b.length : Int) % 2 == 0) = false := beq_eq_false_iff_ne.2 (by omega)
      have kr := Lib.hid (fun (W : World) => regs_odd Ab cb b W hev (by omega))
      clear hev
      go_wp2_with fail
      refine (kr.out _).mono ?_
      rintro e8 w8 ⟨A8, c8, rfl, s8, n8, m8, hb8⟩
      obtain ⟨x8, rfl⟩ := later_is hb8
      clear hb8
      go_wp2_with fail
      refine (awake_any _).mono ?_
      rintro e_x10 w_x10 ⟨rfl, hb_x10⟩
      obtain ⟨x10, rfl⟩ := later_is hb_x10
      clear hb_x10
      have hz_x10 := x10.bel.size
      try simp at hz_x10
      go_wp2
      go_ret
      exact ⟨rfl, (by repeat (first | exact Below.refl _ _ | refine bel_later _ ?_ | refine bel_alloc ?_ _ | refine bel_set ?_ (by first | omega | (simp; done) | (simp; omega)) _ | refine Below.drew ?_ | assumption))⟩
  · have u0 : decide (0 < L.length) = true := decide_eq_true (by omega)
    obtain ⟨hp1, hp2⟩ := hpk (by intro h; rw [h] at hL; exact hL rfl)
    simp only [Int.toNat_natCast] at hp1
    have u2 : ((L.length : Int) != (n : Int)) = false := by rw [bne_eq_false_iff_eq]; omega
    have kpk := Lib.hid (fun (W : World) (h : Below x7.val.heap.size x7.val W) => packBits_eq A7 c7 L.length L b W rfl (s7.to h) (by omega) hp2)
    clear hL hpk hp1 hp2
    go_wp2_with fail
    refine (kpk.out _ (Below.refl _ _)).mono ?_
    rintro e_y1 w_y1 ⟨Ay1, cy1, rfl, sy1, ny1, my1, hb_y1⟩
    obtain ⟨y1, rfl⟩ := later_is hb_y1
    clear hb_y1
    have hz_y1 := y1.bel.size
    try simp at hz_y1
    go_wp2_with fail
    refine (same_eq _ _ b b _ _ b.length b.length true _ rfl rfl sy1 (sb.to (by repeat (first | exact Below.refl _ _ | refine bel_later _ ?_ | refine bel_alloc ?_ _ | refine bel_set ?_ (by first | omega | (simp; done) | (simp; omega)) _ | refine Below.drew ?_ | assumption))) hb hb (by simp)).mono ?_
    rintro e_ w_ ⟨rfl, rfl⟩
    by_cases hev : b.length % 2 = 0
    · have u1 : ((b.length : Int) % 2 == 0) = true := by rw [beq_iff_eq]; omega
      have kr := Lib.hid (fun (W : World) (h : Below w.heap.size w W) => regs_eq Ab cb b.length b (regsOf b) W rfl (sb.to h) hb hev (by omega) rfl)
      have kk := Lib.hid (fun (A : Option Addr) (c : Nat) (W : World) (s : Sq u16v W W.heap.size A (regsOf b)) => packRegs_eq A c (regsOf b).length (regsOf b) b W rfl s (regsOf_lt hb) (by rw [regsOf_length]; omega) (pack_regs hb hev))
      generalize regsOf b = rg at *
      clear hev
      go_wp2_with fail
      refine (kr.out _ (by repeat (first | exact Below.refl _ _ | refine bel_later _ ?_ | refine bel_alloc ?_ _ | refine bel_set ?_ (by first | omega | (simp; done) | (simp; omega)) _ | refine Below.drew ?_ | assumption))).mono ?_
      rintro e8 w8 ⟨A8, c8, rfl, s8, n8, m8, hb8⟩
      obtain ⟨x8, rfl⟩ := later_is hb8
      clear hb8
      go_wp2_with fail
      refine (kk.out _ _ _ (s8.to (by repeat (first | exact Below.refl _ _ | refine bel_later _ ?_ | refine bel_alloc ?_ _ | refine bel_set ?_ (by first | omega | (simp; done) | (simp; omega)) _ | refine Below.drew ?_ | assumption)))).mono ?_
      rintro e_x9 w_x9 ⟨Ax9, cx9, rfl, sx9, nx9, mx9, hb_x9⟩
      obtain ⟨x9, rfl⟩ := later_is hb_x9
      clear hb_x9
      have hz_x9 := x9.bel.size
      try simp at hz_x9
      go_wp2_with fail
      refine (same_eq _ _ b b _ _ b.length b.length true _ rfl rfl sx9 (sb.to (by repeat (first | exact Below.refl _ _ | refine bel_later _ ?_ | refine bel_alloc ?_ _ | refine bel_set ?_ (by first | omega | (simp; done) | (simp; omega)) _ | refine Below.drew ?_ | assumption))) hb hb (by simp)).mono ?_
      rintro e_ w_ ⟨rfl, rfl⟩
      go_wp2_with fail
      refine (awake_any _).mono ?_
      rintro e_x10 w_x10 ⟨rfl, hb_x10⟩
      obtain ⟨x10, rfl⟩ := later_is hb_x10
      clear hb_x10
      have hz_x10 := x10.bel.size
      try simp at hz_x10
      go_wp2
      go_ret
      exact ⟨rfl, (by repeat (first | exact Below.refl _ _ | refine bel_later _ ?_ | refine bel_alloc ?_ _ | refine bel_set ?_ (by first | omega | (simp; done) | (simp; omega)) _ | refine Below.drew ?_ | assumption))⟩
    · have u1 : ((b.length : Int) % 2 == 0) = false := beq_eq_false_iff_ne.2 (by omega)
      have kr := Lib.hid (fun (W : World) => regs_odd Ab cb b W hev (by omega))
      clear hev
      go_wp2_with fail
      refine (kr.out _).mono ?_
      rintro e8 w8 ⟨A8, c8, rfl, s8, n8, m8, hb8⟩
      obtain ⟨x8, rfl⟩ := later_is hb8
      clear hb8
      go_wp2_with fail
      refine (awake_any _).mono ?_
      rintro e_x10 w_x10 ⟨rfl, hb_x10⟩
      obtain ⟨x10, rfl⟩ := later_is hb_x10
      clear hb_x10
      have hz_x10 := x10.bel.size
      try simp at hz_x10
      go_wp2
      go_ret
      exact ⟨rfl, (by repeat (first | exact Below.refl _ _ | refine bel_later _ ?_ | refine bel_alloc ?_ _ | refine bel_set ?_ (by first | omega | (simp; done) | (simp; omega)) _ | refine Below.drew ?_ | assumption))⟩

theorem wordsBack_walk (Al Ar Ab : Option Addr) (l : List Bool) (r b : List Nat) (cl cr cb x q n : Nat) (w : World) (sl : Sq Value.bool w w.heap.size Al l) (sr : Sq u16v w w.heap.size Ar r) (sb : Sq u8v w w.heap.size Ab b) (hr : ∀ x ∈ r, x < 65536) (hb : ∀ x ∈ b, x < 256) (hx : x < 4294967296) (hq : q < 65536) (hn : n < 65536) :
    Calls Try.prog 4 #[.slice Al l.length cl, .slice Ar r.length cr, .int .u32 (x : Int), .int .u16 (q : Int), .slice Ab b.length cb, .int .u16 (n : Int)] w fun e w' => e = .returned (.bool true) ∧ Below w.heap.size w w' := by
  by_cases h1 : 500 < l.length
  · go_enter Try.func4, Try.ntmps4
    go_wp2_with fail
    refine (awake_any _).mono ?_
    rintro e_x1 w_x1 ⟨rfl, hb_x1⟩
    obtain ⟨x1, rfl⟩ := later_is hb_x1
    clear hb_x1
    have hz_x1 := x1.bel.size
    try simp at hz_x1
    go_wp2
    go_ret
    exact ⟨rfl, (by repeat (first | exact Below.refl _ _ | refine bel_later _ ?_ | refine bel_alloc ?_ _ | refine bel_set ?_ (by first | omega | (simp; done) | (simp; omega)) _ | refine Below.drew ?_ | assumption))⟩
  have g1 : decide ((500 : Int) < (l.length : Int)) = false := by simp; omega
  by_cases h2 : 200 < r.length
  · have g2 : decide ((200 : Int) < (r.length : Int)) = true := by simp; omega
    go_enter Try.func4, Try.ntmps4
    go_wp2_with fail
    refine (awake_any _).mono ?_
    rintro e_x1 w_x1 ⟨rfl, hb_x1⟩
    obtain ⟨x1, rfl⟩ := later_is hb_x1
    clear hb_x1
    have hz_x1 := x1.bel.size
    try simp at hz_x1
    go_wp2
    go_ret
    exact ⟨rfl, (by repeat (first | exact Below.refl _ _ | refine bel_later _ ?_ | refine bel_alloc ?_ _ | refine bel_set ?_ (by first | omega | (simp; done) | (simp; omega)) _ | refine Below.drew ?_ | assumption))⟩
  have g2 : decide ((200 : Int) < (r.length : Int)) = false := by simp; omega
  by_cases h3 : 300 < b.length
  · have g3 : decide ((300 : Int) < (b.length : Int)) = true := by simp; omega
    go_enter Try.func4, Try.ntmps4
    go_wp2_with fail
    refine (awake_any _).mono ?_
    rintro e_x1 w_x1 ⟨rfl, hb_x1⟩
    obtain ⟨x1, rfl⟩ := later_is hb_x1
    clear hb_x1
    have hz_x1 := x1.bel.size
    try simp at hz_x1
    go_wp2
    go_ret
    exact ⟨rfl, (by repeat (first | exact Below.refl _ _ | refine bel_later _ ?_ | refine bel_alloc ?_ _ | refine bel_set ?_ (by first | omega | (simp; done) | (simp; omega)) _ | refine Below.drew ?_ | assumption))⟩
  exact wordsBack_in Al Ar Ab l r b cl cr cb x q n w sl sr sb hr hb hx hq hn (by omega) (by omega) (by omega)
end Go.Proofs.Ytfdbajalhnenhaa
