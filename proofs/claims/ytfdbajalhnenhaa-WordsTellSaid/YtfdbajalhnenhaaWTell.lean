/- WordsTell: the walk. -/
import Derived.Test.YtfdbajalhnenhaaRefD
namespace Go.Proofs.Ytfdbajalhnenhaa
open Go.RowKit
set_option linter.unusedVariables false
attribute [local go_sem] Later.cell Later.frozen setCell_twice

theorem bits_len (b : List Nat) (n : Int) : (Bt.bits b n).length ≤ 8 * b.length := by
  unfold Bt.bits
  split
  · next h =>
    rw [Bt.bitsOf_length]
    have h2 := h.2
    unfold Bt.okB at h2
    simp only [Bool.and_eq_true, decide_eq_true_eq] at h2
    exact h2.1.1
  · simp
theorem refBits_any (A : Option Addr) (c : Nat) (b : List Nat) (n : Int) (w : World) (hb : Sq u8v w w.heap.size A b) (hbb : ∀ x ∈ b, x < 256) (hl : b.length ≤ 35184372088) (h2 : -9223372036854775808 ≤ n) (h3 : n ≤ 9223372036854775807) :
    Calls Try.prog 12 #[.slice A b.length c, .int .i64 n] w (Gives Value.bool w (Bt.bits b n)) := by
  by_cases h : 0 ≤ n ∧ n ≤ 8 * (b.length : Int)
  · have hm : n.toNat ≤ 8 * b.length := by omega
    have := refBits_in A c b n.toNat w hb hbb hl hm (Bt.bits b n) (by
      unfold Bt.bits
      by_cases hp : Bt.packBits (Bt.bitsOf b n.toNat) = b
      · rw [if_pos hp, if_pos ⟨h.1, (Bt.pack_bits hbb hm).1 hp⟩]
      · rw [if_neg hp, if_neg (fun hh => hp ((Bt.pack_bits hbb hm).2 hh.2))])
    rw [Int.toNat_of_nonneg h.1] at this
    exact this
  · have he : Bt.bits b n = [] := by
      unfold Bt.bits
      rw [if_neg]
      rintro ⟨h0, hok⟩
      unfold Bt.okB at hok
      simp only [Bool.and_eq_true, decide_eq_true_eq] at hok
      have := hok.1.1
      omega
    rw [he]
    exact refBits_out A c b n w (by omega) (by omega)
theorem regs_both (A : Option Addr) (c : Nat) (b : List Nat) (w : World) (hb : Sq u8v w w.heap.size A b) (hbb : ∀ x ∈ b, x < 256) (hl : b.length ≤ 300) : ∃ rg : List Nat, ∃ ok : Bool, rg.length ≤ 300 ∧
    (∀ W, Below w.heap.size w W → Calls Try.prog 8 #[.slice A b.length c] W (GivesR W rg ok)) ∧ (∀ W, Below w.heap.size w W → Calls Try.prog 9 #[.slice A b.length c] W (GivesR W rg ok)) := by
  by_cases h : b.length % 2 = 0
  · exact ⟨regsOf b, true, by rw [regsOf_length]; omega, fun W hW => regs_even A c b W (hb.to hW) hbb h (by omega), fun W hW => refRegs_even A c b W (hb.to hW) hbb h (by omega)⟩
  · exact ⟨[], false, by simp, fun W hW => regs_odd A c b W h (by omega), fun W hW => refRegs_odd A c b W h (by omega)⟩
theorem sg_of_word {x : Int} (h1 : -32768 ≤ x) (h2 : x < 32768) : sg (x % 65536).toNat = x := by
  unfold sg
  split <;> omega
theorem word_in (x : Int) (q : Nat) (w : World) (h1 : -32768 ≤ x) (h2 : x < 32768) (hq : (x % 65536).toNat = q) :
    Calls Try.prog 24 #[.int .i64 x] w fun e w' => e = .returned (.tuple #[.int .u16 (q : Int), .bool true]) ∧ w = w' := by subst hq; exact word_any x w h1 h2
theorem refSigned_eq (q : Nat) (x : Int) (w : World) (hq : q < 65536) (h : sg q = x) :
    Calls Try.prog 23 #[.int .u16 (q : Int)] w fun e w' => e = .returned (.int .i64 x) ∧ w = w' := by subst h; exact refSigned_any q w hq

set_option maxRecDepth 100000 in
set_option maxHeartbeats 4000000 in
theorem wordsTell_in (Ab Al Ar : Option Addr) (b r : List Nat) (l : List Bool) (cb cl cr : Nat) (n x : Int) (w : World) (sb : Sq u8v w w.heap.size Ab b) (sl : Sq Value.bool w w.heap.size Al l) (sr : Sq u16v w w.heap.size Ar r) (hb : ∀ x ∈ b, x < 256) (hr : ∀ x ∈ r, x < 65536) (hn : -9223372036854775808 ≤ n ∧ n ≤ 9223372036854775807) (hx : -9223372036854775808 ≤ x ∧ x ≤ 9223372036854775807)
    (hlb : b.length ≤ 300) (hll : l.length ≤ 500) (hlr : r.length ≤ 200) :
    Calls Try.prog 3 #[.slice Ab b.length cb, .int .i64 n, .slice Al l.length cl, .slice Ar r.length cr, .int .i64 x] w fun e w' => e = .returned (.bool true) ∧ Below w.heap.size w w' := by
  have g1 : decide ((300 : Int) < (b.length : Int)) = false := by simp; omega
  have g2 : decide ((500 : Int) < (l.length : Int)) = false := by simp; omega
  have g3 : decide ((200 : Int) < (r.length : Int)) = false := by simp; omega
  obtain ⟨rg, ok, hrg, kr1, kr2⟩ := regs_both Ab cb b w sb hb hlb
  replace kr1 := Lib.hid kr1
  replace kr2 := Lib.hid kr2
  have kb1 := Lib.hid (fun (W : World) (h : Below w.heap.size w W) => bits_any Ab cb b n W (sb.to h) hb (by omega) hn.1 hn.2)
  have kb2 := Lib.hid (fun (W : World) (h : Below w.heap.size w W) => refBits_any Ab cb b n W (sb.to h) hb (by omega) hn.1 hn.2)
  have hbl := bits_len b n
  generalize Bt.bits b n = bb at *
  have kp1 := Lib.hid (fun (W : World) (h : Below w.heap.size w W) => packBits_any Al cl l W (sl.to h) (by omega))
  have kp2 := Lib.hid (fun (W : World) (h : Below w.heap.size w W) => refPackBits_any Al cl l W (sl.to h) (by omega))
  have kpb := Lib.hid (Bt.packBits_byte l)
  generalize Bt.packBits l = pl at *
  have kq1 := Lib.hid (fun (W : World) (h : Below w.heap.size w W) => packRegs_eq Ar cr r.length r (packRegs r) W rfl (sr.to h) hr (by omega) rfl)
  have kq2 := Lib.hid (fun (W : World) (h : Below w.heap.size w W) => refPackRegs_any Ar cr r W (sr.to h) hr (by omega))
  have kqb := Lib.hid (packRegs_byte hr)
  generalize packRegs r = pr at *
  have HX := Lib.hid hx
  have HB := Lib.hid hb
  have HN := Lib.hid hn
  clear hb hn hx
  have ku : (ok != ok) = false := by simp
  go_enter Try.func3, Try.ntmps3
  go_wp2_with fail
  refine (kr1.out _ (by repeat (first | exact Below.refl _ _ | refine bel_later _ ?_ | refine bel_alloc ?_ _ | refine bel_set ?_ (by first | omega | (simp; done) | (simp; omega)) _ | refine Below.drew ?_ | assumption))).mono ?_
  rintro e1 w1 ⟨A1, c1, rfl, s1, n1, m1, hb1⟩
  obtain ⟨x1, rfl⟩ := later_is hb1
  clear hb1
  go_wp2_with fail
  refine (kr2.out _ (by repeat (first | exact Below.refl _ _ | refine bel_later _ ?_ | refine bel_alloc ?_ _ | refine bel_set ?_ (by first | omega | (simp; done) | (simp; omega)) _ | refine Below.drew ?_ | assumption))).mono ?_
  rintro e2 w2 ⟨A2, c2, rfl, s2, n2, m2, hb2⟩
  obtain ⟨x2, rfl⟩ := later_is hb2
  clear hb2 kr1 kr2
  go_wp2_with fail
  refine (kb1.out _ (by repeat (first | exact Below.refl _ _ | refine bel_later _ ?_ | refine bel_alloc ?_ _ | refine bel_set ?_ (by first | omega | (simp; done) | (simp; omega)) _ | refine Below.drew ?_ | assumption))).mono ?_
  rintro e_x3 w_x3 ⟨Ax3, cx3, rfl, sx3, nx3, mx3, hb_x3⟩
  obtain ⟨x3, rfl⟩ := later_is hb_x3
  clear hb_x3
  have hz_x3 := x3.bel.size
  try simp at hz_x3
  go_wp2_with fail
  refine (kb2.out _ (by repeat (first | exact Below.refl _ _ | refine bel_later _ ?_ | refine bel_alloc ?_ _ | refine bel_set ?_ (by first | omega | (simp; done) | (simp; omega)) _ | refine Below.drew ?_ | assumption))).mono ?_
  rintro e_x4 w_x4 ⟨Ax4, cx4, rfl, sx4, nx4, mx4, hb_x4⟩
  obtain ⟨x4, rfl⟩ := later_is hb_x4
  clear hb_x4
  have hz_x4 := x4.bel.size
  try simp at hz_x4
  go_wp2_with fail
  refine (bools_eq _ _ bb bb _ _ bb.length bb.length true _ rfl rfl (sx3.to (by repeat (first | exact Below.refl _ _ | refine bel_later _ ?_ | refine bel_alloc ?_ _ | refine bel_set ?_ (by first | omega | (simp; done) | (simp; omega)) _ | refine Below.drew ?_ | assumption))) sx4 (by omega) (by simp)).mono ?_
  rintro e_x5 w_x5 ⟨rfl, hb_x5⟩
  obtain ⟨x5, rfl⟩ := later_is hb_x5
  clear hb_x5
  have hz_x5 := x5.bel.size
  try simp at hz_x5
  go_wp2_with fail
  refine (kp1.out _ (by repeat (first | exact Below.refl _ _ | refine bel_later _ ?_ | refine bel_alloc ?_ _ | refine bel_set ?_ (by first | omega | (simp; done) | (simp; omega)) _ | refine Below.drew ?_ | assumption))).mono ?_
  rintro e_x6 w_x6 ⟨Ax6, cx6, rfl, sx6, nx6, mx6, hb_x6⟩
  obtain ⟨x6, rfl⟩ := later_is hb_x6
  clear hb_x6
  have hz_x6 := x6.bel.size
  try simp at hz_x6
  go_wp2_with fail
  refine (kp2.out _ (by repeat (first | exact Below.refl _ _ | refine bel_later _ ?_ | refine bel_alloc ?_ _ | refine bel_set ?_ (by first | omega | (simp; done) | (simp; omega)) _ | refine Below.drew ?_ | assumption))).mono ?_
  rintro e_x7 w_x7 ⟨Ax7, cx7, rfl, sx7, nx7, mx7, hb_x7⟩
  obtain ⟨x7, rfl⟩ := later_is hb_x7
  clear hb_x7
  have hz_x7 := x7.bel.size
  try simp at hz_x7
  go_wp2_with fail
  refine (same_eq _ _ pl pl _ _ pl.length pl.length true _ rfl rfl (sx6.to (by repeat (first | exact Below.refl _ _ | refine bel_later _ ?_ | refine bel_alloc ?_ _ | refine bel_set ?_ (by first | omega | (simp; done) | (simp; omega)) _ | refine Below.drew ?_ | assumption))) sx7 kpb.out kpb.out (by simp)).mono ?_
  rintro e_ w_ ⟨rfl, rfl⟩
  go_wp2_with fail
  refine (kq1.out _ (by repeat (first | exact Below.refl _ _ | refine bel_later _ ?_ | refine bel_alloc ?_ _ | refine bel_set ?_ (by first | omega | (simp; done) | (simp; omega)) _ | refine Below.drew ?_ | assumption))).mono ?_
  rintro e_x8 w_x8 ⟨Ax8, cx8, rfl, sx8, nx8, mx8, hb_x8⟩
  obtain ⟨x8, rfl⟩ := later_is hb_x8
  clear hb_x8
  have hz_x8 := x8.bel.size
  try simp at hz_x8
  go_wp2_with fail
  refine (kq2.out _ (by repeat (first | exact Below.refl _ _ | refine bel_later _ ?_ | refine bel_alloc ?_ _ | refine bel_set ?_ (by first | omega | (simp; done) | (simp; omega)) _ | refine Below.drew ?_ | assumption))).mono ?_
  rintro e_x9 w_x9 ⟨Ax9, cx9, rfl, sx9, nx9, mx9, hb_x9⟩
  obtain ⟨x9, rfl⟩ := later_is hb_x9
  clear hb_x9
  have hz_x9 := x9.bel.size
  try simp at hz_x9
  go_wp2_with fail
  refine (same_eq _ _ pr pr _ _ pr.length pr.length true _ rfl rfl (sx8.to (by repeat (first | exact Below.refl _ _ | refine bel_later _ ?_ | refine bel_alloc ?_ _ | refine bel_set ?_ (by first | omega | (simp; done) | (simp; omega)) _ | refine Below.drew ?_ | assumption))) sx9 kqb.out kqb.out (by simp)).mono ?_
  rintro e_ w_ ⟨rfl, rfl⟩
  go_wp2_with fail
  refine (cmpRegs_eq _ _ rg rg _ _ rg.length rg.length true _ rfl rfl (s1.to (by repeat (first | exact Below.refl _ _ | refine bel_later _ ?_ | refine bel_alloc ?_ _ | refine bel_set ?_ (by first | omega | (simp; done) | (simp; omega)) _ | refine Below.drew ?_ | assumption))) (s2.to (by repeat (first | exact Below.refl _ _ | refine bel_later _ ?_ | refine bel_alloc ?_ _ | refine bel_set ?_ (by first | omega | (simp; done) | (simp; omega)) _ | refine Below.drew ?_ | assumption))) (by omega) (by simp)).mono ?_
  rintro e_x10 w_x10 ⟨rfl, hb_x10⟩
  obtain ⟨x10, rfl⟩ := later_is hb_x10
  clear hb_x10
  have hz_x10 := x10.bel.size
  try simp at hz_x10
  have hbx : Below w.heap.size w x10.val := (by repeat (first | exact Below.refl _ _ | refine bel_later _ ?_ | refine bel_alloc ?_ _ | refine bel_set ?_ (by first | omega | (simp; done) | (simp; omega)) _ | refine Below.drew ?_ | assumption))
  clear sx3 sx4 sx6 sx7 sx8 sx9 s1 s2 kb1 kb2 kp1 kp2 kq1 kq2 kpb kqb
  go_wp2
  go_loopw [15, 16, 17, 18] (fun i _ _ _ wr => ∃ k : Nat, 1 ≤ k ∧ i = .int .i64 (k : Int) ∧ Below w.heap.size w wr) (fun i _ _ _ _ => r.length - (intOf i).toNat)
  case atStart => exact ⟨1, by omega, rfl, hbx⟩
  case round =>
    obtain ⟨k, hk, rfl, hbe⟩ := hrel
    by_cases hlt : k < r.length
    · obtain ⟨b2, o2, hA2, hbw, hcl⟩ := sr (by omega)
      subst hA2
      obtain ⟨p, hp⟩ : ∃ p, r[k - 1]? = some p := ⟨_, List.getElem?_eq_getElem (by omega)⟩
      obtain ⟨q, hq⟩ : ∃ q, r[k]? = some q := ⟨_, List.getElem?_eq_getElem (by omega)⟩
      have d1 : wr.cell? ⟨b2, o2 + (k - 1), none⟩ = some (.int .u16 (p : Int)) := (hbe.cell (p := ⟨b2, o2 + (k - 1), none⟩) hbw).trans (hcl _ p hp)
      have d2 : wr.cell? ⟨b2, o2 + k, none⟩ = some (.int .u16 (q : Int)) := (hbe.cell (p := ⟨b2, o2 + k, none⟩) hbw).trans (hcl _ q hq)
      have hpl := hr p (List.mem_of_getElem? hp)
      have hql := hr q (List.mem_of_getElem? hq)
      obtain ⟨j, hj⟩ : ∃ j, k = j + 1 := ⟨k - 1, by omega⟩
      subst hj
      rw [Nat.add_sub_cancel] at d1 hp
      have e4 : (j : Int) + 1 < (r.length : Int) := by omega
      have e5 : (j : Int) < (r.length : Int) := by omega
      have hbs : b2 < wr.heap.size := Nat.lt_of_lt_of_le hbw hbe.size
      obtain ⟨wi, hwi⟩ : ∃ wi, 65536 * p + q = wi := ⟨_, rfl⟩
      have kw1 := Lib.hid (fun (W : World) => hwi ▸ wide_any p q W hpl hql)
      have kw2 := Lib.hid (fun (W : World) => hwi ▸ refWide_any p q W hpl hql)
      have kpa := Lib.hid (fun (W : World) => parts_eq wi p q (wi : Int) (p : Int) (q : Int) W (by omega) rfl (by omega) (by omega))
      have ks1 := Lib.hid (fun (W : World) => signed_any q W hql)
      have ks2 := Lib.hid (fun (W : World) => refSigned_any q W hql)
      generalize sg q = sq at *
      clear hwi hp hq hcl hr
      go_wp2
      refine wp_region_lat (by kernel_rfl) (by kernel_rfl) ?_
      repeat (go_big_quiet_step (fail))
      go_big_quiet_step (exact later_same (kw1.out _))
      repeat (go_big_quiet_step (fail))
      refine wpQuiet_nil ?_
      rintro _ ⟨y1, rfl⟩
      have hz_y1 := y1.bel.size
      try simp at hz_y1
      have hbs1 : b2 < y1.val.heap.size := by omega
      go_wp2_with fail
      refine (kpa.out _).mono ?_
      rintro e_ w_ ⟨rfl, rfl⟩
      go_wp2
      refine wp_region_lat (by kernel_rfl) (by kernel_rfl) ?_
      repeat (go_big_quiet_step (fail))
      go_big_quiet_step (exact later_same (kw2.out _))
      repeat (go_big_quiet_step (fail))
      go_big_quiet_step (exact later_same (ks1.out _))
      repeat (go_big_quiet_step (fail))
      go_big_quiet_step (exact later_same (ks2.out _))
      repeat (go_big_quiet_step (fail))
      refine wpQuiet_nil ?_
      rintro _ ⟨y2, rfl⟩
      have hz_y2 := y2.bel.size
      try simp at hz_y2
      go_wp2
      go_roundw
      case rel => exact ⟨j + 1 + 1, by omega, by go_num, bel_later y2 (bel_later y1 hbe)⟩
      case measure => simp [intOf]; omega
    · have hx := HX.out
      have e3 : ¬ (k : Int) < (r.length : Int) := by omega
      by_cases h1 : -32768 ≤ x
      · have t1 : decide (-32768 ≤ x) = true := decide_eq_true h1
        by_cases h2 : x ≤ 32767
        · have t2 : decide (x ≤ 32767) = true := decide_eq_true h2
          have kw := Lib.hid (fun W => word_in x _ W h1 (by omega) rfl)
          have ks := Lib.hid (fun W => refSigned_eq (x % 65536).toNat x W (by omega) (sg_of_word h1 (by omega)))
          generalize (x % 65536).toNat = q at *
          clear hx h1 h2
          go_wp2_with fail
          refine (kw.out _).mono ?_
          rintro e_ w_ ⟨rfl, rfl⟩
          go_wp2_with fail
          refine (ks.out _).mono ?_
          rintro e_ w_ ⟨rfl, rfl⟩
          go_wp2_with fail
          refine (awake_any _).mono ?_
          rintro e_y3 w_y3 ⟨rfl, hb_y3⟩
          obtain ⟨y3, rfl⟩ := later_is hb_y3
          clear hb_y3
          have hz_y3 := y3.bel.size
          try simp at hz_y3
          go_wp2
          go_ret
          exact ⟨rfl, bel_later y3 hbe⟩
        · have t2 : decide (x ≤ 32767) = false := decide_eq_false h2
          have kw := Lib.hid (fun W => word_no x W (by omega))
          clear hx h1 h2
          go_wp2_with fail
          refine (kw.out _).mono ?_
          rintro e_ w_ ⟨rfl, rfl⟩
          go_wp2_with fail
          refine (awake_any _).mono ?_
          rintro e_y3 w_y3 ⟨rfl, hb_y3⟩
          obtain ⟨y3, rfl⟩ := later_is hb_y3
          clear hb_y3
          have hz_y3 := y3.bel.size
          try simp at hz_y3
          go_wp2
          go_ret
          exact ⟨rfl, bel_later y3 hbe⟩
      · have t1 : decide (-32768 ≤ x) = false := decide_eq_false h1
        have kw := Lib.hid (fun W => word_no x W (by omega))
        clear hx h1
        go_wp2_with fail
        refine (kw.out _).mono ?_
        rintro e_ w_ ⟨rfl, rfl⟩
        go_wp2_with fail
        refine (awake_any _).mono ?_
        rintro e_y3 w_y3 ⟨rfl, hb_y3⟩
        obtain ⟨y3, rfl⟩ := later_is hb_y3
        clear hb_y3
        have hz_y3 := y3.bel.size
        try simp at hz_y3
        go_wp2
        go_ret
        exact ⟨rfl, bel_later y3 hbe⟩
set_option maxRecDepth 100000 in
theorem wordsTell_walk (Ab Al Ar : Option Addr) (b r : List Nat) (l : List Bool) (cb cl cr : Nat) (n x : Int) (w : World) (sb : Sq u8v w w.heap.size Ab b) (sl : Sq Value.bool w w.heap.size Al l) (sr : Sq u16v w w.heap.size Ar r) (hb : ∀ x ∈ b, x < 256) (hr : ∀ x ∈ r, x < 65536) (hn : -9223372036854775808 ≤ n ∧ n ≤ 9223372036854775807) (hx : -9223372036854775808 ≤ x ∧ x ≤ 9223372036854775807) :
    Calls Try.prog 3 #[.slice Ab b.length cb, .int .i64 n, .slice Al l.length cl, .slice Ar r.length cr, .int .i64 x] w fun e w' => e = .returned (.bool true) ∧ Below w.heap.size w w' := by
  have HN := Lib.hid hn
  have HX := Lib.hid hx
  clear hn hx
  by_cases h1 : 300 < b.length
  · go_enter Try.func3, Try.ntmps3
    go_wp2_with fail
    refine (awake_any _).mono ?_
    rintro e_x1 w_x1 ⟨rfl, hb_x1⟩
    obtain ⟨x1, rfl⟩ := later_is hb_x1
    clear hb_x1
    have hz_x1 := x1.bel.size
    try simp at hz_x1
    go_wp2
    go_ret
    exact ⟨rfl, (by repeat (first | exact Below.refl _ _ | refine bel_later _ ?_ | refine bel_alloc ?_ _ | refine bel_set ?_ (by first | omega | (simp; done) | (simp; omega)) _ | refine Below.drew ?_ | assumption))⟩
  have g1 : decide ((300 : Int) < (b.length : Int)) = false := by simp; omega
  by_cases h2 : 500 < l.length
  · have g2 : decide ((500 : Int) < (l.length : Int)) = true := by simp; omega
    go_enter Try.func3, Try.ntmps3
    go_wp2_with fail
    refine (awake_any _).mono ?_
    rintro e_x1 w_x1 ⟨rfl, hb_x1⟩
    obtain ⟨x1, rfl⟩ := later_is hb_x1
    clear hb_x1
    have hz_x1 := x1.bel.size
    try simp at hz_x1
    go_wp2
    go_ret
    exact ⟨rfl, (by repeat (first | exact Below.refl _ _ | refine bel_later _ ?_ | refine bel_alloc ?_ _ | refine bel_set ?_ (by first | omega | (simp; done) | (simp; omega)) _ | refine Below.drew ?_ | assumption))⟩
  have g2 : decide ((500 : Int) < (l.length : Int)) = false := by simp; omega
  by_cases h3 : 200 < r.length
  · have g3 : decide ((200 : Int) < (r.length : Int)) = true := by simp; omega
    go_enter Try.func3, Try.ntmps3
    go_wp2_with fail
    refine (awake_any _).mono ?_
    rintro e_x1 w_x1 ⟨rfl, hb_x1⟩
    obtain ⟨x1, rfl⟩ := later_is hb_x1
    clear hb_x1
    have hz_x1 := x1.bel.size
    try simp at hz_x1
    go_wp2
    go_ret
    exact ⟨rfl, (by repeat (first | exact Below.refl _ _ | refine bel_later _ ?_ | refine bel_alloc ?_ _ | refine bel_set ?_ (by first | omega | (simp; done) | (simp; omega)) _ | refine Below.drew ?_ | assumption))⟩
  exact wordsTell_in Ab Al Ar b r l cb cl cr n x w sb sl sr hb hr HN.out HX.out (by omega) (by omega) (by omega)
end Go.Proofs.Ytfdbajalhnenhaa
