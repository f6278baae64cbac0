/- The walks of package words: Bits, Regs, and numbers. -/
import Derived.Test.YtfdbajalhnenhaaWords
namespace Go.Proofs.Ytfdbajalhnenhaa
open Go.RowKit
set_option linter.unusedVariables false
attribute [local go_sem] Later.cell Later.frozen setCell_twice

set_option maxHeartbeats 2000000 in
theorem bits_yes (A : Option Addr) (c : Nat) (b : List Nat) (m : Nat) (w : World) (hb : Nums .u8 w w.heap.size A b) (hbb : ∀ x ∈ b, x < 256) (hl : b.length ≤ 35184372088832) (hok : Bt.okB b m = true) :
    Calls Try.prog 11 #[.slice A b.length c, .int .i64 (m : Int)] w (Gives Value.bool w (Bt.bitsOf b m)) := by
  obtain ⟨i0, hi, hz0, hz1, hz2⟩ := info_parts info_bool
  unfold Bt.okB at hok
  simp only [Bool.and_eq_true, Bool.or_eq_true, decide_eq_true_eq] at hok
  obtain ⟨⟨hm1, hm2⟩, hlast⟩ := hok
  have q0 : decide ((m : Int) < 0) = false := by simp
  have q1 : decide (8 * (b.length : Int) < (m : Int)) = false := by simp; omega
  have q2 : decide (8 ≤ 8 * (b.length : Int) - (m : Int)) = false := by simp; omega
  have hXl := Bt.bitsOf_length b m
  have fin : ∀ (w1 : World), w1.ownsRow w.heap.size 4 1 (.slice (some ⟨w.heap.size, 0, none⟩) m m) m ((fillD false (Bt.bitsOf b m) m 0).map Value.bool) → Below w.heap.size w w1 → True := fun _ _ _ => trivial
  clear fin
  by_cases h8 : m % 8 = 0
  · have q3 : decide (0 < (m : Int) % 8) = false := by simp; omega
    clear hlast h8
    go_enter Try.func11, Try.ntmps11
    go_wp2_with (at_make; refine wpList_make_full _ rfl _ _ 23 rfl w.heap.size 4 i0 (.bool false) 1 Try.underlying23 hi hz0 hz1 _ _ _ _ m rfl rfl rfl rfl ?c11 ?c21 ?c31 ?_)
    case c11 => rw [hz2]; omega
    case c21 => unfold maxLen; omega
    case c31 => exact Nat.le_refl _
    intro w1 hown hg
    have hb1 : Below w.heap.size w w1 := (Below.refl _ _).grown hg (Nat.le_refl _) (by simp)
    rw [made_map Value.bool false m, ← fillD_zero false (Bt.bitsOf b m) m] at hown
    clear hg
    go_wp2
    go_loopw [42] (fun i wr => ∃ k : Nat, k ≤ m ∧ i = .int .i64 k ∧ wr.ownsRow w.heap.size 4 1 (.slice (some ⟨w.heap.size, 0, none⟩) m m) m ((fillD false (Bt.bitsOf b m) m k).map Value.bool) ∧ Below w.heap.size w wr)
      (fun i _ => m - (intOf i).toNat)
    case atStart => exact ⟨0, by omega, rfl, hown, hb1⟩
    case round =>
      clear hown hb1
      obtain ⟨k, hk, rfl, hown, hbe⟩ := hrel
      by_cases hlt : k < m
      · obtain ⟨b2, o2, y, hA2, hbw2, hy, hc2⟩ := hb.at_ (show k / 8 < b.length by omega)
        subst hA2
        have hc : wr.cell? ⟨b2, o2 + k / 8, none⟩ = some (.int .u8 (y : Int)) := (hbe.cell (p := ⟨b2, o2 + k / 8, none⟩) hbw2).trans hc2
        have hyl := hbb y (List.mem_of_getElem? hy)
        have hgy : b.getD (k / 8) 0 = y := by rw [List.getD_eq_getElem?_getD, hy]; rfl
        have HX := Lib.hid (show (Bt.bitsOf b m)[k]? = some (y.testBit (k % 8)) by rw [Bt.bitsOf_get b hlt, hgy])
        have hfl := fillD_length (d := false) (X := Bt.bitsOf b m) (n := m) (k := k) hk (by omega)
        obtain ⟨u, hu⟩ : ∃ u, (fillD false (Bt.bitsOf b m) m k)[k]? = some u := ⟨_, List.getElem?_eq_getElem (by omega)⟩
        have d0 : wr.cell? ⟨w.heap.size, k, none⟩ = some (.bool u) := (hown.cellAt _ (by omega)).trans (map_get hu)
        have f0 := hown.frozenAt k
        have HB := Lib.hid (bit8 y k hyl)
        have e4 : (k : Int) < (m : Int) := by omega
        have e5 : (k : Int) / 8 < (b.length : Int) := by omega
        have e6 : (0 : Int) ≤ (k : Int) / 8 := by omega
        have HP := Lib.hid (fillD_step (d := false) (n := m) hlt HX.out)
        clear hy hgy hu hfl hc2 hXl
        go_wp2
        go_roundw
        case rel =>
          refine ⟨k + 1, by omega, by go_num, ?_, hbe.setCell (Nat.le_refl _) _⟩
          have hs := (hown.stored k (.bool (y.testBit (k % 8)))).1
          rw [← List.map_set, HP.out] at hs
          rw [HB.out]
          exact hs
        case measure => simp [intOf]; omega
      · have hkm : k = m := by omega
        subst hkm
        rw [fillD_all, List.take_of_length_le (by omega)] at hown
        go_wp2
        go_ret
        exact Gives.of_own hXl hown hbe
  · have hlast' : b.getD (b.length - 1) 0 / 2 ^ (m % 8) = 0 := by rcases hlast with h | h; exact absurd h h8; exact h
    obtain ⟨bq, oq, x, rfl, hbw, hx, hc⟩ := hb.at_ (show b.length - 1 < b.length by omega)
    have hxv : b.getD (b.length - 1) 0 = x := by rw [List.getD_eq_getElem?_getD, hx]; rfl
    rw [hxv] at hlast'
    have q3 : decide (0 < (m : Int) % 8) = true := by simp; omega
    have q4 : ((x : Int) / 2 ^ (m % 8) != 0) = false := by rw [shr8, bne_eq_false_iff_eq]; omega
    have e1 : (0 : Int) ≤ (b.length : Int) - 1 := by omega
    have e2 : (1 : Int) ≤ (b.length : Int) := by omega
    clear hlast hlast' hx hxv h8
    go_enter Try.func11, Try.ntmps11
    go_wp2_with (at_make; refine wpList_make_full _ rfl _ _ 23 rfl w.heap.size 4 i0 (.bool false) 1 Try.underlying23 hi hz0 hz1 _ _ _ _ m rfl rfl rfl rfl ?c12 ?c22 ?c32 ?_)
    case c12 => rw [hz2]; omega
    case c22 => unfold maxLen; omega
    case c32 => exact Nat.le_refl _
    intro w1 hown hg
    have hb1 : Below w.heap.size w w1 := (Below.refl _ _).grown hg (Nat.le_refl _) (by simp)
    rw [made_map Value.bool false m, ← fillD_zero false (Bt.bitsOf b m) m] at hown
    clear hg hc e1 e2
    go_wp2
    go_loopw [42] (fun i wr => ∃ k : Nat, k ≤ m ∧ i = .int .i64 k ∧ wr.ownsRow w.heap.size 4 1 (.slice (some ⟨w.heap.size, 0, none⟩) m m) m ((fillD false (Bt.bitsOf b m) m k).map Value.bool) ∧ Below w.heap.size w wr)
      (fun i _ => m - (intOf i).toNat)
    case atStart => exact ⟨0, by omega, rfl, hown, hb1⟩
    case round =>
      clear hown hb1
      obtain ⟨k, hk, rfl, hown, hbe⟩ := hrel
      by_cases hlt : k < m
      · obtain ⟨b2, o2, y, hA2, hbw2, hy, hc2⟩ := hb.at_ (show k / 8 < b.length by omega)
        obtain ⟨rfl, rfl⟩ : bq = b2 ∧ oq = o2 := by simpa using hA2
        have hc : wr.cell? ⟨bq, oq + k / 8, none⟩ = some (.int .u8 (y : Int)) := (hbe.cell (p := ⟨bq, oq + k / 8, none⟩) hbw2).trans hc2
        have hyl := hbb y (List.mem_of_getElem? hy)
        have hgy : b.getD (k / 8) 0 = y := by rw [List.getD_eq_getElem?_getD, hy]; rfl
        have HX := Lib.hid (show (Bt.bitsOf b m)[k]? = some (y.testBit (k % 8)) by rw [Bt.bitsOf_get b hlt, hgy])
        have hfl := fillD_length (d := false) (X := Bt.bitsOf b m) (n := m) (k := k) hk (by omega)
        obtain ⟨u, hu⟩ : ∃ u, (fillD false (Bt.bitsOf b m) m k)[k]? = some u := ⟨_, List.getElem?_eq_getElem (by omega)⟩
        have d0 : wr.cell? ⟨w.heap.size, k, none⟩ = some (.bool u) := (hown.cellAt _ (by omega)).trans (map_get hu)
        have f0 := hown.frozenAt k
        have HB := Lib.hid (bit8 y k hyl)
        have e4 : (k : Int) < (m : Int) := by omega
        have e5 : (k : Int) / 8 < (b.length : Int) := by omega
        have e6 : (0 : Int) ≤ (k : Int) / 8 := by omega
        have HP := Lib.hid (fillD_step (d := false) (n := m) hlt HX.out)
        clear hy hgy hu hfl hc2 hXl
        go_wp2
        go_roundw
        case rel =>
          refine ⟨k + 1, by omega, by go_num, ?_, hbe.setCell (Nat.le_refl _) _⟩
          have hs := (hown.stored k (.bool (y.testBit (k % 8)))).1
          rw [← List.map_set, HP.out] at hs
          rw [HB.out]
          exact hs
        case measure => simp [intOf]; omega
      · have hkm : k = m := by omega
        subst hkm
        rw [fillD_all, List.take_of_length_le (by omega)] at hown
        go_wp2
        go_ret
        exact Gives.of_own hXl hown hbe
theorem bits_any (A : Option Addr) (c : Nat) (b : List Nat) (n : Int) (w : World) (hb : Nums .u8 w w.heap.size A b) (hbb : ∀ x ∈ b, x < 256) (hl : b.length ≤ 35184372088832) (h2 : -9223372036854775808 ≤ n) (h3 : n ≤ 9223372036854775807) :
    Calls Try.prog 11 #[.slice A b.length c, .int .i64 n] w (Gives Value.bool w (Bt.bits b n)) := by
  unfold Bt.bits
  by_cases h : 0 ≤ n ∧ Bt.okB b n.toNat = true
  · rw [if_pos h]
    have := bits_yes A c b n.toNat w hb hbb hl h.2
    rw [Int.toNat_of_nonneg h.1] at this
    exact this
  · rw [if_neg h]
    exact (bits_no A c b n w hb hbb hl h h2 h3).mono fun e w' ⟨he, hbl⟩ => by subst he; exact Gives.nil hbl

theorem wide_or (h l : Nat) (hh : h < 65536) (hl : l < 65536) : bits .or .u32 ((h : Int) * 65536) (l : Int) = ((65536 * h + l : Nat) : Int) := by
  have h1 : ((h : Int) * 65536) = ((h * 65536 : Nat) : Int) := by omega
  rw [h1, u32_or_nat _ _ (by omega) (by omega)]
  have h2 := Nat.shiftLeft_add_eq_or_of_lt (i := 16) (b := l) hl h
  rw [Nat.shiftLeft_eq] at h2
  rw [show (65536 : Nat) = 2 ^ 16 from rfl, ← h2, Nat.mul_comm]
theorem wide_any (h l : Nat) (w : World) (hh : h < 65536) (hl : l < 65536) :
    Calls Try.prog 19 #[.int .u16 (h : Int), .int .u16 (l : Int)] w fun e w' => e = .returned (.int .u32 ((65536 * h + l : Nat) : Int)) ∧ w = w' := by
  go_enter Try.func19, Try.ntmps19
  go_wp2
  go_ret
  exact ⟨ret_int (wide_or h l hh hl), rfl⟩
theorem wrap_u16 (x : Int) : IntKind.u16.wrap x = x % 65536 := by simp [IntKind.wrap, IntKind.bits, IntKind.signed]
theorem parts_any (x : Nat) (w : World) (hx : x < 4294967296) :
    Calls Try.prog 20 #[.int .u32 (x : Int)] w fun e w' => e = .returned (.tuple #[.int .u16 ((x / 65536 : Nat) : Int), .int .u16 ((x % 65536 : Nat) : Int)]) ∧ w = w' := by
  have H1 := Lib.hid (show IntKind.u16.wrap (x : Int) = ((x % 65536 : Nat) : Int) by rw [wrap_u16]; omega)
  have H2 := Lib.hid (show (x : Int) / 65536 = ((x / 65536 : Nat) : Int) by omega)
  go_enter Try.func20, Try.ntmps20
  go_wp2
  go_ret2
  refine ⟨?_, rfl⟩
  rw [← H1.out, ← H2.out]
  rfl
def sg (x : Nat) : Int := if x < 32768 then (x : Int) else (x : Int) - 65536
theorem wrap_i16 (x : Nat) (hx : x < 65536) : wrap64 (IntKind.i16.wrap (x : Int)) = sg x := by
  have : IntKind.i16.wrap (x : Int) = sg x := by
    unfold sg
    simp [IntKind.wrap, IntKind.bits, IntKind.signed]
    split <;> split <;> omega
  rw [this]
  apply IntWalk.wrap64_in
  unfold sg
  split <;> omega
theorem signed_any (x : Nat) (w : World) (hx : x < 65536) :
    Calls Try.prog 22 #[.int .u16 (x : Int)] w fun e w' => e = .returned (.int .i64 (sg x)) ∧ w = w' := by
  have H := Lib.hid (wrap_i16 x hx)
  go_enter Try.func22, Try.ntmps22
  go_wp2
  go_ret
  exact ⟨ret_int H.out, rfl⟩
theorem word_any (x : Int) (w : World) (h1 : -32768 ≤ x) (h2 : x < 32768) :
    Calls Try.prog 24 #[.int .i64 x] w fun e w' => e = .returned (.tuple #[.int .u16 (((x % 65536).toNat : Nat) : Int), .bool true]) ∧ w = w' := by
  have q1 : decide (x < -32768) = false := by simp; omega
  have q2 : decide (32768 ≤ x) = false := by simp; omega
  have H := Lib.hid (show IntKind.u16.wrap x = (((x % 65536).toNat : Nat) : Int) by rw [wrap_u16]; omega)
  go_enter Try.func24, Try.ntmps24
  go_wp2
  go_ret2
  refine ⟨?_, rfl⟩
  rw [← H.out]
  rfl
theorem word_no (x : Int) (w : World) (h : x < -32768 ∨ 32768 ≤ x) :
    Calls Try.prog 24 #[.int .i64 x] w fun e w' => e = .returned (.tuple #[.int .u16 0, .bool false]) ∧ w = w' := by
  by_cases q : x < -32768
  · clear h
    go_enter Try.func24, Try.ntmps24
    go_wp2
    go_ret2
    exact ⟨rfl, rfl⟩
  · have q1 : decide (x < -32768) = false := by simp; omega
    have q2 : decide (32768 ≤ x) = true := by simp; omega
    clear h q
    go_enter Try.func24, Try.ntmps24
    go_wp2
    go_ret2
    exact ⟨rfl, rfl⟩

/-- bytes as registers -/
def regsOf (b : List Nat) : List Nat := (List.range (b.length / 2)).map fun i => 256 * b.getD (2 * i) 0 + b.getD (2 * i + 1) 0
theorem regsOf_length (b : List Nat) : (regsOf b).length = b.length / 2 := by simp [regsOf]
theorem regsOf_get (b : List Nat) {i x y : Nat} (hx : b[2 * i]? = some x) (hy : b[2 * i + 1]? = some y) : (regsOf b)[i]? = some (256 * x + y) := by
  have h : 2 * i + 1 < b.length := (List.getElem?_eq_some_iff.1 hy).1
  have hi : i < b.length / 2 := by omega
  simp [regsOf, hi, List.getD_eq_getElem?_getD, hx, hy]
theorem reg_or (x y : Nat) (hx : x < 256) (hy : y < 256) : bits .or .u16 ((x : Int) * 256) (y : Int) = ((256 * x + y : Nat) : Int) := by
  have h1 : ((x : Int) * 256) = ((x * 256 : Nat) : Int) := by omega
  rw [h1, u16_or_nat _ _ (by omega) (by omega)]
  have h2 := Nat.shiftLeft_add_eq_or_of_lt (i := 8) (b := y) hy x
  rw [Nat.shiftLeft_eq] at h2
  rw [show (256 : Nat) = 2 ^ 8 from rfl, ← h2, Nat.mul_comm]
/-- what Regs hands back -/
def GivesR (w : World) (l : List Nat) (ok : Bool) (en : Ending) (w' : World) : Prop :=
  ∃ A c, en = .returned (.tuple #[.slice A l.length c, .bool ok]) ∧ Sq (fun x : Nat => .int .u16 (x : Int)) w' w'.heap.size A l ∧ (A = none → c = 0) ∧ l.length ≤ c ∧ Below w.heap.size w w'
theorem regs_odd (A : Option Addr) (c : Nat) (b : List Nat) (w : World) (h : b.length % 2 ≠ 0) (hl : b.length ≤ 35184372088832) :
    Calls Try.prog 8 #[.slice A b.length c] w (GivesR w [] false) := by
  have q : ((b.length : Int) % 2 != 0) = true := by rw [bne_iff_ne]; omega
  go_enter Try.func8, Try.ntmps8
  go_wp2
  go_ret2
  exact ⟨none, 0, rfl, Sq.nil, fun _ => rfl, Nat.le_refl _, (by repeat (first | exact Below.refl _ _ | refine bel_later _ ?_ | refine bel_alloc ?_ _ | refine bel_set ?_ (by first | omega | (simp; done) | (simp; omega)) _ | refine Below.drew ?_ | assumption))⟩
set_option maxHeartbeats 2000000 in
theorem regs_even (A : Option Addr) (c : Nat) (b : List Nat) (w : World) (hb : Nums .u8 w w.heap.size A b) (hbb : ∀ x ∈ b, x < 256) (h : b.length % 2 = 0) (hl : b.length ≤ 35184372088832) :
    Calls Try.prog 8 #[.slice A b.length c] w (GivesR w (regsOf b) true) := by
  obtain ⟨i0, hi, hz0, hz1, hz2⟩ := info_parts info_u16
  obtain ⟨m, hm⟩ : ∃ m, b.length = 2 * m := ⟨b.length / 2, by omega⟩
  have q : ((b.length : Int) % 2 != 0) = false := by rw [bne_eq_false_iff_eq]; omega
  have H2 := Lib.hid (show (b.length : Int) / 2 = (m : Int) by omega)
  have hm1 : 2 * m ≤ b.length := by omega
  have hm2 : m ≤ 35184372088832 := by omega
  have hXl : (regsOf b).length = m := by rw [regsOf_length]; omega
  have HL := Lib.hid hXl
  have hXm : m ≤ (regsOf b).length := by omega
  clear hm h hXl
  go_enter Try.func8, Try.ntmps8
  go_wp2_with (at_make; refine wpList_make_full _ rfl _ _ 24 rfl w.heap.size 36 i0 (.int .u16 0) 1 Try.underlying24 hi hz0 hz1 _ _ _ _ m rfl rfl (by exact H2.out) (by exact H2.out) ?c1 ?c2 ?c3 ?_)
  case c1 => rw [hz2]; omega
  case c2 => unfold maxLen; omega
  case c3 => exact Nat.le_refl _
  intro w1 hown hg
  have hb1 : Below w.heap.size w w1 := (Below.refl _ _).grown hg (Nat.le_refl _) (by simp)
  rw [made_int, ← fillD_zero 0 (regsOf b) m] at hown
  clear hg
  go_wp2
  go_loopw [16] (fun i wr => ∃ k : Nat, k ≤ m ∧ i = .int .i64 k ∧ wr.ownsRow w.heap.size 36 1 (.slice (some ⟨w.heap.size, 0, none⟩) m m) m ((fillD 0 (regsOf b) m k).map (fun x : Nat => Value.int .u16 (x : Int))) ∧ Below w.heap.size w wr)
    (fun i _ => m - (intOf i).toNat)
  case atStart => exact ⟨0, by omega, rfl, hown, hb1⟩
  case round =>
    clear hown hb1
    obtain ⟨k, hk, rfl, hown, hbe⟩ := hrel
    by_cases hlt : k < m
    · obtain ⟨b2, o2, hA2, hbw2, hcl⟩ := hb (by omega)
      subst hA2
      obtain ⟨x, hx⟩ : ∃ x, b[2 * k]? = some x := ⟨_, List.getElem?_eq_getElem (by omega)⟩
      obtain ⟨y, hy⟩ : ∃ y, b[2 * k + 1]? = some y := ⟨_, List.getElem?_eq_getElem (by omega)⟩
      have d1 : wr.cell? ⟨b2, o2 + 2 * k, none⟩ = some (.int .u8 (x : Int)) := (hbe.cell (p := ⟨b2, o2 + 2 * k, none⟩) hbw2).trans (hcl _ x hx)
      have d2 : wr.cell? ⟨b2, o2 + (2 * k + 1), none⟩ = some (.int .u8 (y : Int)) := (hbe.cell (p := ⟨b2, o2 + (2 * k + 1), none⟩) hbw2).trans (hcl _ y hy)
      have hxl := hbb x (List.mem_of_getElem? hx)
      have hyl := hbb y (List.mem_of_getElem? hy)
      have hfl := fillD_length (d := 0) (X := regsOf b) (n := m) (k := k) hk hXm
      obtain ⟨u, hu⟩ : ∃ u, (fillD 0 (regsOf b) m k)[k]? = some u := ⟨_, List.getElem?_eq_getElem (by omega)⟩
      have d0 : wr.cell? ⟨w.heap.size, k, none⟩ = some (.int .u16 (u : Int)) := (hown.cellAt _ (by omega)).trans (map_get hu)
      have f0 := hown.frozenAt k
      have HB := Lib.hid (reg_or x y hxl hyl)
      have HP := Lib.hid (fillD_step (d := 0) (n := m) hlt (regsOf_get b hx hy))
      have e4 : (k : Int) < (m : Int) := by omega
      have e5 : 2 * (k : Int) < (b.length : Int) := by omega
      have e6 : 2 * (k : Int) + 1 < (b.length : Int) := by omega
      have e7 : (0 : Int) ≤ 2 * (k : Int) := by omega
      clear hx hy hu hfl hcl
      go_wp2
      go_region
      go_wp2
      go_roundw
      case rel =>
        refine ⟨k + 1, by omega, by go_num, ?_, (hbe.setCell (Nat.le_refl _) _).drew⟩
        have hs := (hown.stored k (.int .u16 ((256 * x + y : Nat) : Int))).1
        have hs2 : (wr.setCell ⟨w.heap.size, k, none⟩ (.int .u16 ((256 * x + y : Nat) : Int))).ownsRow w.heap.size 36 1 (.slice (some ⟨w.heap.size, 0, none⟩) m m) m ((fillD 0 (regsOf b) m (k + 1)).map (fun x : Nat => Value.int .u16 (x : Int))) := by
          rw [← HP.out, List.map_set]; exact hs
        rw [HB.out]
        exact hs2.drew
      case measure => simp [intOf]; omega
    · have hkm : k = m := by omega
      subst hkm
      rw [fillD_all, List.take_of_length_le (by have := HL.out; omega)] at hown
      go_wp2
      go_ret2
      refine ⟨some ⟨w.heap.size, 0, none⟩, k, by rw [HL.out]; rfl, Sq.of_own hown, by simp, by have := HL.out; omega, hbe⟩
end Go.Proofs.Ytfdbajalhnenhaa
