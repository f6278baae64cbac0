/- The walks of package words. -/
import Derived.Test.YtfdbajalhnenhaaCmp
import Derived.Test.YtfdbajalhnenhaaBitLaw
import Derived.Test.YtfdbajalhnenhaaPack
import Derived.BigRegion
namespace Go.Proofs.Ytfdbajalhnenhaa
open Go.RowKit
set_option linter.unusedVariables false
attribute [local go_sem] Later.cell Later.frozen setCell_twice
theorem info_bool : (Try.prog.info? 4).map (fun i => (i.zero, i.size, i.bytes)) = some (some (.bool false), 1, 1) := by kernel_rfl
theorem info_u16 : (Try.prog.info? 36).map (fun i => (i.zero, i.size, i.bytes)) = some (some (.int .u16 0), 1, 2) := by kernel_rfl
theorem made_int (k : IntKind) (N : Nat) : (madeCells #[Value.int k 0] N).toList = (List.replicate N 0).map (fun x : Nat => Value.int k (x : Int)) := made_map (fun x : Nat => Value.int k (x : Int)) 0 N
theorem pow8 (k : Nat) : ((2 : Int) ^ (k % 8) % 256) = ((2 ^ (k % 8) : Nat) : Int) := by
  have h : ∀ j : Fin 8, ((2 : Int) ^ j.val % 256) = ((2 ^ j.val : Nat) : Int) := by decide
  exact h ⟨k % 8, by omega⟩
theorem pow8_lt (k : Nat) : 2 ^ (k % 8) < 256 := Nat.pow_lt_pow_right (a := 2) (n := 8) (by omega) (by omega)

/-- as Gives, and the row is the call's own -/
def GivesO {α : Type} (f : α → Value) (e : TypeId) (w : World) (l : List α) (en : Ending) (w' : World) : Prop :=
  ∃ A c, en = .returned (.slice A l.length c) ∧ w'.ownsRow w.heap.size e 1 (.slice A l.length c) l.length (l.map f) ∧ Below w.heap.size w w'
theorem GivesO.of_own {α : Type} {f : α → Value} {w w' : World} {l : List α} {e : TypeId} {A : Option Addr} {n c : Nat} (hn : l.length = n) (h : w'.ownsRow w.heap.size e 1 (.slice A n c) n (l.map f)) (hb : Below w.heap.size w w') : GivesO f e w l (.returned (.slice A n c)) w' := by
  subst hn
  exact ⟨A, c, rfl, h, hb⟩
theorem GivesO.gives {α : Type} {f : α → Value} {w w' : World} {l : List α} {e : TypeId} {en : Ending} (h : GivesO f e w l en w') : Gives f w l en w' := by
  obtain ⟨A, c, he, ho, hb⟩ := h
  subst he
  exact Gives.of_own rfl ho hb
set_option maxHeartbeats 2000000 in
theorem packBits_own (A : Option Addr) (c : Nat) (l : List Bool) (w : World) (h : Sq Value.bool w w.heap.size A l) (hn : l.length ≤ 35184372088832) :
    Calls Try.prog 14 #[.slice A l.length c] w (GivesO (fun x : Nat => .int .u8 (x : Int)) 5 w (Bt.packBits l)) := by
  obtain ⟨i0, hi, hz0, hz1, hz2⟩ := info_parts info_byte
  obtain ⟨N, hN⟩ : ∃ N, N = Bt.many l.length := ⟨_, rfl⟩
  have HN := Lib.hid hN
  have hN1 : 8 * N < l.length + 8 ∧ l.length ≤ 8 * N := by unfold Bt.many at hN; omega
  clear hN
  by_cases h8 : l.length % 8 = 0
  · have h8' : decide (0 < (l.length : Int) % 8) = false := by simp; omega
    have hq : (l.length : Int) / 8 = (N : Int) := by omega
    have hq1 : (N : Int) ≤ 35184372088832 := by omega
    have HQ := Lib.hid hq
    clear h8 hq
    go_enter Try.func14, Try.ntmps14
    go_wp2_with (at_make; refine wpList_make_full _ rfl _ _ 22 rfl w.heap.size 5 i0 (.int .u8 0) 1 Try.underlying22 hi hz0 hz1 _ _ _ _ N rfl rfl (by exact HQ.out) (by exact HQ.out) ?c11 ?c21 ?c31 ?_)
    case c11 => rw [hz2]; omega
    case c21 => unfold maxLen; omega
    case c31 => exact Nat.le_refl _
    intro w1 hown hg
    have hb1 : Below w.heap.size w w1 := (Below.refl _ _).grown hg (Nat.le_refl _) (by simp)
    rw [made_int, ← Bt.packN_nil] at hown
    clear hg
    go_wp2
    go_loopw [19] (fun i wr => ∃ k : Nat, k ≤ l.length ∧ i = .int .i64 k ∧ wr.ownsRow w.heap.size 5 1 (.slice (some ⟨w.heap.size, 0, none⟩) N N) N ((Bt.packN (l.take k) N).map (fun x : Nat => Value.int .u8 (x : Int))) ∧ Below w.heap.size w wr)
      (fun i _ => l.length - (intOf i).toNat)
    case atStart => exact ⟨0, by omega, rfl, hown, hb1⟩
    case round =>
      clear hown hb1
      obtain ⟨k, hk, rfl, hown, hbe⟩ := hrel
      by_cases hlt : k < l.length
      · obtain ⟨b, o, x, rfl, hbw, hx, hc0⟩ := h.at_ hlt
        have hc : wr.cell? ⟨b, o + k, none⟩ = some (.bool x) := (hbe.cell (p := ⟨b, o + k, none⟩) hbw).trans hc0
        have hgx : l.getD k false = x := by rw [List.getD_eq_getElem?_getD, hx]; rfl
        have e4 : (k : Int) < (l.length : Int) := by omega
        cases x
        · have HP := Lib.hid (Bt.packN_skip l (i := k) (N := N) hgx)
          clear hgx hx hc0
          go_wp2
          go_roundw
          case rel => exact ⟨k + 1, by omega, by go_num, by rw [HP.out]; exact hown, hbe⟩
          case measure => simp [intOf]; omega
        · have hkN : k / 8 < N := by omega
          have HP := Lib.hid (Bt.packN_set l (i := k) (N := N) hgx hkN)
          have hy := Bt.packN_get (l.take k) hkN
          have hyl := Bt.byteOf_lt (l.take k) (k / 8)
          have d0 : wr.cell? ⟨w.heap.size, k / 8, none⟩ = some (.int .u8 ((Bt.byteOf (l.take k) (k / 8) : Nat) : Int)) := (hown.cellAt _ (by omega)).trans (map_get hy)
          have f0 := hown.frozenAt (k / 8)
          generalize Bt.byteOf (l.take k) (k / 8) = y at *
          clear hgx hx hc0 hy
          have e5 : (k : Int) / 8 < (N : Int) := by omega
          have e6 : (0 : Int) ≤ (k : Int) / 8 := by omega
          go_wp2
          go_region
          go_wp2
          go_roundw
          case rel =>
            refine ⟨k + 1, by omega, by go_num, ?_, (hbe.setCell (Nat.le_refl _) _).drew⟩
            have hs := (hown.stored (k / 8) (.int .u8 ((y ||| 2 ^ (k % 8) : Nat) : Int))).1
            have he : bits .or .u8 (y : Int) (2 ^ (k % 8) % 256) = ((y ||| 2 ^ (k % 8) : Nat) : Int) := by
              rw [pow8]
              exact u8_or_nat _ _ hyl (pow8_lt k)
            rw [he, HP.out, List.map_set]
            exact hs.drew
          case measure => simp [intOf]; omega
      · have hkl : k = l.length := by omega
        subst hkl
        rw [List.take_length] at hown
        have HE := Lib.hid (show Bt.packN l N = Bt.packBits l by rw [HN.out]; rfl)
        have HL := Lib.hid (show (Bt.packBits l).length = N by rw [Bt.packBits_length]; exact HN.out.symm)
        rw [HE.out] at hown
        go_wp2
        go_ret
        exact GivesO.of_own HL.out hown hbe
  · have h8' : decide (0 < (l.length : Int) % 8) = true := by simp; omega
    have hq : (l.length : Int) / 8 + 1 = (N : Int) := by omega
    have hq1 : (N : Int) ≤ 35184372088832 := by omega
    have HQ := Lib.hid hq
    clear h8 hq
    go_enter Try.func14, Try.ntmps14
    go_wp2_with (at_make; refine wpList_make_full _ rfl _ _ 22 rfl w.heap.size 5 i0 (.int .u8 0) 1 Try.underlying22 hi hz0 hz1 _ _ _ _ N rfl rfl (by exact HQ.out) (by exact HQ.out) ?c12 ?c22 ?c32 ?_)
    case c12 => rw [hz2]; omega
    case c22 => unfold maxLen; omega
    case c32 => exact Nat.le_refl _
    intro w1 hown hg
    have hb1 : Below w.heap.size w w1 := (Below.refl _ _).grown hg (Nat.le_refl _) (by simp)
    rw [made_int, ← Bt.packN_nil] at hown
    clear hg
    go_wp2
    go_loopw [19] (fun i wr => ∃ k : Nat, k ≤ l.length ∧ i = .int .i64 k ∧ wr.ownsRow w.heap.size 5 1 (.slice (some ⟨w.heap.size, 0, none⟩) N N) N ((Bt.packN (l.take k) N).map (fun x : Nat => Value.int .u8 (x : Int))) ∧ Below w.heap.size w wr)
      (fun i _ => l.length - (intOf i).toNat)
    case atStart => exact ⟨0, by omega, rfl, hown, hb1⟩
    case round =>
      clear hown hb1
      obtain ⟨k, hk, rfl, hown, hbe⟩ := hrel
      by_cases hlt : k < l.length
      · obtain ⟨b, o, x, rfl, hbw, hx, hc0⟩ := h.at_ hlt
        have hc : wr.cell? ⟨b, o + k, none⟩ = some (.bool x) := (hbe.cell (p := ⟨b, o + k, none⟩) hbw).trans hc0
        have hgx : l.getD k false = x := by rw [List.getD_eq_getElem?_getD, hx]; rfl
        have e4 : (k : Int) < (l.length : Int) := by omega
        cases x
        · have HP := Lib.hid (Bt.packN_skip l (i := k) (N := N) hgx)
          clear hgx hx hc0
          go_wp2
          go_roundw
          case rel => exact ⟨k + 1, by omega, by go_num, by rw [HP.out]; exact hown, hbe⟩
          case measure => simp [intOf]; omega
        · have hkN : k / 8 < N := by omega
          have HP := Lib.hid (Bt.packN_set l (i := k) (N := N) hgx hkN)
          have hy := Bt.packN_get (l.take k) hkN
          have hyl := Bt.byteOf_lt (l.take k) (k / 8)
          have d0 : wr.cell? ⟨w.heap.size, k / 8, none⟩ = some (.int .u8 ((Bt.byteOf (l.take k) (k / 8) : Nat) : Int)) := (hown.cellAt _ (by omega)).trans (map_get hy)
          have f0 := hown.frozenAt (k / 8)
          generalize Bt.byteOf (l.take k) (k / 8) = y at *
          clear hgx hx hc0 hy
          have e5 : (k : Int) / 8 < (N : Int) := by omega
          have e6 : (0 : Int) ≤ (k : Int) / 8 := by omega
          go_wp2
          go_region
          go_wp2
          go_roundw
          case rel =>
            refine ⟨k + 1, by omega, by go_num, ?_, (hbe.setCell (Nat.le_refl _) _).drew⟩
            have hs := (hown.stored (k / 8) (.int .u8 ((y ||| 2 ^ (k % 8) : Nat) : Int))).1
            have he : bits .or .u8 (y : Int) (2 ^ (k % 8) % 256) = ((y ||| 2 ^ (k % 8) : Nat) : Int) := by
              rw [pow8]
              exact u8_or_nat _ _ hyl (pow8_lt k)
            rw [he, HP.out, List.map_set]
            exact hs.drew
          case measure => simp [intOf]; omega
      · have hkl : k = l.length := by omega
        subst hkl
        rw [List.take_length] at hown
        have HE := Lib.hid (show Bt.packN l N = Bt.packBits l by rw [HN.out]; rfl)
        have HL := Lib.hid (show (Bt.packBits l).length = N by rw [Bt.packBits_length]; exact HN.out.symm)
        rw [HE.out] at hown
        go_wp2
        go_ret
        exact GivesO.of_own HL.out hown hbe
theorem packBits_any (A : Option Addr) (c : Nat) (l : List Bool) (w : World) (h : Sq Value.bool w w.heap.size A l) (hn : l.length ≤ 35184372088832) :
    Calls Try.prog 14 #[.slice A l.length c] w (Gives (fun x : Nat => .int .u8 (x : Int)) w (Bt.packBits l)) := (packBits_own A c l w h hn).mono fun _ _ h => h.gives

theorem shr8 (x k : Nat) : ((x : Int) / 2 ^ (k % 8)) = ((x / 2 ^ (k % 8) : Nat) : Int) := by simp
theorem bit8 (x k : Nat) (h : x < 256) : (bits .and .u8 ((x : Int) / 2 ^ (k % 8)) 1 == 1) = x.testBit (k % 8) := by
  rw [shr8]
  have := u8_and_nat (x / 2 ^ (k % 8)) 1 (Nat.lt_of_le_of_lt (Nat.div_le_self _ _) h) (by decide)
  rw [nat_mask1] at this
  rw [show ((1 : Nat) : Int) = 1 from rfl] at this
  rw [this, Nat.testBit_eq_decide_div_mod_eq]
  by_cases hc : x / 2 ^ (k % 8) % 2 = 1
  · rw [hc]; simp
  · rw [decide_eq_false hc, beq_eq_false_iff_ne]; omega

set_option maxHeartbeats 2000000 in
theorem bits_no (A : Option Addr) (c : Nat) (b : List Nat) (n : Int) (w : World) (hb : Nums .u8 w w.heap.size A b) (hbb : ∀ x ∈ b, x < 256) (hl : b.length ≤ 35184372088832) (hno : ¬ (0 ≤ n ∧ Bt.okB b n.toNat = true)) (h2 : -9223372036854775808 ≤ n) (h3 : n ≤ 9223372036854775807) :
    Calls Try.prog 11 #[.slice A b.length c, .int .i64 n] w fun e w' => e = .returned (.slice none 0 0) ∧ Below w.heap.size w w' := by
  by_cases hn : n < 0
  · clear hno
    go_enter Try.func11, Try.ntmps11
    go_wp2
    go_ret
    exact ⟨rfl, (by repeat (first | exact Below.refl _ _ | refine bel_later _ ?_ | refine bel_alloc ?_ _ | refine bel_set ?_ (by first | omega | (simp; done) | (simp; omega)) _ | refine Below.drew ?_ | assumption))⟩
  have q0 : decide (n < 0) = false := by simp; omega
  by_cases h1 : 8 * (b.length : Int) < n
  · clear hno
    have q1 : decide (8 * (b.length : Int) < n) = true := by simpa using h1
    go_enter Try.func11, Try.ntmps11
    go_wp2
    go_ret
    exact ⟨rfl, (by repeat (first | exact Below.refl _ _ | refine bel_later _ ?_ | refine bel_alloc ?_ _ | refine bel_set ?_ (by first | omega | (simp; done) | (simp; omega)) _ | refine Below.drew ?_ | assumption))⟩
  have q1 : decide (8 * (b.length : Int) < n) = false := by simp; omega
  by_cases h8 : 8 ≤ 8 * (b.length : Int) - n
  · clear hno
    have q2 : decide (8 ≤ 8 * (b.length : Int) - n) = true := by simpa using h8
    go_enter Try.func11, Try.ntmps11
    go_wp2
    go_ret
    exact ⟨rfl, (by repeat (first | exact Below.refl _ _ | refine bel_later _ ?_ | refine bel_alloc ?_ _ | refine bel_set ?_ (by first | omega | (simp; done) | (simp; omega)) _ | refine Below.drew ?_ | assumption))⟩
  have q2 : decide (8 ≤ 8 * (b.length : Int) - n) = false := by simp; omega
  obtain ⟨m, rfl⟩ := Int.eq_ofNat_of_zero_le (show 0 ≤ n by omega)
  simp only [Int.toNat_natCast] at hno
  have hmod : ¬ m % 8 = 0 := by
    intro h
    apply hno
    refine ⟨by omega, ?_⟩
    unfold Bt.okB
    simp [h]
    omega
  have hlen : 0 < b.length := by omega
  obtain ⟨bb, o, x, rfl, hbw, hx, hc⟩ := hb.at_ (show b.length - 1 < b.length by omega)
  have hxv : b.getD (b.length - 1) 0 = x := by rw [List.getD_eq_getElem?_getD, hx]; rfl
  have hnz : x / 2 ^ (m % 8) ≠ 0 := by
    intro h
    apply hno
    refine ⟨by omega, ?_⟩
    unfold Bt.okB
    rw [hxv, h]
    simp
    omega
  have hxl := hbb x (List.mem_of_getElem? hx)
  have q3 : decide (0 < (m : Int) % 8) = true := by simp; omega
  have q4 : ((x : Int) / 2 ^ (m % 8) != 0) = true := by rw [shr8, bne_iff_ne]; omega
  have e1 : (0 : Int) ≤ (b.length : Int) - 1 := by omega
  have e2 : (1 : Int) ≤ (b.length : Int) := by omega
  clear hno hmod hnz hx hxv
  go_enter Try.func11, Try.ntmps11
  go_wp2
  go_ret
  exact ⟨rfl, (by repeat (first | exact Below.refl _ _ | refine bel_later _ ?_ | refine bel_alloc ?_ _ | refine bel_set ?_ (by first | omega | (simp; done) | (simp; omega)) _ | refine Below.drew ?_ | assumption))⟩
end Go.Proofs.Ytfdbajalhnenhaa
