/- The comparisons of rows of words: saucierlow.Words, slices.Equal. -/
import Derived.Test.YtkilpiiljpeamaaBank
namespace Go.Proofs.Ytkilpiiljpeamaa
open Go.RowKit
set_option linter.unusedVariables false
attribute [local go_sem] Later.cell Later.frozen setCell_twice

set_option maxHeartbeats 1000000 in
theorem lowWords_all (A B : Option Addr) (la lb : List Nat) (ca cb : Nat) (w : World) (ha : Sq (fun x : Nat => .int .u16 (x : Int)) w w.heap.size A la) (hb : Sq (fun x : Nat => .int .u16 (x : Int)) w w.heap.size B lb) (hn : la.length ≤ 140737488355328) :
    Calls Try.prog 11 #[.slice A la.length ca, .slice B lb.length cb] w fun e w' => e = .returned (.bool (decide (la = lb))) ∧ Below w.heap.size w w' := by
  by_cases hl : la.length = lb.length
  · have hl' : ((la.length : Int) != (lb.length : Int)) = false := by rw [bne_eq_false_iff_eq]; omega
    have HL := Lib.hid hl
    clear hl
    go_enter Try.func11, Try.ntmps11
    go_wp2
    go_loopw [13] (fun i wr => ∃ k : Nat, k ≤ la.length ∧ i = .int .i64 k ∧ la.take k = lb.take k ∧ Below w.heap.size w wr) (fun i _ => la.length - (intOf i).toNat)
    case atStart => exact ⟨0, by omega, rfl, by simp, Below.refl _ _⟩
    case round =>
      obtain ⟨k, hk, rfl, heq, hbel⟩ := hrel
      have HQ := Lib.hid heq
      clear heq
      by_cases hlt : k < la.length
      · have hlt2 : k < lb.length := by have := HL.out; omega
        obtain ⟨b1, o1, x, rfl, hb1, hx, hc1⟩ := ha.at_ hlt
        obtain ⟨b2, o2, y, rfl, hb2, hy, hc2⟩ := hb.at_ hlt2
        have d1 : wr.cell? ⟨b1, o1 + k, none⟩ = _ := (hbel.cell (p := ⟨b1, o1 + k, none⟩) hb1).trans hc1
        have d2 : wr.cell? ⟨b2, o2 + k, none⟩ = _ := (hbel.cell (p := ⟨b2, o2 + k, none⟩) hb2).trans hc2
        have g1 : b1 < wr.heap.size := Nat.lt_of_lt_of_le hb1 hbel.size
        have g2 : b2 < wr.heap.size := Nat.lt_of_lt_of_le hb2 hbel.size
        have e1 : (k : Int) < (la.length : Int) := by omega
        have e2 : (k : Int) < (lb.length : Int) := by omega
        have HX := Lib.hid hx
        have HY := Lib.hid hy
        clear hc1 hc2 hx hy
        try simp only at d1 d2
        by_cases hxy : x = y
        · subst hxy
          go_wp2
          refine wp_region_lat (by kernel_rfl) (by kernel_rfl) ?_
          repeat (go_big_quiet_step (fail))
          refine wpQuiet_nil ?_
          rintro _ ⟨x3, rfl⟩
          have hz_x3 := x3.bel.size
          try simp at hz_x3
          go_wp2
          go_roundw
          case rel => exact ⟨k + 1, by omega, by go_num, by rw [List.take_add_one, List.take_add_one, HQ.out, HX.out, HY.out], (by repeat (first | with_reducible exact Below.refl _ _ | with_reducible refine bel_later _ ?_ | with_reducible refine bel_alloc ?_ _ | refine bel_set ?_ (by first | omega | (simp; done) | (simp; omega)) _ | with_reducible refine Below.drew ?_ | with_reducible refine bel_drewN ?_ _ | with_reducible assumption | assumption))⟩
          case measure => simp [intOf]; omega
        · have hne : la ≠ lb := by
            intro h
            have h1 := HX.out
            rw [h, HY.out] at h1
            exact hxy (by simpa using h1.symm)
          have HD := Lib.hid (show decide (la = lb) = false by simpa using hne)
          have hxy' : ((x : Int) != (y : Int)) = true := by rw [bne_iff_ne]; omega
          clear hne
          go_wp2
          refine wp_region_lat (by kernel_rfl) (by kernel_rfl) ?_
          repeat (go_big_quiet_step (fail))
          refine wpQuiet_nil ?_
          rintro _ ⟨x3, rfl⟩
          have hz_x3 := x3.bel.size
          try simp at hz_x3
          go_wp2
          go_ret
          exact ⟨by rw [HD.out]; rfl, (by repeat (first | with_reducible exact Below.refl _ _ | with_reducible refine bel_later _ ?_ | with_reducible refine bel_alloc ?_ _ | refine bel_set ?_ (by first | omega | (simp; done) | (simp; omega)) _ | with_reducible refine Below.drew ?_ | with_reducible refine bel_drewN ?_ _ | with_reducible assumption | assumption))⟩
      · have hkl : k = la.length := by omega
        have HD : Hid (decide (la = lb) = true) := Lib.hid <| by
          have h1 := HQ.out
          rw [List.take_of_length_le (by omega), List.take_of_length_le (by have := HL.out; omega)] at h1
          simpa using h1
        go_wp2
        go_ret
        exact ⟨by rw [HD.out]; rfl, hbel⟩
  · have hl' : ((la.length : Int) != (lb.length : Int)) = true := by rw [bne_iff_ne]; omega
    have hd : decide (la = lb) = false := by simp; intro h; exact hl (by rw [h])
    rw [hd]
    clear hl hd
    go_enter Try.func11, Try.ntmps11
    go_wp2
    go_ret
    exact ⟨rfl, (by repeat (first | with_reducible exact Below.refl _ _ | with_reducible refine bel_later _ ?_ | with_reducible refine bel_alloc ?_ _ | refine bel_set ?_ (by first | omega | (simp; done) | (simp; omega)) _ | with_reducible refine Below.drew ?_ | with_reducible refine bel_drewN ?_ _ | with_reducible assumption | assumption))⟩
theorem lowWords_any (A B : Option Addr) (la lb : List Nat) (ca cb ma mb : Nat) (r : Bool) (w : World) (hma : la.length = ma) (hmb : lb.length = mb) (ha : Sq u16w w w.heap.size A la) (hb : Sq u16w w w.heap.size B lb) (hn : la.length ≤ 140737488355328) (hr : decide (la = lb) = r) :
    Calls Try.prog 11 #[.slice A ma ca, .slice B mb cb] w fun e w' => e = .returned (.bool r) ∧ Below w.heap.size w w' := by
  subst hma hmb hr
  exact lowWords_all A B la lb ca cb w ha hb hn
set_option maxHeartbeats 1000000 in
theorem eqlWords_all (A B : Option Addr) (la lb : List Nat) (ca cb : Nat) (w : World) (ha : Sq (fun x : Nat => .int .u16 (x : Int)) w w.heap.size A la) (hb : Sq (fun x : Nat => .int .u16 (x : Int)) w w.heap.size B lb) (hn : la.length ≤ 140737488355328) :
    Calls Try.prog 32 #[.slice A la.length ca, .slice B lb.length cb] w fun e w' => e = .returned (.bool (decide (la = lb))) ∧ Below w.heap.size w w' := by
  by_cases hl : la.length = lb.length
  · have hl' : ((la.length : Int) != (lb.length : Int)) = false := by rw [bne_eq_false_iff_eq]; omega
    have HL := Lib.hid hl
    clear hl
    go_enter Try.func32, Try.ntmps32
    go_wp2
    go_loopw [13] (fun i wr => ∃ k : Nat, k ≤ la.length ∧ i = .int .i64 k ∧ la.take k = lb.take k ∧ Below w.heap.size w wr) (fun i _ => la.length - (intOf i).toNat)
    case atStart => exact ⟨0, by omega, rfl, by simp, Below.refl _ _⟩
    case round =>
      obtain ⟨k, hk, rfl, heq, hbel⟩ := hrel
      have HQ := Lib.hid heq
      clear heq
      by_cases hlt : k < la.length
      · have hlt2 : k < lb.length := by have := HL.out; omega
        obtain ⟨b1, o1, x, rfl, hb1, hx, hc1⟩ := ha.at_ hlt
        obtain ⟨b2, o2, y, rfl, hb2, hy, hc2⟩ := hb.at_ hlt2
        have d1 : wr.cell? ⟨b1, o1 + k, none⟩ = _ := (hbel.cell (p := ⟨b1, o1 + k, none⟩) hb1).trans hc1
        have d2 : wr.cell? ⟨b2, o2 + k, none⟩ = _ := (hbel.cell (p := ⟨b2, o2 + k, none⟩) hb2).trans hc2
        have g1 : b1 < wr.heap.size := Nat.lt_of_lt_of_le hb1 hbel.size
        have g2 : b2 < wr.heap.size := Nat.lt_of_lt_of_le hb2 hbel.size
        have e1 : (k : Int) < (la.length : Int) := by omega
        have e2 : (k : Int) < (lb.length : Int) := by omega
        have HX := Lib.hid hx
        have HY := Lib.hid hy
        clear hc1 hc2 hx hy
        try simp only at d1 d2
        by_cases hxy : x = y
        · subst hxy
          go_wp2
          refine wp_region_lat (by kernel_rfl) (by kernel_rfl) ?_
          repeat (go_big_quiet_step (fail))
          refine wpQuiet_nil ?_
          rintro _ ⟨x3, rfl⟩
          have hz_x3 := x3.bel.size
          try simp at hz_x3
          go_wp2
          go_roundw
          case rel => exact ⟨k + 1, by omega, by go_num, by rw [List.take_add_one, List.take_add_one, HQ.out, HX.out, HY.out], (by repeat (first | with_reducible exact Below.refl _ _ | with_reducible refine bel_later _ ?_ | with_reducible refine bel_alloc ?_ _ | refine bel_set ?_ (by first | omega | (simp; done) | (simp; omega)) _ | with_reducible refine Below.drew ?_ | with_reducible refine bel_drewN ?_ _ | with_reducible assumption | assumption))⟩
          case measure => simp [intOf]; omega
        · have hne : la ≠ lb := by
            intro h
            have h1 := HX.out
            rw [h, HY.out] at h1
            exact hxy (by simpa using h1.symm)
          have HD := Lib.hid (show decide (la = lb) = false by simpa using hne)
          have hxy' : ((x : Int) != (y : Int)) = true := by rw [bne_iff_ne]; omega
          clear hne
          go_wp2
          refine wp_region_lat (by kernel_rfl) (by kernel_rfl) ?_
          repeat (go_big_quiet_step (fail))
          refine wpQuiet_nil ?_
          rintro _ ⟨x3, rfl⟩
          have hz_x3 := x3.bel.size
          try simp at hz_x3
          go_wp2
          go_ret
          exact ⟨by rw [HD.out]; rfl, (by repeat (first | with_reducible exact Below.refl _ _ | with_reducible refine bel_later _ ?_ | with_reducible refine bel_alloc ?_ _ | refine bel_set ?_ (by first | omega | (simp; done) | (simp; omega)) _ | with_reducible refine Below.drew ?_ | with_reducible refine bel_drewN ?_ _ | with_reducible assumption | assumption))⟩
      · have hkl : k = la.length := by omega
        have HD : Hid (decide (la = lb) = true) := Lib.hid <| by
          have h1 := HQ.out
          rw [List.take_of_length_le (by omega), List.take_of_length_le (by have := HL.out; omega)] at h1
          simpa using h1
        go_wp2
        go_ret
        exact ⟨by rw [HD.out]; rfl, hbel⟩
  · have hl' : ((la.length : Int) != (lb.length : Int)) = true := by rw [bne_iff_ne]; omega
    have hd : decide (la = lb) = false := by simp; intro h; exact hl (by rw [h])
    rw [hd]
    clear hl hd
    go_enter Try.func32, Try.ntmps32
    go_wp2
    go_ret
    exact ⟨rfl, (by repeat (first | with_reducible exact Below.refl _ _ | with_reducible refine bel_later _ ?_ | with_reducible refine bel_alloc ?_ _ | refine bel_set ?_ (by first | omega | (simp; done) | (simp; omega)) _ | with_reducible refine Below.drew ?_ | with_reducible refine bel_drewN ?_ _ | with_reducible assumption | assumption))⟩
theorem eqlWords_any (A B : Option Addr) (la lb : List Nat) (ca cb ma mb : Nat) (r : Bool) (w : World) (hma : la.length = ma) (hmb : lb.length = mb) (ha : Sq u16w w w.heap.size A la) (hb : Sq u16w w w.heap.size B lb) (hn : la.length ≤ 140737488355328) (hr : decide (la = lb) = r) :
    Calls Try.prog 32 #[.slice A ma ca, .slice B mb cb] w fun e w' => e = .returned (.bool r) ∧ Below w.heap.size w w' := by
  subst hma hmb hr
  exact eqlWords_all A B la lb ca cb w ha hb hn
end Go.Proofs.Ytkilpiiljpeamaa
