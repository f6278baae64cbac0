/- The walks of saucierlow.Light, Ints, SameBlocks, Bank (seats without stages). -/
import Derived.Test.YtkilpiiljpeamaaCmpW
import Derived.Test.YtkilpiiljpeamaaCopyW
import Derived.Test.YtkilpiiljpeamaaRf17s
namespace Go.Proofs.Ytkilpiiljpeamaa
open Go.RowKit
set_option linter.unusedVariables false
attribute [local go_sem] Later.cell Later.frozen setCell_twice
def light (l : List Blk) : Bool := decide ((∀ b ∈ l, b.ws.length ≤ 100) ∧ l.length ≤ 40)
set_option maxHeartbeats 400000 in
theorem light_any (A : Option Addr) (l : List Blk) (c n : Nat) (r : Bool) (w : World) (hn : l.length = n) (h : Blks w w.heap.size A l) (hnc : n ≤ c) (hc : c ≤ 9223372036854775807) (hr : light l = r) :
    Calls Try.prog 16 #[.slice A n c] w fun e w' => e = .returned (.bool r) ∧ Below w.heap.size w w' := by
  have HR := Lib.hid hr
  have HN := Lib.hid hn
  have HB := Lib.hid h
  clear hr hn h
  go_enter Try.func16, Try.ntmps16
  go_wp2
  go_loopw [7] (fun i wr => ∃ k : Nat, k ≤ n ∧ i = .int .i64 k ∧ Hid (∀ b ∈ l.take k, b.ws.length ≤ 100) ∧ Below w.heap.size w wr) (fun i _ => n - (intOf i).toNat)
  case atStart => exact ⟨0, by omega, rfl, Lib.hid (by simp), Below.refl _ _⟩
  case round =>
    obtain ⟨k, hk, rfl, hall, hbe⟩ := hrel
    by_cases hlt : k < n
    · obtain ⟨g, o, b, rfl, hg, hb, hok, d0, d1⟩ := (HB.out.below hbe).at_ (k := k) (by rw [HN.out]; exact hlt)
      have hltI : (k : Int) < (n : Int) := by omega
      have h0I : (0 : Int) ≤ (k : Int) := by omega
      have BE := Lib.hid hbe
      have HBK := Lib.hid hb
      have hgr : g < wr.heap.size := Nat.lt_of_lt_of_le hg hbe.size
      clear hok hb hbe
      by_cases h1 : 100 < b.ws.length
      · have g1 : decide ((100 : Int) < (b.ws.length : Int)) = true := decide_eq_true (by omega)
        obtain rfl : r = false := by
          rw [← HR.out]
          refine decide_eq_false (fun q => ?_)
          have := q.1 b (List.mem_of_getElem? HBK.out)
          omega
        go_wp2
        go_ret
        exact ⟨rfl, bel_alloc BE.out _⟩
      · have g1 : decide ((100 : Int) < (b.ws.length : Int)) = false := decide_eq_false (by omega)
        go_wp2
        go_roundw
        case rel =>
          refine ⟨k + 1, by omega, by go_num, Lib.hid (fun b' hb' => ?_), bel_alloc BE.out _⟩
          rw [List.take_add_one, HBK.out] at hb'
          rcases List.mem_append.1 hb' with h2 | h2
          · exact hall.out b' h2
          · obtain rfl : b' = b := by simpa using h2
            omega
        case measure => simp [intOf]; omega
    · obtain rfl : k = n := by omega
      have hall' : ∀ b ∈ l, b.ws.length ≤ 100 := by
        have := hall.out
        rwa [List.take_of_length_le (by rw [HN.out]; omega)] at this
      have HQ := Lib.hid (show decide ((k : Int) ≤ 40) = r by
        rw [← HR.out]
        unfold light
        by_cases h4 : k ≤ 40
        · rw [decide_eq_true (show (k : Int) ≤ 40 by omega), decide_eq_true ⟨hall', by rw [HN.out]; exact h4⟩]
        · rw [decide_eq_false (show ¬ (k : Int) ≤ 40 by omega), decide_eq_false (fun q => h4 (by have := q.2; rw [HN.out] at this; exact this))])
      go_wp2
      go_ret
      exact ⟨by rw [← HQ.out]; rfl, hbe⟩
abbrev intv (x : Int) : Value := .int .i64 x
set_option maxHeartbeats 1000000 in
theorem lowInts_all (A B : Option Addr) (la lb : List Int) (ca cb : Nat) (w : World) (ha : Sq intv w w.heap.size A la) (hb : Sq intv w w.heap.size B lb) (hn : la.length ≤ 140737488355328) :
    Calls Try.prog 20 #[.slice A la.length ca, .slice B lb.length cb] w fun e w' => e = .returned (.bool (decide (la = lb))) ∧ Below w.heap.size w w' := by
  by_cases hl : la.length = lb.length
  · have hl' : ((la.length : Int) != (lb.length : Int)) = false := by rw [bne_eq_false_iff_eq]; omega
    have HL := Lib.hid hl
    clear hl
    go_enter Try.func20, Try.ntmps20
    go_wp2
    go_loopw [13] (fun i wr => ∃ k : Nat, k ≤ la.length ∧ i = .int .i64 k ∧ la.take k = lb.take k ∧ Below w.heap.size w wr) (fun i _ => la.length - (intOf i).toNat)
    case atStart => exact ⟨0, by omega, rfl, by simp, Below.refl _ _⟩
    case round =>
      obtain ⟨k, hk, rfl, heq, hbel⟩ := hrel
      have HQ := Lib.hid heq
      clear heq
      by_cases hlt : k < la.length
      · have hlt2 : k < lb.length := by have := HL.out; omega
        obtain ⟨b1, o1, x, rfl, hb1, hx, hc1⟩ := ha.at_ hlt
        obtain ⟨b2, o2, y, rfl, hb2, hy, hc2⟩ := hb.at_ hlt2
        have d1 : wr.cell? ⟨b1, o1 + k, none⟩ = _ := (hbel.cell (p := ⟨b1, o1 + k, none⟩) hb1).trans hc1
        have d2 : wr.cell? ⟨b2, o2 + k, none⟩ = _ := (hbel.cell (p := ⟨b2, o2 + k, none⟩) hb2).trans hc2
        have g1 : b1 < wr.heap.size := Nat.lt_of_lt_of_le hb1 hbel.size
        have g2 : b2 < wr.heap.size := Nat.lt_of_lt_of_le hb2 hbel.size
        have e1 : (k : Int) < (la.length : Int) := by omega
        have e2 : (k : Int) < (lb.length : Int) := by omega
        have HX := Lib.hid hx
        have HY := Lib.hid hy
        clear hc1 hc2 hx hy
        try simp only at d1 d2
        by_cases hxy : x = y
        · subst hxy
          go_wp2
          refine wp_region_lat (by kernel_rfl) (by kernel_rfl) ?_
          repeat (go_big_quiet_step (fail))
          refine wpQuiet_nil ?_
          rintro _ ⟨x3, rfl⟩
          have hz_x3 := x3.bel.size
          try simp at hz_x3
          go_wp2
          go_roundw
          case rel => exact ⟨k + 1, by omega, by go_num, by rw [List.take_add_one, List.take_add_one, HQ.out, HX.out, HY.out], (by repeat (first | with_reducible exact Below.refl _ _ | with_reducible refine bel_later _ ?_ | with_reducible refine bel_alloc ?_ _ | refine bel_set ?_ (by first | omega | (simp; done) | (simp; omega)) _ | with_reducible refine Below.drew ?_ | with_reducible refine bel_drewN ?_ _ | with_reducible assumption | assumption))⟩
          case measure => simp [intOf]; omega
        · have hne : la ≠ lb := by
            intro h
            have h1 := HX.out
            rw [h, HY.out] at h1
            exact hxy (by simpa using h1.symm)
          have HD := Lib.hid (show decide (la = lb) = false by simpa using hne)
          have hxy' : (x != y) = true := by rw [bne_iff_ne]; exact hxy
          clear hne
          go_wp2
          refine wp_region_lat (by kernel_rfl) (by kernel_rfl) ?_
          repeat (go_big_quiet_step (fail))
          refine wpQuiet_nil ?_
          rintro _ ⟨x3, rfl⟩
          have hz_x3 := x3.bel.size
          try simp at hz_x3
          go_wp2
          go_ret
          exact ⟨by rw [HD.out]; rfl, (by repeat (first | with_reducible exact Below.refl _ _ | with_reducible refine bel_later _ ?_ | with_reducible refine bel_alloc ?_ _ | refine bel_set ?_ (by first | omega | (simp; done) | (simp; omega)) _ | with_reducible refine Below.drew ?_ | with_reducible refine bel_drewN ?_ _ | with_reducible assumption | assumption))⟩
      · have hkl : k = la.length := by omega
        have HD : Hid (decide (la = lb) = true) := Lib.hid <| by
          have h1 := HQ.out
          rw [List.take_of_length_le (by omega), List.take_of_length_le (by have := HL.out; omega)] at h1
          simpa using h1
        go_wp2
        go_ret
        exact ⟨by rw [HD.out]; rfl, hbel⟩
  · have hl' : ((la.length : Int) != (lb.length : Int)) = true := by rw [bne_iff_ne]; omega
    have hd : decide (la = lb) = false := by simp; intro h; exact hl (by rw [h])
    rw [hd]
    clear hl hd
    go_enter Try.func20, Try.ntmps20
    go_wp2
    go_ret
    exact ⟨rfl, (by repeat (first | with_reducible exact Below.refl _ _ | with_reducible refine bel_later _ ?_ | with_reducible refine bel_alloc ?_ _ | refine bel_set ?_ (by first | omega | (simp; done) | (simp; omega)) _ | with_reducible refine Below.drew ?_ | with_reducible refine bel_drewN ?_ _ | with_reducible assumption | assumption))⟩
theorem lowInts_any (A B : Option Addr) (la lb : List Int) (ca cb ma mb : Nat) (r : Bool) (w : World) (hma : la.length = ma) (hmb : lb.length = mb) (ha : Sq intv w w.heap.size A la) (hb : Sq intv w w.heap.size B lb) (hn : la.length ≤ 140737488355328) (hr : decide (la = lb) = r) :
    Calls Try.prog 20 #[.slice A ma ca, .slice B mb cb] w fun e w' => e = .returned (.bool r) ∧ Below w.heap.size w w' := by
  subst hma hmb hr
  exact lowInts_all A B la lb ca cb w ha hb hn
end Go.Proofs.Ytkilpiiljpeamaa
