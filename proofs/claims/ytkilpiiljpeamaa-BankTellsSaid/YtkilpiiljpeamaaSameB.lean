/- The walk of bank.Same. -/
import Derived.Test.YtkilpiiljpeamaaCmpW
namespace Go.Proofs.Ytkilpiiljpeamaa
open Go.RowKit
set_option linter.unusedVariables false
attribute [local go_sem] Later.cell Later.frozen setCell_twice
set_option maxHeartbeats 400000 in
theorem same1_any (a b : Blk) (r : Bool) (w : World) (ha : a.Ok w w.heap.size) (hb : b.Ok w w.heap.size) (hla : a.ws.length ≤ 140737488355328) (hr : decide (a.pr = b.pr) = r) :
    Calls Try.prog 31 #[.agg #[.int .i64 a.a, .slice a.A a.ws.length a.c], .agg #[.int .i64 b.a, .slice b.A b.ws.length b.c]] w fun e w' => e = .returned (.bool r) ∧ Below w.heap.size w w' := by
  by_cases h : a.a = b.a
  · have ke := Lib.hid (fun W (hW : Below w.heap.size w W) => eqlWords_any a.A b.A a.ws b.ws a.c b.c _ _ r W rfl rfl (ha.to hW).sq (hb.to hW).sq hla (by rw [← hr, decide_eq_decide]; simp [h]))
    have h' : (a.a == b.a) = true := by rw [beq_iff_eq]; exact h
    have HH := Lib.hid h
    clear h hr
    go_enter Try.func31, Try.ntmps31
    go_wp2_with fail
    refine (ke.out _ (by repeat (first | with_reducible exact Below.refl _ _ | with_reducible refine bel_later _ ?_ | with_reducible refine bel_alloc ?_ _ | refine bel_set ?_ (by first | omega | (simp; done) | (simp; omega)) _ | with_reducible refine Below.drew ?_ | with_reducible refine bel_drewN ?_ _ | with_reducible assumption | assumption))).mono ?_
    rintro e_x1 w_x1 ⟨rfl, hb_x1⟩
    obtain ⟨x1, rfl⟩ := later_is hb_x1
    clear hb_x1
    have hz_x1 := x1.bel.size
    try simp at hz_x1
    go_wp2
    go_ret
    exact ⟨rfl, (by repeat (first | with_reducible exact Below.refl _ _ | with_reducible refine bel_later _ ?_ | with_reducible refine bel_alloc ?_ _ | refine bel_set ?_ (by first | omega | (simp; done) | (simp; omega)) _ | with_reducible refine Below.drew ?_ | with_reducible refine bel_drewN ?_ _ | with_reducible assumption | assumption))⟩
  · have h' : (a.a == b.a) = false := beq_eq_false_iff_ne.2 h
    obtain rfl : r = false := by rw [← hr]; simp [h]
    clear h hr
    go_enter Try.func31, Try.ntmps31
    go_wp2
    go_ret
    exact ⟨rfl, (by repeat (first | with_reducible exact Below.refl _ _ | with_reducible refine bel_later _ ?_ | with_reducible refine bel_alloc ?_ _ | refine bel_set ?_ (by first | omega | (simp; done) | (simp; omega)) _ | with_reducible refine Below.drew ?_ | with_reducible refine bel_drewN ?_ _ | with_reducible assumption | assumption))⟩
set_option maxHeartbeats 1000000 in
theorem equalFunc_any (A B : Option Addr) (la lb : List Blk) (ca cb : Nat) (w : World) (ha : Blks w w.heap.size A la) (hb : Blks w w.heap.size B lb) (hn : la.length ≤ 9223372036854775807) (hl : ∀ b ∈ la, b.ws.length ≤ 140737488355328) :
    Calls Try.prog 30 #[.slice A la.length ca, .slice B lb.length cb, .func (.func 31) #[] #[]] w fun e w' => e = .returned (.bool (decide (prs la = prs lb))) ∧ Below w.heap.size w w' := by
  by_cases hlen : la.length = lb.length
  · have hl' : ((la.length : Int) != (lb.length : Int)) = false := by rw [bne_eq_false_iff_eq]; omega
    have HL := Lib.hid hlen
    clear hlen
    go_enter Try.func30, Try.ntmps30
    go_wp2
    go_loopw [17] (fun i wr => ∃ k : Nat, k ≤ la.length ∧ i = .int .i64 k ∧ prs (la.take k) = prs (lb.take k) ∧ Below w.heap.size w wr) (fun i _ => la.length - (intOf i).toNat)
    case atStart => exact ⟨0, by omega, rfl, by simp, Below.refl _ _⟩
    case round =>
      obtain ⟨k, hk, rfl, heq, hbel⟩ := hrel
      have HQ := Lib.hid heq
      clear heq
      by_cases hlt : k < la.length
      · have hlt2 : k < lb.length := by have := HL.out; omega
        obtain ⟨g1, o1, x, rfl, hg1, hx, hxo, hx0, hx1⟩ := (ha.to hbel).at_ hlt
        obtain ⟨g2, o2, y, rfl, hg2, hy, hyo, hy0, hy1⟩ := (hb.to hbel).at_ hlt2
        have hxl := hl x (List.mem_of_getElem? hx)
        have e1 : (k : Int) < (la.length : Int) := by omega
        have e2 : (k : Int) < (lb.length : Int) := by omega
        obtain ⟨r, hr⟩ : ∃ r, decide (x.pr = y.pr) = r := ⟨_, rfl⟩
        have ks := Lib.hid (fun W (h : Below wr.heap.size wr W) => same1_any x y r W (hxo.to h) (hyo.to h) hxl hr)
        have HX := Lib.hid hx
        have HY := Lib.hid hy
        have HRR := Lib.hid hr
        clear hx hy hr hxo hyo
        go_wp2_with fail
        refine (ks.out _ (by repeat (first | with_reducible exact Below.refl _ _ | with_reducible refine bel_later _ ?_ | with_reducible refine bel_alloc ?_ _ | refine bel_set ?_ (by first | omega | (simp; done) | (simp; omega)) _ | with_reducible refine Below.drew ?_ | with_reducible refine bel_drewN ?_ _ | with_reducible assumption | assumption))).mono ?_
        rintro e_x3 w_x3 ⟨rfl, hb_x3⟩
        obtain ⟨x3, rfl⟩ := later_is hb_x3
        clear hb_x3
        have hz_x3 := x3.bel.size
        try simp at hz_x3
        cases r
        · have HD : Hid (decide (prs la = prs lb) = false) := Lib.hid (by
            rw [decide_eq_false_iff_not]
            intro h
            have h1 := prs_get HX.out
            rw [h, prs_get HY.out] at h1
            have h2 := HRR.out
            rw [decide_eq_false_iff_not] at h2
            exact h2 (by simpa using h1.symm))
          go_wp2
          go_ret
          exact ⟨by rw [HD.out]; rfl, bel_later x3 (bel_alloc (bel_alloc hbel _) _)⟩
        · have HD : Hid (prs (la.take (k + 1)) = prs (lb.take (k + 1))) := Lib.hid (by
            have h2 := HRR.out
            rw [decide_eq_true_eq] at h2
            rw [List.take_add_one, List.take_add_one, HX.out, HY.out]
            simp only [prs, List.map_append, Option.toList, List.map_cons, List.map_nil] at HQ ⊢
            rw [HQ.out, h2])
          go_wp2
          go_roundw
          case rel => exact ⟨k + 1, by omega, by go_num, HD.out, bel_later x3 (bel_alloc (bel_alloc hbel _) _)⟩
          case measure => simp [intOf]; omega
      · have hkl : k = la.length := by omega
        have HD : Hid (decide (prs la = prs lb) = true) := Lib.hid (by
          have h1 := HQ.out
          rw [List.take_of_length_le (by omega), List.take_of_length_le (by have := HL.out; omega)] at h1
          simpa using h1)
        go_wp2
        go_ret
        exact ⟨by rw [HD.out]; rfl, hbel⟩
  · have hl' : ((la.length : Int) != (lb.length : Int)) = true := by rw [bne_iff_ne]; omega
    have hd : decide (prs la = prs lb) = false := by
      rw [decide_eq_false_iff_not]
      intro h
      have := congrArg List.length h
      simp at this
      exact hlen this
    rw [hd]
    clear hlen hd
    go_enter Try.func30, Try.ntmps30
    go_wp2
    go_ret
    exact ⟨rfl, (by repeat (first | with_reducible exact Below.refl _ _ | with_reducible refine bel_later _ ?_ | with_reducible refine bel_alloc ?_ _ | refine bel_set ?_ (by first | omega | (simp; done) | (simp; omega)) _ | with_reducible refine Below.drew ?_ | with_reducible refine bel_drewN ?_ _ | with_reducible assumption | assumption))⟩
theorem sameBlocks_any (A B : Option Addr) (la lb : List Blk) (ca cb n m : Nat) (r : Bool) (w : World) (hna : la.length = n) (hnb : lb.length = m) (ha : Blks w w.heap.size A la) (hb : Blks w w.heap.size B lb) (hn : la.length ≤ 9223372036854775807) (hl : ∀ b ∈ la, b.ws.length ≤ 140737488355328) (hr : decide (prs la = prs lb) = r) :
    Calls Try.prog 22 #[.slice A n ca, .slice B m cb] w fun e w' => e = .returned (.bool r) ∧ Below w.heap.size w w' := by
  subst hna hnb hr
  have ke := Lib.hid (equalFunc_any A B la lb ca cb w ha hb hn hl)
  go_enter Try.func22, Try.ntmps22
  go_wp2_with fail
  refine (ke.out).mono ?_
  rintro e_x1 w_x1 ⟨rfl, hb_x1⟩
  obtain ⟨x1, rfl⟩ := later_is hb_x1
  clear hb_x1
  have hz_x1 := x1.bel.size
  try simp at hz_x1
  go_wp2
  go_ret
  exact ⟨rfl, (by repeat (first | with_reducible exact Below.refl _ _ | with_reducible refine bel_later _ ?_ | with_reducible refine bel_alloc ?_ _ | refine bel_set ?_ (by first | omega | (simp; done) | (simp; omega)) _ | with_reducible refine Below.drew ?_ | with_reducible refine bel_drewN ?_ _ | with_reducible assumption | assumption))⟩
end Go.Proofs.Ytkilpiiljpeamaa
