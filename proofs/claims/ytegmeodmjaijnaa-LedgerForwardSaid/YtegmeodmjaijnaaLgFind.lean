/- Layer 23: at, Find (a binary search). -/
import Derived.Test.YtegmeodmjaijnaaLgOwn
namespace Go.Proofs.Ytegmeodmjaijnaa
open Go.RowKit
set_option linter.unusedVariables false
set_option linter.unusedSimpArgs false
attribute [local go_sem] Later.cell Later.frozen setCell_twice
def cmpTx (a b : Nat) : Int := if a < b then -1 else if b < a then 1 else 0
set_option maxHeartbeats 400000 in
theorem at1_any (a who : Nat) (A : Option Addr) (m c st tx : Nat) (w : World) :
    Calls Try.prog 41 #[.agg (jbV a who A m c st).toArray, .int .u32 (tx : Int)] w fun e w' => e = .returned (.int .i64 (cmpTx a tx)) ∧ Below w.heap.size w w' := by
  by_cases h1 : a < tx
  · have HR := Lib.hid (show cmpTx a tx = -1 by unfold cmpTx; rw [if_pos h1])
    go_enter Try.func41, Try.ntmps41
    go_wp2
    go_ret
    exact ⟨by rw [HR.out]; rfl, (by repeat (first | with_reducible exact Below.refl _ _ | with_reducible refine bel_later _ ?_ | with_reducible refine bel_alloc ?_ _ | refine bel_set ?_ (by first | omega | (simp; done) | (simp; omega)) _ | with_reducible refine Below.drew ?_ | with_reducible refine bel_drewN ?_ _ | with_reducible assumption | assumption))⟩
  · by_cases h2 : tx < a
    · have HR := Lib.hid (show cmpTx a tx = 1 by unfold cmpTx; rw [if_neg h1, if_pos h2])
      go_enter Try.func41, Try.ntmps41
      go_wp2
      go_ret
      exact ⟨by rw [HR.out]; rfl, (by repeat (first | with_reducible exact Below.refl _ _ | with_reducible refine bel_later _ ?_ | with_reducible refine bel_alloc ?_ _ | refine bel_set ?_ (by first | omega | (simp; done) | (simp; omega)) _ | with_reducible refine Below.drew ?_ | with_reducible refine bel_drewN ?_ _ | with_reducible assumption | assumption))⟩
    · have HR := Lib.hid (show cmpTx a tx = 0 by unfold cmpTx; rw [if_neg h1, if_neg h2])
      go_enter Try.func41, Try.ntmps41
      go_wp2
      go_ret
      exact ⟨by rw [HR.out]; rfl, (by repeat (first | with_reducible exact Below.refl _ _ | with_reducible refine bel_later _ ?_ | with_reducible refine bel_alloc ?_ _ | refine bel_set ?_ (by first | omega | (simp; done) | (simp; omega)) _ | with_reducible refine Below.drew ?_ | with_reducible refine bel_drewN ?_ _ | with_reducible assumption | assumption))⟩
set_option maxRecDepth 100000 in
set_option maxHeartbeats 400000 in
theorem search_any (A : Option Addr) (l : List Jb) (c n tx : Nat) (w : World) (hn : l.length = n) (h : Jbs w w.heap.size A l) (hn63 : n ≤ 1000000) (hs : Jp.Sorted (jps l)) :
    Calls Try.prog 40 #[.slice A n c, .int .u32 (tx : Int), .func (.func 41) #[] #[]] w fun e w' => ∃ b, e = .returned (.tuple #[.int .i64 ((Jp.at_ (jps l) tx : Nat) : Int), .bool b]) ∧ Below w.heap.size w w' := by
  have HN := Lib.hid hn
  have HH := Lib.hid h
  have HS := Lib.hid hs
  clear hn h hs
  go_enter Try.func40, Try.ntmps40
  go_wp2
  go_loopw [9, 10] (fun vi vj wr => ∃ i j : Nat, i ≤ j ∧ j ≤ n ∧ vi = .int .i64 i ∧ vj = .int .i64 j ∧ (∀ x, 0 < i → (jps l)[i - 1]? = some x → x.tx < tx) ∧ (∀ x, (jps l)[j]? = some x → tx ≤ x.tx) ∧ Below w.heap.size w wr) (fun vi vj _ => (intOf vj).toNat - (intOf vi).toNat)
  case atStart => exact ⟨0, n, by omega, by omega, rfl, rfl, fun x h => absurd h (Nat.lt_irrefl 0), fun x hx => by have := (List.getElem?_eq_some_iff.1 hx).1; rw [List.length_map, HN.out] at this; omega, Below.refl _ _⟩
  case round =>
    obtain ⟨i, j, hij, hjn, rfl, rfl, hlo, hhi, hbe⟩ := hrel
    have LO := Lib.hid hlo
    have HI := Lib.hid hhi
    have BE := Lib.hid hbe
    clear hlo hhi
    by_cases hlt : i < j
    · obtain ⟨h, hh⟩ : ∃ h, h = (i + j) / 2 := ⟨_, rfl⟩
      have hhj : h < j := by omega
      have hih : i ≤ h := by omega
      obtain ⟨g1, o1, x, rfl, hg1, hx, hxo, hx0, hx1, hx2, hx3⟩ := (HH.out.to hbe).at_ (k := h) (by rw [HN.out]; omega)
      have HHH := Lib.hid hh
      have HX := Lib.hid hx
      have hltI : (i : Int) < (j : Int) := by omega
      have hhI : (h : Int) < (n : Int) := by omega
      have hdiv : ((i : Int) + (j : Int)) / 2 = (h : Int) := by omega
      have HJ : Hid ((jps l)[h]? = some x.p) := Lib.hid (by rw [jps, List.getElem?_map, hx]; rfl)
      have hgr : g1 < wr.heap.size := hg1
      clear hh hx hxo hbe
      go_wp2_with fail
      refine (at1_any x.p.tx x.p.who x.A x.p.text.length x.c x.p.st tx wr).mono ?_
      rintro e w1 ⟨rfl, b1⟩
      have B1 := Lib.hid (BE.out.trans (b1.mono BE.out.size))
      clear b1 hx0 hx1 hx2 hx3
      by_cases hc : x.p.tx < tx
      · have hcmp : cmpTx x.p.tx tx = -1 := by unfold cmpTx; rw [if_pos hc]
        rw [hcmp]
        clear hcmp
        go_wp2
        go_roundw
        case rel => exact ⟨h + 1, j, by omega, hjn, by go_num, rfl, fun y _ hy => by rw [Nat.add_sub_cancel, HJ.out] at hy; obtain rfl := Option.some.inj hy; exact hc, HI.out, B1.out⟩
        case measure => simp [intOf]; omega
      · obtain ⟨z, hz⟩ : ∃ z, cmpTx x.p.tx tx = z := ⟨_, rfl⟩
        have hz0 : ¬ z < 0 := by rw [← hz]; unfold cmpTx; rw [if_neg hc]; split <;> omega
        rw [hz]
        clear hz
        go_wp2
        go_roundw
        case rel => exact ⟨i, h, hih, by omega, rfl, rfl, LO.out, fun y hy => by rw [HJ.out] at hy; obtain rfl := Option.some.inj hy; omega, B1.out⟩
        case measure => simp [intOf]; omega
    · obtain rfl : i = j := by omega
      have HAT : Hid (Jp.at_ (jps l) tx = i) := Lib.hid (Jp.at_of HS.out (by rw [List.length_map, HN.out]; exact hjn) LO.out (fun x hx => HI.out x hx))
      by_cases hin : i < n
      · obtain ⟨g1, o1, x, rfl, hg1, hx, hxo, hx0, hx1, hx2, hx3⟩ := (HH.out.to hbe).at_ (k := i) (by rw [HN.out]; exact hin)
        have hinI : (i : Int) < (n : Int) := by omega
        have hgr : g1 < wr.heap.size := hg1
        clear hx hxo hbe
        go_wp2_with fail
        refine (at1_any x.p.tx x.p.who x.A x.p.text.length x.c x.p.st tx wr).mono ?_
        rintro e w1 ⟨rfl, b1⟩
        have B1 := Lib.hid (BE.out.trans (b1.mono BE.out.size))
        clear b1 hx0 hx1 hx2 hx3
        go_wp2
        go_ret2
        exact ⟨_, by rw [HAT.out]; rfl, B1.out⟩
      · have hinI : ¬ (i : Int) < (n : Int) := by omega
        clear hbe
        go_wp2
        go_ret2
        exact ⟨by first | (rw [HAT.out]; done) | (rw [HAT.out]; rfl) | simp [HAT.out], BE.out⟩
set_option maxHeartbeats 400000 in
theorem jat_any (A : Option Addr) (l : List Jb) (c n tx : Nat) (w : World) (hn : l.length = n) (h : Jbs w w.heap.size A l) (hn63 : n ≤ 1000000) (hs : Jp.Sorted (jps l)) :
    Calls Try.prog 36 #[.slice A n c, .int .u32 (tx : Int)] w fun e w' => e = .returned (.int .i64 ((Jp.at_ (jps l) tx : Nat) : Int)) ∧ Below w.heap.size w w' := by
  have k := Lib.hid (search_any A l c n tx w hn h hn63 hs)
  clear hn h hs
  go_enter Try.func36, Try.ntmps36
  go_wp2_with fail
  refine k.out.mono ?_
  rintro e w1 ⟨b, rfl, b1⟩
  have B1 := Lib.hid b1
  clear b1
  go_wp2
  go_ret
  exact ⟨rfl, B1.out⟩
set_option maxHeartbeats 400000 in
theorem jfind_any (A : Option Addr) (l : List Jb) (c n tx : Nat) (w : World) (hn : l.length = n) (h : Jbs w w.heap.size A l) (hn63 : n ≤ 1000000) (hs : Jp.Sorted (jps l)) :
    Calls Try.prog 24 #[.slice A n c, .int .u32 (tx : Int)] w fun e w' => e = .returned (.tuple #[.int .i64 (((Jp.find (jps l) tx).getD 0 : Nat) : Int), .bool (Jp.find (jps l) tx).isSome]) ∧ Below w.heap.size w w' := by
  have k := Lib.hid (jat_any A l c n tx w hn h hn63 hs)
  have HN := Lib.hid hn
  have HH := Lib.hid h
  obtain ⟨i, hi⟩ : ∃ i, Jp.at_ (jps l) tx = i := ⟨_, rfl⟩
  have HI := Lib.hid hi
  have hin := Jp.at_le (jps l) tx
  rw [hi, List.length_map, hn] at hin
  rw [hi] at k
  clear hn h hs hi
  go_enter Try.func24, Try.ntmps24
  go_wp2_with fail
  refine k.out.mono ?_
  rintro e w1 ⟨rfl, b1⟩
  have B1 := Lib.hid b1
  by_cases hlt : i < n
  · obtain ⟨g1, o1, x, rfl, hg1, hx, hxo, hx0, hx1, hx2, hx3⟩ := (HH.out.to b1).at_ (k := i) (by rw [HN.out]; exact hlt)
    have hltI : ¬ (n : Int) ≤ (i : Int) := by omega
    have hgr : g1 < w1.heap.size := hg1
    have HJ : Hid ((jps l)[i]? = some x.p) := Lib.hid (by rw [jps, List.getElem?_map, hx]; rfl)
    clear hx hxo b1
    by_cases hc : x.p.tx = tx
    · have HF : Hid (Jp.find (jps l) tx = some i) := Lib.hid (by unfold Jp.find; rw [HI.out, HJ.out]; simp only; rw [if_pos hc])
      have gc : ((x.p.tx : Int) != (tx : Int)) = false := by rw [bne_eq_false_iff_eq]; omega
      have HC := Lib.hid hc
      clear hc
      go_wp2
      go_ret2
      exact ⟨by rw [HF.out]; rfl, B1.out⟩
    · have HF : Hid (Jp.find (jps l) tx = none) := Lib.hid (by unfold Jp.find; rw [HI.out, HJ.out]; simp only; rw [if_neg hc])
      have gc : ((x.p.tx : Int) != (tx : Int)) = true := bne_iff_ne.2 (by omega)
      clear hc
      go_wp2
      go_ret2
      exact ⟨by rw [HF.out]; rfl, B1.out⟩
  · have hltI : (n : Int) ≤ (i : Int) := by omega
    have HF : Hid (Jp.find (jps l) tx = none) := Lib.hid (by unfold Jp.find; rw [HI.out, List.getElem?_eq_none (by rw [List.length_map, HN.out]; omega)])
    clear b1
    go_wp2
    go_ret2
    exact ⟨by rw [HF.out]; rfl, B1.out⟩
end Go.Proofs.Ytegmeodmjaijnaa
