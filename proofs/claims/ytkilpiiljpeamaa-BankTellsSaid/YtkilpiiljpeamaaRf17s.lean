/- The walk of the reference of layer 17: Same. -/
import Derived.Test.YtkilpiiljpeamaaRf17
import Derived.BigQuiet
import Derived.Deep.QuietTactic
namespace Go.Proofs.Ytkilpiiljpeamaa
open Go.RowKit
set_option linter.unusedVariables false
attribute [local go_sem] Later.cell Later.frozen setCell_twice
theorem take_next {α : Type} {l m : List α} {k : Nat} {x y : α} (h : l.take k = m.take k) (hx : l[k]? = some x) (hy : m[k]? = some y) (e : x = y) : l.take (k + 1) = m.take (k + 1) := by
  rw [List.take_add_one, List.take_add_one, h, hx, hy, e]
set_option maxRecDepth 100000 in
set_option maxHeartbeats 2000000 in
theorem rsameB_any (A B : Option Addr) (la lb : List Blk) (ca cb n m : Nat) (r : Bool) (w : World) (hna : la.length = n) (hnb : lb.length = m) (ha : Blks w w.heap.size A la) (hb : Blks w w.heap.size B lb) (hn : la.length ≤ 9223372036854775807) (hca : n ≤ ca) (hcb : m ≤ cb) (hr : decide (prs la = prs lb) = r) :
    Calls Try.prog 23 #[.slice A n ca, .slice B m cb] w fun e w' => e = .returned (.bool r) ∧ Below w.heap.size w w' := by
  by_cases hnm : n = m
  rotate_left
  · obtain rfl : r = false := by rw [← hr]; exact decide_eq_false (fun h => hnm (by have := congrArg List.length h; simp at this; omega))
    have g1 : ((n : Int) != (m : Int)) = true := bne_iff_ne.2 (by omega)
    have g1' : ((n : Int) == (m : Int)) = false := beq_eq_false_iff_ne.2 (by omega)
    clear hr
    go_enter Try.func23, Try.ntmps23
    go_wp2
    go_ret
    exact ⟨rfl, (by repeat (first | with_reducible exact Below.refl _ _ | with_reducible refine bel_later _ ?_ | with_reducible refine bel_alloc ?_ _ | refine bel_set ?_ (by first | omega | (simp; done) | (simp; omega)) _ | with_reducible refine Below.drew ?_ | with_reducible refine bel_drewN ?_ _ | with_reducible assumption | assumption))⟩
  · subst hnm
    have HR := Lib.hid hr
    have HNA := Lib.hid hna
    have HNB := Lib.hid hnb
    have hnn : n ≤ 9223372036854775807 := by omega
    clear hr hna hnb
    go_enter Try.func23, Try.ntmps23
    go_wp2
    go_loopw [5] (fun i wr => ∃ k : Nat, k ≤ n ∧ i = .int .i64 k ∧ (prs la).take k = (prs lb).take k ∧ Below w.heap.size w wr) (fun i _ => n - (intOf i).toNat)
    case atStart => exact ⟨0, by omega, rfl, by simp, Below.refl _ _⟩
    case round =>
      obtain ⟨k, hk, rfl, htk, hbe⟩ := hrel
      have HTK := Lib.hid htk
      clear htk
      obtain ⟨wo, hwo⟩ : ∃ wo : World, wo = wr := ⟨_, rfl⟩
      by_cases hlt : k < n
      · obtain ⟨g, o, x, rfl, hg, hx, hxo, hw0, hw1⟩ := ha.at_ (k := k) (by rw [HNA.out]; exact hlt)
        obtain ⟨g', o', y, rfl, hg', hy, hyo, hv0, hv1⟩ := hb.at_ (k := k) (by rw [HNB.out]; exact hlt)
        have kC := Lib.hid (fun W (hW : Below w.heap.size w W) => (⟨(hW.cell (p := ⟨g, o + k * 2, none⟩) hg).trans hw0, (hW.cell (p := ⟨g, o + k * 2 + 1, none⟩) hg).trans hw1⟩ : W.cell? ⟨g, o + k * 2, none⟩ = some (.int .i64 x.a) ∧ W.cell? ⟨g, o + k * 2 + 1, none⟩ = some (.slice x.A x.ws.length x.c)))
        have kD := Lib.hid (fun W (hW : Below w.heap.size w W) => (⟨(hW.cell (p := ⟨g', o' + k * 2, none⟩) hg').trans hv0, (hW.cell (p := ⟨g', o' + k * 2 + 1, none⟩) hg').trans hv1⟩ : W.cell? ⟨g', o' + k * 2, none⟩ = some (.int .i64 y.a) ∧ W.cell? ⟨g', o' + k * 2 + 1, none⟩ = some (.slice y.A y.ws.length y.c)))
        have hc0 := (kC.out _ hbe).1
        have hc1 := (kC.out _ hbe).2
        have hd0 := (kD.out _ hbe).1
        have hd1 := (kD.out _ hbe).2
        have hltI : (k : Int) < (n : Int) := by omega
        have h0I : (0 : Int) ≤ (k : Int) := by omega
        have hkca : (k : Int) < (ca : Int) := by omega
        have hkcb : (k : Int) < (cb : Int) := by omega
        have HX := Lib.hid (prs_get hx)
        have HY := Lib.hid (prs_get hy)
        have hno : x.pr ≠ y.pr → r = false := fun hne => by
          rw [← HR.out]
          refine decide_eq_false (fun h => hne ?_)
          have h1 := HX.out
          rw [h, HY.out] at h1
          exact (Option.some.inj h1).symm
        have HNO := Lib.hid hno
        have XO := Lib.hid hxo
        have YO := Lib.hid hyo
        have BE := Lib.hid hbe
        clear hx hy hno hxo hyo hbe hwo hw0 hw1 hv0 hv1
        by_cases e1 : x.a = y.a
        rotate_left
        · obtain rfl : r = false := HNO.out (fun h => e1 (congrArg Prod.fst h))
          have g1 : (x.a != y.a) = true := bne_iff_ne.2 e1
          have g1' : (x.a == y.a) = false := beq_eq_false_iff_ne.2 e1
          clear e1
          go_wp2
          go_quiet (fail)
          go_wp2
          go_ret
          exact ⟨rfl, bel_drewN BE.out _⟩
        · by_cases e2 : x.ws.length = y.ws.length
          rotate_left
          · obtain rfl : r = false := HNO.out (fun h => e2 (congrArg (fun q : Bk.Pr => q.2.length) h))
            have g1 : (x.a != y.a) = false := by simp [e1]
            have g2 : ((x.ws.length : Int) != (y.ws.length : Int)) = true := bne_iff_ne.2 (by omega)
            have g2' : ((x.ws.length : Int) == (y.ws.length : Int)) = false := beq_eq_false_iff_ne.2 (by omega)
            have E1 := Lib.hid e1
            rw [e1] at hc0 g1
            clear e1 e2 E1
            go_wp2
            go_quiet (fail)
            go_wp2
            go_ret
            exact ⟨rfl, bel_drewN BE.out _⟩
          · have E1 := Lib.hid e1
            have E2 := Lib.hid e2
            rw [e1] at hc0
            rw [e2] at hc1
            clear e1 e2
            go_wp2
            go_quiet (fail)
            have BD := Lib.hid (bel_drewN BE.out nq)
            clear hc0 hc1 hd0 hd1
            go_wp2
            obtain ⟨N, hN⟩ : ∃ N, y.ws.length = N := ⟨_, rfl⟩
            have hxN : x.ws.length = N := E2.out.trans hN
            have HXN := Lib.hid hxN
            have HYN := Lib.hid hN
            have hNb : N ≤ 9223372036854775807 := by rw [← hN]; exact Nat.le_trans YO.out.ln YO.out.cap
            clear hN hxN
            go_loopw [6] (fun i wr => ∃ j : Nat, j ≤ N ∧ i = .int .i64 j ∧ x.ws.take j = y.ws.take j ∧ Below w.heap.size w wr) (fun i _ => N - (intOf i).toNat)
            case atStart => exact ⟨0, by omega, rfl, by simp, BD.out⟩
            case round =>
              obtain ⟨j, hj, rfl, htj, hbe⟩ := hrel
              have HTJ := Lib.hid htj
              have hc1 := (kC.out _ hbe).2
              have hd1 := (kD.out _ hbe).2
              rw [HXN.out] at hc1
              rw [HYN.out] at hd1
              have BE := Lib.hid hbe
              clear htj
              by_cases hlj : j < N
              · obtain ⟨b1, o1, x1, hA1, hb1, hx1, hcx⟩ := (XO.out.sq.below hbe).at_ (j := j) (by rw [HXN.out]; exact hlj)
                obtain ⟨b2, o2, y1, hA2, hb2, hy1, hcy⟩ := (YO.out.sq.below hbe).at_ (j := j) (by rw [HYN.out]; exact hlj)
                rw [hA1] at hc1
                rw [hA2] at hd1
                have hjI : (j : Int) < (N : Int) := by omega
                have h0J : (0 : Int) ≤ (j : Int) := by omega
                have X1 := Lib.hid hx1
                have Y1 := Lib.hid hy1
                clear hx1 hy1 hbe hA1 hA2
                by_cases e3 : x1 = y1
                · have HE := Lib.hid e3
                  subst e3
                  go_wp2
                  go_quiet (fail)
                  go_wp2
                  go_roundw
                  case rel => first | exact ⟨j + 1, by omega, by go_num, take_next HTJ.out X1.out Y1.out rfl, bel_drewN BE.out _⟩ | ((repeat apply Exists.intro); exact ⟨⟨j + 1, by omega, by go_num, take_next HTJ.out X1.out Y1.out rfl, bel_drewN BE.out _⟩, rfl⟩)
                  case measure => simp [intOf]; omega
                · obtain rfl : r = false := HNO.out (fun h => e3 (by
                    have h2 : x.ws = y.ws := congrArg Prod.snd h
                    have h3 := X1.out
                    rw [h2, Y1.out] at h3
                    exact (Option.some.inj h3).symm))
                  have g1 : ((x1 : Int) != (y1 : Int)) = true := bne_iff_ne.2 (by omega)
                  have g1' : ((x1 : Int) == (y1 : Int)) = false := beq_eq_false_iff_ne.2 (by omega)
                  go_wp2
                  go_quiet (fail)
                  go_wp2
                  go_ret
                  exact ⟨rfl, bel_drewN BE.out _⟩
              · obtain rfl : j = N := by omega
                have hws : x.ws = y.ws := by
                  have := HTJ.out
                  rwa [List.take_of_length_le (by rw [HXN.out]; omega), List.take_of_length_le (by rw [HYN.out]; omega)] at this
                have hpr : x.pr = y.pr := by show (x.a, x.ws) = (y.a, y.ws); rw [E1.out, hws]
                have HPR := Lib.hid hpr
                clear hws hpr hbe
                go_wp2
                go_roundw
                case rel => first | exact ⟨k + 1, by omega, by go_num, take_next HTK.out HX.out HY.out HPR.out, BE.out⟩ | ((repeat apply Exists.intro); exact ⟨⟨k + 1, by omega, by go_num, take_next HTK.out HX.out HY.out HPR.out, BE.out⟩, rfl⟩)
                case measure => simp [intOf]; omega
      · obtain rfl : k = n := by omega
        have hq : r = true := by
          rw [← HR.out]
          refine decide_eq_true ?_
          have := HTK.out
          rwa [List.take_of_length_le (by simp [HNA.out]), List.take_of_length_le (by simp [HNB.out])] at this
        subst hq
        go_wp2
        go_ret
        exact ⟨rfl, hbe⟩
end Go.Proofs.Ytkilpiiljpeamaa
