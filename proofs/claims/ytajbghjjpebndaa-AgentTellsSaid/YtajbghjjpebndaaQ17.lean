/- The walk of the reference of layer 17: Same. The walks of the reference of layer 19: Same, Whole. The walk of StagePuts. -/
import Derived.Test.YtajbghjjpebndaaQ13
import Derived.BigQuiet
import Derived.Deep.QuietTactic
import Derived.Test.YtajbghjjpebndaaQ16
import Derived.Test.YtajbghjjpebndaaQ14
namespace Go.Proofs.Ytajbghjjpebndaa
set_option maxRecDepth 100000
open Go.RowKit
set_option linter.unusedVariables false
attribute [local go_sem] Later.cell Later.frozen setCell_twice
theorem take_next {α : Type} {l m : List α} {k : Nat} {x y : α} (h : l.take k = m.take k) (hx : l[k]? = some x) (hy : m[k]? = some y) (e : x = y) : l.take (k + 1) = m.take (k + 1) := by
  rw [List.take_add_one, List.take_add_one, h, hx, hy, e]
set_option maxRecDepth 100000 in
set_option maxHeartbeats 2000000 in
theorem rsameB_any (A B : Option Addr) (la lb : List Blk) (ca cb n m : Nat) (r : Bool) (w : World) (hna : la.length = n) (hnb : lb.length = m) (ha : Blks w w.heap.size A la) (hb : Blks w w.heap.size B lb) (hn : la.length ≤ 9223372036854775807) (hca : n ≤ ca) (hcb : m ≤ cb) (hr : decide (prs la = prs lb) = r) :
    Calls Try.prog 86 #[.slice A n ca, .slice B m cb] w fun e w' => e = .returned (.bool r) ∧ Below w.heap.size w w' := by
  by_cases hnm : n = m
  rotate_left
  · obtain rfl : r = false := by rw [← hr]; exact decide_eq_false (fun h => hnm (by have := congrArg List.length h; simp at this; omega))
    have g1 : ((n : Int) != (m : Int)) = true := bne_iff_ne.2 (by omega)
    have g1' : ((n : Int) == (m : Int)) = false := beq_eq_false_iff_ne.2 (by omega)
    clear hr
    go_enter Try.func86, Try.ntmps86
    go_wp2
    go_ret
    exact ⟨rfl, (by repeat (first | with_reducible exact Below.refl _ _ | with_reducible refine bel_later _ ?_ | with_reducible refine bel_alloc ?_ _ | refine bel_set ?_ (by first | omega | (simp; done) | (simp; omega)) _ | with_reducible refine Below.drew ?_ | with_reducible refine bel_drewN ?_ _ | with_reducible assumption | assumption))⟩
  · subst hnm
    have HR := Lib.hid hr
    have HNA := Lib.hid hna
    have HNB := Lib.hid hnb
    have hnn : n ≤ 9223372036854775807 := by omega
    clear hr hna hnb
    go_enter Try.func86, Try.ntmps86
    go_wp2
    go_loopw [5] (fun i wr => ∃ k : Nat, k ≤ n ∧ i = .int .i64 k ∧ (prs la).take k = (prs lb).take k ∧ Below w.heap.size w wr) (fun i _ => n - (intOf i).toNat)
    case atStart => exact ⟨0, by omega, rfl, by simp, Below.refl _ _⟩
    case round =>
      obtain ⟨k, hk, rfl, htk, hbe⟩ := hrel
      have HTK := Lib.hid htk
      clear htk
      obtain ⟨wo, hwo⟩ : ∃ wo : World, wo = wr := ⟨_, rfl⟩
      by_cases hlt : k < n
      · obtain ⟨g, o, x, rfl, hg, hx, hxo, hw0, hw1⟩ := ha.at_ (k := k) (by rw [HNA.out]; exact hlt)
        obtain ⟨g', o', y, rfl, hg', hy, hyo, hv0, hv1⟩ := hb.at_ (k := k) (by rw [HNB.out]; exact hlt)
        have kC := Lib.hid (fun W (hW : Below w.heap.size w W) => (⟨(hW.cell (p := ⟨g, o + k * 2, none⟩) hg).trans hw0, (hW.cell (p := ⟨g, o + k * 2 + 1, none⟩) hg).trans hw1⟩ : W.cell? ⟨g, o + k * 2, none⟩ = some (.int .i64 x.a) ∧ W.cell? ⟨g, o + k * 2 + 1, none⟩ = some (.slice x.A x.ws.length x.c)))
        have kD := Lib.hid (fun W (hW : Below w.heap.size w W) => (⟨(hW.cell (p := ⟨g', o' + k * 2, none⟩) hg').trans hv0, (hW.cell (p := ⟨g', o' + k * 2 + 1, none⟩) hg').trans hv1⟩ : W.cell? ⟨g', o' + k * 2, none⟩ = some (.int .i64 y.a) ∧ W.cell? ⟨g', o' + k * 2 + 1, none⟩ = some (.slice y.A y.ws.length y.c)))
        have hc0 := (kC.out _ hbe).1
        have hc1 := (kC.out _ hbe).2
        have hd0 := (kD.out _ hbe).1
        have hd1 := (kD.out _ hbe).2
        have hltI : (k : Int) < (n : Int) := by omega
        have h0I : (0 : Int) ≤ (k : Int) := by omega
        have hkca : (k : Int) < (ca : Int) := by omega
        have hkcb : (k : Int) < (cb : Int) := by omega
        have HX := Lib.hid (prs_get hx)
        have HY := Lib.hid (prs_get hy)
        have hno : x.pr ≠ y.pr → r = false := fun hne => by
          rw [← HR.out]
          refine decide_eq_false (fun h => hne ?_)
          have h1 := HX.out
          rw [h, HY.out] at h1
          exact (Option.some.inj h1).symm
        have HNO := Lib.hid hno
        have XO := Lib.hid hxo
        have YO := Lib.hid hyo
        have BE := Lib.hid hbe
        clear hx hy hno hxo hyo hbe hwo hw0 hw1 hv0 hv1
        by_cases e1 : x.a = y.a
        rotate_left
        · obtain rfl : r = false := HNO.out (fun h => e1 (congrArg Prod.fst h))
          have g1 : (x.a != y.a) = true := bne_iff_ne.2 e1
          have g1' : (x.a == y.a) = false := beq_eq_false_iff_ne.2 e1
          clear e1
          go_wp2
          go_quiet (fail)
          go_wp2
          go_ret
          exact ⟨rfl, bel_drewN BE.out _⟩
        · by_cases e2 : x.ws.length = y.ws.length
          rotate_left
          · obtain rfl : r = false := HNO.out (fun h => e2 (congrArg (fun q : Bk.Pr => q.2.length) h))
            have g1 : (x.a != y.a) = false := by simp [e1]
            have g2 : ((x.ws.length : Int) != (y.ws.length : Int)) = true := bne_iff_ne.2 (by omega)
            have g2' : ((x.ws.length : Int) == (y.ws.length : Int)) = false := beq_eq_false_iff_ne.2 (by omega)
            have E1 := Lib.hid e1
            rw [e1] at hc0 g1
            clear e1 e2 E1
            go_wp2
            go_quiet (fail)
            go_wp2
            go_ret
            exact ⟨rfl, bel_drewN BE.out _⟩
          · have E1 := Lib.hid e1
            have E2 := Lib.hid e2
            rw [e1] at hc0
            rw [e2] at hc1
            clear e1 e2
            go_wp2
            go_quiet (fail)
            have BD := Lib.hid (bel_drewN BE.out nq)
            clear hc0 hc1 hd0 hd1
            go_wp2
            obtain ⟨N, hN⟩ : ∃ N, y.ws.length = N := ⟨_, rfl⟩
            have hxN : x.ws.length = N := E2.out.trans hN
            have HXN := Lib.hid hxN
            have HYN := Lib.hid hN
            have hNb : N ≤ 9223372036854775807 := by rw [← hN]; exact Nat.le_trans YO.out.ln YO.out.cap
            clear hN hxN
            go_loopw [6] (fun i wr => ∃ j : Nat, j ≤ N ∧ i = .int .i64 j ∧ x.ws.take j = y.ws.take j ∧ Below w.heap.size w wr) (fun i _ => N - (intOf i).toNat)
            case atStart => exact ⟨0, by omega, rfl, by simp, BD.out⟩
            case round =>
              obtain ⟨j, hj, rfl, htj, hbe⟩ := hrel
              have HTJ := Lib.hid htj
              have hc1 := (kC.out _ hbe).2
              have hd1 := (kD.out _ hbe).2
              rw [HXN.out] at hc1
              rw [HYN.out] at hd1
              have BE := Lib.hid hbe
              clear htj
              by_cases hlj : j < N
              · obtain ⟨b1, o1, x1, hA1, hb1, hx1, hcx⟩ := (XO.out.sq.below hbe).at_ (j := j) (by rw [HXN.out]; exact hlj)
                obtain ⟨b2, o2, y1, hA2, hb2, hy1, hcy⟩ := (YO.out.sq.below hbe).at_ (j := j) (by rw [HYN.out]; exact hlj)
                rw [hA1] at hc1
                rw [hA2] at hd1
                have hjI : (j : Int) < (N : Int) := by omega
                have h0J : (0 : Int) ≤ (j : Int) := by omega
                have X1 := Lib.hid hx1
                have Y1 := Lib.hid hy1
                clear hx1 hy1 hbe hA1 hA2
                by_cases e3 : x1 = y1
                · have HE := Lib.hid e3
                  subst e3
                  go_wp2
                  go_quiet (fail)
                  go_wp2
                  go_roundw
                  case rel => first | exact ⟨j + 1, by omega, by go_num, take_next HTJ.out X1.out Y1.out rfl, bel_drewN BE.out _⟩ | ((repeat apply Exists.intro); exact ⟨⟨j + 1, by omega, by go_num, take_next HTJ.out X1.out Y1.out rfl, bel_drewN BE.out _⟩, rfl⟩)
                  case measure => simp [intOf]; omega
                · obtain rfl : r = false := HNO.out (fun h => e3 (by
                    have h2 : x.ws = y.ws := congrArg Prod.snd h
                    have h3 := X1.out
                    rw [h2, Y1.out] at h3
                    exact (Option.some.inj h3).symm))
                  have g1 : ((x1 : Int) != (y1 : Int)) = true := bne_iff_ne.2 (by omega)
                  have g1' : ((x1 : Int) == (y1 : Int)) = false := beq_eq_false_iff_ne.2 (by omega)
                  go_wp2
                  go_quiet (fail)
                  go_wp2
                  go_ret
                  exact ⟨rfl, bel_drewN BE.out _⟩
              · obtain rfl : j = N := by omega
                have hws : x.ws = y.ws := by
                  have := HTJ.out
                  rwa [List.take_of_length_le (by rw [HXN.out]; omega), List.take_of_length_le (by rw [HYN.out]; omega)] at this
                have hpr : x.pr = y.pr := by show (x.a, x.ws) = (y.a, y.ws); rw [E1.out, hws]
                have HPR := Lib.hid hpr
                clear hws hpr hbe
                go_wp2
                go_roundw
                case rel => first | exact ⟨k + 1, by omega, by go_num, take_next HTK.out HX.out HY.out HPR.out, BE.out⟩ | ((repeat apply Exists.intro); exact ⟨⟨k + 1, by omega, by go_num, take_next HTK.out HX.out HY.out HPR.out, BE.out⟩, rfl⟩)
                case measure => simp [intOf]; omega
      · obtain rfl : k = n := by omega
        have hq : r = true := by
          rw [← HR.out]
          refine decide_eq_true ?_
          have := HTK.out
          rwa [List.take_of_length_le (by simp [HNA.out]), List.take_of_length_le (by simp [HNB.out])] at this
        subst hq
        go_wp2
        go_ret
        exact ⟨rfl, hbe⟩
end Go.Proofs.Ytajbghjjpebndaa
namespace Go.Proofs.Ytajbghjjpebndaa
set_option maxRecDepth 100000
open Go.RowKit
set_option linter.unusedVariables false
set_option linter.unusedSimpArgs false
attribute [local go_sem] Later.cell Later.frozen setCell_twice
set_option maxRecDepth 100000 in
set_option maxHeartbeats 1000000 in
theorem rsameS_S {s s' : Stv} {B B' tx tx' : Nat} {S S' : SS} (r : Bool) (w : World) (hs : s.Is w B tx S) (hs' : s'.Is w B' tx' S') (hr : decide (tx = tx' ∧ S = S') = r) :
    Calls Try.prog 64 #[.agg s.C.toArray, .agg s'.C.toArray] w fun e w' => e = .returned (.bool r) ∧ Below w.heap.size w w' := by
  have hiff := same_iff hs hs'
  have hR2 : RowAt ((w.alloc (.cells s.C.toArray 33)).alloc (.cells s'.C.toArray 33)) w.heap.size 33 s.C := RowAt.alloc (RowAt.new w 33 s.C) _
  have hR3 : RowAt ((w.alloc (.cells s.C.toArray 33)).alloc (.cells s'.C.toArray 33)) (w.heap.size + 1) 33 s'.C := by
    have := RowAt.new (w.alloc (.cells s.C.toArray 33)) 33 s'.C
    simpa using this
  have hC2 := hs.C25
  have hC3 := hs'.C25
  have c20 : ∀ W, RowAt W w.heap.size 33 s.C → W.cell? ⟨w.heap.size, 0, none⟩ = some (.int .u32 (s.tx : Int)) := fun W h => h.cell (Stv.C_tx s)
  have c30 : ∀ W, RowAt W (w.heap.size + 1) 33 s'.C → W.cell? ⟨w.heap.size + 1, 0, none⟩ = some (.int .u32 (s'.tx : Int)) := fun W h => h.cell (Stv.C_tx s')
  have htx : s.tx = tx := hs.tx
  have htx' : s'.tx = tx' := hs'.tx
  rw [htx] at c20
  rw [htx'] at c30
  by_cases h1 : tx = tx'
  · subst h1
    have g1 : ((tx : Int) == (tx : Int)) = true := by simp
    have hlen2 : (s.hs.map Value.bool).length = 8 := by simp [hs.ok.lh]
    have hlen3 : (s'.hs.map Value.bool).length = 8 := by simp [hs'.ok.lh]
    have q2 : ∀ W, RowAt W w.heap.size 33 s.C → W.rangeAt w.heap.size 1 (s.hs.map Value.bool) := fun W h => by
      have := h.range 1 8
      rwa [Stv.C_haves hs.ok.lh] at this
    have q3 : ∀ W, RowAt W (w.heap.size + 1) 33 s'.C → W.rangeAt (w.heap.size + 1) 1 (s'.hs.map Value.bool) := fun W h => by
      have := h.range 1 8
      rwa [Stv.C_haves hs'.ok.lh] at this
    by_cases h2 : s.hs = s'.hs
    · have hrt : decide (ssThere S = ssThere S') = r := by
        rw [← hr, decide_eq_decide]
        exact ⟨fun h => ⟨rfl, hiff.1 ⟨h2, h⟩⟩, fun h => (hiff.2 h.2).2⟩
      have keq := fun W => run_eql_bools (P := Try.prog) W 28 4 8 Try.underlying28 Try.underlying4 (fun _ => by kernel_rfl) s.hs s'.hs hs.ok.lh hs'.ok.lh true (by simpa using h2)
      have kA := Lib.hid (fun W (h : Below w.heap.size w W) => rblocks_S W (hs.to h))
      have kB := Lib.hid (fun W (h : Below w.heap.size w W) => rblocks_S W (hs'.to h))
      have ks := Lib.hid (fun W (A A' : Option Addr) (l l' : List Blk) (c c' : Nat) (hp : prs l = ssThere S) (hp' : prs l' = ssThere S') (h : Blks W W.heap.size A l) (h' : Blks W W.heap.size A' l') (hc : l.length ≤ c) (hc' : l'.length ≤ c') (hcc : c ≤ 9223372036854775807) =>
        rsameB_any A A' l l' c c' _ _ r W rfl rfl h h' (by omega) hc hc' (by rw [hp, hp']; exact hrt))
      have HTX := Lib.hid htx
      have HTX' := Lib.hid htx'
      clear hr hiff h2 htx htx' hrt
      have r2 := hR2
      have r3 := hR3
      go_enter Try.func64, Try.ntmps64
      go_wp2
      refine wp_region_held_drew (S := (fun w' => RowAt w' w.heap.size 33 s.C ∧ RowAt w' (w.heap.size + 1) 33 s'.C)) (by kernel_rfl) ?_ (fun hHeld => ?_)
      · exact ⟨hR2, hR3⟩
      refine takeD (i := 0) (oi := _) (v := ?vv27) (d := some 5) rfl (by kernel_rfl) (by kernel_rfl) (by kernel_rfl) (by kernel_rfl) (fun _ _ _ h => h) (Or.inl ⟨by kernel_rfl, ?_⟩) (by assumption) ?_
      rotate_left 1
      · intro W_ hSw; (try dsimp only at hSw); go_simp; (first | done | with_reducible rfl)
      try simp only [Act.put, List.setIfInBounds_toArray, List.set_cons_zero, List.set_cons_succ]
      refine takeD (i := 1) (oi := _) (v := ?vv28) (d := some 6) rfl (by kernel_rfl) (by kernel_rfl) (by kernel_rfl) (by kernel_rfl) (fun _ _ _ h => h) (Or.inl ⟨by kernel_rfl, ?_⟩) (by assumption) ?_
      rotate_left 1
      · intro W_ hSw; (try dsimp only at hSw); go_simp; (first | done | with_reducible rfl)
      try simp only [Act.put, List.setIfInBounds_toArray, List.set_cons_zero, List.set_cons_succ]
      refine takeD (i := 2) (oi := _) (v := ?vv29) (d := some 7) rfl (by kernel_rfl) (by kernel_rfl) (by kernel_rfl) (by kernel_rfl) (fun _ _ _ h => h) (Or.inl ⟨by kernel_rfl, ?_⟩) (by assumption) ?_
      rotate_left 1
      · intro W_ hSw; (try dsimp only at hSw); go_simp; (first | done | with_reducible rfl)
      try simp only [Act.put, List.setIfInBounds_toArray, List.set_cons_zero, List.set_cons_succ]
      refine takeD (i := 3) (oi := _) (v := ?vv30) (d := some 8) rfl (by kernel_rfl) (by kernel_rfl) (by kernel_rfl) (by kernel_rfl) (fun _ _ _ h => h) (Or.inl ⟨by kernel_rfl, ?_⟩) (by assumption) ?_
      rotate_left 1
      · intro W_ hSw; (try dsimp only at hSw); go_simp; (first | done | with_reducible rfl)
      try simp only [Act.put, List.setIfInBounds_toArray, List.set_cons_zero, List.set_cons_succ]
      refine takeD (i := 4) (oi := _) (v := ?vv31) (d := some 9) rfl (by kernel_rfl) (by kernel_rfl) (by kernel_rfl) (by kernel_rfl) (fun _ _ _ h => h) (Or.inl ⟨by kernel_rfl, ?_⟩) (by assumption) ?_
      rotate_left 1
      · intro W_ hSw; (try dsimp only at hSw); go_simp; (first | done | with_reducible rfl)
      try simp only [Act.put, List.setIfInBounds_toArray, List.set_cons_zero, List.set_cons_succ]
      refine takeD (i := 5) (oi := _) (v := ?vv32) (d := some 10) rfl (by kernel_rfl) (by kernel_rfl) (by kernel_rfl) (by kernel_rfl) (fun _ _ _ h => h) (Or.inl ⟨by kernel_rfl, ?_⟩) (by assumption) ?_
      rotate_left 1
      · intro W_ hSw; (try dsimp only at hSw); go_simp; (first | done | with_reducible rfl)
      try simp only [Act.put, List.setIfInBounds_toArray, List.set_cons_zero, List.set_cons_succ]
      refine takeD (i := 6) (oi := _) (v := ?vv33) (d := some 11) rfl (by kernel_rfl) (by kernel_rfl) (by kernel_rfl) (by kernel_rfl) (fun _ _ _ h => h) (Or.inl ⟨by kernel_rfl, ?_⟩) (by assumption) ?_
      rotate_left 1
      · intro W_ hSw; (try dsimp only at hSw); go_simp; (first | done | with_reducible rfl)
      try simp only [Act.put, List.setIfInBounds_toArray, List.set_cons_zero, List.set_cons_succ]
      refine takeD (i := 7) (oi := _) (v := _) (d := some 12) rfl (by kernel_rfl) (by kernel_rfl) (by kernel_rfl) (by kernel_rfl) (fun _ _ _ h => h) (yieldsIf_load_mid (by kernel_rfl) 28 (.tmp 11) (by kernel_rfl) w.heap.size 1 (by kernel_rfl) (s.hs.map Value.bool) _ (fun W h => q2 W h.1) Try.underlying28 rfl (by rw [hlen2]; exact size_haves)) (by assumption) ?_
      try simp only [Act.put, List.setIfInBounds_toArray, List.set_cons_zero, List.set_cons_succ]
      refine takeD (i := 8) (oi := _) (v := ?vv34) (d := some 13) rfl (by kernel_rfl) (by kernel_rfl) (by kernel_rfl) (by kernel_rfl) (fun _ _ _ h => h) (Or.inl ⟨by kernel_rfl, ?_⟩) (by assumption) ?_
      rotate_left 1
      · intro W_ hSw; (try dsimp only at hSw); go_simp; (first | done | with_reducible rfl)
      try simp only [Act.put, List.setIfInBounds_toArray, List.set_cons_zero, List.set_cons_succ]
      refine takeD (i := 9) (oi := _) (v := _) (d := some 14) rfl (by kernel_rfl) (by kernel_rfl) (by kernel_rfl) (by kernel_rfl) (fun _ _ _ h => h) (yieldsIf_load_mid (by kernel_rfl) 28 (.tmp 13) (by kernel_rfl) (w.heap.size + 1) 1 (by kernel_rfl) (s'.hs.map Value.bool) _ (fun W h => q3 W h.2) Try.underlying28 rfl (by rw [hlen3]; exact size_haves)) (by assumption) ?_
      try simp only [Act.put, List.setIfInBounds_toArray, List.set_cons_zero, List.set_cons_succ]
      refine takeD (i := 10) (oi := _) (v := ?vv35) (d := some 15) rfl (by kernel_rfl) (by kernel_rfl) (by kernel_rfl) (by kernel_rfl) (fun _ _ _ h => h) (Or.inl ⟨by kernel_rfl, ?_⟩) (by assumption) ?_
      rotate_left 1
      · intro W_ hSw; (try dsimp only at hSw); go_simp; (first | done | with_reducible rfl)
      try simp only [Act.put, List.setIfInBounds_toArray, List.set_cons_zero, List.set_cons_succ]
      refine takeD (i := 11) (oi := _) (v := ?vv36) (d := some 16) rfl (by kernel_rfl) (by kernel_rfl) (by kernel_rfl) (by kernel_rfl) (fun _ _ _ h => h) (Or.inl ⟨by kernel_rfl, ?_⟩) (by assumption) ?_
      rotate_left 1
      · intro W_ hSw; (try dsimp only at hSw); go_simp; (first | done | with_reducible rfl)
      try simp only [Act.put, List.setIfInBounds_toArray, List.set_cons_zero, List.set_cons_succ]
      refine takeD (i := 12) (oi := _) (v := ?vv37) (d := some 17) rfl (by kernel_rfl) (by kernel_rfl) (by kernel_rfl) (by kernel_rfl) (fun _ _ _ h => h) (Or.inl ⟨by kernel_rfl, ?_⟩) (by assumption) ?_
      rotate_left 1
      · intro W_ hSw; (try dsimp only at hSw); go_simp; (first | done | with_reducible rfl)
      try simp only [Act.put, List.setIfInBounds_toArray, List.set_cons_zero, List.set_cons_succ]
      refine takeD (i := 13) (oi := _) (v := _) (d := some 18) rfl (by kernel_rfl) (by kernel_rfl) (by kernel_rfl) (by kernel_rfl) (fun _ _ _ h => h) (yieldsIf_load_mid (by kernel_rfl) 33 (.tmp 2) (by kernel_rfl) w.heap.size 0 (by kernel_rfl) s.C _ (fun W h => h.1.all) Try.underlying33 rfl (by rw [size_25, hC2])) (by assumption) ?_
      try simp only [Act.put, List.setIfInBounds_toArray, List.set_cons_zero, List.set_cons_succ]
      refine takeD (i := 15) (oi := _) (v := _) (d := some 20) rfl (by kernel_rfl) (by kernel_rfl) (by kernel_rfl) (by kernel_rfl) (fun _ _ _ h => h) (yieldsIf_load_mid (by kernel_rfl) 33 (.tmp 3) (by kernel_rfl) (w.heap.size + 1) 0 (by kernel_rfl) s'.C _ (fun W h => h.2.all) Try.underlying33 rfl (by rw [size_25, hC3])) (by assumption) ?_
      try simp only [Act.put, List.setIfInBounds_toArray, List.set_cons_zero, List.set_cons_succ]
      refine wpAnyH_ready (rs := [14]) (by kernel_rfl) (by simp) ?_
      refine AllReadyH.cons (o := _) rfl (fun K hK => ?_) AllReadyH.nil
      go_simp
      (go_at_call 52; (with_reducible refine (kA.out _ (bel_alloc (bel_alloc (Below.refl _ _) _) _).drew).mono ?_); rintro e w3 ⟨A3, c3, bl3, rfl, hp3, hB3, hl3, hc3, hn3, hb3⟩; have r23 := hR2.drew.to hb3; have r33 := hR3.drew.to hb3; have hbw3 : Below w.heap.size w w3 := (bel_alloc (bel_alloc (Below.refl _ _) _) _).drew.trans (hb3.mono (by simp; omega)))
      go_wp2_with fail
      refine hK.out _ _ ?_ (fun hHeld => ?_)
      · exact ⟨r23, r33⟩
      clear hK K
      try simp only [Act.put, List.setIfInBounds_toArray, List.set_cons_zero, List.set_cons_succ]
      refine wpAnyH_ready (rs := [16]) (by kernel_rfl) (by simp) ?_
      refine AllReadyH.cons (o := _) rfl (fun K hK => ?_) AllReadyH.nil
      go_simp
      (go_at_call 52; (with_reducible refine (kB.out _ hbw3).mono ?_); rintro e w4 ⟨A4, c4, bl4, rfl, hp4, hB4, hl4, hc4, hn4, hb4⟩; have r24 := r23.to hb4; have r34 := r33.to hb4; have hB34 := hB3.to hb4; have hbw4 : Below w.heap.size w w4 := hbw3.trans (hb4.mono hbw3.size))
      go_wp2_with fail
      refine hK.out _ _ ?_ (fun hHeld => ?_)
      · exact ⟨r24, r34⟩
      clear hK K
      try simp only [Act.put, List.setIfInBounds_toArray, List.set_cons_zero, List.set_cons_succ]
      refine wpAnyH_ready (rs := [17]) (by kernel_rfl) (by simp) ?_
      refine AllReadyH.cons (o := _) rfl (fun K hK => ?_) AllReadyH.nil
      go_simp
      (go_at_call 86; (with_reducible refine (ks.out _ _ _ _ _ _ _ hp3 hp4 hB34 hB4 hl3 hl4 hc3).mono ?_); rintro e w5 ⟨rfl, hb5⟩; have r25 := r24.to hb5; have r35 := r34.to hb5; have hbw5 : Below w.heap.size w w5 := hbw4.trans (hb5.mono hbw4.size))
      go_wp2_with fail
      refine hK.out _ _ ?_ (fun hHeld => ?_)
      · exact ⟨r25, r35⟩
      clear hK K
      try simp only [Act.put, List.setIfInBounds_toArray, List.set_cons_zero, List.set_cons_succ]
      refine takeD (i := 18) (oi := _) (v := ?vv38) (d := some 23) rfl (by kernel_rfl) (by kernel_rfl) (by kernel_rfl) (by kernel_rfl) (fun _ _ _ h => h) (Or.inl ⟨by kernel_rfl, ?_⟩) (by assumption) ?_
      rotate_left 1
      · intro W_ hSw; (try dsimp only at hSw); go_simp; (first | done | with_reducible rfl)
      try simp only [Act.put, List.setIfInBounds_toArray, List.set_cons_zero, List.set_cons_succ]
      refine takeD (i := 19) (oi := _) (v := ?vv39) (d := some 4) rfl (by kernel_rfl) (by kernel_rfl) (by kernel_rfl) (by kernel_rfl) (fun _ _ _ h => h) (Or.inl ⟨by kernel_rfl, ?_⟩) (by assumption) ?_
      rotate_left 1
      · intro W_ hSw; (try dsimp only at hSw); go_simp; (first | done | with_reducible rfl)
      try simp only [Act.put, List.setIfInBounds_toArray, List.set_cons_zero, List.set_cons_succ]
      refine wpAnyH_done (by kernel_rfl) ?_ _
      go_wp2
      go_ret
      exact ⟨rfl, hbw5⟩
    · obtain rfl : r = false := by rw [← hr]; simp; exact fun e => h2 (hiff.2 e).1
      have keq := fun W => run_eql_bools (P := Try.prog) W 28 4 8 Try.underlying28 Try.underlying4 (fun _ => by kernel_rfl) s.hs s'.hs hs.ok.lh hs'.ok.lh false (by simpa using h2)
      clear hr hiff h2 htx htx'
      go_enter Try.func64, Try.ntmps64
      go_wp2
      refine wp_region_held_drew (S := (fun w' => RowAt w' w.heap.size 33 s.C ∧ RowAt w' (w.heap.size + 1) 33 s'.C)) (by kernel_rfl) ?_ (fun hHeld => ?_)
      · exact ⟨hR2, hR3⟩
      refine takeD (i := 0) (oi := _) (v := ?vv40) (d := some 5) rfl (by kernel_rfl) (by kernel_rfl) (by kernel_rfl) (by kernel_rfl) (fun _ _ _ h => h) (Or.inl ⟨by kernel_rfl, ?_⟩) (by assumption) ?_
      rotate_left 1
      · intro W_ hSw; (try dsimp only at hSw); go_simp; (first | done | with_reducible rfl)
      try simp only [Act.put, List.setIfInBounds_toArray, List.set_cons_zero, List.set_cons_succ]
      refine takeD (i := 1) (oi := _) (v := ?vv41) (d := some 6) rfl (by kernel_rfl) (by kernel_rfl) (by kernel_rfl) (by kernel_rfl) (fun _ _ _ h => h) (Or.inl ⟨by kernel_rfl, ?_⟩) (by assumption) ?_
      rotate_left 1
      · intro W_ hSw; (try dsimp only at hSw); go_simp; (first | done | with_reducible rfl)
      try simp only [Act.put, List.setIfInBounds_toArray, List.set_cons_zero, List.set_cons_succ]
      refine takeD (i := 2) (oi := _) (v := ?vv42) (d := some 7) rfl (by kernel_rfl) (by kernel_rfl) (by kernel_rfl) (by kernel_rfl) (fun _ _ _ h => h) (Or.inl ⟨by kernel_rfl, ?_⟩) (by assumption) ?_
      rotate_left 1
      · intro W_ hSw; (try dsimp only at hSw); go_simp; (first | done | with_reducible rfl)
      try simp only [Act.put, List.setIfInBounds_toArray, List.set_cons_zero, List.set_cons_succ]
      refine takeD (i := 3) (oi := _) (v := ?vv43) (d := some 8) rfl (by kernel_rfl) (by kernel_rfl) (by kernel_rfl) (by kernel_rfl) (fun _ _ _ h => h) (Or.inl ⟨by kernel_rfl, ?_⟩) (by assumption) ?_
      rotate_left 1
      · intro W_ hSw; (try dsimp only at hSw); go_simp; (first | done | with_reducible rfl)
      try simp only [Act.put, List.setIfInBounds_toArray, List.set_cons_zero, List.set_cons_succ]
      refine takeD (i := 4) (oi := _) (v := ?vv44) (d := some 9) rfl (by kernel_rfl) (by kernel_rfl) (by kernel_rfl) (by kernel_rfl) (fun _ _ _ h => h) (Or.inl ⟨by kernel_rfl, ?_⟩) (by assumption) ?_
      rotate_left 1
      · intro W_ hSw; (try dsimp only at hSw); go_simp; (first | done | with_reducible rfl)
      try simp only [Act.put, List.setIfInBounds_toArray, List.set_cons_zero, List.set_cons_succ]
      refine takeD (i := 5) (oi := _) (v := ?vv45) (d := some 10) rfl (by kernel_rfl) (by kernel_rfl) (by kernel_rfl) (by kernel_rfl) (fun _ _ _ h => h) (Or.inl ⟨by kernel_rfl, ?_⟩) (by assumption) ?_
      rotate_left 1
      · intro W_ hSw; (try dsimp only at hSw); go_simp; (first | done | with_reducible rfl)
      try simp only [Act.put, List.setIfInBounds_toArray, List.set_cons_zero, List.set_cons_succ]
      refine takeD (i := 6) (oi := _) (v := ?vv46) (d := some 11) rfl (by kernel_rfl) (by kernel_rfl) (by kernel_rfl) (by kernel_rfl) (fun _ _ _ h => h) (Or.inl ⟨by kernel_rfl, ?_⟩) (by assumption) ?_
      rotate_left 1
      · intro W_ hSw; (try dsimp only at hSw); go_simp; (first | done | with_reducible rfl)
      try simp only [Act.put, List.setIfInBounds_toArray, List.set_cons_zero, List.set_cons_succ]
      refine takeD (i := 7) (oi := _) (v := _) (d := some 12) rfl (by kernel_rfl) (by kernel_rfl) (by kernel_rfl) (by kernel_rfl) (fun _ _ _ h => h) (yieldsIf_load_mid (by kernel_rfl) 28 (.tmp 11) (by kernel_rfl) w.heap.size 1 (by kernel_rfl) (s.hs.map Value.bool) _ (fun W h => q2 W h.1) Try.underlying28 rfl (by rw [hlen2]; exact size_haves)) (by assumption) ?_
      try simp only [Act.put, List.setIfInBounds_toArray, List.set_cons_zero, List.set_cons_succ]
      refine takeD (i := 8) (oi := _) (v := ?vv47) (d := some 13) rfl (by kernel_rfl) (by kernel_rfl) (by kernel_rfl) (by kernel_rfl) (fun _ _ _ h => h) (Or.inl ⟨by kernel_rfl, ?_⟩) (by assumption) ?_
      rotate_left 1
      · intro W_ hSw; (try dsimp only at hSw); go_simp; (first | done | with_reducible rfl)
      try simp only [Act.put, List.setIfInBounds_toArray, List.set_cons_zero, List.set_cons_succ]
      refine takeD (i := 9) (oi := _) (v := _) (d := some 14) rfl (by kernel_rfl) (by kernel_rfl) (by kernel_rfl) (by kernel_rfl) (fun _ _ _ h => h) (yieldsIf_load_mid (by kernel_rfl) 28 (.tmp 13) (by kernel_rfl) (w.heap.size + 1) 1 (by kernel_rfl) (s'.hs.map Value.bool) _ (fun W h => q3 W h.2) Try.underlying28 rfl (by rw [hlen3]; exact size_haves)) (by assumption) ?_
      try simp only [Act.put, List.setIfInBounds_toArray, List.set_cons_zero, List.set_cons_succ]
      refine takeD (i := 10) (oi := _) (v := ?vv48) (d := some 15) rfl (by kernel_rfl) (by kernel_rfl) (by kernel_rfl) (by kernel_rfl) (fun _ _ _ h => h) (Or.inl ⟨by kernel_rfl, ?_⟩) (by assumption) ?_
      rotate_left 1
      · intro W_ hSw; (try dsimp only at hSw); go_simp; (first | done | with_reducible rfl)
      try simp only [Act.put, List.setIfInBounds_toArray, List.set_cons_zero, List.set_cons_succ]
      refine takeD (i := 11) (oi := _) (v := ?vv49) (d := some 16) rfl (by kernel_rfl) (by kernel_rfl) (by kernel_rfl) (by kernel_rfl) (fun _ _ _ h => h) (Or.inl ⟨by kernel_rfl, ?_⟩) (by assumption) ?_
      rotate_left 1
      · intro W_ hSw; (try dsimp only at hSw); go_simp; (first | done | with_reducible rfl)
      try simp only [Act.put, List.setIfInBounds_toArray, List.set_cons_zero, List.set_cons_succ]
      refine takeD (i := 12) (oi := _) (v := ?vv50) (d := some 17) rfl (by kernel_rfl) (by kernel_rfl) (by kernel_rfl) (by kernel_rfl) (fun _ _ _ h => h) (Or.inl ⟨by kernel_rfl, ?_⟩) (by assumption) ?_
      rotate_left 1
      · intro W_ hSw; (try dsimp only at hSw); go_simp; (first | done | with_reducible rfl)
      try simp only [Act.put, List.setIfInBounds_toArray, List.set_cons_zero, List.set_cons_succ]
      refine takeD (i := 13) (oi := _) (v := undef) (d := some 18) rfl (by kernel_rfl) (by kernel_rfl) (by kernel_rfl) (by kernel_rfl) (fun _ _ _ h => h) (Or.inr ⟨by kernel_rfl, rfl⟩) (by assumption) ?_
      try simp only [Act.put, List.setIfInBounds_toArray, List.set_cons_zero, List.set_cons_succ]
      refine takeD (i := 14) (oi := _) (v := undef) (d := some 19) rfl (by kernel_rfl) (by kernel_rfl) (by kernel_rfl) (by kernel_rfl) (fun _ _ _ h => h) (Or.inr ⟨by kernel_rfl, rfl⟩) (by assumption) ?_
      try simp only [Act.put, List.setIfInBounds_toArray, List.set_cons_zero, List.set_cons_succ]
      refine takeD (i := 15) (oi := _) (v := undef) (d := some 20) rfl (by kernel_rfl) (by kernel_rfl) (by kernel_rfl) (by kernel_rfl) (fun _ _ _ h => h) (Or.inr ⟨by kernel_rfl, rfl⟩) (by assumption) ?_
      try simp only [Act.put, List.setIfInBounds_toArray, List.set_cons_zero, List.set_cons_succ]
      refine takeD (i := 16) (oi := _) (v := undef) (d := some 21) rfl (by kernel_rfl) (by kernel_rfl) (by kernel_rfl) (by kernel_rfl) (fun _ _ _ h => h) (Or.inr ⟨by kernel_rfl, rfl⟩) (by assumption) ?_
      try simp only [Act.put, List.setIfInBounds_toArray, List.set_cons_zero, List.set_cons_succ]
      refine takeD (i := 17) (oi := _) (v := undef) (d := some 22) rfl (by kernel_rfl) (by kernel_rfl) (by kernel_rfl) (by kernel_rfl) (fun _ _ _ h => h) (Or.inr ⟨by kernel_rfl, rfl⟩) (by assumption) ?_
      try simp only [Act.put, List.setIfInBounds_toArray, List.set_cons_zero, List.set_cons_succ]
      refine takeD (i := 18) (oi := _) (v := ?vv51) (d := some 23) rfl (by kernel_rfl) (by kernel_rfl) (by kernel_rfl) (by kernel_rfl) (fun _ _ _ h => h) (Or.inl ⟨by kernel_rfl, ?_⟩) (by assumption) ?_
      rotate_left 1
      · intro W_ hSw; (try dsimp only at hSw); go_simp; (first | done | with_reducible rfl)
      try simp only [Act.put, List.setIfInBounds_toArray, List.set_cons_zero, List.set_cons_succ]
      refine takeD (i := 19) (oi := _) (v := ?vv52) (d := some 4) rfl (by kernel_rfl) (by kernel_rfl) (by kernel_rfl) (by kernel_rfl) (fun _ _ _ h => h) (Or.inl ⟨by kernel_rfl, ?_⟩) (by assumption) ?_
      rotate_left 1
      · intro W_ hSw; (try dsimp only at hSw); go_simp; (first | done | with_reducible rfl)
      try simp only [Act.put, List.setIfInBounds_toArray, List.set_cons_zero, List.set_cons_succ]
      refine wpAnyH_done (by kernel_rfl) ?_ _
      go_wp2
      go_ret
      exact ⟨rfl, (by repeat (first | with_reducible exact Below.refl _ _ | with_reducible refine bel_later _ ?_ | with_reducible refine bel_alloc ?_ _ | refine bel_set ?_ (by first | omega | (simp; done) | (simp; omega)) _ | with_reducible refine Below.drew ?_ | with_reducible refine bel_drewN ?_ _ | with_reducible assumption | assumption))⟩
  · obtain rfl : r = false := by rw [← hr]; simp [h1]
    have g1 : ((tx : Int) == (tx' : Int)) = false := beq_eq_false_iff_ne.2 (by omega)
    have c20' := c20 _ hR2
    have c30' := c30 _ hR3
    clear hr hiff c20 c30 h1
    go_enter Try.func64, Try.ntmps64
    go_wp2
    go_quiet (fail)
    go_wp2
    go_ret
    exact ⟨rfl, (by repeat (first | with_reducible exact Below.refl _ _ | with_reducible refine bel_later _ ?_ | with_reducible refine bel_alloc ?_ _ | refine bel_set ?_ (by first | omega | (simp; done) | (simp; omega)) _ | with_reducible refine Below.drew ?_ | with_reducible refine bel_drewN ?_ _ | with_reducible assumption | assumption))⟩
set_option maxRecDepth 100000 in
set_option maxHeartbeats 1000000 in
theorem rwhole_S {s : Stv} {B tx : Nat} {S : SS} (count : Int) (ch : Nat) (r : Bool) (w : World) (hs : s.Is w B tx S) (hr : r = true ↔ SSW S count ch) :
    Calls Try.prog 61 #[.agg s.C.toArray, .int .i64 count, .int .u32 (ch : Int)] w fun e w' => e = .returned (.bool r) ∧ Below w.heap.size w w' := by
  by_cases h1 : count < 0
  · obtain rfl : r = false := no_of hr (fun h => by unfold SSW at h; omega)
    clear hr
    go_enter Try.func61, Try.ntmps61
    go_wp2
    go_ret
    exact ⟨rfl, (by repeat (first | with_reducible exact Below.refl _ _ | with_reducible refine bel_later _ ?_ | with_reducible refine bel_alloc ?_ _ | refine bel_set ?_ (by first | omega | (simp; done) | (simp; omega)) _ | with_reducible refine Below.drew ?_ | with_reducible refine bel_drewN ?_ _ | with_reducible assumption | assumption))⟩
  by_cases h2 : 8 < count
  · obtain rfl : r = false := no_of hr (fun h => by unfold SSW at h; omega)
    clear hr
    go_enter Try.func61, Try.ntmps61
    go_wp2
    go_ret
    exact ⟨rfl, (by repeat (first | with_reducible exact Below.refl _ _ | with_reducible refine bel_later _ ?_ | with_reducible refine bel_alloc ?_ _ | refine bel_set ?_ (by first | omega | (simp; done) | (simp; omega)) _ | with_reducible refine Below.drew ?_ | with_reducible refine bel_drewN ?_ _ | with_reducible assumption | assumption))⟩
  have g1 : decide (count < 0) = false := by simpa using h1
  have g2 : decide (8 < count) = false := by simpa using h2
  have hlo : 0 ≤ count := by omega
  have hhi : count ≤ 8 := by omega
  clear h1 h2
  have HR := Lib.hid (RowAt.new w 33 s.C)
  have HC := Lib.hid hs.C25
  have HRR := Lib.hid hr
  have IS := Lib.hid hs
  clear hr hs
  go_enter Try.func61, Try.ntmps61
  go_wp2
  go_loop [7] (fun i => ∃ k : Nat, k ≤ 8 ∧ i = .int .i64 k ∧ Hid (∀ j, j < k → (S.getD j none).isSome = decide ((j : Int) < count))) (fun i => 8 - (intOf i).toNat)
  case atStart => exact ⟨0, by omega, rfl, Lib.hid (fun j hj => absurd hj (by omega))⟩
  case round =>
    obtain ⟨k, hk, rfl, hall⟩ := hrel
    by_cases hlt : k < 8
    · have hxs : (S.getD k none).isSome = s.hs.getD k false := by rw [← IS.out.S]; exact s.S_isSome hlt
      obtain ⟨x, hxx⟩ : ∃ x, s.hs.getD k false = x := ⟨_, rfl⟩
      have d1 := (HR.out.cells (1 + k)).trans (by rw [Stv.C_have (getD_hs (by rw [IS.out.ok.lh]; exact hlt)), hxx])
      rw [hxx] at hxs
      have hltI : (k : Int) < 8 := by omega
      have h0I : (0 : Int) ≤ (k : Int) := by omega
      obtain ⟨d, hd⟩ : ∃ d, decide ((k : Int) < count) = d := ⟨_, rfl⟩
      by_cases hxd : x = d
      · have HN : Hid (∀ j, j < k + 1 → (S.getD j none).isSome = decide ((j : Int) < count)) := Lib.hid (fun j hj => by
          rcases Nat.lt_or_ge j k with h1 | h1
          · exact hall.out j h1
          · obtain rfl : j = k := by omega
            rw [hxs, hd, hxd])
        subst hxd
        clear hxs hxx
        go_wp2
        go_round
        case rel => exact ⟨k + 1, by omega, by go_num, HN⟩
        case measure => simp [intOf]; omega
      · obtain rfl : r = false := by
          refine no_of HRR.out ?_
          rintro ⟨_, _, h, _⟩
          have := h k hlt
          rw [hxs, hd] at this
          exact hxd this
        have hxd' : (x != d) = true := by simpa using hxd
        have hxd2 : (x == d) = false := by simpa using hxd
        clear hxs hxx hxd
        go_wp2
        go_ret
        exact ⟨rfl, (by repeat (first | with_reducible exact Below.refl _ _ | with_reducible refine bel_later _ ?_ | with_reducible refine bel_alloc ?_ _ | refine bel_set ?_ (by first | omega | (simp; done) | (simp; omega)) _ | with_reducible refine Below.drew ?_ | with_reducible refine bel_drewN ?_ _ | with_reducible assumption | assumption))⟩
    · obtain rfl : k = 8 := by omega
      have HQ := Lib.hid (show decide ((chk (ssThere S) : Int) = (ch : Int)) = r by
        by_cases h : chk (ssThere S) = ch
        · rw [HRR.out.2 ⟨hlo, hhi, hall.out, h⟩, decide_eq_true (by omega)]
        · rw [no_of HRR.out (fun q => h q.2.2.2), decide_eq_false (by omega)])
      have kbl := Lib.hid (rblocks_S _ (IS.out.to (bel_alloc (Below.refl _ _) (.cells s.C.toArray 33))))
      have HTL : (ssThere S).length ≤ 8 := by have := ssThere_length S; rw [IS.out.len] at this; exact this
      clear hall
      go_wp2_with (refine wpList_load_var rfl 33 (.tmp 3) rfl w.heap.size rfl s.C _ 25 HR.out Try.underlying33 rfl size_25 HC.out ?_)
      (with_reducible refine (kbl.out).mono ?_)
      rintro e_ w1 ⟨A1, c1, bl, rfl, hp, hB, hc1, hc2, hn, hb1⟩
      have hl8 : bl.length ≤ 8 := by have := congrArg List.length hp; simp at this; omega
      have ksm := Lib.hid (rsum_any A1 bl c1 bl.length (ssThere S) w1 hB rfl (by omega) hc1 hc2 hp)
      have hbw1 : Below w.heap.size w w1 := (bel_alloc (Below.refl _ _) _).trans (hb1.mono (by simp))
      clear kbl hp hB hb1
      go_wp2_with fail
      (with_reducible refine (ksm.out).mono ?_)
      rintro e_ w2 ⟨rfl, hb2⟩
      have hbw2 : Below w.heap.size w w2 := hbw1.trans (hb2.mono hbw1.size)
      obtain ⟨v, hv⟩ : ∃ v, chk (ssThere S) = v := ⟨_, rfl⟩
      have hq := HQ.out
      rw [hv] at hq ⊢
      have hq2 : ((v : Int) == (ch : Int)) = r := by rw [← hq]; exact Bool.beq_eq_decide_eq _ _
      clear hv hq ksm hb2
      go_wp2
      go_ret
      exact ⟨by first | rfl | (rw [← hq2]) | skip, hbw2⟩
end Go.Proofs.Ytajbghjjpebndaa
namespace Go.Proofs.Ytajbghjjpebndaa
set_option maxRecDepth 100000
open Go.RowKit
set_option linter.unusedVariables false
set_option linter.unusedSimpArgs false
attribute [local go_sem] Later.cell Later.frozen setCell_twice
abbrev Blk.C (b : Blk) : List Value := [.int .i64 b.a, .slice b.A b.ws.length b.c]
theorem size_2 : (Try.prog.info? 30).map (·.size) = some 2 := by kernel_rfl
theorem Blk.C_one (b : Blk) : ∀ v ∈ b.C, v.oneCell' = true := one2 _ _ _ _
theorem there_mem {hs : List Bool} {ps : List Bk.Pr} (hl : ps.length = 8) {p : Bk.Pr} (h : p ∈ ssThere (ssOf hs ps)) : p ∈ ps := by
  unfold ssThere ssOf at h
  rw [List.mem_filterMap] at h
  obtain ⟨q, hq, rfl⟩ := h
  obtain ⟨k, hk, hq⟩ := List.mem_map.1 hq
  have hk8 : k < 8 := by simpa using hk
  split at hq
  · have hq' := Option.some.inj hq
    rw [← hq', List.getD_eq_getElem?_getD, List.getElem?_eq_getElem (by omega)]
    exact List.getElem_mem _
  · cases hq
theorem Stv.Is.lens {s : Stv} {w : World} {B tx : Nat} {S : SS} (h : s.Is w B tx S) : ∀ p ∈ ssThere S, p.2.length ≤ 35184372088832 := fun p hp => by
  rw [← h.S] at hp
  have := there_mem (by simp [h.ok.lb]) hp
  obtain ⟨b, hb, rfl⟩ := List.mem_map.1 this
  exact h.ln b hb
def OneQ (w : World) (p : Bk.Pr) (e : Ending) (w' : World) : Prop :=
  ∃ g o c y, e = .returned (.slice (some ⟨g, o, none⟩) 1 c) ∧ (y : Blk).pr = p ∧ y.Ok w' w'.heap.size ∧ g < w'.heap.size ∧ w'.cell? ⟨g, o, none⟩ = some (.int .i64 y.a) ∧ w'.cell? ⟨g, o + 1, none⟩ = some (.slice y.A y.ws.length y.c) ∧ 1 ≤ c ∧ c ≤ 9223372036854775807 ∧ y.In w.heap.size w'.heap.size ∧ y.Own w.heap.size w' ∧ Below w.heap.size w w'
theorem fit_oneQ (A0 : Option Addr) (x : Blk) (w : World) (h : Blks w w.heap.size A0 [x]) :
    Calls Try.prog 36 #[.slice A0 1 1, .int .i64 1] w (OneQ w (Bk.fitP x.pr)) := by
  refine (fit_new A0 [x] 1 1 w h (by simp) (by omega) (by omega)).mono ?_
  rintro e w' ⟨A, c, bl, rfl, hp, hb, hc, hc2, _, _, hio, hbel⟩
  have hl : bl.length = 1 := by have := congrArg List.length hp; simpa using this
  match bl, hl with
  | [y], _ =>
    obtain ⟨g, o, b, rfl, hg, hb1, hbo, hc0, hc1⟩ := hb.at_ (k := 0) (by simp)
    obtain rfl : y = b := by simpa using hb1
    exact ⟨g, o, c, y, rfl, by simpa using hp, hbo, hg, by simpa using hc0, by simpa using hc1, hc, hc2, (hio y (by simp)).1, (hio y (by simp)).2, hbel⟩
theorem ssBack_set {S : SS} {k : Nat} {p : Bk.Pr} (o tx : Nat) (hS : S.length = 8) (hk : k < 8) : ssBack o tx (S.set k (some p)) (k : Int) = Stg.tagged o tx k p.1 p.2 := by
  unfold ssBack
  rw [if_pos (by omega), Int.toNat_natCast, List.getD_eq_getElem?_getD, List.getElem?_set_self (by omega)]
  rfl
theorem ssBack_other {S : SS} {k i : Nat} {p : Bk.Pr} (o tx : Nat) (h : i ≠ k) : ssBack o tx (S.set k (some p)) (i : Int) = ssBack o tx S (i : Int) := by
  unfold ssBack
  rw [Int.toNat_natCast, List.getD_eq_getElem?_getD, List.getElem?_set_ne (fun e => h e.symm), ← List.getD_eq_getElem?_getD]
theorem Stv.Is.have_at {s : Stv} {w : World} {B tx : Nat} {S : SS} (h : s.Is w B tx S) {k : Nat} (hk : k < 8) : s.C[1 + k]? = some (.bool (S.getD k none).isSome) := by
  rw [Stv.C_have (getD_hs (by rw [h.ok.lh]; exact hk)), ← h.S, s.S_isSome hk]
theorem Stv.Is.tx_at {s : Stv} {w : World} {B tx : Nat} {S : SS} (h : s.Is w B tx S) : s.C[0]? = some (.int .u32 (tx : Int)) := by
  rw [Stv.C_tx, h.tx]
end Go.Proofs.Ytajbghjjpebndaa
