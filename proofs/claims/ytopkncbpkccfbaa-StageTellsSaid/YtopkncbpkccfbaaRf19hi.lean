/- The walks of the reference of layer 19: same, Read where the words are none. The walk of the reference of layer 19: Read. -/
import Derived.Test.YtopkncbpkccfbaaRf19b
import Derived.Test.YtopkncbpkccfbaaStgRf
import Derived.BigQuiet
import Derived.Deep.QuietTactic
import Derived.Deep.RegionLaw
import Derived.BigRegion
import Derived.Test.YtopkncbpkccfbaaVar
import Derived.Test.YtopkncbpkccfbaaSameS
import Derived.IntWalk
namespace Go.Proofs.Ytopkncbpkccfbaa
open Go.RowKit
set_option linter.unusedVariables false
set_option linter.unusedSimpArgs false
attribute [local go_sem] Later.cell Later.frozen setCell_twice
set_option maxHeartbeats 400000 in
theorem rsame_any (A B : Option Addr) (la lb : List Nat) (ca cb n m : Nat) (r : Bool) (w : World) (hna : la.length = n) (hnb : lb.length = m) (ha : Sq u16w w w.heap.size A la) (hb : Sq u16w w w.heap.size B lb) (hn : n ≤ 9223372036854775807) (hr : decide (la = lb) = r) :
    Calls Try.prog 47 #[.slice A n ca, .slice B m cb] w fun e w' => e = .returned (.bool r) ∧ Below w.heap.size w w' := by
  by_cases hnm : n = m
  rotate_left
  · obtain rfl : r = false := by rw [← hr]; exact decide_eq_false (fun h => hnm (by rw [← hna, ← hnb, h]))
    have g1 : ((n : Int) != (m : Int)) = true := bne_iff_ne.2 (by omega)
    have g1' : ((n : Int) == (m : Int)) = false := beq_eq_false_iff_ne.2 (by omega)
    clear hr hna hnb
    go_enter Try.func47, Try.ntmps47
    go_wp2
    go_ret
    exact ⟨rfl, (by repeat (first | exact Below.refl _ _ | refine bel_later _ ?_ | refine bel_alloc ?_ _ | refine bel_set ?_ (by first | omega | (simp; done) | (simp; omega)) _ | refine Below.drew ?_ | refine bel_drewN ?_ _ | assumption))⟩
  · subst hnm
    have HR := Lib.hid hr
    have HNA := Lib.hid hna
    have HNB := Lib.hid hnb
    clear hr hna hnb
    go_enter Try.func47, Try.ntmps47
    go_wp2
    go_loopw [5] (fun i wr => ∃ k : Nat, k ≤ n ∧ i = .int .i64 k ∧ la.take k = lb.take k ∧ Below w.heap.size w wr) (fun i _ => n - (intOf i).toNat)
    case atStart => exact ⟨0, by omega, rfl, by simp, Below.refl _ _⟩
    case round =>
      obtain ⟨k, hk, rfl, htk, hbe⟩ := hrel
      have HTK := Lib.hid htk
      have BE := Lib.hid hbe
      clear htk
      by_cases hlt : k < n
      · obtain ⟨b1, o1, x, rfl, hb1, hx, hcx⟩ := (ha.below hbe).at_ (j := k) (by rw [HNA.out]; exact hlt)
        obtain ⟨b2, o2, y, rfl, hb2, hy, hcy⟩ := (hb.below hbe).at_ (j := k) (by rw [HNB.out]; exact hlt)
        have hltI : (k : Int) < (n : Int) := by omega
        have h0I : (0 : Int) ≤ (k : Int) := by omega
        have X1 := Lib.hid hx
        have Y1 := Lib.hid hy
        clear hx hy hbe
        by_cases e3 : x = y
        · subst e3
          go_wp2
          go_quiet (fail)
          go_wp2
          go_roundw
          case rel => exact ⟨k + 1, by omega, by go_num, by rw [List.take_add_one, List.take_add_one, HTK.out, X1.out, Y1.out], bel_drewN BE.out _⟩
          case measure => simp [intOf]; omega
        · obtain rfl : r = false := by
            rw [← HR.out]
            refine decide_eq_false (fun h => e3 ?_)
            have h3 := X1.out
            rw [h, Y1.out] at h3
            exact (Option.some.inj h3).symm
          have g1 : ((x : Int) != (y : Int)) = true := bne_iff_ne.2 (by omega)
          have g1' : ((x : Int) == (y : Int)) = false := beq_eq_false_iff_ne.2 (by omega)
          go_wp2
          go_quiet (fail)
          go_wp2
          go_ret
          exact ⟨rfl, bel_drewN BE.out _⟩
      · obtain rfl : k = n := by omega
        obtain rfl : r = true := by
          rw [← HR.out]
          refine decide_eq_true ?_
          have := HTK.out
          rwa [List.take_of_length_le (by rw [HNA.out]; omega), List.take_of_length_le (by rw [HNB.out]; omega)] at this
        go_wp2
        go_ret
        exact ⟨rfl, hbe⟩
abbrev none5 (e : Int) : Value := .tuple #[.int .u16 0, .int .u32 0, .int .i64 0, .agg #[.int .i64 0, .slice none 0 0], .int .i64 e]
set_option maxRecDepth 100000 in
set_option maxHeartbeats 400000 in
theorem rread_bad (v : List Nat) (A : Option Addr) (c n : Nat) (w : World) (hn : v.length = n) (h : n ≠ 20) :
    Calls Try.prog 26 #[.slice A n c] w (ReadP w Stg.none2) := by
  have g1 : ((n : Int) != 20) = true := bne_iff_ne.2 (by omega)
  have g1' : ((n : Int) == 20) = false := beq_eq_false_iff_ne.2 (by omega)
  clear hn
  go_enter Try.func26, Try.ntmps26
  go_wp2
  go_region
  go_wp2
  exact bodyPost_ret (v := none5 2) (by simp [results, Try.results26, go_sem, *]) rfl (ReadP.mk' (q := Stg.none2) rfl rfl (World.ownsRow_nil _ _ _ _) (by repeat (first | exact Below.refl _ _ | refine bel_later _ ?_ | refine bel_alloc ?_ _ | refine bel_set ?_ (by first | omega | (simp; done) | (simp; omega)) _ | refine Below.drew ?_ | refine bel_drewN ?_ _ | assumption)))
end Go.Proofs.Ytopkncbpkccfbaa
namespace Go.Proofs.Ytopkncbpkccfbaa
open Go.RowKit
set_option linter.unusedVariables false
set_option linter.unusedSimpArgs false
attribute [local go_sem] Later.cell Later.frozen setCell_twice
theorem wrap_u32m (n : Int) : IntKind.u32.wrap n = n % 4294967296 := by simp [IntKind.wrap, IntKind.signed, IntKind.bits]
set_option maxRecDepth 100000 in
set_option maxHeartbeats 400000 in
theorem rread_num (b o c y3 : Nat) (w : World) (hb : b < w.heap.size) (c3 : w.cell? ⟨b, o + 3, none⟩ = some (.int .u16 (y3 : Int))) (h : 8 ≤ y3) (hc : 20 ≤ c) :
    Calls Try.prog 26 #[.slice (some ⟨b, o, none⟩) 20 c] w (ReadP w Stg.none2) := by
  have g1 : decide ((7 : Int) < (y3 : Int)) = true := decide_eq_true (by omega)
  have hb1 : b < w.heap.size + 1 := by omega
  go_enter Try.func26, Try.ntmps26
  go_wp2
  go_region
  go_wp2
  exact bodyPost_ret (v := none5 2) (by simp [results, Try.results26, go_sem, *]) rfl (ReadP.mk' (q := Stg.none2) rfl rfl (World.ownsRow_nil _ _ _ _) (by repeat (first | exact Below.refl _ _ | refine bel_later _ ?_ | refine bel_alloc ?_ _ | refine bel_set ?_ (by first | omega | (simp; done) | (simp; omega)) _ | refine Below.drew ?_ | refine bel_drewN ?_ _ | assumption)))
set_option maxRecDepth 100000 in
set_option maxHeartbeats 2000000 in
theorem rread_go (v : List Nat) (b o c y0 y1 y2 y3 y4 y5 q : Nat) (R : Stg.R) (w : World) (hv : v.length = 20) (hu : ∀ x ∈ v, x < 65536) (sq : Sq u16w w w.heap.size (some ⟨b, o, none⟩) v) (hb : b < w.heap.size) (c0 : w.cell? ⟨b, o, none⟩ = some (.int .u16 (y0 : Int))) (c1 : w.cell? ⟨b, o + 1, none⟩ = some (.int .u16 (y1 : Int))) (c2 : w.cell? ⟨b, o + 2, none⟩ = some (.int .u16 (y2 : Int))) (c3 : w.cell? ⟨b, o + 3, none⟩ = some (.int .u16 (y3 : Int))) (c4 : w.cell? ⟨b, o + 4, none⟩ = some (.int .u16 (y4 : Int))) (c5 : w.cell? ⟨b, o + 5, none⟩ = some (.int .u16 (y5 : Int)))
    (h : y3 < 8) (u0 : y0 < 65536) (u1 : y1 < 65536) (u2 : y2 < 65536) (u4 : y4 < 65536) (u5 : y5 < 65536) (hc : 20 ≤ c) (hc2 : c ≤ 9223372036854775807) (hq : q = min y5 14)
    (hR : R = if 14 < y5 then Stg.none20 else if Bk.fits (y4 : Int) y5 = true ∧ Stg.itself (y4 : Int) ((v.drop 6).take y5) = v.drop 4 then ⟨y0, 65536 * y1 + y2, y3, y4, (v.drop 6).take y5, 0⟩ else Stg.none20) :
    Calls Try.prog 26 #[.slice (some ⟨b, o, none⟩) 20 c] w (ReadP w R) := by
  obtain ⟨i0, hif, hz0, hz1, hz2⟩ := info_parts info_w16
  have g1 : decide ((7 : Int) < (y3 : Int)) = false := decide_eq_false (by omega)
  have hb1 : b < w.heap.size + 1 := by omega
  have hb2 : b < w.heap.size + 1 + 1 := by omega
  have HC := Lib.hid (fun W (hW : Below w.heap.size w W) => (⟨(hW.cell (p := ⟨b, o, none⟩) hb).trans c0, (hW.cell (p := ⟨b, o + 1, none⟩) hb).trans c1, (hW.cell (p := ⟨b, o + 2, none⟩) hb).trans c2, (hW.cell (p := ⟨b, o + 3, none⟩) hb).trans c3, (hW.cell (p := ⟨b, o + 5, none⟩) hb).trans c5⟩ : W.cell? ⟨b, o, none⟩ = some (.int .u16 (y0 : Int)) ∧ W.cell? ⟨b, o + 1, none⟩ = some (.int .u16 (y1 : Int)) ∧ W.cell? ⟨b, o + 2, none⟩ = some (.int .u16 (y2 : Int)) ∧ W.cell? ⟨b, o + 3, none⟩ = some (.int .u16 (y3 : Int)) ∧ W.cell? ⟨b, o + 5, none⟩ = some (.int .u16 (y5 : Int))))
  have SQ := Lib.hid sq
  have HRR := Lib.hid hR
  have HQ := Lib.hid hq
  have hq1 : q ≤ y5 := by omega
  have hq2 : q ≤ 14 := by omega
  have hqq : y5 ≤ q ∨ 14 ≤ q := by omega
  have HQQ := Lib.hid hqq
  clear sq hR hq hqq
  go_enter Try.func26, Try.ntmps26
  go_wp2
  have hS0 : RowAt (((w.alloc (.cells #[.int .i64 0, .slice none 0 0] 26)).alloc (.cells #[.int .i64 0, .slice none 0 0] 26)).alloc (.cells #[.int .i64 (y4 : Int), .slice none 0 0] 26)) w.heap.size 26 [.int .i64 0, .slice none 0 0] := ((RowAt.new w _ [.int .i64 0, .slice none 0 0]).alloc _).alloc _
  have hS1 : RowAt (((w.alloc (.cells #[.int .i64 0, .slice none 0 0] 26)).alloc (.cells #[.int .i64 0, .slice none 0 0] 26)).alloc (.cells #[.int .i64 (y4 : Int), .slice none 0 0] 26)) (w.heap.size + 1) 26 [.int .i64 0, .slice none 0 0] := by
    have := (RowAt.new (w.alloc (.cells #[.int .i64 0, .slice none 0 0] 26)) 26 [.int .i64 0, .slice none 0 0]).alloc (.cells #[.int .i64 (y4 : Int), .slice none 0 0] 26)
    simpa using this
  have hS2 : RowAt (((w.alloc (.cells #[.int .i64 0, .slice none 0 0] 26)).alloc (.cells #[.int .i64 0, .slice none 0 0] 26)).alloc (.cells #[.int .i64 (y4 : Int), .slice none 0 0] 26)) (w.heap.size + 1 + 1) 26 [.int .i64 (y4 : Int), .slice none 0 0] := by
    have := RowAt.new ((w.alloc (.cells #[.int .i64 0, .slice none 0 0] 26)).alloc (.cells #[.int .i64 0, .slice none 0 0] 26)) 26 [.int .i64 (y4 : Int), .slice none 0 0]
    simpa using this
  have H0 := Lib.hid hS0
  have H1 := Lib.hid hS1
  have H2 := Lib.hid hS2
  have HB0 : Hid (Below w.heap.size w (((w.alloc (.cells #[.int .i64 0, .slice none 0 0] 26)).alloc (.cells #[.int .i64 0, .slice none 0 0] 26)).alloc (.cells #[.int .i64 (y4 : Int), .slice none 0 0] 26))) := Lib.hid (bel_alloc (bel_alloc (bel_alloc (Below.refl _ _) _) _) _)
  clear hS0 hS1 hS2 c0 c1 c2 c3 c4 c5
  go_loopw [9] (fun i wr => ∃ k A c', k ≤ q ∧ i = .int .i64 ((k : Nat) : Int) ∧ RowAt wr (w.heap.size + 1 + 1) 26 [.int .i64 (y4 : Int), .slice A k c'] ∧ wr.ownsRow (w.heap.size + 3) 22 1 (.slice A k c') k (((v.drop 6).take k).map u16w) ∧ RowAt wr w.heap.size 26 [.int .i64 0, .slice none 0 0] ∧ RowAt wr (w.heap.size + 1) 26 [.int .i64 0, .slice none 0 0] ∧ Below w.heap.size w wr ∧ w.heap.size + 3 ≤ wr.heap.size) (fun i _ => q - (intOf i).toNat)
  case atStart => exact ⟨0, none, 0, by omega, rfl, H2.out, World.ownsRow_nil _ _ _ _, H0.out, H1.out, HB0.out, by simp⟩
  case round =>
    obtain ⟨k, A, c', hk, rfl, hr8, hown, hr5, hr7, hbe, hsz⟩ := hrel
    have d5 := (HC.out wr hbe).2.2.2.2
    have hbr : b < wr.heap.size := by omega
    by_cases hlt : k < q
    · obtain ⟨z, hz⟩ : ∃ z, v[6 + k]? = some z := ⟨_, List.getElem?_eq_getElem (by omega)⟩
      have hzc : wr.cell? ⟨b, o + (6 + k), none⟩ = some (.int .u16 (z : Int)) := by
        obtain ⟨b', o', hA, _, hcc⟩ := (SQ.out.below hbe) (by omega)
        obtain ⟨rfl, rfl⟩ : b = b' ∧ o = o' := by simpa using hA
        exact hcc _ _ hz
      have HZ := Lib.hid hz
      have q1 : (k : Int) < (y5 : Int) := by omega
      have q1' : decide (k < y5) = true := decide_eq_true (by omega)
      have q2 : (k : Int) < 14 := by omega
      have q3 : (0 : Int) ≤ (k : Int) := by omega
      have q4 : (6 : Int) + (k : Int) < 20 := by omega
      have e8 : wr.cell? ⟨w.heap.size + 1 + 1, 1, none⟩ = some (.slice A k c') := hr8.cells 1
      have f8 : wr.frozen? ⟨w.heap.size + 1 + 1, 1, none⟩ = false := hr8.frozen 1
      have hg8 : w.heap.size + 1 + 1 < wr.heap.size := by omega
      have HPL := Lib.hid (show ((v.drop 6).take k).length = k by rw [List.length_take, List.length_drop]; omega)
      have HPN := Lib.hid (show (v.drop 6).take (k + 1) = (v.drop 6).take k ++ [z] by rw [List.take_add_one, List.getElem?_drop, hz]; rfl)
      generalize (v.drop 6).take k = pl at *
      have R8 := Lib.hid hr8
      have R5 := Lib.hid hr5
      have R7 := Lib.hid hr7
      have BE := Lib.hid hbe
      have HO := Lib.hid hown
      clear hz hr8 hr5 hr7 hbe hown
      have hg8b : w.heap.size + 1 + 1 < w.heap.size + 3 := by omega
      have ew0 : (0 : Int) ≤ 6 + (k : Int) := by omega
      have ew2 : (6 + (k : Int)).toNat = 6 + k := by omega
      have ew : IntKind.i64.wrap (6 + (k : Int)) = 6 + (k : Int) := IntWalk.i64_in _ (by omega)
      go_wp2
      go_region_law (first | (refine step_append_sq (f := u16w) _ (by rfl) (.tmp 39) (.tmp 45) 24 (by rfl) (fun _ => rfl) (w.heap.size + 3) 22 i0 _ _ Try.underlying24 hif hz0 rfl hz1 hz2 (by decide) (.slice A k c') pl (by rfl) (by rw [HPL.out]; exact HO.out.drew.alloc _) (wr.heap.size + 1) (some ⟨wr.heap.size, 0, none⟩) [z] 1 1 rfl (by rfl) (Sq.lits _ _ _ _ _ _ _ (by simp) (by simp) (by simp)) (by simp) (by rw [HPL.out]; omega) (by first | omega | (simp; omega)) ?_; intro A2 c2 W2 hown2 hg2 hb2; have e8w : W2.cell? ⟨w.heap.size + 1 + 1, 1, none⟩ = some (.slice A k c') := (hb2.cell (p := ⟨w.heap.size + 1 + 1, 1, none⟩) hg8b).trans (keep_alloc e8); have f8w : W2.frozen? ⟨w.heap.size + 1 + 1, 1, none⟩ = false := ((R8.out.drew.alloc _).below hb2 hg8b).frozen 1))
      all_goals
        have r8w := (R8.out.drew.alloc (.cells #[.int .u16 (z : Int)] 22)).below hb2 hg8b
        have hbw : Below (w.heap.size + 3) wr W2 := ((Below.refl _ _).drew.alloc hsz _).trans hb2
        have R8W := Lib.hid r8w
        have BW2 := Lib.hid hbw
        have O2 := Lib.hid hown2
        clear hg2 hb2 hown2 e8w f8w e8 f8 hzc d5 r8w hbw ew ew0 ew2
        go_wp2
        go_roundw
        case rel =>
          have hbw := BW2.out
          have k7 : ∀ u, Only (w.heap.size + 1 + 1) W2 (W2.setCell ⟨w.heap.size + 1 + 1, 1, none⟩ u) := fun u => (Only.refl _ _).set u
          have hl : (pl ++ [z]).length = k + 1 := by rw [List.length_append, HPL.out]; rfl
          have ho := O2.out
          rw [hl] at ho
          rw [HPL.out]
          exact ⟨k + 1, A2, c2, by omega, by go_num, R8W.out.set 1 (.slice A2 (k + 1) c2), by rw [HPN.out]; exact ownsRow_setCell_below ho (by show w.heap.size + 1 + 1 < _; omega) _, (R5.out.below hbw (by omega)).only (k7 _) (by omega), (R7.out.below hbw (by omega)).only (k7 _) (by omega), (k7 _).to (BE.out.trans (hbw.mono (by omega))) (by omega), by rw [(k7 _).size]; have := hbw.size; omega⟩
        case measure => simp [intOf]; omega
    · obtain rfl : k = q := by omega
      have e80 : wr.cell? ⟨w.heap.size + 1 + 1, 0, none⟩ = some (.int .i64 (y4 : Int)) := hr8.cells 0
      have e81 : wr.cell? ⟨w.heap.size + 1 + 1, 1, none⟩ = some (.slice A k c') := hr8.cells 1
      have R8 := Lib.hid hr8
      have R5 := Lib.hid hr5
      have R7 := Lib.hid hr7
      have BE := Lib.hid hbe
      have HO := Lib.hid hown
      have hhc := HC.out wr hbe
      obtain ⟨a0, a1, a2, a3, _⟩ := hhc
      have t1 : ¬ (k : Int) < (y5 : Int) ∨ ¬ (k : Int) < 14 := by have := HQQ.out; omega
      have hzw : w.heap.size + 1 + 1 < wr.heap.size := by omega
      have hz7 : w.heap.size + 1 < wr.heap.size := by omega
      have hz5 : w.heap.size < wr.heap.size := by omega
      clear hr8 hr5 hr7 hbe hown
      by_cases h14 : 14 < y5
      · have g2 : decide ((14 : Int) < (y5 : Int)) = true := decide_eq_true (by omega)
        have HRE := Lib.hid (show R = Stg.none20 by rw [HRR.out, if_pos h14])
        have w1 : (k : Int) < (y5 : Int) := by have := HQ.out; omega
        have w2 : ¬ (k : Int) < 14 := by have := HQ.out; omega
        clear h14 t1
        go_wp2
        go_quiet (fail)
        obtain ⟨wn, hwn⟩ : ∃ wn, wn = wr.drewN nq := ⟨_, rfl⟩
        have R7N : Hid (RowAt wn (w.heap.size + 1) 26 [.int .i64 0, .slice none 0 0]) := Lib.hid (by rw [hwn]; exact R7.out)
        have R5N : Hid (RowAt wn w.heap.size 26 [.int .i64 0, .slice none 0 0]) := Lib.hid (by rw [hwn]; exact R5.out)
        have BN : Hid (Below w.heap.size w wn) := Lib.hid (by rw [hwn]; exact bel_drewN BE.out _)
        rw [← hwn]
        clear hwn e80 e81 a0 a1 a2 a3 d5
        have R7n := R7N.out
        have r70 : wn.cell? ⟨w.heap.size + 1, 0, none⟩ = some (.int .i64 0) := R7n.cells 0
        have r71 : wn.cell? ⟨w.heap.size + 1, 1, none⟩ = some (.slice none 0 0) := R7n.cells 1
        have R5n := R5N.out
        have r50 : wn.cell? ⟨w.heap.size, 0, none⟩ = some (.int .i64 0) := R5n.cells 0
        have r51 : wn.cell? ⟨w.heap.size, 1, none⟩ = some (.slice none 0 0) := R5n.cells 1
        have fr0 : wn.frozen? ⟨w.heap.size, 0, none⟩ = false := R5n.frozen 0
        have fr1 : wn.frozen? ⟨w.heap.size, 1, none⟩ = false := R5n.frozen 1
        have hbn := BN.out
        clear R7n R5n
        go_wp2
        go_region
        go_wp2
        exact bodyPost_ret (v := none5 20) (by simp [results, Try.results26, go_sem, *]) rfl (ReadP.mk' (q := Stg.none20) HRE.out rfl (World.ownsRow_nil _ _ _ _) (by repeat (first | exact Below.refl _ _ | refine bel_later _ ?_ | refine bel_alloc ?_ _ | refine bel_set ?_ (by first | omega | (simp; done) | (simp; omega)) _ | refine Below.drew ?_ | refine bel_drewN ?_ _ | assumption)))
      · obtain rfl : k = y5 := by have := HQ.out; omega
        have g2 : decide ((14 : Int) < (k : Int)) = false := decide_eq_false (by omega)
        have hk14 : k ≤ 14 := by omega
        have HR2 := Lib.hid (show R = if Bk.fits (y4 : Int) k = true ∧ Stg.itself (y4 : Int) ((v.drop 6).take k) = v.drop 4 then ⟨y0, 65536 * y1 + y2, y3, y4, (v.drop 6).take k, 0⟩ else Stg.none20 by rw [HRR.out, if_neg h14])
        have hwl : ((v.drop 6).take k).length = k := by rw [List.length_take, List.length_drop]; omega
        have hwu : ∀ x ∈ (v.drop 6).take k, x < 65536 := fun x hx => hu x (List.mem_of_mem_drop (List.mem_of_mem_take hx))
        have hit := Stg.itself_length (y4 : Int) ((v.drop 6).take k)
        have hl16 : (v.drop 4).length = 16 := by rw [List.length_drop]; omega
        have ko := Lib.hid (fun W (h : Below wr.heap.size wr W) => rown_any (y4 : Int) ((v.drop 6).take k) A c' k W hwl (Sq.of_own (own_below HO.out h)) hwu (by omega) (by omega) (by omega))
        have ke := Lib.hid (fun (r : Bool) (hr : decide (Stg.itself (y4 : Int) ((v.drop 6).take k) = v.drop 4) = r) W (A : Option Addr) (cc : Nat) (hs : Sq u16w W W.heap.size A (Stg.itself (y4 : Int) ((v.drop 6).take k))) (hW : Below w.heap.size w W) => rsame_any A (some ⟨b, o + 4, none⟩) _ (v.drop 4) cc (c - 4) 16 16 r W hit hl16 hs ((sq_drop SQ.out 4 |>.below hW).more hW.size) (by omega) hr)
        have HI := Lib.hid hit
        have HWL := Lib.hid hwl
        clear hwl hwu hl16 hit HRR HQQ HQ h14 t1 hv hu SQ
        generalize Stg.itself (y4 : Int) ((v.drop 6).take k) = It at *
        generalize (v.drop 6).take k = ws at *
        generalize v.drop 4 = v4 at *
        have hc4 : ¬ c = 4 := by omega
        have d5b := (HC.out wr BE.out).2.2.2.2
        cases hf : Bk.fits (y4 : Int) k
        · have HRE := Lib.hid (show R = Stg.none20 by rw [HR2.out, if_neg (fun h => absurd (h.1.symm.trans hf) (by decide))])
          have kf := Lib.hid (fun W => rfits_any (y4 : Int) k c' A false W (by omega) (by omega) (by omega) hf)
          clear hf ko ke HI HWL a0 a1 a2 a3
          go_wp2
          refine wp_region_held_drew (S := (fun w' => w'.cell? ⟨w.heap.size + 1 + 1, 0, none⟩ = some (.int .i64 (y4 : Int)) ∧ w'.cell? ⟨w.heap.size + 1 + 1, 1, none⟩ = some (.slice A k c') ∧ w'.cell? ⟨b, o + 5, none⟩ = some (.int .u16 (k : Int)))) (by kernel_rfl) ?_ (fun hHeld => ?_)
          · exact ⟨e80, e81, d5b⟩
          refine takeD (i := 0) (oi := _) (v := ?vv1) (d := some 48) rfl (by kernel_rfl) (by kernel_rfl) (by kernel_rfl) (by kernel_rfl) (fun _ _ _ h => h) (Or.inl ⟨by kernel_rfl, ?_⟩) (by assumption) ?_
          rotate_left 1
          · intro W_ hSw; (try dsimp only at hSw); go_simp; (first | done | with_reducible rfl)
          try simp only [Act.put, List.setIfInBounds_toArray, List.set_cons_zero, List.set_cons_succ]
          refine takeD (i := 1) (oi := _) (v := ?vv2) (d := some 49) rfl (by kernel_rfl) (by kernel_rfl) (by kernel_rfl) (by kernel_rfl) (fun _ _ _ h => h) (Or.inl ⟨by kernel_rfl, ?_⟩) (by assumption) ?_
          rotate_left 1
          · intro W_ hSw; (try dsimp only at hSw); go_simp; (first | done | with_reducible rfl)
          try simp only [Act.put, List.setIfInBounds_toArray, List.set_cons_zero, List.set_cons_succ]
          refine takeD (i := 2) (oi := _) (v := ?vv3) (d := some 50) rfl (by kernel_rfl) (by kernel_rfl) (by kernel_rfl) (by kernel_rfl) (fun _ _ _ h => h) (Or.inl ⟨by kernel_rfl, ?_⟩) (by assumption) ?_
          rotate_left 1
          · intro W_ hSw; (try dsimp only at hSw); go_simp; (first | done | with_reducible rfl)
          try simp only [Act.put, List.setIfInBounds_toArray, List.set_cons_zero, List.set_cons_succ]
          refine takeD (i := 3) (oi := _) (v := ?vv4) (d := some 51) rfl (by kernel_rfl) (by kernel_rfl) (by kernel_rfl) (by kernel_rfl) (fun _ _ _ h => h) (Or.inl ⟨by kernel_rfl, ?_⟩) (by assumption) ?_
          rotate_left 1
          · intro W_ hSw; (try dsimp only at hSw); go_simp; (first | done | with_reducible rfl)
          try simp only [Act.put, List.setIfInBounds_toArray, List.set_cons_zero, List.set_cons_succ]
          refine takeD (i := 4) (oi := _) (v := ?vv5) (d := some 52) rfl (by kernel_rfl) (by kernel_rfl) (by kernel_rfl) (by kernel_rfl) (fun _ _ _ h => h) (Or.inl ⟨by kernel_rfl, ?_⟩) (by assumption) ?_
          rotate_left 1
          · intro W_ hSw; (try dsimp only at hSw); go_simp; (first | done | with_reducible rfl)
          try simp only [Act.put, List.setIfInBounds_toArray, List.set_cons_zero, List.set_cons_succ]
          refine takeD (i := 5) (oi := _) (v := ?vv6) (d := some 53) rfl (by kernel_rfl) (by kernel_rfl) (by kernel_rfl) (by kernel_rfl) (fun _ _ _ h => h) (Or.inl ⟨by kernel_rfl, ?_⟩) (by assumption) ?_
          rotate_left 1
          · intro W_ hSw; (try dsimp only at hSw); go_simp; (first | done | with_reducible rfl)
          try simp only [Act.put, List.setIfInBounds_toArray, List.set_cons_zero, List.set_cons_succ]
          refine wpAnyH_ready (rs := [6]) (by kernel_rfl) (by simp) ?_
          refine AllReadyH.cons (o := _) rfl (fun K hK => ?_) AllReadyH.nil
          go_simp
          (go_at_call 45; (with_reducible refine (kf.out _).mono ?_); rintro e_ wn ⟨rfl, hb2⟩; have hbn2 : Below wr.heap.size wr wn := (Below.refl _ _).drew.trans hb2)
          go_wp2_with fail
          refine hK.out _ _ ?_ (fun hHeld => ?_)
          · exact ⟨(hbn2.cell (p := ⟨w.heap.size + 1 + 1, 0, none⟩) hzw).trans e80, (hbn2.cell (p := ⟨w.heap.size + 1 + 1, 1, none⟩) hzw).trans e81, (hbn2.cell (p := ⟨b, o + 5, none⟩) hbr).trans d5b⟩
          clear hK K
          try simp only [Act.put, List.setIfInBounds_toArray, List.set_cons_zero, List.set_cons_succ]
          refine takeD (i := 7) (oi := _) (v := ?vv7) (d := some 55) rfl (by kernel_rfl) (by kernel_rfl) (by kernel_rfl) (by kernel_rfl) (fun _ _ _ h => h) (Or.inl ⟨by kernel_rfl, ?_⟩) (by assumption) ?_
          rotate_left 1
          · intro W_ hSw; (try dsimp only at hSw); go_simp; (first | done | with_reducible rfl)
          try simp only [Act.put, List.setIfInBounds_toArray, List.set_cons_zero, List.set_cons_succ]
          refine takeD (i := 8) (oi := _) (v := ?vv8) (d := some 56) rfl (by kernel_rfl) (by kernel_rfl) (by kernel_rfl) (by kernel_rfl) (fun _ _ _ h => h) (Or.inl ⟨by kernel_rfl, ?_⟩) (by assumption) ?_
          rotate_left 1
          · intro W_ hSw; (try dsimp only at hSw); go_simp; (first | done | with_reducible rfl)
          try simp only [Act.put, List.setIfInBounds_toArray, List.set_cons_zero, List.set_cons_succ]
          refine takeD (i := 9) (oi := _) (v := ?vv9) (d := some 57) rfl (by kernel_rfl) (by kernel_rfl) (by kernel_rfl) (by kernel_rfl) (fun _ _ _ h => h) (Or.inl ⟨by kernel_rfl, ?_⟩) (by assumption) ?_
          rotate_left 1
          · intro W_ hSw; (try dsimp only at hSw); go_simp; (first | done | with_reducible rfl)
          try simp only [Act.put, List.setIfInBounds_toArray, List.set_cons_zero, List.set_cons_succ]
          refine takeD (i := 10) (oi := _) (v := undef) (d := some 58) rfl (by kernel_rfl) (by kernel_rfl) (by kernel_rfl) (by kernel_rfl) (fun _ _ _ h => h) (Or.inr ⟨by kernel_rfl, rfl⟩) (by assumption) ?_
          try simp only [Act.put, List.setIfInBounds_toArray, List.set_cons_zero, List.set_cons_succ]
          refine takeD (i := 11) (oi := _) (v := undef) (d := some 59) rfl (by kernel_rfl) (by kernel_rfl) (by kernel_rfl) (by kernel_rfl) (fun _ _ _ h => h) (Or.inr ⟨by kernel_rfl, rfl⟩) (by assumption) ?_
          try simp only [Act.put, List.setIfInBounds_toArray, List.set_cons_zero, List.set_cons_succ]
          refine takeD (i := 12) (oi := _) (v := undef) (d := some 60) rfl (by kernel_rfl) (by kernel_rfl) (by kernel_rfl) (by kernel_rfl) (fun _ _ _ h => h) (Or.inr ⟨by kernel_rfl, rfl⟩) (by assumption) ?_
          try simp only [Act.put, List.setIfInBounds_toArray, List.set_cons_zero, List.set_cons_succ]
          refine takeD (i := 13) (oi := _) (v := undef) (d := some 61) rfl (by kernel_rfl) (by kernel_rfl) (by kernel_rfl) (by kernel_rfl) (fun _ _ _ h => h) (Or.inr ⟨by kernel_rfl, rfl⟩) (by assumption) ?_
          try simp only [Act.put, List.setIfInBounds_toArray, List.set_cons_zero, List.set_cons_succ]
          refine takeD (i := 14) (oi := _) (v := undef) (d := some 62) rfl (by kernel_rfl) (by kernel_rfl) (by kernel_rfl) (by kernel_rfl) (fun _ _ _ h => h) (Or.inr ⟨by kernel_rfl, rfl⟩) (by assumption) ?_
          try simp only [Act.put, List.setIfInBounds_toArray, List.set_cons_zero, List.set_cons_succ]
          refine takeD (i := 15) (oi := _) (v := undef) (d := some 63) rfl (by kernel_rfl) (by kernel_rfl) (by kernel_rfl) (by kernel_rfl) (fun _ _ _ h => h) (Or.inr ⟨by kernel_rfl, rfl⟩) (by assumption) ?_
          try simp only [Act.put, List.setIfInBounds_toArray, List.set_cons_zero, List.set_cons_succ]
          refine takeD (i := 16) (oi := _) (v := ?vv10) (d := some 64) rfl (by kernel_rfl) (by kernel_rfl) (by kernel_rfl) (by kernel_rfl) (fun _ _ _ h => h) (Or.inl ⟨by kernel_rfl, ?_⟩) (by assumption) ?_
          rotate_left 1
          · intro W_ hSw; (try dsimp only at hSw); go_simp; (first | done | with_reducible rfl)
          try simp only [Act.put, List.setIfInBounds_toArray, List.set_cons_zero, List.set_cons_succ]
          refine wpAnyH_done (by kernel_rfl) ?_ _
          have R7N : Hid (RowAt wn (w.heap.size + 1) 26 [.int .i64 0, .slice none 0 0]) := Lib.hid (R7.out.to hbn2)
          have R5N : Hid (RowAt wn w.heap.size 26 [.int .i64 0, .slice none 0 0]) := Lib.hid (R5.out.to hbn2)
          have BN : Hid (Below w.heap.size w wn) := Lib.hid (BE.out.trans (hbn2.mono (by omega)))
          clear hb2 hbn2 e80 e81 d5 d5b kf
          have R7n := R7N.out
          have r70 : wn.cell? ⟨w.heap.size + 1, 0, none⟩ = some (.int .i64 0) := R7n.cells 0
          have r71 : wn.cell? ⟨w.heap.size + 1, 1, none⟩ = some (.slice none 0 0) := R7n.cells 1
          have R5n := R5N.out
          have r50 : wn.cell? ⟨w.heap.size, 0, none⟩ = some (.int .i64 0) := R5n.cells 0
          have r51 : wn.cell? ⟨w.heap.size, 1, none⟩ = some (.slice none 0 0) := R5n.cells 1
          have fr0 : wn.frozen? ⟨w.heap.size, 0, none⟩ = false := R5n.frozen 0
          have fr1 : wn.frozen? ⟨w.heap.size, 1, none⟩ = false := R5n.frozen 1
          have hbn := BN.out
          clear R7n R5n
          go_wp2
          go_region
          go_wp2
          exact bodyPost_ret (v := none5 20) (by simp [results, Try.results26, go_sem, *]) rfl (ReadP.mk' (q := Stg.none20) HRE.out rfl (World.ownsRow_nil _ _ _ _) (by repeat (first | exact Below.refl _ _ | refine bel_later _ ?_ | refine bel_alloc ?_ _ | refine bel_set ?_ (by first | omega | (simp; done) | (simp; omega)) _ | refine Below.drew ?_ | refine bel_drewN ?_ _ | assumption)))
        · have kf := Lib.hid (fun W => rfits_any (y4 : Int) k c' A true W (by omega) (by omega) (by omega) hf)
          obtain ⟨r, hr⟩ : ∃ r, decide (It = v4) = r := ⟨_, rfl⟩
          have kr := Lib.hid (ke.out r hr)
          have HR3 := Lib.hid (show R = if r = true then ⟨y0, 65536 * y1 + y2, y3, y4, ws, 0⟩ else Stg.none20 by
            rw [HR2.out]
            by_cases hi : It = v4
            · rw [if_pos ⟨hf, hi⟩, if_pos (by rw [← hr]; exact decide_eq_true hi)]
            · rw [if_neg (fun h => hi h.2), if_neg (by rw [← hr, decide_eq_false hi]; decide)])
          clear hf ke hr HR2
          go_wp2
          refine wp_region_held_drew (S := (fun w' => w'.cell? ⟨w.heap.size + 1 + 1, 0, none⟩ = some (.int .i64 (y4 : Int)) ∧ w'.cell? ⟨w.heap.size + 1 + 1, 1, none⟩ = some (.slice A k c') ∧ w'.cell? ⟨b, o + 5, none⟩ = some (.int .u16 (k : Int)))) (by kernel_rfl) ?_ (fun hHeld => ?_)
          · exact ⟨e80, e81, d5b⟩
          refine takeD (i := 0) (oi := _) (v := ?vv11) (d := some 48) rfl (by kernel_rfl) (by kernel_rfl) (by kernel_rfl) (by kernel_rfl) (fun _ _ _ h => h) (Or.inl ⟨by kernel_rfl, ?_⟩) (by assumption) ?_
          rotate_left 1
          · intro W_ hSw; (try dsimp only at hSw); go_simp; (first | done | with_reducible rfl)
          try simp only [Act.put, List.setIfInBounds_toArray, List.set_cons_zero, List.set_cons_succ]
          refine takeD (i := 1) (oi := _) (v := ?vv12) (d := some 49) rfl (by kernel_rfl) (by kernel_rfl) (by kernel_rfl) (by kernel_rfl) (fun _ _ _ h => h) (Or.inl ⟨by kernel_rfl, ?_⟩) (by assumption) ?_
          rotate_left 1
          · intro W_ hSw; (try dsimp only at hSw); go_simp; (first | done | with_reducible rfl)
          try simp only [Act.put, List.setIfInBounds_toArray, List.set_cons_zero, List.set_cons_succ]
          refine takeD (i := 2) (oi := _) (v := ?vv13) (d := some 50) rfl (by kernel_rfl) (by kernel_rfl) (by kernel_rfl) (by kernel_rfl) (fun _ _ _ h => h) (Or.inl ⟨by kernel_rfl, ?_⟩) (by assumption) ?_
          rotate_left 1
          · intro W_ hSw; (try dsimp only at hSw); go_simp; (first | done | with_reducible rfl)
          try simp only [Act.put, List.setIfInBounds_toArray, List.set_cons_zero, List.set_cons_succ]
          refine takeD (i := 3) (oi := _) (v := ?vv14) (d := some 51) rfl (by kernel_rfl) (by kernel_rfl) (by kernel_rfl) (by kernel_rfl) (fun _ _ _ h => h) (Or.inl ⟨by kernel_rfl, ?_⟩) (by assumption) ?_
          rotate_left 1
          · intro W_ hSw; (try dsimp only at hSw); go_simp; (first | done | with_reducible rfl)
          try simp only [Act.put, List.setIfInBounds_toArray, List.set_cons_zero, List.set_cons_succ]
          refine takeD (i := 4) (oi := _) (v := ?vv15) (d := some 52) rfl (by kernel_rfl) (by kernel_rfl) (by kernel_rfl) (by kernel_rfl) (fun _ _ _ h => h) (Or.inl ⟨by kernel_rfl, ?_⟩) (by assumption) ?_
          rotate_left 1
          · intro W_ hSw; (try dsimp only at hSw); go_simp; (first | done | with_reducible rfl)
          try simp only [Act.put, List.setIfInBounds_toArray, List.set_cons_zero, List.set_cons_succ]
          refine takeD (i := 5) (oi := _) (v := ?vv16) (d := some 53) rfl (by kernel_rfl) (by kernel_rfl) (by kernel_rfl) (by kernel_rfl) (fun _ _ _ h => h) (Or.inl ⟨by kernel_rfl, ?_⟩) (by assumption) ?_
          rotate_left 1
          · intro W_ hSw; (try dsimp only at hSw); go_simp; (first | done | with_reducible rfl)
          try simp only [Act.put, List.setIfInBounds_toArray, List.set_cons_zero, List.set_cons_succ]
          refine wpAnyH_ready (rs := [6]) (by kernel_rfl) (by simp) ?_
          refine AllReadyH.cons (o := _) rfl (fun K hK => ?_) AllReadyH.nil
          go_simp
          (go_at_call 45; (with_reducible refine (kf.out _).mono ?_); rintro e_ w2 ⟨rfl, hb2⟩; have hbn2 : Below wr.heap.size wr w2 := (Below.refl _ _).drew.trans hb2; have x80 := (hbn2.cell (p := ⟨w.heap.size + 1 + 1, 0, none⟩) hzw).trans e80; have x81 := (hbn2.cell (p := ⟨w.heap.size + 1 + 1, 1, none⟩) hzw).trans e81; have x5 := (hbn2.cell (p := ⟨b, o + 5, none⟩) hbr).trans d5b; have hz2 := hbn2.size)
          go_wp2_with fail
          refine hK.out _ _ ?_ (fun hHeld => ?_)
          · exact ⟨x80, x81, x5⟩
          clear hK K
          try simp only [Act.put, List.setIfInBounds_toArray, List.set_cons_zero, List.set_cons_succ]
          refine takeD (i := 7) (oi := _) (v := ?vv17) (d := some 55) rfl (by kernel_rfl) (by kernel_rfl) (by kernel_rfl) (by kernel_rfl) (fun _ _ _ h => h) (Or.inl ⟨by kernel_rfl, ?_⟩) (by assumption) ?_
          rotate_left 1
          · intro W_ hSw; (try dsimp only at hSw); go_simp; (first | done | with_reducible rfl)
          try simp only [Act.put, List.setIfInBounds_toArray, List.set_cons_zero, List.set_cons_succ]
          refine takeD (i := 8) (oi := _) (v := ?vv18) (d := some 56) rfl (by kernel_rfl) (by kernel_rfl) (by kernel_rfl) (by kernel_rfl) (fun _ _ _ h => h) (Or.inl ⟨by kernel_rfl, ?_⟩) (by assumption) ?_
          rotate_left 1
          · intro W_ hSw; (try dsimp only at hSw); go_simp; (first | done | with_reducible rfl)
          try simp only [Act.put, List.setIfInBounds_toArray, List.set_cons_zero, List.set_cons_succ]
          refine takeD (i := 9) (oi := _) (v := ?vv19) (d := some 57) rfl (by kernel_rfl) (by kernel_rfl) (by kernel_rfl) (by kernel_rfl) (fun _ _ _ h => h) (Or.inl ⟨by kernel_rfl, ?_⟩) (by assumption) ?_
          rotate_left 1
          · intro W_ hSw; (try dsimp only at hSw); go_simp; (first | done | with_reducible rfl)
          try simp only [Act.put, List.setIfInBounds_toArray, List.set_cons_zero, List.set_cons_succ]
          refine takeD (i := 10) (oi := _) (v := ?vv20) (d := some 58) rfl (by kernel_rfl) (by kernel_rfl) (by kernel_rfl) (by kernel_rfl) (fun _ _ _ h => h) (Or.inl ⟨by kernel_rfl, ?_⟩) (by assumption) ?_
          rotate_left 1
          · intro W_ hSw; (try dsimp only at hSw); go_simp; (first | done | with_reducible rfl)
          try simp only [Act.put, List.setIfInBounds_toArray, List.set_cons_zero, List.set_cons_succ]
          refine takeD (i := 12) (oi := _) (v := ?vv21) (d := some 60) rfl (by kernel_rfl) (by kernel_rfl) (by kernel_rfl) (by kernel_rfl) (fun _ _ _ h => h) (Or.inl ⟨by kernel_rfl, ?_⟩) (by assumption) ?_
          rotate_left 1
          · intro W_ hSw; (try dsimp only at hSw); go_simp; (first | done | with_reducible rfl)
          try simp only [Act.put, List.setIfInBounds_toArray, List.set_cons_zero, List.set_cons_succ]
          refine takeD (i := 13) (oi := _) (v := ?vv22) (d := some 61) rfl (by kernel_rfl) (by kernel_rfl) (by kernel_rfl) (by kernel_rfl) (fun _ _ _ h => h) (Or.inl ⟨by kernel_rfl, ?_⟩) (by assumption) ?_
          rotate_left 1
          · intro W_ hSw; (try dsimp only at hSw); go_simp; (first | done | with_reducible rfl)
          try simp only [Act.put, List.setIfInBounds_toArray, List.set_cons_zero, List.set_cons_succ]
          refine wpAnyH_ready (rs := [11]) (by kernel_rfl) (by simp) ?_
          refine AllReadyH.cons (o := _) rfl (fun K hK => ?_) AllReadyH.nil
          go_simp
          (go_at_call 46; (with_reducible refine (ko.out _ hbn2).mono ?_); rintro e_ w3 ⟨A3, c3, rfl, o3, hb3⟩; rw [HI.out] at o3 ⊢; have hbn3 : Below wr.heap.size wr w3 := hbn2.trans (hb3.mono hz2); have s3 := Sq.of_own (by rw [← HI.out] at o3; exact o3); have y80 := (hbn3.cell (p := ⟨w.heap.size + 1 + 1, 0, none⟩) hzw).trans e80; have y81 := (hbn3.cell (p := ⟨w.heap.size + 1 + 1, 1, none⟩) hzw).trans e81; have yy5 := (hbn3.cell (p := ⟨b, o + 5, none⟩) hbr).trans d5b; have hz3 := hbn3.size; have hbw3 := BE.out.trans (hbn3.mono (by omega)))
          go_wp2_with fail
          refine hK.out _ _ ?_ (fun hHeld => ?_)
          · exact ⟨y80, y81, yy5⟩
          clear hK K
          try simp only [Act.put, List.setIfInBounds_toArray, List.set_cons_zero, List.set_cons_succ]
          refine wpAnyH_ready (rs := [14]) (by kernel_rfl) (by simp) ?_
          refine AllReadyH.cons (o := _) rfl (fun K hK => ?_) AllReadyH.nil
          go_simp
          (go_at_call 47; (with_reducible refine (kr.out _ _ _ s3 hbw3).mono ?_); rintro e_ wn ⟨rfl, hb4⟩; have hbn4 : Below wr.heap.size wr wn := hbn3.trans (hb4.mono hz3))
          go_wp2_with fail
          refine hK.out _ _ ?_ (fun hHeld => ?_)
          · exact ⟨(hbn4.cell (p := ⟨w.heap.size + 1 + 1, 0, none⟩) hzw).trans e80, (hbn4.cell (p := ⟨w.heap.size + 1 + 1, 1, none⟩) hzw).trans e81, (hbn4.cell (p := ⟨b, o + 5, none⟩) hbr).trans d5b⟩
          clear hK K
          try simp only [Act.put, List.setIfInBounds_toArray, List.set_cons_zero, List.set_cons_succ]
          refine takeD (i := 15) (oi := _) (v := ?vv23) (d := some 63) rfl (by kernel_rfl) (by kernel_rfl) (by kernel_rfl) (by kernel_rfl) (fun _ _ _ h => h) (Or.inl ⟨by kernel_rfl, ?_⟩) (by assumption) ?_
          rotate_left 1
          · intro W_ hSw; (try dsimp only at hSw); go_simp; (first | done | with_reducible rfl)
          try simp only [Act.put, List.setIfInBounds_toArray, List.set_cons_zero, List.set_cons_succ]
          refine takeD (i := 16) (oi := _) (v := ?vv24) (d := some 64) rfl (by kernel_rfl) (by kernel_rfl) (by kernel_rfl) (by kernel_rfl) (fun _ _ _ h => h) (Or.inl ⟨by kernel_rfl, ?_⟩) (by assumption) ?_
          rotate_left 1
          · intro W_ hSw; (try dsimp only at hSw); go_simp; (first | done | with_reducible rfl)
          try simp only [Act.put, List.setIfInBounds_toArray, List.set_cons_zero, List.set_cons_succ]
          refine wpAnyH_done (by kernel_rfl) ?_ _
          have BN : Hid (Below w.heap.size w wn) := Lib.hid (BE.out.trans (hbn4.mono (by omega)))
          have R5N : Hid (RowAt wn w.heap.size 26 [.int .i64 0, .slice none 0 0]) := Lib.hid (R5.out.to hbn4)
          have R7N : Hid (RowAt wn (w.heap.size + 1) 26 [.int .i64 0, .slice none 0 0]) := Lib.hid (R7.out.to hbn4)
          have R8N : Hid (RowAt wn (w.heap.size + 1 + 1) 26 [.int .i64 (y4 : Int), .slice A k c']) := Lib.hid (R8.out.to hbn4)
          have HON := Lib.hid (own_below HO.out hbn4)
          clear hb2 hbn2 hb3 hbn3 hb4 hbn4 o3 s3 y80 y81 yy5 hz3 hbw3 x80 x81 x5 hz2 kf ko kr e80 e81 d5 d5b a0 a1 a2 a3
          cases r
          · have HRE := Lib.hid (show R = Stg.none20 by rw [HR3.out]; simp)
            clear HR3
            have R7n := R7N.out
            have r70 : wn.cell? ⟨w.heap.size + 1, 0, none⟩ = some (.int .i64 0) := R7n.cells 0
            have r71 : wn.cell? ⟨w.heap.size + 1, 1, none⟩ = some (.slice none 0 0) := R7n.cells 1
            have R5n := R5N.out
            have r50 : wn.cell? ⟨w.heap.size, 0, none⟩ = some (.int .i64 0) := R5n.cells 0
            have r51 : wn.cell? ⟨w.heap.size, 1, none⟩ = some (.slice none 0 0) := R5n.cells 1
            have fr0 : wn.frozen? ⟨w.heap.size, 0, none⟩ = false := R5n.frozen 0
            have fr1 : wn.frozen? ⟨w.heap.size, 1, none⟩ = false := R5n.frozen 1
            have hbn := BN.out
            clear R7n R5n
            go_wp2
            go_region
            go_wp2
            exact bodyPost_ret (v := none5 20) (by simp [results, Try.results26, go_sem, *]) rfl (ReadP.mk' (q := Stg.none20) HRE.out rfl (World.ownsRow_nil _ _ _ _) (by repeat (first | exact Below.refl _ _ | refine bel_later _ ?_ | refine bel_alloc ?_ _ | refine bel_set ?_ (by first | omega | (simp; done) | (simp; omega)) _ | refine Below.drew ?_ | refine bel_drewN ?_ _ | assumption)))
          · have HRE := Lib.hid (show R = ⟨y0, 65536 * y1 + y2, y3, y4, ws, 0⟩ by rw [HR3.out]; simp)
            have n0 : b ≠ w.heap.size := by omega
            have n0' : w.heap.size ≠ b := by omega
            have z0 : w.heap.size < wn.heap.size := R5N.out.lt
            obtain ⟨a0, a1, a2, a3, _⟩ := HC.out wn BN.out
            have e80 : wn.cell? ⟨w.heap.size + 1 + 1, 0, none⟩ = some (.int .i64 (y4 : Int)) := R8N.out.cells 0
            have e81 : wn.cell? ⟨w.heap.size + 1 + 1, 1, none⟩ = some (.slice A k c') := R8N.out.cells 1
            have r50 : wn.cell? ⟨w.heap.size, 0, none⟩ = some (.int .i64 0) := R5N.out.cells 0
            have r51 : wn.cell? ⟨w.heap.size, 1, none⟩ = some (.slice none 0 0) := R5N.out.cells 1
            have fr0 : wn.frozen? ⟨w.heap.size, 0, none⟩ = false := R5N.out.frozen 0
            have fr1 : wn.frozen? ⟨w.heap.size, 1, none⟩ = false := R5N.out.frozen 1
            have hbn := BN.out
            have ew1 : IntKind.u32.wrap (y1 : Int) = (y1 : Int) := by rw [wrap_u32m]; omega
            have ew2 : IntKind.u32.wrap ((y1 : Int) * 65536) = (y1 : Int) * 65536 := by rw [wrap_u32m]; omega
            have ew3 : IntKind.u32.wrap (y2 : Int) = (y2 : Int) := by rw [wrap_u32m]; omega
            have ew4 : IntKind.u32.wrap ((y1 : Int) * 65536 + (y2 : Int)) = (y1 : Int) * 65536 + (y2 : Int) := by rw [wrap_u32m]; omega
            have ew5 : IntKind.i64.wrap (y3 : Int) = (y3 : Int) := IntWalk.i64_in _ (by omega)
            have ET : Hid ((y1 : Int) * 65536 + (y2 : Int) = ((65536 * y1 + y2 : Nat) : Int)) := Lib.hid (by omega)
            go_wp2
            refine wp_region_held_drew (S := (fun w' => w'.cell? ⟨b, o, none⟩ = some (.int .u16 (y0 : Int)) ∧ w'.cell? ⟨b, o + 1, none⟩ = some (.int .u16 (y1 : Int)) ∧ w'.cell? ⟨b, o + 2, none⟩ = some (.int .u16 (y2 : Int)) ∧ w'.cell? ⟨b, o + 3, none⟩ = some (.int .u16 (y3 : Int)) ∧ w'.cell? ⟨w.heap.size + 1 + 1, 0, none⟩ = some (.int .i64 (y4 : Int)) ∧ w'.cell? ⟨w.heap.size + 1 + 1, 1, none⟩ = some (.slice A k c'))) (by kernel_rfl) ?_ (fun hHeld => ?_)
            · exact ⟨a0, a1, a2, a3, e80, e81⟩
            refine takeD (i := 0) (oi := _) (v := ?vv25) (d := some 66) rfl (by kernel_rfl) (by kernel_rfl) (by kernel_rfl) (by kernel_rfl) (fun _ _ _ h => h) (Or.inl ⟨by kernel_rfl, ?_⟩) (by assumption) ?_
            rotate_left 1
            · intro W_ hSw; (try dsimp only at hSw); go_simp; (first | done | with_reducible rfl)
            try simp only [Act.put, List.setIfInBounds_toArray, List.set_cons_zero, List.set_cons_succ]
            refine takeD (i := 1) (oi := _) (v := ?vv26) (d := some 67) rfl (by kernel_rfl) (by kernel_rfl) (by kernel_rfl) (by kernel_rfl) (fun _ _ _ h => h) (Or.inl ⟨by kernel_rfl, ?_⟩) (by assumption) ?_
            rotate_left 1
            · intro W_ hSw; (try dsimp only at hSw); go_simp; (first | done | with_reducible rfl)
            try simp only [Act.put, List.setIfInBounds_toArray, List.set_cons_zero, List.set_cons_succ]
            refine takeD (i := 2) (oi := _) (v := ?vv27) (d := some 68) rfl (by kernel_rfl) (by kernel_rfl) (by kernel_rfl) (by kernel_rfl) (fun _ _ _ h => h) (Or.inl ⟨by kernel_rfl, ?_⟩) (by assumption) ?_
            rotate_left 1
            · intro W_ hSw; (try dsimp only at hSw); go_simp; (first | done | with_reducible rfl)
            try simp only [Act.put, List.setIfInBounds_toArray, List.set_cons_zero, List.set_cons_succ]
            refine takeD (i := 3) (oi := _) (v := ?vv28) (d := some 69) rfl (by kernel_rfl) (by kernel_rfl) (by kernel_rfl) (by kernel_rfl) (fun _ _ _ h => h) (Or.inl ⟨by kernel_rfl, ?_⟩) (by assumption) ?_
            rotate_left 1
            · intro W_ hSw; (try dsimp only at hSw); go_simp; (first | done | with_reducible rfl)
            try simp only [Act.put, List.setIfInBounds_toArray, List.set_cons_zero, List.set_cons_succ]
            refine takeD (i := 4) (oi := _) (v := ?vv29) (d := some 70) rfl (by kernel_rfl) (by kernel_rfl) (by kernel_rfl) (by kernel_rfl) (fun _ _ _ h => h) (Or.inl ⟨by kernel_rfl, ?_⟩) (by assumption) ?_
            rotate_left 1
            · intro W_ hSw; (try dsimp only at hSw); go_simp; (first | done | with_reducible rfl)
            try simp only [Act.put, List.setIfInBounds_toArray, List.set_cons_zero, List.set_cons_succ]
            refine takeD (i := 5) (oi := _) (v := ?vv30) (d := some 71) rfl (by kernel_rfl) (by kernel_rfl) (by kernel_rfl) (by kernel_rfl) (fun _ _ _ h => h) (Or.inl ⟨by kernel_rfl, ?_⟩) (by assumption) ?_
            rotate_left 1
            · intro W_ hSw; (try dsimp only at hSw); go_simp; (first | done | with_reducible rfl)
            try simp only [Act.put, List.setIfInBounds_toArray, List.set_cons_zero, List.set_cons_succ]
            refine takeD (i := 6) (oi := _) (v := ?vv31) (d := some 72) rfl (by kernel_rfl) (by kernel_rfl) (by kernel_rfl) (by kernel_rfl) (fun _ _ _ h => h) (Or.inl ⟨by kernel_rfl, ?_⟩) (by assumption) ?_
            rotate_left 1
            · intro W_ hSw; (try dsimp only at hSw); go_simp; (first | done | with_reducible rfl)
            try simp only [Act.put, List.setIfInBounds_toArray, List.set_cons_zero, List.set_cons_succ]
            refine takeD (i := 7) (oi := _) (v := ?vv32) (d := some 73) rfl (by kernel_rfl) (by kernel_rfl) (by kernel_rfl) (by kernel_rfl) (fun _ _ _ h => h) (Or.inl ⟨by kernel_rfl, ?_⟩) (by assumption) ?_
            rotate_left 1
            · intro W_ hSw; (try dsimp only at hSw); go_simp; (first | done | with_reducible rfl)
            try simp only [Act.put, List.setIfInBounds_toArray, List.set_cons_zero, List.set_cons_succ]
            refine takeD (i := 8) (oi := _) (v := ?vv33) (d := some 74) rfl (by kernel_rfl) (by kernel_rfl) (by kernel_rfl) (by kernel_rfl) (fun _ _ _ h => h) (Or.inl ⟨by kernel_rfl, ?_⟩) (by assumption) ?_
            rotate_left 1
            · intro W_ hSw; (try dsimp only at hSw); go_simp; (first | done | with_reducible rfl)
            try simp only [Act.put, List.setIfInBounds_toArray, List.set_cons_zero, List.set_cons_succ]
            refine takeD (i := 9) (oi := _) (v := ?vv34) (d := some 75) rfl (by kernel_rfl) (by kernel_rfl) (by kernel_rfl) (by kernel_rfl) (fun _ _ _ h => h) (Or.inl ⟨by kernel_rfl, ?_⟩) (by assumption) ?_
            rotate_left 1
            · intro W_ hSw; (try dsimp only at hSw); go_simp; (first | done | with_reducible rfl)
            try simp only [Act.put, List.setIfInBounds_toArray, List.set_cons_zero, List.set_cons_succ]
            refine takeD (i := 10) (oi := _) (v := ?vv35) (d := some 76) rfl (by kernel_rfl) (by kernel_rfl) (by kernel_rfl) (by kernel_rfl) (fun _ _ _ h => h) (Or.inl ⟨by kernel_rfl, ?_⟩) (by assumption) ?_
            rotate_left 1
            · intro W_ hSw; (try dsimp only at hSw); go_simp; (first | done | with_reducible rfl)
            try simp only [Act.put, List.setIfInBounds_toArray, List.set_cons_zero, List.set_cons_succ]
            refine takeD (i := 11) (oi := _) (v := ?vv36) (d := some 77) rfl (by kernel_rfl) (by kernel_rfl) (by kernel_rfl) (by kernel_rfl) (fun _ _ _ h => h) (Or.inl ⟨by kernel_rfl, ?_⟩) (by assumption) ?_
            rotate_left 1
            · intro W_ hSw; (try dsimp only at hSw); go_simp; (first | done | with_reducible rfl)
            try simp only [Act.put, List.setIfInBounds_toArray, List.set_cons_zero, List.set_cons_succ]
            refine takeD (i := 12) (oi := _) (v := ?vv37) (d := some 78) rfl (by kernel_rfl) (by kernel_rfl) (by kernel_rfl) (by kernel_rfl) (fun _ _ _ h => h) (Or.inl ⟨by kernel_rfl, ?_⟩) (by assumption) ?_
            rotate_left 1
            · intro W_ hSw; (try dsimp only at hSw); go_simp; (first | done | with_reducible rfl)
            try simp only [Act.put, List.setIfInBounds_toArray, List.set_cons_zero, List.set_cons_succ]
            refine takeD (i := 13) (oi := _) (v := ?vv38) (d := some 79) rfl (by kernel_rfl) (by kernel_rfl) (by kernel_rfl) (by kernel_rfl) (fun _ _ _ h => h) (Or.inl ⟨by kernel_rfl, ?_⟩) (by assumption) ?_
            rotate_left 1
            · intro W_ hSw; (try dsimp only at hSw); go_simp; (first | done | with_reducible rfl)
            try simp only [Act.put, List.setIfInBounds_toArray, List.set_cons_zero, List.set_cons_succ]
            refine takeD (i := 14) (oi := _) (v := ?vv39) (d := some 80) rfl (by kernel_rfl) (by kernel_rfl) (by kernel_rfl) (by kernel_rfl) (fun _ _ _ h => h) (Or.inl ⟨by kernel_rfl, ?_⟩) (by assumption) ?_
            rotate_left 1
            · intro W_ hSw; (try dsimp only at hSw); go_simp; (first | done | with_reducible rfl)
            try simp only [Act.put, List.setIfInBounds_toArray, List.set_cons_zero, List.set_cons_succ]
            refine takeD (i := 15) (oi := _) (v := ?vv40) (d := some 81) rfl (by kernel_rfl) (by kernel_rfl) (by kernel_rfl) (by kernel_rfl) (fun _ _ _ h => h) (Or.inl ⟨by kernel_rfl, ?_⟩) (by assumption) ?_
            rotate_left 1
            · intro W_ hSw; (try dsimp only at hSw); go_simp; (first | done | with_reducible rfl)
            try simp only [Act.put, List.setIfInBounds_toArray, List.set_cons_zero, List.set_cons_succ]
            refine takeD (i := 16) (oi := _) (v := ?vv41) (d := some 82) rfl (by kernel_rfl) (by kernel_rfl) (by kernel_rfl) (by kernel_rfl) (fun _ _ _ h => h) (Or.inl ⟨by kernel_rfl, ?_⟩) (by assumption) ?_
            rotate_left 1
            · intro W_ hSw; (try dsimp only at hSw); go_simp; (first | done | with_reducible rfl)
            try simp only [Act.put, List.setIfInBounds_toArray, List.set_cons_zero, List.set_cons_succ]
            refine takeD (i := 17) (oi := _) (v := ?vv42) (d := some 83) rfl (by kernel_rfl) (by kernel_rfl) (by kernel_rfl) (by kernel_rfl) (fun _ _ _ h => h) (Or.inl ⟨by kernel_rfl, ?_⟩) (by assumption) ?_
            rotate_left 1
            · intro W_ hSw; (try dsimp only at hSw); go_simp; (first | done | with_reducible rfl)
            try simp only [Act.put, List.setIfInBounds_toArray, List.set_cons_zero, List.set_cons_succ]
            refine takeD (i := 18) (oi := _) (v := ?vv43) (d := some 2) rfl (by kernel_rfl) (by kernel_rfl) (by kernel_rfl) (by kernel_rfl) (fun _ _ _ h => h) (Or.inl ⟨by kernel_rfl, ?_⟩) (by assumption) ?_
            rotate_left 1
            · intro W_ hSw; (try dsimp only at hSw); go_simp; (first | done | with_reducible rfl)
            try simp only [Act.put, List.setIfInBounds_toArray, List.set_cons_zero, List.set_cons_succ]
            refine takeD (i := 19) (oi := _) (v := ?vv44) (d := some 3) rfl (by kernel_rfl) (by kernel_rfl) (by kernel_rfl) (by kernel_rfl) (fun _ _ _ h => h) (Or.inl ⟨by kernel_rfl, ?_⟩) (by assumption) ?_
            rotate_left 1
            · intro W_ hSw; (try dsimp only at hSw); go_simp; (first | done | with_reducible rfl)
            try simp only [Act.put, List.setIfInBounds_toArray, List.set_cons_zero, List.set_cons_succ]
            refine takeD (i := 20) (oi := _) (v := ?vv45) (d := some 4) rfl (by kernel_rfl) (by kernel_rfl) (by kernel_rfl) (by kernel_rfl) (fun _ _ _ h => h) (Or.inl ⟨by kernel_rfl, ?_⟩) (by assumption) ?_
            rotate_left 1
            · intro W_ hSw; (try dsimp only at hSw); go_simp; (first | done | with_reducible rfl)
            try simp only [Act.put, List.setIfInBounds_toArray, List.set_cons_zero, List.set_cons_succ]
            refine wpAnyH_ready (rs := [21]) (by kernel_rfl) (by simp) ?_
            refine AllReadyH.cons (o := _) rfl (fun K hK => ?_) AllReadyH.nil
            go_simp
            refine hK.out _ _ ?_ (fun hHeld => ?_)
            · exact ⟨keep_block (by first | exact n0 | exact n0') (keep_block (by first | exact n0 | exact n0') a0), keep_block (by first | exact n0 | exact n0') (keep_block (by first | exact n0 | exact n0') a1), keep_block (by first | exact n0 | exact n0') (keep_block (by first | exact n0 | exact n0') a2), keep_block (by first | exact n0 | exact n0') (keep_block (by first | exact n0 | exact n0') a3), keep_block (by omega) (keep_block (by omega) e80), keep_block (by omega) (keep_block (by omega) e81)⟩
            clear hK K
            try simp only [Act.put, List.setIfInBounds_toArray, List.set_cons_zero, List.set_cons_succ]
            refine takeD (i := 22) (oi := _) (v := ?vv46) (d := some 6) rfl (by kernel_rfl) (by kernel_rfl) (by kernel_rfl) (by kernel_rfl) (fun _ _ _ h => h) (Or.inl ⟨by kernel_rfl, ?_⟩) (by assumption) ?_
            rotate_left 1
            · intro W_ hSw; (try dsimp only at hSw); go_simp; (first | done | with_reducible rfl)
            try simp only [Act.put, List.setIfInBounds_toArray, List.set_cons_zero, List.set_cons_succ]
            refine wpAnyH_done (by kernel_rfl) ?_ _
            go_wp2
            exact bodyPost_ret (v := .tuple #[.int .u16 (y0 : Int), .int .u32 ((y1 : Int) * 65536 + (y2 : Int)), .int .i64 (y3 : Int), .agg #[.int .i64 (y4 : Int), .slice A k c'], .int .i64 0]) (by simp [results, Try.results26, go_sem, *]) rfl (by rw [ET.out]; exact ReadP.mk' (q := ⟨y0, 65536 * y1 + y2, y3, y4, ws, 0⟩) HRE.out HWL.out (own_more (ownsRow_setCell_below (ownsRow_setCell_below HON.out.drew (by show w.heap.size < _; omega) _) (by show w.heap.size < _; omega) _) (by omega)) (by repeat (first | exact Below.refl _ _ | refine bel_later _ ?_ | refine bel_alloc ?_ _ | refine bel_set ?_ (by first | omega | (simp; done) | (simp; omega)) _ | refine Below.drew ?_ | refine bel_drewN ?_ _ | assumption)))
end Go.Proofs.Ytopkncbpkccfbaa
