/- DiskApart: the walk. -/
import Derived.Test.YtpjdgnoekplldaaDkAwk
import Derived.Test.YtpjdgnoekplldaaDkOp
import Derived.Test.YtpjdgnoekplldaaVarB
namespace Go.Proofs.Ytpjdgnoekplldaa
open Go.RowKit
set_option linter.unusedVariables false
attribute [local go_sem] Later.cell Later.frozen setCell_twice
theorem Dk.puts_free : ∀ (b : List Nat) (D : Dk), D.left = none → Dk.puts D b = ({ D with l := D.l ++ b }, 0) := by
  intro b
  induction b with
  | nil => intro D _; simp [Dk.puts]
  | cons x b ih =>
    intro D h
    have hs : D.sparked = (D, true) := by unfold Dk.sparked; rw [h]
    unfold Dk.puts
    rw [hs, if_pos rfl]
    show Dk.puts { D with l := D.l ++ [x] } b = _
    rw [ih { D with l := D.l ++ [x] } h]
    simp
set_option maxRecDepth 100000 in
set_option maxHeartbeats 1000000 in
theorem diskApart_walk (A : Option Addr) (l : List Nat) (c : Nat) (w : World) (h : Bs w w.heap.size A c l) :
    Calls Try.prog 3 #[.slice A l.length c] w fun e w' => e = .returned (.bool true) ∧ Below w.heap.size w w' := by
  have HB := Lib.hid h
  have kw := Lib.hid (fun w => awake_any w)
  obtain ⟨n, hn⟩ : ∃ n, l.length = n := ⟨_, rfl⟩
  rw [hn]
  have HN := Lib.hid hn
  have hn63 : n ≤ 9223372036854775807 := by have := h.ln; have := h.cap; omega
  clear h hn
  by_cases h3 : 300 < n
  · have g1 : decide ((300 : Int) < (n : Int)) = true := decide_eq_true (by omega)
    go_enter Try.func3, Try.ntmps3
    go_wp2_with fail
    refine (new_any 1000 _ (by decide)).mono ?_
    rintro e w1 ⟨rfl, k1, b1⟩
    have B1 := Lib.hid b1
    clear k1 b1
    go_wp2_with fail
    refine (kw.out _).mono ?_
    rintro e w2 ⟨rfl, b2⟩
    go_wp2
    go_ret
    exact ⟨rfl, B1.out.trans (b2.mono B1.out.size)⟩
  · have g1 : decide ((300 : Int) < (n : Int)) = false := decide_eq_false (by omega)
    obtain ⟨i0, hif, hz0, hz1, hz2⟩ := info_parts info_b8
    go_enter Try.func3, Try.ntmps3
    go_wp2_with fail
    refine (new_any 1000 _ (by decide)).mono ?_
    rintro e w1 ⟨rfl, k1, b1⟩
    have K1 := Lib.hid k1
    have B1 := Lib.hid b1
    have HB1 := Lib.hid (HB.out.to b1)
    clear k1 b1
    go_wp2_with (at_builtin; refine wpList_append_sq (f := byw) _ rfl (.tmp 25) (.tmp 26) 22 rfl (fun _ => rfl) w1.heap.size 5 i0 _ _ Try.underlying22 hif hz0 rfl hz1 hz2 (by decide) _ [] rfl (own_empty w1 5 .u8) w1.heap.size A l c n HN.out rfl (HB1.out.sq.alloc (Nat.le_refl _) _) HB1.out.nl ?c1 ?c2 ?_)
    case c1 => simp; omega
    case c2 => simp
    intro Am cm w2 om hg b2
    have b2' : Below w1.heap.size w1 w2 := (bel_alloc (Below.refl _ _) _).trans b2
    simp only [HN.out] at om ⊢
    have OM := Lib.hid om
    have K2 := Lib.hid (K1.out.to b2')
    have B2 := Lib.hid (B1.out.trans (b2'.mono B1.out.size))
    have hw1 : w.heap.size < w1.heap.size := K1.out.lt
    clear om hg b2 b2' HB1 K1 B1
    have HAM : Hid (∀ p, Am = some p → w1.heap.size ≤ p.block ∧ p.block < w2.heap.size) := Lib.hid (fun p hp => ⟨(own_at OM.out p hp).1, (own_at OM.out p hp).2.1⟩)
    have hap : (Dk.new 1000).append l = (⟨1000, l, 0, none, false⟩, 0) := by
      unfold Dk.append Dk.new
      rw [if_neg (by decide), if_neg (by simp [HN.out]; omega), Dk.puts_free _ _ rfl]
      simp
    go_wp2_with fail
    refine ((append_any K2.out Am cm n l HN.out hn63 (Sq.of_own OM.out) HB.out.u (fun _ p hp => by have := (HAM.out p hp).1; omega) (fun _ p q hp hq => by cases hq)).mono (fun e w' ho => ho.lit hap)).mono ?_
    rintro e w3 ⟨A', c', rfl, k3, m3, f3⟩
    have K3 := Lib.hid k3
    have B3 := Lib.hid (B2.out.trans (K2.out.moves m3))
    have OM3 := Lib.hid (m3.own OM.out (fun p hp => by have := (HAM.out p hp).1; omega) (fun p q hp hq => by cases hq))
    have HD : Hid (∀ p q, Am = some p → A' = some q → q.block ≠ p.block) := Lib.hid (fun p q hp hq => by
      rcases f3 with f | f
      · rw [f] at hq; cases hq
      · have := f q hq; have := (HAM.out p hp).2; omega)
    clear k3 m3 f3 hap K2 B2 OM
    go_wp2
    go_loopw [34] (fun i wr => ∃ (k : Nat) (L : List Nat), k ≤ n ∧ i = .int .i64 k ∧ L.length = n ∧ (∀ x ∈ L, x < 256) ∧ wr.ownsRow w1.heap.size 5 1 (.slice Am n cm) n (L.map byw) ∧ DkAt wr w.heap.size w.heap.size A' c' ⟨1000, l, 0, none, false⟩ ∧ Below w.heap.size w wr) (fun i _ => n - (intOf i).toNat)
    case atStart => exact ⟨0, l, by omega, rfl, HN.out, HB.out.u, OM3.out, K3.out, B3.out⟩
    case round =>
      rename World => wo
      clear OM3 K3 B3
      obtain ⟨k, L, hk, rfl, hL, hu, om, dk, be⟩ := hrel
      have OM := Lib.hid om
      have DK := Lib.hid dk
      have BE := Lib.hid be
      have HU := Lib.hid hu
      have HL := Lib.hid hL
      clear om dk be hu hL
      by_cases hlt : k < n
      · obtain ⟨gm, rfl, hgm, hgr⟩ := own_some OM.out (by omega)
        obtain ⟨y, hy⟩ : ∃ y, L[k]? = some y := ⟨_, List.getElem?_eq_getElem (by rw [HL.out]; exact hlt)⟩
        have hyl := HU.out y (List.mem_of_getElem? hy)
        have d0 : wo.cell? ⟨gm, k, none⟩ = some (.int .u8 (y : Int)) := (OM.out.cellAt _ (by omega)).trans (by simp [hy])
        have f0 := OM.out.frozenAt k
        clear hy
        go_wp2
        go_roundw
        case rel =>
          have ho := (OM.out.stored k (.int .u8 (((y : Int) + 1) % 256))).1
          rw [show (Value.int .u8 (((y : Int) + 1) % 256)) = byw ((y + 1) % 256) by simp [byw], ← List.map_set] at ho
          rw [show (Value.int .u8 (((y : Int) + 1) % 256)) = byw ((y + 1) % 256) by simp [byw]]
          refine ⟨k + 1, L.set k ((y + 1) % 256), by omega, by go_num, by rw [List.length_set]; exact HL.out, fun x hx => ?_, ho, DK.out.other ((Only.refl gm wo).set _) (by omega) (fun p hp => ?_), bel_set BE.out (by show w.heap.size ≤ gm; omega) _⟩
          · rcases List.mem_or_eq_of_mem_set hx with h1 | h1
            · exact HU.out x h1
            · omega
          · exact HD.out ⟨gm, 0, none⟩ p rfl hp
        case measure => simp [intOf]; omega
      · obtain rfl : k = n := by omega
        clear OM HU HL
        go_wp2_with fail
        refine (bytes_any DK.out).mono ?_
        rintro e w4 ⟨At, ct, rfl, ot, b4⟩
        have DK4 := Lib.hid (DK.out.to b4)
        have BE4 := Lib.hid (BE.out.trans (b4.mono BE.out.size))
        have OT4 : Hid (w4.ownsRow wo.heap.size 5 1 (.slice At k ct) k (l.map byw)) := Lib.hid (by simpa only [HN.out] using ot)
        have hwo : w.heap.size < wo.heap.size := DK.out.lt
        have HAR : Hid (∀ q, A' = some q → q.block < wo.heap.size) := Lib.hid (fun q hq => (own_at DK.out.own q hq).2.1)
        clear ot b4 DK BE
        simp only [HN.out]
        go_wp2
        go_loopw [48] (fun i wr1 => ∃ (j : Nat) (L : List Nat), j ≤ k ∧ i = .int .i64 j ∧ L.length = k ∧ (∀ x ∈ L, x < 256) ∧ wr1.ownsRow wo.heap.size 5 1 (.slice At k ct) k (L.map byw) ∧ DkAt wr1 w.heap.size w.heap.size A' c' ⟨1000, l, 0, none, false⟩ ∧ Below w.heap.size w wr1) (fun i _ => k - (intOf i).toNat)
        case atStart => exact ⟨0, l, by omega, rfl, HN.out, HB.out.u, OT4.out, DK4.out, BE4.out⟩
        case round =>
          clear OT4 DK4 BE4
          rename World => wr1
          obtain ⟨j, L, hj, rfl, hL, hu, om, dk, be⟩ := hrel
          have OM := Lib.hid om
          have DK := Lib.hid dk
          have BE := Lib.hid be
          have HU := Lib.hid hu
          have HL := Lib.hid hL
          clear om dk be hu hL
          by_cases hlt : j < k
          · obtain ⟨gm, rfl, hgm, hgr⟩ := own_some OM.out (by omega)
            obtain ⟨y, hy⟩ : ∃ y, L[j]? = some y := ⟨_, List.getElem?_eq_getElem (by rw [HL.out]; exact hlt)⟩
            have hyl := HU.out y (List.mem_of_getElem? hy)
            have d0 : wr1.cell? ⟨gm, j, none⟩ = some (.int .u8 (y : Int)) := (OM.out.cellAt _ (by omega)).trans (by simp [hy])
            have f0 := OM.out.frozenAt j
            clear hy
            go_wp2
            go_roundw
            case rel =>
              have ho := (OM.out.stored j (.int .u8 (((y : Int) + 1) % 256))).1
              rw [show (Value.int .u8 (((y : Int) + 1) % 256)) = byw ((y + 1) % 256) by simp [byw], ← List.map_set] at ho
              rw [show (Value.int .u8 (((y : Int) + 1) % 256)) = byw ((y + 1) % 256) by simp [byw]]
              refine ⟨j + 1, L.set j ((y + 1) % 256), by omega, by go_num, by rw [List.length_set]; exact HL.out, fun x hx => ?_, ho, DK.out.other ((Only.refl gm wr1).set _) (by omega) (fun p hp => ?_), bel_set BE.out (by show w.heap.size ≤ gm; omega) _⟩
              · rcases List.mem_or_eq_of_mem_set hx with h1 | h1
                · exact HU.out x h1
                · omega
              · have := HAR.out p hp
                omega
            case measure => simp [intOf]; omega
          · obtain rfl : j = k := by omega
            clear OM HU HL
            go_wp2_with fail
            refine (bytes_any DK.out).mono ?_
            rintro e w5 ⟨At5, ct5, rfl, ot, b5⟩
            have OT5 := Lib.hid ot
            have BE5 := Lib.hid (BE.out.trans (b5.mono BE.out.size))
            clear ot b5
            simp only [HN.out]
            go_wp2_with fail
            refine (same_by At5 A l l ct5 c j j true w5 HN.out HN.out (Sq.of_own (by simpa only using OT5.out)) ((HB.out.sq.below BE5.out).more BE5.out.size) HB.out.u HB.out.u (by simp)).mono ?_
            rintro e w6 ⟨rfl, rfl⟩
            go_wp2_with fail
            refine (kw.out _).mono ?_
            rintro e w7 ⟨rfl, b7⟩
            go_wp2
            go_ret
            exact ⟨rfl, BE5.out.trans (b7.mono BE5.out.size)⟩
end Go.Proofs.Ytpjdgnoekplldaa
