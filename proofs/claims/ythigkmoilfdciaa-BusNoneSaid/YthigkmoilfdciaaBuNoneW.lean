/- Layer 11: the walk of BusNone. -/
import Derived.Test.YthigkmoilfdciaaBuNo
namespace Go.Proofs.Ythigkmoilfdciaa
open Go.RowKit
set_option linter.unusedVariables false
set_option linter.unusedSimpArgs false
attribute [local go_sem] Later.cell Later.frozen setCell_twice
theorem bool1 {w : World} {g : Nat} (h : RowAt w g 4 [.bool true]) : Sq Value.bool w w.heap.size (some ⟨g, 0, none⟩) [true] := fun _ => ⟨g, 0, rfl, h.lt, fun j v hj => by
  rw [Nat.zero_add, h.cells j]
  match j, hj with
  | 0, hj => obtain rfl := Option.some.inj hj; rfl
  | j + 1, hj => simp at hj⟩
set_option maxRecDepth 100000 in
set_option maxHeartbeats 4000000 in
theorem busNone_any (w : World) (s : Int) (up : Bool) (l : List Nat) (A : Option Addr) (n c : Nat) (hn : l.length = n) (hok : PcOk w w.heap.size ⟨⟨s, up, l⟩, A, c⟩) (lost twice : Bool) (wait again at_ turns : Nat) (hf : Fa.Fit ⟨lost, twice, wait, again, at_, turns⟩) :
    Calls Try.prog 7 #[.agg (pmV s up A n c).toArray, .agg (faV lost twice wait again at_ turns).toArray] w fun e w' => e = .returned (.bool true) ∧ Below w.heap.size w w' := by
  have hfr : Below w.heap.size w ((w.alloc (.cells (pmV s up A n c).toArray 36)).alloc (.cells (faV lost twice wait again at_ turns).toArray 39)) := bel_alloc (bel_alloc (Below.refl _ _) _) _
  have OK := Lib.hid (hok.to hfr)
  have RP : Hid (RowAt ((w.alloc (.cells (pmV s up A n c).toArray 36)).alloc (.cells (faV lost twice wait again at_ turns).toArray 39)) w.heap.size 36 (pmV s up A n c)) := Lib.hid ((RowAt.new _ _ _).alloc _)
  have RF : Hid (RowAt ((w.alloc (.cells (pmV s up A n c).toArray 36)).alloc (.cells (faV lost twice wait again at_ turns).toArray 39)) (w.heap.size + 1) 39 (faV lost twice wait again at_ turns)) := Lib.hid (RowAt.new' _ _ _ _ (by simp))
  have HA : Hid (∀ p, A = some p → 0 < n → p.block < w.heap.size) := Lib.hid (fun p hp hn0 => by
    obtain ⟨b, o, hA, hb, _⟩ := hok.sq (by show 0 < l.length; omega)
    have hA' : A = some ⟨b, o, none⟩ := hA
    rw [hp] at hA'
    obtain rfl := Option.some.inj hA'
    exact hb)
  have B0 := Lib.hid hfr
  have FIT := Lib.hid hf
  have HN := Lib.hid hn
  clear hfr hok hf hn
  by_cases hl : 310 < n
  · have g1 : decide ((310 : Int) < (n : Int)) = true := decide_eq_true (by omega)
    go_enter Try.func7, Try.ntmps7
    go_wp2_with fail
    generalize (w.alloc (.cells (pmV s up A n c).toArray 36)).alloc (.cells (faV lost twice wait again at_ turns).toArray 39) = W at *
    (with_reducible refine (awake_any W).mono ?_)
    rintro e w1 ⟨rfl, b1⟩
    have B1 := Lib.hid (B0.out.trans (b1.mono B0.out.size))
    clear b1
    go_wp2
    go_ret
    exact ⟨rfl, B1.out⟩
  · have g1 : decide ((310 : Int) < (n : Int)) = false := decide_eq_false (by omega)
    go_enter Try.func7, Try.ntmps7
    go_upto_region 3 with fail
    generalize (w.alloc (.cells (pmV s up A n c).toArray 36)).alloc (.cells (faV lost twice wait again at_ turns).toArray 39) = W at *
    go_upto_region 4 with fail
    obtain ⟨gp, hgp⟩ : ∃ gp, w.heap.size = gp := ⟨_, rfl⟩
    obtain ⟨gf, hgf⟩ : ∃ gf, gp + 1 = gf := ⟨_, rfl⟩
    have HGP := Lib.hid hgp
    rw [hgp, hgf] at RF
    rw [hgp] at RP
    rw [hgp, hgf]
    clear hgp hgf
    have z2 : RowAt ((W.alloc (.cells #[.pointer none, .slice none 0 0, .int .i64 0, .int .i64 0, .map none] 62)).alloc (.cells #[.pointer none, .pointer (some ⟨W.heap.size, 0, none⟩)] 27)) W.heap.size 62 [.pointer none, .slice none 0 0, .int .i64 0, .int .i64 0, .map none] := (RowAt.new _ _ _).alloc _
    have zl : RowAt ((W.alloc (.cells #[.pointer none, .slice none 0 0, .int .i64 0, .int .i64 0, .map none] 62)).alloc (.cells #[.pointer none, .pointer (some ⟨W.heap.size, 0, none⟩)] 27)) (W.heap.size + 1) 27 [.pointer none, .pointer (some ⟨W.heap.size, 0, none⟩)] := RowAt.new' _ _ _ _ (by simp)
    obtain ⟨W2, hW2⟩ : ∃ W2, (W.alloc (.cells #[.pointer none, .slice none 0 0, .int .i64 0, .int .i64 0, .map none] 62)).alloc (.cells #[.pointer none, .pointer (some ⟨W.heap.size, 0, none⟩)] 27) = W2 := ⟨_, rfl⟩
    have b2 : Below W.heap.size W W2 := by rw [← hW2]; exact bel_alloc (bel_alloc (Below.refl _ _) _) _
    obtain ⟨gz, hgz⟩ : ∃ gz, W.heap.size = gz := ⟨_, rfl⟩
    obtain ⟨gl, hgl⟩ : ∃ gl, gz + 1 = gl := ⟨_, rfl⟩
    rw [hW2, hgz] at z2
    rw [hW2, hgz, hgl] at zl
    rw [hW2, hgz, hgl]
    have RP2 := Lib.hid (RP.out.to b2)
    have RF2 := Lib.hid (RF.out.to b2)
    have OK2 := Lib.hid (OK.out.to b2)
    have B2 := Lib.hid (B0.out.trans (b2.mono B0.out.size))
    have Z2 := Lib.hid z2
    have ZL := Lib.hid zl
    clear hW2 hgz hgl b2 z2 zl RP RF OK B0
    go_loopw [20] (fun i wr => ∃ k : Nat, k ≤ 2 ∧ i = .int .i64 (k : Int) ∧ Below W2.heap.size W2 wr) (fun i _ => 2 - (intOf i).toNat)
    case atStart => exact ⟨0, by omega, rfl, Below.refl _ _⟩
    case round =>
      rename World => wr
      obtain ⟨k, hk, rfl, hbe⟩ := hrel
      by_cases hlt : k < 2
      · have hNo : ∃ v, wr.cell? ⟨gl, k, none⟩ = some v ∧ NoBus wr v := by
          have zz := ZL.out.to hbe
          match k, hlt with
          | 0, _ => exact ⟨_, zz.cells 0, .inl rfl⟩
          | 1, _ => exact ⟨_, zz.cells 1, .inr ⟨gz, rfl, Z2.out.to hbe⟩⟩
        obtain ⟨v, cv, nv⟩ := hNo
        have hltI : (k : Int) < 2 := by omega
        have h0I : (0 : Int) ≤ (k : Int) := by omega
        have NV := Lib.hid nv
        have RP3 := Lib.hid (RP2.out.to hbe)
        have RF3 := Lib.hid (RF2.out.to hbe)
        have BE := Lib.hid hbe
        have plt : gp < (wr).heap.size := RP3.out.lt
        have plu : gp < (wr).heap.size + 1 := Nat.lt_succ_of_lt RP3.out.lt
        have p0 : (wr).cell? ⟨gp, 0, none⟩ = some (.int .i64 s) := RP3.out.cells 0
        have pz0 : (wr).frozen? ⟨gp, 0, none⟩ = false := RP3.out.frozen 0
        have p1 : (wr).cell? ⟨gp, 1, none⟩ = some (.bool up) := RP3.out.cells 1
        have pz1 : (wr).frozen? ⟨gp, 1, none⟩ = false := RP3.out.frozen 1
        have p2 : (wr).cell? ⟨gp, 2, none⟩ = some (.slice A n c) := RP3.out.cells 2
        have pz2 : (wr).frozen? ⟨gp, 2, none⟩ = false := RP3.out.frozen 2
        have flt : gf < (wr).heap.size := RF3.out.lt
        have flu : gf < (wr).heap.size + 1 := Nat.lt_succ_of_lt RF3.out.lt
        have f0 : (wr).cell? ⟨gf, 0, none⟩ = some (.bool lost) := RF3.out.cells 0
        have fz0 : (wr).frozen? ⟨gf, 0, none⟩ = false := RF3.out.frozen 0
        have f1 : (wr).cell? ⟨gf, 1, none⟩ = some (.bool twice) := RF3.out.cells 1
        have fz1 : (wr).frozen? ⟨gf, 1, none⟩ = false := RF3.out.frozen 1
        have f2 : (wr).cell? ⟨gf, 2, none⟩ = some (.int .u8 (wait : Int)) := RF3.out.cells 2
        have fz2 : (wr).frozen? ⟨gf, 2, none⟩ = false := RF3.out.frozen 2
        have f3 : (wr).cell? ⟨gf, 3, none⟩ = some (.int .u8 (again : Int)) := RF3.out.cells 3
        have fz3 : (wr).frozen? ⟨gf, 3, none⟩ = false := RF3.out.frozen 3
        have f4 : (wr).cell? ⟨gf, 4, none⟩ = some (.int .u16 (at_ : Int)) := RF3.out.cells 4
        have fz4 : (wr).frozen? ⟨gf, 4, none⟩ = false := RF3.out.frozen 4
        have f5 : (wr).cell? ⟨gf, 5, none⟩ = some (.int .u16 (turns : Int)) := RF3.out.cells 5
        have fz5 : (wr).frozen? ⟨gf, 5, none⟩ = false := RF3.out.frozen 5
        clear nv hbe
        go_wp2_with fail
        (with_reducible refine (send_none NV.out s up A n c lost twice wait again at_ turns).mono ?_)
        rintro e wa ⟨rfl, ba⟩
        have NV2 := Lib.hid (NV.out.to ba)
        have BE2 := Lib.hid (BE.out.trans (ba.mono BE.out.size))
        clear ba NV BE p0 p1 p2 pz0 pz1 pz2 plt plu f0 f1 f2 f3 f4 f5 fz0 fz1 fz2 fz3 fz4 fz5 flt flu cv RP3 RF3
        go_wp2_with fail
        (with_reducible refine (tick_none NV2.out).mono ?_)
        rintro e wb ⟨rfl, rfl⟩
        go_wp2_with fail
        (with_reducible refine (waiting_none NV2.out).mono ?_)
        rintro e wb ⟨rfl, rfl⟩
        go_wp2_with fail
        (with_reducible refine (time_none NV2.out).mono ?_)
        rintro e wb ⟨rfl, rfl⟩
        go_wp2
        go_roundw
        case rel => exact ⟨k + 1, by omega, by go_num, BE2.out⟩
        case measure => simp [intOf]; omega
      · obtain rfl : k = 2 := by omega
        have RP3 := Lib.hid (RP2.out.to hbe)
        have RF3 := Lib.hid (RF2.out.to hbe)
        have OK3 := Lib.hid (OK2.out.to hbe)
        have B3 := Lib.hid (B2.out.trans (hbe.mono B2.out.size))
        clear hbe RP2 RF2 OK2 B2 Z2 ZL
        go_wp2_with fail
        have b4 : Below wr.heap.size wr (wr.alloc (.cells #[.bool true] 4)) := bel_alloc (Below.refl _ _) _
        have S4 := Lib.hid (bool1 (RowAt.new wr 4 [.bool true]))
        have RP4 := Lib.hid (RP3.out.to b4)
        have RF4 := Lib.hid (RF3.out.to b4)
        have OK4 := Lib.hid (OK3.out.to b4)
        have B4 := Lib.hid (B3.out.trans (b4.mono B3.out.size))
        generalize wr.alloc (.cells #[.bool true] 4) = w4 at *
        clear b4 RP3 RF3 OK3 B3
        (with_reducible refine (new_yes _ [true] 1 1 w4 S4.out rfl (by decide) (by decide)).mono ?_)
        rintro e w5 ⟨gs, gm, rg, rc, rfl, h5, b5⟩
        have H5 := Lib.hid h5
        have RP5 := Lib.hid (RP4.out.to b5)
        have RF5 := Lib.hid (RF4.out.to b5)
        have OK5 := Lib.hid (OK4.out.to b5)
        have B5 := Lib.hid (B4.out.trans (b5.mono B4.out.size))
        have HZ : Hid (w4.heap.size ≤ w5.heap.size ∧ w.heap.size ≤ w4.heap.size) := Lib.hid ⟨b5.size, B4.out.size⟩
        clear h5 b5 S4 RP4 RF4 OK4 B4
        have plt : gp < (w5).heap.size := RP5.out.lt
        have plu : gp < (w5).heap.size + 1 := Nat.lt_succ_of_lt RP5.out.lt
        have p0 : (w5).cell? ⟨gp, 0, none⟩ = some (.int .i64 s) := RP5.out.cells 0
        have pz0 : (w5).frozen? ⟨gp, 0, none⟩ = false := RP5.out.frozen 0
        have p1 : (w5).cell? ⟨gp, 1, none⟩ = some (.bool up) := RP5.out.cells 1
        have pz1 : (w5).frozen? ⟨gp, 1, none⟩ = false := RP5.out.frozen 1
        have p2 : (w5).cell? ⟨gp, 2, none⟩ = some (.slice A n c) := RP5.out.cells 2
        have pz2 : (w5).frozen? ⟨gp, 2, none⟩ = false := RP5.out.frozen 2
        have flt : gf < (w5).heap.size := RF5.out.lt
        have flu : gf < (w5).heap.size + 1 := Nat.lt_succ_of_lt RF5.out.lt
        have f0 : (w5).cell? ⟨gf, 0, none⟩ = some (.bool lost) := RF5.out.cells 0
        have fz0 : (w5).frozen? ⟨gf, 0, none⟩ = false := RF5.out.frozen 0
        have f1 : (w5).cell? ⟨gf, 1, none⟩ = some (.bool twice) := RF5.out.cells 1
        have fz1 : (w5).frozen? ⟨gf, 1, none⟩ = false := RF5.out.frozen 1
        have f2 : (w5).cell? ⟨gf, 2, none⟩ = some (.int .u8 (wait : Int)) := RF5.out.cells 2
        have fz2 : (w5).frozen? ⟨gf, 2, none⟩ = false := RF5.out.frozen 2
        have f3 : (w5).cell? ⟨gf, 3, none⟩ = some (.int .u8 (again : Int)) := RF5.out.cells 3
        have fz3 : (w5).frozen? ⟨gf, 3, none⟩ = false := RF5.out.frozen 3
        have f4 : (w5).cell? ⟨gf, 4, none⟩ = some (.int .u16 (at_ : Int)) := RF5.out.cells 4
        have fz4 : (w5).frozen? ⟨gf, 4, none⟩ = false := RF5.out.frozen 4
        have f5 : (w5).cell? ⟨gf, 5, none⟩ = some (.int .u16 (turns : Int)) := RF5.out.cells 5
        have fz5 : (w5).frozen? ⟨gf, 5, none⟩ = false := RF5.out.frozen 5
        have SEND := Lib.hid (send_any H5.out HZ.out.1 s up l A n c HN.out OK5.out.sq OK5.out.nl OK5.out.u (fun hn0 q hq hm => by
          have h1 := HA.out q hq hn0
          have h2 := (H5.out.foot_ge _ hm).1
          have h3 := HZ.out.2
          omega) lost twice wait again at_ turns FIT.out.wait FIT.out.again FIT.out.at_ FIT.out.turns (by decide) (by decide))
        by_cases e1 : s = 0
        · have g0 : (s == 0) = true := by simpa using e1
          by_cases e2 : 1 ≤ n
          · have g2 : decide ((1 : Int) ≤ (n : Int)) = true := decide_eq_true (by omega)
            by_cases e3 : n ≤ 300
            · have g3 : decide ((n : Int) ≤ 300) = true := decide_eq_true (by omega)
              have HR : Hid (Bu.right 1 ⟨s, up, l⟩ = true) := Lib.hid (by unfold Bu.right; dsimp only; rw [HN.out]; exact decide_eq_true ⟨by omega, by omega, e2, e3⟩)
              clear e1 e2 e3
              go_wp2_with fail
              (with_reducible refine SEND.out.mono ?_)
              rintro e w6 ⟨E6, rfl, h6, f6, t6⟩
              have hE : sendE ⟨[true], 0, []⟩ ⟨s, up, l⟩ = 0 := by unfold sendE; rw [show Bu.right [true].length ⟨s, up, l⟩ = true from HR.out]; rfl
              rw [hE]
              have B6 := Lib.hid (B5.out.trans (f6.below (B := w.heap.size) (fun x hx => by have := (H5.out.foot_ge x hx).1; have := HZ.out.2; omega) B5.out.size))
              clear hE h6 f6 t6 SEND p0 p1 p2 pz0 pz1 pz2 plt plu f0 f1 f2 f3 f4 f5 fz0 fz1 fz2 fz3 fz4 fz5 flt flu
              go_wp2_with fail
              (with_reducible refine (awake_any _).mono ?_)
              rintro e w8 ⟨rfl, b8⟩
              have B8 := Lib.hid (B6.out.trans (b8.mono B6.out.size))
              clear b8
              go_wp2
              go_ret
              exact ⟨rfl, B8.out⟩
            · have g3 : decide ((n : Int) ≤ 300) = false := decide_eq_false (by omega)
              have hR : Bu.right 1 ⟨s, up, l⟩ = false := by unfold Bu.right; dsimp only; rw [HN.out]; exact decide_eq_false (fun h => e3 h.2.2.2)
              clear e1 e2 e3
              have HR : Hid (Bu.right 1 ⟨s, up, l⟩ = false) := Lib.hid hR
              clear hR
              go_wp2_with fail
              (with_reducible refine SEND.out.mono ?_)
              rintro e w6 ⟨E6, rfl, h6, f6, t6⟩
              have hE : sendE ⟨[true], 0, []⟩ ⟨s, up, l⟩ = 2 := by unfold sendE; rw [show Bu.right [true].length ⟨s, up, l⟩ = false from HR.out]; rfl
              have hB : sendB ⟨[true], 0, []⟩ ⟨s, up, l⟩ ⟨lost, twice, wait, again, at_, turns⟩ = ⟨[true], 0, []⟩ := by unfold sendB; rw [show Bu.right [true].length ⟨s, up, l⟩ = false from HR.out]; rfl
              rw [hB] at h6
              rw [hE]
              have B6 := Lib.hid (B5.out.trans (f6.below (B := w.heap.size) (fun x hx => by have := (H5.out.foot_ge x hx).1; have := HZ.out.2; omega) B5.out.size))
              have KW := Lib.hid (waiting_yes h6)
              clear hE hB h6 f6 t6 SEND p0 p1 p2 pz0 pz1 pz2 plt plu f0 f1 f2 f3 f4 f5 fz0 fz1 fz2 fz3 fz4 fz5 flt flu
              go_wp2_with fail
              (with_reducible refine KW.out.mono ?_)
              rintro e w7 ⟨rfl, rfl⟩
              go_wp2_with fail
              (with_reducible refine (awake_any _).mono ?_)
              rintro e w8 ⟨rfl, b8⟩
              have B8 := Lib.hid (B6.out.trans (b8.mono B6.out.size))
              clear b8
              go_wp2
              go_ret
              exact ⟨rfl, B8.out⟩
          · have g2 : decide ((1 : Int) ≤ (n : Int)) = false := decide_eq_false (by omega)
            have hR : Bu.right 1 ⟨s, up, l⟩ = false := by unfold Bu.right; dsimp only; rw [HN.out]; exact decide_eq_false (fun h => e2 h.2.2.1)
            clear e1 e2
            have HR : Hid (Bu.right 1 ⟨s, up, l⟩ = false) := Lib.hid hR
            clear hR
            go_wp2_with fail
            (with_reducible refine SEND.out.mono ?_)
            rintro e w6 ⟨E6, rfl, h6, f6, t6⟩
            have hE : sendE ⟨[true], 0, []⟩ ⟨s, up, l⟩ = 2 := by unfold sendE; rw [show Bu.right [true].length ⟨s, up, l⟩ = false from HR.out]; rfl
            have hB : sendB ⟨[true], 0, []⟩ ⟨s, up, l⟩ ⟨lost, twice, wait, again, at_, turns⟩ = ⟨[true], 0, []⟩ := by unfold sendB; rw [show Bu.right [true].length ⟨s, up, l⟩ = false from HR.out]; rfl
            rw [hB] at h6
            rw [hE]
            have B6 := Lib.hid (B5.out.trans (f6.below (B := w.heap.size) (fun x hx => by have := (H5.out.foot_ge x hx).1; have := HZ.out.2; omega) B5.out.size))
            have KW := Lib.hid (waiting_yes h6)
            clear hE hB h6 f6 t6 SEND p0 p1 p2 pz0 pz1 pz2 plt plu f0 f1 f2 f3 f4 f5 fz0 fz1 fz2 fz3 fz4 fz5 flt flu
            go_wp2_with fail
            (with_reducible refine KW.out.mono ?_)
            rintro e w7 ⟨rfl, rfl⟩
            go_wp2_with fail
            (with_reducible refine (awake_any _).mono ?_)
            rintro e w8 ⟨rfl, b8⟩
            have B8 := Lib.hid (B6.out.trans (b8.mono B6.out.size))
            clear b8
            go_wp2
            go_ret
            exact ⟨rfl, B8.out⟩
        · have g0 : (s == 0) = false := by simpa using e1
          have hR : Bu.right 1 ⟨s, up, l⟩ = false := by unfold Bu.right; dsimp only; rw [HN.out]; exact decide_eq_false (fun h => e1 (by have := h.1; have := h.2.1; omega))
          clear e1
          have HR : Hid (Bu.right 1 ⟨s, up, l⟩ = false) := Lib.hid hR
          clear hR
          go_wp2_with fail
          (with_reducible refine SEND.out.mono ?_)
          rintro e w6 ⟨E6, rfl, h6, f6, t6⟩
          have hE : sendE ⟨[true], 0, []⟩ ⟨s, up, l⟩ = 2 := by unfold sendE; rw [show Bu.right [true].length ⟨s, up, l⟩ = false from HR.out]; rfl
          have hB : sendB ⟨[true], 0, []⟩ ⟨s, up, l⟩ ⟨lost, twice, wait, again, at_, turns⟩ = ⟨[true], 0, []⟩ := by unfold sendB; rw [show Bu.right [true].length ⟨s, up, l⟩ = false from HR.out]; rfl
          rw [hB] at h6
          rw [hE]
          have B6 := Lib.hid (B5.out.trans (f6.below (B := w.heap.size) (fun x hx => by have := (H5.out.foot_ge x hx).1; have := HZ.out.2; omega) B5.out.size))
          have KW := Lib.hid (waiting_yes h6)
          clear hE hB h6 f6 t6 SEND p0 p1 p2 pz0 pz1 pz2 plt plu f0 f1 f2 f3 f4 f5 fz0 fz1 fz2 fz3 fz4 fz5 flt flu
          go_wp2_with fail
          (with_reducible refine KW.out.mono ?_)
          rintro e w7 ⟨rfl, rfl⟩
          go_wp2_with fail
          (with_reducible refine (awake_any _).mono ?_)
          rintro e w8 ⟨rfl, b8⟩
          have B8 := Lib.hid (B6.out.trans (b8.mono B6.out.size))
          clear b8
          go_wp2
          go_ret
          exact ⟨rfl, B8.out⟩
end Go.Proofs.Ythigkmoilfdciaa
