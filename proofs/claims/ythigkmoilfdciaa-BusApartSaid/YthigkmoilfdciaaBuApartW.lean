/- Layer 11: the walk of BusApart. -/
import Derived.Test.YthigkmoilfdciaaBuApL
namespace Go.Proofs.Ythigkmoilfdciaa
open Go.RowKit
set_option linter.unusedVariables false
set_option linter.unusedSimpArgs false
attribute [local go_sem] Later.cell Later.frozen setCell_twice
theorem bool0 {w : World} {g : Nat} (h : RowAt w g 4 [.bool false]) : Sq Value.bool w w.heap.size (some ⟨g, 0, none⟩) [false] := fun _ => ⟨g, 0, rfl, h.lt, fun j v hj => by
  rw [Nat.zero_add, h.cells j]
  match j, hj with
  | 0, hj => obtain rfl := Option.some.inj hj; rfl
  | j + 1, hj => simp at hj⟩
set_option maxRecDepth 100000 in
set_option maxHeartbeats 4000000 in
theorem busApart_any (w : World) (A : Option Addr) (l : List Nat) (c n : Nat) (hB : Bs w w.heap.size A c l) (hn : l.length = n) (lost twice : Bool) (wait again at_ turns : Nat) (hf : Fa.Fit ⟨lost, twice, wait, again, at_, turns⟩) :
    Calls Try.prog 6 #[.slice A n c, .agg (faV lost twice wait again at_ turns).toArray] w fun e w' => e = .returned (.bool true) ∧ Below w.heap.size w w' := by
  obtain ⟨i0, hif, hz0, hz1, hz2⟩ := info_parts info_b8
  have hfr : Below w.heap.size w (w.alloc (.cells (faV lost twice wait again at_ turns).toArray 39)) := bel_alloc (Below.refl _ _) _
  have HB := Lib.hid hB
  have RF : Hid (RowAt (w.alloc (.cells (faV lost twice wait again at_ turns).toArray 39)) w.heap.size 39 (faV lost twice wait again at_ turns)) := Lib.hid (RowAt.new _ _ _)
  have BL := Lib.hid hfr
  have FIT := Lib.hid hf
  have HN := Lib.hid hn
  clear hfr hB hf hn
  by_cases h1 : n < 1
  · have g1 : (n : Int) < 1 := by omega
    go_enter Try.func6, Try.ntmps6
    go_upto_region 2 with fail
    generalize w.alloc (.cells (faV lost twice wait again at_ turns).toArray 39) = W at *
    go_wp2_with fail
    (with_reducible refine (awake_any _).mono ?_)
    rintro e wx ⟨rfl, bx⟩
    have BX := Lib.hid (BL.out.trans (bx.mono BL.out.size))
    clear bx
    go_wp2
    go_ret
    exact ⟨rfl, BX.out⟩
  by_cases h3 : 300 < n
  · have g1 : ¬ (n : Int) < 1 := by omega
    have g2 : (300 : Int) < (n : Int) := by omega
    go_enter Try.func6, Try.ntmps6
    go_upto_region 2 with fail
    generalize w.alloc (.cells (faV lost twice wait again at_ turns).toArray 39) = W at *
    go_wp2_with fail
    (with_reducible refine (awake_any _).mono ?_)
    rintro e wx ⟨rfl, bx⟩
    have BX := Lib.hid (BL.out.trans (bx.mono BL.out.size))
    clear bx
    go_wp2
    go_ret
    exact ⟨rfl, BX.out⟩
  have g1 : ¬ (n : Int) < 1 := by omega
  have g2 : ¬ (300 : Int) < (n : Int) := by omega
  go_enter Try.func6, Try.ntmps6
  go_upto_region 3 with fail
  generalize w.alloc (.cells (faV lost twice wait again at_ turns).toArray 39) = W at *
  obtain ⟨gf, hgf⟩ : ∃ gf, w.heap.size = gf := ⟨_, rfl⟩
  have HGF := Lib.hid hgf
  rw [hgf] at RF ⊢
  clear hgf
  go_wp2_with fail
  have b1 : Below W.heap.size W (W.alloc (.cells #[.bool false] 4)) := bel_alloc (Below.refl _ _) _
  have rR := RowAt.new W 4 [.bool false]
  obtain ⟨w1, hw1⟩ : ∃ w1, W.alloc (.cells #[.bool false] 4) = w1 := ⟨_, rfl⟩
  rw [hw1] at b1 ⊢
  replace rR : RowAt w1 W.heap.size 4 [.bool false] := by rw [← hw1]; exact rR
  obtain ⟨gR, hgR⟩ : ∃ gR, W.heap.size = gR := ⟨_, rfl⟩
  have RF1 := Lib.hid (RF.out.to b1)
  have BL1 := Lib.hid (BL.out.trans (b1.mono BL.out.size))
  have hgfR : gf < gR := by have := RF.out.lt; omega
  rw [hgR] at rR ⊢
  have RR1 := Lib.hid rR
  clear b1 rR hw1 hgR RF BL
  (with_reducible refine (new_yes _ [false] 1 1 w1 (bool0 RR1.out) rfl (by decide) (by decide)).mono ?_)
  rintro e w2 ⟨gs, gm, rg, rc, rfl, h2, b2⟩
  have H2 := Lib.hid h2
  have RF2 := Lib.hid (RF1.out.to b2)
  have RR2 := Lib.hid (RR1.out.to b2)
  have BL2 := Lib.hid (BL1.out.trans (b2.mono BL1.out.size))
  obtain ⟨base, hbase⟩ : ∃ base, w1.heap.size = base := ⟨_, rfl⟩
  have hRb : gR < base := by have := RR1.out.lt; omega
  have HZ2 : Hid (base ≤ w2.heap.size) := Lib.hid (by rw [← hbase]; exact b2.size)
  rw [hbase] at H2
  clear h2 b2 RF1 RR1 BL1 hbase
  have flt : gf < (w2).heap.size := RF2.out.lt
  have flu : gf < (w2).heap.size + 1 := Nat.lt_succ_of_lt RF2.out.lt
  have f0 : (w2).cell? ⟨gf, 0, none⟩ = some (.bool lost) := RF2.out.cells 0
  have fz0 : (w2).frozen? ⟨gf, 0, none⟩ = false := RF2.out.frozen 0
  have f1 : (w2).cell? ⟨gf, 1, none⟩ = some (.bool twice) := RF2.out.cells 1
  have fz1 : (w2).frozen? ⟨gf, 1, none⟩ = false := RF2.out.frozen 1
  have f2 : (w2).cell? ⟨gf, 2, none⟩ = some (.int .u8 (wait : Int)) := RF2.out.cells 2
  have fz2 : (w2).frozen? ⟨gf, 2, none⟩ = false := RF2.out.frozen 2
  have f3 : (w2).cell? ⟨gf, 3, none⟩ = some (.int .u8 (again : Int)) := RF2.out.cells 3
  have fz3 : (w2).frozen? ⟨gf, 3, none⟩ = false := RF2.out.frozen 3
  have f4 : (w2).cell? ⟨gf, 4, none⟩ = some (.int .u16 (at_ : Int)) := RF2.out.cells 4
  have fz4 : (w2).frozen? ⟨gf, 4, none⟩ = false := RF2.out.frozen 4
  have f5 : (w2).cell? ⟨gf, 5, none⟩ = some (.int .u16 (turns : Int)) := RF2.out.cells 5
  have fz5 : (w2).frozen? ⟨gf, 5, none⟩ = false := RF2.out.frozen 5
  go_upto_region 8 with fail
  obtain ⟨w3, hw3⟩ : ∃ w3, (w2.setCell ⟨gf, 0, none⟩ (.bool false)).setCell ⟨gf, 1, none⟩ (.bool true) = w3 := ⟨_, rfl⟩
  have o3 : Only gf w2 w3 := by rw [← hw3]; exact ((Only.refl _ _).set _).set _
  have RF3 : Hid (RowAt w3 gf 39 (faV false true wait again at_ turns)) := Lib.hid (by rw [← hw3]; exact (RF2.out.set 0 (.bool false)).set 1 (.bool true))
  have H3 := Lib.hid (H2.out.fr (F := [gf]) (Fr.of_only o3 (by simp)) (fun x hx hm => by have h5 := (H2.out.foot_ge x hx).1; obtain rfl := List.mem_singleton.1 hm; omega))
  have RR3 := Lib.hid (RR2.out.only o3 (by omega))
  have BL3 := Lib.hid (BL2.out.trans (o3.below (by have := HGF.out; omega)))
  have HZ3 : Hid (base ≤ w3.heap.size) := Lib.hid (by rw [o3.size]; exact HZ2.out)
  have HB3 := Lib.hid ((HB.out.below BL3.out).more BL3.out.size)
  rw [hw3]
  clear hw3 o3 H2 RF2 RR2 BL2 HZ2 f0 f1 f2 f3 f4 f5 fz0 fz1 fz2 fz3 fz4 fz5 flt flu
  go_wp2_with (at_builtin; refine wpList_append_sq (f := byw) _ rfl (.tmp 33) (.tmp 34) 34 rfl (fun _ => rfl) w3.heap.size 5 i0 _ _ Try.underlying34 hif hz0 rfl hz1 hz2 (by decide) _ [] rfl (own_empty w3 5 .u8) w3.heap.size A l c n HN.out rfl (HB3.out.sq.alloc (Nat.le_refl _) _) HB3.out.nl ?c1 ?c2 ?_)
  case c1 => simp; omega
  case c2 => simp
  intro Am cm w4 om hg b4
  have b4' : Below w3.heap.size w3 w4 := (bel_alloc (Below.refl _ _) _).trans b4
  simp only [List.nil_append, HN.out] at om ⊢
  obtain ⟨gM, rfl, hgM, hgMl⟩ := own_somep om (by omega)
  have OM := Lib.hid om
  have H4 := Lib.hid (H3.out.to b4')
  have RF4 := Lib.hid (RF3.out.to b4')
  have RR4 := Lib.hid (RR3.out.to b4')
  have BL4 := Lib.hid (BL3.out.trans (b4'.mono BL3.out.size))
  have HZ4 : Hid (base ≤ w3.heap.size ∧ w3.heap.size ≤ w4.heap.size) := Lib.hid ⟨HZ3.out, b4'.size⟩
  have FT4 : Hid (∀ x, x ∈ bfoot gs gm rg [] → x < w3.heap.size) := Lib.hid (fun x hx => (H3.out.foot_ge x hx).2)
  clear om hg b4 b4' H3 RF3 RR3 BL3 HZ3 HB3
  have flt : gf < (w4).heap.size := RF4.out.lt
  have flu : gf < (w4).heap.size + 1 := Nat.lt_succ_of_lt RF4.out.lt
  have f0 : (w4).cell? ⟨gf, 0, none⟩ = some (.bool false) := RF4.out.cells 0
  have fz0 : (w4).frozen? ⟨gf, 0, none⟩ = false := RF4.out.frozen 0
  have f1 : (w4).cell? ⟨gf, 1, none⟩ = some (.bool true) := RF4.out.cells 1
  have fz1 : (w4).frozen? ⟨gf, 1, none⟩ = false := RF4.out.frozen 1
  have f2 : (w4).cell? ⟨gf, 2, none⟩ = some (.int .u8 (wait : Int)) := RF4.out.cells 2
  have fz2 : (w4).frozen? ⟨gf, 2, none⟩ = false := RF4.out.frozen 2
  have f3 : (w4).cell? ⟨gf, 3, none⟩ = some (.int .u8 (again : Int)) := RF4.out.cells 3
  have fz3 : (w4).frozen? ⟨gf, 3, none⟩ = false := RF4.out.frozen 3
  have f4 : (w4).cell? ⟨gf, 4, none⟩ = some (.int .u16 (at_ : Int)) := RF4.out.cells 4
  have fz4 : (w4).frozen? ⟨gf, 4, none⟩ = false := RF4.out.frozen 4
  have f5 : (w4).cell? ⟨gf, 5, none⟩ = some (.int .u16 (turns : Int)) := RF4.out.cells 5
  have fz5 : (w4).frozen? ⟨gf, 5, none⟩ = false := RF4.out.frozen 5
  have SEND := Lib.hid (send_more H4.out (Nat.le_trans HZ4.out.1 HZ4.out.2) 0 false l (some ⟨gM, 0, none⟩) n cm HN.out (Sq.of_own OM.out) (by simp) HB.out.u (fun _ p hp hm => by obtain rfl := Option.some.inj hp; have h5 := FT4.out _ hm; dsimp only at h5; omega) false true wait again at_ turns FIT.out.wait FIT.out.again FIT.out.at_ FIT.out.turns (by decide) (by decide))
  go_wp2_with fail
  (with_reducible refine SEND.out.mono ?_)
  rintro e w5 ⟨E5, rfl, h, f, tt, nb⟩
  rw [show sendE ⟨[false], 0, []⟩ ⟨0, false, l⟩ = 0 from sendE_yes (b := ⟨[false], 0, []⟩) (p := apP l) (by unfold Bu.right apP; exact decide_eq_true ⟨Int.le_refl 0, by show (0 : Int) < 1; decide, by show 1 ≤ l.length; rw [HN.out]; omega, by show l.length ≤ 300; rw [HN.out]; omega⟩)]
  have H5 : Hid (BusAt w5 base gs gm rg rc (ap wait again l 0) E5) := Lib.hid (by have h9 := h; rw [show sendB ⟨[false], 0, []⟩ ⟨0, false, l⟩ ⟨false, true, wait, again, at_, turns⟩ = ap wait again l 0 from ap_zero (by rw [HN.out]; omega) (by rw [HN.out]; omega)] at h9; exact h9)
  have ND5 : Hid ((byts E5).Nodup) := Lib.hid (by
    obtain ⟨new, p1, p2, _⟩ := nb.out
    exact p1.nodup_iff.2 p2)
  have hnM : ∀ x, x ∈ bfoot gs gm rg [] → x ≠ gM := fun x hx => by have h5 := FT4.out x hx; omega
  have OM5 := Lib.hid (f.own OM.out (fun p hp hm => by obtain rfl := Option.some.inj hp; exact hnM _ hm rfl))
  have FT5 : Hid (∀ x, x ∈ bfoot gs gm rg E5 → (base ≤ x ∧ x < w3.heap.size) ∨ w4.heap.size ≤ x) := Lib.hid (fun x hx => by
    rcases tt x hx with h5 | h5
    · exact .inl ⟨(H4.out.foot_ge x h5).1, FT4.out x h5⟩
    · exact .inr h5)
  have RR5 := Lib.hid (f.row RR4.out (fun hm => by have := (H4.out.foot_ge _ hm).1; omega))
  have BL5 := Lib.hid (BL4.out.trans (f.below (B := w.heap.size) (fun x hx => by have := (H4.out.foot_ge x hx).1; have := HGF.out; omega) BL4.out.size))
  have HM5 : Hid (w3.heap.size ≤ gM ∧ gM < w4.heap.size ∧ base ≤ w3.heap.size ∧ w.heap.size ≤ base) := Lib.hid ⟨hgM, hgMl, HZ4.out.1, by have := HGF.out; omega⟩
  clear h f tt nb hnM SEND OM H4 RF4 RR4 BL4 HZ4 FT4 f0 f1 f2 f3 f4 f5 fz0 fz1 fz2 fz3 fz4 fz5 flt flu hgM hgMl
  have rlt : gR < (w5).heap.size := RR5.out.lt
  have rlu : gR < (w5).heap.size + 1 := Nat.lt_succ_of_lt RR5.out.lt
  have r0 : (w5).cell? ⟨gR, 0, none⟩ = some (.bool false) := RR5.out.cells 0
  have rz0 : (w5).frozen? ⟨gR, 0, none⟩ = false := RR5.out.frozen 0
  go_upto_region 14 with fail
  obtain ⟨w6, hw6⟩ : ∃ w6, w5.setCell ⟨gR, 0, none⟩ (.bool true) = w6 := ⟨_, rfl⟩
  have o6 : Only gR w5 w6 := by rw [← hw6]; exact (Only.refl _ _).set _
  have F6 : Fr [gR] w5 w6 := Fr.of_only o6 (by simp)
  have H6 := Lib.hid (H5.out.fr F6 (fun x hx hm => by have h5 := (H5.out.foot_ge x hx).1; obtain rfl := List.mem_singleton.1 hm; omega))
  have OM6 := Lib.hid (F6.own OM5.out (fun p hp hm => by obtain rfl := Option.some.inj hp; have h5 := HM5.out; have h6 := List.mem_singleton.1 hm; dsimp only at h6; omega))
  have BL6 := Lib.hid (BL5.out.trans (o6.below (by have := HGF.out; omega)))
  rw [hw6]
  clear hw6 o6 F6 H5 OM5 BL5 RR5 r0 rz0 rlt rlu
  go_loopw [46] (fun i wr => ∃ (k : Nat) (L : List Nat), k ≤ n ∧ i = .int .i64 (k : Int) ∧ Hid (L.length = n) ∧ Hid (∀ x ∈ L, x < 256) ∧ Hid (wr.ownsRow w3.heap.size 5 1 (.slice (some ⟨gM, 0, none⟩) n cm) n (L.map byw) ∧ BusAt wr base gs gm rg rc (ap wait again l 0) E5 ∧ Below w.heap.size w wr)) (fun i _ => n - (intOf i).toNat)
  case atStart => exact ⟨0, l, by omega, rfl, HN, Lib.hid HB.out.u, Lib.hid ⟨OM6.out, H6.out, BL6.out⟩⟩
  case round =>
    rename World => wr
    obtain ⟨k, L, hk, rfl, HLL, HLU, HC⟩ := hrel
    by_cases hlt : k < n
    · obtain ⟨y, hy⟩ : ∃ y, L[k]? = some y := ⟨_, List.getElem?_eq_getElem (by rw [HLL.out]; exact hlt)⟩
      have hyl := HLU.out y (List.mem_of_getElem? hy)
      have d0 : wr.cell? ⟨gM, k, none⟩ = some (.int .u8 (y : Int)) := (HC.out.1.cellAt _ (by omega)).trans (by simp [hy])
      have f0 := HC.out.1.frozenAt k
      have hltI : (k : Int) < (n : Int) := by omega
      have h0I : (0 : Int) ≤ (k : Int) := by omega
      clear hy
      go_wp2
      go_roundw
      case rel =>
        have ho := (HC.out.1.stored k (.int .u8 (((y : Int) + 1) % 256))).1
        rw [show (Value.int .u8 (((y : Int) + 1) % 256)) = byw ((y + 1) % 256) by simp [byw], ← List.map_set] at ho
        rw [show (Value.int .u8 (((y : Int) + 1) % 256)) = byw ((y + 1) % 256) by simp [byw]]
        refine ⟨k + 1, L.set k ((y + 1) % 256), by omega, by go_num, Lib.hid (by rw [List.length_set]; exact HLL.out), Lib.hid (fun x hx => ?_), Lib.hid ⟨ho, HC.out.2.1.fr (F := [gM]) (Fr.of_only ((Only.refl gM wr).set _) (by simp)) (fun x hx hm => by have h5 := FT5.out x hx; have h6 := HM5.out; obtain rfl := List.mem_singleton.1 hm; omega), HC.out.2.2.trans ((((Only.refl gM wr).set _)).below (by have h6 := HM5.out; omega))⟩⟩
        rcases List.mem_or_eq_of_mem_set hx with h1 | h1
        · exact HLU.out x h1
        · omega
      case measure => simp [intOf]; omega
    · obtain rfl : k = n := by omega
      have H7 := Lib.hid HC.out.2.1
      have BL7 := Lib.hid HC.out.2.2
      clear HC HLL HLU H6 OM6 BL6 hlt hk
      go_upto_region 19 with fail
      go_loopw [9, 56] (fun mv i wr => ∃ (q : Nat) (E : List En), q ≤ 257 ∧ i = .int .i64 (q : Int) ∧ mv = .int .i64 ((apN wait again q : Nat) : Int) ∧ Hid (BusAt wr base gs gm rg rc (ap wait again l q) E ∧ (byts E).Nodup ∧ Below w.heap.size w wr)) (fun _ i _ => 257 - (intOf i).toNat)
      case atStart => exact ⟨0, E5, by omega, rfl, rfl, Lib.hid ⟨H7.out, ND5.out, BL7.out⟩⟩
      case round =>
        rename World => wr2
        obtain ⟨q, E, hq, rfl, rfl, HC⟩ := hrel
        by_cases hlt : q < 257
        · have hltI : (q : Int) < 257 := by omega
          go_wp2_with fail
          (with_reducible refine (tick_any HC.out.1 (by rw [ap_time]; omega) (by have := ap_len wait again l q; omega)).mono ?_)
          rintro e wt ⟨E2, A2, n2, c2, pl, rfl, h, f, cm2, hh⟩
          obtain ⟨p1, p2, p3, p4, p5⟩ := hh.out
          have h' : BusAt wt base gs gm rg rc (ap wait again l (q + 1)) E2 := by have h9 := h; rw [ap_tick] at h9; exact h9
          have hpl : pl.map Pm.p = apL wait again l q := by have h9 := p1; rw [ap_tick] at h9; exact h9
          have hall : ∀ x ∈ pl, x.p = apP l := fun x hx => apL_all x.p (by rw [← hpl]; exact List.mem_map_of_mem hx)
          have hnd := p5 HC.out.2.1
          have HCF : Hid (∀ x ∈ pl, x.g ∉ bfoot gs gm rg E2) := Lib.hid (fun x hx => came_foot h' cm2.byt hnd hx)
          have HCA : Hid (∀ (i j : Nat) (x y : Pm), pl[i]? = some x → pl[j]? = some y → i ≠ j → x.g ≠ y.g) := Lib.hid (fun i j x y hx hy hij => came_apart hnd hx hy hij)
          have HCR : Hid (∀ x ∈ pl, ∀ p, A2 = some p → p.block ≠ x.g) := Lib.hid (fun x hx p hp => by
            have h5 := cm2.own
            have h6 := (own_at_s h5 p hp).2.2
            rw [hp, h6] at h5
            exact own_ne2 h5 (cm2.byt x hx) (by decide))
          have HND2 : Hid ((byts E2).Nodup) := Lib.hid (List.nodup_append.1 hnd).2.1
          have HALL := Lib.hid hall
          have HLP : Hid (pl.length = n2) := Lib.hid cm2.len
          have HN2 : Hid (apN wait again (q + 1) = apN wait again q + n2) := Lib.hid (by rw [apL_len wait again l q, ← hpl, List.length_map, cm2.len])
          have hn2 : n2 ≤ 2 := by have h9 := apL_le wait again l q; rw [← hpl, List.length_map, cm2.len] at h9; exact h9
          have BLt := HC.out.2.2.trans (f.below (B := w.heap.size) (fun x hx => by have := (HC.out.1.foot_ge x hx).1; have := HM5.out; omega) HC.out.2.2.size)
          have H0 : Hid (BusAt wt base gs gm rg rc (ap wait again l (q + 1)) E2 ∧ wt.ownsRow base 36 3 (.slice A2 n2 c2) n2 (pl.flatMap pmF) ∧ (∀ (j : Nat) (x : Pm), 0 ≤ j → pl[j]? = some x → pmOwn wt base x) ∧ Below w.heap.size w wt) := Lib.hid ⟨h', cm2.own, fun j x _ hx => cm2.byt x (List.mem_of_getElem? hx), BLt⟩
          obtain ⟨N0, hN0⟩ : ∃ N0, apN wait again q = N0 := ⟨_, rfl⟩
          have hN0b : N0 ≤ 2 := by rw [← hN0]; unfold apN; split <;> split <;> omega
          rw [hN0] at HN2 ⊢
          clear h f cm2 hh p1 p2 p3 p4 p5 h' hpl hall hnd BLt HC hN0
          go_upto_region 21 with fail
          go_loopw [9, 61] (fun mv i ws => ∃ r : Nat, r ≤ n2 ∧ i = .int .i64 (r : Int) ∧ mv = .int .i64 ((N0 + r : Nat) : Int) ∧ Hid (BusAt ws base gs gm rg rc (ap wait again l (q + 1)) E2 ∧ ws.ownsRow base 36 3 (.slice A2 n2 c2) n2 (pl.flatMap pmF) ∧ (∀ (j : Nat) (x : Pm), r ≤ j → pl[j]? = some x → pmOwn ws base x) ∧ Below w.heap.size w ws)) (fun _ i _ => n2 - (intOf i).toNat)
          case atStart => exact ⟨0, by omega, rfl, rfl, H0⟩
          case round =>
            rename World => ws
            obtain ⟨r, hr, rfl, rfl, HS⟩ := hrel
            by_cases hlr : r < n2
            · obtain ⟨ga, oa, xa, hA2, hga, hxa, hca⟩ := (own_recs (l := pl.map Pm.pc) (by rw [pc_flat]; exact HS.out.2.1) (by rw [List.length_map]; exact HLP.out)).at_ (j := r) (by rw [List.length_map, HLP.out]; exact hlr)
              obtain rfl := hA2
              obtain ⟨x, hx⟩ : ∃ x, pl[r]? = some x := ⟨_, List.getElem?_eq_getElem (by rw [HLP.out]; exact hlr)⟩
              have hxx : xa = x.pc := by rw [List.getElem?_map, hx] at hxa; exact (Option.some.inj hxa).symm
              subst hxx
              have hxm := List.mem_of_getElem? hx
              have hxp := HALL.out x hxm
              obtain ⟨xp, xg, xc⟩ := x
              dsimp only at hxp
              subst hxp
              have d0 : ws.cell? ⟨ga, oa + r * 3, none⟩ = some (.int .i64 0) := hca 0 _ rfl
              have d1 : ws.cell? ⟨ga, oa + r * 3 + 1, none⟩ = some (.bool false) := hca 1 _ rfl
              have d2 : ws.cell? ⟨ga, oa + r * 3 + 2, none⟩ = some (.slice (some ⟨xg, 0, none⟩) k xc) := by have h9 := hca 2 _ rfl; rw [← HN.out]; exact h9
              have OX := HS.out.2.2.1 r ⟨apP l, xg, xc⟩ (Nat.le_refl _) hx
              have OX1 : Hid (ws.ownsRow base 5 1 (.slice (some ⟨xg, 0, none⟩) k xc) k (l.map byw)) := Lib.hid (by rw [← HN.out]; exact OX)
              have hlrI : (r : Int) < (n2 : Int) := by omega
              have h0I : (0 : Int) ≤ (r : Int) := by omega
              have hmany : ((N0 + r : Nat) : Int) + 1 = ((N0 + (r + 1) : Nat) : Int) := by omega
              obtain ⟨M0, hM0⟩ : ∃ M0, N0 + r = M0 := ⟨_, rfl⟩
              obtain ⟨M1, hM1⟩ : ∃ M1, N0 + (r + 1) = M1 := ⟨_, rfl⟩
              rw [hM0, hM1] at hmany
              rw [hM0]
              have HM1 := Lib.hid hM1
              have hM01 : M0 ≤ 10 := by omega
              have HX := Lib.hid hx
              clear hca hxa OX hM0 hM1 hx hxm
              go_upto_region 24 with fail
              obtain ⟨wv, hwv⟩ : ∃ wv, ws.alloc (.cells #[.int .i64 0, .bool false, .slice (some ⟨xg, 0, none⟩) k xc] 36) = wv := ⟨_, rfl⟩
              obtain ⟨gx, hgx⟩ : ∃ gx, ws.heap.size = gx := ⟨_, rfl⟩
              have bV : Below ws.heap.size ws wv := by rw [← hwv]; exact bel_alloc (Below.refl _ _) _
              have RX : Hid (RowAt wv gx 36 [.int .i64 0, .bool false, .slice (some ⟨xg, 0, none⟩) k xc]) := Lib.hid (by rw [← hwv, ← hgx]; exact RowAt.new _ _ _)
              rw [hwv, hgx]
              have OXv := Lib.hid (own_below OX1.out bV)
              have hxgl := OX1.out.lt xg rfl
              have FV : Hid (Fr [xg] ws wv) := Lib.hid (Fr.of_below _ bV)
              have BLv := Lib.hid (HS.out.2.2.2.trans (bV.mono HS.out.2.2.2.size))
              have HBv := Lib.hid ((HB.out.below BLv.out).more BLv.out.size)
              have hxgx : xg < gx := by omega
              have hxgb : base ≤ xg := hxgl.1
              clear hwv hgx bV d0 d1 d2 hxgl OX1 hlrI
              have zlt : gx < (wv).heap.size := RX.out.lt
              have zlu : gx < (wv).heap.size + 1 := Nat.lt_succ_of_lt RX.out.lt
              have z0 : (wv).cell? ⟨gx, 0, none⟩ = some (.int .i64 0) := RX.out.cells 0
              have zz0 : (wv).frozen? ⟨gx, 0, none⟩ = false := RX.out.frozen 0
              have z1 : (wv).cell? ⟨gx, 1, none⟩ = some (.bool false) := RX.out.cells 1
              have zz1 : (wv).frozen? ⟨gx, 1, none⟩ = false := RX.out.frozen 1
              have z2 : (wv).cell? ⟨gx, 2, none⟩ = some (.slice (some ⟨xg, 0, none⟩) k xc) := RX.out.cells 2
              have zz2 : (wv).frozen? ⟨gx, 2, none⟩ = false := RX.out.frozen 2
              go_wp2_with fail
              (with_reducible refine (same_by (some ⟨xg, 0, none⟩) A l l xc c k k true wv HN.out HN.out (Sq.of_own OXv.out) HBv.out.sq HB.out.u HB.out.u (by simp)).mono ?_)
              rintro e wv2 ⟨rfl, rfl⟩
              go_upto_region 27 with fail
              clear z0 z1 z2 zz0 zz1 zz2 zlt zlu
              go_loopw [75] (fun i wl => ∃ (j : Nat) (L : List Nat), j ≤ k ∧ i = .int .i64 (j : Int) ∧ Hid (L.length = k) ∧ Hid (∀ y ∈ L, y < 256) ∧ Hid (wl.ownsRow base 5 1 (.slice (some ⟨xg, 0, none⟩) k xc) k (L.map byw) ∧ Fr [xg] wv wl)) (fun i _ => k - (intOf i).toNat)
              case atStart => exact ⟨0, l, by omega, rfl, HN, Lib.hid HB.out.u, Lib.hid ⟨OXv.out, Fr.refl _ _⟩⟩
              case round =>
                rename World => wl
                obtain ⟨j, L, hj, rfl, HLL, HLU, HC⟩ := hrel
                by_cases hlj : j < k
                · obtain ⟨y, hy⟩ : ∃ y, L[j]? = some y := ⟨_, List.getElem?_eq_getElem (by rw [HLL.out]; exact hlj)⟩
                  have hyl := HLU.out y (List.mem_of_getElem? hy)
                  have d0 : wl.cell? ⟨xg, j, none⟩ = some (.int .u8 (y : Int)) := (HC.out.1.cellAt _ (by omega)).trans (by simp [hy])
                  have f0 := HC.out.1.frozenAt j
                  have hljI : (j : Int) < (k : Int) := by omega
                  have h0j : (0 : Int) ≤ (j : Int) := by omega
                  have RXl : Hid (RowAt wl gx 36 [.int .i64 0, .bool false, .slice (some ⟨xg, 0, none⟩) k xc]) := Lib.hid (HC.out.2.row RX.out (fun hm => by have h9 := List.mem_singleton.1 hm; omega))
                  have zlt : gx < (wl).heap.size := RXl.out.lt
                  have zlu : gx < (wl).heap.size + 1 := Nat.lt_succ_of_lt RXl.out.lt
                  have z0 : (wl).cell? ⟨gx, 0, none⟩ = some (.int .i64 0) := RXl.out.cells 0
                  have zz0 : (wl).frozen? ⟨gx, 0, none⟩ = false := RXl.out.frozen 0
                  have z1 : (wl).cell? ⟨gx, 1, none⟩ = some (.bool false) := RXl.out.cells 1
                  have zz1 : (wl).frozen? ⟨gx, 1, none⟩ = false := RXl.out.frozen 1
                  have z2 : (wl).cell? ⟨gx, 2, none⟩ = some (.slice (some ⟨xg, 0, none⟩) k xc) := RXl.out.cells 2
                  have zz2 : (wl).frozen? ⟨gx, 2, none⟩ = false := RXl.out.frozen 2
                  clear hy
                  go_wp2
                  go_roundw
                  case rel =>
                    have ho := (HC.out.1.stored j (.int .u8 (((y : Int) + 1) % 256))).1
                    rw [show (Value.int .u8 (((y : Int) + 1) % 256)) = byw ((y + 1) % 256) by simp [byw], ← List.map_set] at ho
                    rw [show (Value.int .u8 (((y : Int) + 1) % 256)) = byw ((y + 1) % 256) by simp [byw]]
                    refine ⟨j + 1, L.set j ((y + 1) % 256), by omega, by go_num, Lib.hid (by rw [List.length_set]; exact HLL.out), Lib.hid (fun x hx => ?_), Lib.hid ⟨ho, HC.out.2.trans (F' := [xg]) (Fr.of_only ((Only.refl xg wl).set _) (by simp)) (fun _ h => .inl h)⟩⟩
                    rcases List.mem_or_eq_of_mem_set hx with h1 | h1
                    · exact HLU.out x h1
                    · omega
                  case measure => simp [intOf]; omega
                · obtain rfl : j = k := by omega
                  have FW := Lib.hid (FV.out.trans (F' := [xg]) HC.out.2 (fun _ h => .inl h))
                  have hxmem := List.mem_of_getElem? HX.out
                  have HSN : Hid (BusAt wl base gs gm rg rc (ap wait again l (q + 1)) E2 ∧ wl.ownsRow base 36 3 (.slice (some ⟨ga, oa, none⟩) n2 c2) n2 (pl.flatMap pmF) ∧ (∀ (j : Nat) (x : Pm), r + 1 ≤ j → pl[j]? = some x → pmOwn wl base x) ∧ Below w.heap.size w wl) := Lib.hid ⟨HS.out.1.fr FW.out (fun x hx hm => by obtain rfl := List.mem_singleton.1 hm; exact HCF.out _ hxmem hx), FW.out.own HS.out.2.1 (fun p hp hm => HCR.out _ hxmem p hp (List.mem_singleton.1 hm)), fun j x hj hx => FW.out.own (HS.out.2.2.1 j x (by omega) hx) (fun p hp hm => by obtain rfl := Option.some.inj hp; exact HCA.out j r x _ hx HX.out (by omega) (List.mem_singleton.1 hm)), HS.out.2.2.2.trans (FW.out.below (B := w.heap.size) (fun x hx => by obtain rfl := List.mem_singleton.1 hx; have h9 := HM5.out; omega) HS.out.2.2.2.size)⟩
                  clear HC HLL HLU HS FW hxmem hlj hj
                  go_wp2
                  go_roundw
                  case rel => exact ⟨r + 1, by omega, by go_num, by rw [HM1.out], HSN⟩
                  case measure => simp [intOf]; omega
            · obtain rfl : r = n2 := by omega
              have H9 := Lib.hid HS.out.1
              have B9 := Lib.hid HS.out.2.2.2
              clear HS H0
              go_wp2
              go_roundw
              case rel => exact ⟨q + 1, E2, by omega, by go_num, by rw [HN2.out], Lib.hid ⟨H9.out, HND2.out, B9.out⟩⟩
              case measure => simp [intOf]; omega
        · obtain rfl : q = 257 := by omega
          have BL := Lib.hid HC.out.2.2
          have hap : ((apN wait again 257 : Nat) : Int) = 2 := by rw [apN_end FIT.out.wait FIT.out.again]; rfl
          rw [hap]
          clear HC hap
          go_wp2_with fail
          (with_reducible refine (awake_any _).mono ?_)
          rintro e wx ⟨rfl, bx⟩
          have BX := Lib.hid (BL.out.trans (bx.mono BL.out.size))
          clear bx
          go_wp2
          go_ret
          exact ⟨rfl, BX.out⟩
end Go.Proofs.Ythigkmoilfdciaa
