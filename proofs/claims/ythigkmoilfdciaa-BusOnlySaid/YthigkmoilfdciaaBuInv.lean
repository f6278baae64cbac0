/- Layer 11: inverted. -/
import Derived.Test.YthigkmoilfdciaaBuFn
import Derived.StillTailTactics
import Derived.Laws.BitsAllLaws
import Derived.IntWalk
namespace Go.Proofs.Ythigkmoilfdciaa
open Go.RowKit
set_option linter.unusedVariables false
set_option linter.unusedSimpArgs false
attribute [local go_sem] Later.cell Later.frozen setCell_twice
theorem mod_small {z : Nat} (h : z < 256) : (z : Int) % 256 = (z : Int) := by omega
theorem and_one {turns k : Nat} (h : turns < 65536) : (bits .and .u16 ((turns : Int) / 2 ^ k) 1 == 1) = turns.testBit k := by
  have h1 : ((turns : Int) / 2 ^ k) = ((turns / 2 ^ k : Nat) : Int) := by simp
  have h2 : turns / 2 ^ k < 65536 := Nat.lt_of_le_of_lt (Nat.div_le_self _ _) h
  have h3 := u16_and_nat (turns / 2 ^ k) 1 h2 (by decide)
  rw [h1, show (1 : Int) = ((1 : Nat) : Int) from rfl, h3, Nat.testBit_eq_decide_div_mod_eq, Nat.and_one_is_mod]
  by_cases hh : turns / 2 ^ k % 2 = 1
  · rw [hh]; simp
  · have : turns / 2 ^ k % 2 = 0 := by omega
    rw [this]; simp
abbrev faV (lost twice : Bool) (wait again at_ turns : Nat) : List Value := [.bool lost, .bool twice, .int .u8 (wait : Int), .int .u8 (again : Int), .int .u16 (at_ : Int), .int .u16 (turns : Int)]
abbrev faF (f : Fa) : List Value := faV f.lost f.twice f.wait f.again f.at_ f.turns
set_option maxRecDepth 100000 in
set_option maxHeartbeats 1000000 in
theorem inverted_any (s : Int) (up : Bool) (l : List Nat) (A : Option Addr) (m c : Nat) (lost twice : Bool) (wait again at_ turns : Nat) (w : World) (hm : l.length = m) (h : Sq byw w w.heap.size A l) (hl : m ≤ 300) (hl1 : 1 ≤ m) (hnl : A = none → c = 0) (hu : ∀ x ∈ l, x < 256) (hat : at_ < 65536) (htu : turns < 65536) :
    Calls Try.prog 27 #[.agg (pmV s up A m c).toArray, .agg (faV lost twice wait again at_ turns).toArray, .func (.func 28) #[] #[]] w (CopP ⟨s, up, Bu.turned l at_ turns⟩ w) := by
  have HM := Lib.hid hm
  have H := Lib.hid h
  have HU := Lib.hid hu
  clear hm h hu
  go_enter Try.func27, Try.ntmps27
  go_wp2_with fail
  obtain ⟨W, hW⟩ : ∃ W, ((w.alloc (.cells (pmV s up A m c).toArray 71)).alloc (.cells (faV lost twice wait again at_ turns).toArray 39)).alloc (.cells #[.int .i64 0, .bool false, .slice none 0 0] 71) = W := ⟨_, rfl⟩
  obtain ⟨g1, hg1⟩ : ∃ g1, w.heap.size = g1 := ⟨_, rfl⟩
  obtain ⟨g2, hg2⟩ : ∃ g2, g1 + 1 = g2 := ⟨_, rfl⟩
  obtain ⟨g3, hg3⟩ : ∃ g3, g1 + 1 + 1 = g3 := ⟨_, rfl⟩
  have h12 : g1 < g2 := by omega
  have h23 : g2 < g3 := by omega
  rw [hg1, hg3, hg2]
  have R1 : Hid (RowAt W g1 71 (pmV s up A m c)) := Lib.hid (by rw [← hW, ← hg1]; exact ((RowAt.new w _ _).alloc _).alloc _)
  have R2 : Hid (RowAt W g2 39 (faV lost twice wait again at_ turns)) := Lib.hid (by rw [← hW]; exact (RowAt.new' _ _ _ _ (by simp; omega)).alloc _)
  have R3 : Hid (RowAt W g3 71 (pmV 0 false none 0 0)) := Lib.hid (by rw [← hW]; exact RowAt.new' _ _ _ _ (by simp; omega))
  have bW : Below w.heap.size w W := by rw [← hW]; exact bel_alloc (bel_alloc (bel_alloc (Below.refl _ _) _) _) _
  have HG1 := Lib.hid hg1
  rw [hW]
  have hWs := bW.size
  clear hW hg1 hg2 hg3
  refine (copied_any s up l A m c W HM.out ((H.out.below bW).more bW.size) (by omega) hnl).mono ?_
  rintro e w1 ⟨A1, c1, rfl, o1, b1⟩
  rw [HM.out] at o1 ⊢
  obtain ⟨gb, rfl, hgb, hgbl⟩ := own_somep o1 (by omega)
  have RA := Lib.hid (R1.out.to b1)
  have RB := Lib.hid (R2.out.to b1)
  have RC := Lib.hid (R3.out.to b1)
  have O1 := Lib.hid o1
  have B1 := Lib.hid (bW.trans (b1.mono bW.size))
  have h3W : g3 < W.heap.size := R3.out.lt
  clear o1 b1 bW R1 R2 R3
  have dlt : g1 < (w1).heap.size := RA.out.lt
  have dlu : g1 < (w1).heap.size + 1 := Nat.lt_succ_of_lt RA.out.lt
  have d0 : (w1).cell? ⟨g1, 0, none⟩ = some (.int .i64 s) := RA.out.cells 0
  have dz0 : (w1).frozen? ⟨g1, 0, none⟩ = false := RA.out.frozen 0
  have d1 : (w1).cell? ⟨g1, 1, none⟩ = some (.bool up) := RA.out.cells 1
  have dz1 : (w1).frozen? ⟨g1, 1, none⟩ = false := RA.out.frozen 1
  have d2 : (w1).cell? ⟨g1, 2, none⟩ = some (.slice A m c) := RA.out.cells 2
  have dz2 : (w1).frozen? ⟨g1, 2, none⟩ = false := RA.out.frozen 2
  go_upto_region 2 with fail
  obtain ⟨w2, hw2⟩ : ∃ w2, ((w1.setCell ⟨g1, 0, none⟩ (.int .i64 s)).setCell ⟨g1, 1, none⟩ (.bool up)).setCell ⟨g1, 2, none⟩ (.slice (some ⟨gb, 0, none⟩) m c1) = w2 := ⟨_, rfl⟩
  have o2 : Only g1 w1 w2 := by rw [← hw2]; exact (((Only.refl _ _).set _).set _).set _
  have RA2 : Hid (RowAt w2 g1 71 (pmV s up (some ⟨gb, 0, none⟩) m c1)) := Lib.hid (by rw [← hw2]; exact ((RA.out.set 0 (.int .i64 s)).set 1 (.bool up)).set 2 (.slice (some ⟨gb, 0, none⟩) m c1))
  have RB2 := Lib.hid (RB.out.only o2 (by omega))
  have RC2 := Lib.hid (RC.out.only o2 (by omega))
  have O2 : Hid (w2.ownsRow W.heap.size 5 1 (.slice (some ⟨gb, 0, none⟩) m c1) m (l.map byw)) := Lib.hid (o2.own O1.out (by omega))
  have B2 := Lib.hid (B1.out.trans (o2.below (by have := HG1.out; omega)))
  rw [hw2]
  clear hw2 o2 d0 d1 d2 dz0 dz1 dz2 dlt dlu RA RB RC O1 B1
  obtain ⟨f, hf⟩ : ∃ f, at_ % (8 * m) = f := ⟨_, rfl⟩
  have hfl : f < 8 * m := by rw [← hf]; exact Nat.mod_lt _ (by omega)
  have hfI : (at_ : Int) % (8 * (m : Int)) = (f : Int) := by rw [← hf]; simp
  have HF := Lib.hid hf
  clear hf
  have dlt : g1 < (w2).heap.size := RA2.out.lt
  have dlu : g1 < (w2).heap.size + 1 := Nat.lt_succ_of_lt RA2.out.lt
  have d0 : (w2).cell? ⟨g1, 0, none⟩ = some (.int .i64 s) := RA2.out.cells 0
  have dz0 : (w2).frozen? ⟨g1, 0, none⟩ = false := RA2.out.frozen 0
  have d1 : (w2).cell? ⟨g1, 1, none⟩ = some (.bool up) := RA2.out.cells 1
  have dz1 : (w2).frozen? ⟨g1, 1, none⟩ = false := RA2.out.frozen 1
  have d2 : (w2).cell? ⟨g1, 2, none⟩ = some (.slice (some ⟨gb, 0, none⟩) m c1) := RA2.out.cells 2
  have dz2 : (w2).frozen? ⟨g1, 2, none⟩ = false := RA2.out.frozen 2
  have flt : g2 < (w2).heap.size := RB2.out.lt
  have flu : g2 < (w2).heap.size + 1 := Nat.lt_succ_of_lt RB2.out.lt
  have f0 : (w2).cell? ⟨g2, 0, none⟩ = some (.bool lost) := RB2.out.cells 0
  have fz0 : (w2).frozen? ⟨g2, 0, none⟩ = false := RB2.out.frozen 0
  have f1 : (w2).cell? ⟨g2, 1, none⟩ = some (.bool twice) := RB2.out.cells 1
  have fz1 : (w2).frozen? ⟨g2, 1, none⟩ = false := RB2.out.frozen 1
  have f2 : (w2).cell? ⟨g2, 2, none⟩ = some (.int .u8 (wait : Int)) := RB2.out.cells 2
  have fz2 : (w2).frozen? ⟨g2, 2, none⟩ = false := RB2.out.frozen 2
  have f3 : (w2).cell? ⟨g2, 3, none⟩ = some (.int .u8 (again : Int)) := RB2.out.cells 3
  have fz3 : (w2).frozen? ⟨g2, 3, none⟩ = false := RB2.out.frozen 3
  have f4 : (w2).cell? ⟨g2, 4, none⟩ = some (.int .u16 (at_ : Int)) := RB2.out.cells 4
  have fz4 : (w2).frozen? ⟨g2, 4, none⟩ = false := RB2.out.frozen 4
  have f5 : (w2).cell? ⟨g2, 5, none⟩ = some (.int .u16 (turns : Int)) := RB2.out.cells 5
  have fz5 : (w2).frozen? ⟨g2, 5, none⟩ = false := RB2.out.frozen 5
  go_wp2
  clear d0 d1 d2 dz0 dz1 dz2 dlt dlu f0 f1 f2 f3 f4 f5 fz0 fz1 fz2 fz3 fz4 fz5 flt flu
  rw [hfI]
  clear hfI
  go_loopw [23] (fun i wr => ∃ k : Nat, k ≤ 16 ∧ i = .int .i64 (k : Int) ∧ Hid (RowAt wr g1 71 (pmV s up (some ⟨gb, 0, none⟩) m c1) ∧ RowAt wr g2 39 (faV lost twice wait again at_ turns) ∧ RowAt wr g3 71 (pmV 0 false none 0 0) ∧ wr.ownsRow W.heap.size 5 1 (.slice (some ⟨gb, 0, none⟩) m c1) m ((Bu.turn (Bu.tset f turns k) l).map byw) ∧ Below w.heap.size w wr)) (fun i _ => 16 - (intOf i).toNat)
  case atStart => exact ⟨0, by omega, rfl, Lib.hid ⟨RA2.out, RB2.out, RC2.out, by rw [Bu.tset_zero, Bu.turn_none]; exact O2.out, B2.out⟩⟩
  case round =>
    rename World => wr
    obtain ⟨k, hk, rfl, hh⟩ := hrel
    have RA := Lib.hid hh.out.1
    have RB := Lib.hid hh.out.2.1
    have RC := Lib.hid hh.out.2.2.1
    have OW := Lib.hid hh.out.2.2.2.1
    have BE := Lib.hid hh.out.2.2.2.2
    clear hh RA2 RB2 RC2 O2 B2
    have dlt : g1 < (wr).heap.size := RA.out.lt
    have dlu : g1 < (wr).heap.size + 1 := Nat.lt_succ_of_lt RA.out.lt
    have d0 : (wr).cell? ⟨g1, 0, none⟩ = some (.int .i64 s) := RA.out.cells 0
    have dz0 : (wr).frozen? ⟨g1, 0, none⟩ = false := RA.out.frozen 0
    have d1 : (wr).cell? ⟨g1, 1, none⟩ = some (.bool up) := RA.out.cells 1
    have dz1 : (wr).frozen? ⟨g1, 1, none⟩ = false := RA.out.frozen 1
    have d2 : (wr).cell? ⟨g1, 2, none⟩ = some (.slice (some ⟨gb, 0, none⟩) m c1) := RA.out.cells 2
    have dz2 : (wr).frozen? ⟨g1, 2, none⟩ = false := RA.out.frozen 2
    have flt : g2 < (wr).heap.size := RB.out.lt
    have flu : g2 < (wr).heap.size + 1 := Nat.lt_succ_of_lt RB.out.lt
    have f0 : (wr).cell? ⟨g2, 0, none⟩ = some (.bool lost) := RB.out.cells 0
    have fz0 : (wr).frozen? ⟨g2, 0, none⟩ = false := RB.out.frozen 0
    have f1 : (wr).cell? ⟨g2, 1, none⟩ = some (.bool twice) := RB.out.cells 1
    have fz1 : (wr).frozen? ⟨g2, 1, none⟩ = false := RB.out.frozen 1
    have f2 : (wr).cell? ⟨g2, 2, none⟩ = some (.int .u8 (wait : Int)) := RB.out.cells 2
    have fz2 : (wr).frozen? ⟨g2, 2, none⟩ = false := RB.out.frozen 2
    have f3 : (wr).cell? ⟨g2, 3, none⟩ = some (.int .u8 (again : Int)) := RB.out.cells 3
    have fz3 : (wr).frozen? ⟨g2, 3, none⟩ = false := RB.out.frozen 3
    have f4 : (wr).cell? ⟨g2, 4, none⟩ = some (.int .u16 (at_ : Int)) := RB.out.cells 4
    have fz4 : (wr).frozen? ⟨g2, 4, none⟩ = false := RB.out.frozen 4
    have f5 : (wr).cell? ⟨g2, 5, none⟩ = some (.int .u16 (turns : Int)) := RB.out.cells 5
    have fz5 : (wr).frozen? ⟨g2, 5, none⟩ = false := RB.out.frozen 5
    by_cases hlt : k < 16
    · have hltI : (k : Int) < 16 := by omega
      obtain ⟨tb, htb⟩ : ∃ tb, turns.testBit k = tb := ⟨_, rfl⟩
      have gb1 : (bits .and .u16 ((turns : Int) / 2 ^ k) 1 == 1) = tb := (and_one htu).trans htb
      have HTB := Lib.hid htb
      clear htb
      cases tb
      · have HSK : Hid (Bu.turn (Bu.tset f turns (k + 1)) l = Bu.turn (Bu.tset f turns k) l) := Lib.hid (Bu.turn_skip (.inl HTB.out))
        go_wp2
        go_roundw
        case rel => exact ⟨k + 1, by omega, by go_num, Lib.hid ⟨RA.out, RB.out, RC.out, by rw [HSK.out]; exact OW.out, BE.out⟩⟩
        case measure => simp [intOf]; omega
      · by_cases hin : f + k < 8 * m
        · have hinI : (f : Int) + (k : Int) < 8 * (m : Int) := by omega
          obtain ⟨q, hq⟩ : ∃ q, (f + k) / 8 = q := ⟨_, rfl⟩
          obtain ⟨r, hr⟩ : ∃ r, (f + k) % 8 = r := ⟨_, rfl⟩
          have hqm : q < m := by omega
          have hqI : ((f : Int) + (k : Int)) / 8 = (q : Int) := by omega
          have hrI : ((f : Int) + (k : Int)) % 8 = (r : Int) := by omega
          have hr8 : r < 8 := by omega
          have hqW : IntKind.i64.wrap (((f : Int) + (k : Int)).tdiv 8) = (q : Int) := by rw [Int.tdiv_eq_ediv_of_nonneg (by omega), hqI]; exact IntWalk.i64_in _ (by omega)
          have hrW : IntKind.i64.wrap (((f : Int) + (k : Int)).tmod 8) = (r : Int) := by rw [Int.tmod_eq_emod_of_nonneg (by omega), hrI]; exact IntWalk.i64_in _ (by omega)
          have hrW2 : ((f : Int) + (k : Int)).tmod 8 = (r : Int) := by rw [Int.tmod_eq_emod_of_nonneg (by omega), hrI]
          obtain ⟨bx, hbx⟩ : ∃ bx, (Bu.turn (Bu.tset f turns k) l)[q]? = some bx := ⟨_, List.getElem?_eq_getElem (by rw [Bu.turn_length, HM.out]; exact hqm)⟩
          have hcell : wr.cell? ⟨gb, q, none⟩ = some (.int .u8 (bx : Int)) := by
            rw [OW.out.cellAt q (by omega), List.getElem?_map, hbx]; rfl
          have hcz : wr.frozen? ⟨gb, q, none⟩ = false := by
            rcases OW.out.2 with ⟨h1, _⟩ | ⟨g', cap, cur, hv, _, hh, _⟩
            · cases h1
            · obtain ⟨rfl, _⟩ : gb = g' ∧ c1 = cap := by simpa using hv
              simp [World.frozen?, hh]
          have HBT : Hid (Bu.turn (Bu.tset f turns (k + 1)) l = (Bu.turn (Bu.tset f turns k) l).set q (bx ^^^ 2 ^ r)) := Lib.hid (by
            have := Bu.turn_bit (b := l) (f := f) (turns := turns) (m := k) (x := bx) HTB.out (by rw [hq]; exact hbx)
            rw [this, hq, hr])
          have HXV : Hid (bits .xor .u8 (bx : Int) ((2 : Int) ^ r % 256) = ((bx ^^^ 2 ^ r : Nat) : Int)) := Lib.hid (by
            have h2 : 2 ^ r < 256 := Nat.pow_lt_pow_right (m := r) (n := 8) (by decide) hr8
            have hb : bx < 256 := Bu.turn_u HU.out bx (List.mem_of_getElem? hbx)
            have h3 : ((2 : Int) ^ r) = ((2 ^ r : Nat) : Int) := by simp
            have h4 : ((2 ^ r : Nat) : Int) % 256 = ((2 ^ r : Nat) : Int) := mod_small h2
            rw [h3, h4]
            exact u8_xor_nat bx (2 ^ r) hb h2)
          have hqmI : (q : Int) < (m : Int) := by omega
          have h0q : (0 : Int) ≤ (q : Int) := by omega
          have hgbw : gb < wr.heap.size := (OW.out.lt gb rfl).2
          clear hq hr hbx
          go_upto_region 9 with fail
          go_still_tail 11, (by kernel_rfl)
          change wpList _ _ _ _ _ wr.drew
          have hcz2 : wr.drew.frozen? ⟨gb, q, none⟩ = false := hcz
          go_wp2
          go_roundw
          case rel =>
            rw [HXV.out]
            have hO : Only gb wr (wr.setCell ⟨gb, q, none⟩ (.int .u8 ((bx ^^^ 2 ^ r : Nat) : Int))).drew := ((Only.refl gb wr).set _).drew
            refine ⟨k + 1, by omega, by go_num, Lib.hid ⟨RA.out.only hO (by omega), RB.out.only hO (by omega), RC.out.only hO (by omega), ?_, BE.out.trans (hO.below (by omega))⟩⟩
            have hst := (OW.out.stored q (.int .u8 ((bx ^^^ 2 ^ r : Nat) : Int))).1
            rw [HBT.out, List.map_set]
            exact hst
          case measure => simp [intOf]; omega
        · have hinI : ¬ (f : Int) + (k : Int) < 8 * (m : Int) := by omega
          have HSK : Hid (Bu.turn (Bu.tset f turns (k + 1)) l = Bu.turn (Bu.tset f turns k) l) := Lib.hid (Bu.turn_skip (.inr (by rw [HM.out]; omega)))
          go_wp2
          go_roundw
          case rel => exact ⟨k + 1, by omega, by go_num, Lib.hid ⟨RA.out, RB.out, RC.out, by rw [HSK.out]; exact OW.out, BE.out⟩⟩
          case measure => simp [intOf]; omega
    · obtain rfl : k = 16 := by omega
      have elt : g3 < (wr).heap.size := RC.out.lt
      have elu : g3 < (wr).heap.size + 1 := Nat.lt_succ_of_lt RC.out.lt
      have e0 : (wr).cell? ⟨g3, 0, none⟩ = some (.int .i64 0) := RC.out.cells 0
      have ez0 : (wr).frozen? ⟨g3, 0, none⟩ = false := RC.out.frozen 0
      have e1 : (wr).cell? ⟨g3, 1, none⟩ = some (.bool false) := RC.out.cells 1
      have ez1 : (wr).frozen? ⟨g3, 1, none⟩ = false := RC.out.frozen 1
      have e2 : (wr).cell? ⟨g3, 2, none⟩ = some (.slice none 0 0) := RC.out.cells 2
      have ez2 : (wr).frozen? ⟨g3, 2, none⟩ = false := RC.out.frozen 2
      have o3 := (((Only.refl g3 wr).set (i := 0) (.int .i64 s)).set (i := 1) (.bool up)).set (i := 2) (.slice (some ⟨gb, 0, none⟩) m c1)
      have HT : Hid (Bu.turn (Bu.tset f turns 16) l = Bu.turned l at_ turns) := Lib.hid (by unfold Bu.turned; rw [HM.out, HF.out])
      have HTL : Hid ((Bu.turned l at_ turns).length = m) := Lib.hid (by rw [Bu.turned_length, HM.out])
      have h13 : g1 ≠ g3 := by omega
      go_wp2
      refine bodyPost_ret (v := .agg (pmV s up (some ⟨gb, 0, none⟩) m c1).toArray) (by simp [results, Try.results27, go_sem, *]) rfl ⟨some ⟨gb, 0, none⟩, c1, by rw [HTL.out], ?_, BE.out.trans (o3.below (by have := HG1.out; omega))⟩
      rw [HTL.out, ← HT.out]
      exact own_more (o3.own OW.out (by omega)) hWs
end Go.Proofs.Ythigkmoilfdciaa
