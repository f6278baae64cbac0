/- Layer 11: the reference's Tick. -/
import Derived.Test.YthigkmoilfdciaaBuRfK
namespace Go.Proofs.Ythigkmoilfdciaa
open Go.RowKit
set_option linter.unusedVariables false
set_option linter.unusedSimpArgs false
attribute [local go_sem] Later.cell Later.frozen setCell_twice
theorem ftake_yes {α : Type} {l : List α} {k : Nat} {x : α} {q : α → Bool} (h : l[k]? = some x) (hq : q x = true) : (l.take (k + 1)).filter q = (l.take k).filter q ++ [x] := by
  rw [List.take_add_one, h, List.filter_append]
  simp [hq]
theorem ftake_no {α : Type} {l : List α} {k : Nat} {x : α} {q : α → Bool} (h : l[k]? = some x) (hq : q x = false) : (l.take (k + 1)).filter q = (l.take k).filter q := by
  rw [List.take_add_one, h, List.filter_append]
  simp [hq]
/-- what Tick hands back -/
def RTickP (w : World) (A0 : Option Addr) (c0 : Nat) (b : Bu) (Aw0 : Option Addr) (l0 : List Wy) (e : Ending) (w' : World) : Prop :=
  ∃ Aw nw cw l Ao no co lo, e = .returned (.tuple #[.agg (rbC A0 b.rtu.length c0 ((b.time + 1 : Nat) : Int) Aw nw cw).toArray, .slice Ao no co]) ∧ RBus w' A0 b.tick.1 Aw nw cw l ∧ Pcs w' w'.heap.size Ao lo ∧ lo.length = no ∧ Hid (pars lo = b.tick.2) ∧ Below w.heap.size w w' ∧ Hid (∀ F : List Nat, (∀ x ∈ F, x < w.heap.size) → WOff F Aw0 l0 → WOff F Aw l ∧ POff F Ao lo)
set_option maxRecDepth 100000 in
set_option maxHeartbeats 2000000 in
theorem rtick_any (w : World) {A0 : Option Addr} {b : Bu} {Aw : Option Addr} {nw cw c0 : Nat} {l : List Wy} (h : RBus w A0 b Aw nw cw l) (hn : nw ≤ 100000) (ht : b.time ≤ 100000) :
    Calls Try.prog 11 #[.agg (rbC A0 b.rtu.length c0 (b.time : Int) Aw nw cw).toArray] w (RTickP w A0 c0 b Aw l) := by
  obtain ⟨iP, hifP, hp0, hp1, hp2⟩ := info_parts info_parcel
  obtain ⟨iW, hifW, hw0_, hw1_, hw2_⟩ := info_parts info_way
  obtain ⟨n0, hn0⟩ : ∃ n, b.rtu.length = n := ⟨_, rfl⟩
  obtain ⟨T, hT⟩ : ∃ T, b.time + 1 = T := ⟨_, rfl⟩
  have hTI : (b.time : Int) + 1 = (T : Int) := by omega
  have HB := Lib.hid h
  have HN0 := Lib.hid hn0
  have HT := Lib.hid hT
  have hTl : T ≤ 100001 := by omega
  rw [hn0]
  clear h hn0 hT
  go_enter Try.func11, Try.ntmps11
  go_upto_region 1 with fail
  obtain ⟨w0, hw0⟩ : ∃ w_q_, w_q_ = (w.alloc (.cells (rbC A0 n0 c0 (b.time : Int) Aw nw cw).toArray 33)).alloc (.cells #[.slice none 0 0, .int .i64 0, .slice none 0 0] 33) := ⟨_, rfl⟩
  rw [← hw0]
  have hin := in_bb w (rbC A0 n0 c0 (b.time : Int) Aw nw cw) (rbC none 0 0 0 none 0 0)
  have hin2 : RowAt w0 w.heap.size 33 (rbC A0 n0 c0 (b.time : Int) Aw nw cw) ∧ RowAt w0 (w.heap.size + 1) 33 (rbC none 0 0 0 none 0 0) ∧ Below w.heap.size w w0 ∧ w.heap.size + 2 ≤ w0.heap.size := by rw [hw0]; exact hin
  obtain ⟨r1, r2, b0, z0⟩ := hin2
  have R1 := Lib.hid r1
  have R2 := Lib.hid r2
  have B0 := Lib.hid b0
  clear hw0 r1 r2 b0 hin
  have d1 : w0.cell? ⟨w.heap.size, 1, none⟩ = some (.int .i64 (b.time : Int)) := R1.out.cells 1
  have f1 := R1.out.frozen 1
  have lt1 := R1.out.lt
  go_upto_region 2 with fail
  try rw [hTI]
  obtain ⟨w1, hw1⟩ : ∃ w_q_, w_q_ = w0.setCell ⟨w.heap.size, 1, none⟩ (.int .i64 (T : Int)) := ⟨_, rfl⟩
  rw [← hw1]
  have k1 : Only w.heap.size w0 w1 := by rw [hw1]; exact (Only.refl _ _).set _
  have R3 : Hid (RowAt w1 w.heap.size 33 (rbC A0 n0 c0 (T : Int) Aw nw cw)) := Lib.hid (by rw [hw1]; exact R1.out.set 1 _)
  replace R2 := Lib.hid (R2.out.only k1 (by omega))
  replace B0 := Lib.hid (k1.to B0.out (Nat.le_refl _))
  have z1 : w.heap.size + 2 ≤ w1.heap.size := by rw [k1.size]; exact z0
  clear hw1 k1 R1 d1 f1 lt1 z0 hTI
  go_wp2
  go_loopw [4, 5, 6] (fun ov lv i wr => ∃ (k : Nat) (Ao : Option Addr) (no co : Nat) (lo : List Pc) (Al : Option Addr) (nl cl : Nat) (ll : List Wy), k ≤ nw ∧ no + nl ≤ k ∧ i = .int .i64 (k : Int) ∧ ov = .slice Ao no co ∧ lv = .slice Al nl cl ∧ Hid (lo.length = no ∧ wr.ownsRow (w.heap.size + 2) 36 3 (.slice Ao no co) no (lo.flatMap pcF)) ∧ Hid (ll.length = nl ∧ wr.ownsRow (w.heap.size + 2) 67 4 (.slice Al nl cl) nl (ll.flatMap wyF)) ∧ Hid (lo = ((l.take k).filter (fun x => decide (x.t = T))).map Wy.p ∧ ll = (l.take k).filter (fun x => decide (x.t ≠ T))) ∧ Hid (RowAt wr w.heap.size 33 (rbC A0 n0 c0 (T : Int) Aw nw cw)) ∧ Hid (RowAt wr (w.heap.size + 1) 33 (rbC none 0 0 0 none 0 0)) ∧ Hid (Below w.heap.size w wr) ∧ w.heap.size + 2 ≤ wr.heap.size) (fun _ _ i _ => nw - (intOf i).toNat)
  case atStart => exact ⟨0, none, 0, 0, [], none, 0, 0, [], by omega, by omega, rfl, rfl, rfl, Lib.hid ⟨rfl, by simpa using World.ownsRow_nil w1 _ _ _⟩, Lib.hid ⟨rfl, by simpa using World.ownsRow_nil w1 _ _ _⟩, Lib.hid ⟨rfl, rfl⟩, R3, R2, B0, z1⟩
  case round =>
    rename World => wr
    clear R3 R2 B0 z1
    obtain ⟨k, Ao, no, co, lo, Al, nl, cl, ll, hk, hnn, rfl, rfl, rfl, HO, HL, HV, R1, R2, BW, hz⟩ := hrel
    have d1 : wr.cell? ⟨w.heap.size, 1, none⟩ = some (.int .i64 (T : Int)) := R1.out.cells 1
    have d2 : wr.cell? ⟨w.heap.size, 2, none⟩ = some (.slice Aw nw cw) := R1.out.cells 2
    have lt1 := R1.out.lt
    by_cases hlt : k < nw
    · obtain ⟨bw, ow, x, rfl, hbw, hx, hcx⟩ := (HB.out.ways.rc.below BW.out).at_ (j := k) (by rw [HB.out.len]; exact hlt)
      obtain ⟨t, ⟨⟨s, up, by_⟩, XA, xc⟩⟩ := x
      have hltI : (k : Int) < (nw : Int) := by omega
      have h0I : (0 : Int) ≤ (k : Int) := by omega
      have e0 : wr.cell? ⟨bw, ow + k * 4, none⟩ = some (.int .i64 (t : Int)) := hcx 0 _ rfl
      have HX := Lib.hid hx
      have HGW : Hid (wr.rangeAt bw (ow + k * 4) [.int .i64 (t : Int), .int .i64 s, .bool up, .slice XA by_.length xc]) := Lib.hid (fun j v hv => by rw [Nat.add_assoc]; exact hcx j v hv)
      have HGP : Hid (wr.rangeAt bw (ow + k * 4 + 1) [.int .i64 s, .bool up, .slice XA by_.length xc]) := Lib.hid (fun j v hv => by
        have := hcx (1 + j) v (by rw [show (1 + j) = j + 1 by omega]; exact hv)
        rwa [show ow + (k * 4 + (1 + j)) = ow + k * 4 + 1 + j by omega] at this)
      have hlb : bw < wr.heap.size := by have := BW.out.size; omega
      clear hx hcx hbw
      go_upto_region 7 with fail
      by_cases he : t = T
      · have ge : ((t : Int) == (T : Int)) = true := by simp [he]
        have HF : Hid (((l.take (k + 1)).filter (fun x => decide (x.t = T))) = (l.take k).filter (fun x => decide (x.t = T)) ++ [⟨t, ⟨⟨s, up, by_⟩, XA, xc⟩⟩] ∧ ((l.take (k + 1)).filter (fun x => decide (x.t ≠ T))) = (l.take k).filter (fun x => decide (x.t ≠ T))) := Lib.hid ⟨ftake_yes HX.out (decide_eq_true he), ftake_no HX.out (decide_eq_false (fun z => z he))⟩
        clear he
        go_quiet (fail)
        obtain ⟨wy, hwy⟩ : ∃ wy, wr.drewN nq = wy := ⟨_, rfl⟩
        try rw [hwy]
        have hby : Below wr.heap.size wr wy := by rw [← hwy]; exact bel_drewN (Below.refl _ _) _
        replace R1 := Lib.hid (R1.out.to hby)
        replace R2 := Lib.hid (R2.out.to hby)
        replace BW := Lib.hid (BW.out.trans (hby.mono BW.out.size))
        have O1 := Lib.hid (own_below HO.out.2 hby)
        have O2 := Lib.hid (own_below HL.out.2 hby)
        replace HGW : Hid (wy.rangeAt bw (ow + k * 4) [.int .i64 (t : Int), .int .i64 s, .bool up, .slice XA by_.length xc]) := Lib.hid (fun j v hv => (hby.cell (p := ⟨bw, ow + k * 4 + j, none⟩) hlb).trans (HGW.out j v hv))
        replace HGP : Hid (wy.rangeAt bw (ow + k * 4 + 1) [.int .i64 s, .bool up, .slice XA by_.length xc]) := Lib.hid (fun j v hv => (hby.cell (p := ⟨bw, ow + k * 4 + 1 + j, none⟩) hlb).trans (HGP.out j v hv))
        have hzy : w.heap.size + 2 ≤ wy.heap.size := Nat.le_trans hz hby.size
        clear hwy hby e0 d1 d2 lt1
        have d2 : wy.cell? ⟨w.heap.size, 2, none⟩ = some (.slice (some ⟨bw, ow, none⟩) nw cw) := R1.out.cells 2
        have lt1 := R1.out.lt
        have hal : Below wy.heap.size wy (wy.alloc (.cells #[.int .i64 s, .bool up, .slice XA by_.length xc] 36)) := bel_alloc (Below.refl _ _) _
        have P1 := Lib.hid (own_below O1.out hal)
        have P2 := Lib.hid (own_below O2.out hal)
        have hz3 : w.heap.size + 2 ≤ (wy.alloc (.cells #[.int .i64 s, .bool up, .slice XA by_.length xc] 36)).heap.size := Nat.le_trans hzy hal.size
        have HAL := Lib.hid hal
        clear hal
        have LIT : Hid (Recs pcF 3 (wy.alloc (.cells #[.int .i64 s, .bool up, .slice XA by_.length xc] 36)) (wy.heap.size + 1) (some ⟨wy.heap.size, 0, none⟩) [⟨⟨s, up, by_⟩, XA, xc⟩]) := Lib.hid (Recs.lits (f := pcF) (s := 3) (fun _ => rfl) (by decide) wy _ _ _ _ _ rfl rfl (Nat.lt_succ_self _))
        go_upto_region 6 with (first | (refine wpList_load_mid rfl 36 (.tmp 32) rfl bw (ow + k * 4 + 1) rfl [.int .i64 s, .bool up, .slice XA by_.length xc] _ HGP.out Try.underlying36 rfl (by rw [size_pc]; rfl) ?_) | (at_builtin; go_loud (refine wpList_append_recs (f := pcF) (s := 3) _ rfl (.tmp 27) (.tmp 34) 42 rfl (fun _ => rfl) (by decide) parK_fine.one (w.heap.size + 2) 36 iP _ 40 Try.underlying42 hifP hp0 hp1 hp2 (by decide) rfl (.slice Ao no co) lo rfl (by rw [HO.out.1]; exact P1.out) (wy.heap.size + 1) (some ⟨wy.heap.size, 0, none⟩) [⟨⟨s, up, by_⟩, XA, xc⟩] 1 1 rfl rfl LIT.out (by simp) (by rw [HO.out.1]; omega) hz3 ?_; intro A5 c5 w5 o5 g5 b5; have O5 := Lib.hid o5; have G5 := Lib.hid g5; clear o5 g5)))
        have OL5 := Lib.hid (own_grown_w P2.out G5.out (own_ne_w P2.out P1.out (by decide)))
        have RA : Hid (RowAt w5 w.heap.size 33 (rbC A0 n0 c0 (T : Int) (some ⟨bw, ow, none⟩) nw cw)) := Lib.hid ((b5.block _ (by omega)).trans (R1.out.to HAL.out))
        have RB : Hid (RowAt w5 (w.heap.size + 1) 33 (rbC none 0 0 0 none 0 0)) := Lib.hid ((b5.block _ (by omega)).trans (R2.out.to HAL.out))
        have BE : Hid (Below w.heap.size w w5) := Lib.hid ((BW.out.trans (HAL.out.mono BW.out.size)).trans (b5.mono (by omega)))
        have hze : w.heap.size + 2 ≤ w5.heap.size := Nat.le_trans hz3 b5.size
        clear b5
        have hlen : (lo ++ [(⟨⟨s, up, by_⟩, XA, xc⟩ : Pc)]).length = no + 1 := by rw [List.length_append, HO.out.1]; rfl
        rw [hlen] at O5
        try rw [hlen]
        try rw [HO.out.1]
        have HO5 : Hid ((lo ++ [(⟨⟨s, up, by_⟩, XA, xc⟩ : Pc)]).length = no + 1 ∧ w5.ownsRow (w.heap.size + 2) 36 3 (.slice A5 (no + 1) c5) (no + 1) ((lo ++ [(⟨⟨s, up, by_⟩, XA, xc⟩ : Pc)]).flatMap pcF)) := Lib.hid ⟨hlen, O5.out⟩
        have HV5 : Hid (lo ++ [(⟨⟨s, up, by_⟩, XA, xc⟩ : Pc)] = ((l.take (k + 1)).filter (fun x => decide (x.t = T))).map Wy.p ∧ ll = (l.take (k + 1)).filter (fun x => decide (x.t ≠ T))) := Lib.hid ⟨by rw [HF.out.1, List.map_append, ← HV.out.1]; rfl, by rw [HF.out.2]; exact HV.out.2⟩
        have HL5 : Hid (ll.length = nl ∧ w5.ownsRow (w.heap.size + 2) 67 4 (.slice Al nl cl) nl (ll.flatMap wyF)) := Lib.hid ⟨HL.out.1, OL5.out⟩
        clear hlen O5 OL5 G5 P1 P2 HAL O1 O2 R1 R2 BW HGW HGP LIT HF HX d2 lt1
        go_wp2
        go_roundw
        case rel => exact ⟨k + 1, A5, no + 1, c5, lo ++ [⟨⟨s, up, by_⟩, XA, xc⟩], Al, nl, cl, ll, by omega, by omega, by go_num, rfl, rfl, HO5, HL5, HV5, RA, RB, BE, hze⟩
        case measure => simp [intOf]; omega
      · have ge : ((t : Int) == (T : Int)) = false := beq_eq_false_iff_ne.2 (by omega)
        have HF : Hid (((l.take (k + 1)).filter (fun x => decide (x.t = T))) = (l.take k).filter (fun x => decide (x.t = T)) ∧ ((l.take (k + 1)).filter (fun x => decide (x.t ≠ T))) = (l.take k).filter (fun x => decide (x.t ≠ T)) ++ [⟨t, ⟨⟨s, up, by_⟩, XA, xc⟩⟩]) := Lib.hid ⟨ftake_no HX.out (decide_eq_false he), ftake_yes HX.out (decide_eq_true he)⟩
        clear he
        go_quiet (fail)
        obtain ⟨wy, hwy⟩ : ∃ wy, wr.drewN nq = wy := ⟨_, rfl⟩
        try rw [hwy]
        have hby : Below wr.heap.size wr wy := by rw [← hwy]; exact bel_drewN (Below.refl _ _) _
        replace R1 := Lib.hid (R1.out.to hby)
        replace R2 := Lib.hid (R2.out.to hby)
        replace BW := Lib.hid (BW.out.trans (hby.mono BW.out.size))
        have O1 := Lib.hid (own_below HO.out.2 hby)
        have O2 := Lib.hid (own_below HL.out.2 hby)
        replace HGW : Hid (wy.rangeAt bw (ow + k * 4) [.int .i64 (t : Int), .int .i64 s, .bool up, .slice XA by_.length xc]) := Lib.hid (fun j v hv => (hby.cell (p := ⟨bw, ow + k * 4 + j, none⟩) hlb).trans (HGW.out j v hv))
        replace HGP : Hid (wy.rangeAt bw (ow + k * 4 + 1) [.int .i64 s, .bool up, .slice XA by_.length xc]) := Lib.hid (fun j v hv => (hby.cell (p := ⟨bw, ow + k * 4 + 1 + j, none⟩) hlb).trans (HGP.out j v hv))
        have hzy : w.heap.size + 2 ≤ wy.heap.size := Nat.le_trans hz hby.size
        clear hwy hby e0 d1 d2 lt1
        have d2 : wy.cell? ⟨w.heap.size, 2, none⟩ = some (.slice (some ⟨bw, ow, none⟩) nw cw) := R1.out.cells 2
        have lt1 := R1.out.lt
        have hal : Below wy.heap.size wy (wy.alloc (.cells #[.int .i64 (t : Int), .int .i64 s, .bool up, .slice XA by_.length xc] 67)) := bel_alloc (Below.refl _ _) _
        have P1 := Lib.hid (own_below O1.out hal)
        have P2 := Lib.hid (own_below O2.out hal)
        have hz3 : w.heap.size + 2 ≤ (wy.alloc (.cells #[.int .i64 (t : Int), .int .i64 s, .bool up, .slice XA by_.length xc] 67)).heap.size := Nat.le_trans hzy hal.size
        have HAL := Lib.hid hal
        clear hal
        have LIT : Hid (Recs wyF 4 (wy.alloc (.cells #[.int .i64 (t : Int), .int .i64 s, .bool up, .slice XA by_.length xc] 67)) (wy.heap.size + 1) (some ⟨wy.heap.size, 0, none⟩) [⟨t, ⟨⟨s, up, by_⟩, XA, xc⟩⟩]) := Lib.hid (Recs.lits (f := wyF) (s := 4) (fun _ => rfl) (by decide) wy _ _ _ _ _ rfl rfl (Nat.lt_succ_self _))
        go_upto_region 6 with (first | (refine wpList_load_mid rfl 67 (.tmp 40) rfl bw (ow + k * 4) rfl [.int .i64 (t : Int), .int .i64 s, .bool up, .slice XA by_.length xc] _ HGW.out Try.underlying67 rfl (by rw [size_way]; rfl) ?_) | (at_builtin; go_loud (refine wpList_append_recs (f := wyF) (s := 4) _ rfl (.tmp 36) (.tmp 42) 31 rfl (fun _ => rfl) (by decide) wyF_one (w.heap.size + 2) 67 iW _ 48 Try.underlying31 hifW hw0_ hw1_ hw2_ (by decide) rfl (.slice Al nl cl) ll rfl (by rw [HL.out.1]; exact P2.out) (wy.heap.size + 1) (some ⟨wy.heap.size, 0, none⟩) [⟨t, ⟨⟨s, up, by_⟩, XA, xc⟩⟩] 1 1 rfl rfl LIT.out (by simp) (by rw [HL.out.1]; omega) hz3 ?_; intro A5 c5 w5 o5 g5 b5; have O5 := Lib.hid o5; have G5 := Lib.hid g5; clear o5 g5)))
        have OO5 := Lib.hid (own_grown_w P1.out G5.out (own_ne_w P1.out P2.out (by decide)))
        have RA : Hid (RowAt w5 w.heap.size 33 (rbC A0 n0 c0 (T : Int) (some ⟨bw, ow, none⟩) nw cw)) := Lib.hid ((b5.block _ (by omega)).trans (R1.out.to HAL.out))
        have RB : Hid (RowAt w5 (w.heap.size + 1) 33 (rbC none 0 0 0 none 0 0)) := Lib.hid ((b5.block _ (by omega)).trans (R2.out.to HAL.out))
        have BE : Hid (Below w.heap.size w w5) := Lib.hid ((BW.out.trans (HAL.out.mono BW.out.size)).trans (b5.mono (by omega)))
        have hze : w.heap.size + 2 ≤ w5.heap.size := Nat.le_trans hz3 b5.size
        clear b5
        have hlen : (ll ++ [(⟨t, ⟨⟨s, up, by_⟩, XA, xc⟩⟩ : Wy)]).length = nl + 1 := by rw [List.length_append, HL.out.1]; rfl
        rw [hlen] at O5
        try rw [hlen]
        try rw [HL.out.1]
        have HL5 : Hid ((ll ++ [(⟨t, ⟨⟨s, up, by_⟩, XA, xc⟩⟩ : Wy)]).length = nl + 1 ∧ w5.ownsRow (w.heap.size + 2) 67 4 (.slice A5 (nl + 1) c5) (nl + 1) ((ll ++ [(⟨t, ⟨⟨s, up, by_⟩, XA, xc⟩⟩ : Wy)]).flatMap wyF)) := Lib.hid ⟨hlen, O5.out⟩
        have HV5 : Hid (lo = ((l.take (k + 1)).filter (fun x => decide (x.t = T))).map Wy.p ∧ ll ++ [(⟨t, ⟨⟨s, up, by_⟩, XA, xc⟩⟩ : Wy)] = (l.take (k + 1)).filter (fun x => decide (x.t ≠ T))) := Lib.hid ⟨by rw [HF.out.1]; exact HV.out.1, by rw [HF.out.2, ← HV.out.2]⟩
        have HO5 : Hid (lo.length = no ∧ w5.ownsRow (w.heap.size + 2) 36 3 (.slice Ao no co) no (lo.flatMap pcF)) := Lib.hid ⟨HO.out.1, OO5.out⟩
        clear hlen O5 OO5 G5 P1 P2 HAL O1 O2 R1 R2 BW HGW HGP LIT HF HX d2 lt1
        go_wp2
        go_roundw
        case rel => exact ⟨k + 1, Ao, no, co, lo, A5, nl + 1, c5, ll ++ [⟨t, ⟨⟨s, up, by_⟩, XA, xc⟩⟩], by omega, by omega, by go_num, rfl, rfl, HO5, HL5, HV5, RA, RB, BE, hze⟩
        case measure => simp [intOf]; omega
    · obtain rfl : k = nw := by omega
      have f2 := R1.out.frozen 2
      go_upto_region 11 with fail
      obtain ⟨w6, hw6⟩ : ∃ w_q_, w_q_ = wr.setCell ⟨w.heap.size, 2, none⟩ (.slice Al nl cl) := ⟨_, rfl⟩
      rw [← hw6]
      have k6 : Only w.heap.size wr w6 := by rw [hw6]; exact (Only.refl _ _).set _
      have R6 : Hid (RowAt w6 w.heap.size 33 (rbC A0 n0 c0 (T : Int) Al nl cl)) := Lib.hid (by rw [hw6]; exact R1.out.set 2 _)
      replace R2 := Lib.hid (R2.out.only k6 (by omega))
      replace BW := Lib.hid (k6.to BW.out (Nat.le_refl _))
      have O1 := Lib.hid (own_only_w k6 HO.out.2 (by omega))
      have O2 := Lib.hid (own_only_w k6 HL.out.2 (by omega))
      clear hw6 k6 R1 d1 d2 lt1 f2
      go_wp2_with (first | (refine wpList_load_var rfl 33 (.tmp 1) rfl w.heap.size rfl _ _ 3 R6.out Try.underlying33 rfl size_rbus rfl ?_) | (refine wpList_store_var rfl 33 (.tmp 2) (.tmp 46) rfl (w.heap.size + 1) _ (rbC A0 n0 c0 (T : Int) Al nl cl) 3 rfl rfl R2.out size_rbus rfl rfl (rbC_one _ _ _ _ _ _ _) ?_; intro w7 r7 k7; have R7 := Lib.hid r7; have K7 := Lib.hid k7; clear r7 k7))
      refine bodyPost_ret (results_cell_tmp rfl _ _ (w.heap.size + 1) 33 _ (0, 0) _ rfl R7.out Try.underlying33 rfl (by rw [size_rbus]; rfl)) rfl ?_
      have B7 := K7.out.to BW.out (by omega)
      have P1 := own_only_w K7.out O1.out (by omega)
      have P2 := own_only_w K7.out O2.out (by omega)
      have hlt : l.take k = l := List.take_of_length_le (by rw [HB.out.len]; exact Nat.le_refl _)
      have hv := HV.out
      rw [hlt] at hv
      have hW := HB.out.ways.to B7
      have hin1 : ∀ x ∈ lo, ∃ y ∈ l, x = y.p := fun x hx => by
        rw [hv.1] at hx
        obtain ⟨y, hy, rfl⟩ := List.mem_map.1 hx
        exact ⟨y, (List.mem_filter.1 hy).1, rfl⟩
      have hin2 : ∀ x ∈ ll, x ∈ l := fun x hx => by
        rw [hv.2] at hx
        exact (List.mem_filter.1 hx).1
      refine ⟨Al, nl, cl, ll, Ao, no, co, lo, by rw [← HN0.out, ← HT.out]; rfl, ⟨(HB.out.rtu.below B7).more B7.size, ⟨Recs.of_own (f := wyF) (s := 4) (fun _ => rfl) (by decide) P2, fun x hx => hW.byt x (hin2 x hx), fun x hx => hW.u x (hin2 x hx), fun x hx => hW.nl x (hin2 x hx)⟩, HL.out.1, fun e => ((own_nil_s P2).1 e).1, ?_⟩, ⟨Recs.of_own (f := pcF) (s := 3) (fun _ => rfl) (by decide) P1, fun x hx => ?_, fun x hx => ?_, fun x hx => ?_⟩, HO.out.1, Lib.hid ?_, B7, Lib.hid (fun F hF ho => ⟨⟨fun hn p hp hm => ?_, fun x hx => ho.2 x (hin2 x hx)⟩, ⟨fun hn p hp hm => ?_, fun x hx => ?_⟩⟩)⟩
      · rw [hv.2]
        unfold Bu.tick
        rw [← HB.out.val, HT.out, List.filter_map]
        rfl
      · obtain ⟨y, hy, rfl⟩ := hin1 x hx
        exact hW.byt y hy
      · obtain ⟨y, hy, rfl⟩ := hin1 x hx
        exact hW.u y hy
      · obtain ⟨y, hy, rfl⟩ := hin1 x hx
        exact hW.nl y hy
      · rw [hv.1]
        unfold Bu.tick pars
        rw [← HB.out.val, HT.out]
        dsimp only
        rw [List.filter_map, List.map_map, List.map_map]
        rfl
      · have h1 := (own_at_s P2 p hp).1
        have h2 := hF _ hm
        omega
      · have h1 := (own_at_s P1 p hp).1
        have h2 := hF _ hm
        omega
      · obtain ⟨y, hy, rfl⟩ := hin1 x hx
        exact ho.2 y hy
end Go.Proofs.Ythigkmoilfdciaa
